/- Package gantlineref03: Scan; FrameScans. -/
import Derived.Test.YtemofjaonoofhaaFrameK
namespace Go.Proofs.Ytemofjaonoofhaa
open Go Go.RowKit
set_option linter.unusedVariables false
set_option linter.unusedSimpArgs false

theorem at_all (b off n c : Nat) (xs : List UInt8) (w : World) (hA : Bytes w (some ⟨b, off, none⟩) n xs) (hc : n ≤ c) (hn : n ≤ 140737488351232) (h1 : 1 ≤ n) :
    Calls Try.prog 29 #[.slice (some ⟨b, off, none⟩) n c] w (atPost w xs) := by
  cases hh : headOk xs with
  | false => exact at_bad b off n c xs w hA h1 hn hh
  | true =>
    by_cases h4 : n < 4
    · exact at_short b off n c xs w hA h1 h4 hh
    · exact at_long b off n c xs w hA hc (by omega) hn hh
set_option maxHeartbeats 4000000 in
theorem rscan_any (A : Option Addr) (n c : Nat) (xs : List UInt8) (w : World) (hA : Bytes w A n xs) (hc : n ≤ c) (hn : n * 3 + 24 ≤ 140737488351232) :
    Calls Try.prog 16 #[.slice A n c] w fun e w' => ∃ v, e = .returned (.tuple #[v, .int .i64 ((scan xs).2 : Nat)]) ∧ Loads w' w.heap.size v (scan xs).1 ∧ Chg Pure' w w' := by
  have hl := hA.len
  have HL := Lib.hid hl
  clear hl
  go_enter Try.func16, Try.ntmps16
  go_wp2_with (fail)
  go_loopw [4, 5] (fun v i wr => ∃ (k : Nat) (ls : List (List UInt8)), k ≤ n ∧ i = .int .i64 k ∧ ls.length * 8 ≤ k ∧ Hid (Loads wr w.heap.size v ls ∧ Chg Pure' w wr ∧ (scan xs).1 = ls ++ (scan (xs.drop k)).1 ∧ (scan xs).2 = (scan (xs.drop k)).2 + k)) (fun _ i _ => n - (intOf i).toNat)
  case atStart => exact ⟨0, [], Nat.zero_le _, rfl, Nat.le_refl _, Lib.hid ⟨Loads.nil _ _, Chg.refl _ _, rfl, rfl⟩⟩
  case round =>
    obtain ⟨k, ls, hk, rfl, hlk, HS⟩ := hrel
    by_cases hlt : k < n
    · have hbl := hA.cells (by omega)
      obtain ⟨b, off, rfl, -⟩ := hbl
      have hC : Chg Pure' w wr := HS.out.2.1
      have hb : Bytes wr (some ⟨b, off + k, none⟩) (n - k) (xs.drop k) := by
        have := (hA.pure hC).part k n (by omega) (by omega)
        rwa [List.take_of_length_le (by rw [HL.out]; omega)] at this
      have s1 : (c = k) = False := eq_false (by omega)
      have s2 : (k : Int) ≤ (n : Int) := by omega
      have s3 : (k : Int) < (n : Int) := by omega
      have hne : xs.drop k ≠ [] := by intro h; have := congrArg List.length h; have := HL.out; simp at *; omega
      have HE := Lib.hid (scan_eq _ hne)
      clear hne
      go_wp2_with (fail)
      refine (at_all b (off + k) (n - k) (c - k) (xs.drop k) wr hb (by omega) (by omega) (by omega)).mono ?_
      rintro e w1 ⟨c1, hp⟩
      have C1 := hC.pure c1
      have L1 := Lib.hid (HS.out.1.pure c1)
      obtain ⟨r, hr⟩ : ∃ r, lookB (xs.drop k) = r := ⟨_, rfl⟩
      have hE := HE.out
      rw [hr] at hE hp
      have hS1 := HS.out.2.2.1
      have hS2 := HS.out.2.2.2
      cases r with
      | nothing =>
        obtain rfl := hp
        have HN : Hid (Loads w1 w.heap.size u4 ls ∧ Chg Pure' w w1 ∧ (scan xs).1 = ls ++ (scan (xs.drop (k + 1))).1 ∧ (scan xs).2 = (scan (xs.drop (k + 1))).2 + (k + 1)) := by
          refine Lib.hid ⟨L1.out, C1, ?_, ?_⟩
          · rw [hS1, hE, List.drop_drop]
          · rw [hS2, hE, List.drop_drop]; simp only; omega
        clear hE hr hS1 hS2 HS HE
        go_wp2
        go_roundw
        case rel => exact ⟨k + 1, ls, by omega, by go_num, by omega, HN⟩
        case measure => simp [intOf]; omega
      | few =>
        obtain rfl := hp
        clear hr
        go_wp2
        go_ret2
        refine ⟨u4, ?_, ?_, C1⟩
        · rw [hS2, hE]; first | done | (simp only [Nat.zero_add]; done) | (simp only [Nat.zero_add]; rfl)
        · rw [hS1, hE]; simpa using L1.out
      | whole l =>
        obtain ⟨A', c', rfl, hlc, hld⟩ := hp
        have hfit := lookB_drop_whole hr
        rw [HL.out] at hfit
        obtain ⟨v6, w6, hr6, ho6, c6⟩ := L1.out.more (hld.low (by have := hC.size; omega)) hlc (by have := C1.size; omega) (by omega) rfl
        have C6 : Chg Pure' w w6 := C1.trans c6 (fun i hi e => by obtain ⟨us, ho, -⟩ := L1.out; have := (ho.lt i e).1; omega)
        have HN : Hid (Loads w6 w.heap.size v6 (ls ++ [l]) ∧ Chg Pure' w w6 ∧ (scan xs).1 = (ls ++ [l]) ++ (scan (xs.drop (k + (l.length + 8)))).1 ∧ (scan xs).2 = (scan (xs.drop (k + (l.length + 8)))).2 + (k + (l.length + 8))) := by
          refine Lib.hid ⟨ho6, C6, ?_, ?_⟩
          · rw [hS1, hE]; simp [List.drop_drop]
          · rw [hS2, hE]; simp only [List.drop_drop]; omega
        clear hE hr hS1 hS2 HS HE c6 C6 ho6 hld
        go_wp2_with (first
          | (at_builtin; refine Lib.wpList_append_run _ rfl _ _ _ _ rfl _ _ rfl rfl _ _ hr6 ?_)
          | fail)
        clear hr6
        go_wp2
        go_roundw
        case rel => exact ⟨k + (l.length + 8), ls ++ [l], by omega, by go_num, by simp; omega, HN⟩
        case measure => simp [intOf]; omega
    · have hkn : k = n := by omega
      have s3 : (k : Int) < (n : Int) → False := by omega
      have hnil : xs.drop k = [] := by rw [List.drop_eq_nil_iff, HL.out]; omega
      have H := HS.out
      rw [hnil] at H
      obtain ⟨h1, h2, h3, h4⟩ := H
      rw [scan_nil] at h3 h4
      have H3 := Lib.hid h3
      have H4 := Lib.hid h4
      clear h3 h4 hkn hnil HS
      go_wp2
      go_ret2
      refine ⟨u4, ?_, ?_, h2⟩
      · rw [H4.out, Nat.zero_add]; rfl
      · rw [H3.out]; simpa using h1

set_option maxHeartbeats 4000000 in
theorem law_FrameScans (A : Option Addr) (n c : Nat) (xs : List UInt8) (w : World) (hA : Bytes w A n xs) (hc : n ≤ c) (hn0 : n ≤ 140737488351232) (hn : n ≤ 1048576) :
    Calls Try.prog 4 #[.slice A n c] w fun e w' => e = .returned (.bool true) ∧ Chg Pure' w w' := by
  have hL := hA.len
  have z := scan_le xs.length xs (Nat.le_refl _)
  have z2 := sizeL_len (scan xs).1
  have hlb : (scan xs).1.length ≤ 1048576 := by omega
  clear z z2 hL
  go_enter Try.func4, Try.ntmps4
  go_wp2_with (fail)
  refine (scan_any A n c xs w hA hc (by omega)).mono ?_
  rintro e w1 ⟨v1, rfl, h1, c1⟩
  have hA1 := hA.pure c1
  go_wp2_with (fail)
  refine (rscan_any A n c xs w1 hA1 hc (by omega)).mono ?_
  rintro e w2 ⟨v2, rfl, h2, c2⟩
  have h1 := h1.pure c2
  obtain ⟨B1, d1, rfl, -⟩ := h1.val
  obtain ⟨B2, d2, rfl, -⟩ := h2.val
  have C2 := c1.pure c2
  have b1 := h1.bl
  have b2 := h2.bl
  clear h1 h2 c1 c2 hA1
  generalize (scan xs).1 = ls at *
  generalize (scan xs).2 = at_ at *
  go_wp2_with (fail)
  refine (sames_any B1 ls.length d1 ls B2 ls.length d2 ls w2 b1 b2 (by omega) (by omega) true (by simp)).mono ?_
  rintro e w3 ⟨rfl, c3⟩
  have C3 := C2.pure c3
  go_wp2_with (fail)
  refine (alive03 _).mono ?_
  rintro e w4 ⟨rfl, c4⟩
  go_wp2
  go_ret
  exact ⟨rfl, C3.pure c4⟩
end Go.Proofs.Ytemofjaonoofhaa
