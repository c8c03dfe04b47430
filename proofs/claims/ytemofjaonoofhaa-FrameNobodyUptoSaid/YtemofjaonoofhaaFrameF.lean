/- Package frame: Encode. -/
import Derived.Test.YtemofjaonoofhaaFrameE
namespace Go.Proofs.Ytemofjaonoofhaa
open Go Go.RowKit
set_option linter.unusedVariables false
set_option linter.unusedSimpArgs false

theorem two_lists {w : World} {A B : Option Addr} {n m c d : Nat} {xs ys : List UInt8} {k : Nat} (hA : Bytes w A n xs) (hB : Bytes w B m ys) (hc : n ≤ c) (hd : m ≤ d) (hk : w.heap.size = k) :
    BytesL (w.alloc (.cells #[.slice A n c, .slice B m d] 22)) (some ⟨k, 0, none⟩) 2 [xs, ys] := by
  subst hk
  have ca : Chg Pure' w (w.alloc (.cells #[.slice A n c, .slice B m d] 22)) := (Chg.refl _ w).alloc _
  have lit := fun j => cellAt_alloc_lit w #[.slice A n c, .slice B m d] 22 j
  refine ⟨rfl, fun _ => ⟨w.heap.size, 0, rfl, fun j hj => ?_⟩⟩
  match j, hj with
  | 0, _ => exact ⟨A, n, c, lit 0, hc, hA.pure ca⟩
  | 1, _ => exact ⟨B, m, d, lit 1, hd, hB.pure ca⟩
theorem frameB_length (xs : List UInt8) : (frameB xs).length = xs.length + 8 := by
  simp [frameB, crcSeal, crcMark]
set_option maxHeartbeats 4000000 in
theorem fenc_any (A : Option Addr) (n c : Nat) (xs : List UInt8) (w : World) (hA : Bytes w A n xs) (hc : n ≤ c) (hn : n ≤ 140737488351232) :
    Calls Try.prog 11 #[.slice A n c] w fun e w' => Chg Pure' w w' ∧ ((1200 < n ∧ e = .returned (.tuple #[.slice none 0 0, .int .i64 8])) ∨ (n ≤ 1200 ∧ ∃ v, e = .returned (.tuple #[v, .int .i64 0]) ∧ w'.ownsRow w.heap.size 5 1 v (n + 8) (enc (frameB xs)))) := by
  have hl := hA.len
  have HL := Lib.hid hl
  clear hl
  by_cases hbig : 1200 < n
  · have h1 : (1200 : Int) < (n : Int) := by omega
    go_enter Try.func11, Try.ntmps11
    go_wp2
    go_ret2
    exact ⟨Chg.refl _ _, .inl ⟨hbig, rfl⟩⟩
  · have h1 : (n : Int) ≤ (1200 : Int) := by omega
    go_enter Try.func11, Try.ntmps11
    go_wp2_with (fail)
    have ca : Chg Pure' w (w.alloc (.cells #[.int .u8 ((n : Int) / 256), .int .u8 ((n : Int) % 256)] 5)) := (Chg.refl _ w).alloc _
    have hb1 : UInt8.toNat (UInt8.ofNat (n / 256)) = n / 256 := by rw [UInt8.toNat_ofNat']; omega
    have hb2 : UInt8.toNat (UInt8.ofNat (n % 256)) = n % 256 := by rw [UInt8.toNat_ofNat']; omega
    have hH : Bytes (w.alloc (.cells #[.int .u8 ((n : Int) / 256), .int .u8 ((n : Int) % 256)] 5)) (some ⟨w.heap.size, 0, none⟩) 2 [UInt8.ofNat (n / 256), UInt8.ofNat (n % 256)] :=
      Bytes.alloc_lit w #[.int .u8 ((n : Int) / 256), .int .u8 ((n : Int) % 256)] 5 [UInt8.ofNat (n / 256), UInt8.ofNat (n % 256)] (by
        simp only [enc, List.map_cons, List.map_nil, hb1, hb2]
        simp) 2 rfl
    have hsz : (w.alloc (.cells #[.int .u8 ((n : Int) / 256), .int .u8 ((n : Int) % 256)] 5)).heap.size = w.heap.size + 1 := by simp
    have hBL := two_lists hH (hA.pure ca) (Nat.le_refl 2) hc hsz
    generalize w.alloc (.cells #[.int .u8 ((n : Int) / 256), .int .u8 ((n : Int) % 256)] 5) = w1 at *
    have hcat : [[UInt8.ofNat (n / 256), UInt8.ofNat (n % 256)], xs].flatten = [UInt8.ofNat (n / 256), UInt8.ofNat (n % 256)] ++ xs := by simp
    have hcl : ([UInt8.ofNat (n / 256), UInt8.ofNat (n % 256)] ++ xs).length = n + 2 := by simp [HL.out]
    refine (concat_any _ 2 2 _ _ hBL (by decide) (by rw [hcat, hcl]; omega)).mono ?_
    rw [hcat, hcl]
    have ca2 : Chg Pure' w (w1.alloc (.cells #[.slice (some ⟨w.heap.size, 0, none⟩) 2 2, .slice A n c] 22)) := ca.alloc _
    rintro e w2 ⟨v, rfl, hv, c2⟩
    obtain ⟨B, q, rfl, hq, -, -⟩ := own_slice hv
    have C2 := ca2.pure c2
    have hB2 : Bytes w2 B (n + 2) ([UInt8.ofNat (n / 256), UInt8.ofNat (n % 256)] ++ xs) := by
      obtain ⟨B', q', e, h1, h2, -⟩ := Bytes.of_own hv
      injection e with e1
      rw [e1]
      exact h2
    clear hBL hH hv c2 ca ca2 hcat hcl hb1 hb2 hsz
    go_wp2_with (fail)
    refine (seal_own B q (n + 2) _ w2 hB2 hq (by omega)).mono ?_
    rintro e w3 ⟨v, rfl, hv, c3⟩
    obtain ⟨B3, q3, rfl, hq3, -, -⟩ := own_slice hv
    have C3 := C2.pure c3
    have hB3 : Bytes w3 B3 (n + 2 + 4) (crcSeal ([UInt8.ofNat (n / 256), UInt8.ofNat (n % 256)] ++ xs)) := by
      obtain ⟨B', q', e, h1, h2, -⟩ := Bytes.of_own hv
      injection e with e1
      rw [e1]
      exact h2
    clear hv c3 C2 hB2
    have ca : Chg Pure' w (w3.alloc (.cells #[.int .u8 165, .int .u8 90] 5)) := C3.alloc _
    have ca3 : Chg Pure' w3 (w3.alloc (.cells #[.int .u8 165, .int .u8 90] 5)) := (Chg.refl _ w3).alloc _
    have hH : Bytes (w3.alloc (.cells #[.int .u8 165, .int .u8 90] 5)) (some ⟨w3.heap.size, 0, none⟩) 2 [165, 90] := Bytes.alloc_lit w3 #[.int .u8 165, .int .u8 90] 5 [165, 90] rfl 2 rfl
    have hsz : (w3.alloc (.cells #[.int .u8 165, .int .u8 90] 5)).heap.size = w3.heap.size + 1 := by simp
    have hBL := two_lists hH (hB3.pure ca3) (Nat.le_refl 2) hq3 hsz
    have hfl : [[165, 90], crcSeal ([UInt8.ofNat (n / 256), UInt8.ofNat (n % 256)] ++ xs)].flatten = frameB xs := by
      unfold frameB; rw [HL.out]; simp
    have hfll : (frameB xs).length = n + 8 := by rw [frameB_length, HL.out]
    go_wp2_with (fail)
    generalize w3.alloc (.cells #[.int .u8 165, .int .u8 90] 5) = w4 at *
    have C5 : Chg Pure' w (w4.alloc (.cells #[.slice (some ⟨w3.heap.size, 0, none⟩) 2 2, .slice B3 (n + 2 + 4) q3] 22)) := ca.alloc _
    refine (concat_any _ 2 2 _ _ hBL (by decide) (by rw [hfl, hfll]; omega)).mono ?_
    rw [hfl, hfll]
    rintro e w5 ⟨v, rfl, hv, c5⟩
    obtain ⟨B5, q5, rfl, hq5, -, -⟩ := own_slice hv
    have C6 := C5.pure c5
    have hv2 := hv.low C5.size
    have HV := Lib.hid hv2
    clear hv hv2 hBL hH hfl hfll C5 c5 ca ca3
    go_wp2
    go_ret2
    exact ⟨C6, .inr ⟨by omega, _, rfl, HV.out⟩⟩

set_option maxHeartbeats 4000000 in
theorem rencode_any (A : Option Addr) (n c : Nat) (xs : List UInt8) (w : World) (hA : Bytes w A n xs) (hc : n ≤ c) (hn : n ≤ 140737488351232) :
    Calls Try.prog 12 #[.slice A n c] w fun e w' => Chg Pure' w w' ∧ ((1200 < n ∧ e = .returned (.tuple #[.slice none 0 0, .int .i64 8])) ∨ (n ≤ 1200 ∧ ∃ v, e = .returned (.tuple #[v, .int .i64 0]) ∧ w'.ownsRow w.heap.size 5 1 v (n + 8) (enc (frameB xs)))) := by
  have hl := hA.len
  have HL := Lib.hid hl
  clear hl
  by_cases hbig : 1200 < n
  · have h1 : (1200 : Int) < (n : Int) := by omega
    go_enter Try.func12, Try.ntmps12
    go_wp2
    go_ret2
    exact ⟨Chg.refl _ _, .inl ⟨hbig, rfl⟩⟩
  · have h1 : (n : Int) ≤ (1200 : Int) := by omega
    have hb1 : UInt8.toNat (UInt8.ofNat (n / 256)) = n / 256 := by rw [UInt8.toNat_ofNat']; omega
    have hb2 : UInt8.toNat (UInt8.ofNat (n % 256)) = n % 256 := by rw [UInt8.toNat_ofNat']; omega
    have henc : enc [UInt8.ofNat (n / 256), UInt8.ofNat (n % 256)] = [.int .u8 ((n : Int) / 256), .int .u8 ((n : Int) % 256)] := by
      simp only [enc, List.map_cons, List.map_nil, hb1, hb2]
      simp
    have ca : Chg Pure' w (w.alloc (.cells #[.int .u8 ((n : Int) / 256), .int .u8 ((n : Int) % 256)] 5)) := (Chg.refl _ w).alloc _
    have ho := World.ownsRow_lit (base := w.heap.size) (e := 5) (size := 1) w #[.int .u8 ((n : Int) / 256), .int .u8 ((n : Int) % 256)] 2 (Nat.le_refl _) (by decide) rfl
    have hA1 := hA.pure ca
    obtain ⟨v1, w1, hr1, ho1, hg1, -⟩ := app_own (P := Try.prog) _ w.heap.size 22 22 5 Try.underlying22 infoU8 rfl (by decide) _ _ _ ho A n c (enc xs) hA1.row (by rw [enc_length, HL.out, Nat.mul_one]) (enc_one _) (by decide) (by omega) ca.size
    have C1 : Chg Pure' w w1 := by
      have c1 := (Chg.refl (fun k => w.heap.size ≤ k) _).grown hg1 (fun k hk => .inr (by simp [Value.ownBlock] at hk; omega))
      exact ca.trans c1 (fun i hi h => absurd h (by omega))
    have hfl : #[Value.int .u8 ((n : Int) / 256), .int .u8 ((n : Int) % 256)].toList ++ enc xs = enc ([UInt8.ofNat (n / 256), UInt8.ofNat (n % 256)] ++ xs) := by
      rw [enc_append, henc]
    rw [hfl] at ho1
    obtain ⟨B, q, rfl, hq, -, -⟩ := own_slice ho1
    have hB1 : Bytes w1 B (n + 2) ([UInt8.ofNat (n / 256), UInt8.ofNat (n % 256)] ++ xs) := by
      obtain ⟨B', q', e, h1, h2, -⟩ := Bytes.of_own ho1
      injection e with e1
      rw [e1, Nat.add_comm]
      exact h2
    clear hfl ho1 hg1 ho hA1 ca henc hb1 hb2
    go_enter Try.func12, Try.ntmps12
    go_wp2_with (first
      | (at_builtin; refine Lib.wpList_append_run _ rfl _ _ _ _ rfl _ _ rfl rfl _ _ hr1 ?_)
      | fail)
    clear hr1
    have ho := World.ownsRow_lit (base := w1.heap.size) (e := 5) (size := 1) w1 #[.int .u8 165, .int .u8 90] 2 (Nat.le_refl _) (by decide) rfl
    have ca : Chg Pure' w1 (w1.alloc (.cells #[.int .u8 165, .int .u8 90] 5)) := (Chg.refl _ w1).alloc _
    have hB2 := hB1.pure ca
    have hlen2 : ([UInt8.ofNat (n / 256), UInt8.ofNat (n % 256)] ++ xs).length = n + 2 := by simp [HL.out]
    go_wp2_with (fail)
    generalize w1.alloc (.cells #[.int .u8 165, .int .u8 90] 5) = w2 at *
    rw [Nat.add_comm 2 n]
    refine (sealR_own B q (n + 2) _ w2 hB2 (by omega)).mono ?_
    rintro e w3 ⟨v3, rfl, hv3, c3⟩
    obtain ⟨B3, q3, rfl, hq3, -, -⟩ := own_slice hv3
    have hB3 : Bytes w3 B3 (n + 2 + 4) (crcSeal ([UInt8.ofNat (n / 256), UInt8.ofNat (n % 256)] ++ xs)) := by
      obtain ⟨B', q', e, h1, h2, -⟩ := Bytes.of_own hv3
      injection e with e1
      rw [e1]
      exact h2
    have ho3 := own_keep ho c3 (fun _ _ h => h)
    have C3 := (C1.pure ca).pure c3
    obtain ⟨v4, w4, hr4, ho4, hg4, -⟩ := app_own (P := Try.prog) w3 w1.heap.size 22 22 5 Try.underlying22 infoU8 rfl (by decide) _ _ _ ho3 B3 (n + 2 + 4) q3 (enc (crcSeal ([UInt8.ofNat (n / 256), UInt8.ofNat (n % 256)] ++ xs))) hB3.row (by rw [enc_length]; simp [crcSeal, crcMark, HL.out]) (enc_one _) (by decide) (by omega) (by have := ca.size; have := c3.size; omega)
    have C4 : Chg Pure' w w4 := by
      have c4 := (Chg.refl (fun k => w1.heap.size ≤ k) _).grown hg4 (fun k hk => .inr (by simp [Value.ownBlock] at hk; omega))
      exact C3.trans c4 (fun i hi h => absurd h (by have := C1.size; omega))
    have hfl : #[Value.int .u8 165, .int .u8 90].toList ++ enc (crcSeal ([UInt8.ofNat (n / 256), UInt8.ofNat (n % 256)] ++ xs)) = enc (frameB xs) := by
      unfold frameB
      rw [enc_append, HL.out]
      rfl
    rw [hfl, show 2 + (n + 2 + 4) = n + 8 from by omega] at ho4
    have HO := Lib.hid (ho4.low C1.size)
    clear ho4 hfl hg4 ho3 hv3 hB3 c3 ho ca hB2 hlen2 hB1
    go_wp2_with (first
      | (at_builtin; refine Lib.wpList_append_run _ rfl _ _ _ _ rfl _ _ rfl rfl _ _ hr4 ?_)
      | fail)
    clear hr4
    go_wp2
    go_ret2
    exact ⟨C4, .inr ⟨by omega, _, rfl, HO.out⟩⟩
end Go.Proofs.Ytemofjaonoofhaa
