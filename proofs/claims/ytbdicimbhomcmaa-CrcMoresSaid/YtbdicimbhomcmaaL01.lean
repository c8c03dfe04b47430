/- The laws of layer 1: their contracts. -/
import Derived.Test.YtbdicimbhomcmaaCrc
namespace Go.Proofs.Ytbdicimbhomcmaa
open Go Go.RowKit
set_option linter.unusedVariables false
set_option linter.unusedSimpArgs false
theorem alive01 (w : World) : Calls Try.prog 12 #[] w fun e w' => e = .returned (.bool true) ∧ Chg Pure' w w' := by
  have hb := Bytes.alloc_mark w #[.int .u8 49, .int .u8 50, .int .u8 51, .int .u8 52, .int .u8 53, .int .u8 54, .int .u8 55, .int .u8 56, .int .u8 57] 5 (9, 10) [49, 50, 51, 52, 53, 54, 55, 56, 57] rfl 9 rfl
  have hs : ((crcSum [49, 50, 51, 52, 53, 54, 55, 56, 57]).toNat : Int) = 3421780262 := by decide +kernel
  have kc := fun (w : World) (C : Array Value) (n c : Nat) => Lib.run_convert_bytes_const (P := Try.prog) w 22 5 C n c Try.underlying22 Try.underlying5
  go_enter Try.func12, Try.ntmps12
  go_wp2_with (go_at_call 10; refine (sum_any _ _ _ _ _ hb (by omega)).mono ?_; rintro e w' ⟨rfl, rfl⟩)
  go_ret
  exact ⟨rfl, (Chg.refl _ w).alloc _⟩

theorem law_CrcSums (A : Option Addr) (n c : Nat) (xs : List UInt8) (w : World) (hB : Bytes w A n xs) (hc : n ≤ c) (hn : n ≤ 140737488351232) :
    Calls Try.prog 3 #[.slice A n c] w fun e w' => e = .returned (.bool true) ∧ Chg Pure' w w' := by
  go_enter Try.func3, Try.ntmps3
  go_wp2_with (first
    | (go_at_call 10; refine (sum_any _ _ _ _ _ hB (by omega)).mono ?_; rintro e w' ⟨rfl, rfl⟩)
    | (go_at_call 11; refine (sumR_any _ _ _ _ _ hB (by omega)).mono ?_; rintro e w' ⟨rfl, rfl⟩)
    | (go_at_call 12; refine (alive01 _).mono ?_; rintro e w' ⟨rfl, hg⟩))
  go_ret
  exact ⟨rfl, hg⟩

theorem law_CrcMores (m : UInt32) (A : Option Addr) (n c : Nat) (xs : List UInt8) (w : World) (hB : Bytes w A n xs) (hc : n ≤ c) (hn : n ≤ 140737488351232) :
    Calls Try.prog 4 #[.int .u32 (m.toNat : Int), .slice A n c] w fun e w' => e = .returned (.bool true) ∧ Chg Pure' w w' := by
  go_enter Try.func4, Try.ntmps4
  go_wp2_with (first
    | (go_at_call 13; refine (more_any _ _ _ _ _ _ hB (by omega)).mono ?_; rintro e w' ⟨rfl, rfl⟩)
    | (go_at_call 14; refine (moreR_any _ _ _ _ _ _ hB (by omega)).mono ?_; rintro e w' ⟨rfl, rfl⟩)
    | (go_at_call 12; refine (alive01 _).mono ?_; rintro e w' ⟨rfl, hg⟩))
  go_ret
  exact ⟨rfl, hg⟩

theorem crc_parts (xs ys : List UInt8) : crcSum (xs ++ ys) = crcMore (crcSum xs) ys := by
  simp [crcSum, crcMore, List.foldl_append]

theorem law_CrcParts (A : Option Addr) (n c : Nat) (xs : List UInt8) (B : Option Addr) (m d : Nat) (ys : List UInt8) (w : World) (hA : Bytes w A n xs) (hc : n ≤ c) (hn : n ≤ 140737488351232) (hB : Bytes w B m ys) (hd : m ≤ d) (hm : m ≤ 140737488351232) (hnm : n + m ≤ 140737488355328) :
    Calls Try.prog 5 #[.slice A n c, .slice B m d] w fun e w' => e = .returned (.bool true) ∧ Chg Pure' w w' := by
  obtain ⟨v1, w1, hr1, ho1, hg1, -⟩ := app_own (P := Try.prog) w w.heap.size 22 22 5 Try.underlying22 infoU8 rfl (by decide) _ _ _ (World.ownsRow_nil w w.heap.size 5 1) A n c (enc xs) hA.row (by rw [enc_length, hA.len, Nat.mul_one]) (enc_one _) (by decide) (by omega) (Nat.le_refl _)
  rw [Nat.zero_add, List.nil_append] at ho1
  have hc1 : Chg Pure' w w1 := (Chg.refl _ w).grown hg1 (fun k hk => by cases hk)
  have hB1 := hB.pure hc1
  obtain ⟨v2, w2, hr2, ho2, hg2, -⟩ := app_own (P := Try.prog) w1 w.heap.size 22 22 5 Try.underlying22 infoU8 rfl (by decide) _ _ _ ho1 B m d (enc ys) hB1.row (by rw [enc_length, hB.len, Nat.mul_one]) (enc_one _) (by decide) (by omega) hc1.size
  have hc2 : Chg Pure' w w2 := hc1.grown hg2 (fun k hk => .inl (ho1.lt k hk).1)
  rw [← enc_append] at ho2
  obtain ⟨A2, c2, rfl, hle, hb, hf⟩ := Bytes.of_own ho2
  have hA2 := hA.pure hc2
  have hB2 := hB.pure hc2
  have hp : (((crcSum (xs ++ ys)).toNat : Int) == ((crcMore (crcSum xs) ys).toNat : Int)) = true := by rw [crc_parts]; simp
  clear hA hB hB1 ho1 ho2 hg1 hg2
  go_enter Try.func5, Try.ntmps5
  go_wp2_with (first
    | (at_builtin; refine Lib.wpList_append_run _ rfl _ _ _ _ rfl _ _ rfl rfl _ _ hr1 ?_)
    | (at_builtin; refine Lib.wpList_append_run _ rfl _ _ _ _ rfl _ _ rfl rfl _ _ hr2 ?_))
  refine (sum_any _ _ _ _ _ hb (by omega)).mono ?_
  rintro e w' ⟨rfl, rfl⟩
  go_wp2_with (fail)
  refine (sum_any _ _ _ _ _ hA2 (by omega)).mono ?_
  rintro e w' ⟨rfl, rfl⟩
  go_wp2_with (fail)
  refine (more_any _ _ _ _ _ _ hB2 (by omega)).mono ?_
  rintro e w' ⟨rfl, rfl⟩
  go_wp2_with (fail)
  refine (alive01 _).mono ?_
  rintro e w' ⟨rfl, hg⟩
  go_wp2
  go_ret
  exact ⟨rfl, hc2.pure hg⟩

theorem law_CrcSeals (A : Option Addr) (n c : Nat) (xs : List UInt8) (w : World) (hA : Bytes w A n xs) (hc : n ≤ c) (hn : n ≤ 140737488351232) :
    Calls Try.prog 6 #[.slice A n c] w fun e w' => e = .returned (.bool true) ∧ Chg Pure' w w' := by
  cases hy : crcOpen xs with
  | none =>
    go_enter Try.func6, Try.ntmps6
    go_wp2_with (fail)
    refine (open_none _ _ _ _ _ hA hc (by omega) hy).mono ?_
    rintro e w1 ⟨rfl, c1⟩
    go_wp2_with (fail)
    refine (openR_none _ _ _ _ _ (hA.pure c1) hc (by omega) hy).mono ?_
    rintro e w2 ⟨rfl, c2⟩
    have C2 := c1.pure c2
    go_wp2_with (fail)
    refine (seal_own _ _ _ _ _ (hA.pure C2) hc (by omega)).mono ?_
    rintro e w3 ⟨v, rfl, ho, c3⟩
    obtain ⟨A3, q3, rfl, -, hb3, -⟩ := Bytes.of_own ho
    have C3 := C2.pure c3
    go_wp2_with (fail)
    refine (sealR_own _ _ _ _ _ (hA.pure C3) (by omega)).mono ?_
    rintro e w4 ⟨v, rfl, ho, c4⟩
    obtain ⟨A4, q4, rfl, -, hb4, -⟩ := Bytes.of_own ho
    have C4 := C3.pure c4
    go_wp2_with (fail)
    refine (same_is true _ _ _ _ _ _ _ _ _ (hb3.pure c4) hb4 (by simp)).mono ?_
    rintro e w5 ⟨rfl, rfl⟩
    go_wp2_with (fail)
    refine (same_is true _ _ _ _ _ _ _ _ _ (Bytes.nil _ _) (Bytes.nil _ _) (by simp)).mono ?_
    rintro e w5 ⟨rfl, rfl⟩
    go_wp2_with (fail)
    refine (alive01 _).mono ?_
    rintro e w6 ⟨rfl, c6⟩
    go_wp2
    go_ret
    exact ⟨rfl, C4.pure c6⟩
  | some ys =>
    have h4 : 4 ≤ n := by
      have := hA.len
      rcases Nat.lt_or_ge n 4 with h | h
      · rw [crcOpen_short (by omega)] at hy; cases hy
      · exact h
    obtain ⟨k, rfl⟩ : ∃ k, n = k + 4 := ⟨n - 4, by omega⟩
    go_enter Try.func6, Try.ntmps6
    go_wp2_with (fail)
    refine (open_some _ _ _ _ _ _ hA hc (by omega) hy).mono ?_
    rintro e w1 ⟨A1, q1, rfl, -, hb1, -, c1⟩
    go_wp2_with (fail)
    refine (openR_some _ _ _ _ _ _ (hA.pure c1) hc (by omega) hy).mono ?_
    rintro e w2 ⟨A2, q2, rfl, -, hb2, -, c2⟩
    have C2 := c1.pure c2
    go_wp2_with (fail)
    refine (seal_own _ _ _ _ _ (hA.pure C2) hc (by omega)).mono ?_
    rintro e w3 ⟨v, rfl, ho, c3⟩
    obtain ⟨A3, q3, rfl, -, hb3, -⟩ := Bytes.of_own ho
    have C3 := C2.pure c3
    go_wp2_with (fail)
    refine (sealR_own _ _ _ _ _ (hA.pure C3) (by omega)).mono ?_
    rintro e w4 ⟨v, rfl, ho, c4⟩
    obtain ⟨A4, q4, rfl, -, hb4, -⟩ := Bytes.of_own ho
    have C4 := C3.pure c4
    go_wp2_with (fail)
    refine (same_is true _ _ _ _ _ _ _ _ _ (hb3.pure c4) hb4 (by simp)).mono ?_
    rintro e w5 ⟨rfl, rfl⟩
    go_wp2_with (fail)
    refine (same_is true _ _ _ _ _ _ _ _ _ (((hb1.pure c2).pure c3).pure c4) ((hb2.pure c3).pure c4) (by simp)).mono ?_
    rintro e w5 ⟨rfl, rfl⟩
    go_wp2_with (fail)
    refine (alive01 _).mono ?_
    rintro e w6 ⟨rfl, c6⟩
    go_wp2
    go_ret
    exact ⟨rfl, C4.pure c6⟩

theorem law_CrcBack (A : Option Addr) (n c : Nat) (xs : List UInt8) (w : World) (hA : Bytes w A n xs) (hc : n ≤ c) (hn : n ≤ 140737488351232) :
    Calls Try.prog 7 #[.slice A n c] w fun e w' => e = .returned (.bool true) ∧ Chg Pure' w w' := by
  go_enter Try.func7, Try.ntmps7
  go_wp2_with (fail)
  refine (seal_own _ _ _ _ _ hA hc (by omega)).mono ?_
  rintro e w1 ⟨v, rfl, ho, c1⟩
  obtain ⟨A3, q3, rfl, hle, hb3, -⟩ := Bytes.of_own ho
  go_wp2_with (fail)
  refine (open_some _ _ _ _ _ _ hb3 hle (by omega) (crcOpen_seal xs)).mono ?_
  rintro e w2 ⟨A2, q2, rfl, -, hb2, -, c2⟩
  have C2 := c1.pure c2
  go_wp2_with (fail)
  refine (same_is true _ _ _ _ _ _ _ _ _ hb2 (hA.pure C2) (by simp)).mono ?_
  rintro e w5 ⟨rfl, rfl⟩
  go_wp2_with (fail)
  refine (alive01 _).mono ?_
  rintro e w6 ⟨rfl, c6⟩
  go_wp2
  go_ret
  exact ⟨rfl, C2.pure c6⟩
end Go.Proofs.Ytbdicimbhomcmaa
