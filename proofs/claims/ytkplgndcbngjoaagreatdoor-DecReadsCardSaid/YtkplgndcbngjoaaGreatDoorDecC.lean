/- dec: isDigit, step, exponent, b2i. -/
import Derived.Test.YtkplgndcbngjoaaGreatDoorDecA
namespace Go.Proofs.YtkplgndcbngjoaaGreatDoor
open Go Go.RowKit
set_option linter.unusedVariables false
set_option maxRecDepth 100000
set_option linter.unusedSimpArgs false

theorem isDigit_of (c : UInt8) (w : World) : Calls Tryz.prog 41 #[.int .u8 (c.toNat : Int)] w fun e w' => e = .returned (.bool (isDig c)) ∧ w = w' := by
  have hd : isDig c = true ↔ 48 ≤ c.toNat ∧ c.toNat ≤ 57 := by simp [isDig]
  go_enter Tryz.func41, Tryz.ntmps41
  go_wp2
  all_goals go_ret
  all_goals refine ⟨?_, rfl⟩
  all_goals go_simp
  all_goals (rw [Bool.eq_iff_iff]; try simp only [hd, decide_eq_true_eq, iff_true, true_iff, iff_false, false_iff, Bool.false_eq_true, Bool.and_eq_true])
  all_goals omega
theorem isDig_t (c : UInt8) : isDig c = true ↔ 48 ≤ c.toNat ∧ c.toNat ≤ 57 := by simp [isDig]
theorem isDig_f (c : UInt8) : isDig c = false ↔ ¬ (48 ≤ c.toNat ∧ c.toNat ≤ 57) := by rw [← Bool.not_eq_true, isDig_t]
theorem e45 (c : UInt8) : c = 45 ↔ (c.toNat : Int) = 45 := (u8_eq c 45 (by decide)).symm
theorem e48 (c : UInt8) : c = 48 ↔ (c.toNat : Int) = 48 := (u8_eq c 48 (by decide)).symm
theorem e46 (c : UInt8) : c = 46 ↔ (c.toNat : Int) = 46 := (u8_eq c 46 (by decide)).symm
theorem e101 (c : UInt8) : c = 101 ↔ (c.toNat : Int) = 101 := (u8_eq c 101 (by decide)).symm
theorem e69 (c : UInt8) : c = 69 ↔ (c.toNat : Int) = 69 := (u8_eq c 69 (by decide)).symm
theorem e43 (c : UInt8) : c = 43 ↔ (c.toNat : Int) = 43 := (u8_eq c 43 (by decide)).symm
set_option maxHeartbeats 4000000 in
theorem step_of (q : Nat) (hq : q ≤ 8) (c : UInt8) (w : World) : Calls Tryz.prog 17 #[.int .i64 q, .int .u8 (c.toNat : Int)] w fun e w' => e = .returned (.int .i64 (stepB q c)) ∧ w = w' := by
  obtain ⟨R, hR⟩ : ∃ R, R = stepB q c := ⟨_, rfl⟩
  rw [← hR]
  have HR := Lib.hid hR
  clear hR
  rcases (by omega : q = 0 ∨ q = 1 ∨ q = 2 ∨ q = 3 ∨ q = 4 ∨ q = 5 ∨ q = 6 ∨ q = 7 ∨ q = 8) with rfl | rfl | rfl | rfl | rfl | rfl | rfl | rfl | rfl
  all_goals go_enter Tryz.func17, Tryz.ntmps17
  all_goals go_wp2_with (first
    | (go_at_call 41; refine (isDigit_of _ _).mono ?_; rintro e w1 ⟨rfl, rfl⟩))
  all_goals go_ret
  all_goals refine ⟨?_, rfl⟩
  all_goals go_simp
  all_goals rw [HR.out]
  all_goals clear HR
  all_goals simp only [stepB, beq_iff_eq, beq_eq_false_iff_ne, isDig_t, isDig_f, e45, e48, e46, e101, e69, e43, ne_eq] at *
  all_goals (try simp)
  all_goals (repeat' split) <;> omega
theorem bytesWorld_chg (w : World) (k : TypeId) (s : ByteArray) : Chg Pure' w (Lib.bytesWorld w k s) :=
  ⟨rfl, rfl, rfl, by rw [Lib.bytesWorld_size]; omega, fun j hj _ => Lib.bytesWorld_at_old w k s j hj⟩
theorem atoi_of (l : List UInt8) (n : Int) (hl : l.length ≤ 18) (h : Lib.atoi l = some n) (w : World) : Calls Tryz.prog 49 #[.string ⟨l.toArray⟩] w fun e w' => e = .returned (.tuple #[.int .i64 n, .nilIface]) ∧ Chg Pure' w w' := by
  have hc := Tryz.strconv_Atoi ⟨l.toArray⟩ n (by simpa [ByteArray.size] using hl) h w
  refine hc.mono ?_
  rintro e w' ⟨rfl, bt, rfl⟩
  exact ⟨rfl, bytesWorld_chg _ _ _⟩
set_option maxHeartbeats 2000000 in
theorem exponent_of (t : List UInt8) (w : World) (ht : t.length ≤ 4096) (hd : (expD t).all isDig = true) : Calls Tryz.prog 22 #[.string ⟨t.toArray⟩] w fun e w' => e = .returned (.int .i64 (expA t)) ∧ Chg Pure' w w' := by
  have hb := expN_bound t hd
  have HA := Lib.hid (show expA t = if Lib.hasPrefix t [45] then - expN t else expN t from rfl)
  have HN := Lib.hid (show expN t = if 6 < (expD t).length then 1048576 else (valD (expD t) : Int) from rfl)
  have HD := Lib.hid (show Lib.trimLeftB (Lib.trimPrefix (Lib.trimPrefix t [45]) [43]) 48 = expD t from rfl)
  have hat : expD t ≠ [] → Lib.atoi (expD t) = some (valD (expD t) : Int) := atoi_digits hd
  have hv : valD (expD t) ≤ 1000000 ∨ 6 < (expD t).length := by
    rcases Nat.lt_or_ge 6 (expD t).length with h | h
    · exact .inr h
    · refine .inl (Nat.le_of_lt (Nat.lt_of_lt_of_le (valD_lt hd) ?_))
      exact Nat.le_trans (Nat.pow_le_pow_right (by decide) h) (by decide)
  go_enter Tryz.func22, Tryz.ntmps22
  go_wp2_with (first
    | (go_at_call 18; refine (Tryz.strings_CutPrefix _ ⟨#[45]⟩ _).mono ?_; rintro e w1 ⟨rfl, rfl⟩)
    | (go_at_call 48; refine (Tryz.strings_TrimPrefix _ ⟨#[43]⟩ _).mono ?_; rintro e w1 ⟨rfl, rfl⟩)
    | (go_at_call 47; refine (Tryz.strings_TrimLeft_one _ 48 (by decide) _).mono ?_; rintro e w3 ⟨rfl, rfl⟩; dsimp only; rw [HD.out])
    | (go_at_call 49
       have hl6 : (expD t).length ≤ 6 := by omega
       have hne : expD t ≠ [] := by intro h; simp_all
       refine (atoi_of (expD t) (valD (expD t) : Int) (by omega) (hat hne) _).mono ?_; rintro e w4 ⟨rfl, z4⟩
       have hv1 : valD (expD t) ≤ 1000000 := by omega
       clear hat hne))
  all_goals go_ret
  all_goals refine ⟨ret_int ?_, by first | exact Chg.refl _ _ | exact z4⟩
  all_goals rw [HA.out, HN.out]
  all_goals simp_all
  all_goals (have v0 : valD [] = 0 := rfl; intros; omega)
end Go.Proofs.YtkplgndcbngjoaaGreatDoor
