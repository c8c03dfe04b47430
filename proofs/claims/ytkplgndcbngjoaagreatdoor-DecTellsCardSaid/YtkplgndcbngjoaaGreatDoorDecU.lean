/- gantlineref06: Text, Whole; the law DecTells. -/
import Derived.Test.YtkplgndcbngjoaaGreatDoorDecT
import Derived.Lib.ItoaMem
namespace Go.Proofs.YtkplgndcbngjoaaGreatDoor
open Go Go.RowKit
set_option linter.unusedVariables false
set_option maxRecDepth 100000
set_option linter.unusedSimpArgs false

set_option maxHeartbeats 4000000 in
theorem rtext_of (n : Num) (w : World) (hl : n.dig.length ≤ 9223372036854775807) :
    Calls Tryz.prog 16 #[n.val] w fun e w' => e = .returned (.string ⟨(textA n).toArray⟩) ∧ Chg Pure' w w' := by
  obtain ⟨R, hR⟩ : ∃ R, R = textA n := ⟨_, rfl⟩
  rw [← hR]
  obtain ⟨neg, l, x⟩ := n
  have HR := Lib.hid hR
  clear hR
  obtain ⟨r, hr⟩ : ∃ r, r = (⟨neg, l, x⟩ : Num).right := ⟨_, rfl⟩
  have hlen : r = true → l.length ≤ 800 ∧ -2000 ≤ x ∧ x ≤ 2000 := fun h => ⟨Num.right_len (n := ⟨neg, l, x⟩) (by rw [← hr]; exact h), Num.right_exp (n := ⟨neg, l, x⟩) (by rw [← hr]; exact h)⟩
  have HH := Lib.hid hr
  clear hr
  unfold Num.val
  cases r with
  | false =>
    have hr : R = [] := by rw [HR.out, textA, if_neg (by rw [← HH.out]; simp)]
    go_enter Tryz.func16, Tryz.ntmps16
    go_wp2_with (first
      | (go_at_call 14; refine (rright06_of _ _ _ _ hl).mono ?_; rintro e w1 ⟨rfl, z1⟩; rw [← HH.out]))
    go_ret
    exact ⟨by first | rfl | (rw [hr]; rfl), (Chg.alloc (Chg.refl _ _) _).trans' z1⟩
  | true =>
    obtain ⟨hl1, hx1⟩ := hlen rfl
    have HT : R = (if neg = true then [45] else []) ++ l ++ (if x = 0 then [] else 101 :: Lib.itoa x) := by rw [HR.out, textA, ← HH.out, if_pos rfl]
    clear HR
    rcases Int.lt_trichotomy x 0 with hx | hx | hx
    · obtain ⟨k, rfl⟩ : ∃ k : Nat, x = -(k : Int) := ⟨x.natAbs, by omega⟩
      rw [if_neg (show ¬ (-(k : Int) = 0) from by omega), Lib.itoa_neg k (by omega)] at HT
      have hdl : (Lib.decDigits k).length ≤ 5 := by
        rw [Lib.decDigits_length]
        exact Nat.le_trans (nDigits_le 3 k (by omega)) (by decide)
      have HT := Lib.hid HT
      go_enter Tryz.func16, Tryz.ntmps16
      go_wp2_with (first
        | (go_at_call 14; refine (rright06_of _ _ _ _ hl).mono ?_; rintro e w1 ⟨rfl, z1⟩; rw [← HH.out]; obtain ⟨c0, c1, c2⟩ := num_cells z1)
        | (go_at_call 40; refine (fromWord_of k _ (by omega)).mono ?_; rintro e w2 ⟨rfl, z2⟩))
      all_goals go_ret
      all_goals refine ⟨?_, ((Chg.alloc (Chg.refl _ _) _).trans' z1).trans' z2⟩
      all_goals rw [HT.out]
      all_goals clear HT HH
      all_goals go_simp
      all_goals simp_all
      all_goals (try (apply ByteArray.ext; simp [ByteArray.data_append]))
    · subst hx
      rw [if_pos (show (0 : Int) = 0 from rfl)] at HT
      have HT := Lib.hid HT
      go_enter Tryz.func16, Tryz.ntmps16
      go_wp2_with (first
        | (go_at_call 14; refine (rright06_of _ _ _ _ hl).mono ?_; rintro e w1 ⟨rfl, z1⟩; rw [← HH.out]; obtain ⟨c0, c1, c2⟩ := num_cells z1))
      all_goals go_ret
      all_goals refine ⟨?_, (Chg.alloc (Chg.refl _ _) _).trans' z1⟩
      all_goals rw [HT.out]
      all_goals clear HT HH
      all_goals go_simp
      all_goals simp_all
      all_goals (try (apply ByteArray.ext; simp [ByteArray.data_append]))
    · obtain ⟨k, rfl⟩ : ∃ k : Nat, x = (k : Int) := ⟨x.toNat, by omega⟩
      rw [if_neg (show ¬ ((k : Int) = 0) from by omega), Lib.itoa_nonneg k] at HT
      have hdl : (Lib.decDigits k).length ≤ 5 := by
        rw [Lib.decDigits_length]
        exact Nat.le_trans (nDigits_le 3 k (by omega)) (by decide)
      have HT := Lib.hid HT
      go_enter Tryz.func16, Tryz.ntmps16
      go_wp2_with (first
        | (go_at_call 14; refine (rright06_of _ _ _ _ hl).mono ?_; rintro e w1 ⟨rfl, z1⟩; rw [← HH.out]; obtain ⟨c0, c1, c2⟩ := num_cells z1)
        | (go_at_call 40; refine (fromWord_of k _ (by omega)).mono ?_; rintro e w2 ⟨rfl, z2⟩))
      all_goals go_ret
      all_goals refine ⟨?_, ((Chg.alloc (Chg.refl _ _) _).trans' z1).trans' z2⟩
      all_goals rw [HT.out]
      all_goals clear HT HH
      all_goals go_simp
      all_goals simp_all
      all_goals (try (apply ByteArray.ext; simp [ByteArray.data_append]))
end Go.Proofs.YtkplgndcbngjoaaGreatDoor
