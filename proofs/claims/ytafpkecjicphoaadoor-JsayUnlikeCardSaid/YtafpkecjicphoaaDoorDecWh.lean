/- dec.Whole. -/
import Derived.Test.YtafpkecjicphoaaDoorDecD
namespace Go.Proofs.YtafpkecjicphoaaDoor
open Go Go.RowKit
set_option linter.unusedVariables false
set_option maxRecDepth 100000
set_option linter.unusedSimpArgs false

theorem cat_str (a b : List UInt8) : (⟨a.toArray⟩ : ByteArray) ++ ⟨b.toArray⟩ = ⟨(a ++ b).toArray⟩ := by
  apply ByteArray.ext; simp [ByteArray.data_append]
theorem repeatZ (c : Nat) : Lib.repeatL [48] c = List.replicate c 48 := by
  induction c with
  | zero => rfl
  | succ k ih =>
    simp [Lib.repeatL] at *
    rw [List.replicate_succ, ih]
theorem rep_of (c : Nat) (w : World) (hc : c ≤ 1000000) : Calls Tryd.prog 50 #[.string ⟨#[48]⟩, .int .i64 c] w fun e w' => e = .returned (.string ⟨(List.replicate c (48 : UInt8)).toArray⟩) ∧ Chg Pure' w w' := by
  have h1 : (⟨#[48]⟩ : ByteArray).size = 1 := rfl
  refine (Tryd.strings_Repeat ⟨#[48]⟩ c w (by omega) (by rw [h1]; omega)).mono ?_
  rintro e w' ⟨rfl, hB⟩
  exact ⟨by rw [← repeatZ], Below.chg hB⟩
set_option maxHeartbeats 2000000 in
theorem whole_of (n : Num) (w : World) (hl : n.dig.length ≤ 9223372036854775807) :
    Calls Tryd.prog 37 #[n.val] w fun e w' => e = .returned (.tuple #[.string ⟨(wholeA n).1.toArray⟩, .bool (wholeA n).2]) ∧ Chg Pure' w w' := by
  obtain ⟨R, hR⟩ : ∃ R, R = wholeA n := ⟨_, rfl⟩
  rw [← hR]
  obtain ⟨neg, l, x⟩ := n
  have HR := Lib.hid hR
  clear hR
  obtain ⟨r, hr⟩ : ∃ r, r = (⟨neg, l, x⟩ : Num).right := ⟨_, rfl⟩
  have hlen : r = true → l.length ≤ 800 ∧ -2000 ≤ x ∧ x ≤ 2000 := fun h => ⟨Num.right_len (n := ⟨neg, l, x⟩) (by rw [← hr]; exact h), Num.right_exp (n := ⟨neg, l, x⟩) (by rw [← hr]; exact h)⟩
  have HH := Lib.hid hr
  clear hr
  unfold Num.val
  cases r with
  | false =>
    go_enter Tryd.func37, Tryd.ntmps37
    go_wp2_with (first
      | (go_at_call 38; refine (decRight_any _ _ _ _ hl).mono ?_; rintro e w1 ⟨rfl, z1⟩; rw [← HH.out]; obtain ⟨c0, c1, c2⟩ := num_cells z1))
    go_ret2
    have hr : R = ([], false) := by rw [HR.out, wholeA, if_neg (by rw [← HH.out]; simp)]
    exact ⟨by rw [hr]; rfl, (Chg.alloc (Chg.refl _ _) _).trans' z1⟩
  | true =>
    obtain ⟨hl1, hx1⟩ := hlen rfl
    have HT : R = if 0 ≤ x ∧ x ≤ 800 - l.length then (l ++ List.replicate x.toNat 48, true) else ([], false) := by
      rw [HR.out, wholeA, ← HH.out]; simp
    have HT := Lib.hid HT
    clear HR
    go_enter Tryd.func37, Tryd.ntmps37
    go_wp2_with (first
      | (go_at_call 38; refine (decRight_any _ _ _ _ hl).mono ?_; rintro e w1 ⟨rfl, z1⟩; rw [← HH.out]; obtain ⟨c0, c1, c2⟩ := num_cells z1))
    · have hr : R = ([], false) := by rw [HT.out, if_neg (by omega)]
      go_ret2
      exact ⟨by rw [hr]; rfl, (Chg.alloc (Chg.refl _ _) _).trans' z1⟩
    · obtain ⟨k, rfl⟩ : ∃ k : Nat, x = k := ⟨x.toNat, by omega⟩
      have hr : R = (l ++ List.replicate k 48, true) := by rw [HT.out, if_pos (by assumption)]; rfl
      have hk : k ≤ 800 := by omega
      refine reg_begin (Pure') (by kernel_rfl) ?_
      refine reg_take 0 (v := ?_) rfl (by kernel_rfl) (by kernel_rfl) (by kernel_rfl) (fun _ _ _ h => h) (by kernel_rfl) ?_ ?_
      rotate_left
      · (intro w' hS; go_simp; (try go_bits); (try with_reducible rfl))
      try simp only [Act.put, List.getElem_toArray, List.getElem_cons_zero, List.getElem_cons_succ, List.setIfInBounds_toArray, List.set_cons_zero, List.set_cons_succ]
      refine reg_take 1 (v := ?_) rfl (by kernel_rfl) (by kernel_rfl) (by kernel_rfl) (fun _ _ _ h => h) (by kernel_rfl) ?_ ?_
      rotate_left
      · (intro w' hS; have hz := hS.cell (w := w1.drew) c1 (fun h => h); go_simp; (try go_bits); (try with_reducible rfl))
      try simp only [Act.put, List.getElem_toArray, List.getElem_cons_zero, List.getElem_cons_succ, List.setIfInBounds_toArray, List.set_cons_zero, List.set_cons_succ]
      refine reg_take 2 (v := ?_) rfl (by kernel_rfl) (by kernel_rfl) (by kernel_rfl) (fun _ _ _ h => h) (by kernel_rfl) ?_ ?_
      rotate_left
      · (intro w' hS; go_simp; (try go_bits); (try with_reducible rfl))
      try simp only [Act.put, List.getElem_toArray, List.getElem_cons_zero, List.getElem_cons_succ, List.setIfInBounds_toArray, List.set_cons_zero, List.set_cons_succ]
      refine reg_take 3 (v := ?_) rfl (by kernel_rfl) (by kernel_rfl) (by kernel_rfl) (fun _ _ _ h => h) (by kernel_rfl) ?_ ?_
      rotate_left
      · (intro w' hS; have hz := hS.cell (w := w1.drew) c2 (fun h => h); go_simp; (try go_bits); (try with_reducible rfl))
      try simp only [Act.put, List.getElem_toArray, List.getElem_cons_zero, List.getElem_cons_succ, List.setIfInBounds_toArray, List.set_cons_zero, List.set_cons_succ]
      refine reg_do 4 rfl (by kernel_rfl) (by kernel_rfl) ?_
      intro K hK
      go_simp
      refine (rep_of k _ (by omega)).mono ?_
      rintro e w2 ⟨rfl, z2⟩
      refine hK _ _ (z2) ?_
      clear hK K
      try simp only [Act.put, List.getElem_toArray, List.getElem_cons_zero, List.getElem_cons_succ, List.setIfInBounds_toArray, List.set_cons_zero, List.set_cons_succ]
      refine reg_take 5 (v := .string ⟨(l ++ List.replicate k (48 : UInt8)).toArray⟩) rfl (by kernel_rfl) (by kernel_rfl) (by kernel_rfl) (fun _ _ _ h => h) (by kernel_rfl) ?_ ?_
      · intro w' hS
        go_simp
        rw [if_neg (by omega)]
        have hcat : (⟨l.toArray⟩ : ByteArray) ++ ⟨Array.replicate k 48⟩ = ⟨(l ++ List.replicate k 48).toArray⟩ := by
          rw [← cat_str]; simp
        rw [hcat]
      simp only [Act.put, List.getElem_toArray, List.getElem_cons_zero, List.getElem_cons_succ, List.setIfInBounds_toArray, List.set_cons_zero, List.set_cons_succ]
      refine reg_take 6 (v := ?_) rfl (by kernel_rfl) (by kernel_rfl) (by kernel_rfl) (fun _ _ _ h => h) (by kernel_rfl) ?_ ?_
      rotate_left
      · (intro w' hS; go_simp; (try go_bits); (try with_reducible rfl))
      try simp only [Act.put, List.getElem_toArray, List.getElem_cons_zero, List.getElem_cons_succ, List.setIfInBounds_toArray, List.set_cons_zero, List.set_cons_succ]
      refine reg_take 7 (v := ?_) rfl (by kernel_rfl) (by kernel_rfl) (by kernel_rfl) (fun _ _ _ h => h) (by kernel_rfl) ?_ ?_
      rotate_left
      · (intro w' hS; go_simp; (try go_bits); (try with_reducible rfl))
      try simp only [Act.put, List.getElem_toArray, List.getElem_cons_zero, List.getElem_cons_succ, List.setIfInBounds_toArray, List.set_cons_zero, List.set_cons_succ]
      refine wpAnyH_done (by kernel_rfl) ?_ _
      go_wp2
      go_ret2
      exact ⟨by rw [hr]; rfl, ((Chg.alloc (Chg.refl _ _) _).trans' z1).trans' (((Chg.refl _ _).drew).trans' z2)⟩
    · go_ret2
      exact ⟨rfl, (Chg.alloc (Chg.refl _ _) _).trans' z1⟩
end Go.Proofs.YtafpkecjicphoaaDoor
