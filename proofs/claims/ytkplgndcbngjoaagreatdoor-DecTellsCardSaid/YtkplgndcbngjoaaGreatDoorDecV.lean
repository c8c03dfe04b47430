/- gantlineref06: Whole; the law DecTells. -/
import Derived.Test.YtkplgndcbngjoaaGreatDoorDecU
namespace Go.Proofs.YtkplgndcbngjoaaGreatDoor
open Go Go.RowKit
set_option linter.unusedVariables false
set_option maxRecDepth 100000
set_option linter.unusedSimpArgs false

set_option maxHeartbeats 4000000 in
theorem rwhole_of (n : Num) (w : World) (hl : n.dig.length ≤ 9223372036854775807) :
    Calls Tryz.prog 12 #[n.val] w fun e w' => e = .returned (.tuple #[.string ⟨(wholeA n).1.toArray⟩, .bool (wholeA n).2]) ∧ Chg Pure' w w' := by
  obtain ⟨R, hR⟩ : ∃ R, R = wholeA n := ⟨_, rfl⟩
  rw [← hR]
  obtain ⟨neg, l, x⟩ := n
  have HR := Lib.hid hR
  clear hR
  obtain ⟨r, hr⟩ : ∃ r, r = (⟨neg, l, x⟩ : Num).right := ⟨_, rfl⟩
  have hlen : r = true → l.length ≤ 800 ∧ -2000 ≤ x ∧ x ≤ 2000 := fun h => ⟨Num.right_len (n := ⟨neg, l, x⟩) (by rw [← hr]; exact h), Num.right_exp (n := ⟨neg, l, x⟩) (by rw [← hr]; exact h)⟩
  have HH := Lib.hid hr
  clear hr
  unfold Num.val
  cases r with
  | false =>
    have hr : R = ([], false) := by rw [HR.out, wholeA, if_neg (by rw [← HH.out]; simp)]
    go_enter Tryz.func12, Tryz.ntmps12
    go_wp2_with (first
      | (go_at_call 14; refine (rright06_of _ _ _ _ hl).mono ?_; rintro e w1 ⟨rfl, z1⟩; rw [← HH.out]; obtain ⟨c0, c1, c2⟩ := num_cells z1))
    all_goals go_ret2
    all_goals exact ⟨by first | rfl | (rw [hr]; rfl), (Chg.alloc (Chg.refl _ _) _).trans' z1⟩
  | true =>
    obtain ⟨hl1, hx1⟩ := hlen rfl
    have HT : R = if 0 ≤ x ∧ x ≤ 800 - l.length then (l ++ List.replicate x.toNat 48, true) else ([], false) := by
      rw [HR.out, wholeA, ← HH.out]; simp
    clear HR
    by_cases hx : 0 ≤ x ∧ x ≤ 800 - l.length
    · rw [if_pos hx] at HT
      obtain ⟨k, rfl⟩ : ∃ k : Nat, x = k := ⟨x.toNat, by omega⟩
      have HT := Lib.hid HT
      go_enter Tryz.func12, Tryz.ntmps12
      go_wp2_with (first
        | (go_at_call 14; refine (rright06_of _ _ _ _ hl).mono ?_; rintro e w1 ⟨rfl, z1⟩; rw [← HH.out]; obtain ⟨c0, c1, c2⟩ := num_cells z1))
      have hk : k ≤ 800 := by omega
      clear hx hx1
      rename 0 ≤ (k : Int) ∧ _ => hh
      clear hh
      go_loop [4, 5] (fun s i => ∃ m : Nat, m ≤ k ∧ s = .string ⟨(padS l m).toArray⟩ ∧ i = .int .i64 m) (fun s i => k - (intOf i).toNat)
      case atStart => exact ⟨0, Nat.zero_le _, by simp [padS], rfl⟩
      case round =>
        obtain ⟨m, hm, rfl, rfl⟩ := hrel
        rcases Nat.lt_or_ge m k with hlt | hge
        · have hs := padS_succ l m
          have hln := padS_len l m
          go_wp2
          exact ⟨⟨m + 1, hlt, by rw [← padS_succ], rfl⟩, by simp only [intOf]; omega⟩
        · obtain rfl : m = k := by omega
          go_wp2
          go_ret2
          exact ⟨by first | rfl | (rw [HT.out]; rfl), (Chg.alloc (Chg.refl _ _) _).trans' z1⟩
    · rw [if_neg hx] at HT
      have hx2 : x < 0 ∨ 800 < (l.length : Int) + x := by omega
      go_enter Tryz.func12, Tryz.ntmps12
      go_wp2_with (first
        | (go_at_call 14; refine (rright06_of _ _ _ _ hl).mono ?_; rintro e w1 ⟨rfl, z1⟩; rw [← HH.out]; obtain ⟨c0, c1, c2⟩ := num_cells z1))
      all_goals go_ret2
      all_goals exact ⟨by first | rfl | (rw [HT]; rfl), (Chg.alloc (Chg.refl _ _) _).trans' z1⟩
set_option maxHeartbeats 4000000 in
theorem law_DecTells (n : Num) (w : World) (hl : n.dig.length ≤ 9223372036854775807) (he : Env w) :
    Calls Tryz.prog 5 #[n.val] w fun e w' => e = .returned (.bool true) ∧ Chg Pure' w w' := by
  have hW := whole_of n
  have hV := rwhole_of n
  generalize wholeA n = P at *
  obtain ⟨ws, wb⟩ := P
  have hT := text_of n
  have hS := rtext_of n
  generalize textA n = t at *
  have hR := decRight_of n
  obtain ⟨neg, l, x⟩ := n
  have hQ := rright06_of neg l x
  generalize Num.right ⟨neg, l, x⟩ = r at *
  dsimp only [Num.val] at *
  have HW := Lib.hid hW
  have HV := Lib.hid hV
  have HT := Lib.hid hT
  have HS := Lib.hid hS
  have HR := Lib.hid hR
  have HQ := Lib.hid hQ
  clear hW hV hT hS hR hQ
  have y0 : Chg Pure' w (w.alloc (.cells #[.bool neg, .string ⟨l.toArray⟩, .int .i64 x] 23)) := Chg.alloc (Chg.refl _ _) _
  go_enter Tryz.func5, Tryz.ntmps5
  go_wp2_with (first
    | (go_at_call 11; refine (HW.out _ hl).mono ?_; rintro e w1 ⟨rfl, z1⟩; obtain ⟨c0, c1, c2⟩ := num_cells z1)
    | (go_at_call 12; refine (HV.out _ hl).mono ?_; rintro e w2 ⟨rfl, z2⟩; replace z1 := z1.trans' z2; clear c0 c1 c2; obtain ⟨c0, c1, c2⟩ := num_cells z1))
  refine reg_begin (Pure') (by kernel_rfl) ?_
  refine reg_take 0 (v := ?_) rfl (by kernel_rfl) (by kernel_rfl) (by kernel_rfl) (fun _ _ _ h => h) (by kernel_rfl) ?_ ?_
  rotate_left
  · (intro w' hS; have hz := hS.cell (w := w2.drew) c0 (fun h => h); have hz2 := hS.cell (w := w2.drew) c1 (fun h => h); have hz3 := hS.cell (w := w2.drew) c2 (fun h => h); go_simp; (try go_bits); (try with_reducible rfl))
  try simp only [Act.put, List.getElem_toArray, List.getElem_cons_zero, List.getElem_cons_succ, List.setIfInBounds_toArray, List.set_cons_zero, List.set_cons_succ]
  refine reg_take 2 (v := ?_) rfl (by kernel_rfl) (by kernel_rfl) (by kernel_rfl) (fun _ _ _ h => h) (by kernel_rfl) ?_ ?_
  rotate_left
  · (intro w' hS; have hz := hS.cell (w := w2.drew) c0 (fun h => h); have hz2 := hS.cell (w := w2.drew) c1 (fun h => h); have hz3 := hS.cell (w := w2.drew) c2 (fun h => h); go_simp; (try go_bits); (try with_reducible rfl))
  try simp only [Act.put, List.getElem_toArray, List.getElem_cons_zero, List.getElem_cons_succ, List.setIfInBounds_toArray, List.set_cons_zero, List.set_cons_succ]
  refine reg_do 1 rfl (by kernel_rfl) (by kernel_rfl) ?_
  intro K hK
  go_simp
  refine (HR.out _ hl).mono ?_
  rintro e w3 ⟨rfl, z3⟩
  refine hK _ _ (z3) ?_
  clear hK K
  try simp only [Act.put, List.getElem_toArray, List.getElem_cons_zero, List.getElem_cons_succ, List.setIfInBounds_toArray, List.set_cons_zero, List.set_cons_succ]
  refine reg_do 3 rfl (by kernel_rfl) (by kernel_rfl) ?_
  intro K hK
  go_simp
  refine (HQ.out _ hl).mono ?_
  rintro e w4 ⟨rfl, z4⟩
  refine hK _ _ (z4) ?_
  clear hK K
  try simp only [Act.put, List.getElem_toArray, List.getElem_cons_zero, List.getElem_cons_succ, List.setIfInBounds_toArray, List.set_cons_zero, List.set_cons_succ]
  have y4 := (((Chg.refl Pure' w2).drew).trans' z3).trans' z4
  have d0 := y4.cell c0 (fun h => h)
  have d1 := y4.cell c1 (fun h => h)
  have d2 := y4.cell c2 (fun h => h)
  replace z1 := z1.trans' y4
  refine reg_take 4 (v := ?_) rfl (by kernel_rfl) (by kernel_rfl) (by kernel_rfl) (fun _ _ _ h => h) (by kernel_rfl) ?_ ?_
  rotate_left
  · (intro w' hS; go_simp; (try go_bits); (try with_reducible rfl))
  try simp only [Act.put, List.getElem_toArray, List.getElem_cons_zero, List.getElem_cons_succ, List.setIfInBounds_toArray, List.set_cons_zero, List.set_cons_succ]
  refine reg_take 5 (v := ?_) rfl (by kernel_rfl) (by kernel_rfl) (by kernel_rfl) (fun _ _ _ h => h) (by kernel_rfl) ?_ ?_
  rotate_left
  · (intro w' hS; go_simp; (try go_bits); (try with_reducible rfl))
  try simp only [Act.put, List.getElem_toArray, List.getElem_cons_zero, List.getElem_cons_succ, List.setIfInBounds_toArray, List.set_cons_zero, List.set_cons_succ]
  refine reg_take 6 (v := ?_) rfl (by kernel_rfl) (by kernel_rfl) (by kernel_rfl) (fun _ _ _ h => h) (by kernel_rfl) ?_ ?_
  rotate_left
  · (intro w' hS; have hz := hS.cell (w := w4) d0 (fun h => h); have hz2 := hS.cell (w := w4) d1 (fun h => h); have hz3 := hS.cell (w := w4) d2 (fun h => h); go_simp; (try go_bits); (try with_reducible rfl))
  try simp only [Act.put, List.getElem_toArray, List.getElem_cons_zero, List.getElem_cons_succ, List.setIfInBounds_toArray, List.set_cons_zero, List.set_cons_succ]
  refine reg_take 8 (v := ?_) rfl (by kernel_rfl) (by kernel_rfl) (by kernel_rfl) (fun _ _ _ h => h) (by kernel_rfl) ?_ ?_
  rotate_left
  · (intro w' hS; have hz := hS.cell (w := w4) d0 (fun h => h); have hz2 := hS.cell (w := w4) d1 (fun h => h); have hz3 := hS.cell (w := w4) d2 (fun h => h); go_simp; (try go_bits); (try with_reducible rfl))
  try simp only [Act.put, List.getElem_toArray, List.getElem_cons_zero, List.getElem_cons_succ, List.setIfInBounds_toArray, List.set_cons_zero, List.set_cons_succ]
  refine reg_do 7 rfl (by kernel_rfl) (by kernel_rfl) ?_
  intro K hK
  go_simp
  refine (HT.out _ hl (he.pure (y0.trans' z1))).mono ?_
  rintro e w5 ⟨rfl, z5⟩
  refine hK _ _ (z5) ?_
  clear hK K
  try simp only [Act.put, List.getElem_toArray, List.getElem_cons_zero, List.getElem_cons_succ, List.setIfInBounds_toArray, List.set_cons_zero, List.set_cons_succ]
  refine reg_do 9 rfl (by kernel_rfl) (by kernel_rfl) ?_
  intro K hK
  go_simp
  refine (HS.out _ hl).mono ?_
  rintro e w6 ⟨rfl, z6⟩
  refine hK _ _ (z6) ?_
  clear hK K
  try simp only [Act.put, List.getElem_toArray, List.getElem_cons_zero, List.getElem_cons_succ, List.setIfInBounds_toArray, List.set_cons_zero, List.set_cons_succ]
  replace z1 := (z1.trans' z5).trans' z6
  refine reg_take 10 (v := ?_) rfl (by kernel_rfl) (by kernel_rfl) (by kernel_rfl) (fun _ _ _ h => h) (by kernel_rfl) ?_ ?_
  rotate_left
  · (intro w' hS; go_simp; (try go_bits); (try with_reducible rfl))
  try simp only [Act.put, List.getElem_toArray, List.getElem_cons_zero, List.getElem_cons_succ, List.setIfInBounds_toArray, List.set_cons_zero, List.set_cons_succ]
  refine reg_take 11 (v := ?_) rfl (by kernel_rfl) (by kernel_rfl) (by kernel_rfl) (fun _ _ _ h => h) (by kernel_rfl) ?_ ?_
  rotate_left
  · (intro w' hS; go_simp; (try go_bits); (try with_reducible rfl))
  try simp only [Act.put, List.getElem_toArray, List.getElem_cons_zero, List.getElem_cons_succ, List.setIfInBounds_toArray, List.set_cons_zero, List.set_cons_succ]
  refine reg_take 12 (v := ?_) rfl (by kernel_rfl) (by kernel_rfl) (by kernel_rfl) (fun _ _ _ h => h) (by kernel_rfl) ?_ ?_
  rotate_left
  · (intro w' hS; go_simp; (try go_bits); (try with_reducible rfl))
  try simp only [Act.put, List.getElem_toArray, List.getElem_cons_zero, List.getElem_cons_succ, List.setIfInBounds_toArray, List.set_cons_zero, List.set_cons_succ]
  refine reg_take 13 (v := ?_) rfl (by kernel_rfl) (by kernel_rfl) (by kernel_rfl) (fun _ _ _ h => h) (by kernel_rfl) ?_ ?_
  rotate_left
  · (intro w' hS; go_simp; (try go_bits); (try with_reducible rfl))
  try simp only [Act.put, List.getElem_toArray, List.getElem_cons_zero, List.getElem_cons_succ, List.setIfInBounds_toArray, List.set_cons_zero, List.set_cons_succ]
  refine reg_take 14 (v := ?_) rfl (by kernel_rfl) (by kernel_rfl) (by kernel_rfl) (fun _ _ _ h => h) (by kernel_rfl) ?_ ?_
  rotate_left
  · (intro w' hS; go_simp; (try go_bits); (try with_reducible rfl))
  try simp only [Act.put, List.getElem_toArray, List.getElem_cons_zero, List.getElem_cons_succ, List.setIfInBounds_toArray, List.set_cons_zero, List.set_cons_succ]
  refine reg_take 15 (v := ?_) rfl (by kernel_rfl) (by kernel_rfl) (by kernel_rfl) (fun _ _ _ h => h) (by kernel_rfl) ?_ ?_
  rotate_left
  · (intro w' hS; go_simp; (try go_bits); (try with_reducible rfl))
  try simp only [Act.put, List.getElem_toArray, List.getElem_cons_zero, List.getElem_cons_succ, List.setIfInBounds_toArray, List.set_cons_zero, List.set_cons_succ]
  refine reg_take 16 (v := ?_) rfl (by kernel_rfl) (by kernel_rfl) (by kernel_rfl) (fun _ _ _ h => h) (by kernel_rfl) ?_ ?_
  rotate_left
  · (intro w' hS; go_simp; (try go_bits); (try with_reducible rfl))
  try simp only [Act.put, List.getElem_toArray, List.getElem_cons_zero, List.getElem_cons_succ, List.setIfInBounds_toArray, List.set_cons_zero, List.set_cons_succ]
  refine reg_take 17 (v := ?_) rfl (by kernel_rfl) (by kernel_rfl) (by kernel_rfl) (fun _ _ _ h => h) (by kernel_rfl) ?_ ?_
  rotate_left
  · (intro w' hS; go_simp; (try go_bits); (try with_reducible rfl))
  try simp only [Act.put, List.getElem_toArray, List.getElem_cons_zero, List.getElem_cons_succ, List.setIfInBounds_toArray, List.set_cons_zero, List.set_cons_succ]
  refine reg_take 18 (v := ?_) rfl (by kernel_rfl) (by kernel_rfl) (by kernel_rfl) (fun _ _ _ h => h) (by kernel_rfl) ?_ ?_
  rotate_left
  · (intro w' hS; go_simp; (try go_bits); (try with_reducible rfl))
  try simp only [Act.put, List.getElem_toArray, List.getElem_cons_zero, List.getElem_cons_succ, List.setIfInBounds_toArray, List.set_cons_zero, List.set_cons_succ]
  refine reg_take 19 (v := ?_) rfl (by kernel_rfl) (by kernel_rfl) (by kernel_rfl) (fun _ _ _ h => h) (by kernel_rfl) ?_ ?_
  rotate_left
  · (intro w' hS; go_simp; (try go_bits); (try with_reducible rfl))
  try simp only [Act.put, List.getElem_toArray, List.getElem_cons_zero, List.getElem_cons_succ, List.setIfInBounds_toArray, List.set_cons_zero, List.set_cons_succ]
  refine reg_take 20 (v := ?_) rfl (by kernel_rfl) (by kernel_rfl) (by kernel_rfl) (fun _ _ _ h => h) (by kernel_rfl) ?_ ?_
  rotate_left
  · (intro w' hS; go_simp; (try go_bits); (try with_reducible rfl))
  try simp only [Act.put, List.getElem_toArray, List.getElem_cons_zero, List.getElem_cons_succ, List.setIfInBounds_toArray, List.set_cons_zero, List.set_cons_succ]
  refine reg_take 21 (v := ?_) rfl (by kernel_rfl) (by kernel_rfl) (by kernel_rfl) (fun _ _ _ h => h) (by kernel_rfl) ?_ ?_
  rotate_left
  · (intro w' hS; go_simp; (try go_bits); (try with_reducible rfl))
  try simp only [Act.put, List.getElem_toArray, List.getElem_cons_zero, List.getElem_cons_succ, List.setIfInBounds_toArray, List.set_cons_zero, List.set_cons_succ]
  refine reg_take 22 (v := ?_) rfl (by kernel_rfl) (by kernel_rfl) (by kernel_rfl) (fun _ _ _ h => h) (by kernel_rfl) ?_ ?_
  rotate_left
  · (intro w' hS; go_simp; (try go_bits); (try with_reducible rfl))
  try simp only [Act.put, List.getElem_toArray, List.getElem_cons_zero, List.getElem_cons_succ, List.setIfInBounds_toArray, List.set_cons_zero, List.set_cons_succ]
  refine reg_do 23 rfl (by kernel_rfl) (by kernel_rfl) ?_
  intro K hK
  go_simp
  refine (alive06 _ (he.pure (y0.trans' z1))).mono ?_
  rintro e w7 ⟨rfl, z7⟩
  refine hK _ _ (z7) ?_
  clear hK K
  try simp only [Act.put, List.getElem_toArray, List.getElem_cons_zero, List.getElem_cons_succ, List.setIfInBounds_toArray, List.set_cons_zero, List.set_cons_succ]
  refine reg_take 24 (v := ?_) rfl (by kernel_rfl) (by kernel_rfl) (by kernel_rfl) (fun _ _ _ h => h) (by kernel_rfl) ?_ ?_
  rotate_left
  · (intro w' hS; go_simp; (try go_bits); (try with_reducible rfl))
  try simp only [Act.put, List.getElem_toArray, List.getElem_cons_zero, List.getElem_cons_succ, List.setIfInBounds_toArray, List.set_cons_zero, List.set_cons_succ]
  refine reg_take 25 (v := ?_) rfl (by kernel_rfl) (by kernel_rfl) (by kernel_rfl) (fun _ _ _ h => h) (by kernel_rfl) ?_ ?_
  rotate_left
  · (intro w' hS; go_simp; (try go_bits); (try with_reducible rfl))
  try simp only [Act.put, List.getElem_toArray, List.getElem_cons_zero, List.getElem_cons_succ, List.setIfInBounds_toArray, List.set_cons_zero, List.set_cons_succ]
  refine wpAnyH_done (by kernel_rfl) ?_ _
  go_wp2
  go_ret
  exact ⟨rfl, (y0.trans' z1).trans' z7⟩
end Go.Proofs.YtkplgndcbngjoaaGreatDoor
