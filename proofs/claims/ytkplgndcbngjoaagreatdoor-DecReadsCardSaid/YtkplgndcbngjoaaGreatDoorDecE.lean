/- dec: b2i, cmp.Or, Order. -/
import Derived.Test.YtkplgndcbngjoaaGreatDoorDecC
import Derived.Test.YtkplgndcbngjoaaGreatDoorReg
namespace Go.Proofs.YtkplgndcbngjoaaGreatDoor
open Go Go.RowKit
set_option linter.unusedVariables false
set_option maxRecDepth 100000
set_option linter.unusedSimpArgs false

theorem b2i_of (b : Bool) (w : World) : Calls Tryz.prog 31 #[.bool b] w fun e w' => e = .returned (.int .i64 (b2iB b)) ∧ w = w' := by
  cases b <;> (go_enter Tryz.func31, Tryz.ntmps31; go_wp2; go_ret; exact ⟨rfl, rfl⟩)
set_option maxHeartbeats 2000000 in
theorem cmpOr_of (g : Nat) (x y : Int) (c : Nat) (w : World) (h0 : w.cell? ⟨g, 0, none⟩ = some (.int .i64 x)) (h1 : w.cell? ⟨g, 1, none⟩ = some (.int .i64 y)) :
    Calls Tryz.prog 32 #[.slice (some ⟨g, 0, none⟩) 2 c] w fun e w' => e = .returned (.int .i64 (orI x y)) ∧ w = w' := by
  obtain ⟨R, hR⟩ : ∃ R, R = orI x y := ⟨_, rfl⟩
  rw [← hR]
  have HR := Lib.hid hR
  clear hR
  go_enter Tryz.func32, Tryz.ntmps32
  go_wp2
  go_loop [8] (fun i => ∃ k : Nat, k ≤ 2 ∧ i = .int .i64 k ∧ Hid ((1 ≤ k → x = 0) ∧ (k = 2 → y = 0))) (fun i => 2 - (intOf i).toNat)
  case atStart => exact ⟨0, by omega, rfl, Lib.hid ⟨by omega, by omega⟩⟩
  case round =>
    obtain ⟨k, hk, rfl, HZ⟩ := hrel
    rcases (by omega : k = 0 ∨ k = 1 ∨ k = 2) with rfl | rfl | rfl
    · by_cases hx : x = 0
      · subst hx
        go_wp2
        go_round
        case rel => exact ⟨1, by omega, rfl, Lib.hid (by simp)⟩
        case measure => simp [intOf]
      · go_wp2
        go_ret
        exact ⟨by rw [HR.out, orI, if_pos hx]; rfl, rfl⟩
    · have hx := HZ.out.1 (by omega)
      subst hx
      by_cases hy : y = 0
      · subst hy
        go_wp2
        go_round
        case rel => exact ⟨2, by omega, rfl, Lib.hid (by simp)⟩
        case measure => simp [intOf]
      · go_wp2
        go_ret
        exact ⟨by rw [HR.out]; rfl, rfl⟩
    · have hx := HZ.out.1 (by omega)
      have hy := HZ.out.2 (by omega)
      subst hx
      subst hy
      go_wp2
      go_ret
      exact ⟨by rw [HR.out]; rfl, rfl⟩
theorem decRight_any (neg : Bool) (l : List UInt8) (x : Int) (w : World) (hl : l.length ≤ 9223372036854775807) :
    Calls Tryz.prog 13 #[.agg #[.bool neg, .string ⟨l.toArray⟩, .int .i64 x]] w fun e w' => e = .returned (.bool (Num.right ⟨neg, l, x⟩)) ∧ Chg Pure' w w' := decRight_of ⟨neg, l, x⟩ w hl
theorem num2_cells {w w1 : World} {a b c a' b' c' : Value} {t : TypeId} (z : Chg Pure' ((w.alloc (.cells #[a, b, c] t)).alloc (.cells #[a', b', c'] t)) w1) :
    (w1.heap[w.heap.size]? = some (.cells #[a, b, c] t (0, 0))) ∧ (w1.heap[w.heap.size + 1]? = some (.cells #[a', b', c'] t (0, 0))) := by
  constructor
  · refine (z.block w.heap.size (by simp; omega) (fun h => h)).trans ?_
    rw [Below.heap_alloc _ _ _ (by simp)]
    exact Array.getElem?_push_size
  · refine (z.block (w.heap.size + 1) (by simp) (fun h => h)).trans ?_
    have : w.heap.size + 1 = (w.alloc (.cells #[a, b, c] t)).heap.size := by simp
    rw [this]
    exact Array.getElem?_push_size
theorem blk_cells {w : World} {g : Nat} {a b c : Value} {t : TypeId} (h : w.heap[g]? = some (.cells #[a, b, c] t (0, 0))) :
    w.cell? ⟨g, 0, none⟩ = some a ∧ w.cell? ⟨g, 1, none⟩ = some b ∧ w.cell? ⟨g, 2, none⟩ = some c ∧ w.frozen? ⟨g, 0, none⟩ = false ∧ w.frozen? ⟨g, 1, none⟩ = false ∧ w.frozen? ⟨g, 2, none⟩ = false := by
  have e := fun j => cell_of_row w g j #[a, b, c] t (0, 0) h
  exact ⟨(e 0).trans rfl, (e 1).trans rfl, (e 2).trans rfl, free_at h, free_at h, free_at h⟩
theorem not_beq (l : List UInt8) : (!l == [48]) = decide (l ≠ [48]) := by rw [Bool.eq_iff_iff]; simp
set_option maxHeartbeats 4000000 in
theorem order_of (a b : Num) (w : World) (hla : a.dig.length ≤ 9223372036854775807) (hlb : b.dig.length ≤ 9223372036854775807) :
    Calls Tryz.prog 9 #[a.val, b.val] w fun e w' => e = .returned (.tuple #[.int .i64 (orderA a b).1, .int .i64 (orderA a b).2]) ∧ Chg Pure' w w' := by
  obtain ⟨R, hR⟩ : ∃ R, R = orderA a b := ⟨_, rfl⟩
  rw [← hR]
  have HR := Lib.hid hR
  clear hR
  obtain ⟨an, al, ax⟩ := a
  obtain ⟨bn, bl, bx⟩ := b
  obtain ⟨ra, hra⟩ : ∃ r, r = (⟨an, al, ax⟩ : Num).right := ⟨_, rfl⟩
  obtain ⟨rb, hrb⟩ : ∃ r, r = (⟨bn, bl, bx⟩ : Num).right := ⟨_, rfl⟩
  have hal : ra = true → al.length ≤ 800 ∧ -2000 ≤ ax ∧ ax ≤ 2000 := fun h => ⟨Num.right_len (n := ⟨an, al, ax⟩) (by rw [← hra]; exact h), Num.right_exp (n := ⟨an, al, ax⟩) (by rw [← hra]; exact h)⟩
  have hbl : rb = true → bl.length ≤ 800 ∧ -2000 ≤ bx ∧ bx ≤ 2000 := fun h => ⟨Num.right_len (n := ⟨bn, bl, bx⟩) (by rw [← hrb]; exact h), Num.right_exp (n := ⟨bn, bl, bx⟩) (by rw [← hrb]; exact h)⟩
  have HA := Lib.hid hra
  have HB := Lib.hid hrb
  clear hra hrb
  unfold Num.val
  replace hla : al.length ≤ 9223372036854775807 := hla
  replace hlb : bl.length ≤ 9223372036854775807 := hlb
  cases ra with
  | false =>
    go_enter Tryz.func9, Tryz.ntmps9
    go_wp2_with (first
      | (go_at_call 13; refine (decRight_any _ _ _ _ hla).mono ?_; rintro e w1 ⟨rfl, z1⟩; rw [← HA.out]))
    go_ret2
    exact ⟨by rw [HR.out, orderA, ← HA.out]; rfl, ((Chg.alloc (Chg.refl _ _) _).alloc _).trans' z1⟩
  | true =>
    cases rb with
    | false =>
      have fin : ∀ w', Chg Pure' w w' → (Ending.returned (.tuple #[.int .i64 0, .int .i64 1]) = Ending.returned (.tuple #[.int .i64 R.1, .int .i64 R.2]) ∧ Chg Pure' w w') := fun w' hc => ⟨by rw [HR.out, orderA, ← HA.out, ← HB.out]; rfl, hc⟩
      go_enter Tryz.func9, Tryz.ntmps9
      go_wp2_with (first
        | (go_at_call 13; refine (decRight_any _ _ _ _ (by first | exact hla | exact hlb)).mono ?_; first
            | (rintro e w1 ⟨rfl, z1⟩; rw [← HA.out]; obtain ⟨k1, k2⟩ := num2_cells z1; obtain ⟨a0, a1, a2, -⟩ := blk_cells k1; obtain ⟨b0, b1, b2, -⟩ := blk_cells k2)
            | (rintro e w2 ⟨rfl, z2⟩; rw [← HB.out])))
      go_ret2
      exact fin _ ((((Chg.alloc (Chg.refl _ _) _).alloc _).trans' z1).trans' z2)
    | true =>
      obtain ⟨hl1, hx1⟩ := hal rfl
      obtain ⟨hl2, hx2⟩ := hbl rfl
      have ho : R = if an ≠ bn then (if an then -1 else 1, 0) else (if an then sizeA ⟨bn, bl, bx⟩ ⟨an, al, ax⟩ else sizeA ⟨an, al, ax⟩ ⟨bn, bl, bx⟩, 0) := by
        rw [HR.out, orderA, ← HA.out, ← HB.out, if_neg (by simp)]
      have HO := Lib.hid ho
      clear ho HR
      cases an with
      | false =>
        cases bn with
        | true =>
          go_enter Tryz.func9, Tryz.ntmps9
          go_wp2_with (first
            | (go_at_call 13; refine (decRight_any _ _ _ _ (by first | exact hla | exact hlb)).mono ?_; first
                | (rintro e w1 ⟨rfl, z1⟩; rw [← HA.out]; obtain ⟨k1, k2⟩ := num2_cells z1; obtain ⟨a0, a1, a2, -⟩ := blk_cells k1; obtain ⟨b0, b1, b2, -⟩ := blk_cells k2)
                | (rintro e w2 ⟨rfl, z2⟩; rw [← HB.out]; have z3 := z1.trans' z2; clear a0 a1 a2 b0 b1 b2 k1 k2 z1 z2; obtain ⟨k1, k2⟩ := num2_cells z3; obtain ⟨a0, a1, a2, af0, af1, af2⟩ := blk_cells k1; obtain ⟨b0, b1, b2, bf0, bf1, bf2⟩ := blk_cells k2)))
          go_ret2
          exact ⟨by rw [HO.out]; rfl, (((Chg.alloc (Chg.refl _ _) _).alloc _).trans' z3)⟩
        | false =>
          go_enter Tryz.func9, Tryz.ntmps9
          go_wp2_with (first
            | (go_at_call 13; refine (decRight_any _ _ _ _ (by first | exact hla | exact hlb)).mono ?_; first
                | (rintro e w1 ⟨rfl, z1⟩; rw [← HA.out]; obtain ⟨k1, k2⟩ := num2_cells z1; obtain ⟨a0, a1, a2, -⟩ := blk_cells k1; obtain ⟨b0, b1, b2, -⟩ := blk_cells k2)
                | (rintro e w2 ⟨rfl, z2⟩; rw [← HB.out]; have z3 := z1.trans' z2; clear a0 a1 a2 b0 b1 b2 k1 k2 z1 z2; obtain ⟨k1, k2⟩ := num2_cells z3; obtain ⟨a0, a1, a2, af0, af1, af2⟩ := blk_cells k1; obtain ⟨b0, b1, b2, bf0, bf1, bf2⟩ := blk_cells k2)))
          · -- the first is 0
            refine reg_begin (Pure') (by kernel_rfl) ?_
            refine reg_take 0 (v := ?_) rfl (by kernel_rfl) (by kernel_rfl) (by kernel_rfl) (fun _ _ _ h => h) (by kernel_rfl) ?_ ?_
            rotate_left
            · (intro w' hS; go_simp; (try go_bits); (try with_reducible rfl))
            try simp only [Act.put, List.getElem_toArray, List.getElem_cons_zero, List.getElem_cons_succ, List.setIfInBounds_toArray, List.set_cons_zero, List.set_cons_succ]
            refine reg_take 1 (v := ?_) rfl (by kernel_rfl) (by kernel_rfl) (by kernel_rfl) (fun _ _ _ h => h) (by kernel_rfl) ?_ ?_
            rotate_left
            · (intro w' hS; have hz := hS.cell (w := w2.drew) a1 (fun h => h); go_simp; (try go_bits); (try with_reducible rfl))
            try simp only [Act.put, List.getElem_toArray, List.getElem_cons_zero, List.getElem_cons_succ, List.setIfInBounds_toArray, List.set_cons_zero, List.set_cons_succ]
            refine reg_take 2 (v := ?_) rfl (by kernel_rfl) (by kernel_rfl) (by kernel_rfl) (fun _ _ _ h => h) (by kernel_rfl) ?_ ?_
            rotate_left
            · (intro w' hS; go_simp; (try go_bits); (try with_reducible rfl))
            try simp only [Act.put, List.getElem_toArray, List.getElem_cons_zero, List.getElem_cons_succ, List.setIfInBounds_toArray, List.set_cons_zero, List.set_cons_succ]
            refine reg_take 4 (v := ?_) rfl (by kernel_rfl) (by kernel_rfl) (by kernel_rfl) (fun _ _ _ h => h) (by kernel_rfl) ?_ ?_
            rotate_left
            · (intro w' hS; go_simp; (try go_bits); (try with_reducible rfl))
            try simp only [Act.put, List.getElem_toArray, List.getElem_cons_zero, List.getElem_cons_succ, List.setIfInBounds_toArray, List.set_cons_zero, List.set_cons_succ]
            refine reg_take 5 (v := ?_) rfl (by kernel_rfl) (by kernel_rfl) (by kernel_rfl) (fun _ _ _ h => h) (by kernel_rfl) ?_ ?_
            rotate_left
            · (intro w' hS; have hz := hS.cell (w := w2.drew) b1 (fun h => h); go_simp; (try go_bits); (try with_reducible rfl))
            try simp only [Act.put, List.getElem_toArray, List.getElem_cons_zero, List.getElem_cons_succ, List.setIfInBounds_toArray, List.set_cons_zero, List.set_cons_succ]
            refine reg_take 6 (v := ?_) rfl (by kernel_rfl) (by kernel_rfl) (by kernel_rfl) (fun _ _ _ h => h) (by kernel_rfl) ?_ ?_
            rotate_left
            · (intro w' hS; go_simp; (try go_bits); (try with_reducible rfl))
            try simp only [Act.put, List.getElem_toArray, List.getElem_cons_zero, List.getElem_cons_succ, List.setIfInBounds_toArray, List.set_cons_zero, List.set_cons_succ]
            refine reg_do 3 rfl (by kernel_rfl) (by kernel_rfl) ?_
            intro K hK
            go_simp
            refine (b2i_of _ _).mono ?_
            rintro e v1 ⟨rfl, rfl⟩
            refine hK _ _ (Chg.refl _ _) ?_
            clear hK K
            try simp only [Act.put, List.getElem_toArray, List.getElem_cons_zero, List.getElem_cons_succ, List.setIfInBounds_toArray, List.set_cons_zero, List.set_cons_succ]
            refine reg_do 7 rfl (by kernel_rfl) (by kernel_rfl) ?_
            intro K hK
            go_simp
            refine (b2i_of _ _).mono ?_
            rintro e v1 ⟨rfl, rfl⟩
            refine hK _ _ (Chg.refl _ _) ?_
            clear hK K
            try simp only [Act.put, List.getElem_toArray, List.getElem_cons_zero, List.getElem_cons_succ, List.setIfInBounds_toArray, List.set_cons_zero, List.set_cons_succ]
            refine reg_do 8 rfl (by kernel_rfl) (by kernel_rfl) ?_
            intro K hK
            go_simp
            refine (Tryz.cmp_Compare_int _ _ _).mono ?_
            rintro e v1 ⟨rfl, rfl⟩
            refine hK _ _ (Chg.refl _ _) ?_
            clear hK K
            try simp only [Act.put, List.getElem_toArray, List.getElem_cons_zero, List.getElem_cons_succ, List.setIfInBounds_toArray, List.set_cons_zero, List.set_cons_succ]
            refine reg_take 9 (v := ?_) rfl (by kernel_rfl) (by kernel_rfl) (by kernel_rfl) (fun _ _ _ h => h) (by kernel_rfl) ?_ ?_
            rotate_left
            · (intro w' hS; go_simp; (try go_bits); (try with_reducible rfl))
            try simp only [Act.put, List.getElem_toArray, List.getElem_cons_zero, List.getElem_cons_succ, List.setIfInBounds_toArray, List.set_cons_zero, List.set_cons_succ]
            refine reg_take 10 (v := ?_) rfl (by kernel_rfl) (by kernel_rfl) (by kernel_rfl) (fun _ _ _ h => h) (by kernel_rfl) ?_ ?_
            rotate_left
            · (intro w' hS; go_simp; (try go_bits); (try with_reducible rfl))
            try simp only [Act.put, List.getElem_toArray, List.getElem_cons_zero, List.getElem_cons_succ, List.setIfInBounds_toArray, List.set_cons_zero, List.set_cons_succ]
            refine wpAnyH_done (by kernel_rfl) ?_ _
            go_wp2
            go_ret2
            refine ⟨?_, ((Chg.alloc (Chg.refl _ _) _).alloc _).trans' (z3.trans' (Chg.refl _ _).drew)⟩
            have ha : al = [48] := by assumption
            have hr : R = (Lib.compareInt (b2iB false) (b2iB (!bl == [48])), 0) := by rw [HO.out]; simp [sizeA, not_beq, ha]
            rw [hr]; rfl
          · -- the first is 0
            refine reg_begin (Pure') (by kernel_rfl) ?_
            refine reg_take 0 (v := ?_) rfl (by kernel_rfl) (by kernel_rfl) (by kernel_rfl) (fun _ _ _ h => h) (by kernel_rfl) ?_ ?_
            rotate_left
            · (intro w' hS; go_simp; (try go_bits); (try with_reducible rfl))
            try simp only [Act.put, List.getElem_toArray, List.getElem_cons_zero, List.getElem_cons_succ, List.setIfInBounds_toArray, List.set_cons_zero, List.set_cons_succ]
            refine reg_take 1 (v := ?_) rfl (by kernel_rfl) (by kernel_rfl) (by kernel_rfl) (fun _ _ _ h => h) (by kernel_rfl) ?_ ?_
            rotate_left
            · (intro w' hS; have hz := hS.cell (w := w2.drew) a1 (fun h => h); go_simp; (try go_bits); (try with_reducible rfl))
            try simp only [Act.put, List.getElem_toArray, List.getElem_cons_zero, List.getElem_cons_succ, List.setIfInBounds_toArray, List.set_cons_zero, List.set_cons_succ]
            refine reg_take 2 (v := ?_) rfl (by kernel_rfl) (by kernel_rfl) (by kernel_rfl) (fun _ _ _ h => h) (by kernel_rfl) ?_ ?_
            rotate_left
            · (intro w' hS; go_simp; (try go_bits); (try with_reducible rfl))
            try simp only [Act.put, List.getElem_toArray, List.getElem_cons_zero, List.getElem_cons_succ, List.setIfInBounds_toArray, List.set_cons_zero, List.set_cons_succ]
            refine reg_take 4 (v := ?_) rfl (by kernel_rfl) (by kernel_rfl) (by kernel_rfl) (fun _ _ _ h => h) (by kernel_rfl) ?_ ?_
            rotate_left
            · (intro w' hS; go_simp; (try go_bits); (try with_reducible rfl))
            try simp only [Act.put, List.getElem_toArray, List.getElem_cons_zero, List.getElem_cons_succ, List.setIfInBounds_toArray, List.set_cons_zero, List.set_cons_succ]
            refine reg_take 5 (v := ?_) rfl (by kernel_rfl) (by kernel_rfl) (by kernel_rfl) (fun _ _ _ h => h) (by kernel_rfl) ?_ ?_
            rotate_left
            · (intro w' hS; have hz := hS.cell (w := w2.drew) b1 (fun h => h); go_simp; (try go_bits); (try with_reducible rfl))
            try simp only [Act.put, List.getElem_toArray, List.getElem_cons_zero, List.getElem_cons_succ, List.setIfInBounds_toArray, List.set_cons_zero, List.set_cons_succ]
            refine reg_take 6 (v := ?_) rfl (by kernel_rfl) (by kernel_rfl) (by kernel_rfl) (fun _ _ _ h => h) (by kernel_rfl) ?_ ?_
            rotate_left
            · (intro w' hS; go_simp; (try go_bits); (try with_reducible rfl))
            try simp only [Act.put, List.getElem_toArray, List.getElem_cons_zero, List.getElem_cons_succ, List.setIfInBounds_toArray, List.set_cons_zero, List.set_cons_succ]
            refine reg_do 3 rfl (by kernel_rfl) (by kernel_rfl) ?_
            intro K hK
            go_simp
            refine (b2i_of _ _).mono ?_
            rintro e v1 ⟨rfl, rfl⟩
            refine hK _ _ (Chg.refl _ _) ?_
            clear hK K
            try simp only [Act.put, List.getElem_toArray, List.getElem_cons_zero, List.getElem_cons_succ, List.setIfInBounds_toArray, List.set_cons_zero, List.set_cons_succ]
            refine reg_do 7 rfl (by kernel_rfl) (by kernel_rfl) ?_
            intro K hK
            go_simp
            refine (b2i_of _ _).mono ?_
            rintro e v1 ⟨rfl, rfl⟩
            refine hK _ _ (Chg.refl _ _) ?_
            clear hK K
            try simp only [Act.put, List.getElem_toArray, List.getElem_cons_zero, List.getElem_cons_succ, List.setIfInBounds_toArray, List.set_cons_zero, List.set_cons_succ]
            refine reg_do 8 rfl (by kernel_rfl) (by kernel_rfl) ?_
            intro K hK
            go_simp
            refine (Tryz.cmp_Compare_int _ _ _).mono ?_
            rintro e v1 ⟨rfl, rfl⟩
            refine hK _ _ (Chg.refl _ _) ?_
            clear hK K
            try simp only [Act.put, List.getElem_toArray, List.getElem_cons_zero, List.getElem_cons_succ, List.setIfInBounds_toArray, List.set_cons_zero, List.set_cons_succ]
            refine reg_take 9 (v := ?_) rfl (by kernel_rfl) (by kernel_rfl) (by kernel_rfl) (fun _ _ _ h => h) (by kernel_rfl) ?_ ?_
            rotate_left
            · (intro w' hS; go_simp; (try go_bits); (try with_reducible rfl))
            try simp only [Act.put, List.getElem_toArray, List.getElem_cons_zero, List.getElem_cons_succ, List.setIfInBounds_toArray, List.set_cons_zero, List.set_cons_succ]
            refine reg_take 10 (v := ?_) rfl (by kernel_rfl) (by kernel_rfl) (by kernel_rfl) (fun _ _ _ h => h) (by kernel_rfl) ?_ ?_
            rotate_left
            · (intro w' hS; go_simp; (try go_bits); (try with_reducible rfl))
            try simp only [Act.put, List.getElem_toArray, List.getElem_cons_zero, List.getElem_cons_succ, List.setIfInBounds_toArray, List.set_cons_zero, List.set_cons_succ]
            refine wpAnyH_done (by kernel_rfl) ?_ _
            go_wp2
            go_ret2
            refine ⟨?_, ((Chg.alloc (Chg.refl _ _) _).alloc _).trans' (z3.trans' (Chg.refl _ _).drew)⟩
            have hr : R = (Lib.compareInt (b2iB (!al == [48])) (b2iB (!bl == [48])), 0) := by
              rw [HO.out]
              have hz : al = [48] ∨ bl = [48] := by have hz := (by assumption : (al == [48]) = true ∨ (bl == [48]) = true); simpa using hz
              simp [sizeA, not_beq, hz]
            rw [hr]; rfl
          · -- none is 0
            refine reg_begin (Pure') (by kernel_rfl) ?_
            refine reg_take 0 (v := ?_) rfl (by kernel_rfl) (by kernel_rfl) (by kernel_rfl) (fun _ _ _ h => h) (by kernel_rfl) ?_ ?_
            rotate_left
            · (intro w' hS; go_simp; (try go_bits); (try with_reducible rfl))
            try simp only [Act.put, List.getElem_toArray, List.getElem_cons_zero, List.getElem_cons_succ, List.setIfInBounds_toArray, List.set_cons_zero, List.set_cons_succ]
            refine reg_take 1 (v := ?_) rfl (by kernel_rfl) (by kernel_rfl) (by kernel_rfl) (fun _ _ _ h => h) (by kernel_rfl) ?_ ?_
            rotate_left
            · (intro w' hS; have hz := hS.cell (w := w2.drew) a1 (fun h => h); go_simp; (try go_bits); (try with_reducible rfl))
            try simp only [Act.put, List.getElem_toArray, List.getElem_cons_zero, List.getElem_cons_succ, List.setIfInBounds_toArray, List.set_cons_zero, List.set_cons_succ]
            refine reg_take 2 (v := ?_) rfl (by kernel_rfl) (by kernel_rfl) (by kernel_rfl) (fun _ _ _ h => h) (by kernel_rfl) ?_ ?_
            rotate_left
            · (intro w' hS; go_simp; (try go_bits); (try with_reducible rfl))
            try simp only [Act.put, List.getElem_toArray, List.getElem_cons_zero, List.getElem_cons_succ, List.setIfInBounds_toArray, List.set_cons_zero, List.set_cons_succ]
            refine reg_take 3 (v := ?_) rfl (by kernel_rfl) (by kernel_rfl) (by kernel_rfl) (fun _ _ _ h => h) (by kernel_rfl) ?_ ?_
            rotate_left
            · (intro w' hS; go_simp; (try go_bits); (try with_reducible rfl))
            try simp only [Act.put, List.getElem_toArray, List.getElem_cons_zero, List.getElem_cons_succ, List.setIfInBounds_toArray, List.set_cons_zero, List.set_cons_succ]
            refine reg_take 4 (v := ?_) rfl (by kernel_rfl) (by kernel_rfl) (by kernel_rfl) (fun _ _ _ h => h) (by kernel_rfl) ?_ ?_
            rotate_left
            · (intro w' hS; have hz := hS.cell (w := w2.drew) a2 (fun h => h); go_simp; (try go_bits); (try with_reducible rfl))
            try simp only [Act.put, List.getElem_toArray, List.getElem_cons_zero, List.getElem_cons_succ, List.setIfInBounds_toArray, List.set_cons_zero, List.set_cons_succ]
            refine reg_take 5 (v := ?_) rfl (by kernel_rfl) (by kernel_rfl) (by kernel_rfl) (fun _ _ _ h => h) (by kernel_rfl) ?_ ?_
            rotate_left
            · (intro w' hS; go_simp; (try go_bits); (try with_reducible rfl))
            try simp only [Act.put, List.getElem_toArray, List.getElem_cons_zero, List.getElem_cons_succ, List.setIfInBounds_toArray, List.set_cons_zero, List.set_cons_succ]
            refine reg_take 6 (v := ?_) rfl (by kernel_rfl) (by kernel_rfl) (by kernel_rfl) (fun _ _ _ h => h) (by kernel_rfl) ?_ ?_
            rotate_left
            · (intro w' hS; go_simp; (try go_bits); (try with_reducible rfl))
            try simp only [Act.put, List.getElem_toArray, List.getElem_cons_zero, List.getElem_cons_succ, List.setIfInBounds_toArray, List.set_cons_zero, List.set_cons_succ]
            refine reg_take 7 (v := ?_) rfl (by kernel_rfl) (by kernel_rfl) (by kernel_rfl) (fun _ _ _ h => h) (by kernel_rfl) ?_ ?_
            rotate_left
            · (intro w' hS; have hz := hS.cell (w := w2.drew) b1 (fun h => h); go_simp; (try go_bits); (try with_reducible rfl))
            try simp only [Act.put, List.getElem_toArray, List.getElem_cons_zero, List.getElem_cons_succ, List.setIfInBounds_toArray, List.set_cons_zero, List.set_cons_succ]
            refine reg_take 8 (v := ?_) rfl (by kernel_rfl) (by kernel_rfl) (by kernel_rfl) (fun _ _ _ h => h) (by kernel_rfl) ?_ ?_
            rotate_left
            · (intro w' hS; go_simp; (try go_bits); (try with_reducible rfl))
            try simp only [Act.put, List.getElem_toArray, List.getElem_cons_zero, List.getElem_cons_succ, List.setIfInBounds_toArray, List.set_cons_zero, List.set_cons_succ]
            refine reg_take 9 (v := ?_) rfl (by kernel_rfl) (by kernel_rfl) (by kernel_rfl) (fun _ _ _ h => h) (by kernel_rfl) ?_ ?_
            rotate_left
            · (intro w' hS; go_simp; (try go_bits); (try with_reducible rfl))
            try simp only [Act.put, List.getElem_toArray, List.getElem_cons_zero, List.getElem_cons_succ, List.setIfInBounds_toArray, List.set_cons_zero, List.set_cons_succ]
            refine reg_take 10 (v := ?_) rfl (by kernel_rfl) (by kernel_rfl) (by kernel_rfl) (fun _ _ _ h => h) (by kernel_rfl) ?_ ?_
            rotate_left
            · (intro w' hS; have hz := hS.cell (w := w2.drew) b2 (fun h => h); go_simp; (try go_bits); (try with_reducible rfl))
            try simp only [Act.put, List.getElem_toArray, List.getElem_cons_zero, List.getElem_cons_succ, List.setIfInBounds_toArray, List.set_cons_zero, List.set_cons_succ]
            refine reg_take 11 (v := ?_) rfl (by kernel_rfl) (by kernel_rfl) (by kernel_rfl) (fun _ _ _ h => h) (by kernel_rfl) ?_ ?_
            rotate_left
            · (intro w' hS; go_simp; (try go_bits); (try with_reducible rfl))
            try simp only [Act.put, List.getElem_toArray, List.getElem_cons_zero, List.getElem_cons_succ, List.setIfInBounds_toArray, List.set_cons_zero, List.set_cons_succ]
            refine reg_take 13 (v := ?_) rfl (by kernel_rfl) (by kernel_rfl) (by kernel_rfl) (fun _ _ _ h => h) (by kernel_rfl) ?_ ?_
            rotate_left
            · (intro w' hS; go_simp; (try go_bits); (try with_reducible rfl))
            try simp only [Act.put, List.getElem_toArray, List.getElem_cons_zero, List.getElem_cons_succ, List.setIfInBounds_toArray, List.set_cons_zero, List.set_cons_succ]
            refine reg_take 14 (v := ?_) rfl (by kernel_rfl) (by kernel_rfl) (by kernel_rfl) (fun _ _ _ h => h) (by kernel_rfl) ?_ ?_
            rotate_left
            · (intro w' hS; have hz := hS.cell (w := w2.drew) a1 (fun h => h); go_simp; (try go_bits); (try with_reducible rfl))
            try simp only [Act.put, List.getElem_toArray, List.getElem_cons_zero, List.getElem_cons_succ, List.setIfInBounds_toArray, List.set_cons_zero, List.set_cons_succ]
            refine reg_take 15 (v := ?_) rfl (by kernel_rfl) (by kernel_rfl) (by kernel_rfl) (fun _ _ _ h => h) (by kernel_rfl) ?_ ?_
            rotate_left
            · (intro w' hS; go_simp; (try go_bits); (try with_reducible rfl))
            try simp only [Act.put, List.getElem_toArray, List.getElem_cons_zero, List.getElem_cons_succ, List.setIfInBounds_toArray, List.set_cons_zero, List.set_cons_succ]
            refine reg_take 16 (v := ?_) rfl (by kernel_rfl) (by kernel_rfl) (by kernel_rfl) (fun _ _ _ h => h) (by kernel_rfl) ?_ ?_
            rotate_left
            · (intro w' hS; have hz := hS.cell (w := w2.drew) b1 (fun h => h); go_simp; (try go_bits); (try with_reducible rfl))
            try simp only [Act.put, List.getElem_toArray, List.getElem_cons_zero, List.getElem_cons_succ, List.setIfInBounds_toArray, List.set_cons_zero, List.set_cons_succ]
            refine reg_do 12 rfl (by kernel_rfl) (by kernel_rfl) ?_
            intro K hK
            go_simp
            refine (Tryz.cmp_Compare_int _ _ _).mono ?_
            rintro e v1 ⟨rfl, rfl⟩
            refine hK _ _ (Chg.refl _ _) ?_
            clear hK K
            try simp only [Act.put, List.getElem_toArray, List.getElem_cons_zero, List.getElem_cons_succ, List.setIfInBounds_toArray, List.set_cons_zero, List.set_cons_succ]
            refine reg_do 17 rfl (by kernel_rfl) (by kernel_rfl) ?_
            intro K hK
            go_simp
            refine (Tryz.strings_Compare _ _ _).mono ?_
            rintro e v1 ⟨rfl, rfl⟩
            refine hK _ _ (Chg.refl _ _) ?_
            clear hK K
            try simp only [Act.put, List.getElem_toArray, List.getElem_cons_zero, List.getElem_cons_succ, List.setIfInBounds_toArray, List.set_cons_zero, List.set_cons_succ]
            refine reg_do 18 rfl (by kernel_rfl) (by kernel_rfl) ?_
            intro K hK
            go_simp
            refine hK _ _ (Chg.alloc (Chg.refl _ _) _) ?_
            clear hK K
            try simp only [Act.put, List.getElem_toArray, List.getElem_cons_zero, List.getElem_cons_succ, List.setIfInBounds_toArray, List.set_cons_zero, List.set_cons_succ]
            refine reg_do 19 rfl (by kernel_rfl) (by kernel_rfl) ?_
            intro K hK
            go_simp
            refine (cmpOr_of _ (Lib.compareInt ((al.length : Int) + ax) ((bl.length : Int) + bx)) (Lib.compareBytes al bl) _ _ ?_ ?_).mono ?_
            · change (w2.alloc (.cells #[_, _] 3)).cell? ⟨w2.heap.size, 0, none⟩ = _
              rw [cellAt_alloc_lit]; rfl
            · change (w2.alloc (.cells #[_, _] 3)).cell? ⟨w2.heap.size, 1, none⟩ = _
              rw [cellAt_alloc_lit]; rfl
            rintro e v1 ⟨rfl, rfl⟩
            refine hK _ _ (Chg.refl _ _) ?_
            clear hK K
            try simp only [Act.put, List.getElem_toArray, List.getElem_cons_zero, List.getElem_cons_succ, List.setIfInBounds_toArray, List.set_cons_zero, List.set_cons_succ]
            refine reg_take 20 (v := ?_) rfl (by kernel_rfl) (by kernel_rfl) (by kernel_rfl) (fun _ _ _ h => h) (by kernel_rfl) ?_ ?_
            rotate_left
            · (intro w' hS; go_simp; (try go_bits); (try with_reducible rfl))
            try simp only [Act.put, List.getElem_toArray, List.getElem_cons_zero, List.getElem_cons_succ, List.setIfInBounds_toArray, List.set_cons_zero, List.set_cons_succ]
            refine reg_take 21 (v := ?_) rfl (by kernel_rfl) (by kernel_rfl) (by kernel_rfl) (fun _ _ _ h => h) (by kernel_rfl) ?_ ?_
            rotate_left
            · (intro w' hS; go_simp; (try go_bits); (try with_reducible rfl))
            try simp only [Act.put, List.getElem_toArray, List.getElem_cons_zero, List.getElem_cons_succ, List.setIfInBounds_toArray, List.set_cons_zero, List.set_cons_succ]
            refine wpAnyH_done (by kernel_rfl) ?_ _
            go_wp2
            go_ret2
            refine ⟨?_, ((Chg.alloc (Chg.refl _ _) _).alloc _).trans' (z3.trans' (((Chg.refl _ _).alloc _).drew))⟩
            have hr : R = (orI (Lib.compareInt ((al.length : Int) + ax) ((bl.length : Int) + bx)) (Lib.compareBytes al bl), 0) := by
              rw [HO.out]
              have ha : ¬ al = [48] := by
                have hz := (by assumption : (al == [48]) = false ∧ (bl == [48]) = false); simpa using hz.1
              have hb : ¬ bl = [48] := by
                have hz := (by assumption : (al == [48]) = false ∧ (bl == [48]) = false); simpa using hz.2
              simp [sizeA, ha, hb]
            rw [hr]; rfl
      | true =>
        cases bn with
        | false =>
          go_enter Tryz.func9, Tryz.ntmps9
          go_wp2_with (first
            | (go_at_call 13; refine (decRight_any _ _ _ _ (by first | exact hla | exact hlb)).mono ?_; first
                | (rintro e w1 ⟨rfl, z1⟩; rw [← HA.out]; obtain ⟨k1, k2⟩ := num2_cells z1; obtain ⟨a0, a1, a2, -⟩ := blk_cells k1; obtain ⟨b0, b1, b2, -⟩ := blk_cells k2)
                | (rintro e w2 ⟨rfl, z2⟩; rw [← HB.out]; have z3 := z1.trans' z2; clear a0 a1 a2 b0 b1 b2 k1 k2 z1 z2; obtain ⟨k1, k2⟩ := num2_cells z3; obtain ⟨a0, a1, a2, af0, af1, af2⟩ := blk_cells k1; obtain ⟨b0, b1, b2, bf0, bf1, bf2⟩ := blk_cells k2)))
          go_ret2
          exact ⟨by rw [HO.out]; rfl, (((Chg.alloc (Chg.refl _ _) _).alloc _).trans' z3)⟩
        | true =>
          go_enter Tryz.func9, Tryz.ntmps9
          go_wp2_with (first
            | (go_at_call 13; refine (decRight_any _ _ _ _ (by first | exact hla | exact hlb)).mono ?_; first
                | (rintro e w1 ⟨rfl, z1⟩; rw [← HA.out]; obtain ⟨k1, k2⟩ := num2_cells z1; obtain ⟨a0, a1, a2, -⟩ := blk_cells k1; obtain ⟨b0, b1, b2, -⟩ := blk_cells k2)
                | (rintro e w2 ⟨rfl, z2⟩; rw [← HB.out]; have z3 := z1.trans' z2; clear a0 a1 a2 b0 b1 b2 k1 k2 z1 z2; obtain ⟨k1, k2⟩ := num2_cells z3; obtain ⟨a0, a1, a2, af0, af1, af2⟩ := blk_cells k1; obtain ⟨b0, b1, b2, bf0, bf1, bf2⟩ := blk_cells k2)))
          · -- the first is 0
            obtain ⟨w4, hw4⟩ : ∃ v, v = ((((((w2.setCell ⟨w.heap.size, 0, none⟩ (.bool true)).setCell ⟨w.heap.size, 1, none⟩ (.string ⟨#[48]⟩)).setCell ⟨w.heap.size, 2, none⟩ (.int .i64 bx)).setCell ⟨w.heap.size + 1, 0, none⟩ (.bool true)).setCell ⟨w.heap.size + 1, 1, none⟩ (.string ⟨al.toArray⟩)).setCell ⟨w.heap.size + 1, 2, none⟩ (.int .i64 ax)) := ⟨_, rfl⟩
            have y1 : w4.cell? ⟨w.heap.size, 1, none⟩ = some (.string ⟨#[48]⟩) := by rw [hw4]; go_simp
            have x1 : w4.cell? ⟨w.heap.size, 2, none⟩ = some (.int .i64 bx) := by rw [hw4]; go_simp
            have y2 : w4.cell? ⟨w.heap.size + 1, 1, none⟩ = some (.string ⟨al.toArray⟩) := by rw [hw4]; go_simp
            have x2 : w4.cell? ⟨w.heap.size + 1, 2, none⟩ = some (.int .i64 ax) := by rw [hw4]; go_simp
            have z4 : Chg Pure' w w4 := by
              rw [hw4]
              exact (((((((((Chg.alloc (Chg.refl _ _) _).alloc _).trans' z3).setCell (.inl (Nat.le_refl _)) _).setCell (.inl (Nat.le_refl _)) _).setCell (.inl (Nat.le_refl _)) _).setCell (.inl (Nat.le_succ _)) _).setCell (.inl (Nat.le_succ _)) _).setCell (.inl (Nat.le_succ _)) _)
            rw [← hw4]
            clear hw4
            refine reg_begin (Pure') (by kernel_rfl) ?_
            refine reg_take 0 (v := ?_) rfl (by kernel_rfl) (by kernel_rfl) (by kernel_rfl) (fun _ _ _ h => h) (by kernel_rfl) ?_ ?_
            rotate_left
            · (intro w' hS; go_simp; (try go_bits); (try with_reducible rfl))
            try simp only [Act.put, List.getElem_toArray, List.getElem_cons_zero, List.getElem_cons_succ, List.setIfInBounds_toArray, List.set_cons_zero, List.set_cons_succ]
            refine reg_take 1 (v := ?_) rfl (by kernel_rfl) (by kernel_rfl) (by kernel_rfl) (fun _ _ _ h => h) (by kernel_rfl) ?_ ?_
            rotate_left
            · (intro w' hS; have hz := hS.cell (w := w4.drew) y1 (fun h => h); go_simp; (try go_bits); (try with_reducible rfl))
            try simp only [Act.put, List.getElem_toArray, List.getElem_cons_zero, List.getElem_cons_succ, List.setIfInBounds_toArray, List.set_cons_zero, List.set_cons_succ]
            refine reg_take 2 (v := ?_) rfl (by kernel_rfl) (by kernel_rfl) (by kernel_rfl) (fun _ _ _ h => h) (by kernel_rfl) ?_ ?_
            rotate_left
            · (intro w' hS; go_simp; (try go_bits); (try with_reducible rfl))
            try simp only [Act.put, List.getElem_toArray, List.getElem_cons_zero, List.getElem_cons_succ, List.setIfInBounds_toArray, List.set_cons_zero, List.set_cons_succ]
            refine reg_take 4 (v := ?_) rfl (by kernel_rfl) (by kernel_rfl) (by kernel_rfl) (fun _ _ _ h => h) (by kernel_rfl) ?_ ?_
            rotate_left
            · (intro w' hS; go_simp; (try go_bits); (try with_reducible rfl))
            try simp only [Act.put, List.getElem_toArray, List.getElem_cons_zero, List.getElem_cons_succ, List.setIfInBounds_toArray, List.set_cons_zero, List.set_cons_succ]
            refine reg_take 5 (v := ?_) rfl (by kernel_rfl) (by kernel_rfl) (by kernel_rfl) (fun _ _ _ h => h) (by kernel_rfl) ?_ ?_
            rotate_left
            · (intro w' hS; have hz := hS.cell (w := w4.drew) y2 (fun h => h); go_simp; (try go_bits); (try with_reducible rfl))
            try simp only [Act.put, List.getElem_toArray, List.getElem_cons_zero, List.getElem_cons_succ, List.setIfInBounds_toArray, List.set_cons_zero, List.set_cons_succ]
            refine reg_take 6 (v := ?_) rfl (by kernel_rfl) (by kernel_rfl) (by kernel_rfl) (fun _ _ _ h => h) (by kernel_rfl) ?_ ?_
            rotate_left
            · (intro w' hS; go_simp; (try go_bits); (try with_reducible rfl))
            try simp only [Act.put, List.getElem_toArray, List.getElem_cons_zero, List.getElem_cons_succ, List.setIfInBounds_toArray, List.set_cons_zero, List.set_cons_succ]
            refine reg_do 3 rfl (by kernel_rfl) (by kernel_rfl) ?_
            intro K hK
            go_simp
            refine (b2i_of _ _).mono ?_
            rintro e v1 ⟨rfl, rfl⟩
            refine hK _ _ (Chg.refl _ _) ?_
            clear hK K
            try simp only [Act.put, List.getElem_toArray, List.getElem_cons_zero, List.getElem_cons_succ, List.setIfInBounds_toArray, List.set_cons_zero, List.set_cons_succ]
            refine reg_do 7 rfl (by kernel_rfl) (by kernel_rfl) ?_
            intro K hK
            go_simp
            refine (b2i_of _ _).mono ?_
            rintro e v1 ⟨rfl, rfl⟩
            refine hK _ _ (Chg.refl _ _) ?_
            clear hK K
            try simp only [Act.put, List.getElem_toArray, List.getElem_cons_zero, List.getElem_cons_succ, List.setIfInBounds_toArray, List.set_cons_zero, List.set_cons_succ]
            refine reg_do 8 rfl (by kernel_rfl) (by kernel_rfl) ?_
            intro K hK
            go_simp
            refine (Tryz.cmp_Compare_int _ _ _).mono ?_
            rintro e v1 ⟨rfl, rfl⟩
            refine hK _ _ (Chg.refl _ _) ?_
            clear hK K
            try simp only [Act.put, List.getElem_toArray, List.getElem_cons_zero, List.getElem_cons_succ, List.setIfInBounds_toArray, List.set_cons_zero, List.set_cons_succ]
            refine reg_take 9 (v := ?_) rfl (by kernel_rfl) (by kernel_rfl) (by kernel_rfl) (fun _ _ _ h => h) (by kernel_rfl) ?_ ?_
            rotate_left
            · (intro w' hS; go_simp; (try go_bits); (try with_reducible rfl))
            try simp only [Act.put, List.getElem_toArray, List.getElem_cons_zero, List.getElem_cons_succ, List.setIfInBounds_toArray, List.set_cons_zero, List.set_cons_succ]
            refine reg_take 10 (v := ?_) rfl (by kernel_rfl) (by kernel_rfl) (by kernel_rfl) (fun _ _ _ h => h) (by kernel_rfl) ?_ ?_
            rotate_left
            · (intro w' hS; go_simp; (try go_bits); (try with_reducible rfl))
            try simp only [Act.put, List.getElem_toArray, List.getElem_cons_zero, List.getElem_cons_succ, List.setIfInBounds_toArray, List.set_cons_zero, List.set_cons_succ]
            refine wpAnyH_done (by kernel_rfl) ?_ _
            go_wp2
            go_ret2
            refine ⟨?_, z4.trans' ((Chg.refl _ _).drew)⟩
            have hb : bl = [48] := by assumption
            have hr : R = (Lib.compareInt (b2iB false) (b2iB (!al == [48])), 0) := by rw [HO.out]; simp [sizeA, not_beq, hb]
            rw [hr]; rfl
          · -- the first is 0
            obtain ⟨w4, hw4⟩ : ∃ v, v = ((((((w2.setCell ⟨w.heap.size, 0, none⟩ (.bool true)).setCell ⟨w.heap.size, 1, none⟩ (.string ⟨bl.toArray⟩)).setCell ⟨w.heap.size, 2, none⟩ (.int .i64 bx)).setCell ⟨w.heap.size + 1, 0, none⟩ (.bool true)).setCell ⟨w.heap.size + 1, 1, none⟩ (.string ⟨al.toArray⟩)).setCell ⟨w.heap.size + 1, 2, none⟩ (.int .i64 ax)) := ⟨_, rfl⟩
            have y1 : w4.cell? ⟨w.heap.size, 1, none⟩ = some (.string ⟨bl.toArray⟩) := by rw [hw4]; go_simp
            have x1 : w4.cell? ⟨w.heap.size, 2, none⟩ = some (.int .i64 bx) := by rw [hw4]; go_simp
            have y2 : w4.cell? ⟨w.heap.size + 1, 1, none⟩ = some (.string ⟨al.toArray⟩) := by rw [hw4]; go_simp
            have x2 : w4.cell? ⟨w.heap.size + 1, 2, none⟩ = some (.int .i64 ax) := by rw [hw4]; go_simp
            have z4 : Chg Pure' w w4 := by
              rw [hw4]
              exact (((((((((Chg.alloc (Chg.refl _ _) _).alloc _).trans' z3).setCell (.inl (Nat.le_refl _)) _).setCell (.inl (Nat.le_refl _)) _).setCell (.inl (Nat.le_refl _)) _).setCell (.inl (Nat.le_succ _)) _).setCell (.inl (Nat.le_succ _)) _).setCell (.inl (Nat.le_succ _)) _)
            rw [← hw4]
            clear hw4
            refine reg_begin (Pure') (by kernel_rfl) ?_
            refine reg_take 0 (v := ?_) rfl (by kernel_rfl) (by kernel_rfl) (by kernel_rfl) (fun _ _ _ h => h) (by kernel_rfl) ?_ ?_
            rotate_left
            · (intro w' hS; go_simp; (try go_bits); (try with_reducible rfl))
            try simp only [Act.put, List.getElem_toArray, List.getElem_cons_zero, List.getElem_cons_succ, List.setIfInBounds_toArray, List.set_cons_zero, List.set_cons_succ]
            refine reg_take 1 (v := ?_) rfl (by kernel_rfl) (by kernel_rfl) (by kernel_rfl) (fun _ _ _ h => h) (by kernel_rfl) ?_ ?_
            rotate_left
            · (intro w' hS; have hz := hS.cell (w := w4.drew) y1 (fun h => h); go_simp; (try go_bits); (try with_reducible rfl))
            try simp only [Act.put, List.getElem_toArray, List.getElem_cons_zero, List.getElem_cons_succ, List.setIfInBounds_toArray, List.set_cons_zero, List.set_cons_succ]
            refine reg_take 2 (v := ?_) rfl (by kernel_rfl) (by kernel_rfl) (by kernel_rfl) (fun _ _ _ h => h) (by kernel_rfl) ?_ ?_
            rotate_left
            · (intro w' hS; go_simp; (try go_bits); (try with_reducible rfl))
            try simp only [Act.put, List.getElem_toArray, List.getElem_cons_zero, List.getElem_cons_succ, List.setIfInBounds_toArray, List.set_cons_zero, List.set_cons_succ]
            refine reg_take 4 (v := ?_) rfl (by kernel_rfl) (by kernel_rfl) (by kernel_rfl) (fun _ _ _ h => h) (by kernel_rfl) ?_ ?_
            rotate_left
            · (intro w' hS; go_simp; (try go_bits); (try with_reducible rfl))
            try simp only [Act.put, List.getElem_toArray, List.getElem_cons_zero, List.getElem_cons_succ, List.setIfInBounds_toArray, List.set_cons_zero, List.set_cons_succ]
            refine reg_take 5 (v := ?_) rfl (by kernel_rfl) (by kernel_rfl) (by kernel_rfl) (fun _ _ _ h => h) (by kernel_rfl) ?_ ?_
            rotate_left
            · (intro w' hS; have hz := hS.cell (w := w4.drew) y2 (fun h => h); go_simp; (try go_bits); (try with_reducible rfl))
            try simp only [Act.put, List.getElem_toArray, List.getElem_cons_zero, List.getElem_cons_succ, List.setIfInBounds_toArray, List.set_cons_zero, List.set_cons_succ]
            refine reg_take 6 (v := ?_) rfl (by kernel_rfl) (by kernel_rfl) (by kernel_rfl) (fun _ _ _ h => h) (by kernel_rfl) ?_ ?_
            rotate_left
            · (intro w' hS; go_simp; (try go_bits); (try with_reducible rfl))
            try simp only [Act.put, List.getElem_toArray, List.getElem_cons_zero, List.getElem_cons_succ, List.setIfInBounds_toArray, List.set_cons_zero, List.set_cons_succ]
            refine reg_do 3 rfl (by kernel_rfl) (by kernel_rfl) ?_
            intro K hK
            go_simp
            refine (b2i_of _ _).mono ?_
            rintro e v1 ⟨rfl, rfl⟩
            refine hK _ _ (Chg.refl _ _) ?_
            clear hK K
            try simp only [Act.put, List.getElem_toArray, List.getElem_cons_zero, List.getElem_cons_succ, List.setIfInBounds_toArray, List.set_cons_zero, List.set_cons_succ]
            refine reg_do 7 rfl (by kernel_rfl) (by kernel_rfl) ?_
            intro K hK
            go_simp
            refine (b2i_of _ _).mono ?_
            rintro e v1 ⟨rfl, rfl⟩
            refine hK _ _ (Chg.refl _ _) ?_
            clear hK K
            try simp only [Act.put, List.getElem_toArray, List.getElem_cons_zero, List.getElem_cons_succ, List.setIfInBounds_toArray, List.set_cons_zero, List.set_cons_succ]
            refine reg_do 8 rfl (by kernel_rfl) (by kernel_rfl) ?_
            intro K hK
            go_simp
            refine (Tryz.cmp_Compare_int _ _ _).mono ?_
            rintro e v1 ⟨rfl, rfl⟩
            refine hK _ _ (Chg.refl _ _) ?_
            clear hK K
            try simp only [Act.put, List.getElem_toArray, List.getElem_cons_zero, List.getElem_cons_succ, List.setIfInBounds_toArray, List.set_cons_zero, List.set_cons_succ]
            refine reg_take 9 (v := ?_) rfl (by kernel_rfl) (by kernel_rfl) (by kernel_rfl) (fun _ _ _ h => h) (by kernel_rfl) ?_ ?_
            rotate_left
            · (intro w' hS; go_simp; (try go_bits); (try with_reducible rfl))
            try simp only [Act.put, List.getElem_toArray, List.getElem_cons_zero, List.getElem_cons_succ, List.setIfInBounds_toArray, List.set_cons_zero, List.set_cons_succ]
            refine reg_take 10 (v := ?_) rfl (by kernel_rfl) (by kernel_rfl) (by kernel_rfl) (fun _ _ _ h => h) (by kernel_rfl) ?_ ?_
            rotate_left
            · (intro w' hS; go_simp; (try go_bits); (try with_reducible rfl))
            try simp only [Act.put, List.getElem_toArray, List.getElem_cons_zero, List.getElem_cons_succ, List.setIfInBounds_toArray, List.set_cons_zero, List.set_cons_succ]
            refine wpAnyH_done (by kernel_rfl) ?_ _
            go_wp2
            go_ret2
            refine ⟨?_, z4.trans' ((Chg.refl _ _).drew)⟩
            have hr : R = (Lib.compareInt (b2iB (!bl == [48])) (b2iB (!al == [48])), 0) := by
              rw [HO.out]
              have hz : bl = [48] ∨ al = [48] := by have hz := (by assumption : (bl == [48]) = true ∨ (al == [48]) = true); simpa using hz
              simp [sizeA, not_beq, hz]
            rw [hr]; rfl
          · -- none is 0
            obtain ⟨w4, hw4⟩ : ∃ v, v = ((((((w2.setCell ⟨w.heap.size, 0, none⟩ (.bool true)).setCell ⟨w.heap.size, 1, none⟩ (.string ⟨bl.toArray⟩)).setCell ⟨w.heap.size, 2, none⟩ (.int .i64 bx)).setCell ⟨w.heap.size + 1, 0, none⟩ (.bool true)).setCell ⟨w.heap.size + 1, 1, none⟩ (.string ⟨al.toArray⟩)).setCell ⟨w.heap.size + 1, 2, none⟩ (.int .i64 ax)) := ⟨_, rfl⟩
            have y1 : w4.cell? ⟨w.heap.size, 1, none⟩ = some (.string ⟨bl.toArray⟩) := by rw [hw4]; go_simp
            have x1 : w4.cell? ⟨w.heap.size, 2, none⟩ = some (.int .i64 bx) := by rw [hw4]; go_simp
            have y2 : w4.cell? ⟨w.heap.size + 1, 1, none⟩ = some (.string ⟨al.toArray⟩) := by rw [hw4]; go_simp
            have x2 : w4.cell? ⟨w.heap.size + 1, 2, none⟩ = some (.int .i64 ax) := by rw [hw4]; go_simp
            have z4 : Chg Pure' w w4 := by
              rw [hw4]
              exact (((((((((Chg.alloc (Chg.refl _ _) _).alloc _).trans' z3).setCell (.inl (Nat.le_refl _)) _).setCell (.inl (Nat.le_refl _)) _).setCell (.inl (Nat.le_refl _)) _).setCell (.inl (Nat.le_succ _)) _).setCell (.inl (Nat.le_succ _)) _).setCell (.inl (Nat.le_succ _)) _)
            rw [← hw4]
            clear hw4
            refine reg_begin (Pure') (by kernel_rfl) ?_
            refine reg_take 0 (v := ?_) rfl (by kernel_rfl) (by kernel_rfl) (by kernel_rfl) (fun _ _ _ h => h) (by kernel_rfl) ?_ ?_
            rotate_left
            · (intro w' hS; go_simp; (try go_bits); (try with_reducible rfl))
            try simp only [Act.put, List.getElem_toArray, List.getElem_cons_zero, List.getElem_cons_succ, List.setIfInBounds_toArray, List.set_cons_zero, List.set_cons_succ]
            refine reg_take 1 (v := ?_) rfl (by kernel_rfl) (by kernel_rfl) (by kernel_rfl) (fun _ _ _ h => h) (by kernel_rfl) ?_ ?_
            rotate_left
            · (intro w' hS; have hz := hS.cell (w := w4.drew) y1 (fun h => h); go_simp; (try go_bits); (try with_reducible rfl))
            try simp only [Act.put, List.getElem_toArray, List.getElem_cons_zero, List.getElem_cons_succ, List.setIfInBounds_toArray, List.set_cons_zero, List.set_cons_succ]
            refine reg_take 2 (v := ?_) rfl (by kernel_rfl) (by kernel_rfl) (by kernel_rfl) (fun _ _ _ h => h) (by kernel_rfl) ?_ ?_
            rotate_left
            · (intro w' hS; go_simp; (try go_bits); (try with_reducible rfl))
            try simp only [Act.put, List.getElem_toArray, List.getElem_cons_zero, List.getElem_cons_succ, List.setIfInBounds_toArray, List.set_cons_zero, List.set_cons_succ]
            refine reg_take 3 (v := ?_) rfl (by kernel_rfl) (by kernel_rfl) (by kernel_rfl) (fun _ _ _ h => h) (by kernel_rfl) ?_ ?_
            rotate_left
            · (intro w' hS; go_simp; (try go_bits); (try with_reducible rfl))
            try simp only [Act.put, List.getElem_toArray, List.getElem_cons_zero, List.getElem_cons_succ, List.setIfInBounds_toArray, List.set_cons_zero, List.set_cons_succ]
            refine reg_take 4 (v := ?_) rfl (by kernel_rfl) (by kernel_rfl) (by kernel_rfl) (fun _ _ _ h => h) (by kernel_rfl) ?_ ?_
            rotate_left
            · (intro w' hS; have hz := hS.cell (w := w4.drew) x1 (fun h => h); go_simp; (try go_bits); (try with_reducible rfl))
            try simp only [Act.put, List.getElem_toArray, List.getElem_cons_zero, List.getElem_cons_succ, List.setIfInBounds_toArray, List.set_cons_zero, List.set_cons_succ]
            refine reg_take 5 (v := ?_) rfl (by kernel_rfl) (by kernel_rfl) (by kernel_rfl) (fun _ _ _ h => h) (by kernel_rfl) ?_ ?_
            rotate_left
            · (intro w' hS; go_simp; (try go_bits); (try with_reducible rfl))
            try simp only [Act.put, List.getElem_toArray, List.getElem_cons_zero, List.getElem_cons_succ, List.setIfInBounds_toArray, List.set_cons_zero, List.set_cons_succ]
            refine reg_take 6 (v := ?_) rfl (by kernel_rfl) (by kernel_rfl) (by kernel_rfl) (fun _ _ _ h => h) (by kernel_rfl) ?_ ?_
            rotate_left
            · (intro w' hS; go_simp; (try go_bits); (try with_reducible rfl))
            try simp only [Act.put, List.getElem_toArray, List.getElem_cons_zero, List.getElem_cons_succ, List.setIfInBounds_toArray, List.set_cons_zero, List.set_cons_succ]
            refine reg_take 7 (v := ?_) rfl (by kernel_rfl) (by kernel_rfl) (by kernel_rfl) (fun _ _ _ h => h) (by kernel_rfl) ?_ ?_
            rotate_left
            · (intro w' hS; have hz := hS.cell (w := w4.drew) y2 (fun h => h); go_simp; (try go_bits); (try with_reducible rfl))
            try simp only [Act.put, List.getElem_toArray, List.getElem_cons_zero, List.getElem_cons_succ, List.setIfInBounds_toArray, List.set_cons_zero, List.set_cons_succ]
            refine reg_take 8 (v := ?_) rfl (by kernel_rfl) (by kernel_rfl) (by kernel_rfl) (fun _ _ _ h => h) (by kernel_rfl) ?_ ?_
            rotate_left
            · (intro w' hS; go_simp; (try go_bits); (try with_reducible rfl))
            try simp only [Act.put, List.getElem_toArray, List.getElem_cons_zero, List.getElem_cons_succ, List.setIfInBounds_toArray, List.set_cons_zero, List.set_cons_succ]
            refine reg_take 9 (v := ?_) rfl (by kernel_rfl) (by kernel_rfl) (by kernel_rfl) (fun _ _ _ h => h) (by kernel_rfl) ?_ ?_
            rotate_left
            · (intro w' hS; go_simp; (try go_bits); (try with_reducible rfl))
            try simp only [Act.put, List.getElem_toArray, List.getElem_cons_zero, List.getElem_cons_succ, List.setIfInBounds_toArray, List.set_cons_zero, List.set_cons_succ]
            refine reg_take 10 (v := ?_) rfl (by kernel_rfl) (by kernel_rfl) (by kernel_rfl) (fun _ _ _ h => h) (by kernel_rfl) ?_ ?_
            rotate_left
            · (intro w' hS; have hz := hS.cell (w := w4.drew) x2 (fun h => h); go_simp; (try go_bits); (try with_reducible rfl))
            try simp only [Act.put, List.getElem_toArray, List.getElem_cons_zero, List.getElem_cons_succ, List.setIfInBounds_toArray, List.set_cons_zero, List.set_cons_succ]
            refine reg_take 11 (v := ?_) rfl (by kernel_rfl) (by kernel_rfl) (by kernel_rfl) (fun _ _ _ h => h) (by kernel_rfl) ?_ ?_
            rotate_left
            · (intro w' hS; go_simp; (try go_bits); (try with_reducible rfl))
            try simp only [Act.put, List.getElem_toArray, List.getElem_cons_zero, List.getElem_cons_succ, List.setIfInBounds_toArray, List.set_cons_zero, List.set_cons_succ]
            refine reg_take 13 (v := ?_) rfl (by kernel_rfl) (by kernel_rfl) (by kernel_rfl) (fun _ _ _ h => h) (by kernel_rfl) ?_ ?_
            rotate_left
            · (intro w' hS; go_simp; (try go_bits); (try with_reducible rfl))
            try simp only [Act.put, List.getElem_toArray, List.getElem_cons_zero, List.getElem_cons_succ, List.setIfInBounds_toArray, List.set_cons_zero, List.set_cons_succ]
            refine reg_take 14 (v := ?_) rfl (by kernel_rfl) (by kernel_rfl) (by kernel_rfl) (fun _ _ _ h => h) (by kernel_rfl) ?_ ?_
            rotate_left
            · (intro w' hS; have hz := hS.cell (w := w4.drew) y1 (fun h => h); go_simp; (try go_bits); (try with_reducible rfl))
            try simp only [Act.put, List.getElem_toArray, List.getElem_cons_zero, List.getElem_cons_succ, List.setIfInBounds_toArray, List.set_cons_zero, List.set_cons_succ]
            refine reg_take 15 (v := ?_) rfl (by kernel_rfl) (by kernel_rfl) (by kernel_rfl) (fun _ _ _ h => h) (by kernel_rfl) ?_ ?_
            rotate_left
            · (intro w' hS; go_simp; (try go_bits); (try with_reducible rfl))
            try simp only [Act.put, List.getElem_toArray, List.getElem_cons_zero, List.getElem_cons_succ, List.setIfInBounds_toArray, List.set_cons_zero, List.set_cons_succ]
            refine reg_take 16 (v := ?_) rfl (by kernel_rfl) (by kernel_rfl) (by kernel_rfl) (fun _ _ _ h => h) (by kernel_rfl) ?_ ?_
            rotate_left
            · (intro w' hS; have hz := hS.cell (w := w4.drew) y2 (fun h => h); go_simp; (try go_bits); (try with_reducible rfl))
            try simp only [Act.put, List.getElem_toArray, List.getElem_cons_zero, List.getElem_cons_succ, List.setIfInBounds_toArray, List.set_cons_zero, List.set_cons_succ]
            refine reg_do 12 rfl (by kernel_rfl) (by kernel_rfl) ?_
            intro K hK
            go_simp
            refine (Tryz.cmp_Compare_int _ _ _).mono ?_
            rintro e v1 ⟨rfl, rfl⟩
            refine hK _ _ (Chg.refl _ _) ?_
            clear hK K
            try simp only [Act.put, List.getElem_toArray, List.getElem_cons_zero, List.getElem_cons_succ, List.setIfInBounds_toArray, List.set_cons_zero, List.set_cons_succ]
            refine reg_do 17 rfl (by kernel_rfl) (by kernel_rfl) ?_
            intro K hK
            go_simp
            refine (Tryz.strings_Compare _ _ _).mono ?_
            rintro e v1 ⟨rfl, rfl⟩
            refine hK _ _ (Chg.refl _ _) ?_
            clear hK K
            try simp only [Act.put, List.getElem_toArray, List.getElem_cons_zero, List.getElem_cons_succ, List.setIfInBounds_toArray, List.set_cons_zero, List.set_cons_succ]
            refine reg_do 18 rfl (by kernel_rfl) (by kernel_rfl) ?_
            intro K hK
            go_simp
            refine hK _ _ (Chg.alloc (Chg.refl _ _) _) ?_
            clear hK K
            try simp only [Act.put, List.getElem_toArray, List.getElem_cons_zero, List.getElem_cons_succ, List.setIfInBounds_toArray, List.set_cons_zero, List.set_cons_succ]
            refine reg_do 19 rfl (by kernel_rfl) (by kernel_rfl) ?_
            intro K hK
            go_simp
            refine (cmpOr_of _ (Lib.compareInt ((bl.length : Int) + bx) ((al.length : Int) + ax)) (Lib.compareBytes bl al) _ _ ?_ ?_).mono ?_
            · change (w4.alloc (.cells #[_, _] 3)).cell? ⟨w4.heap.size, 0, none⟩ = _
              rw [cellAt_alloc_lit]; rfl
            · change (w4.alloc (.cells #[_, _] 3)).cell? ⟨w4.heap.size, 1, none⟩ = _
              rw [cellAt_alloc_lit]; rfl
            rintro e v1 ⟨rfl, rfl⟩
            refine hK _ _ (Chg.refl _ _) ?_
            clear hK K
            try simp only [Act.put, List.getElem_toArray, List.getElem_cons_zero, List.getElem_cons_succ, List.setIfInBounds_toArray, List.set_cons_zero, List.set_cons_succ]
            refine reg_take 20 (v := ?_) rfl (by kernel_rfl) (by kernel_rfl) (by kernel_rfl) (fun _ _ _ h => h) (by kernel_rfl) ?_ ?_
            rotate_left
            · (intro w' hS; go_simp; (try go_bits); (try with_reducible rfl))
            try simp only [Act.put, List.getElem_toArray, List.getElem_cons_zero, List.getElem_cons_succ, List.setIfInBounds_toArray, List.set_cons_zero, List.set_cons_succ]
            refine reg_take 21 (v := ?_) rfl (by kernel_rfl) (by kernel_rfl) (by kernel_rfl) (fun _ _ _ h => h) (by kernel_rfl) ?_ ?_
            rotate_left
            · (intro w' hS; go_simp; (try go_bits); (try with_reducible rfl))
            try simp only [Act.put, List.getElem_toArray, List.getElem_cons_zero, List.getElem_cons_succ, List.setIfInBounds_toArray, List.set_cons_zero, List.set_cons_succ]
            refine wpAnyH_done (by kernel_rfl) ?_ _
            go_wp2
            go_ret2
            refine ⟨?_, z4.trans' ((((Chg.refl _ _).alloc _).drew))⟩
            have hr : R = (orI (Lib.compareInt ((bl.length : Int) + bx) ((al.length : Int) + ax)) (Lib.compareBytes bl al), 0) := by
              rw [HO.out]
              have hb : ¬ bl = [48] := by
                have hz := (by assumption : (bl == [48]) = false ∧ (al == [48]) = false); simpa using hz.1
              have ha : ¬ al = [48] := by
                have hz := (by assumption : (bl == [48]) = false ∧ (al == [48]) = false); simpa using hz.2
              simp [sizeA, hb, ha]
            rw [hr]; rfl
end Go.Proofs.YtkplgndcbngjoaaGreatDoor
