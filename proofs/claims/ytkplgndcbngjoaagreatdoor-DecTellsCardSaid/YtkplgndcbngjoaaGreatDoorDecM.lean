/- gantlineref06: size, Order. -/
import Derived.Test.YtkplgndcbngjoaaGreatDoorDecK
namespace Go.Proofs.YtkplgndcbngjoaaGreatDoor
open Go Go.RowKit
set_option linter.unusedVariables false
set_option maxRecDepth 100000
set_option linter.unusedSimpArgs false

def padS (l : List UInt8) (k : Nat) : List UInt8 := l ++ List.replicate k 48
theorem padS_len (l : List UInt8) (k : Nat) : (padS l k).length = l.length + k := by simp [padS]
theorem padS_succ (l : List UInt8) (k : Nat) : (⟨(padS l k).toArray⟩ : ByteArray) ++ ⟨#[48]⟩ = ⟨(padS l (k + 1)).toArray⟩ := by
  have : (⟨#[48]⟩ : ByteArray) = ⟨([48] : List UInt8).toArray⟩ := rfl
  rw [this, cat_str, padS, padS, List.append_assoc, ← List.replicate_succ']
def sizeL (x y : List UInt8) : Int := if x.length < y.length ∨ (x.length = y.length ∧ Lib.compareBytes x y < 0) then -1 else if x = y then 0 else 1
theorem bytesLess_eq : ∀ x y : List UInt8, Op.bytesLess x y = decide (Lib.compareBytes x y < 0)
  | [], [] => rfl
  | [], _ :: _ => rfl
  | _ :: _, [] => rfl
  | a :: x, b :: y => by
    rw [cmpB_cons]
    simp only [Op.bytesLess, bytesLess_eq x y]
    rcases Nat.lt_trichotomy a.toNat b.toNat with h | h | h
    · rw [if_pos h]; simp [UInt8.lt_iff_toNat_lt, h]
    · rw [if_neg (by omega), if_neg (by omega)]
      have : a = b := u8_toNat h
      subst this; simp
    · rw [if_neg (by omega), if_pos h]
      have h1 : ¬ a < b := by rw [UInt8.lt_iff_toNat_lt]; omega
      have h2 : a ≠ b := by rintro rfl; omega
      simp [h1, h2]
theorem sz_lt {x y : List UInt8} (h : x.length < y.length) : sizeL x y = -1 := by unfold sizeL; rw [if_pos (.inl h)]
theorem sz_ls {x y : List UInt8} (h : x.length = y.length) (h2 : Op.bytesLess x y = true) : sizeL x y = -1 := by
  rw [bytesLess_eq] at h2
  unfold sizeL; rw [if_pos (.inr ⟨h, by simpa using h2⟩)]
theorem sz_eq {x y : List UInt8} (h : x = y) : sizeL x y = 0 := by
  subst h
  unfold sizeL
  rw [cmpB_zero.2 rfl, if_neg (by omega), if_pos rfl]
theorem sz_gt {x y : List UInt8} (h : y.length ≤ x.length) (h2 : x.length = y.length → Op.bytesLess x y = false) (h3 : x ≠ y) : sizeL x y = 1 := by
  unfold sizeL
  rw [if_neg ?_, if_neg h3]
  rintro (h4 | ⟨h4, h5⟩)
  · omega
  · have := h2 h4
    rw [bytesLess_eq] at this
    simp at this; omega
theorem ne_of_beq_false {x y : List UInt8} (h : (x == y) = false) : x ≠ y := by simpa using h
theorem emp_eq {x : List UInt8} (h : x.isEmpty = true) : [] = x := (List.isEmpty_iff.1 h).symm
theorem emp_ne {x : List UInt8} (h : x.isEmpty = false) : x ≠ [] := by rintro rfl; cases h
set_option maxHeartbeats 4000000 in
theorem rsize_of (an bn : Bool) (al bl : List UInt8) (ax bx : Int) (w : World) (hl1 : al.length ≤ 800) (hl2 : bl.length ≤ 800) (hx1 : -2000 ≤ ax ∧ ax ≤ 2000) (hx2 : -2000 ≤ bx ∧ bx ≤ 2000) :
    Calls Tryz.prog 34 #[.agg #[.bool an, .string ⟨al.toArray⟩, .int .i64 ax], .agg #[.bool bn, .string ⟨bl.toArray⟩, .int .i64 bx]] w fun e w' => e = .returned (.int .i64 (sizeR ⟨an, al, ax⟩ ⟨bn, bl, bx⟩)) ∧ Chg Pure' w w' := by
  obtain ⟨R, hR⟩ : ∃ R, R = sizeR ⟨an, al, ax⟩ ⟨bn, bl, bx⟩ := ⟨_, rfl⟩
  rw [← hR]
  obtain ⟨lo, p, q, rfl, rfl, hpq⟩ : ∃ lo : Int, ∃ p q : Nat, ax = lo + p ∧ bx = lo + q ∧ min (lo + p : Int) (lo + q) = lo :=
    ⟨min ax bx, (ax - min ax bx).toNat, (bx - min ax bx).toNat, by omega, by omega, by omega⟩
  have HR := Lib.hid hR
  clear hR
  go_enter Tryz.func34, Tryz.ntmps34
  go_wp2
  obtain ⟨w1, hw1⟩ : ∃ v, v = ((w.alloc (.cells #[.bool an, .string ⟨al.toArray⟩, .int .i64 (lo + p)] 23)).alloc (.cells #[.bool bn, .string ⟨bl.toArray⟩, .int .i64 (lo + q)] 23)) := ⟨_, rfl⟩
  have z1 : Chg Pure' w w1 := by rw [hw1]; exact (Chg.alloc (Chg.refl _ _) _).alloc _
  obtain ⟨k1, k2⟩ := two_cells (w1 := w1) (by rw [hw1]; exact Chg.refl _ _)
  obtain ⟨a0, a1, a2, -⟩ := blk_cells k1
  obtain ⟨b0, b1, b2, -⟩ := blk_cells k2
  rw [← hw1]
  clear hw1 k1 k2
  refine reg_begin (Pure') (by kernel_rfl) ?_
  refine reg_take 0 (v := ?_) rfl (by kernel_rfl) (by kernel_rfl) (by kernel_rfl) (fun _ _ _ h => h) (by kernel_rfl) ?_ ?_
  rotate_left
  · (intro w' hS; go_simp; (try go_bits); (try with_reducible rfl))
  try simp only [Act.put, List.getElem_toArray, List.getElem_cons_zero, List.getElem_cons_succ, List.setIfInBounds_toArray, List.set_cons_zero, List.set_cons_succ]
  refine reg_take 1 (v := ?_) rfl (by kernel_rfl) (by kernel_rfl) (by kernel_rfl) (fun _ _ _ h => h) (by kernel_rfl) ?_ ?_
  rotate_left
  · (intro w' hS; have hz := hS.cell (w := w1.drew) a1 (fun h => h); go_simp; (try go_bits); (try with_reducible rfl))
  try simp only [Act.put, List.getElem_toArray, List.getElem_cons_zero, List.getElem_cons_succ, List.setIfInBounds_toArray, List.set_cons_zero, List.set_cons_succ]
  refine reg_take 2 (v := ?_) rfl (by kernel_rfl) (by kernel_rfl) (by kernel_rfl) (fun _ _ _ h => h) (by kernel_rfl) ?_ ?_
  rotate_left
  · (intro w' hS; go_simp; (try go_bits); (try with_reducible rfl))
  try simp only [Act.put, List.getElem_toArray, List.getElem_cons_zero, List.getElem_cons_succ, List.setIfInBounds_toArray, List.set_cons_zero, List.set_cons_succ]
  refine reg_take 3 (v := ?_) rfl (by kernel_rfl) (by kernel_rfl) (by kernel_rfl) (fun _ _ _ h => h) (by kernel_rfl) ?_ ?_
  rotate_left
  · (intro w' hS; have hz := hS.cell (w := w1.drew) b1 (fun h => h); go_simp; (try go_bits); (try with_reducible rfl))
  try simp only [Act.put, List.getElem_toArray, List.getElem_cons_zero, List.getElem_cons_succ, List.setIfInBounds_toArray, List.set_cons_zero, List.set_cons_succ]
  refine reg_take 4 (v := ?_) rfl (by kernel_rfl) (by kernel_rfl) (by kernel_rfl) (fun _ _ _ h => h) (by kernel_rfl) ?_ ?_
  rotate_left
  · (intro w' hS; go_simp; (try go_bits); (try with_reducible rfl))
  try simp only [Act.put, List.getElem_toArray, List.getElem_cons_zero, List.getElem_cons_succ, List.setIfInBounds_toArray, List.set_cons_zero, List.set_cons_succ]
  refine reg_take 5 (v := ?_) rfl (by kernel_rfl) (by kernel_rfl) (by kernel_rfl) (fun _ _ _ h => h) (by kernel_rfl) ?_ ?_
  rotate_left
  · (intro w' hS; go_simp; (try go_bits); (try with_reducible rfl))
  try simp only [Act.put, List.getElem_toArray, List.getElem_cons_zero, List.getElem_cons_succ, List.setIfInBounds_toArray, List.set_cons_zero, List.set_cons_succ]
  refine wpAnyH_done (by kernel_rfl) ?_ _
  go_wp2
  go_loop [6, 8] (fun x i => ∃ k : Nat, k ≤ p ∧ x = .string ⟨(padS al k).toArray⟩ ∧ i = .int .i64 (lo + k)) (fun x i => (lo + p - intOf i).toNat)
  case atStart => exact ⟨0, Nat.zero_le _, by simp [padS], by simp⟩
  case round =>
    obtain ⟨k, hk, rfl, rfl⟩ := hrel
    rcases Nat.lt_or_ge k p with hlt | hge
    · have hs := padS_succ al k
      have hl := padS_len al k
      go_wp2
      exact ⟨⟨k + 1, hlt, by rw [← padS_succ], by rw [Int.natCast_add, Int.natCast_one, Int.add_assoc]⟩, by simp only [intOf]; omega⟩
    · obtain rfl : k = p := by omega
      clear hge hk
      go_wp2
      go_loop [7, 9] (fun y i => ∃ j : Nat, j ≤ q ∧ y = .string ⟨(padS bl j).toArray⟩ ∧ i = .int .i64 (lo + j)) (fun y i => (lo + q - intOf i).toNat)
      case atStart => exact ⟨0, Nat.zero_le _, by simp [padS], by simp⟩
      case round =>
        obtain ⟨j, hj, rfl, rfl⟩ := hrel
        rcases Nat.lt_or_ge j q with hlt | hge
        · have hs := padS_succ bl j
          have hl := padS_len bl j
          go_wp2
          exact ⟨⟨j + 1, hlt, by rw [← padS_succ], by rw [Int.natCast_add, Int.natCast_one, Int.add_assoc]⟩, by simp only [intOf]; omega⟩
        · obtain rfl : j = q := by omega
          clear hge hj
          have hlx := padS_len al k
          have hly := padS_len bl j
          have hRR : R = sizeL (if al = [48] then [] else padS al k) (if bl = [48] then [] else padS bl j) := by
            rw [HR.out, sizeR]
            simp only [hpq, padR]
            have e1 : (lo + (k : Int) - lo).toNat = k := by omega
            have e2 : (lo + (j : Int) - lo).toNat = j := by omega
            rw [e1, e2]; rfl
          have HRR := Lib.hid hRR
          clear hRR HR
          go_wp2
          all_goals go_ret
          all_goals refine ⟨?_, z1.trans' (Chg.refl _ _).drew⟩
          all_goals have hRR := HRR.out
          all_goals first
            | (have hA : al = [48] := by
                 have h := (by assumption : (al == [48]) = true)
                 simpa using h
               rw [if_pos hA] at hRR)
            | (have hA : ¬ al = [48] := by
                 have h := (by assumption : (al == [48]) = false)
                 simpa using h
               rw [if_neg hA] at hRR)
          all_goals first
            | (have hB : bl = [48] := by
                 have h := (by assumption : (bl == [48]) = true)
                 simpa using h
               rw [if_pos hB] at hRR)
            | (have hB : ¬ bl = [48] := by
                 have h := (by assumption : (bl == [48]) = false)
                 simpa using h
               rw [if_neg hB] at hRR)
          all_goals rw [hRR]
          all_goals first
            | (rw [sz_lt (by simp only [padS_len, List.length_nil]; omega)]; rfl)
            | (rw [sz_ls (by simp only [padS_len, List.length_nil]; omega) (by assumption)]; rfl)
            | (rw [sz_eq (by first | rfl | exact emp_eq (by assumption) | exact (emp_eq (by assumption)).symm | exact eq_of_beq (by assumption))]; first | rfl | exact ret_int (by omega))
            | (rw [sz_gt (by simp only [padS_len, List.length_nil]; omega) (fun h => by first | assumption | (simp only [padS_len, List.length_nil] at h; omega)) (by first | exact ne_of_beq_false (by assumption) | exact emp_ne (by assumption) | exact (emp_ne (by assumption)).symm)]; rfl)
theorem orderR_val (a b : Num) (ha : a.right = true) (hb : b.right = true) : orderR a b = (if a.neg = true ∧ b.neg = false then -1 else if a.neg = false ∧ b.neg = true then 1 else if a.neg = true then sizeR b a else sizeR a b, 0) := by
  unfold orderR
  rw [if_neg (by simp [ha, hb])]
  repeat' split
  all_goals rfl
set_option maxHeartbeats 4000000 in
theorem rorder_of (a b : Num) (w : World) (hla : a.dig.length ≤ 9223372036854775807) (hlb : b.dig.length ≤ 9223372036854775807) :
    Calls Tryz.prog 10 #[a.val, b.val] w fun e w' => e = .returned (.tuple #[.int .i64 (orderR a b).1, .int .i64 (orderR a b).2]) ∧ Chg Pure' w w' := by
  obtain ⟨R, hR⟩ : ∃ R, R = orderR a b := ⟨_, rfl⟩
  rw [← hR]
  have HR := Lib.hid hR
  clear hR
  obtain ⟨an, al, ax⟩ := a
  obtain ⟨bn, bl, bx⟩ := b
  obtain ⟨ra, hra⟩ : ∃ r, r = (⟨an, al, ax⟩ : Num).right := ⟨_, rfl⟩
  obtain ⟨rb, hrb⟩ : ∃ r, r = (⟨bn, bl, bx⟩ : Num).right := ⟨_, rfl⟩
  have hal : ra = true → al.length ≤ 800 ∧ -2000 ≤ ax ∧ ax ≤ 2000 := fun h => ⟨Num.right_len (n := ⟨an, al, ax⟩) (by rw [← hra]; exact h), Num.right_exp (n := ⟨an, al, ax⟩) (by rw [← hra]; exact h)⟩
  have hbl : rb = true → bl.length ≤ 800 ∧ -2000 ≤ bx ∧ bx ≤ 2000 := fun h => ⟨Num.right_len (n := ⟨bn, bl, bx⟩) (by rw [← hrb]; exact h), Num.right_exp (n := ⟨bn, bl, bx⟩) (by rw [← hrb]; exact h)⟩
  have HA := Lib.hid hra
  have HB := Lib.hid hrb
  clear hra hrb
  unfold Num.val
  replace hla : al.length ≤ 9223372036854775807 := hla
  replace hlb : bl.length ≤ 9223372036854775807 := hlb
  have tk := Tryz.underlying3
  have y0 : Chg Pure' w ((w.alloc (.cells #[.bool an, .string ⟨al.toArray⟩, .int .i64 ax] 23)).alloc (.cells #[.bool bn, .string ⟨bl.toArray⟩, .int .i64 bx] 23)) := (Chg.alloc (Chg.refl _ _) _).alloc _
  cases ra with
  | false =>
    have hr : R = (0, 1) := by rw [HR.out, orderR, if_pos (.inl HA.out.symm)]
    clear HR
    go_enter Tryz.func10, Tryz.ntmps10
    go_wp2_with (first
      | (go_at_call 14; refine (rright06_of _ _ _ _ hla).mono ?_; rintro e w1 ⟨rfl, z1⟩; rw [← HA.out]))
    go_ret2
    exact ⟨by first | rfl | (rw [hr]; rfl), y0.trans' z1⟩
  | true =>
    cases rb with
    | false =>
      have hr : R = (0, 1) := by rw [HR.out, orderR, if_pos (.inr HB.out.symm)]
      clear HR
      go_enter Tryz.func10, Tryz.ntmps10
      go_wp2_with (first
        | (go_at_call 14; first
            | (clear tk; refine (rright06_of _ _ _ _ hla).mono ?_; rintro e w1 ⟨rfl, z1⟩; rw [← HA.out]; obtain ⟨k1, k2⟩ := two_cells z1; obtain ⟨a0, a1, a2, -⟩ := blk_cells k1; obtain ⟨b0, b1, b2, -⟩ := blk_cells k2; clear k1 k2)
            | (refine (rright06_of _ _ _ _ hlb).mono ?_; rintro e w2 ⟨rfl, z2⟩; rw [← HB.out])))
      go_ret2
      exact ⟨by first | rfl | (rw [hr]; rfl), y0.trans' (z1.trans' z2)⟩
    | true =>
      obtain ⟨hl1, hx1⟩ := hal rfl
      obtain ⟨hl2, hx2⟩ := hbl rfl
      have ho := orderR_val ⟨an, al, ax⟩ ⟨bn, bl, bx⟩ HA.out.symm HB.out.symm
      rw [← HR.out] at ho
      have HO := Lib.hid ho
      clear ho HR
      cases an <;> cases bn
      · go_enter Tryz.func10, Tryz.ntmps10
        go_wp2_with (first
          | (go_at_call 14; first
              | (clear tk; refine (rright06_of _ _ _ _ hla).mono ?_; rintro e w1 ⟨rfl, z1⟩; rw [← HA.out]; obtain ⟨k1, k2⟩ := two_cells z1; obtain ⟨a0, a1, a2, -⟩ := blk_cells k1; obtain ⟨b0, b1, b2, -⟩ := blk_cells k2; clear k1 k2)
              | (refine (rright06_of _ _ _ _ hlb).mono ?_; rintro e w2 ⟨rfl, z2⟩; rw [← HB.out]; clear a0 a1 a2 b0 b1 b2; obtain ⟨k1, k2⟩ := two_cells (z1.trans' z2); obtain ⟨a0, a1, a2, -⟩ := blk_cells k1; obtain ⟨b0, b1, b2, -⟩ := blk_cells k2; clear k1 k2))
          | (go_at_call 34; refine (rsize_of false false al bl ax bx _ hl1 hl2 hx1 hx2).mono ?_; rintro e w3 ⟨rfl, z3⟩))
        go_ret2
        refine ⟨?_, y0.trans' ((z1.trans' z2).trans' z3)⟩
        rw [HO.out]
        rfl
      · go_enter Tryz.func10, Tryz.ntmps10
        go_wp2_with (first
          | (go_at_call 14; first
              | (clear tk; refine (rright06_of _ _ _ _ hla).mono ?_; rintro e w1 ⟨rfl, z1⟩; rw [← HA.out]; obtain ⟨k1, k2⟩ := two_cells z1; obtain ⟨a0, a1, a2, -⟩ := blk_cells k1; obtain ⟨b0, b1, b2, -⟩ := blk_cells k2; clear k1 k2)
              | (refine (rright06_of _ _ _ _ hlb).mono ?_; rintro e w2 ⟨rfl, z2⟩; rw [← HB.out]; clear a0 a1 a2 b0 b1 b2; obtain ⟨k1, k2⟩ := two_cells (z1.trans' z2); obtain ⟨a0, a1, a2, -⟩ := blk_cells k1; obtain ⟨b0, b1, b2, -⟩ := blk_cells k2; clear k1 k2)))
        go_ret2
        refine ⟨?_, y0.trans' (z1.trans' z2)⟩
        rw [HO.out]
        rfl
      · go_enter Tryz.func10, Tryz.ntmps10
        go_wp2_with (first
          | (go_at_call 14; first
              | (clear tk; refine (rright06_of _ _ _ _ hla).mono ?_; rintro e w1 ⟨rfl, z1⟩; rw [← HA.out]; obtain ⟨k1, k2⟩ := two_cells z1; obtain ⟨a0, a1, a2, -⟩ := blk_cells k1; obtain ⟨b0, b1, b2, -⟩ := blk_cells k2; clear k1 k2)
              | (refine (rright06_of _ _ _ _ hlb).mono ?_; rintro e w2 ⟨rfl, z2⟩; rw [← HB.out]; clear a0 a1 a2 b0 b1 b2; obtain ⟨k1, k2⟩ := two_cells (z1.trans' z2); obtain ⟨a0, a1, a2, -⟩ := blk_cells k1; obtain ⟨b0, b1, b2, -⟩ := blk_cells k2; clear k1 k2)))
        go_ret2
        refine ⟨?_, y0.trans' (z1.trans' z2)⟩
        rw [HO.out]
        rfl
      · go_enter Tryz.func10, Tryz.ntmps10
        go_wp2_with (first
          | (go_at_call 14; first
              | (clear tk; refine (rright06_of _ _ _ _ hla).mono ?_; rintro e w1 ⟨rfl, z1⟩; rw [← HA.out]; obtain ⟨k1, k2⟩ := two_cells z1; obtain ⟨a0, a1, a2, -⟩ := blk_cells k1; obtain ⟨b0, b1, b2, -⟩ := blk_cells k2; clear k1 k2)
              | (refine (rright06_of _ _ _ _ hlb).mono ?_; rintro e w2 ⟨rfl, z2⟩; rw [← HB.out]; clear a0 a1 a2 b0 b1 b2; obtain ⟨k1, k2⟩ := two_cells (z1.trans' z2); obtain ⟨a0, a1, a2, -⟩ := blk_cells k1; obtain ⟨b0, b1, b2, -⟩ := blk_cells k2; clear k1 k2))
          | (go_at_call 34; refine (rsize_of true true bl al bx ax _ hl2 hl1 hx2 hx1).mono ?_; rintro e w3 ⟨rfl, z3⟩))
        go_ret2
        refine ⟨?_, y0.trans' ((z1.trans' z2).trans' z3)⟩
        rw [HO.out]
        rfl
end Go.Proofs.YtkplgndcbngjoaaGreatDoor
