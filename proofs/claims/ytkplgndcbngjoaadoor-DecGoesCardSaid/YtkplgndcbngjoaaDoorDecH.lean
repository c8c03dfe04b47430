/- The laws of the program alone: DecBack, DecGoes. -/
import Derived.Test.YtkplgndcbngjoaaDoorDecG
import Derived.Test.YtkplgndcbngjoaaDoorRegL
namespace Go.Proofs.YtkplgndcbngjoaaDoor
open Go Go.RowKit
set_option linter.unusedVariables false
set_option maxRecDepth 100000
set_option linter.unusedSimpArgs false

set_option maxHeartbeats 2000000 in
theorem law_DecBack (neg : Bool) (l : List UInt8) (x : Int) (w : World) (hl : l.length ≤ 9223372036854775807) (hx : -9223372036854775808 ≤ x ∧ x ≤ 9223372036854775807) (he : Env w) :
    Calls Tryd.prog 4 #[.bool neg, .string ⟨l.toArray⟩, .int .i64 x] w fun e w' => e = .returned (.bool true) ∧ Chg Pure' w w' := by
  obtain ⟨⟨⟨pn, pd, px⟩, pe⟩, hP⟩ : ∃ P, P = makeA neg l x := ⟨_, rfl⟩
  have hM := decMake_of neg l x
  have hr : pe = 0 → Num.right ⟨pn, pd, px⟩ = true := fun h => by
    have h1 := makeA_right (neg := neg) (l := l) (x := x) (by rw [← hP]; exact h)
    rw [← hP] at h1; exact h1
  rw [← hP] at hM
  clear hP
  have HM := Lib.hid hM
  clear hM
  by_cases hpe : pe = 0
  · subst hpe
    have hn := hr rfl
    have hb := back hn
    have ht := text_len hn
    have hd : pd.length ≤ 9223372036854775807 := by have := Num.right_len hn; simp only at this; omega
    have hT := fun w he => text_of ⟨pn, pd, px⟩ w hd he
    generalize textA ⟨pn, pd, px⟩ = t at *
    have hPa : ∀ w, Env w → Calls Tryd.prog 10 #[.string ⟨t.toArray⟩] w fun e w' => e = .returned (.tuple #[.agg #[.bool pn, .string ⟨pd.toArray⟩, .int .i64 px], .agg #[.int .i64 0, .int .i64 0]]) ∧ Chg Pure' w w' := by
      intro w he
      refine (parse_of t w (by omega) he).mono ?_
      rintro e w' ⟨rfl, hc⟩
      exact ⟨by rw [hb]; rfl, hc⟩
    have hRt : ∀ w, Calls Tryd.prog 12 #[.agg #[.bool pn, .string ⟨pd.toArray⟩, .int .i64 px]] w fun e w' => e = .returned (.bool true) ∧ Chg Pure' w w' := by
      intro w
      refine (decRight_any pn pd px w hd).mono ?_
      rintro e w' ⟨rfl, hc⟩
      exact ⟨by rw [hn], hc⟩
    clear hr hb hn
    have HP := Lib.hid hPa
    have HR := Lib.hid hRt
    have HT := Lib.hid hT
    clear hPa hRt hT
    dsimp only [Num.val] at HM HT
    go_enter Tryd.func4, Tryd.ntmps4
    go_wp2_with (first
      | (go_at_call 7; refine (HM.out _ hl hx).mono ?_; rintro e w1 ⟨rfl, z1⟩)
      | (go_at_call 11; refine (HT.out _ (he.pure (z1.alloc _))).mono ?_; rintro e w2 ⟨rfl, z2⟩)
      | (go_at_call 10; refine (HP.out _ (he.pure ((z1.alloc _).trans' z2))).mono ?_; rintro e w3 ⟨rfl, z3⟩
         obtain ⟨n0, n1, n2⟩ := num_cells (z2.trans' z3)
         have N0 : ∀ o o', ((w3.alloc o).alloc o').cell? ⟨w1.heap.size, 0, none⟩ = some (.bool pn) := fun o o' => (((Chg.refl Pure' w3).alloc o).alloc o').cell n0 (fun h => h)
         have N1 : ∀ o o', ((w3.alloc o).alloc o').cell? ⟨w1.heap.size, 1, none⟩ = some (.string ⟨pd.toArray⟩) := fun o o' => (((Chg.refl Pure' w3).alloc o).alloc o').cell n1 (fun h => h)
         have N2 : ∀ o o', ((w3.alloc o).alloc o').cell? ⟨w1.heap.size, 2, none⟩ = some (.int .i64 px) := fun o o' => (((Chg.refl Pure' w3).alloc o).alloc o').cell n2 (fun h => h)
         clear n0 n1 n2)
      | (go_at_call 12; refine (HR.out _).mono ?_; rintro e w4 ⟨rfl, z4⟩
         obtain ⟨k1, k2⟩ := two_cells z4; obtain ⟨a0, a1, a2, -⟩ := blk_cells k1; obtain ⟨b0, b1, -⟩ := blk_cells2 k2; clear k1 k2
         have n0 := z4.cell (N0 _ _) (fun h => h); have n1 := z4.cell (N1 _ _) (fun h => h); have n2 := z4.cell (N2 _ _) (fun h => h); clear N0 N1 N2)
      | (go_at_call 9; refine (alive06 _ (he.pure (((((z1.alloc _).trans' z2).trans' z3).trans' (((Chg.refl Pure' w3).alloc _).alloc _)).trans' z4))).mono ?_; rintro e w5 ⟨rfl, z5⟩))
    go_ret
    exact ⟨rfl, (((((z1.alloc _).trans' z2).trans' z3).trans' (((Chg.refl Pure' w3).alloc _).alloc _)).trans' z4).trans' z5⟩
  · clear hr
    dsimp only [Num.val] at HM
    go_enter Tryd.func4, Tryd.ntmps4
    go_wp2_with (first
      | (go_at_call 7; refine (HM.out _ hl hx).mono ?_; rintro e w1 ⟨rfl, z1⟩)
      | (go_at_call 9; refine (alive06 _ (he.pure (z1.alloc _))).mono ?_; rintro e w4 ⟨rfl, z4⟩))
    go_ret
    exact ⟨rfl, (z1.alloc _).trans' z4⟩
theorem goes_law (a b c : Num) : (orderA b a).2 = (orderA a b).2 ∧ ((orderA a b).2 = 0 → (orderA b a).1 = - (orderA a b).1) ∧
    ((orderA a b).2 = 0 → (orderA b c).2 = 0 → (orderA a c).2 = 0 → (orderA a b).1 ≤ 0 → (orderA b c).1 ≤ 0 → (orderA a c).1 ≤ 0) ∧
    ((orderA a b).2 = 0 → a.dig ≠ [48] → b.dig ≠ [48] → orderA a.turn b.turn = (- (orderA a b).1, 0)) ∧ (-1 ≤ (orderA a b).1 ∧ (orderA a b).1 ≤ 1) := by
  refine ⟨?_, ?_, ?_, ?_, ?_⟩
  · have h1 := @orderA_ok a b
    have h2 := @orderA_ok b a
    rcases @orderA_err a b with h | h <;> rcases @orderA_err b a with g | g
    · rw [h, g]
    · have := h1.1 h; have := h2.2 ⟨this.2, this.1⟩; omega
    · have := h2.1 g; have := h1.2 ⟨this.2, this.1⟩; omega
    · rw [h, g]
  · intro h
    obtain ⟨ha, hb⟩ := orderA_ok.1 h
    rw [orderA_one ha hb, orderA_one hb ha]
    exact ordB_anti a b
  · intro h1 h2 h3
    obtain ⟨ha, hb⟩ := orderA_ok.1 h1
    obtain ⟨-, hc⟩ := orderA_ok.1 h2
    rw [orderA_one ha hb, orderA_one hb hc, orderA_one ha hc]
    exact ordB_trans
  · intro h hda hdb
    obtain ⟨ha, hb⟩ := orderA_ok.1 h
    rw [orderA_one ha hb, orderA_one (Num.turn_right ha hda) (Num.turn_right hb hdb), ordB_turn]
  · unfold orderA
    split
    · decide
    · split
      · split <;> decide
      · have := sizeA_range b a
        have := sizeA_range a b
        split <;> simp only <;> omega
theorem three_cells {w w1 : World} {C1 C2 C3 : Array Value} {t1 t2 t3 : TypeId} (z : Chg Pure' (((w.alloc (.cells C1 t1)).alloc (.cells C2 t2)).alloc (.cells C3 t3)) w1) :
    (w1.heap[w.heap.size]? = some (.cells C1 t1 (0, 0))) ∧ (w1.heap[w.heap.size + 1]? = some (.cells C2 t2 (0, 0))) ∧ (w1.heap[w.heap.size + 2]? = some (.cells C3 t3 (0, 0))) := by
  obtain ⟨h1, h2⟩ := two_cells (((Chg.refl Pure' ((w.alloc (.cells C1 t1)).alloc (.cells C2 t2))).alloc (.cells C3 t3)).trans' z)
  refine ⟨h1, h2, ?_⟩
  refine (z.block (w.heap.size + 2) (by simp) (fun h => h)).trans ?_
  have : w.heap.size + 2 = ((w.alloc (.cells C1 t1)).alloc (.cells C2 t2)).heap.size := by simp
  rw [this]
  exact Array.getElem?_push_size
set_option maxHeartbeats 4000000 in
theorem law_DecGoes (a b c : Num) (w : World) (hla : a.dig.length ≤ 9223372036854775807) (hlb : b.dig.length ≤ 9223372036854775807) (hlc : c.dig.length ≤ 9223372036854775807) (he : Env w) :
    Calls Tryd.prog 6 #[a.val, b.val, c.val] w fun e w' => e = .returned (.bool true) ∧ Chg Pure' w w' := by
  have hG := goes_law a b c
  have hO1 := order_of a b
  have hO2 := order_of b c
  have hO3 := order_of a c
  have hO4 := order_of b a
  have hO5 := order_of a.turn b.turn
  obtain ⟨⟨x, e1⟩, h1⟩ : ∃ P, P = orderA a b := ⟨_, rfl⟩
  obtain ⟨⟨y, e2⟩, h2⟩ : ∃ P, P = orderA b c := ⟨_, rfl⟩
  obtain ⟨⟨z, e3⟩, h3⟩ : ∃ P, P = orderA a c := ⟨_, rfl⟩
  obtain ⟨⟨v, e4⟩, h4⟩ : ∃ P, P = orderA b a := ⟨_, rfl⟩
  rw [← h1, ← h2, ← h3, ← h4] at hG
  rw [← h1] at hO1
  rw [← h2] at hO2
  rw [← h3] at hO3
  rw [← h4] at hO4
  clear h1 h2 h3 h4
  obtain ⟨g1, g2, g3, g4, g5⟩ := hG
  obtain ⟨an, al, ax⟩ := a
  obtain ⟨bn, bl, bx⟩ := b
  obtain ⟨cn, cl, cx⟩ := c
  dsimp only [Num.val, Num.turn] at *
  subst g1
  have O1 := Lib.hid hO1
  have O2 := Lib.hid hO2
  have O3 := Lib.hid hO3
  have O4 := Lib.hid hO4
  have O5 := Lib.hid hO5
  clear hO1 hO2 hO3 hO4 hO5
  by_cases h1 : e4 = 0
  · subst h1
    have hv := g2 rfl
    subst hv
    have G3 := Lib.hid (g3 rfl)
    have G4 := Lib.hid (g4 rfl)
    clear g3 g4 g2
    by_cases h2 : e2 = 0
    · subst h2
      by_cases h3 : e3 = 0
      · subst h3
        have tk1 := Tryd.underlying3
        have tk2 := tk1
        have tk3 := tk1
        have tk4 := tk1
        have y0 : Chg Pure' w (((w.alloc (.cells #[.bool an, .string ⟨al.toArray⟩, .int .i64 ax] 23)).alloc (.cells #[.bool bn, .string ⟨bl.toArray⟩, .int .i64 bx] 23)).alloc (.cells #[.bool cn, .string ⟨cl.toArray⟩, .int .i64 cx] 23)) := ((Chg.alloc (Chg.refl _ _) _).alloc _).alloc _
        go_enter Tryd.func6, Tryd.ntmps6
        go_wp2_with (first
          | (go_at_call 13; first
              | (clear tk1; refine (O1.out _ hla hlb).mono ?_; rintro e w1 ⟨rfl, z1⟩
                 obtain ⟨k1, k2, k3⟩ := three_cells z1; obtain ⟨a0, a1, a2, af0, af1, af2⟩ := blk_cells k1; obtain ⟨b0, b1, b2, bf0, bf1, bf2⟩ := blk_cells k2; obtain ⟨c0, c1, c2, -⟩ := blk_cells k3; clear k1 k2 k3)
              | (clear tk2; refine (O2.out _ hlb hlc).mono ?_; rintro e w2 ⟨rfl, z2⟩
                 obtain ⟨k1, k2, k3⟩ := three_cells (z1.trans' z2); clear a0 a1 a2 af0 af1 af2 b0 b1 b2 bf0 bf1 bf2 c0 c1 c2; obtain ⟨a0, a1, a2, af0, af1, af2⟩ := blk_cells k1; obtain ⟨b0, b1, b2, bf0, bf1, bf2⟩ := blk_cells k2; obtain ⟨c0, c1, c2, -⟩ := blk_cells k3; clear k1 k2 k3)
              | (clear tk3; refine (O3.out _ hla hlc).mono ?_; rintro e w3 ⟨rfl, z3⟩
                 obtain ⟨k1, k2, k3⟩ := three_cells ((z1.trans' z2).trans' z3); clear a0 a1 a2 af0 af1 af2 b0 b1 b2 bf0 bf1 bf2 c0 c1 c2; obtain ⟨a0, a1, a2, af0, af1, af2⟩ := blk_cells k1; obtain ⟨b0, b1, b2, bf0, bf1, bf2⟩ := blk_cells k2; obtain ⟨c0, c1, c2, -⟩ := blk_cells k3; clear k1 k2 k3)
              | (clear tk4; refine (O4.out _ hlb hla).mono ?_; rintro e w4 ⟨rfl, z4⟩
                 obtain ⟨k1, k2, k3⟩ := three_cells (((z1.trans' z2).trans' z3).trans' z4); clear a0 a1 a2 af0 af1 af2 b0 b1 b2 bf0 bf1 bf2 c0 c1 c2; obtain ⟨a0, a1, a2, af0, af1, af2⟩ := blk_cells k1; obtain ⟨b0, b1, b2, bf0, bf1, bf2⟩ := blk_cells k2; obtain ⟨c0, c1, c2, -⟩ := blk_cells k3; clear k1 k2 k3))
          | (go_at_call 9; refine (alive06 _ (he.pure (y0.trans' (((z1.trans' z2).trans' z3).trans' z4)))).mono ?_; rintro e w5 ⟨rfl, z5⟩))
        all_goals first
          | (exfalso
             have h : x ≤ 0 → y ≤ 0 → z ≤ 0 := by simpa using G3.out
             have h1 := (by assumption : x ≤ 0)
             have h2 := (by assumption : y ≤ 0)
             have h3 := (by assumption : 0 < z)
             have := h h1 h2
             omega)
          | (go_ret
             exact ⟨rfl, (y0.trans' (((z1.trans' z2).trans' z3).trans' z4)).trans' z5⟩)
          | (have hab := (by assumption : (al == [48]) = false ∧ (bl == [48]) = false)
             have ha : al ≠ [48] := by simpa using hab.1
             have hb : bl ≠ [48] := by simpa using hab.2
             have O6 := O5.out
             rw [G4.out ha hb] at O6
             have HO6 := Lib.hid O6
             clear O6 O5 O1 O2 O3 O4 ha hb hab
             refine regL_begin 9 (fun k => k = w.heap.size) (by kernel_rfl) ?_
             refine regL_take 3 (v := ?_) rfl (by kernel_rfl) (by kernel_rfl) (by kernel_rfl) (by kernel_rfl) (fun _ _ _ h => h) (by kernel_rfl) ?_ ?_
             rotate_left
             · (intro w' hS; go_simp; (try go_bits); (try with_reducible rfl))
             try simp only [Act.put, List.getElem_toArray, List.getElem_cons_zero, List.getElem_cons_succ, List.setIfInBounds_toArray, List.set_cons_zero, List.set_cons_succ]
             refine regL_take 4 (v := ?_) rfl (by kernel_rfl) (by kernel_rfl) (by kernel_rfl) (by kernel_rfl) (fun _ _ _ h => h) (by kernel_rfl) ?_ ?_
             rotate_left
             · (intro w' hS; have hz := hS.cell (w := w4.drew) b0 (fun h : w.heap.size + 1 = w.heap.size => by omega); go_simp; (try go_bits); (try with_reducible rfl))
             try simp only [Act.put, List.getElem_toArray, List.getElem_cons_zero, List.getElem_cons_succ, List.setIfInBounds_toArray, List.set_cons_zero, List.set_cons_succ]
             refine regL_take 5 (v := ?_) rfl (by kernel_rfl) (by kernel_rfl) (by kernel_rfl) (by kernel_rfl) (fun _ _ _ h => h) (by kernel_rfl) ?_ ?_
             rotate_left
             · (intro w' hS; go_simp; (try go_bits); (try with_reducible rfl))
             try simp only [Act.put, List.getElem_toArray, List.getElem_cons_zero, List.getElem_cons_succ, List.setIfInBounds_toArray, List.set_cons_zero, List.set_cons_succ]
             refine regL_take 0 (v := ?_) rfl (by kernel_rfl) (by kernel_rfl) (by kernel_rfl) (by kernel_rfl) (fun _ _ _ h => h) (by kernel_rfl) ?_ ?_
             rotate_left
             · (intro w' hS; go_simp; (try go_bits); (try with_reducible rfl))
             try simp only [Act.put, List.getElem_toArray, List.getElem_cons_zero, List.getElem_cons_succ, List.setIfInBounds_toArray, List.set_cons_zero, List.set_cons_succ]
             refine regL_do 1 rfl (by kernel_rfl) (by kernel_rfl) ?_
             intro K hK
             go_simp
             refine hK _ _ (Chg.refl _ _) ?_
             clear hK K
             try simp only [Act.put, List.getElem_toArray, List.getElem_cons_zero, List.getElem_cons_succ, List.setIfInBounds_toArray, List.set_cons_zero, List.set_cons_succ]
             refine regL_take 2 (v := ?_) rfl (by kernel_rfl) (by kernel_rfl) (by kernel_rfl) (by kernel_rfl) (fun _ _ _ h => h) (by kernel_rfl) ?_ ?_
             rotate_left
             · (intro w' hS; go_simp; (try go_bits); (try with_reducible rfl))
             try simp only [Act.put, List.getElem_toArray, List.getElem_cons_zero, List.getElem_cons_succ, List.setIfInBounds_toArray, List.set_cons_zero, List.set_cons_succ]
             refine regL_take 6 (v := ?_) rfl (by kernel_rfl) (by kernel_rfl) (by kernel_rfl) (by kernel_rfl) (fun _ _ _ h => h) (by kernel_rfl) ?_ ?_
             rotate_left
             · (intro w' hS; go_simp; (try go_bits); (try with_reducible rfl))
             try simp only [Act.put, List.getElem_toArray, List.getElem_cons_zero, List.getElem_cons_succ, List.setIfInBounds_toArray, List.set_cons_zero, List.set_cons_succ]
             refine regL_do 7 rfl (by kernel_rfl) (by kernel_rfl) ?_
             intro K hK
             go_simp
             refine hK _ _ (Chg.setCell (S := fun k => k = w.heap.size) (a := w4.drew) (b := w4.drew) (Chg.refl _ _) (p := ⟨w.heap.size, 0, none⟩) (.inr rfl) (.bool !an)) ?_
             clear hK K
             try simp only [Act.put, List.getElem_toArray, List.getElem_cons_zero, List.getElem_cons_succ, List.setIfInBounds_toArray, List.set_cons_zero, List.set_cons_succ]
             refine regL_take 8 (v := ?_) rfl (by kernel_rfl) (by kernel_rfl) (by kernel_rfl) (by kernel_rfl) (fun _ _ _ h => h) (by kernel_rfl) ?_ ?_
             rotate_left
             · (intro w' hS; go_simp; (try go_bits); (try with_reducible rfl))
             try simp only [Act.put, List.getElem_toArray, List.getElem_cons_zero, List.getElem_cons_succ, List.setIfInBounds_toArray, List.set_cons_zero, List.set_cons_succ]
             refine regL_last rfl (by kernel_rfl) (by kernel_rfl) ?_
             intro K hK
             go_simp
             refine hK _ _ ?_
             clear hK K
             try simp only [Act.put, List.getElem_toArray, List.getElem_cons_zero, List.getElem_cons_succ, List.setIfInBounds_toArray, List.set_cons_zero, List.set_cons_succ]
             refine wpAnyL_done (by kernel_rfl) ?_ _
             obtain ⟨w5, hw5⟩ : ∃ v, v = ((w4.setCell ⟨w.heap.size, 0, none⟩ (.bool !an)).setCell ⟨w.heap.size + 1, 0, none⟩ (.bool !bn)).drew := ⟨_, rfl⟩
             have A0 : w5.cell? ⟨w.heap.size, 0, none⟩ = some (.bool !an) := by rw [hw5]; go_simp
             have A1 : w5.cell? ⟨w.heap.size, 1, none⟩ = some (.string ⟨al.toArray⟩) := by rw [hw5]; go_simp
             have A2 : w5.cell? ⟨w.heap.size, 2, none⟩ = some (.int .i64 ax) := by rw [hw5]; go_simp
             have B0 : w5.cell? ⟨w.heap.size + 1, 0, none⟩ = some (.bool !bn) := by rw [hw5]; go_simp
             have B1 : w5.cell? ⟨w.heap.size + 1, 1, none⟩ = some (.string ⟨bl.toArray⟩) := by rw [hw5]; go_simp
             have B2 : w5.cell? ⟨w.heap.size + 1, 2, none⟩ = some (.int .i64 bx) := by rw [hw5]; go_simp
             have y5 : Chg Pure' w w5 := by
               rw [hw5]
               exact (((y0.trans' (((z1.trans' z2).trans' z3).trans' z4)).setCell (.inl (Nat.le_refl _)) _).setCell (.inl (Nat.le_succ _)) _).drew
             rw [← hw5]
             clear hw5 a0 a1 a2 af0 af1 af2 b0 b1 b2 bf0 bf1 bf2 c0 c1 c2 y0 z1 z2 z3 z4
             go_wp2_with (first
               | (go_at_call 13; refine (HO6.out _ hla hlb).mono ?_; rintro e w6 ⟨rfl, z6⟩)
               | (go_at_call 9; refine (alive06 _ (he.pure (y5.trans' z6))).mono ?_; rintro e w7 ⟨rfl, z7⟩))
             go_ret
             exact ⟨rfl, (y5.trans' z6).trans' z7⟩)
      · clear G3
        have tk1 := Tryd.underlying3
        have tk2 := tk1
        have tk3 := tk1
        have tk4 := tk1
        have y0 : Chg Pure' w (((w.alloc (.cells #[.bool an, .string ⟨al.toArray⟩, .int .i64 ax] 23)).alloc (.cells #[.bool bn, .string ⟨bl.toArray⟩, .int .i64 bx] 23)).alloc (.cells #[.bool cn, .string ⟨cl.toArray⟩, .int .i64 cx] 23)) := ((Chg.alloc (Chg.refl _ _) _).alloc _).alloc _
        go_enter Tryd.func6, Tryd.ntmps6
        go_wp2_with (first
          | (go_at_call 13; first
              | (clear tk1; refine (O1.out _ hla hlb).mono ?_; rintro e w1 ⟨rfl, z1⟩
                 obtain ⟨k1, k2, k3⟩ := three_cells z1; obtain ⟨a0, a1, a2, af0, af1, af2⟩ := blk_cells k1; obtain ⟨b0, b1, b2, bf0, bf1, bf2⟩ := blk_cells k2; obtain ⟨c0, c1, c2, -⟩ := blk_cells k3; clear k1 k2 k3)
              | (clear tk2; refine (O2.out _ hlb hlc).mono ?_; rintro e w2 ⟨rfl, z2⟩
                 obtain ⟨k1, k2, k3⟩ := three_cells (z1.trans' z2); clear a0 a1 a2 af0 af1 af2 b0 b1 b2 bf0 bf1 bf2 c0 c1 c2; obtain ⟨a0, a1, a2, af0, af1, af2⟩ := blk_cells k1; obtain ⟨b0, b1, b2, bf0, bf1, bf2⟩ := blk_cells k2; obtain ⟨c0, c1, c2, -⟩ := blk_cells k3; clear k1 k2 k3)
              | (clear tk3; refine (O3.out _ hla hlc).mono ?_; rintro e w3 ⟨rfl, z3⟩
                 obtain ⟨k1, k2, k3⟩ := three_cells ((z1.trans' z2).trans' z3); clear a0 a1 a2 af0 af1 af2 b0 b1 b2 bf0 bf1 bf2 c0 c1 c2; obtain ⟨a0, a1, a2, af0, af1, af2⟩ := blk_cells k1; obtain ⟨b0, b1, b2, bf0, bf1, bf2⟩ := blk_cells k2; obtain ⟨c0, c1, c2, -⟩ := blk_cells k3; clear k1 k2 k3)
              | (clear tk4; refine (O4.out _ hlb hla).mono ?_; rintro e w4 ⟨rfl, z4⟩
                 obtain ⟨k1, k2, k3⟩ := three_cells (((z1.trans' z2).trans' z3).trans' z4); clear a0 a1 a2 af0 af1 af2 b0 b1 b2 bf0 bf1 bf2 c0 c1 c2; obtain ⟨a0, a1, a2, af0, af1, af2⟩ := blk_cells k1; obtain ⟨b0, b1, b2, bf0, bf1, bf2⟩ := blk_cells k2; obtain ⟨c0, c1, c2, -⟩ := blk_cells k3; clear k1 k2 k3))
          | (go_at_call 9; refine (alive06 _ (he.pure (y0.trans' (((z1.trans' z2).trans' z3).trans' z4)))).mono ?_; rintro e w5 ⟨rfl, z5⟩))
        all_goals first
          | (go_ret
             exact ⟨rfl, (y0.trans' (((z1.trans' z2).trans' z3).trans' z4)).trans' z5⟩)
          | (have hab := (by assumption : (al == [48]) = false ∧ (bl == [48]) = false)
             have ha : al ≠ [48] := by simpa using hab.1
             have hb : bl ≠ [48] := by simpa using hab.2
             have O6 := O5.out
             rw [G4.out ha hb] at O6
             have HO6 := Lib.hid O6
             clear O6 O5 O1 O2 O3 O4 ha hb hab
             refine regL_begin 9 (fun k => k = w.heap.size) (by kernel_rfl) ?_
             refine regL_take 3 (v := ?_) rfl (by kernel_rfl) (by kernel_rfl) (by kernel_rfl) (by kernel_rfl) (fun _ _ _ h => h) (by kernel_rfl) ?_ ?_
             rotate_left
             · (intro w' hS; go_simp; (try go_bits); (try with_reducible rfl))
             try simp only [Act.put, List.getElem_toArray, List.getElem_cons_zero, List.getElem_cons_succ, List.setIfInBounds_toArray, List.set_cons_zero, List.set_cons_succ]
             refine regL_take 4 (v := ?_) rfl (by kernel_rfl) (by kernel_rfl) (by kernel_rfl) (by kernel_rfl) (fun _ _ _ h => h) (by kernel_rfl) ?_ ?_
             rotate_left
             · (intro w' hS; have hz := hS.cell (w := w4.drew) b0 (fun h : w.heap.size + 1 = w.heap.size => by omega); go_simp; (try go_bits); (try with_reducible rfl))
             try simp only [Act.put, List.getElem_toArray, List.getElem_cons_zero, List.getElem_cons_succ, List.setIfInBounds_toArray, List.set_cons_zero, List.set_cons_succ]
             refine regL_take 5 (v := ?_) rfl (by kernel_rfl) (by kernel_rfl) (by kernel_rfl) (by kernel_rfl) (fun _ _ _ h => h) (by kernel_rfl) ?_ ?_
             rotate_left
             · (intro w' hS; go_simp; (try go_bits); (try with_reducible rfl))
             try simp only [Act.put, List.getElem_toArray, List.getElem_cons_zero, List.getElem_cons_succ, List.setIfInBounds_toArray, List.set_cons_zero, List.set_cons_succ]
             refine regL_take 0 (v := ?_) rfl (by kernel_rfl) (by kernel_rfl) (by kernel_rfl) (by kernel_rfl) (fun _ _ _ h => h) (by kernel_rfl) ?_ ?_
             rotate_left
             · (intro w' hS; go_simp; (try go_bits); (try with_reducible rfl))
             try simp only [Act.put, List.getElem_toArray, List.getElem_cons_zero, List.getElem_cons_succ, List.setIfInBounds_toArray, List.set_cons_zero, List.set_cons_succ]
             refine regL_do 1 rfl (by kernel_rfl) (by kernel_rfl) ?_
             intro K hK
             go_simp
             refine hK _ _ (Chg.refl _ _) ?_
             clear hK K
             try simp only [Act.put, List.getElem_toArray, List.getElem_cons_zero, List.getElem_cons_succ, List.setIfInBounds_toArray, List.set_cons_zero, List.set_cons_succ]
             refine regL_take 2 (v := ?_) rfl (by kernel_rfl) (by kernel_rfl) (by kernel_rfl) (by kernel_rfl) (fun _ _ _ h => h) (by kernel_rfl) ?_ ?_
             rotate_left
             · (intro w' hS; go_simp; (try go_bits); (try with_reducible rfl))
             try simp only [Act.put, List.getElem_toArray, List.getElem_cons_zero, List.getElem_cons_succ, List.setIfInBounds_toArray, List.set_cons_zero, List.set_cons_succ]
             refine regL_take 6 (v := ?_) rfl (by kernel_rfl) (by kernel_rfl) (by kernel_rfl) (by kernel_rfl) (fun _ _ _ h => h) (by kernel_rfl) ?_ ?_
             rotate_left
             · (intro w' hS; go_simp; (try go_bits); (try with_reducible rfl))
             try simp only [Act.put, List.getElem_toArray, List.getElem_cons_zero, List.getElem_cons_succ, List.setIfInBounds_toArray, List.set_cons_zero, List.set_cons_succ]
             refine regL_do 7 rfl (by kernel_rfl) (by kernel_rfl) ?_
             intro K hK
             go_simp
             refine hK _ _ (Chg.setCell (S := fun k => k = w.heap.size) (a := w4.drew) (b := w4.drew) (Chg.refl _ _) (p := ⟨w.heap.size, 0, none⟩) (.inr rfl) (.bool !an)) ?_
             clear hK K
             try simp only [Act.put, List.getElem_toArray, List.getElem_cons_zero, List.getElem_cons_succ, List.setIfInBounds_toArray, List.set_cons_zero, List.set_cons_succ]
             refine regL_take 8 (v := ?_) rfl (by kernel_rfl) (by kernel_rfl) (by kernel_rfl) (by kernel_rfl) (fun _ _ _ h => h) (by kernel_rfl) ?_ ?_
             rotate_left
             · (intro w' hS; go_simp; (try go_bits); (try with_reducible rfl))
             try simp only [Act.put, List.getElem_toArray, List.getElem_cons_zero, List.getElem_cons_succ, List.setIfInBounds_toArray, List.set_cons_zero, List.set_cons_succ]
             refine regL_last rfl (by kernel_rfl) (by kernel_rfl) ?_
             intro K hK
             go_simp
             refine hK _ _ ?_
             clear hK K
             try simp only [Act.put, List.getElem_toArray, List.getElem_cons_zero, List.getElem_cons_succ, List.setIfInBounds_toArray, List.set_cons_zero, List.set_cons_succ]
             refine wpAnyL_done (by kernel_rfl) ?_ _
             obtain ⟨w5, hw5⟩ : ∃ v, v = ((w4.setCell ⟨w.heap.size, 0, none⟩ (.bool !an)).setCell ⟨w.heap.size + 1, 0, none⟩ (.bool !bn)).drew := ⟨_, rfl⟩
             have A0 : w5.cell? ⟨w.heap.size, 0, none⟩ = some (.bool !an) := by rw [hw5]; go_simp
             have A1 : w5.cell? ⟨w.heap.size, 1, none⟩ = some (.string ⟨al.toArray⟩) := by rw [hw5]; go_simp
             have A2 : w5.cell? ⟨w.heap.size, 2, none⟩ = some (.int .i64 ax) := by rw [hw5]; go_simp
             have B0 : w5.cell? ⟨w.heap.size + 1, 0, none⟩ = some (.bool !bn) := by rw [hw5]; go_simp
             have B1 : w5.cell? ⟨w.heap.size + 1, 1, none⟩ = some (.string ⟨bl.toArray⟩) := by rw [hw5]; go_simp
             have B2 : w5.cell? ⟨w.heap.size + 1, 2, none⟩ = some (.int .i64 bx) := by rw [hw5]; go_simp
             have y5 : Chg Pure' w w5 := by
               rw [hw5]
               exact (((y0.trans' (((z1.trans' z2).trans' z3).trans' z4)).setCell (.inl (Nat.le_refl _)) _).setCell (.inl (Nat.le_succ _)) _).drew
             rw [← hw5]
             clear hw5 a0 a1 a2 af0 af1 af2 b0 b1 b2 bf0 bf1 bf2 c0 c1 c2 y0 z1 z2 z3 z4
             go_wp2_with (first
               | (go_at_call 13; refine (HO6.out _ hla hlb).mono ?_; rintro e w6 ⟨rfl, z6⟩)
               | (go_at_call 9; refine (alive06 _ (he.pure (y5.trans' z6))).mono ?_; rintro e w7 ⟨rfl, z7⟩))
             go_ret
             exact ⟨rfl, (y5.trans' z6).trans' z7⟩)
    · clear G3
      have tk1 := Tryd.underlying3
      have tk2 := tk1
      have tk3 := tk1
      have tk4 := tk1
      have y0 : Chg Pure' w (((w.alloc (.cells #[.bool an, .string ⟨al.toArray⟩, .int .i64 ax] 23)).alloc (.cells #[.bool bn, .string ⟨bl.toArray⟩, .int .i64 bx] 23)).alloc (.cells #[.bool cn, .string ⟨cl.toArray⟩, .int .i64 cx] 23)) := ((Chg.alloc (Chg.refl _ _) _).alloc _).alloc _
      go_enter Tryd.func6, Tryd.ntmps6
      go_wp2_with (first
        | (go_at_call 13; first
            | (clear tk1; refine (O1.out _ hla hlb).mono ?_; rintro e w1 ⟨rfl, z1⟩
               obtain ⟨k1, k2, k3⟩ := three_cells z1; obtain ⟨a0, a1, a2, af0, af1, af2⟩ := blk_cells k1; obtain ⟨b0, b1, b2, bf0, bf1, bf2⟩ := blk_cells k2; obtain ⟨c0, c1, c2, -⟩ := blk_cells k3; clear k1 k2 k3)
            | (clear tk2; refine (O2.out _ hlb hlc).mono ?_; rintro e w2 ⟨rfl, z2⟩
               obtain ⟨k1, k2, k3⟩ := three_cells (z1.trans' z2); clear a0 a1 a2 af0 af1 af2 b0 b1 b2 bf0 bf1 bf2 c0 c1 c2; obtain ⟨a0, a1, a2, af0, af1, af2⟩ := blk_cells k1; obtain ⟨b0, b1, b2, bf0, bf1, bf2⟩ := blk_cells k2; obtain ⟨c0, c1, c2, -⟩ := blk_cells k3; clear k1 k2 k3)
            | (clear tk3; refine (O3.out _ hla hlc).mono ?_; rintro e w3 ⟨rfl, z3⟩
               obtain ⟨k1, k2, k3⟩ := three_cells ((z1.trans' z2).trans' z3); clear a0 a1 a2 af0 af1 af2 b0 b1 b2 bf0 bf1 bf2 c0 c1 c2; obtain ⟨a0, a1, a2, af0, af1, af2⟩ := blk_cells k1; obtain ⟨b0, b1, b2, bf0, bf1, bf2⟩ := blk_cells k2; obtain ⟨c0, c1, c2, -⟩ := blk_cells k3; clear k1 k2 k3)
            | (clear tk4; refine (O4.out _ hlb hla).mono ?_; rintro e w4 ⟨rfl, z4⟩
               obtain ⟨k1, k2, k3⟩ := three_cells (((z1.trans' z2).trans' z3).trans' z4); clear a0 a1 a2 af0 af1 af2 b0 b1 b2 bf0 bf1 bf2 c0 c1 c2; obtain ⟨a0, a1, a2, af0, af1, af2⟩ := blk_cells k1; obtain ⟨b0, b1, b2, bf0, bf1, bf2⟩ := blk_cells k2; obtain ⟨c0, c1, c2, -⟩ := blk_cells k3; clear k1 k2 k3))
        | (go_at_call 9; refine (alive06 _ (he.pure (y0.trans' (((z1.trans' z2).trans' z3).trans' z4)))).mono ?_; rintro e w5 ⟨rfl, z5⟩))
      all_goals first
        | (go_ret
           exact ⟨rfl, (y0.trans' (((z1.trans' z2).trans' z3).trans' z4)).trans' z5⟩)
        | (have hab := (by assumption : (al == [48]) = false ∧ (bl == [48]) = false)
           have ha : al ≠ [48] := by simpa using hab.1
           have hb : bl ≠ [48] := by simpa using hab.2
           have O6 := O5.out
           rw [G4.out ha hb] at O6
           have HO6 := Lib.hid O6
           clear O6 O5 O1 O2 O3 O4 ha hb hab
           refine regL_begin 9 (fun k => k = w.heap.size) (by kernel_rfl) ?_
           refine regL_take 3 (v := ?_) rfl (by kernel_rfl) (by kernel_rfl) (by kernel_rfl) (by kernel_rfl) (fun _ _ _ h => h) (by kernel_rfl) ?_ ?_
           rotate_left
           · (intro w' hS; go_simp; (try go_bits); (try with_reducible rfl))
           try simp only [Act.put, List.getElem_toArray, List.getElem_cons_zero, List.getElem_cons_succ, List.setIfInBounds_toArray, List.set_cons_zero, List.set_cons_succ]
           refine regL_take 4 (v := ?_) rfl (by kernel_rfl) (by kernel_rfl) (by kernel_rfl) (by kernel_rfl) (fun _ _ _ h => h) (by kernel_rfl) ?_ ?_
           rotate_left
           · (intro w' hS; have hz := hS.cell (w := w4.drew) b0 (fun h : w.heap.size + 1 = w.heap.size => by omega); go_simp; (try go_bits); (try with_reducible rfl))
           try simp only [Act.put, List.getElem_toArray, List.getElem_cons_zero, List.getElem_cons_succ, List.setIfInBounds_toArray, List.set_cons_zero, List.set_cons_succ]
           refine regL_take 5 (v := ?_) rfl (by kernel_rfl) (by kernel_rfl) (by kernel_rfl) (by kernel_rfl) (fun _ _ _ h => h) (by kernel_rfl) ?_ ?_
           rotate_left
           · (intro w' hS; go_simp; (try go_bits); (try with_reducible rfl))
           try simp only [Act.put, List.getElem_toArray, List.getElem_cons_zero, List.getElem_cons_succ, List.setIfInBounds_toArray, List.set_cons_zero, List.set_cons_succ]
           refine regL_take 0 (v := ?_) rfl (by kernel_rfl) (by kernel_rfl) (by kernel_rfl) (by kernel_rfl) (fun _ _ _ h => h) (by kernel_rfl) ?_ ?_
           rotate_left
           · (intro w' hS; go_simp; (try go_bits); (try with_reducible rfl))
           try simp only [Act.put, List.getElem_toArray, List.getElem_cons_zero, List.getElem_cons_succ, List.setIfInBounds_toArray, List.set_cons_zero, List.set_cons_succ]
           refine regL_do 1 rfl (by kernel_rfl) (by kernel_rfl) ?_
           intro K hK
           go_simp
           refine hK _ _ (Chg.refl _ _) ?_
           clear hK K
           try simp only [Act.put, List.getElem_toArray, List.getElem_cons_zero, List.getElem_cons_succ, List.setIfInBounds_toArray, List.set_cons_zero, List.set_cons_succ]
           refine regL_take 2 (v := ?_) rfl (by kernel_rfl) (by kernel_rfl) (by kernel_rfl) (by kernel_rfl) (fun _ _ _ h => h) (by kernel_rfl) ?_ ?_
           rotate_left
           · (intro w' hS; go_simp; (try go_bits); (try with_reducible rfl))
           try simp only [Act.put, List.getElem_toArray, List.getElem_cons_zero, List.getElem_cons_succ, List.setIfInBounds_toArray, List.set_cons_zero, List.set_cons_succ]
           refine regL_take 6 (v := ?_) rfl (by kernel_rfl) (by kernel_rfl) (by kernel_rfl) (by kernel_rfl) (fun _ _ _ h => h) (by kernel_rfl) ?_ ?_
           rotate_left
           · (intro w' hS; go_simp; (try go_bits); (try with_reducible rfl))
           try simp only [Act.put, List.getElem_toArray, List.getElem_cons_zero, List.getElem_cons_succ, List.setIfInBounds_toArray, List.set_cons_zero, List.set_cons_succ]
           refine regL_do 7 rfl (by kernel_rfl) (by kernel_rfl) ?_
           intro K hK
           go_simp
           refine hK _ _ (Chg.setCell (S := fun k => k = w.heap.size) (a := w4.drew) (b := w4.drew) (Chg.refl _ _) (p := ⟨w.heap.size, 0, none⟩) (.inr rfl) (.bool !an)) ?_
           clear hK K
           try simp only [Act.put, List.getElem_toArray, List.getElem_cons_zero, List.getElem_cons_succ, List.setIfInBounds_toArray, List.set_cons_zero, List.set_cons_succ]
           refine regL_take 8 (v := ?_) rfl (by kernel_rfl) (by kernel_rfl) (by kernel_rfl) (by kernel_rfl) (fun _ _ _ h => h) (by kernel_rfl) ?_ ?_
           rotate_left
           · (intro w' hS; go_simp; (try go_bits); (try with_reducible rfl))
           try simp only [Act.put, List.getElem_toArray, List.getElem_cons_zero, List.getElem_cons_succ, List.setIfInBounds_toArray, List.set_cons_zero, List.set_cons_succ]
           refine regL_last rfl (by kernel_rfl) (by kernel_rfl) ?_
           intro K hK
           go_simp
           refine hK _ _ ?_
           clear hK K
           try simp only [Act.put, List.getElem_toArray, List.getElem_cons_zero, List.getElem_cons_succ, List.setIfInBounds_toArray, List.set_cons_zero, List.set_cons_succ]
           refine wpAnyL_done (by kernel_rfl) ?_ _
           obtain ⟨w5, hw5⟩ : ∃ v, v = ((w4.setCell ⟨w.heap.size, 0, none⟩ (.bool !an)).setCell ⟨w.heap.size + 1, 0, none⟩ (.bool !bn)).drew := ⟨_, rfl⟩
           have A0 : w5.cell? ⟨w.heap.size, 0, none⟩ = some (.bool !an) := by rw [hw5]; go_simp
           have A1 : w5.cell? ⟨w.heap.size, 1, none⟩ = some (.string ⟨al.toArray⟩) := by rw [hw5]; go_simp
           have A2 : w5.cell? ⟨w.heap.size, 2, none⟩ = some (.int .i64 ax) := by rw [hw5]; go_simp
           have B0 : w5.cell? ⟨w.heap.size + 1, 0, none⟩ = some (.bool !bn) := by rw [hw5]; go_simp
           have B1 : w5.cell? ⟨w.heap.size + 1, 1, none⟩ = some (.string ⟨bl.toArray⟩) := by rw [hw5]; go_simp
           have B2 : w5.cell? ⟨w.heap.size + 1, 2, none⟩ = some (.int .i64 bx) := by rw [hw5]; go_simp
           have y5 : Chg Pure' w w5 := by
             rw [hw5]
             exact (((y0.trans' (((z1.trans' z2).trans' z3).trans' z4)).setCell (.inl (Nat.le_refl _)) _).setCell (.inl (Nat.le_succ _)) _).drew
           rw [← hw5]
           clear hw5 a0 a1 a2 af0 af1 af2 b0 b1 b2 bf0 bf1 bf2 c0 c1 c2 y0 z1 z2 z3 z4
           go_wp2_with (first
             | (go_at_call 13; refine (HO6.out _ hla hlb).mono ?_; rintro e w6 ⟨rfl, z6⟩)
             | (go_at_call 9; refine (alive06 _ (he.pure (y5.trans' z6))).mono ?_; rintro e w7 ⟨rfl, z7⟩))
           go_ret
           exact ⟨rfl, (y5.trans' z6).trans' z7⟩)
  · clear g2 g3 g4
    have tk1 := Tryd.underlying3
    have tk2 := tk1
    have tk3 := tk1
    have tk4 := tk1
    have y0 : Chg Pure' w (((w.alloc (.cells #[.bool an, .string ⟨al.toArray⟩, .int .i64 ax] 23)).alloc (.cells #[.bool bn, .string ⟨bl.toArray⟩, .int .i64 bx] 23)).alloc (.cells #[.bool cn, .string ⟨cl.toArray⟩, .int .i64 cx] 23)) := ((Chg.alloc (Chg.refl _ _) _).alloc _).alloc _
    go_enter Tryd.func6, Tryd.ntmps6
    go_wp2_with (first
      | (go_at_call 13; first
          | (clear tk1; refine (O1.out _ hla hlb).mono ?_; rintro e w1 ⟨rfl, z1⟩
             obtain ⟨k1, k2, k3⟩ := three_cells z1; obtain ⟨a0, a1, a2, af0, af1, af2⟩ := blk_cells k1; obtain ⟨b0, b1, b2, bf0, bf1, bf2⟩ := blk_cells k2; obtain ⟨c0, c1, c2, -⟩ := blk_cells k3; clear k1 k2 k3)
          | (clear tk2; refine (O2.out _ hlb hlc).mono ?_; rintro e w2 ⟨rfl, z2⟩
             obtain ⟨k1, k2, k3⟩ := three_cells (z1.trans' z2); clear a0 a1 a2 af0 af1 af2 b0 b1 b2 bf0 bf1 bf2 c0 c1 c2; obtain ⟨a0, a1, a2, af0, af1, af2⟩ := blk_cells k1; obtain ⟨b0, b1, b2, bf0, bf1, bf2⟩ := blk_cells k2; obtain ⟨c0, c1, c2, -⟩ := blk_cells k3; clear k1 k2 k3)
          | (clear tk3; refine (O3.out _ hla hlc).mono ?_; rintro e w3 ⟨rfl, z3⟩
             obtain ⟨k1, k2, k3⟩ := three_cells ((z1.trans' z2).trans' z3); clear a0 a1 a2 af0 af1 af2 b0 b1 b2 bf0 bf1 bf2 c0 c1 c2; obtain ⟨a0, a1, a2, af0, af1, af2⟩ := blk_cells k1; obtain ⟨b0, b1, b2, bf0, bf1, bf2⟩ := blk_cells k2; obtain ⟨c0, c1, c2, -⟩ := blk_cells k3; clear k1 k2 k3)
          | (clear tk4; refine (O4.out _ hlb hla).mono ?_; rintro e w4 ⟨rfl, z4⟩
             obtain ⟨k1, k2, k3⟩ := three_cells (((z1.trans' z2).trans' z3).trans' z4); clear a0 a1 a2 af0 af1 af2 b0 b1 b2 bf0 bf1 bf2 c0 c1 c2; obtain ⟨a0, a1, a2, af0, af1, af2⟩ := blk_cells k1; obtain ⟨b0, b1, b2, bf0, bf1, bf2⟩ := blk_cells k2; obtain ⟨c0, c1, c2, -⟩ := blk_cells k3; clear k1 k2 k3))
      | (go_at_call 9; refine (alive06 _ (he.pure (y0.trans' (((z1.trans' z2).trans' z3).trans' z4)))).mono ?_; rintro e w5 ⟨rfl, z5⟩))
    go_ret
    exact ⟨rfl, (y0.trans' (((z1.trans' z2).trans' z3).trans' z4)).trans' z5⟩
end Go.Proofs.YtkplgndcbngjoaaDoor
