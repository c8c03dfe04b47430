/- The document's receiver, going on: Take. -/
import Derived.Test.YtnkdlilccfclbaaRecvN
namespace Go.Proofs.Ytnkdlilccfclbaa
open Go Go.RowKit
set_option linter.unusedVariables false
set_option linter.unusedSimpArgs false

theorem mtake_none (G : Nat → Prop) (q W T : Nat) (L : List (Option (List UInt8))) (w : World) (h : MAt w G q W T (none :: L)) :
    Calls Try.prog 17 #[.pointer (some ⟨q, 0, none⟩)] w fun e w' => e = .returned (.tuple #[.slice none 0 0, .bool false]) ∧ w = w' := by
  obtain ⟨g, cap, cs, r1, r2, r3, r4, r5, r6⟩ := h.row
  have h1 := h.w1
  have hf := h.flag r2 r6 (k := 0) (by omega)
  rw [show ((none :: L).getD 0 none).isSome = false from rfl, Nat.zero_mul] at hf
  clear h r2 r6
  go_enter Try.func17, Try.ntmps17
  go_wp2
  go_ret2
  exact ⟨rfl, rfl⟩

theorem spot_one {w : World} {F : Nat → Prop} {cs : List Value} {j : Nat} {x : Option (List UInt8)} (h : Spot w F cs j x) : ∃ u v, cs[j * 2]? = some u ∧ cs[j * 2 + 1]? = some v ∧ u.oneCell' = true ∧ v.oneCell' = true := by
  cases x with
  | none => exact ⟨_, _, h.1, h.2, rfl, rfl⟩
  | some xs =>
    obtain ⟨a, A, n, c, b, -⟩ := h
    exact ⟨_, _, a, b, rfl, rfl⟩
set_option maxHeartbeats 1000000 in
theorem mtake_some (G : Nat → Prop) (q W T : Nat) (xs : List UInt8) (L : List (Option (List UInt8))) (w : World) (h : MAt w G q W T (some xs :: L)) (hT : T ≤ 4611686018427387904) :
    Calls Try.prog 17 #[.pointer (some ⟨q, 0, none⟩)] w fun e w' => ∃ A n c, e = .returned (.tuple #[.slice A n c, .bool true]) ∧ n ≤ c ∧ n ≤ 1200 ∧ Bytes w' A n xs ∧
      Chg G w w' ∧ MAt w' (Ext G w w') q W (T + 1) (L ++ [none]) := by
  obtain ⟨g, cap, cs, r1, r2, r3, r4, r5, r6⟩ := h.row
  have h1 := h.w1
  have h32 := h.w32
  have hct := h.ct
  have s0 := r6 0 (by omega)
  obtain ⟨d0, A, n, c, d1, hle, hn, hB, hA⟩ := s0
  rw [← r2.cellAt _ (by omega), Nat.zero_mul] at d0 d1
  have hcl : cs.length = W * 2 := r2.1
  obtain ⟨o, ho⟩ : ∃ o, (cap = 1 ∧ o = 0) ∨ (2 ≤ cap ∧ o = 2) := by
    by_cases h : cap = 1
    · exact ⟨0, .inl ⟨h, rfl⟩⟩
    · exact ⟨2, .inr ⟨by omega, rfl⟩⟩
  have hrow : Row w (some ⟨g, o, none⟩) (cs.drop 2) := by
    refine ⟨fun hp => ⟨g, o, rfl, fun j u hu => ?_⟩⟩
    rw [List.length_drop] at hp
    rw [List.getElem?_drop] at hu
    rcases ho with ⟨h1, _⟩ | ⟨_, rfl⟩
    · omega
    rw [r2.cellAt (2 + j) (by have := (List.getElem?_eq_some_iff.1 hu).1; omega)]
    exact hu
  have hone : ∀ u ∈ cs.drop 2, u.oneCell' = true := by
    intro u hu
    obtain ⟨i, hi⟩ := List.getElem?_of_mem hu
    rw [List.getElem?_drop] at hi
    have hlt := (List.getElem?_eq_some_iff.1 hi).1
    obtain ⟨a, b, e1, e2, o1, o2⟩ := spot_one (r6 ((2 + i) / 2) (by omega))
    rcases Nat.mod_two_eq_zero_or_one i with hm | hm
    · rw [show (2 + i) / 2 * 2 = 2 + i from by omega, hi] at e1
      cases e1; exact o1
    · rw [show (2 + i) / 2 * 2 + 1 = 2 + i from by omega, hi] at e2
      cases e2; exact o2
  obtain ⟨v5, w5, hr5, ho5, hg5, -⟩ := app_own (P := Try.prog) w w.heap.size 43 43 61 Try.underlying43 infoCame rfl (by decide) _ _ _ (World.ownsRow_nil w w.heap.size 61 2) (some ⟨g, o, none⟩) (W - 1) (cap - 1) (cs.drop 2) hrow (by rw [List.length_drop, hcl]; omega) hone (by decide) (by omega) (Nat.le_refl _)
  have C5 : Chg Pure' w w5 := (Chg.refl _ _).grown hg5 (fun k hk => by cases hk)
  rw [List.nil_append, Nat.zero_add] at ho5
  have ca : Chg Pure' w5 (w5.alloc (.cells #[.bool false, .slice none 0 0] 61)) := (Chg.refl _ w5).alloc _
  have hrow6 : Row (w5.alloc (.cells #[.bool false, .slice none 0 0] 61)) (some ⟨w5.heap.size, 0, none⟩) [.bool false, .slice none 0 0] :=
    Row.of_cells (fun j u hu => by
      have e : (⟨w5.heap.size, 0, none⟩ : Addr).add j = ⟨w5.heap.size, j, none⟩ := by unfold Addr.add; split <;> simp_all
      rw [e, cellAt_alloc_lit, ← hu]; simp)
  obtain ⟨v6, w6, hr6, ho6, hg6, -⟩ := app_own (P := Try.prog) _ w.heap.size 43 43 61 Try.underlying43 infoCame rfl (by decide) _ _ _ (own_keep ho5 ca (fun _ _ h => h)) _ 1 1 _ hrow6 rfl (by decide) (by decide) (by omega) (by have := C5.size; simp; omega)
  have C6 : Chg Pure' w w6 := (C5.pure ca).grown hg6 (fun k hk => .inl (ho5.lt k hk).1)
  rw [show W - 1 + 1 = W from by omega] at ho6
  obtain ⟨B6, q6, rfl, hq6, hg6', hlt6⟩ := own_slice ho6
  obtain ⟨g6, rfl, hge6⟩ := hg6' (by omega)
  have hq := h.lt q h.own
  have hg := h.lt g r3
  have hgq : q ≠ g6 := by omega
  obtain ⟨c0, hb0, hs0⟩ := h.blk
  have hb6 := (C6.block q hq (fun h => h)).trans hb0
  have fr := fun i => free_block (i := i) hb6
  have fr1 := fr 1
  have fr2 := fr 2
  have r16 := C6.cell r1 (fun h => h)
  have ct6 := C6.cell hct (fun h => h)
  have HF := Lib.hid (show Chg (fun i => i = q) w ((w6.setCell ⟨q, 2, none⟩ (.slice (some ⟨g6, 0, none⟩) W q6)).setCell ⟨q, 1, none⟩ (.int .i64 ((T : Int) + 1))) ∧
      MAt ((w6.setCell ⟨q, 2, none⟩ (.slice (some ⟨g6, 0, none⟩) W q6)).setCell ⟨q, 1, none⟩ (.int .i64 ((T : Int) + 1))) (Ext G w ((w6.setCell ⟨q, 2, none⟩ (.slice (some ⟨g6, 0, none⟩) W q6)).setCell ⟨q, 1, none⟩ (.int .i64 ((T : Int) + 1)))) q W (T + 1) (L ++ [none]) from by
    have k1 : Chg (fun i => i = q) w6 (w6.setCell ⟨q, 2, none⟩ (.slice (some ⟨g6, 0, none⟩) W q6)) := Chg.setCell (S := fun i => i = q) (Chg.refl _ w6) (p := ⟨q, 2, none⟩) (.inr rfl) _
    have k2 : Chg (fun i => i = q) w6 ((w6.setCell ⟨q, 2, none⟩ (.slice (some ⟨g6, 0, none⟩) W q6)).setCell ⟨q, 1, none⟩ (.int .i64 ((T : Int) + 1))) := Chg.setCell (S := fun i => i = q) k1 (p := ⟨q, 1, none⟩) (.inr rfl) _
    have a0 : ((w6.setCell ⟨q, 2, none⟩ (.slice (some ⟨g6, 0, none⟩) W q6)).setCell ⟨q, 1, none⟩ (.int .i64 ((T : Int) + 1))).cell? ⟨q, 0, none⟩ = some (.int .i64 W) := by rw [set_far (by omega), set_far (by omega)]; exact C6.cell h.cw (fun h => h)
    have a1 : ((w6.setCell ⟨q, 2, none⟩ (.slice (some ⟨g6, 0, none⟩) W q6)).setCell ⟨q, 1, none⟩ (.int .i64 ((T : Int) + 1))).cell? ⟨q, 1, none⟩ = some (.int .i64 ((T : Int) + 1)) := set_at (u := .int .i64 T) (by rw [set_far (by omega)]; exact ct6)
    have a2 : ((w6.setCell ⟨q, 2, none⟩ (.slice (some ⟨g6, 0, none⟩) W q6)).setCell ⟨q, 1, none⟩ (.int .i64 ((T : Int) + 1))).cell? ⟨q, 2, none⟩ = some (.slice (some ⟨g6, 0, none⟩) W q6) := by rw [set_far (by omega)]; exact set_at r16
    have ab : ∃ c, ((w6.setCell ⟨q, 2, none⟩ (.slice (some ⟨g6, 0, none⟩) W q6)).setCell ⟨q, 1, none⟩ (.int .i64 ((T : Int) + 1))).heap[q]? = some (.cells c 45 (0, 0)) ∧ c.size = 3 :=
      ⟨_, heap_setCell_same _ q 1 _ _ _ (heap_setCell_same w6 q 2 c0 _ _ hb6), by simpa using hs0⟩
    generalize (w6.setCell ⟨q, 2, none⟩ (.slice (some ⟨g6, 0, none⟩) W q6)).setCell ⟨q, 1, none⟩ (.int .i64 ((T : Int) + 1)) = w7 at *
    have kk : Chg (fun i => i = q) w w7 := (C6.of_pure).trans' k2
    have hlen := h.len
    simp only [List.length_cons] at hlen
    refine ⟨kk, .inl h.own, fun i hi => hi.elim (fun f => Nat.lt_of_lt_of_le (h.lt i f) kk.size) (fun f => f.2), h1, h32, by simp; omega, ab, a0, by rw [a1]; rfl,
      ⟨g6, q6, _, a2, (own_keep ho6 k2 (fun i hi e => by cases hi; exact hgq e.symm)).low (Nat.zero_le _), .inr ⟨hge6, Nat.lt_of_lt_of_le (hlt6 _ rfl).2 k2.size⟩, fun e => hgq e.symm, hq6, fun j hj => ?_⟩⟩
    have hdl : (cs.drop 2).length = (W - 1) * 2 := by rw [List.length_drop, hcl]; omega
    by_cases hjW : j = W - 1
    · have e : (L ++ [none]).getD j none = none := by
        rw [List.getD_eq_getElem?_getD, List.getElem?_append_right (by omega)]
        have e0 : j - L.length = 0 := by omega
        rw [e0]; rfl
      rw [e]
      refine ⟨?_, ?_⟩
      · rw [List.getElem?_append_right (by omega), hdl, show j * 2 - (W - 1) * 2 = 0 from by omega]; rfl
      · rw [List.getElem?_append_right (by omega), hdl, show j * 2 + 1 - (W - 1) * 2 = 1 from by omega]; rfl
    · have e : (L ++ [none]).getD j none = (some xs :: L).getD (j + 1) none := by
        rw [List.getD_eq_getElem?_getD, List.getElem?_append_left (by omega), List.getD_eq_getElem?_getD, List.getElem?_cons_succ]
      rw [e]
      exact (r6 (j + 1) (by omega)).frame kk (fun i hi => hi.2.1) (fun i hi => ⟨.inl hi.1, hi.2.1, by have := h.lt i hi.1; omega⟩)
        (by rw [List.getElem?_append_left (by omega), List.getElem?_drop]; congr 1; omega) (by rw [List.getElem?_append_left (by omega), List.getElem?_drop]; congr 1; omega))
  have HA := Lib.hid hA
  have hGq := h.own
  have iW : (1 : Int) ≤ W := by omega
  have icap : (W : Int) ≤ cap := by omega
  clear h r2 r6 hA hrow hone ho5 ho6 hg5 hg6 hg6' hlt6 fr hb6 hb0 hrow6
  go_enter Try.func17, Try.ntmps17
  have HG := Lib.hid hGq
  clear hGq
  rcases ho with ⟨h1c, rfl⟩ | ⟨h2c, rfl⟩
  · obtain rfl : W = 1 := by omega
    subst h1c
    go_wp2_with (first
      | (at_builtin; refine Lib.wpList_append_run _ rfl _ _ _ _ rfl _ _ rfl rfl _ _ hr5 ?_; clear hr5)
      | (at_builtin; refine Lib.wpList_append_run _ rfl _ _ _ _ rfl _ _ rfl rfl _ _ hr6 ?_; clear hr6)
      | fail)
    go_ret2
    obtain ⟨g1, g2⟩ := HF.out
    exact ⟨A, n, c, rfl, hle, hn, hB.chg g1 (fun a ha => (HA.out a ha).2.1), g1.mono (fun i _ e => by rw [e]; exact HG.out), g2⟩
  · have i2 : (2 : Int) ≤ cap := by omega
    go_wp2_with (first
      | (at_builtin; refine Lib.wpList_append_run _ rfl _ _ _ _ rfl _ _ rfl rfl _ _ hr5 ?_; clear hr5)
      | (at_builtin; refine Lib.wpList_append_run _ rfl _ _ _ _ rfl _ _ rfl rfl _ _ hr6 ?_; clear hr6)
      | fail)
    go_ret2
    obtain ⟨g1, g2⟩ := HF.out
    exact ⟨A, n, c, rfl, hle, hn, hB.chg g1 (fun a ha => (HA.out a ha).2.1), g1.mono (fun i _ e => by rw [e]; exact HG.out), g2⟩
end Go.Proofs.Ytnkdlilccfclbaa
