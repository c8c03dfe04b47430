/- The laws of layer 18, going on: RecvPlays. -/
import Derived.Test.YtnkdlilccfclbaaL18
import Derived.Test.YtnkdlilccfclbaaRecvW
namespace Go.Proofs.Ytnkdlilccfclbaa
open Go Go.RowKit
set_option linter.unusedVariables false
set_option linter.unusedSimpArgs false

set_option maxRecDepth 100000 in
set_option maxHeartbeats 2000000 in
theorem law_RecvPlays (a : Int) (A : Option Addr) (n c : Nat) (acts : List (Int × List UInt8)) (w : World) (ha : -9223372036854775808 ≤ a ∧ a ≤ 9223372036854775807) (hA : ActsAt w A n acts) (hn : n ≤ 140737488351232) :
    Calls Try.prog 6 #[.int .i64 a, .slice A n c] w fun e w' => e = .returned (.bool true) ∧ Chg Pure' w w' := by
  by_cases hbad : a < 1 ∨ 32 < a
  · go_enter Try.func6, Try.ntmps6
    go_wp2_with (fail)
    refine (new_bad _ _ hbad).mono ?_
    rintro e w1 ⟨rfl, rfl⟩
    go_wp2_with (fail)
    refine (mnew_bad _ _ hbad).mono ?_
    rintro e w2 ⟨rfl, c2⟩
    have c3 : Chg Pure' w (w2.alloc (.cells #[.int .i64 0, .int .i64 0, .slice none 0 0] 45)) := c2.alloc _
    go_wp2_with (fail)
    refine (alive18 _).mono ?_
    rintro e w4 ⟨rfl, hg⟩
    go_wp2
    go_ret
    exact ⟨rfl, c3.pure hg⟩
  · obtain ⟨W, rfl⟩ : ∃ W : Nat, a = W := ⟨a.toNat, by omega⟩
    have h1 : 1 ≤ W := by omega
    have h2 : W ≤ 32 := by omega
    clear hbad ha
    go_enter Try.func6, Try.ntmps6
    go_wp2_with (fail)
    refine (new_ok W _ h1 h2).mono ?_
    rintro e w1 ⟨rfl, c1, r1⟩
    go_wp2_with (fail)
    refine (mnew_ok W _ h1 h2).mono ?_
    rintro e w2 ⟨g, rfl, c2, hg2, ho2⟩
    have c3 : Chg Pure' w2 (w2.alloc (.cells #[.int .i64 W, .int .i64 0, .slice (some ⟨g, 0, none⟩) W W] 45)) := (Chg.refl _ w2).alloc _
    have m3 := m_made h1 h2 ho2
    go_wp2_with (fail)
    refine (alive18 _).mono ?_
    rintro e w4 ⟨rfl, c4⟩
    have c34 := c3.pure c4
    have r4 := (r1.pure c2).pure c34
    have m4 := m3.pure c4
    have C4 := (c1.pure c2).pure c34
    have hd0 : ∀ i, i = w.heap.size → (i = g ∨ i = w2.heap.size) → False := by
      have := r1.lt _ rfl
      have := c2.size
      intro i e1 e2
      omega
    have hFG0 : ∀ i, (i = w.heap.size ∨ i = g ∨ i = w2.heap.size) → w.heap.size ≤ i := by
      have := c1.size
      have := c2.size
      intro i e
      omega
    generalize hq : w2.heap.size = q at *
    clear r1 c1 c2 c3 m3 c4 c34 ho2
    go_wp2_with (fail)
    go_loopw [49] (fun i wr => ∃ (k T : Nat) (L : List (Option (List UInt8))) (F G : Nat → Prop), k ≤ n ∧ i = .int .i64 k ∧ T ≤ k ∧ RecvAt wr F w.heap.size W T L ∧ MAt wr G q W T L ∧ (∀ i, F i → G i → False) ∧ (∀ i, F i ∨ G i → w.heap.size ≤ i) ∧ Chg Pure' w wr) (fun i _ => n - (intOf i).toNat)
    case atStart => exact ⟨0, 0, _, _, _, Nat.zero_le _, rfl, Nat.le_refl _, r4, m4, hd0, hFG0, C4⟩
    case round =>
      obtain ⟨k, T, L, F, G, hk, rfl, hT, r, m, hd, hFG, hc⟩ := hrel
      by_cases hlt : k < n
      · obtain ⟨b, off, rfl, hbl, hcell⟩ := hA.cells (by omega)
        have hkx : k < acts.length := by have := hA.len; omega
        obtain ⟨e10, Aj, nj, cj, e20, hle, hnj, hbj⟩ := hcell k hkx
        have e1 := hc.cell e10 (fun h => h)
        have e2 := hc.cell e20 (fun h => h)
        have hwf := hA.wf _ (List.getElem_mem hkx)
        generalize acts[k].1 = s at e1 hwf
        generalize acts[k].2 = xs at hbj
        clear hcell e10 e20
        have hTb : T ≤ 4611686018427387904 := by omega
        have ca : Chg Pure' wr (wr.alloc (.cells #[.int .i64 s, .slice Aj nj cj] 31)) := (Chg.refl _ wr).alloc _
        have r' := r.pure ca
        have m' := m.pure ca
        have hcb := hc.pure ca
        have hFl := r.lt
        have hGl := m.lt
        clear r m
        have hFlt : ∀ i, F i ∨ G i → i < wr.heap.size := fun i hi => hi.elim (hFl i) (hGl i)
        by_cases hs7 : s = -7
        focus
          subst hs7
          rcases L with _ | ⟨_ | ys, L⟩
          · exact absurd r'.len (by simp; omega)
          focus
            go_wp2_with (fail)
            refine (take_none _ _ _ _ _ _ r' hTb).mono ?_
            rintro e w3 ⟨rfl, rfl⟩
            go_wp2_with (fail)
            refine (mtake_none _ _ _ _ _ _ m').mono ?_
            rintro e w3 ⟨rfl, rfl⟩
            go_wp2_with (fail)
            refine (same_is true _ _ _ _ _ _ _ _ _ (Bytes.nil _ _) (Bytes.nil _ _) (by simp)).mono ?_
            rintro e w4 ⟨rfl, rfl⟩
            have KEY : ∃ (w5 : World) (T5 : Nat) (L5 : List (Option (List UInt8))) (F5 G5 : Nat → Prop), w5 = wr.alloc (.cells #[.int .i64 (-7), .slice Aj nj cj] 31) ∧ T5 ≤ k + 1 ∧ RecvAt w5 F5 w.heap.size W T5 L5 ∧ MAt w5 G5 q W T5 L5 ∧ (∀ i, F5 i → G5 i → False) ∧ (∀ i, F5 i ∨ G5 i → w.heap.size ≤ i) ∧ Chg Pure' w w5 := ⟨_, T, _, F, G, rfl, by omega, r', m', hd, hFG, hcb⟩
            obtain ⟨w5, T5, L5, F5, G5, e5, hT5, r5, m5, hd5, hFG5, C5⟩ := KEY
            rw [← e5]
            clear r' m' e5 ca hcb e1 e2 hwf hbj hd hFG hFl hGl hFlt
            go_wp2_with (fail)
          rotate_left 1
          focus
            go_wp2_with (fail)
            refine (take_some _ _ _ _ _ _ _ r' hTb).mono ?_
            rintro e w3 ⟨A3, n3, q3, rfl, -, -, hb3, hA3, c3, r3⟩
            have m3 := m'.frame c3 (fun i hi e => hd i (by rw [e]; exact r'.own) hi)
            go_wp2_with (fail)
            refine (mtake_some _ _ _ _ _ _ _ m3 hTb).mono ?_
            rintro e w5 ⟨A4, n4, q4, rfl, -, -, hb4, c4, m5⟩
            have hb3' := hb3.chg c4 (fun a ha hg => hd _ (hA3 a ha).1 hg)
            have r5 := r3.frame c4 (fun i hi hg => hd i hi hg)
            have hT5 : T + 1 ≤ k + 1 := by omega
            have C5 : Chg Pure' w w5 := (hcb.trans c3 (fun i hi e => by omega)).trans c4 (fun i hi hg => by have := hFG i (.inr hg); omega)
            have hd5 : ∀ i, F i → Ext G w3 w5 i → False := by
              rintro i h1 (h2 | h2)
              · exact hd i h1 h2
              · have := hFlt i (.inl h1); have := c3.size; have := h2.1; have := ca.size; omega
            have hFG5 : ∀ i, F i ∨ Ext G w3 w5 i → w.heap.size ≤ i := by
              rintro i (h1 | h1 | h1)
              · exact hFG i (.inl h1)
              · exact hFG i (.inr h1)
              · have := hcb.size; have := c3.size; have := h1.1; omega
            go_wp2_with (fail)
            refine (same_is true _ _ _ _ _ _ _ _ _ hb3' hb4 (by simp)).mono ?_
            rintro e w6 ⟨rfl, rfl⟩
            generalize (L ++ [none]) = L5 at *
            generalize Ext G w3 w5 = G5 at *
            generalize hF9 : F = F5 at r5 hd5 hFG5
            generalize hT7 : T + 1 = T5 at *
            clear r' m' r3 m3 c3 c4 hF9 e1 e2 hwf hbj hT7 hb3 hb3' hb4 hA3 hcb ca hd hFG hFl hGl hFlt
            go_wp2_with (fail)
          rotate_left 1
        rotate_left 2
        focus
          have hs7' : (s == -7) = false := by rw [beq_eq_false_iff_ne]; exact hs7
          have hv0 : (wr.alloc (.cells #[.int .i64 s, .slice Aj nj cj] 31)).cell? ⟨wr.heap.size, 0, none⟩ = some (.int .i64 s) := by rw [cellAt_alloc_lit]; rfl
          have hv1 : (wr.alloc (.cells #[.int .i64 s, .slice Aj nj cj] 31)).cell? ⟨wr.heap.size, 1, none⟩ = some (.slice Aj nj cj) := by rw [cellAt_alloc_lit]; rfl
          have hbj' := hbj.pure hcb
          have hsz8 : (wr.alloc (.cells #[.int .i64 s, .slice Aj nj cj] 31)).heap.size = wr.heap.size + 1 := by simp
          go_wp2_with (fail)
          generalize wr.alloc (.cells #[.int .i64 s, .slice Aj nj cj] 31) = w2 at *
          have cd : Chg Pure' w2 w2.drew := (Chg.refl _ w2).drew
          have rd := r'.pure cd
          have md := m'.pure cd
          have v0 : w2.drew.cell? ⟨wr.heap.size, 0, none⟩ = some (.int .i64 s) := hv0
          have v1 : w2.drew.cell? ⟨wr.heap.size, 1, none⟩ = some (.slice Aj nj cj) := hv1
          refine reg_begin (fun i => i ≠ wr.heap.size) (by kernel_rfl) ?_
          refine reg_take 0 (v := ?_) rfl (by kernel_rfl) (by kernel_rfl) (by kernel_rfl) (fun _ _ _ h => h) (by kernel_rfl) ?_ ?_
          rotate_left
          · (intro w' hS; go_simp; (try go_bits); (try with_reducible rfl))
          try simp only [Act.put, List.setIfInBounds_toArray, List.set_cons_zero, List.set_cons_succ]
          refine reg_take 1 (v := ?_) rfl (by kernel_rfl) (by kernel_rfl) (by kernel_rfl) (fun _ _ _ h => h) (by kernel_rfl) ?_ ?_
          rotate_left
          · (intro w' hS; go_simp; (try go_bits); (try with_reducible rfl))
          try simp only [Act.put, List.setIfInBounds_toArray, List.set_cons_zero, List.set_cons_succ]
          refine reg_take 2 (v := ?_) rfl (by kernel_rfl) (by kernel_rfl) (by kernel_rfl) (fun _ _ _ h => h) (by kernel_rfl) ?_ ?_
          rotate_left
          · (intro w' hS; have hz := hS.cell v0 (fun h => h rfl); go_simp; (try go_bits); (try with_reducible rfl))
          try simp only [Act.put, List.setIfInBounds_toArray, List.set_cons_zero, List.set_cons_succ]
          refine reg_take 3 (v := ?_) rfl (by kernel_rfl) (by kernel_rfl) (by kernel_rfl) (fun _ _ _ h => h) (by kernel_rfl) ?_ ?_
          rotate_left
          · (intro w' hS; go_simp; (try go_bits); (try with_reducible rfl))
          try simp only [Act.put, List.setIfInBounds_toArray, List.set_cons_zero, List.set_cons_succ]
          refine reg_take 4 (v := ?_) rfl (by kernel_rfl) (by kernel_rfl) (by kernel_rfl) (fun _ _ _ h => h) (by kernel_rfl) ?_ ?_
          rotate_left
          · (intro w' hS; have hz := hS.cell v1 (fun h => h rfl); go_simp; (try go_bits); (try with_reducible rfl))
          try simp only [Act.put, List.setIfInBounds_toArray, List.set_cons_zero, List.set_cons_succ]
          refine reg_take 6 (v := ?_) rfl (by kernel_rfl) (by kernel_rfl) (by kernel_rfl) (fun _ _ _ h => h) (by kernel_rfl) ?_ ?_
          rotate_left
          · (intro w' hS; go_simp; (try go_bits); (try with_reducible rfl))
          try simp only [Act.put, List.setIfInBounds_toArray, List.set_cons_zero, List.set_cons_succ]
          refine reg_take 7 (v := ?_) rfl (by kernel_rfl) (by kernel_rfl) (by kernel_rfl) (fun _ _ _ h => h) (by kernel_rfl) ?_ ?_
          rotate_left
          · (intro w' hS; have hz := hS.cell v0 (fun h => h rfl); go_simp; (try go_bits); (try with_reducible rfl))
          try simp only [Act.put, List.setIfInBounds_toArray, List.set_cons_zero, List.set_cons_succ]
          refine reg_take 8 (v := ?_) rfl (by kernel_rfl) (by kernel_rfl) (by kernel_rfl) (fun _ _ _ h => h) (by kernel_rfl) ?_ ?_
          rotate_left
          · (intro w' hS; go_simp; (try go_bits); (try with_reducible rfl))
          try simp only [Act.put, List.setIfInBounds_toArray, List.set_cons_zero, List.set_cons_succ]
          refine reg_take 9 (v := ?_) rfl (by kernel_rfl) (by kernel_rfl) (by kernel_rfl) (fun _ _ _ h => h) (by kernel_rfl) ?_ ?_
          rotate_left
          · (intro w' hS; have hz := hS.cell v1 (fun h => h rfl); go_simp; (try go_bits); (try with_reducible rfl))
          try simp only [Act.put, List.setIfInBounds_toArray, List.set_cons_zero, List.set_cons_succ]
          refine reg_do 5 rfl (by kernel_rfl) (by kernel_rfl) ?_
          intro K hK
          go_simp
          refine (data_any F _ W T L s Aj nj cj xs _ rd hTb hwf (hbj'.pure cd) hnj).mono ?_
          rintro e w3 ⟨rfl, c3, r3⟩
          have hpF := r'.own
          refine hK _ _ (c3.mono (fun i _ e e2 => by have := hFlt _ (.inl hpF); omega)) ?_
          clear hK K
          try simp only [Act.put, List.setIfInBounds_toArray, List.set_cons_zero, List.set_cons_succ]
          have m3 := md.frame c3 (fun i hi e => hd i (by rw [e]; exact hpF) hi)
          have C3 : Chg Pure' w w3 := (hcb.pure cd).trans c3 (fun i hi e => by omega)
          refine reg_do 10 rfl (by kernel_rfl) (by kernel_rfl) ?_
          intro K hK
          go_simp
          refine (mdata_any G q W T L s Aj nj cj xs _ m3 hTb hwf (hbj.pure C3) hnj).mono ?_
          rintro e w5 ⟨rfl, c4, m5⟩
          refine hK _ _ (c4.mono (fun i _ hi e2 => by have := hFlt _ (.inr hi); omega)) ?_
          clear hK K
          try simp only [Act.put, List.setIfInBounds_toArray, List.set_cons_zero, List.set_cons_succ]
          have hR3 := c3.size
          have hdz : w2.drew.heap.size = w2.heap.size := rfl
          have r5 := r3.frame c4 (fun i hi hg => by
            rcases hi with h | h
            · exact hd i h hg
            · have := hFlt i (.inr hg); have := h.1; omega)
          have C5 : Chg Pure' w w5 := C3.trans c4 (fun i hi hg => by have := hFG i (.inr hg); omega)
          have hd5 : ∀ i, Ext F w2.drew w3 i → Ext G w3 w5 i → False := by
            rintro i (h1 | h1) (h2 | h2)
            · exact hd i h1 h2
            · have := hFlt i (.inl h1); have := h2.1; omega
            · have := hFlt i (.inr h2); have := h1.1; omega
            · have := h1.2; have := h2.1; omega
          have hFG5 : ∀ i, Ext F w2.drew w3 i ∨ Ext G w3 w5 i → w.heap.size ≤ i := by
            have := hcb.size
            rintro i ((h1 | h1) | (h1 | h1))
            · exact hFG i (.inl h1)
            · have := h1.1; omega
            · exact hFG i (.inr h1)
            · have := h1.1; omega
          have hT5 : T ≤ k + 1 := by omega
          refine reg_take 11 (v := ?_) rfl (by kernel_rfl) (by kernel_rfl) (by kernel_rfl) (fun _ _ _ h => h) (by kernel_rfl) ?_ ?_
          rotate_left
          · (intro w' hS; go_simp; (try go_bits); (try with_reducible rfl))
          try simp only [Act.put, List.setIfInBounds_toArray, List.set_cons_zero, List.set_cons_succ]
          refine wpAnyH_done (by kernel_rfl) ?_ _
          generalize dataR W T L s xs = R at *
          obtain ⟨f5, L5⟩ := R
          simp only at r5 m5
          generalize Ext F w2.drew w3 = F5 at *
          generalize Ext G w3 w5 = G5 at *
          obtain ⟨T5, hT7⟩ : ∃ T5, T = T5 := ⟨_, rfl⟩
          rw [hT7] at r5 m5 hT5
          clear r' m' r3 m3 c3 c4 e1 e2 hwf hbj hT7 hcb ca hd hFG hFl hGl hFlt hv0 hv1 v0 v1 rd md hbj' hs7' hs7 cd
          go_wp2_with (fail)
        all_goals
          have hT5b : T5 ≤ 4611686018427387904 := by omega
          refine (ack_any _ _ _ _ _ _ r5 hT5b).mono ?_
          rintro e w6 ⟨rfl, c6⟩
          have r6 := r5.pure c6
          have m6 := m5.pure c6
          have C6 := C5.pure c6
          go_wp2_with (fail)
          refine (mack_any _ _ _ _ _ _ m6 hT5b).mono ?_
          rintro e w7 ⟨rfl, c7⟩
          have r7 := r6.pure c7
          have m7 := m6.pure c7
          have C7 := C6.pure c7
          clear r5 m5 C5 r6 m6 C6 c6 c7
          have hct := m7.ct
          have hW := List.countP_le_length (p := fun x : Option (List UInt8) => x.isSome) (l := L5)
          rw [r7.len] at hW
          have HT := Lib.hid (taken_any F5 w.heap.size W T5 L5 _ (r7.pure (Chg.refl _ w7).drew))
          have HR := Lib.hid (ready_any F5 w.heap.size W T5 L5 _ (r7.pure (Chg.refl _ w7).drew) hT5b)
          have HM := Lib.hid (mready_any G5 q W T5 L5 _ (m7.pure (Chg.refl _ w7).drew))
          have HH := Lib.hid (held_any F5 w.heap.size W T5 L5 _ (r7.pure (Chg.refl _ w7).drew))
          have HG := Lib.hid (mheld_any G5 q W T5 L5 _ (m7.pure (Chg.refl _ w7).drew))
          generalize hle9 : lead L5 = l9 at *
          generalize hcn : L5.countP (·.isSome) = cn at *
          generalize ackTo L5 l9 W = bt at *
          go_wp2_with (fail)
          have hctd : w7.drew.cell? ⟨q, 1, none⟩ = some (.int .i64 T5) := hct
          refine reg_begin (Pure') (by kernel_rfl) ?_
          refine reg_take 0 (v := ?_) rfl (by kernel_rfl) (by kernel_rfl) (by kernel_rfl) (fun _ _ _ h => h) (by kernel_rfl) ?_ ?_
          rotate_left
          · (intro w' hS; go_simp; (try go_bits); (try with_reducible rfl))
          try simp only [Act.put, List.setIfInBounds_toArray, List.set_cons_zero, List.set_cons_succ]
          refine reg_take 1 (v := ?_) rfl (by kernel_rfl) (by kernel_rfl) (by kernel_rfl) (fun _ _ _ h => h) (by kernel_rfl) ?_ ?_
          rotate_left
          · (intro w' hS; go_simp; (try go_bits); (try with_reducible rfl))
          try simp only [Act.put, List.setIfInBounds_toArray, List.set_cons_zero, List.set_cons_succ]
          refine reg_take 2 (v := ?_) rfl (by kernel_rfl) (by kernel_rfl) (by kernel_rfl) (fun _ _ _ h => h) (by kernel_rfl) ?_ ?_
          rotate_left
          · (intro w' hS; go_simp; (try go_bits); (try with_reducible rfl))
          try simp only [Act.put, List.setIfInBounds_toArray, List.set_cons_zero, List.set_cons_succ]
          refine reg_take 3 (v := ?_) rfl (by kernel_rfl) (by kernel_rfl) (by kernel_rfl) (fun _ _ _ h => h) (by kernel_rfl) ?_ ?_
          rotate_left
          · (intro w' hS; go_simp; (try go_bits); (try with_reducible rfl))
          try simp only [Act.put, List.setIfInBounds_toArray, List.set_cons_zero, List.set_cons_succ]
          refine reg_take 4 (v := ?_) rfl (by kernel_rfl) (by kernel_rfl) (by kernel_rfl) (fun _ _ _ h => h) (by kernel_rfl) ?_ ?_
          rotate_left
          · (intro w' hS; go_simp; (try go_bits); (try with_reducible rfl))
          try simp only [Act.put, List.setIfInBounds_toArray, List.set_cons_zero, List.set_cons_succ]
          refine reg_take 5 (v := ?_) rfl (by kernel_rfl) (by kernel_rfl) (by kernel_rfl) (fun _ _ _ h => h) (by kernel_rfl) ?_ ?_
          rotate_left
          · (intro w' hS; go_simp; (try go_bits); (try with_reducible rfl))
          try simp only [Act.put, List.setIfInBounds_toArray, List.set_cons_zero, List.set_cons_succ]
          refine reg_take 6 (v := ?_) rfl (by kernel_rfl) (by kernel_rfl) (by kernel_rfl) (fun _ _ _ h => h) (by kernel_rfl) ?_ ?_
          rotate_left
          · (intro w' hS; go_simp; (try go_bits); (try with_reducible rfl))
          try simp only [Act.put, List.setIfInBounds_toArray, List.set_cons_zero, List.set_cons_succ]
          refine reg_take 7 (v := ?_) rfl (by kernel_rfl) (by kernel_rfl) (by kernel_rfl) (fun _ _ _ h => h) (by kernel_rfl) ?_ ?_
          rotate_left
          · (intro w' hS; go_simp; (try go_bits); (try with_reducible rfl))
          try simp only [Act.put, List.setIfInBounds_toArray, List.set_cons_zero, List.set_cons_succ]
          refine reg_take 8 (v := ?_) rfl (by kernel_rfl) (by kernel_rfl) (by kernel_rfl) (fun _ _ _ h => h) (by kernel_rfl) ?_ ?_
          rotate_left
          · (intro w' hS; go_simp; (try go_bits); (try with_reducible rfl))
          try simp only [Act.put, List.setIfInBounds_toArray, List.set_cons_zero, List.set_cons_succ]
          refine reg_take 9 (v := ?_) rfl (by kernel_rfl) (by kernel_rfl) (by kernel_rfl) (fun _ _ _ h => h) (by kernel_rfl) ?_ ?_
          rotate_left
          · (intro w' hS; go_simp; (try go_bits); (try with_reducible rfl))
          try simp only [Act.put, List.setIfInBounds_toArray, List.set_cons_zero, List.set_cons_succ]
          refine reg_take 10 (v := ?_) rfl (by kernel_rfl) (by kernel_rfl) (by kernel_rfl) (fun _ _ _ h => h) (by kernel_rfl) ?_ ?_
          rotate_left
          · (intro w' hS; go_simp; (try go_bits); (try with_reducible rfl))
          try simp only [Act.put, List.setIfInBounds_toArray, List.set_cons_zero, List.set_cons_succ]
          refine reg_take 11 (v := ?_) rfl (by kernel_rfl) (by kernel_rfl) (by kernel_rfl) (fun _ _ _ h => h) (by kernel_rfl) ?_ ?_
          rotate_left
          · (intro w' hS; go_simp; (try go_bits); (try with_reducible rfl))
          try simp only [Act.put, List.setIfInBounds_toArray, List.set_cons_zero, List.set_cons_succ]
          refine reg_take 12 (v := ?_) rfl (by kernel_rfl) (by kernel_rfl) (by kernel_rfl) (fun _ _ _ h => h) (by kernel_rfl) ?_ ?_
          rotate_left
          · (intro w' hS; go_simp; (try go_bits); (try with_reducible rfl))
          try simp only [Act.put, List.setIfInBounds_toArray, List.set_cons_zero, List.set_cons_succ]
          refine reg_take 13 (v := ?_) rfl (by kernel_rfl) (by kernel_rfl) (by kernel_rfl) (fun _ _ _ h => h) (by kernel_rfl) ?_ ?_
          rotate_left
          · (intro w' hS; go_simp; (try go_bits); (try with_reducible rfl))
          try simp only [Act.put, List.setIfInBounds_toArray, List.set_cons_zero, List.set_cons_succ]
          refine reg_take 14 (v := ?_) rfl (by kernel_rfl) (by kernel_rfl) (by kernel_rfl) (fun _ _ _ h => h) (by kernel_rfl) ?_ ?_
          rotate_left
          · (intro w' hS; go_simp; (try go_bits); (try with_reducible rfl))
          try simp only [Act.put, List.setIfInBounds_toArray, List.set_cons_zero, List.set_cons_succ]
          refine reg_take 16 (v := ?_) rfl (by kernel_rfl) (by kernel_rfl) (by kernel_rfl) (fun _ _ _ h => h) (by kernel_rfl) ?_ ?_
          rotate_left
          · (intro w' hS; go_simp; (try go_bits); (try with_reducible rfl))
          try simp only [Act.put, List.setIfInBounds_toArray, List.set_cons_zero, List.set_cons_succ]
          refine reg_take 17 (v := ?_) rfl (by kernel_rfl) (by kernel_rfl) (by kernel_rfl) (fun _ _ _ h => h) (by kernel_rfl) ?_ ?_
          rotate_left
          · (intro w' hS; have hz := hS.cell hctd (fun h => h); go_simp; (try go_bits); (try with_reducible rfl))
          try simp only [Act.put, List.setIfInBounds_toArray, List.set_cons_zero, List.set_cons_succ]
          refine reg_do 15 rfl (by kernel_rfl) (by kernel_rfl) ?_
          intro K hK
          go_simp
          refine HT.out.mono ?_
          rintro e w' ⟨rfl, rfl⟩
          refine hK _ _ (Chg.refl _ _) ?_
          clear hK K
          try simp only [Act.put, List.setIfInBounds_toArray, List.set_cons_zero, List.set_cons_succ]
          refine reg_take 18 (v := ?_) rfl (by kernel_rfl) (by kernel_rfl) (by kernel_rfl) (fun _ _ _ h => h) (by kernel_rfl) ?_ ?_
          rotate_left
          · (intro w' hS; go_simp; (try go_bits); (try with_reducible rfl))
          try simp only [Act.put, List.setIfInBounds_toArray, List.set_cons_zero, List.set_cons_succ]
          refine reg_take 19 (v := ?_) rfl (by kernel_rfl) (by kernel_rfl) (by kernel_rfl) (fun _ _ _ h => h) (by kernel_rfl) ?_ ?_
          rotate_left
          · (intro w' hS; go_simp; (try go_bits); (try with_reducible rfl))
          try simp only [Act.put, List.setIfInBounds_toArray, List.set_cons_zero, List.set_cons_succ]
          refine reg_take 20 (v := ?_) rfl (by kernel_rfl) (by kernel_rfl) (by kernel_rfl) (fun _ _ _ h => h) (by kernel_rfl) ?_ ?_
          rotate_left
          · (intro w' hS; go_simp; (try go_bits); (try with_reducible rfl))
          try simp only [Act.put, List.setIfInBounds_toArray, List.set_cons_zero, List.set_cons_succ]
          refine reg_take 21 (v := ?_) rfl (by kernel_rfl) (by kernel_rfl) (by kernel_rfl) (fun _ _ _ h => h) (by kernel_rfl) ?_ ?_
          rotate_left
          · (intro w' hS; go_simp; (try go_bits); (try with_reducible rfl))
          try simp only [Act.put, List.setIfInBounds_toArray, List.set_cons_zero, List.set_cons_succ]
          refine reg_do 22 rfl (by kernel_rfl) (by kernel_rfl) ?_
          intro K hK
          go_simp
          refine HR.out.mono ?_
          rintro e w' ⟨rfl, rfl⟩
          refine hK _ _ (Chg.refl _ _) ?_
          clear hK K
          try simp only [Act.put, List.setIfInBounds_toArray, List.set_cons_zero, List.set_cons_succ]
          refine reg_do 23 rfl (by kernel_rfl) (by kernel_rfl) ?_
          intro K hK
          go_simp
          refine HM.out.mono ?_
          rintro e w' ⟨rfl, rfl⟩
          refine hK _ _ (Chg.refl _ _) ?_
          clear hK K
          try simp only [Act.put, List.setIfInBounds_toArray, List.set_cons_zero, List.set_cons_succ]
          refine reg_take 24 (v := ?_) rfl (by kernel_rfl) (by kernel_rfl) (by kernel_rfl) (fun _ _ _ h => h) (by kernel_rfl) ?_ ?_
          rotate_left
          · (intro w' hS; go_simp; (try go_bits); (try with_reducible rfl))
          try simp only [Act.put, List.setIfInBounds_toArray, List.set_cons_zero, List.set_cons_succ]
          refine reg_take 25 (v := ?_) rfl (by kernel_rfl) (by kernel_rfl) (by kernel_rfl) (fun _ _ _ h => h) (by kernel_rfl) ?_ ?_
          rotate_left
          · (intro w' hS; go_simp; (try go_bits); (try with_reducible rfl))
          try simp only [Act.put, List.setIfInBounds_toArray, List.set_cons_zero, List.set_cons_succ]
          refine reg_take 26 (v := ?_) rfl (by kernel_rfl) (by kernel_rfl) (by kernel_rfl) (fun _ _ _ h => h) (by kernel_rfl) ?_ ?_
          rotate_left
          · (intro w' hS; go_simp; (try go_bits); (try with_reducible rfl))
          try simp only [Act.put, List.setIfInBounds_toArray, List.set_cons_zero, List.set_cons_succ]
          refine reg_take 27 (v := ?_) rfl (by kernel_rfl) (by kernel_rfl) (by kernel_rfl) (fun _ _ _ h => h) (by kernel_rfl) ?_ ?_
          rotate_left
          · (intro w' hS; go_simp; (try go_bits); (try with_reducible rfl))
          try simp only [Act.put, List.setIfInBounds_toArray, List.set_cons_zero, List.set_cons_succ]
          refine reg_do 28 rfl (by kernel_rfl) (by kernel_rfl) ?_
          intro K hK
          go_simp
          refine HH.out.mono ?_
          rintro e w' ⟨rfl, rfl⟩
          refine hK _ _ (Chg.refl _ _) ?_
          clear hK K
          try simp only [Act.put, List.setIfInBounds_toArray, List.set_cons_zero, List.set_cons_succ]
          refine reg_do 29 rfl (by kernel_rfl) (by kernel_rfl) ?_
          intro K hK
          go_simp
          refine HG.out.mono ?_
          rintro e w' ⟨rfl, rfl⟩
          refine hK _ _ (Chg.refl _ _) ?_
          clear hK K
          try simp only [Act.put, List.setIfInBounds_toArray, List.set_cons_zero, List.set_cons_succ]
          refine reg_take 30 (v := ?_) rfl (by kernel_rfl) (by kernel_rfl) (by kernel_rfl) (fun _ _ _ h => h) (by kernel_rfl) ?_ ?_
          rotate_left
          · (intro w' hS; go_simp; (try go_bits); (try with_reducible rfl))
          try simp only [Act.put, List.setIfInBounds_toArray, List.set_cons_zero, List.set_cons_succ]
          refine reg_take 31 (v := ?_) rfl (by kernel_rfl) (by kernel_rfl) (by kernel_rfl) (fun _ _ _ h => h) (by kernel_rfl) ?_ ?_
          rotate_left
          · (intro w' hS; go_simp; (try go_bits); (try with_reducible rfl))
          try simp only [Act.put, List.setIfInBounds_toArray, List.set_cons_zero, List.set_cons_succ]
          refine wpAnyH_done (by kernel_rfl) ?_ _
          go_wp2
          go_roundw
          case rel => exact ⟨k + 1, T5, L5, F5, G5, by omega, by go_num, hT5, r7.pure (Chg.refl _ w7).drew, m7.pure (Chg.refl _ w7).drew, hd5, hFG5, C7.pure (Chg.refl _ w7).drew⟩
          case measure => simp [intOf]; omega
      · go_wp2
        go_ret
        exact ⟨rfl, hc⟩
end Go.Proofs.Ytnkdlilccfclbaa
