/- The laws of layer 18, going on: RecvOrders. -/
import Derived.Test.YtnkdlilccfclbaaL18
import Derived.Test.YtnkdlilccfclbaaSame
import Derived.Test.YtnkdlilccfclbaaMapV
namespace Go.Proofs.Ytnkdlilccfclbaa
open Go Go.RowKit
set_option linter.unusedVariables false
set_option linter.unusedSimpArgs false

/-- What the law's own list of loads has of each number behind the taken ones. -/
def CameAt (w : World) (T : Nat) (L : List (Option (List UInt8))) (m : Int → Option Value) : Prop :=
  ∀ j : Nat, (L.getD j none = none ∧ m ((T + 1 + j : Nat) : Int) = none) ∨ ∃ xs A n c, L.getD j none = some xs ∧ m ((T + 1 + j : Nat) : Int) = some (.slice A n c) ∧ Bytes w A n xs
theorem CameAt.pure {w w' : World} {T : Nat} {L : List (Option (List UInt8))} {m : Int → Option Value} (h : CameAt w T L m) (hc : Chg Pure' w w') : CameAt w' T L m := by
  intro j
  rcases h j with h1 | ⟨xs, A, n, c, h1, h2, h3⟩
  · exact .inl h1
  · exact .inr ⟨xs, A, n, c, h1, h2, h3.pure hc⟩
theorem came_new (w : World) (W : Nat) : CameAt w 0 (List.replicate W none) (fun _ => none) := by
  intro j
  refine .inl ⟨?_, rfl⟩
  rw [List.getD_eq_getElem?_getD, List.getElem?_replicate]
  split <;> rfl
theorem came_put {w : World} {W T : Nat} {L : List (Option (List UInt8))} {m : Int → Option Value} (h : CameAt w T L m) (hL : L.length = W) {s : Int} {xs : List UInt8} (hd : (dataR W T L s xs).1 = 0) {A : Option Addr} {n c : Nat} (hb : Bytes w A n xs) :
    m s = none ∧ CameAt w T (dataR W T L s xs).2 (setAt m s (.slice A n c)) := by
  unfold dataR at hd ⊢
  by_cases c1 : s < 1
  · rw [if_pos c1] at hd; cases hd
  rw [if_neg c1] at hd ⊢
  by_cases c2 : 1200 < xs.length
  · rw [if_pos c2] at hd; cases hd
  rw [if_neg c2] at hd ⊢
  by_cases c3 : s ≤ T
  · rw [if_pos c3] at hd; cases hd
  rw [if_neg c3] at hd ⊢
  by_cases c4 : (W : Int) < s - T
  · rw [if_pos c4] at hd; cases hd
  rw [if_neg c4] at hd ⊢
  obtain ⟨k, rfl⟩ : ∃ k : Nat, s = ((T + 1 + k : Nat) : Int) := ⟨(s - T - 1).toNat, by omega⟩
  have e : ((T + 1 + k : Nat) : Int).toNat - T - 1 = k := by omega
  rw [e] at hd ⊢
  have hk : k < L.length := by omega
  by_cases c5 : (L.getD k none).isSome = true
  · rw [if_pos c5] at hd; cases hd
  rw [if_neg c5] at hd ⊢
  have h0 := h k
  rcases h0 with ⟨h1, h2⟩ | ⟨ys, A', n', c', h1, h2, h3⟩
  · refine ⟨h2, fun j => ?_⟩
    by_cases hj : j = k
    · subst hj
      refine .inr ⟨xs, A, n, c, ?_, ?_, hb⟩
      · rw [List.getD_eq_getElem?_getD, List.getElem?_set_self hk]; rfl
      · rw [setAt_same]
    · have e2 : (L.set k (some xs)).getD j none = L.getD j none := by
        rw [List.getD_eq_getElem?_getD, List.getElem?_set_ne (by omega), ← List.getD_eq_getElem?_getD]
      rw [e2, setAt_other _ _ (by omega)]
      exact h j
  · rw [h1] at c5; simp at c5
theorem data_refused {W T : Nat} {L : List (Option (List UInt8))} {s : Int} {xs : List UInt8} (h : (dataR W T L s xs).1 ≠ 0) : (dataR W T L s xs).2 = L := by
  unfold dataR at h ⊢
  repeat' split
  all_goals first | rfl | simp_all
theorem came_take {w : World} {T : Nat} {o : Option (List UInt8)} {L : List (Option (List UInt8))} {m : Int → Option Value} (h : CameAt w T (o :: L) m) : CameAt w (T + 1) (L ++ [none]) m := by
  intro j
  have e2 : (L ++ [none]).getD j none = (o :: L).getD (j + 1) none := by
    rw [List.getD_eq_getElem?_getD, List.getD_eq_getElem?_getD, List.getElem?_cons_succ, List.getElem?_append]
    split
    · rfl
    · rename_i hge
      rw [List.getElem?_eq_none (show L.length ≤ j by omega)]
      rcases Nat.eq_zero_or_pos (j - L.length) with h0 | h0
      · rw [h0]; rfl
      · rw [List.getElem?_eq_none (by simp; omega)]
  rw [e2, show T + 1 + 1 + j = T + 1 + (j + 1) from by omega]
  exact h (j + 1)

set_option maxRecDepth 100000 in
set_option maxHeartbeats 2000000 in
theorem law_RecvOrders (a : Int) (A : Option Addr) (n c : Nat) (acts : List (Int × List UInt8)) (w : World) (ha : -9223372036854775808 ≤ a ∧ a ≤ 9223372036854775807) (hA : ActsAt w A n acts) (hn : n ≤ 140737488351232) :
    Calls Try.prog 3 #[.int .i64 a, .slice A n c] w fun e w' => e = .returned (.bool true) ∧ Chg Pure' w w' := by
  by_cases hbad : a < 1 ∨ 32 < a
  · go_enter Try.func3, Try.ntmps3
    go_wp2_with (fail)
    refine (new_bad _ _ hbad).mono ?_
    rintro e w1 ⟨rfl, rfl⟩
    go_wp2_with (fail)
    refine (alive18 _).mono ?_
    rintro e w2 ⟨rfl, hg⟩
    go_wp2
    go_ret
    exact ⟨rfl, hg⟩
  · obtain ⟨W, rfl⟩ : ∃ W : Nat, a = W := ⟨a.toNat, by omega⟩
    have h1 : 1 ≤ W := by omega
    have h2 : W ≤ 32 := by omega
    clear hbad ha
    have hmm := @run_makeMap Try.prog
    have hz : ∀ w : World, (zeroValue 29).run Try.prog w = .ok (.slice none 0 0) w := fun w => by kernel_rfl
    go_enter Try.func3, Try.ntmps3
    go_wp2_with (fail)
    refine (new_ok W _ h1 h2).mono ?_
    rintro e w1 ⟨rfl, c1, r1⟩
    go_wp2_with (fail)
    refine (alive18 _).mono ?_
    rintro e w2 ⟨rfl, c2⟩
    have r2 := r1.pure c2
    have C2 := c1.pure c2
    clear r1 c1 c2
    go_wp2_with (fail)
    have M3 := MapAt.made w2 3
    have c3 : Chg Pure' w2 (w2.alloc (.map #[] 0)) := (Chg.refl _ w2).alloc _
    have r3 := r2.pure c3
    have C3 := C2.pure c3
    have hbm : w.heap.size < w2.heap.size := r2.lt _ r2.own
    generalize hB : w2.heap.size = B at *
    generalize (w2.alloc (.map #[] 0)) = w3 at *
    clear r2 C2 c3 hmm
    go_loopw [36, 8] (fun i t wr => ∃ (k T : Nat) (L : List (Option (List UInt8))) (F : Nat → Prop) (m : Int → Option Value), k ≤ n ∧ i = .int .i64 k ∧ t = .int .i64 T ∧ T ≤ k ∧ RecvAt wr F w.heap.size W T L ∧ (∀ i, F i → w.heap.size ≤ i ∧ i ≠ B) ∧ MapAt wr 3 B k m ∧ CameAt w T L m ∧ Chg Pure' w wr) (fun i _ _ => n - (intOf i).toNat)
    case atStart => exact ⟨0, 0, _, _, _, Nat.zero_le _, rfl, rfl, Nat.le_refl _, r3, fun i hi => by rw [hi]; omega, M3, came_new _ _, C3⟩
    case round =>
      obtain ⟨k, T, L, F, m, hk, rfl, rfl, hT, r, hF, hM, hcm, hc⟩ := hrel
      by_cases hlt : k < n
      · obtain ⟨b, off, rfl, hbl, hcell⟩ := hA.cells (by omega)
        have hkx : k < acts.length := by have := hA.len; omega
        obtain ⟨e10, Aj, nj, cj, e20, hle, hnj, hbj⟩ := hcell k hkx
        have e1 := hc.cell e10 (fun h => h)
        have e2 := hc.cell e20 (fun h => h)
        have hwf := hA.wf _ (List.getElem_mem hkx)
        generalize acts[k].1 = s at e1 hwf
        generalize acts[k].2 = xs at hbj
        clear hcell e10 e20
        have hTb : T ≤ 4611686018427387904 := by omega
        have fz : ∀ i, i < w.heap.size → i = w.heap.size → Pure' i := fun i hi e => by omega
        have fb : ∀ i, i < w.heap.size → i = B → Pure' i := fun i hi e => by omega
        have ca : Chg Pure' wr (wr.alloc (.cells #[.int .i64 s, .slice Aj nj cj] 31)) := (Chg.refl _ wr).alloc _
        have r' := r.pure ca
        have hM' := hM.chg ca (fun h => h)
        have hcb := hc.pure ca
        have hlt8 := r.lt _ r.own
        have hFw := hM.lt
        clear r hM
        by_cases hs7 : s = -7
        · subst hs7
          have hkey : (Lit.int .i64 ((T : Int) + 1)).wf = true := by simp [Lit.wf, IntKind.min, IntKind.max, IntKind.signed, IntKind.bits]; omega
          have hck := hcm 0
          have e0 : ((T + 1 + 0 : Nat) : Int) = (T : Int) + 1 := by omega
          rw [e0] at hck
          rcases L with _ | ⟨_ | ys, L⟩
          · exact absurd r'.len (by simp; omega)
          · have hm0 : m ((T : Int) + 1) = none := by
              rcases hck with h | ⟨xs, A, n, c, h, -⟩
              · exact h.2
              · simp at h
            go_wp2_with (fail)
            refine (take_none _ _ _ _ _ _ r' hTb).mono ?_
            rintro e w3 ⟨rfl, rfl⟩
            go_wp2_with (first
              | (at_lookup; refine wp_look_map _ rfl _ _ _ rfl 3 29 Try.underlying3 Try.underlying28 (hz _) B k m rfl hM' _ rfl hkey ?_; rw [hm0])
              | fail)
            refine (same_is true _ _ _ _ _ _ _ _ _ (Bytes.nil _ _) (Bytes.nil _ _) (by simp)).mono ?_
            rintro e w4 ⟨rfl, rfl⟩
            go_wp2
            go_roundw
            case rel => exact ⟨k + 1, T, _, F, m, by omega, by go_num, rfl, by omega, r', hF, hM'.mono, hcm, hcb⟩
            case measure => simp [intOf]; omega
          · obtain ⟨A4, n4, q4, hm0, hb4⟩ : ∃ A n c, m ((T : Int) + 1) = some (.slice A n c) ∧ Bytes w A n ys := by
              rcases hck with h | ⟨xs, A, n, c, h, h2, h3⟩
              · simp at h
              · simp at h; subst h; exact ⟨A, n, c, h2, h3⟩
            go_wp2_with (fail)
            refine (take_some _ _ _ _ _ _ _ r' hTb).mono ?_
            rintro e w3 ⟨A3, n3, q3, rfl, -, -, hb3, -, c3, r3⟩
            have hM3 := hM'.chg c3 (fun e => by omega)
            have C4 := hcb.trans c3 fz
            go_wp2_with (first
              | (at_lookup; refine wp_look_map _ rfl _ _ _ rfl 3 29 Try.underlying3 Try.underlying28 (hz _) B k m rfl hM3 _ rfl hkey ?_; rw [hm0])
              | fail)
            refine (same_is true _ _ _ _ _ _ _ _ _ hb3 (hb4.pure C4) (by simp)).mono ?_
            rintro e w4 ⟨rfl, rfl⟩
            go_wp2
            go_roundw
            case rel => exact ⟨k + 1, T + 1, _, F, m, by omega, by go_num, by go_num, by omega, r3, hF, hM3.mono, came_take hcm, C4⟩
            case measure => simp [intOf]; omega
        · have hs7' : (s == -7) = false := by rw [beq_eq_false_iff_ne]; exact hs7
          have hkey : (Lit.int .i64 s).wf = true := by simp [Lit.wf, IntKind.min, IntKind.max, IntKind.signed, IntKind.bits]; omega
          have hv0 : (wr.alloc (.cells #[.int .i64 s, .slice Aj nj cj] 31)).cell? ⟨wr.heap.size, 0, none⟩ = some (.int .i64 s) := by rw [cellAt_alloc_lit]; rfl
          have hv1 : (wr.alloc (.cells #[.int .i64 s, .slice Aj nj cj] 31)).cell? ⟨wr.heap.size, 1, none⟩ = some (.slice Aj nj cj) := by rw [cellAt_alloc_lit]; rfl
          have hnot := Lib.hid (data_refused (W := W) (T := T) (L := L) (s := s) (xs := xs))
          have hput := Lib.hid (fun h : (dataR W T L s xs).1 = 0 => came_put hcm r'.len h (c := cj) hbj)
          clear hs7
          go_wp2_with (fail)
          refine (data_any F w.heap.size W T L s Aj nj cj xs _ r' hTb hwf (hbj.pure hcb) hnj).mono ?_
          rintro e w3 ⟨rfl, c3, r3⟩
          have hF3 : ∀ i, Ext F (wr.alloc (.cells #[.int .i64 s, .slice Aj nj cj] 31)) w3 i → w.heap.size ≤ i ∧ i ≠ B := by
            rintro i (h | h)
            · exact hF i h
            · have := h.1; simp at this; omega
          have hM3 := hM'.chg c3 (fun e => by omega)
          have C3' := hcb.trans c3 fz
          have hv03 := c3.cell hv0 (fun e => by simp at e; omega)
          have hv13 := c3.cell hv1 (fun e => by simp at e; omega)
          generalize dataR W T L s xs = R at hput hnot r3
          obtain ⟨f, L3⟩ := R
          simp only at hput hnot r3
          by_cases hf : f = 0
          · subst hf
            obtain ⟨hms, hcm3⟩ := hput.out rfl
            clear hput hnot
            go_wp2_with (first
              | (at_lookup; refine wp_look_map _ rfl _ _ _ rfl 3 29 Try.underlying3 Try.underlying28 (hz _) B k m rfl hM3 _ rfl hkey ?_; rw [hms])
              | (at_mapUpdate; refine wp_put_map _ rfl _ _ _ _ rfl 3 29 Try.underlying3 Try.underlying28 B k m rfl hM3 (by unfold maxLen; omega) _ _ rfl rfl hkey ?_; intro w4 hM4 c4)
              | fail)
            go_roundw
            case rel => exact ⟨k + 1, T, _, _, _, by omega, by go_num, rfl, by omega, r3.frame c4 (fun i hi => (hF3 i hi).2), fun i hi => hF3 i hi, hM4, hcm3, C3'.trans c4 fb⟩
            case measure => simp [intOf]; omega
          · have hf' : (f == 0) = false := by rw [beq_eq_false_iff_ne]; exact hf
            obtain rfl := hnot.out hf
            clear hput hnot hf
            go_wp2
            go_roundw
            case rel => exact ⟨k + 1, T, _, _, _, by omega, by go_num, rfl, by omega, r3, fun i hi => hF3 i hi, hM3.mono, hcm, C3'⟩
            case measure => simp [intOf]; omega
      · go_wp2_with (fail)
        refine (taken_any _ _ _ _ _ _ r).mono ?_
        rintro e w5 ⟨rfl, rfl⟩
        go_wp2
        go_ret
        exact ⟨rfl, hc⟩
end Go.Proofs.Ytnkdlilccfclbaa
