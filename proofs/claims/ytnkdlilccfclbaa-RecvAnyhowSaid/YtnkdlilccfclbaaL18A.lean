/- The laws of layer 18, going on: RecvAnyhow. -/
import Derived.Test.YtnkdlilccfclbaaL18
import Derived.Test.YtnkdlilccfclbaaSame
namespace Go.Proofs.Ytnkdlilccfclbaa
open Go Go.RowKit
set_option linter.unusedVariables false
set_option linter.unusedSimpArgs false

theorem BytesL.pure {w w' : World} {A : Option Addr} {n : Nat} {xss : List (List UInt8)} (h : BytesL w A n xss) (hc : Chg Pure' w w') : BytesL w' A n xss := by
  refine ⟨h.len, fun hn => ?_⟩
  obtain ⟨b, off, e, hcell⟩ := h.cells hn
  refine ⟨b, off, e, fun j hj => ?_⟩
  obtain ⟨Aj, nj, cj, h1, h2, h3⟩ := hcell j hj
  exact ⟨Aj, nj, cj, hc.cell h1 (fun h => h), h2, h3.pure hc⟩
/-- What is held of a load in the end. -/
def fit (xs : List UInt8) : Option (List UInt8) := if 1200 < xs.length then none else some xs
/-- The receiver of the law: from number T + 1 on the loads stand there or are not there yet; those before number i stand there. -/
def Mine (m T i : Nat) (xss : List (List UInt8)) (L : List (Option (List UInt8))) : Prop :=
  ∀ j, j < 32 → (if h : T + j < xss.length then (T + j < m ∧ ((L.getD j none = none ∧ i ≤ T + j) ∨ L.getD j none = fit (xss[T + j]'h))) ∨ (m ≤ T + j ∧ L.getD j none = none) else L.getD j none = none)
theorem mine_data (m i q : Nat) (xss : List (List UInt8)) (L : List (Option (List UInt8))) (hL : L.length = 32) (hm : m ≤ 32) (hq : q < m) (hqx : q < xss.length) (h : Mine m 0 i xss L) (s : Int) (hs : s = (q : Int) + 1) : Mine m 0 i xss (dataR 32 0 L s (xss[q]'hqx)).2 ∧ (q = i → Mine m 0 (i + 1) xss (dataR 32 0 L s (xss[q]'hqx)).2) := by
  subst hs
  have h1 := h q (by omega)
  rw [Nat.zero_add, dif_pos hqx] at h1
  have hs : ((q : Int) + 1).toNat - 0 - 1 = q := by omega
  unfold dataR
  rw [if_neg (by omega)]
  by_cases c1 : 1200 < (xss[q]'hqx).length
  · rw [if_pos c1]
    refine ⟨h, fun hqi => ?_⟩
    subst hqi
    intro j hj
    have h2 := h j hj
    simp only [Nat.zero_add] at h2 ⊢
    by_cases hjx : j < xss.length
    · rw [dif_pos hjx] at h2 ⊢
      rcases h2 with ⟨a, ⟨b, c⟩ | b⟩ | b
      · by_cases hjq : j = q
        · subst hjq
          exact .inl ⟨a, .inr (by rw [b]; unfold fit; rw [if_pos c1])⟩
        · exact .inl ⟨a, .inl ⟨b, by omega⟩⟩
      · exact .inl ⟨a, .inr b⟩
      · exact .inr b
    · rw [dif_neg hjx] at h2 ⊢; exact h2
  · rw [if_neg c1, if_neg (by omega), if_neg (by omega), hs]
    by_cases c2 : (L.getD q none).isSome = true
    · rw [if_pos c2]
      refine ⟨h, fun hqi => ?_⟩
      subst hqi
      intro j hj
      have h2 := h j hj
      simp only [Nat.zero_add] at h2 ⊢
      by_cases hjx : j < xss.length
      · rw [dif_pos hjx] at h2 ⊢
        rcases h2 with ⟨a, ⟨b, c⟩ | b⟩ | b
        · by_cases hjq : j = q
          · subst hjq; rw [b] at c2; simp at c2
          · exact .inl ⟨a, .inl ⟨b, by omega⟩⟩
        · exact .inl ⟨a, .inr b⟩
        · exact .inr b
      · rw [dif_neg hjx] at h2 ⊢; exact h2
    · rw [if_neg c2]
      have key : ∀ j, j < 32 → (L.set q (some (xss[q]'hqx))).getD j none = if j = q then fit (xss[q]'hqx) else L.getD j none := by
        intro j hj
        by_cases hjq : j = q
        · subst hjq
          rw [if_pos rfl, List.getD_eq_getElem?_getD, List.getElem?_set_self (by omega)]
          unfold fit; rw [if_neg c1]; rfl
        · rw [if_neg hjq, List.getD_eq_getElem?_getD, List.getElem?_set_ne (by omega), ← List.getD_eq_getElem?_getD]
      refine ⟨fun j hj => ?_, fun hqi j hj => ?_⟩
      · have h2 := h j hj
        simp only [Nat.zero_add] at h2 ⊢
        rw [key j hj]
        by_cases hjx : j < xss.length
        · rw [dif_pos hjx] at h2 ⊢
          by_cases hjq : j = q
          · subst hjq; rw [if_pos rfl]; exact .inl ⟨hq, .inr rfl⟩
          · rw [if_neg hjq]; exact h2
        · rw [dif_neg hjx] at h2 ⊢
          rw [if_neg (by omega)]; exact h2
      · have h2 := h j hj
        simp only [Nat.zero_add] at h2 ⊢
        rw [key j hj]
        by_cases hjx : j < xss.length
        · rw [dif_pos hjx] at h2 ⊢
          by_cases hjq : j = q
          · subst hjq; rw [if_pos rfl]; exact .inl ⟨hq, .inr rfl⟩
          · rw [if_neg hjq]
            rcases h2 with ⟨a, ⟨b, c⟩ | b⟩ | b
            · exact .inl ⟨a, .inl ⟨b, by omega⟩⟩
            · exact .inl ⟨a, .inr b⟩
            · exact .inr b
        · rw [dif_neg hjx] at h2 ⊢
          rw [if_neg (by omega)]; exact h2
theorem mine_new (m : Nat) (xss : List (List UInt8)) : Mine m 0 0 xss (List.replicate 32 none) := by
  intro j hj
  have e : (List.replicate 32 (none : Option (List UInt8))).getD j none = none := by
    rw [List.getD_eq_getElem?_getD, List.getElem?_replicate, if_pos hj]; rfl
  rw [e]
  split
  · by_cases h : 0 + j < m
    · exact .inl ⟨h, .inl ⟨rfl, Nat.zero_le _⟩⟩
    · exact .inr ⟨by omega, rfl⟩
  · rfl
theorem mine_take {m T : Nat} {xss : List (List UInt8)} {o : Option (List UInt8)} {L : List (Option (List UInt8))} (hT : T < m) (hm : m ≤ xss.length) (hm2 : m ≤ 32) (hL : L.length = 31) (h : Mine m T m xss (o :: L)) :
    o = fit (xss[T]'(by omega)) ∧ Mine m (T + 1) m xss (L ++ [none]) := by
  have h0 := h 0 (by omega)
  rw [Nat.add_zero, dif_pos (by omega)] at h0
  refine ⟨?_, fun j hj => ?_⟩
  · rcases h0 with ⟨a, ⟨b, c⟩ | b⟩ | ⟨b, c⟩
    · omega
    · exact b
    · omega
  · by_cases hj31 : j = 31
    · subst hj31
      have e : (L ++ [none]).getD 31 none = none := by
        rw [List.getD_eq_getElem?_getD, List.getElem?_append_right (by omega), hL]; rfl
      rw [e]
      split
      · exact .inr ⟨by omega, rfl⟩
      · rfl
    · have h1 := h (j + 1) (by omega)
      have e : (L ++ [none]).getD j none = L.getD j none := by
        rw [List.getD_eq_getElem?_getD, List.getElem?_append_left (by omega), ← List.getD_eq_getElem?_getD]
      have e2 : (o :: L).getD (j + 1) none = L.getD j none := by simp
      rw [e2] at h1
      rw [e]
      have e3 : T + (j + 1) = T + 1 + j := by omega
      simp only [e3] at h1
      exact h1
theorem mine_end {m : Nat} {xss : List (List UInt8)} {o : Option (List UInt8)} {L : List (Option (List UInt8))} (h : Mine m m m xss (o :: L)) : o = none := by
  have h0 := h 0 (by omega)
  rw [Nat.add_zero] at h0
  split at h0
  · rcases h0 with ⟨a, _⟩ | ⟨_, c⟩
    · omega
    · exact c
  · exact h0

set_option maxRecDepth 100000 in
set_option maxHeartbeats 400000 in
theorem law_RecvAnyhow (A : Option Addr) (n c : Nat) (xss : List (List UInt8)) (B : Option Addr) (m d : Nat) (ks : List UInt8) (w : World) (hA : BytesL w A n xss) (hc : n ≤ c) (h0 : A = none → c = 0) (hn : n ≤ 140737488351232) (hx : ∀ x ∈ xss, x.length ≤ 140737488351232)
    (hB : Bytes w B m ks) (hd : m ≤ d) (hm : m ≤ 140737488351232) :
    Calls Try.prog 4 #[.slice A n c, .slice B m d] w fun e w' => e = .returned (.bool true) ∧ Chg Pure' w w' := by
  have hl := hA.len
  have hmin : ∃ q : Nat, (if (n : Int) ≤ 32 then (n : Int) else 32) = (q : Int) ∧ q ≤ 32 ∧ q ≤ n := by
    by_cases h : n ≤ 32
    · exact ⟨n, by rw [if_pos (by omega)], h, Nat.le_refl _⟩
    · exact ⟨32, by rw [if_neg (by omega)]; rfl, Nat.le_refl _, by omega⟩
  go_enter Try.func4, Try.ntmps4
  go_wp2_with (fail)
  refine (new_ok 32 _ (by omega) (by omega)).mono ?_
  rintro e w1 ⟨rfl, c1, r1⟩
  go_wp2_with (fail)
  refine (alive18 _).mono ?_
  rintro e w2 ⟨rfl, c2⟩
  have r2 := r1.pure c2
  have C2 := c1.pure c2
  clear r1 c1 c2
  by_cases h32 : n ≤ 32
  focus
    have i1 : (n : Int) ≤ 32 := by omega
    rcases A with _ | a
    focus
      obtain rfl := h0 rfl
      obtain rfl : n = 0 := by omega
      obtain ⟨q, hq, hq'⟩ : ∃ q, q ≤ 0 ∧ 0 ≤ q := ⟨0, Nat.le_refl _, Nat.le_refl _⟩
      obtain ⟨A, hAe⟩ : ∃ A : Option Addr, A = none := ⟨_, rfl⟩
      rw [← hAe] at hA
      have hqn : q ≤ xss.length := by omega
      go_wp2_with (fail)
    rotate_left 1
    focus
      obtain ⟨q, hqe⟩ : ∃ q, q = n := ⟨_, rfl⟩
      subst hqe
      obtain ⟨A, hAe⟩ : ∃ A : Option Addr, A = some a := ⟨_, rfl⟩
      rw [← hAe] at hA
      have hqn : q ≤ xss.length := by omega
      go_wp2_with (fail)
    rotate_left 1
  rotate_left 2
  focus
    have i1 : ¬ (n : Int) ≤ 32 := by omega
    rcases A with _ | a
    · have := h0 rfl; omega
    focus
      obtain ⟨q, hq, hq'⟩ : ∃ q, q ≤ 32 ∧ 32 ≤ q := ⟨32, Nat.le_refl _, Nat.le_refl _⟩
      obtain ⟨A, hAe⟩ : ∃ A : Option Addr, A = some a := ⟨_, rfl⟩
      rw [← hAe] at hA
      have hqn : q ≤ xss.length := by omega
      go_wp2_with (fail)
  all_goals
    have hq32 : q ≤ 32 := by omega
    have fz : ∀ i, i < w.heap.size → i = w.heap.size → Pure' i := fun i hi e => by omega
    clear h0 i1 hmin
    go_loopw [39] (fun i wr => ∃ (k : Nat) (L : List (Option (List UInt8))) (F : Nat → Prop), k ≤ m ∧ i = .int .i64 k ∧ RecvAt wr F w.heap.size 32 0 L ∧ (∀ i, F i → w.heap.size ≤ i) ∧ Mine q 0 0 xss L ∧ Chg Pure' w wr) (fun i _ => m - (intOf i).toNat)
    case atStart => exact ⟨0, _, _, Nat.zero_le _, rfl, r2, fun i hi => by rw [hi]; exact Nat.le_refl _, mine_new _ _, C2⟩
    case round =>
      obtain ⟨k, L, F, hk, rfl, r, hF, hM, hcw⟩ := hrel
      by_cases hlt : k < m
      · have hBw := hB.pure hcw
        obtain ⟨b, off, rfl, hcell⟩ := hBw.cells (by omega)
        have hkx : k < ks.length := by have := hB.len; omega
        have e1 := hcell k hkx
        clear hcell
        have hkb := (ks[k]).toNat_lt
        generalize ks[k].toNat = kb at e1 hkb
        have hkw : wrap64 (kb : Int) = (kb : Int) := by unfold wrap64; omega
        have hkt : (kb : Int).tmod 32 = ((kb % 32 : Nat) : Int) := by rw [Int.tmod_eq_emod_of_nonneg (by omega)]; omega
        by_cases hin : kb % 32 < q
        · first
          | (exfalso; omega)
          | (have hqq : (kb % 32) < xss.length := by omega
             have hdata := mine_data q 0 (kb % 32) xss L r.len hq32 hin hqq hM _ rfl
             generalize hrr : kb % 32 = rr at *
             obtain ⟨b2, off2, hAe2, hcell2⟩ := (hA.pure hcw).cells (by omega)
             rw [hAe] at hAe2
             obtain rfl := Option.some.inj hAe2
             obtain ⟨A3, n3, c3, e3, hle3, hb3⟩ := hcell2 rr hqq
             have hn3 : n3 ≤ 140737488351232 := by rw [← hb3.len]; exact hx _ (List.getElem_mem hqq)
             have HM := Lib.hid hdata
             clear hcell2 hdata hM
             go_wp2_with (fail)
             refine (data_any _ _ _ _ _ _ _ _ _ _ _ r (by omega) (by omega) hb3 hn3).mono ?_
             rintro e w5 ⟨rfl, c5, r5⟩
             have hF5 : ∀ i, Ext F wr w5 i → w.heap.size ≤ i := by
               rintro i (h | h)
               · exact hF i h
               · have := h.1; have := hcw.size; omega
             have C5 := hcw.trans c5 fz
             go_wp2
             go_roundw
             case rel => exact ⟨k + 1, _, _, by omega, by go_num, r5, hF5, HM.out.1, C5⟩
             case measure => simp [intOf]; omega)
        · generalize hrr : kb % 32 = rr at *
          have HM := Lib.hid hM
          clear hM
          go_wp2
          first
          | done
          | (go_roundw
             case rel => exact ⟨k + 1, _, _, by omega, by go_num, r, hF, HM.out, hcw⟩
             case measure => simp [intOf]; omega)
      · obtain ⟨w4, rfl⟩ : ∃ x : World, x = wr := ⟨_, rfl⟩
        go_wp2
        go_loopw [61] (fun i wr => ∃ (k : Nat) (L : List (Option (List UInt8))) (F : Nat → Prop), k ≤ q ∧ i = .int .i64 k ∧ RecvAt wr F w.heap.size 32 0 L ∧ (∀ i, F i → w.heap.size ≤ i) ∧ Mine q 0 k xss L ∧ Chg Pure' w wr) (fun i _ => q - (intOf i).toNat)
        case atStart => exact ⟨0, _, _, Nat.zero_le _, rfl, r, hF, hM, hcw⟩
        case round =>
          clear r hF hM hcw
          obtain ⟨k, L, F, hk, rfl, r, hF, hM, hcw⟩ := hrel
          by_cases hlt : k < q
          · first
            | (exfalso; omega)
            | (have hqq : k < xss.length := by omega
               have hdata := (mine_data q k k xss L r.len hq32 hlt hqq hM _ rfl).2 rfl
               obtain ⟨b2, off2, hAe2, hcell2⟩ := (hA.pure hcw).cells (by omega)
               rw [hAe] at hAe2
               obtain rfl := Option.some.inj hAe2
               obtain ⟨A3, n3, c3, e3, hle3, hb3⟩ := hcell2 k hqq
               have hn3 : n3 ≤ 140737488351232 := by rw [← hb3.len]; exact hx _ (List.getElem_mem hqq)
               have HM := Lib.hid hdata
               clear hcell2 hdata hM
               go_wp2_with (fail)
               refine (data_any _ _ _ _ _ _ _ _ _ _ _ r (by omega) (by omega) hb3 hn3).mono ?_
               rintro e w5 ⟨rfl, c5, r5⟩
               have hF5 : ∀ i, Ext F wr w5 i → w.heap.size ≤ i := by
                 rintro i (h | h)
                 · exact hF i h
                 · have := h.1; have := hcw.size; omega
               have C5 := hcw.trans c5 fz
               go_wp2
               go_roundw
               case rel => exact ⟨k + 1, _, _, by omega, by go_num, r5, hF5, HM.out, C5⟩
               case measure => simp [intOf]; omega)
          · obtain rfl : k = q := by omega
            obtain ⟨w6, rfl⟩ : ∃ x : World, x = wr := ⟨_, rfl⟩
            go_wp2
            go_loopw [74] (fun i wr => ∃ (T : Nat) (L : List (Option (List UInt8))), T ≤ k ∧ i = .int .i64 T ∧ RecvAt wr F w.heap.size 32 T L ∧ Mine k T k xss L ∧ Chg Pure' w wr) (fun i _ => k - (intOf i).toNat)
            case atStart => exact ⟨0, _, Nat.zero_le _, rfl, r, hM, hcw⟩
            case round =>
              clear r hM hcw
              obtain ⟨T, L, hT, rfl, r, hM, hcw⟩ := hrel
              by_cases hlt : T < k
              · first
                | (exfalso; omega)
                | (have hqq : T < xss.length := by omega
                   obtain ⟨o, L, rfl⟩ : ∃ o L', L = o :: L' := by
                     cases L with
                     | nil => have := r.len; simp at this
                     | cons o L => exact ⟨o, L, rfl⟩
                   obtain ⟨ho, hM2⟩ := mine_take hlt hqn hq32 (by have := r.len; simpa using this) hM
                   obtain ⟨b2, off2, hAe2, hcell2⟩ := hA.cells (by omega)
                   rw [hAe] at hAe2
                   obtain rfl := Option.some.inj hAe2
                   obtain ⟨A3, n3, c3, e30, hle3, hb3⟩ := hcell2 T hqq
                   have e3 := hcw.cell e30 (fun h => h)
                   have hln := hb3.len
                   have hn3 : n3 ≤ 140737488351232 := by rw [← hb3.len]; exact hx _ (List.getElem_mem hqq)
                   have HM := Lib.hid hM2
                   clear hcell2 hM2 hM
                   generalize xss[T] = xs at *
                   unfold fit at ho
                   by_cases hbig : 1200 < xs.length
                   · rw [if_pos hbig] at ho
                     subst ho
                     have i5 : (1200 : Int) < n3 := by omega
                     go_wp2_with (fail)
                     refine (take_none _ _ _ _ _ _ r (by omega)).mono ?_
                     rintro e w7 ⟨rfl, rfl⟩
                     go_wp2
                     go_ret
                     exact ⟨rfl, hcw⟩
                   · rw [if_neg hbig] at ho
                     subst ho
                     have i5 : ¬ (1200 : Int) < n3 := by omega
                     go_wp2_with (fail)
                     refine (take_some _ _ _ _ _ _ _ r (by omega)).mono ?_
                     rintro e w7 ⟨A7, n7, q7, rfl, h7, hn7, hb7, -, c7, r7⟩
                     have C7 := hcw.trans c7 fz
                     have hb3' : Bytes w7 A3 n3 xs := hb3.pure C7
                     go_wp2_with (fail)
                     refine (same_is true _ _ _ _ _ _ _ _ _ hb7 hb3' (by simp)).mono ?_
                     rintro e w8 ⟨rfl, rfl⟩
                     go_wp2
                     go_roundw
                     case rel => exact ⟨T + 1, _, by omega, by go_num, r7, HM.out, C7⟩
                     case measure => simp [intOf]; omega)
              · obtain rfl : T = k := by omega
                obtain ⟨o, L, rfl⟩ : ∃ o L', L = o :: L' := by
                  cases L with
                  | nil => have := r.len; simp at this
                  | cons o L => exact ⟨o, L, rfl⟩
                have hoo := mine_end hM
                subst hoo
                go_wp2_with (fail)
                refine (take_none _ _ _ _ _ _ r (by omega)).mono ?_
                rintro e w7 ⟨rfl, rfl⟩
                go_wp2
                go_ret
                exact ⟨rfl, hcw⟩
end Go.Proofs.Ytnkdlilccfclbaa
