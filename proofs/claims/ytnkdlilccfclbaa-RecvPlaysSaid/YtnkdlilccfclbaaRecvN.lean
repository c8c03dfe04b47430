/- The document's receiver, going on: Ack, Data, Take, New. -/
import Derived.Test.YtnkdlilccfclbaaRecvM
namespace Go.Proofs.Ytnkdlilccfclbaa
open Go Go.RowKit
set_option linter.unusedVariables false
set_option linter.unusedSimpArgs false

set_option maxHeartbeats 1000000 in
theorem mack_any (G : Nat → Prop) (q W T : Nat) (L : List (Option (List UInt8))) (w : World) (h : MAt w G q W T L) (hT : T ≤ 4611686018427387904) :
    Calls Try.prog 19 #[.pointer (some ⟨q, 0, none⟩)] w fun e w' => e = .returned (.tuple #[.int .i64 ((T + lead L : Nat)), .int .u64 (ackTo L (lead L) W), .int .i64 ((T + W : Nat))]) ∧ Chg Pure' w w' := by
  obtain ⟨g, cap, cs, r1, r2, r3, r4, r5, r6⟩ := h.row
  have h32 := h.w32
  have hcw := h.cw
  have hct := h.ct
  have hf := fun k (hk : k < W) => h.flag r2 r6 hk
  have HF := Lib.hid hf
  have hlw : lead L ≤ W := by have := lead_le L; have := h.len; omega
  have hrd := mready_any G q W T L w h
  have H := Lib.hid h
  generalize hn : lead L = n at hlw hrd ⊢
  have HR := Lib.hid hrd
  clear h r2 r6 hf hrd hn
  go_enter Try.func19, Try.ntmps19
  go_wp2_with (fail)
  refine HR.out.mono ?_
  rintro e w' ⟨rfl, rfl⟩
  go_wp2_with (fail)
  go_loop [6, 7] (fun b i => ∃ j : Nat, n + 1 ≤ j ∧ (j ≤ W ∨ j = n + 1) ∧ i = .int .i64 j ∧ b = .int .u64 (ackTo L n j)) (fun _ i => W + 1 - (intOf i).toNat)
  case atStart => exact ⟨n + 1, Nat.le_refl _, .inr rfl, by go_num, by rw [ackTo_zero L n (n + 1) (Nat.le_refl _)]⟩
  case round =>
    obtain ⟨j, hj1, hj2, rfl, rfl⟩ := hrel
    have hj3 : j ≤ 33 := by omega
    by_cases hlt : j < W
    · have hb := HF.out j hlt
      cases hL : L.getD j none with
      | none =>
        rw [hL] at hb
        have hbits : ackTo L n (j + 1) = ackTo L n j := by rw [ackTo, if_neg (by rw [hL]; simp)]
        have HB := Lib.hid hbits
        clear hL hbits
        go_wp2
        go_round
        case rel => exact ⟨j + 1, by omega, .inl (by omega), by go_num, by rw [HB.out]⟩
        case measure => simp [intOf]; omega
      | some xs =>
        rw [hL] at hb
        have hbits : ackTo L n (j + 1) = bits .or .u64 (ackTo L n j) (2 ^ (j - n - 1)) := by rw [ackTo, if_pos ⟨by omega, by rw [hL]; rfl⟩]
        have HB := Lib.hid hbits
        clear hL hbits
        obtain ⟨d, rfl⟩ : ∃ d, j = n + 1 + d := ⟨j - n - 1, by omega⟩
        have hq : (d : Int) ≤ 31 := by omega
        go_wp2
        go_round
        case rel => exact ⟨n + 1 + d + 1, by omega, .inl (by omega), by go_num, by rw [HB.out, show n + 1 + d - n - 1 = d from by omega, u64_pow d (by omega)]⟩
        case measure => simp [intOf]; omega
    · have hbits : ackTo L n j = ackTo L n W := by
        rcases hj2 with h | h
        · rw [show j = W from by omega]
        · rcases Nat.lt_or_ge W j with h2 | h2
          · rw [ackTo_zero L n j (by omega), ackTo_zero L n W (by omega)]
          · rw [show j = W from by omega]
      have HB := Lib.hid hbits
      clear hbits
      go_wp2_with (fail)
      go_quiet (fail)
      go_wp2
      go_ret3
      exact ⟨by rw [← HB.out]; rfl, (Chg.refl _ _).drewN _⟩

theorem m_stored {G : Nat → Prop} {q W T k n c g cap : Nat} {cs : List Value} {L : List (Option (List UInt8))} {w w2 : World} {A : Option Addr} {xs : List UInt8} (h : MAt w G q W T L)
    (r1 : w.cell? ⟨q, 2, none⟩ = some (.slice (some ⟨g, 0, none⟩) W cap)) (r2 : w.ownsRow 0 61 2 (.slice (some ⟨g, 0, none⟩) W cap) W cs) (r3 : G g) (r4 : g ≠ q) (r5 : W ≤ cap)
    (r6 : ∀ j, j < W → Spot w (fun k => G k ∧ k ≠ q ∧ k ≠ g) cs j (L.getD j none)) (hk : k < W) (hc : Chg Pure' w w2) (hB : Bytes w2 A n xs) (hle : n ≤ c) (hn : n ≤ 1200) (hA : ∀ a, A = some a → w.heap.size ≤ a.block ∧ a.block < w2.heap.size) :
    Chg G w ((w2.setCell ⟨g, k * 2, none⟩ (.bool true)).setCell ⟨g, k * 2 + 1, none⟩ (.slice A n c)) ∧
    MAt ((w2.setCell ⟨g, k * 2, none⟩ (.bool true)).setCell ⟨g, k * 2 + 1, none⟩ (.slice A n c)) (Ext G w ((w2.setCell ⟨g, k * 2, none⟩ (.bool true)).setCell ⟨g, k * 2 + 1, none⟩ (.slice A n c))) q W T (L.set k (some xs)) := by
  have hq := h.lt q h.own
  have hg := h.lt g r3
  have o2 := own_keep r2 hc (fun _ _ h => h)
  obtain ⟨o3, -⟩ := o2.stored (k * 2) (.bool true)
  obtain ⟨o4, -⟩ := o3.stored (k * 2 + 1) (.slice A n c)
  have k1 : Chg (fun i => i = g) w2 (w2.setCell ⟨g, k * 2, none⟩ (.bool true)) := Chg.setCell (S := fun i => i = g) (Chg.refl _ w2) (p := ⟨g, k * 2, none⟩) (.inr rfl) _
  have k2 : Chg (fun i => i = g) w2 ((w2.setCell ⟨g, k * 2, none⟩ (.bool true)).setCell ⟨g, k * 2 + 1, none⟩ (.slice A n c)) := Chg.setCell (S := fun i => i = g) k1 (p := ⟨g, k * 2 + 1, none⟩) (.inr rfl) _
  generalize (w2.setCell ⟨g, k * 2, none⟩ (.bool true)).setCell ⟨g, k * 2 + 1, none⟩ (.slice A n c) = w3 at *
  have kk : Chg (fun i => i = g) w w3 := (hc.of_pure).trans' k2
  have kG : Chg G w w3 := kk.mono (fun i _ e => by rw [e]; exact r3)
  have hql : q ≠ g := fun e => r4 e.symm
  obtain ⟨c0, hb0, hs0⟩ := h.blk
  have hcl : cs.length = W * 2 := r2.1
  refine ⟨kG, .inl h.own, fun i hi => hi.elim (fun f => Nat.lt_of_lt_of_le (h.lt i f) kG.size) (fun f => f.2), h.w1, h.w32, by simpa using h.len, ⟨c0, (kk.block q hq hql).trans hb0, hs0⟩, kk.cell h.cw hql, kk.cell h.ct hql,
    ⟨g, cap, _, kk.cell r1 hql, o4, .inl r3, r4, r5, fun j hj => ?_⟩⟩
  by_cases hjk : j = k
  · subst hjk
    rw [List.getD_eq_getElem?_getD, List.getElem?_set_self (by rw [h.len]; exact hk)]
    refine ⟨?_, A, n, c, ?_, hle, hn, hB.chg k2 (fun a ha e => ?_), fun a ha => ⟨.inr ⟨(hA a ha).1, Nat.lt_of_lt_of_le (hA a ha).2 k2.size⟩, ?_, ?_⟩⟩
    · rw [List.getElem?_set_ne (by omega), List.getElem?_set_self (by omega)]
    · rw [List.getElem?_set_self (by simp; omega)]
    · have := (hA a ha).1; omega
    · have := (hA a ha).1; omega
    · have := (hA a ha).1; omega
  · rw [List.getD_eq_getElem?_getD, List.getElem?_set_ne (by omega), ← List.getD_eq_getElem?_getD]
    exact (r6 j hj).frame kk (fun i hi => hi.2.2) (fun i hi => ⟨.inl hi.1, hi.2⟩) (by rw [List.getElem?_set_ne (by omega), List.getElem?_set_ne (by omega)]) (by rw [List.getElem?_set_ne (by omega), List.getElem?_set_ne (by omega)])
theorem MAt.ext {w' : World} {G : Nat → Prop} {q W T : Nat} {L : List (Option (List UInt8))} (h : MAt w' G q W T L) (w0 : World) : MAt w' (Ext G w0 w') q W T L :=
  h.mono (fun _ h => .inl h) (fun k hk => hk.elim (h.lt k) (fun h => h.2))

set_option maxHeartbeats 1000000 in
theorem mdata_any (G : Nat → Prop) (q W T : Nat) (L : List (Option (List UInt8))) (s : Int) (A : Option Addr) (n c : Nat) (xs : List UInt8) (w : World) (h : MAt w G q W T L) (hT : T ≤ 4611686018427387904)
    (hs : -9223372036854775808 ≤ s ∧ s ≤ 9223372036854775807) (hA : Bytes w A n xs) (hn : n ≤ 140737488351232) :
    Calls Try.prog 18 #[.pointer (some ⟨q, 0, none⟩), .int .i64 s, .slice A n c] w fun e w' =>
      e = .returned (.int .i64 (dataR W T L s xs).1) ∧ Chg G w w' ∧ MAt w' (Ext G w w') q W T (dataR W T L s xs).2 := by
  obtain ⟨g, cap, cs, r1, r2, r3, r4, r5, r6⟩ := h.row
  have hcw := h.cw
  have hct := h.ct
  have h32 := h.w32
  have hln := hA.len
  have H := Lib.hid h
  have HR2 := Lib.hid r2
  have HR6 := Lib.hid r6
  by_cases c1 : s < 1
  · have hR : dataR W T L s xs = (1, L) := by unfold dataR; rw [if_pos c1]
    rw [hR]; clear hR h r2 r6
    go_enter Try.func18, Try.ntmps18
    go_wp2
    go_ret
    exact ⟨rfl, Chg.refl _ _, H.out.ext _⟩
  by_cases c2 : 1200 < xs.length
  · have hR : dataR W T L s xs = (8, L) := by unfold dataR; rw [if_neg c1, if_pos c2]
    rw [hR]; clear hR h r2 r6
    have c2' : 1200 < (n : Int) := by omega
    clear hln
    go_enter Try.func18, Try.ntmps18
    go_wp2
    go_ret
    exact ⟨rfl, Chg.refl _ _, H.out.ext _⟩
  by_cases c3 : s ≤ T
  · have hR : dataR W T L s xs = (17, L) := by unfold dataR; rw [if_neg c1, if_neg c2, if_pos c3]
    rw [hR]; clear hR h r2 r6
    have c2' : (n : Int) ≤ 1200 := by omega
    clear hln c2
    go_enter Try.func18, Try.ntmps18
    go_wp2
    go_ret
    exact ⟨rfl, Chg.refl _ _, H.out.ext _⟩
  have e1 : IntKind.i64.wrap (s - (T : Int)) = s - (T : Int) := by rw [IntKind.wrap_i64]; omega
  by_cases c4 : (W : Int) < s - T
  · have hR : dataR W T L s xs = (13, L) := by unfold dataR; rw [if_neg c1, if_neg c2, if_neg c3, if_pos c4]
    rw [hR]; clear hR h r2 r6
    have c2' : (n : Int) ≤ 1200 := by omega
    have c4' : (W : Int) ≤ s - T - 1 := by omega
    clear hln c2
    go_enter Try.func18, Try.ntmps18
    go_wp2
    go_ret
    exact ⟨rfl, Chg.refl _ _, H.out.ext _⟩
  obtain ⟨k, rfl⟩ : ∃ k : Nat, s = ((T + 1 + k : Nat) : Int) := ⟨(s - T - 1).toNat, by omega⟩
  have hk : k < W := by omega
  have hR : dataR W T L ((T + 1 + k : Nat) : Int) xs = if (L.getD k none).isSome then (17, L) else (0, L.set k (some xs)) := by
    unfold dataR
    rw [if_neg c1, if_neg c2, if_neg c3, if_neg c4, show ((T + 1 + k : Nat) : Int).toNat - T - 1 = k from by omega]
  have hb := h.flag r2 r6 hk
  have e2 : ((T + 1 + k : Nat) : Int) - (T : Int) = (k : Int) + 1 := by omega
  have c2' : (n : Int) ≤ 1200 := by omega
  have hkk : (k : Int) < (W : Int) := by omega
  generalize ((T + 1 + k : Nat) : Int) = s at hR c1 c3 c4 hs e1 e2 ⊢
  cases hL : L.getD k none with
  | some ys =>
    rw [hL] at hb hR
    rw [hR, Option.isSome_some, if_pos rfl]
    clear hR hL hln c2 h r2 r6
    go_enter Try.func18, Try.ntmps18
    go_wp2
    go_ret
    exact ⟨rfl, Chg.refl _ _, H.out.ext _⟩
  | none =>
    rw [hL] at hb hR
    rw [hR, if_neg (by simp)]
    have c1' : Chg Pure' w w.drew := (Chg.refl _ w).drew
    have hA1 := hA.pure c1'
    have ho := World.ownsRow_nil (base := w.drew.heap.size) (e := 5) (size := 1) w.drew
    obtain ⟨v4, w4, hr4, ho4, hg4, -⟩ := app_own (P := Try.prog) w.drew w.drew.heap.size 29 29 5 Try.underlying29 infoU8 rfl (by decide) _ _ _ ho A n c (enc xs) hA1.row (by rw [enc_length, hln, Nat.mul_one]) (enc_one _) (by decide) (by omega) (Nat.le_refl _)
    have C4 : Chg Pure' w.drew w4 := (Chg.refl _ _).grown hg4 (fun k hk => by cases hk)
    rw [List.nil_append, Nat.zero_add] at ho4
    have hlt4 := ho4.lt
    obtain ⟨A4, q4, rfl, hq4, hb4, -⟩ := Bytes.of_own ho4
    have hA4 : ∀ a, A4 = some a → w.heap.size ≤ a.block ∧ a.block < w4.heap.size := fun a ha => by subst ha; exact hlt4 a.block rfl
    have HS := Lib.hid (m_stored h r1 r2 r3 r4 r5 r6 hk (c1'.pure C4) hb4 hq4 (by omega) hA4)
    have r1d : w.drew.cell? ⟨q, 2, none⟩ = some (.slice (some ⟨g, 0, none⟩) W cap) := r1
    have r2' := own_keep r2 (c1'.pure C4) (fun _ _ h => h)
    have fr0 := r2'.frozenAt (k * 2)
    have fr1 := r2'.frozenAt (k * 2 + 1)
    have d0 := r2'.cellAt (k * 2) (by omega)
    have d1 := r2'.cellAt (k * 2 + 1) (by omega)
    have h6 := r6 k hk
    rw [hL] at h6
    rw [h6.1] at d0
    rw [h6.2] at d1
    clear hR hL hln c2 h r2 r6 ho hA1 ho4 hg4 hlt4 hA4 h6 hb4
    go_enter Try.func18, Try.ntmps18
    go_wp2_with (fail)
    refine reg_begin (fun i => i = g) (by kernel_rfl) ?_
    refine reg_take 0 (v := ?_) rfl (by kernel_rfl) (by kernel_rfl) (by kernel_rfl) (fun _ _ _ h => h) (by kernel_rfl) ?_ ?_
    rotate_left
    · (intro w' hS; go_simp; (try go_bits); (try with_reducible rfl))
    try simp only [Act.put, List.setIfInBounds_toArray, List.set_cons_zero, List.set_cons_succ]
    refine reg_take 1 (v := ?_) rfl (by kernel_rfl) (by kernel_rfl) (by kernel_rfl) (fun _ _ _ h => h) (by kernel_rfl) ?_ ?_
    rotate_left
    · (intro w' hS; go_simp; (try go_bits); (try with_reducible rfl))
    try simp only [Act.put, List.setIfInBounds_toArray, List.set_cons_zero, List.set_cons_succ]
    refine reg_take 2 (v := ?_) rfl (by kernel_rfl) (by kernel_rfl) (by kernel_rfl) (fun _ _ _ h => h) (by kernel_rfl) ?_ ?_
    rotate_left
    · (intro w' hS; go_simp; (try go_bits); (try with_reducible rfl))
    try simp only [Act.put, List.setIfInBounds_toArray, List.set_cons_zero, List.set_cons_succ]
    refine reg_take 3 (v := ?_) rfl (by kernel_rfl) (by kernel_rfl) (by kernel_rfl) (fun _ _ _ h => h) (by kernel_rfl) ?_ ?_
    rotate_left
    · (intro w' hS; have hz := hS.cell r1d (fun e => r4 e.symm); go_simp; (try go_bits); (try with_reducible rfl))
    try simp only [Act.put, List.setIfInBounds_toArray, List.set_cons_zero, List.set_cons_succ]
    refine reg_take 4 (v := ?_) rfl (by kernel_rfl) (by kernel_rfl) (by kernel_rfl) (fun _ _ _ h => h) (by kernel_rfl) ?_ ?_
    rotate_left
    · (intro w' hS; go_simp; (try go_bits); (try with_reducible rfl))
    try simp only [Act.put, List.setIfInBounds_toArray, List.set_cons_zero, List.set_cons_succ]
    refine reg_take 5 (v := ?_) rfl (by kernel_rfl) (by kernel_rfl) (by kernel_rfl) (fun _ _ _ h => h) (by kernel_rfl) ?_ ?_
    rotate_left
    · (intro w' hS; go_simp; (try go_bits); (try with_reducible rfl))
    try simp only [Act.put, List.setIfInBounds_toArray, List.set_cons_zero, List.set_cons_succ]
    refine reg_do 6 rfl (by kernel_rfl) (by kernel_rfl) ?_
    intro K hK
    refine Lib.wp_append_run _ _ _ _ _ rfl _ _ rfl rfl _ _ hr4 ?_
    refine hK _ _ (C4.mono (fun _ _ h => absurd h (fun h => h))) ?_
    clear hK K
    try simp only [Act.put, List.setIfInBounds_toArray, List.set_cons_zero, List.set_cons_succ]
    refine reg_take 7 (v := ?_) rfl (by kernel_rfl) (by kernel_rfl) (by kernel_rfl) (fun _ _ _ h => h) (by kernel_rfl) ?_ ?_
    rotate_left
    · (intro w' hS; go_simp; (try go_bits); (try with_reducible rfl))
    try simp only [Act.put, List.setIfInBounds_toArray, List.set_cons_zero, List.set_cons_succ]
    refine reg_take 8 (v := ?_) rfl (by kernel_rfl) (by kernel_rfl) (by kernel_rfl) (fun _ _ _ h => h) (by kernel_rfl) ?_ ?_
    rotate_left
    · (intro w' hS; go_simp; (try go_bits); (try with_reducible rfl))
    try simp only [Act.put, List.setIfInBounds_toArray, List.set_cons_zero, List.set_cons_succ]
    refine reg_do 9 rfl (by kernel_rfl) (by kernel_rfl) ?_
    intro K hK
    go_simp
    refine hK _ _ (Chg.setCell (S := fun i => i = g) (Chg.setCell (S := fun i => i = g) (Chg.refl _ w4) (p := ⟨g, k * 2, none⟩) (.inr rfl) _) (p := ⟨g, k * 2 + 1, none⟩) (.inr rfl) _) ?_
    clear hK K
    try simp only [Act.put, List.setIfInBounds_toArray, List.set_cons_zero, List.set_cons_succ]
    refine wpAnyH_done (by kernel_rfl) ?_ _
    go_wp2
    go_ret
    exact ⟨rfl, HS.out.1, HS.out.2⟩

end Go.Proofs.Ytnkdlilccfclbaa
