/- Package sess, going on: the walk of Tick. -/
import Derived.Test.YtpfnphkgmjgmeaaSessD
namespace Go.Proofs.Ytpfnphkgmjgmeaa
open Go Go.RowKit
set_option linter.unusedVariables false
set_option linter.unusedSimpArgs false

theorem Chg.undrew {S : Nat → Prop} {a c : World} (h : Chg S a c) : Chg S a.drew c := ⟨h.os, h.tape, h.output, h.size, h.block⟩
set_option maxHeartbeats 4000000 in
theorem tick_of {w : World} {p ub : Nat} {bs : List Nat} {v : Value} {T : Tb} {cnt : Nat} (h : TabOf w p ub bs v T cnt) (now : Int) :
    Calls Try.prog 22 #[.pointer (some ⟨p, 0, none⟩), .int .i64 now] w fun e w' => ∃ ve, e = .returned ve ∧ w'.ownsRow w.heap.size 29 1 ve (tickE T now).length ((tickE T now).map u64v) ∧ Chg (TFoot p ub bs v) w w' ∧
      ∃ bs' v', TabOf w' p ub bs' v' (tickT T now) cnt ∧ ∀ k, TFoot p ub bs' v' k → TFoot p ub bs v k := by
  have ca : Chg Pure' w (w.alloc (.cells #[.pointer (some ⟨p, 0, none⟩)] 23)) := (Chg.refl _ w).alloc _
  have htp : (w.alloc (.cells #[.pointer (some ⟨p, 0, none⟩)] 23)).cell? ⟨w.heap.size, 0, none⟩ = some (.pointer (some ⟨p, 0, none⟩)) := by rw [cellAt_alloc_lit]; rfl
  have hsz : (w.alloc (.cells #[.pointer (some ⟨p, 0, none⟩)] 23)).heap.size = w.heap.size + 1 := by simp
  have H1 := Lib.hid (h.pure ca)
  have hFl := Lib.hid (fun k (hk : TFoot p ub bs v k) => h.flt hk)
  have hmf : ∀ (fn : Fn) (first cap : Array Value) (w : World), (Instr.makeFunc fn first cap).run Try.prog w = .ok (.func fn first cap) w := fun _ _ _ _ => rfl
  have hpw := h.plt
  have hn0 := h.n0
  clear h
  go_enter Try.func22, Try.ntmps22
  go_wp2_with (fail)
  generalize w.alloc (.cells #[.pointer (some ⟨p, 0, none⟩)] 23) = w1 at *
  refine (tok_any H1.out).mono ?_
  rintro e w' ⟨rfl, rfl⟩
  have c2 := H1.out.c2
  have hfp : w1.frozen? ⟨p, 2, none⟩ = false := by obtain ⟨cs, b1, _⟩ := H1.out.blk; exact free_at b1
  by_cases hmx : now ≤ 1099511627776
  case' pos =>
    go_wp2_with (fail)
    refine reg_begin (fun k => k = p) (by kernel_rfl) ?_
    refine reg_take 0 (v := ?_) rfl (by kernel_rfl) (by kernel_rfl) (by kernel_rfl) (fun _ _ _ h => h) (by kernel_rfl) ?_ ?_
    rotate_left
    · (intro w' hS; have hz := hS.cell (w := w1.drew) htp (fun h => by simp only at h; omega); go_simp; (try go_bits); (try with_reducible rfl))
    try simp only [Act.put, List.getElem_toArray, List.getElem_cons_zero, List.getElem_cons_succ, List.setIfInBounds_toArray, List.set_cons_zero, List.set_cons_succ]
    refine reg_take 1 (v := ?_) rfl (by kernel_rfl) (by kernel_rfl) (by kernel_rfl) (fun _ _ _ h => h) (by kernel_rfl) ?_ ?_
    rotate_left
    · (intro w' hS; have hz := hS.cell (w := w1.drew) htp (fun h => by simp only at h; omega); go_simp; (try go_bits); (try with_reducible rfl))
    try simp only [Act.put, List.getElem_toArray, List.getElem_cons_zero, List.getElem_cons_succ, List.setIfInBounds_toArray, List.set_cons_zero, List.set_cons_succ]
    refine reg_take 2 (v := ?_) rfl (by kernel_rfl) (by kernel_rfl) (by kernel_rfl) (fun _ _ _ h => h) (by kernel_rfl) ?_ ?_
    rotate_left
    · (intro w' hS; go_simp; (try go_bits); (try with_reducible rfl))
    try simp only [Act.put, List.getElem_toArray, List.getElem_cons_zero, List.getElem_cons_succ, List.setIfInBounds_toArray, List.set_cons_zero, List.set_cons_succ]
    refine reg_take 3 (v := ?_) rfl (by kernel_rfl) (by kernel_rfl) (by kernel_rfl) (fun _ _ _ h => h) (by kernel_rfl) ?_ ?_
    rotate_left
    · (intro w' hS; go_simp; (try go_bits); (try with_reducible rfl))
    try simp only [Act.put, List.getElem_toArray, List.getElem_cons_zero, List.getElem_cons_succ, List.setIfInBounds_toArray, List.set_cons_zero, List.set_cons_succ]
    refine reg_take 5 (v := ?_) rfl (by kernel_rfl) (by kernel_rfl) (by kernel_rfl) (fun _ _ _ h => h) (by kernel_rfl) ?_ ?_
    rotate_left
    · (intro w' hS; go_simp; (try go_bits); (try with_reducible rfl))
    try simp only [Act.put, List.getElem_toArray, List.getElem_cons_zero, List.getElem_cons_succ, List.setIfInBounds_toArray, List.set_cons_zero, List.set_cons_succ]
    have c2d : w1.drew.cell? ⟨p, 2, none⟩ = some (.int .i64 T.now) := c2
    have hfd : w1.drew.frozen? ⟨p, 2, none⟩ = false := hfp
    refine reg_do 4 rfl (by kernel_rfl) (by kernel_rfl) ?_
    intro K hK
    go_simp
    refine hK _ _ (Chg.refl _ _) ?_
    clear hK K
    try simp only [Act.put, List.getElem_toArray, List.getElem_cons_zero, List.getElem_cons_succ, List.setIfInBounds_toArray, List.set_cons_zero, List.set_cons_succ]
    refine reg_take 6 (v := ?_) rfl (by kernel_rfl) (by kernel_rfl) (by kernel_rfl) (fun _ _ _ h => h) (by kernel_rfl) ?_ ?_
    rotate_left
    · (intro w' hS; go_simp; (try go_bits); (try with_reducible rfl))
    try simp only [Act.put, List.getElem_toArray, List.getElem_cons_zero, List.getElem_cons_succ, List.setIfInBounds_toArray, List.set_cons_zero, List.set_cons_succ]
    refine reg_take 7 (v := ?_) rfl (by kernel_rfl) (by kernel_rfl) (by kernel_rfl) (fun _ _ _ h => h) (by kernel_rfl) ?_ ?_
    rotate_left
    · (intro w' hS; go_simp; (try go_bits); (try with_reducible rfl))
    try simp only [Act.put, List.getElem_toArray, List.getElem_cons_zero, List.getElem_cons_succ, List.setIfInBounds_toArray, List.set_cons_zero, List.set_cons_succ]
    refine reg_take 8 (v := ?_) rfl (by kernel_rfl) (by kernel_rfl) (by kernel_rfl) (fun _ _ _ h => h) (by kernel_rfl) ?_ ?_
    rotate_left
    · (intro w' hS; go_simp; (try go_bits); (try with_reducible rfl))
    try simp only [Act.put, List.getElem_toArray, List.getElem_cons_zero, List.getElem_cons_succ, List.setIfInBounds_toArray, List.set_cons_zero, List.set_cons_succ]
    refine reg_do 9 rfl (by kernel_rfl) (by kernel_rfl) ?_
    intro K hK
    go_simp
    refine hK _ _ (Chg.drew (Chg.undrew (Chg.setCell (S := fun k => k = p) (Chg.refl _ w1) (p := ⟨p, 2, none⟩) (.inr rfl) _))) ?_
    clear hK K
    try simp only [Act.put, List.getElem_toArray, List.getElem_cons_zero, List.getElem_cons_succ, List.setIfInBounds_toArray, List.set_cons_zero, List.set_cons_succ]
    refine wpAnyH_done (by kernel_rfl) ?_ _
    have hnow : (if T.now < now then now else T.now) = tickNow T now := by
      unfold tickNow; rw [if_pos hmx]; split <;> omega
    have HTN := Lib.hid hnow
    rw [hnow]
    obtain ⟨H5, c5⟩ := H1.out.now (tickNow T now) (by rw [← hnow]; split <;> omega) rfl
    have H5 := Lib.hid (H5.pure (Chg.refl _ _).drew)
    have c5 := c5.drew
    generalize (w1.setCell ⟨p, 2, none⟩ (.int .i64 (tickNow T now))).drew = w5 at *
    clear hnow c2d hfd hfp c2
    go_wp2_with (fail)
  case' neg =>
    have hnow : T.now = tickNow T now := by unfold tickNow; rw [if_neg hmx]
    have H5 : Hid (TabOf w1 p ub bs v { T with now := tickNow T now } cnt) := by rw [← hnow]; exact H1
    clear hnow c2 hfp
    generalize hw5 : w1 = w5 at H5
    have c5 : Chg (fun k => k = p) w1 w5 := by rw [← hw5]; exact Chg.refl _ _
    clear hw5
    go_wp2_with (fail)
  all_goals
    have htp5 := c5.cell htp (fun e => by simp only at e; omega)
    have hs5 := c5.size
    have c6 : Chg Pure' w5 (w5.alloc (.cells #[.slice none 0 0] 22)) := (Chg.refl _ w5).alloc _
    have htp6 := c6.cell htp5 (fun h => h)
    have hs6 : w5.heap.size < (w5.alloc (.cells #[.slice none 0 0] 22)).heap.size := by simp
    have E6 : EndAt (w5.alloc (.cells #[.slice none 0 0] 22)) w5.heap.size w5.heap.size [] := ⟨Nat.le_refl _, _, heap_alloc_new w5 _, World.ownsRow_nil _ _ _ _⟩
    have H6 := Lib.hid (H5.out.pure c6)
    have cw6 := (ca.of_pure.trans' c5).pure c6
    have hFB : ∀ k, TFoot p ub bs v k → k < w5.heap.size := fun k hk => by have := hFl.out k hk; omega
    have hwB : w.heap.size < w5.heap.size := by omega
    generalize (w5.alloc (.cells #[.slice none 0 0] 22)) = w6 at *
    generalize w5.heap.size = B at *
    have HFB := Lib.hid hFB
    have HDT := Lib.hid (del_tick (H6.out.pure (Chg.refl _ _).drew) w.heap.size B B htp6 hwB (fun e => by have := hFl.out _ e; omega) hFB (E6.frame (Chg.refl Pure' _).drew (fun _ _ _ h => h)) (by show B ≤ w6.heap.size; omega))
    have c3d : w6.drew.cell? ⟨p, 3, none⟩ = some v := H6.out.c3
    clear htp5 hs5 c6 E6 H5 c5 htp hsz H1 ca hFB
    refine reg_begin (fun k => B ≤ k ∨ v.ownBlock = some k ∨ k = p) (by kernel_rfl) ?_
    refine reg_take 0 (v := ?_) rfl (by kernel_rfl) (by kernel_rfl) (by kernel_rfl) (fun _ _ _ h => h) (by kernel_rfl) ?_ ?_
    rotate_left
    · (intro w' hS; have hz := hS.cell (w := w6.drew) htp6 (fun e => by simp only at e; rcases e with e | e | e; omega; exact absurd (hFl.out _ (.inr (.inr (.inr e)))) (Nat.lt_irrefl _); omega); go_simp; (try go_bits); (try with_reducible rfl))
    try simp only [Act.put, List.getElem_toArray, List.getElem_cons_zero, List.getElem_cons_succ, List.setIfInBounds_toArray, List.set_cons_zero, List.set_cons_succ]
    refine reg_take 1 (v := ?_) rfl (by kernel_rfl) (by kernel_rfl) (by kernel_rfl) (fun _ _ _ h => h) (by kernel_rfl) ?_ ?_
    rotate_left
    · (intro w' hS; have hz := hS.cell (w := w6.drew) htp6 (fun e => by simp only at e; rcases e with e | e | e; omega; exact absurd (hFl.out _ (.inr (.inr (.inr e)))) (Nat.lt_irrefl _); omega); go_simp; (try go_bits); (try with_reducible rfl))
    try simp only [Act.put, List.getElem_toArray, List.getElem_cons_zero, List.getElem_cons_succ, List.setIfInBounds_toArray, List.set_cons_zero, List.set_cons_succ]
    refine reg_take 2 (v := ?_) rfl (by kernel_rfl) (by kernel_rfl) (by kernel_rfl) (fun _ _ _ h => h) (by kernel_rfl) ?_ ?_
    rotate_left
    · (intro w' hS; go_simp; (try go_bits); (try with_reducible rfl))
    try simp only [Act.put, List.getElem_toArray, List.getElem_cons_zero, List.getElem_cons_succ, List.setIfInBounds_toArray, List.set_cons_zero, List.set_cons_succ]
    refine reg_take 3 (v := ?_) rfl (by kernel_rfl) (by kernel_rfl) (by kernel_rfl) (fun _ _ _ h => h) (by kernel_rfl) ?_ ?_
    rotate_left
    · (intro w' hS; go_simp; (try go_bits); (try with_reducible rfl))
    try simp only [Act.put, List.getElem_toArray, List.getElem_cons_zero, List.getElem_cons_succ, List.setIfInBounds_toArray, List.set_cons_zero, List.set_cons_succ]
    refine reg_take 5 (v := ?_) rfl (by kernel_rfl) (by kernel_rfl) (by kernel_rfl) (fun _ _ _ h => h) (by kernel_rfl) ?_ ?_
    rotate_left
    · (intro w' hS; go_simp; (try go_bits); (try with_reducible rfl))
    try simp only [Act.put, List.getElem_toArray, List.getElem_cons_zero, List.getElem_cons_succ, List.setIfInBounds_toArray, List.set_cons_zero, List.set_cons_succ]
    refine reg_do 4 rfl (by kernel_rfl) (by kernel_rfl) ?_
    intro K hK
    go_simp
    refine hK _ _ (Chg.refl _ _) ?_
    clear hK K
    try simp only [Act.put, List.getElem_toArray, List.getElem_cons_zero, List.getElem_cons_succ, List.setIfInBounds_toArray, List.set_cons_zero, List.set_cons_succ]
    refine reg_do 6 rfl (by kernel_rfl) (by kernel_rfl) ?_
    intro K hK
    go_simp
    refine HDT.out.mono ?_
    rintro e w7 ⟨c7, v7, rfl, hr7, hv7, e7⟩
    obtain ⟨B7, q7, rfl, -, -, -⟩ := own_slice hr7
    go_simp
    refine hK _ _ (c7.mono (fun k _ h => h.elim .inl (fun h => .inr (.inl h)))) ?_
    clear hK K
    try simp only [Act.put, List.getElem_toArray, List.getElem_cons_zero, List.getElem_cons_succ, List.setIfInBounds_toArray, List.set_cons_zero, List.set_cons_succ]
    refine reg_take 7 (v := ?_) rfl (by kernel_rfl) (by kernel_rfl) (by kernel_rfl) (fun _ _ _ h => h) (by kernel_rfl) ?_ ?_
    rotate_left
    · (intro w' hS; go_simp; (try go_bits); (try with_reducible rfl))
    try simp only [Act.put, List.getElem_toArray, List.getElem_cons_zero, List.getElem_cons_succ, List.setIfInBounds_toArray, List.set_cons_zero, List.set_cons_succ]
    refine reg_take 8 (v := ?_) rfl (by kernel_rfl) (by kernel_rfl) (by kernel_rfl) (fun _ _ _ h => h) (by kernel_rfl) ?_ ?_
    rotate_left
    · (intro w' hS; go_simp; (try go_bits); (try with_reducible rfl))
    try simp only [Act.put, List.getElem_toArray, List.getElem_cons_zero, List.getElem_cons_succ, List.setIfInBounds_toArray, List.set_cons_zero, List.set_cons_succ]
    have hnp : ¬ (B ≤ p ∨ v.ownBlock = some p) := fun e => e.elim (fun e => by omega) (fun e => H6.out.vp e)
    have c37 := c7.cell c3d hnp
    have hf7 : w7.frozen? ⟨p, 3, none⟩ = false := (c7.frozen c3d hnp).trans (by obtain ⟨cs, b1, _⟩ := H6.out.blk; exact free_at b1)
    obtain ⟨H8, c8⟩ := (H6.out.pure (Chg.refl _ _).drew).ticked c7 (fun k hk hv e => e.elim (fun e => by have := HFB.out k hk; omega) (fun e => hv e)) hr7 hv7 rfl
    have e8 := e7.frame c8 (fun k hk _ e => by have e : k = p := e; omega)
    have C8 := ((cw6.drew.mono (fun k _ e => show TFoot p ub bs v k from .inl e)).trans c7 (fun i hi e => e.elim (fun e => by omega) (fun e => .inr (.inr (.inr e))))).trans c8 (fun i hi e => .inl e)
    rw [show (({ T with now := tickNow T now } : Tb)).L = T.L from rfl, show (({ T with now := tickNow T now } : Tb)).now = tickNow T now from rfl, show (({ T with now := tickNow T now } : Tb)).idle = T.idle from rfl] at e8 H8
    rw [pairs_goes bs T.L H6.out.len] at e8
    obtain ⟨-, ve, g1, g2⟩ := e8
    have gc : (w7.setCell ⟨p, 3, none⟩ (.slice B7 ((pairs bs T.L).filter (stays (tickNow T now) T.idle)).length q7)).cell? ⟨B, 0, none⟩ = some ve := by rw [cell_of_row _ B 0 _ _ _ g1]; rfl
    have H8 := Lib.hid H8
    clear hr7 e7 g1 htp6 c3d H6 HDT cw6
    refine reg_do 9 rfl (by kernel_rfl) (by kernel_rfl) ?_
    intro K hK
    go_simp
    refine hK _ _ (Chg.setCell (S := fun k => B ≤ k ∨ v.ownBlock = some k ∨ k = p) (Chg.refl _ w7) (p := ⟨p, 3, none⟩) (.inr (.inr (.inr rfl))) _) ?_
    clear hK K
    try simp only [Act.put, List.getElem_toArray, List.getElem_cons_zero, List.getElem_cons_succ, List.setIfInBounds_toArray, List.set_cons_zero, List.set_cons_succ]
    refine wpAnyH_done (by kernel_rfl) ?_ _
    go_wp2
    go_ret
    refine ⟨_, rfl, g2.low (by omega), C8, _, _, H8.out, ?_⟩
    rintro k (rfl | rfl | hk | hk)
    · exact .inl rfl
    · exact .inr (.inl rfl)
    · obtain ⟨z, hz, rfl⟩ := List.mem_map.1 hk
      exact .inr (.inr (.inl (List.of_mem_zip (List.mem_filter.1 hz).1).1))
    · exact .inr (.inr (.inr (hv7 _ hk)))
end Go.Proofs.Ytpfnphkgmjgmeaa
