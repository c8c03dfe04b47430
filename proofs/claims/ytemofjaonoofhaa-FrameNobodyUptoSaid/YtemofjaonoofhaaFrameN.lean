/- Package gantlineref03: Flush. -/
import Derived.Test.YtemofjaonoofhaaFrameM
namespace Go.Proofs.Ytemofjaonoofhaa
open Go Go.RowKit
set_option linter.unusedVariables false
set_option linter.unusedSimpArgs false

/-- The first byte of those that wait is let go. -/
theorem RStr.drop1 {w : World} {p q : Nat} {rest : List UInt8} {lost : Nat} (h : RStr w p q rest lost) (hr : 0 < rest.length) :
    ∃ b off c, w.cell? ⟨p, 0, none⟩ = some (.slice (some ⟨b, off, none⟩) rest.length c) ∧ rest.length ≤ c ∧ w.cell? ⟨p, 1, none⟩ = some (.int .i64 lost) ∧ (∀ i, w.frozen? ⟨p, i, none⟩ = false) ∧
      ∀ o' w', (o' = off + 1 ∨ (rest.length = 1)) → w' = (w.setCell ⟨p, 0, none⟩ (.slice (some ⟨b, o', none⟩) (rest.length - 1) (c - 1))).setCell ⟨p, 1, none⟩ (.int .i64 ((lost : Int) + 1)) → RStr w' p q (rest.drop 1) (lost + 1) ∧ Chg (fun k => k = p) w w' := by
  obtain ⟨A, c, h1, h2, h3, h4⟩ := h.c0
  obtain ⟨b, off, rfl, -⟩ := h3.cells hr
  obtain ⟨cs, hb⟩ := h.blk
  have hbq : b = q := h4 _ rfl
  refine ⟨b, off, c, h1, h2, h.c1, fun i => free_at hb, ?_⟩
  intro o' w' ho e
  subst e
  have c1 : Chg (fun k => k = p) w (w.setCell ⟨p, 0, none⟩ (.slice (some ⟨b, o', none⟩) (rest.length - 1) (c - 1))) := Chg.setCell (S := fun k => k = p) (Chg.refl _ w) (p := ⟨p, 0, none⟩) (.inr rfl) _
  have c2 := Chg.setCell (S := fun k => k = p) c1 (p := ⟨p, 1, none⟩) (.inr rfl) (.int .i64 ((lost : Int) + 1))
  have hb1 := heap_setCell_same w p 0 _ 41 (.slice (some ⟨b, o', none⟩) (rest.length - 1) (c - 1)) hb
  have hb2 := heap_setCell_same _ p 1 _ 41 (.int .i64 ((lost : Int) + 1)) hb1
  refine ⟨⟨h.pq, ⟨_, hb2⟩, ⟨some ⟨b, o', none⟩, c - 1, ?_, ?_, ?_, ?_⟩, ?_⟩, c2⟩
  · rw [set_far (by decide), set_at h1]; simp
  · simp; omega
  · refine Bytes.chg ?_ c2 ?_
    · rcases ho with rfl | ho
      · have := h3.part 1 rest.length (by omega) (Nat.le_refl _)
        rw [List.take_of_length_le (Nat.le_refl _)] at this
        simpa using this
      · have : rest.drop 1 = [] := by rw [List.drop_eq_nil_iff]; omega
        rw [this]
        exact Bytes.nil _ _
    · intro a ha e
      cases ha
      simp only at e
      exact h.pq (by omega)
  · intro a ha
    cases ha
    exact hbq
  · have g2 : (w.setCell ⟨p, 0, none⟩ (.slice (some ⟨b, o', none⟩) (rest.length - 1) (c - 1))).cell? ⟨p, 1, none⟩ = some (.int .i64 lost) := by rw [set_far (by decide)]; exact h.c1
    rw [set_at g2]
    simp
/-- How many bytes wait. -/
def restR (w : World) (p : Nat) : Nat := match w.cell? ⟨p, 0, none⟩ with | some (.slice _ n _) => n | _ => 0
theorem RStr.restR {w : World} {p q : Nat} {rest : List UInt8} {lost : Nat} (h : RStr w p q rest lost) : restR w p = rest.length := by
  obtain ⟨A, c, h1, -⟩ := h.c0
  unfold Proofs.Ytemofjaonoofhaa.restR
  rw [h1]
set_option maxHeartbeats 4000000 in
theorem rflush_any {w : World} {p q : Nat} {rest : List UInt8} {lost : Nat} (h : RStr w p q rest lost) (hn : rest.length * 3 + 24 ≤ 140737488351232) (hlost : lost ≤ 576460752303423488) :
    Calls Try.prog 24 #[.pointer (some ⟨p, 0, none⟩)] w fun e w' => ∃ v q', e = .returned v ∧ Loads w' w.heap.size v (flushB rest).1 ∧ RStr w' p q' [] (lost + (flushB rest).2) ∧ Chg (fun k => k = p) w w' ∧ (q' = q ∨ w.heap.size ≤ q') := by
  have hplt := h.plt
  have H := Lib.hid h
  clear h
  go_enter Try.func24, Try.ntmps24
  go_wp2_with (fail)
  go_loopw [3] (fun v wr => ∃ (r : List UInt8) (lo : Nat) (q' : Nat) (ls : List (List UInt8)), Hid (RStr wr p q' r lo ∧ Loads wr w.heap.size v ls ∧ Chg (fun k => k = p) w wr ∧ (flushB rest).1 = ls ++ (flushB r).1 ∧ lost + (flushB rest).2 = lo + (flushB r).2 ∧ sizeL ls + r.length ≤ rest.length ∧ lo + r.length ≤ lost + rest.length ∧ (q' = q ∨ w.heap.size ≤ q'))) (fun v wr => restR wr p)
  case atStart => exact ⟨rest, lost, q, [], Lib.hid ⟨H.out, Loads.nil _ _, Chg.refl _ _, rfl, rfl, by simp [sizeL], Nat.le_refl _, .inl rfl⟩⟩
  case round =>
    obtain ⟨r, lo, q', ls, HS⟩ := hrel
    have hrest := HS.out.1.restR
    have HRN := Lib.hid hrest
    clear hrest
    by_cases hr0 : r = []
    · have HR0 := Lib.hid hr0
      clear hr0
      obtain ⟨A0, c0, x0, -⟩ := HS.out.1.c0
      rw [HR0.out, List.length_nil] at x0
      go_wp2
      go_ret
      obtain ⟨h1, h2, h3, h4, h5, -, -, h8⟩ := HS.out
      rw [HR0.out] at h1 h4 h5
      rw [flush_nil] at h4 h5
      refine ⟨_, q', rfl, ?_, ?_, h3, h8⟩
      · rw [h4]; simpa using h2
      · rw [h5]; exact h1
    · have hlen : 0 < r.length := List.length_pos_iff.2 hr0
      have hfe := Lib.hid (flush_eq r hr0)
      have hpos : (0 : Int) < (r.length : Int) := by omega
      have hone : (1 : Int) ≤ (r.length : Int) := by omega
      clear hr0
      obtain ⟨b, off, c, d1, d2, d3, d4, d5⟩ := HS.out.1.drop1 hlen
      have hd41 := d4 0
      have hd42 := d4 1
      have hc1 : (1 : Int) ≤ (c : Int) := by omega
      have hlo : (lo : Int) ≤ 1152921504606846976 + 140737488351232 := by have := HS.out.2.2.2.2.2.2.1; omega
      obtain ⟨m, hm⟩ : ∃ m, r.length = m := ⟨_, rfl⟩
      have HM := Lib.hid hm
      rw [hm] at hlen hpos hone d1 d2 d5
      have D5 := Lib.hid d5
      clear d5 hm
      by_cases hc : c = 1
      case' pos =>
        have hm1 := Lib.hid (show m = 1 by omega)
        have hcT := eq_true hc
        clear hc d2
        go_wp2_with (fail)
        obtain ⟨e1, e2⟩ := D5.out off _ (.inr hm1.out) rfl
        clear hm1
      case' neg =>
        have hcT := eq_false hc
        clear hc d2
        go_wp2_with (fail)
        obtain ⟨e1, e2⟩ := D5.out (off + 1) _ (.inl rfl) rfl
      all_goals
        clear hcT d1 d3 d4 hd41 hd42 hc1 D5
        generalize World.setCell _ _ (.int .i64 ((lo : Int) + 1)) = wS at *
        have hszS : w.heap.size ≤ wS.heap.size := by have := HS.out.2.2.1.size; have := e2.size; omega
        have hL1 := HS.out.2.1.keep e2 (fun k hk e => by omega)
        have hdl : (r.drop 1).length + 1 = r.length := by rw [List.length_drop, HM.out]; omega
        have hrb : (r.drop 1).length * 3 + 24 ≤ 140737488351232 := by have := HS.out.2.2.2.2.2.1; omega
        refine (rfeed_any e1 none 0 0 [] (Bytes.nil _ _) (Nat.le_refl _) (by omega) (by have := HS.out.2.2.2.2.2.2.1; omega)).mono ?_
        rintro e w5 ⟨v5, q5, rfl, hq5, hl5, hs5, c5⟩
        rw [List.append_nil] at hl5 hs5
        obtain ⟨A5, c5', rfl, hA5⟩ := hl5.val
        have hL5 := hL1.keep c5 (fun k hk e => by omega)
        have C5 := (HS.out.2.2.1.trans' e2).trans' c5
        obtain ⟨z1, z2, -⟩ := scan_le (r.drop 1).length (r.drop 1) (Nat.le_refl _)
        have z3 := sizeL_len ls
        have z4 := sizeL_len (scan (r.drop 1)).1
        have z5 := HS.out.2.2.2.2.2.1
        have z6 := HS.out.2.2.2.2.2.2.1
        obtain ⟨v6, w6, hr6, hl6, c6⟩ := hL5.cat hl5 (by omega) (by have := C5.size; omega) (by omega)
        have hN : Hid (RStr w6 p q5 ((r.drop 1).drop (scan (r.drop 1)).2) (lo + 1 + (scan (r.drop 1)).2 - sizeL (scan (r.drop 1)).1) ∧ Loads w6 w.heap.size v6 (ls ++ (scan (r.drop 1)).1) ∧ Chg (fun k => k = p) w w6 ∧ (flushB rest).1 = (ls ++ (scan (r.drop 1)).1) ++ (flushB ((r.drop 1).drop (scan (r.drop 1)).2)).1 ∧
            lost + (flushB rest).2 = (lo + 1 + (scan (r.drop 1)).2 - sizeL (scan (r.drop 1)).1) + (flushB ((r.drop 1).drop (scan (r.drop 1)).2)).2 ∧ sizeL (ls ++ (scan (r.drop 1)).1) + ((r.drop 1).drop (scan (r.drop 1)).2).length ≤ rest.length ∧
            (lo + 1 + (scan (r.drop 1)).2 - sizeL (scan (r.drop 1)).1) + ((r.drop 1).drop (scan (r.drop 1)).2).length ≤ lost + rest.length ∧ (q5 = q ∨ w.heap.size ≤ q5)) := by
          refine Lib.hid ⟨hs5.frame c6 (fun e => by have := hL5.own e; omega) (fun e => ?_), hl6, C5.trans c6 (fun i hi e => by have := hL5.own e; omega), ?_, ?_, ?_, ?_, .inr (by omega)⟩
          · have := hL1.own e; omega
          · rw [HS.out.2.2.2.1, hfe.out, List.append_assoc]
          · rw [HS.out.2.2.2.2.1, hfe.out]
            simp only
            omega
          · rw [sizeL_append, List.length_drop]; omega
          · rw [List.length_drop]; omega
        have hmeas : ((r.drop 1).drop (scan (r.drop 1)).2).length < r.length := by rw [List.length_drop]; omega
        have HME := Lib.hid hmeas
        clear hfe
        generalize (scan (r.drop 1)).1 = ls2 at *
        generalize (scan (r.drop 1)).2 = at2 at *
        generalize r.drop 1 = rd at *
        clear hmeas hl6 c6 hL5 C5 hl5 hs5 c5 hL1 e1 e2 z1 z2 z3 z4 z5 z6
        go_wp2_with (first
          | (at_builtin; refine Lib.wpList_append_run _ rfl _ _ _ _ rfl _ _ rfl rfl _ _ hr6 ?_)
          | fail)
        clear hr6
        go_wp2
        go_roundw
        case rel => exact ⟨_, _, _, _, hN⟩
        case measure => rw [hN.out.1.restR, HRN.out]; exact HME.out
end Go.Proofs.Ytemofjaonoofhaa
