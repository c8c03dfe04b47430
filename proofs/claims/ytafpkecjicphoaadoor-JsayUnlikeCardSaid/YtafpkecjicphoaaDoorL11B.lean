/- Chapter 11: JsayUnlike. -/
import Derived.Test.YtafpkecjicphoaaDoorL11
import Derived.Test.YtafpkecjicphoaaDoorJbackM
import Derived.Test.YtafpkecjicphoaaDoorR08S
namespace Go.Proofs.YtafpkecjicphoaaDoor
open Go Go.RowKit
set_option linter.unusedVariables false
set_option linter.unusedSimpArgs false
set_option maxRecDepth 100000

theorem print_ok {t : Tn} (h : (printA t).2 = 0) : checkT t = 0 ∧ toldT t = true ∧ (sayT t).length ≤ 4096 ∧ (printA t).1 = sayT t := by
  unfold printA at h ⊢
  by_cases h0 : checkT t = 0
  · rw [if_neg (by simp [h0])] at h ⊢
    by_cases h1 : toldT t = false
    · rw [if_pos h1] at h; exact absurd h (by decide)
    · rw [if_neg h1] at h ⊢
      by_cases h2 : 4096 < (sayT t).length
      · rw [if_pos h2] at h; exact absurd h (by decide)
      · rw [if_neg h2]
        exact ⟨h0, by simpa using h1, by omega, rfl⟩
  · rw [if_pos h0] at h
    exact absurd h h0
theorem unlike_law {a b : Tn} (ha : (printA a).2 = 0) (hb : (printA b).2 = 0) : decide ((printA a).1 = (printA b).1) = sameA a b := by
  obtain ⟨a1, a2, a3, a4⟩ := print_ok ha
  obtain ⟨b1, b2, b3, b4⟩ := print_ok hb
  rw [a4, b4]
  unfold sameA
  rw [decide_eq_true (check_zero a1).1, decide_eq_true (check_zero b1).1, Bool.true_and, Bool.true_and, Bool.eq_iff_iff, decide_eq_true_eq, sameT_eq]
  exact ⟨fun h => say_inj a1 a2 a3 b1 b2 h, fun h => by rw [h]⟩
set_option maxHeartbeats 4000000 in
theorem law_JsayUnlike (ca : Array Value) (a : Tn) (cb : Array Value) (b : Tn) (w : World) (ha : NodeAt w ca a) (hb : NodeAt w cb b) (he : Env w) :
    Calls Tryd.prog 3 #[.agg ca, .agg cb] w fun e w' => e = .returned (.bool true) ∧ Chg Pure' w w' := by
  have hul := @unlike_law a b
  have P1 := Lib.hid (fun W h => print_of ca a W (ha.pure (w' := W) h) (he.pure h))
  have P2 := Lib.hid (fun W h => print_of cb b W (hb.pure (w' := W) h) (he.pure h))
  have AL := Lib.hid (fun W h => alive11 W (he.pure (w' := W) h))
  have SM := Lib.hid (fun W h => rSame_of a b ca cb W ha hb (show Chg Pure' w W from h))
  obtain ⟨Ab, cb1, Ak, ck, Ai, ci, rfl, -⟩ := ha.out
  obtain ⟨Bb, db, Bk, dk, Bi, di, rfl, -⟩ := hb.out
  obtain ⟨w2, hw2⟩ : ∃ w2, (w.alloc (.cells (nodeCells a Ab cb1 Ak ck Ai ci) 26)).alloc (.cells (nodeCells b Bb db Bk dk Bi di) 26) = w2 := ⟨_, rfl⟩
  have c2 : Chg Pure' w w2 := by rw [← hw2]; exact ((Chg.refl _ _).alloc _).alloc _
  have hbx : w2.heap[w.heap.size]? = some (.cells (nodeCells a Ab cb1 Ak ck Ai ci) 26 (0, 0)) := by rw [← hw2]; exact (Below.heap_alloc _ _ _ (by simp)).trans (heap_alloc_new w _)
  have hby : w2.heap[w.heap.size + 1]? = some (.cells (nodeCells b Bb db Bk dk Bi di) 26 (0, 0)) := by
    rw [← hw2]
    have := heap_alloc_new (w.alloc (.cells (nodeCells a Ab cb1 Ak ck Ai ci) 26)) (.cells (nodeCells b Bb db Bk dk Bi di) 26)
    rwa [show (w.alloc (.cells (nodeCells a Ab cb1 Ak ck Ai ci) 26)).heap.size = w.heap.size + 1 by simp] at this
  have C2 := Lib.hid c2
  have HWE := Lib.hid hw2
  have HBX := Lib.hid hbx
  have HBY := Lib.hid hby
  clear hw2 c2 hbx hby ha hb he
  unfold PrintPost at P1 P2
  generalize printA a = PA at *
  generalize printA b = PB at *
  generalize sameA a b = SB at *
  obtain ⟨X, F⟩ := PA
  obtain ⟨Y, G⟩ := PB
  simp only at hul P1 P2
  have HUL := Lib.hid hul
  clear hul
  unfold nodeCells at *
  have BLK := Lib.hid (fun W (h : Chg Pure' w2 W) => And.intro (h.block _ (Array.getElem?_eq_some_iff.1 HBX.out).1 (fun h => h)) (h.block _ (Array.getElem?_eq_some_iff.1 HBY.out).1 (fun h => h)))
  by_cases hF : F = 0
  · subst hF
    by_cases hG : G = 0
    · subst hG
      have HQ := Lib.hid (HUL.out rfl rfl)
      clear HUL
      go_enter Tryd.func3, Tryd.ntmps3
      go_wp2_with (fail)
      rw [HWE.out]
      refine (P1.out w2 C2.out).mono ?_
      rintro e w3 ⟨A, n, c, rfl, hA, hq, -, z3⟩
      have C3 := Lib.hid (C2.out.trans' z3)
      have Z3 := Lib.hid z3
      have HA := Lib.hid hA
      obtain ⟨y0, y1, y2, y3, y4, y5, y6, y7, y8⟩ := node_nine ((BLK.out w3 z3).2.trans HBY.out)
      clear z3 hA hq
      go_wp2_with (fail)
      refine (P2.out w3 C3.out).mono ?_
      rintro e w4 ⟨B, m, d, rfl, hB, hq, -, z4⟩
      have C4 := Lib.hid ((C3.out.trans' z4).drew)
      have Z4 := Lib.hid ((Z3.out.trans' z4).drew)
      have HA4 := Lib.hid ((HA.out.pure z4).drew)
      have HB4 := Lib.hid hB.drew
      obtain ⟨x0, x1, x2, x3, x4, x5, x6, x7, x8⟩ := node_nine ((BLK.out w4.drew Z4.out).1.trans HBX.out)
      clear y0 y1 y2 y3 y4 y5 y6 y7 y8
      obtain ⟨y0, y1, y2, y3, y4, y5, y6, y7, y8⟩ := node_nine ((BLK.out w4.drew Z4.out).2.trans HBY.out)
      clear z4 hB hq
      go_wp2_with (fail)
      refine reg_begin (Pure') (by kernel_rfl) ?_
      generalize w4.drew = w5 at *
      refine reg_take 0 (v := ?_) rfl (by kernel_rfl) (by kernel_rfl) (by kernel_rfl) (fun _ _ _ h => h) (by kernel_rfl) ?_ ?_
      rotate_left
      · (intro w' hS; go_simp; (try go_bits); (try with_reducible rfl))
      try simp only [Act.put, List.getElem_toArray, List.getElem_cons_zero, List.getElem_cons_succ, List.setIfInBounds_toArray, List.set_cons_zero, List.set_cons_succ]
      refine reg_take 1 (v := ?_) rfl (by kernel_rfl) (by kernel_rfl) (by kernel_rfl) (fun _ _ _ h => h) (by kernel_rfl) ?_ ?_
      rotate_left
      · (intro w' hS; go_simp; (try go_bits); (try with_reducible rfl))
      try simp only [Act.put, List.getElem_toArray, List.getElem_cons_zero, List.getElem_cons_succ, List.setIfInBounds_toArray, List.set_cons_zero, List.set_cons_succ]
      have hx : ∀ w' : World, Chg Pure' w5 w' → w'.cell? ⟨w.heap.size, 0, none⟩ = some (.int .i64 a.kind) ∧ w'.cell? ⟨w.heap.size, 1, none⟩ = some (.int .u64 (a.n.toNat : Int)) ∧ w'.cell? ⟨w.heap.size, 2, none⟩ = some (.bool a.neg) ∧ w'.cell? ⟨w.heap.size, 3, none⟩ = some (.string ⟨a.dig.toArray⟩) ∧ w'.cell? ⟨w.heap.size, 4, none⟩ = some (.int .i64 a.exp) ∧ w'.cell? ⟨w.heap.size, 5, none⟩ = some (.string ⟨a.text.toArray⟩) ∧ w'.cell? ⟨w.heap.size, 6, none⟩ = some (.slice Ab a.bytes.length cb1) ∧ w'.cell? ⟨w.heap.size, 7, none⟩ = some (.slice Ak a.keys.length ck) ∧ w'.cell? ⟨w.heap.size, 8, none⟩ = some (.slice Ai a.kids.length ci) := fun w' h => ⟨h.cell x0 (fun h => h), h.cell x1 (fun h => h), h.cell x2 (fun h => h), h.cell x3 (fun h => h), h.cell x4 (fun h => h), h.cell x5 (fun h => h), h.cell x6 (fun h => h), h.cell x7 (fun h => h), h.cell x8 (fun h => h)⟩
      have hy : ∀ w' : World, Chg Pure' w5 w' → w'.cell? ⟨w.heap.size + 1, 0, none⟩ = some (.int .i64 b.kind) ∧ w'.cell? ⟨w.heap.size + 1, 1, none⟩ = some (.int .u64 (b.n.toNat : Int)) ∧ w'.cell? ⟨w.heap.size + 1, 2, none⟩ = some (.bool b.neg) ∧ w'.cell? ⟨w.heap.size + 1, 3, none⟩ = some (.string ⟨b.dig.toArray⟩) ∧ w'.cell? ⟨w.heap.size + 1, 4, none⟩ = some (.int .i64 b.exp) ∧ w'.cell? ⟨w.heap.size + 1, 5, none⟩ = some (.string ⟨b.text.toArray⟩) ∧ w'.cell? ⟨w.heap.size + 1, 6, none⟩ = some (.slice Bb b.bytes.length db) ∧ w'.cell? ⟨w.heap.size + 1, 7, none⟩ = some (.slice Bk b.keys.length dk) ∧ w'.cell? ⟨w.heap.size + 1, 8, none⟩ = some (.slice Bi b.kids.length di) := fun w' h => ⟨h.cell y0 (fun h => h), h.cell y1 (fun h => h), h.cell y2 (fun h => h), h.cell y3 (fun h => h), h.cell y4 (fun h => h), h.cell y5 (fun h => h), h.cell y6 (fun h => h), h.cell y7 (fun h => h), h.cell y8 (fun h => h)⟩
      have HX := Lib.hid hx
      have HY := Lib.hid hy
      clear hx hy x0 x1 x2 x3 x4 x5 x6 x7 x8 y0 y1 y2 y3 y4 y5 y6 y7 y8
      refine reg_take 3 (v := ?_) rfl (by kernel_rfl) (by kernel_rfl) (by kernel_rfl) (fun _ _ _ h => h) (by kernel_rfl) ?_ ?_
      rotate_left
      · (intro w' hS; have hz := HX.out w' hS; go_simp; (try go_bits); (try with_reducible rfl))
      try simp only [Act.put, List.getElem_toArray, List.getElem_cons_zero, List.getElem_cons_succ, List.setIfInBounds_toArray, List.set_cons_zero, List.set_cons_succ]
      refine reg_take 4 (v := ?_) rfl (by kernel_rfl) (by kernel_rfl) (by kernel_rfl) (fun _ _ _ h => h) (by kernel_rfl) ?_ ?_
      rotate_left
      · (intro w' hS; have hz := HY.out w' hS; go_simp; (try go_bits); (try with_reducible rfl))
      try simp only [Act.put, List.getElem_toArray, List.getElem_cons_zero, List.getElem_cons_succ, List.setIfInBounds_toArray, List.set_cons_zero, List.set_cons_succ]
      refine reg_do 2 rfl (by kernel_rfl) (by kernel_rfl) ?_
      intro K hK
      go_simp
      refine (same_any A c n X B d m Y w5 HA4.out HB4.out).mono ?_
      first | rintro e w6 rfl rfl | rintro e w6 ⟨rfl, rfl⟩
      refine hK _ _ (Chg.refl _ _) ?_
      clear hK K
      try simp only [Act.put, List.getElem_toArray, List.getElem_cons_zero, List.getElem_cons_succ, List.setIfInBounds_toArray, List.set_cons_zero, List.set_cons_succ]
      refine reg_do 5 rfl (by kernel_rfl) (by kernel_rfl) ?_
      intro K hK
      go_simp
      refine (SM.out w5 C4.out).mono ?_
      rintro e w6 ⟨rfl, z6⟩
      refine hK _ _ (z6) ?_
      clear hK K
      try simp only [Act.put, List.getElem_toArray, List.getElem_cons_zero, List.getElem_cons_succ, List.setIfInBounds_toArray, List.set_cons_zero, List.set_cons_succ]
      have C6 := Lib.hid (C4.out.trans' z6)
      have HB6 : Hid ((decide (X = Y) == SB) = true) := Lib.hid (by rw [HQ.out]; simp)
      generalize hXY : decide (X = Y) = XY at *
      have HQ2 : XY = SB := HQ.out
      subst HQ2
      refine reg_take 6 (v := ?_) rfl (by kernel_rfl) (by kernel_rfl) (by kernel_rfl) (fun _ _ _ h => h) (by kernel_rfl) ?_ ?_
      rotate_left
      · (intro w' hS; go_simp; (try go_bits); (try with_reducible rfl))
      try simp only [Act.put, List.getElem_toArray, List.getElem_cons_zero, List.getElem_cons_succ, List.setIfInBounds_toArray, List.set_cons_zero, List.set_cons_succ]
      refine reg_take 7 (v := ?_) rfl (by kernel_rfl) (by kernel_rfl) (by kernel_rfl) (fun _ _ _ h => h) (by kernel_rfl) ?_ ?_
      rotate_left
      · (intro w' hS; go_simp; (try go_bits); (try with_reducible rfl))
      try simp only [Act.put, List.getElem_toArray, List.getElem_cons_zero, List.getElem_cons_succ, List.setIfInBounds_toArray, List.set_cons_zero, List.set_cons_succ]
      refine reg_do 8 rfl (by kernel_rfl) (by kernel_rfl) ?_
      intro K hK
      go_simp
      refine (AL.out w6 C6.out).mono ?_
      rintro e w7 ⟨rfl, z7⟩
      refine hK _ _ (z7) ?_
      clear hK K
      try simp only [Act.put, List.getElem_toArray, List.getElem_cons_zero, List.getElem_cons_succ, List.setIfInBounds_toArray, List.set_cons_zero, List.set_cons_succ]
      refine reg_take 9 (v := ?_) rfl (by kernel_rfl) (by kernel_rfl) (by kernel_rfl) (fun _ _ _ h => h) (by kernel_rfl) ?_ ?_
      rotate_left
      · (intro w' hS; go_simp; (try go_bits); (try with_reducible rfl))
      try simp only [Act.put, List.getElem_toArray, List.getElem_cons_zero, List.getElem_cons_succ, List.setIfInBounds_toArray, List.set_cons_zero, List.set_cons_succ]
      refine reg_take 10 (v := ?_) rfl (by kernel_rfl) (by kernel_rfl) (by kernel_rfl) (fun _ _ _ h => h) (by kernel_rfl) ?_ ?_
      rotate_left
      · (intro w' hS; go_simp; (try go_bits); (try with_reducible rfl))
      try simp only [Act.put, List.getElem_toArray, List.getElem_cons_zero, List.getElem_cons_succ, List.setIfInBounds_toArray, List.set_cons_zero, List.set_cons_succ]
      refine wpAnyH_done (by kernel_rfl) ?_ _
      have C7 := Lib.hid (C6.out.trans' z7)
      go_wp2
      go_ret
      exact ⟨rfl, C7.out⟩
    · have hG' : (G == 0) = false := by simpa using hG
      go_enter Tryd.func3, Tryd.ntmps3
      go_wp2_with (fail)
      rw [HWE.out]
      refine (P1.out w2 C2.out).mono ?_
      rintro e w3 ⟨A, n, c, rfl, -, -, -, z3⟩
      have C3 := Lib.hid (C2.out.trans' z3)
      obtain ⟨y0, y1, y2, y3, y4, y5, y6, y7, y8⟩ := node_nine ((BLK.out w3 z3).2.trans HBY.out)
      clear z3
      go_wp2_with (fail)
      refine (P2.out w3 C3.out).mono ?_
      rintro e w4 ⟨B, m, d, rfl, -, -, -, z4⟩
      have C4 := Lib.hid (C3.out.trans' z4)
      clear z4 y0 y1 y2 y3 y4 y5 y6 y7 y8
      go_wp2_with (fail)
      refine (AL.out w4 C4.out).mono ?_
      rintro e w5 ⟨rfl, z5⟩
      have C5 := Lib.hid (C4.out.trans' z5)
      clear z5
      go_wp2
      go_ret
      exact ⟨rfl, C5.out⟩
  · have hF' : (F == 0) = false := by simpa using hF
    go_enter Tryd.func3, Tryd.ntmps3
    go_wp2_with (fail)
    rw [HWE.out]
    refine (P1.out w2 C2.out).mono ?_
    rintro e w3 ⟨A, n, c, rfl, -, -, -, z3⟩
    have C3 := Lib.hid (C2.out.trans' z3)
    obtain ⟨y0, y1, y2, y3, y4, y5, y6, y7, y8⟩ := node_nine ((BLK.out w3 z3).2.trans HBY.out)
    clear z3
    go_wp2_with (fail)
    refine (P2.out w3 C3.out).mono ?_
    rintro e w4 ⟨B, m, d, rfl, -, -, -, z4⟩
    have C4 := Lib.hid (C3.out.trans' z4)
    clear z4 y0 y1 y2 y3 y4 y5 y6 y7 y8
    go_wp2_with (fail)
    refine (AL.out w4 C4.out).mono ?_
    rintro e w5 ⟨rfl, z5⟩
    have C5 := Lib.hid (C4.out.trans' z5)
    clear z5
    go_wp2
    go_ret
    exact ⟨rfl, C5.out⟩
end Go.Proofs.YtafpkecjicphoaaDoor
