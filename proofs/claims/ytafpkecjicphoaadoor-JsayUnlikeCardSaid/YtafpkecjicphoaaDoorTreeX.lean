/- How many nodes a tree has, and how deep they lie (tree.measure). -/
import Derived.Test.YtafpkecjicphoaaDoorTreeW
import Derived.Test.YtafpkecjicphoaaDoorRegL
namespace Go.Proofs.YtafpkecjicphoaaDoor
open Go Go.RowKit
set_option linter.unusedVariables false
set_option linter.unusedSimpArgs false
set_option maxRecDepth 100000

/-- A node is counted. -/
def cnt1 (s : Nat × Nat) (t : Tn) (d : Nat) : (Nat × Nat) × Bool := ((s.1 + 1, max s.2 d), decide (s.1 + 1 ≤ 1024))
theorem sizeTL_inter : ∀ (l m : List Tn), l.length = m.length → sizeTL (inter l m) = sizeTL l + sizeTL m
  | [], [], _ => rfl
  | a :: l, b :: m, h => by rw [inter, sizeTL, sizeTL, sizeTL, sizeTL, sizeTL_inter l m (by simpa using h)]; omega
  | [], _ :: _, h => by simp at h
  | _ :: _, [], h => by simp at h
theorem deepTL_inter : ∀ (l m : List Tn), l.length = m.length → deepTL (inter l m) = max (deepTL l) (deepTL m)
  | [], [], _ => rfl
  | a :: l, b :: m, h => by rw [inter, deepTL, deepTL, deepTL, deepTL, deepTL_inter l m (by simpa using h)]; omega
  | [], _ :: _, h => by simp at h
  | _ :: _, [], h => by simp at h
theorem deepTL_append : ∀ (l m : List Tn), deepTL (l ++ m) = max (deepTL l) (deepTL m)
  | [], m => by simp [deepTL]
  | t :: l, m => by rw [List.cons_append, deepTL, deepTL, deepTL_append l m]; omega
theorem below_size (t : Tn) : sizeT t = 1 + sizeTL (below t) := by
  have e : sizeT t = 1 + sizeTL t.keys + sizeTL t.kids := by cases t; rw [sizeT]; rfl
  unfold below
  split
  · rename_i h; rw [sizeTL_inter _ _ h.2]; omega
  · rw [sizeTL_append]; omega
theorem below_deep (t : Tn) : deepT t = 1 + deepTL (below t) := by
  have e : deepT t = 1 + max (deepTL t.keys) (deepTL t.kids) := by cases t; rw [deepT]; rfl
  unfold below
  split
  · rename_i h; rw [deepTL_inter _ _ h.2]; omega
  · rw [deepTL_append]; omega
theorem cnt_seq : ∀ (l : List Tn) (d : Nat), (∀ x ∈ l, ∀ s : Nat × Nat, d ≤ s.2 + 1 → (s.1 + sizeT x ≤ 1024 → actT cnt1 x d s = ((s.1 + sizeT x, max s.2 (d + deepT x - 1)), true)) ∧ (¬ s.1 + sizeT x ≤ 1024 → (actT cnt1 x d s).2 = false)) →
    ∀ s : Nat × Nat, d ≤ s.2 + 1 → s.1 ≤ 1024 → (s.1 + sizeTL l ≤ 1024 → seqA (l.map (actT cnt1)) d s = ((s.1 + sizeTL l, max s.2 (d + deepTL l - 1)), true)) ∧ (¬ s.1 + sizeTL l ≤ 1024 → (seqA (l.map (actT cnt1)) d s).2 = false)
  | [], d, _, s, hd, hs => by
    refine ⟨fun _ => ?_, fun h => absurd (by rw [sizeTL]; omega) h⟩
    rw [List.map_nil, seqA, sizeTL, deepTL]
    obtain ⟨a, b⟩ := s
    simp only at hd ⊢
    congr 2
    omega
  | x :: l, d, hx, s, hd, hs => by
    obtain ⟨h1, h2⟩ := hx x (List.mem_cons_self ..) s hd
    rw [List.map_cons, seqA, sizeTL, deepTL]
    by_cases hg : s.1 + sizeT x ≤ 1024
    · rw [h1 hg]
      simp only [if_true]
      have hp := deepT_pos x
      obtain ⟨i1, i2⟩ := cnt_seq l d (fun y hy => hx y (List.mem_cons_of_mem _ hy)) (s.1 + sizeT x, max s.2 (d + deepT x - 1)) (by simp only; omega) hg
      refine ⟨fun h => ?_, fun h => i2 (by simp only; omega)⟩
      rw [i1 (by simp only; omega)]
      simp only
      congr 2
      · omega
      · omega
    · have h3 := h2 hg
      refine ⟨fun h => by omega, fun _ => ?_⟩
      rw [h3]
      exact h3
theorem cnt_act : ∀ (N : Nat) (t : Tn), sizeT t ≤ N → ∀ (d : Nat) (s : Nat × Nat), d ≤ s.2 + 1 → (s.1 + sizeT t ≤ 1024 → actT cnt1 t d s = ((s.1 + sizeT t, max s.2 (d + deepT t - 1)), true)) ∧ (¬ s.1 + sizeT t ≤ 1024 → (actT cnt1 t d s).2 = false) := by
  intro N
  induction N with
  | zero => intro t hn; have := sizeT_pos t; omega
  | succ N ih =>
    intro t hn d s hd
    have hsz := below_size t
    have hdp := below_deep t
    rw [actT_eq]
    by_cases hg : s.1 + 1 ≤ 1024
    · have e : cnt1 s t d = ((s.1 + 1, max s.2 d), true) := by unfold cnt1; rw [decide_eq_true hg]
      rw [e]
      simp only [if_true]
      obtain ⟨i1, i2⟩ := cnt_seq (below t) (d + 1) (fun x hx s hs => ih x (by
        rcases below_mem hx with h | h
        · have := size_key h; omega
        · have := size_kid h; omega) (d + 1) s hs) (s.1 + 1, max s.2 d) (by simp only; omega) (by simp only; omega)
      refine ⟨fun h => ?_, fun h => i2 (by simp only; omega)⟩
      rw [i1 (by simp only; omega)]
      simp only
      congr 2
      · omega
      · omega
    · have e : (cnt1 s t d).2 = false := by unfold cnt1; simp only; exact decide_eq_false hg
      rw [e]
      simp only [Bool.false_eq_true, if_false]
      exact ⟨fun h => by omega, fun _ => e⟩
/-- What measure answers. -/
def sizeM (t : Tn) : Nat := if sizeT t ≤ 1024 then sizeT t else 1025
def deepM (t : Tn) : Nat := if sizeT t ≤ 1024 then deepT t else 1025

/-- A captured number. -/
def IntAt (w : World) (b : Nat) (v : Int) : Prop := w.heap[b]? = some (.cells #[.int .i64 v] 3 (0, 0))
theorem IntAt.cell {w : World} {b : Nat} {v : Int} (h : IntAt w b v) : w.cell? ⟨b, 0, none⟩ = some (.int .i64 v) := by
  unfold IntAt at h
  simp [World.cell?, h]
theorem IntAt.free {w : World} {b : Nat} {v : Int} (h : IntAt w b v) : w.frozen? ⟨b, 0, none⟩ = false := by
  unfold IntAt at h
  simp [World.frozen?, h]
theorem IntAt.lt {w : World} {b : Nat} {v : Int} (h : IntAt w b v) : b < w.heap.size := (Array.getElem?_eq_some_iff.1 h).1
theorem IntAt.chg {S : Nat → Prop} {w w' : World} {b : Nat} {v : Int} (h : IntAt w b v) (hc : Chg S w w') (hb : ¬ S b) : IntAt w' b v := (hc.block b h.lt hb).trans h
theorem IntAt.set {w : World} {b : Nat} {v : Int} (h : IntAt w b v) (u : Int) : IntAt (w.setCell ⟨b, 0, none⟩ (.int .i64 u)) b u := heap_setCell_same w b 0 _ _ _ h
theorem IntAt.new (w : World) (v : Int) : IntAt (w.alloc (.cells #[.int .i64 v] 3)) w.heap.size v := heap_alloc_new w _
/-- Two numbers, captured. -/
structure CntAt (b2 b3 : Nat) (w : World) (s : Nat × Nat) : Prop where
  i2 : IntAt w b2 (s.1 : Nat)
  i3 : IntAt w b3 (s.2 : Nat)
  ne : b2 ≠ b3
  le : s.1 ≤ 1025
  ld : s.2 ≤ 2199023255552
set_option maxHeartbeats 4000000 in
theorem cnt_of (b2 b3 : Nat) (cs : Array Value) (t : Tn) (d : Nat) (w : World) (w0 : World) (s : Nat × Nat) (ht : NodeAt w0 cs t) (hd : d ≤ s.1 + 1) (hs : s.1 ≤ 1024) (hI : CntAt b2 b3 w s) :
    Calls Tryd.prog 22 #[.agg cs, .int .i64 (d : Nat), .pointer (some ⟨b2, 0, none⟩), .pointer (some ⟨b3, 0, none⟩)] w fun e w' => e = .returned (.bool (cnt1 s t d).2) ∧ CntAt b2 b3 w' (cnt1 s t d).1 ∧ Chg (fun k => k = b2 ∨ k = b3) w w' := by
  obtain ⟨Ab, cb, Ak, ck, Ai, ci, rfl, -⟩ := ht.out
  obtain ⟨i2, i3, hne, hle, hld⟩ := hI
  obtain ⟨s1, s2⟩ := s
  simp only at hd hs i2 i3 hle hld
  have ca : Chg Pure' w (w.alloc (.cells (nodeCells t Ab cb Ak ck Ai ci) 26)) := (Chg.refl _ _).alloc _
  have j2 := i2.chg ca (fun h => h)
  have j3 := i3.chg ca (fun h => h)
  have k2 := j2.set ((s1 : Int) + 1)
  have cs2 := Chg.setCell (S := fun k => k = b2) (Chg.refl _ (w.alloc (.cells (nodeCells t Ab cb Ak ck Ai ci) 26))) (p := ⟨b2, 0, none⟩) (.inr rfl) (.int .i64 ((s1 : Int) + 1))
  have k3 := j3.chg cs2 (fun e : b3 = b2 => hne e.symm)
  have y2 := j2.cell
  have y3 := k3.cell
  have y4 := k2.cell
  have f2 := j2.free
  have f3 := k3.free
  have HM : Hid (max (s2 : Int) (d : Int) = ((max s2 d : Nat) : Int)) := Lib.hid (by omega)
  have HJ := Lib.hid (And.intro k2 k3)
  have CC := Lib.hid ((Chg.of_pure (S := fun k => k = b2 ∨ k = b3) ca).trans' (cs2.mono (fun k _ h => .inl h)))
  have HNE := Lib.hid hne
  clear i2 i3 ht j2 j3 k2 k3 ca cs2
  unfold nodeCells at *
  go_enter Tryd.func22, Tryd.ntmps22
  go_upto_region 2 with (fail)
  generalize ((w.alloc (.cells _ 26)).setCell ⟨b2, 0, none⟩ (.int .i64 ((s1 : Int) + 1))) = w2 at *
  obtain ⟨k2, k3⟩ := HJ.out
  have cs3 := Chg.setCell (S := fun k => k = b3) (Chg.refl _ w2) (p := ⟨b3, 0, none⟩) (.inr rfl) (.int .i64 ((max s2 d : Nat) : Int))
  have l3 := k3.set ((max s2 d : Nat) : Int)
  have l2 := k2.chg cs3 (fun e : b2 = b3 => HNE.out e)
  have y5 := l2.cell
  have HFIN : Hid (CntAt b2 b3 (w2.setCell ⟨b3, 0, none⟩ (.int .i64 ((max s2 d : Nat) : Int))) (s1 + 1, max s2 d)) := Lib.hid ⟨l2, l3, HNE.out, by simp only; omega, by simp only; omega⟩
  have C3 := Lib.hid (CC.out.trans' (cs3.mono (fun k _ h => .inr h)))
  have HR : Hid (cnt1 (s1, s2) t d = ((s1 + 1, max s2 d), decide (s1 + 1 ≤ 1024))) := Lib.hid rfl
  rcases Nat.lt_trichotomy s2 d with hsd | hsd | hsd
  · rw [show max s2 d = d from by omega] at HFIN C3 y5 HR
    clear HM k2 k3 cs3 l3 l2 y2 y4 f2
    have i1 : ((s2 : Int) < (d : Int)) := by omega
    go_wp2
    go_ret
    rw [HR.out]
    refine ⟨?_, HFIN.out, C3.out⟩
    simp only
    rw [show decide (s1 + 1 ≤ 1024) = decide ((s1 : Int) + 1 ≤ 1024) from by rw [decide_eq_decide]; omega]
    rfl
  · subst hsd
    rw [show max s2 s2 = s2 from by omega] at HFIN C3 y5 HR
    clear HM k2 k3 cs3 l3 l2 y2 y4 f2
    go_wp2
    go_ret
    rw [HR.out]
    refine ⟨?_, HFIN.out, C3.out⟩
    simp only
    rw [show decide (s1 + 1 ≤ 1024) = decide ((s1 : Int) + 1 ≤ 1024) from by rw [decide_eq_decide]; omega]
    rfl
  · rw [show max s2 d = s2 from by omega] at HFIN C3 y5 HR
    clear HM k2 k3 cs3 l3 l2 y2 y4 f2
    have i1 : ((d : Int) < (s2 : Int)) := by omega
    go_wp2
    go_ret
    rw [HR.out]
    refine ⟨?_, HFIN.out, C3.out⟩
    simp only
    rw [show decide (s1 + 1 ≤ 1024) = decide ((s1 : Int) + 1 ≤ 1024) from by rw [decide_eq_decide]; omega]
    rfl
theorem nodeAt_new {w0 w : World} {t : Tn} {cs : Array Value} (h : NodeAt w0 cs t) (hc : Chg Pure' w0 w) : NodeAt w cs t := h.pure hc
set_option maxHeartbeats 4000000 in
/-- tree.measure. -/
theorem measure_of (cs : Array Value) (t : Tn) (w : World) (ht : NodeAt w cs t) :
    Calls Tryd.prog 15 #[.agg cs] w fun e w' => e = .returned (.tuple #[.int .i64 (sizeM t : Nat), .int .i64 (deepM t : Nat)]) ∧ Chg Pure' w w' := by
  have ht0 := ht
  obtain ⟨Ab, cb, Ak, ck, Ai, ci, rfl, -⟩ := ht.out
  obtain ⟨w1, hw1⟩ : ∃ w1, w.alloc (.cells (nodeCells t Ab cb Ak ck Ai ci) 26) = w1 := ⟨_, rfl⟩
  obtain ⟨w2, hw2⟩ : ∃ w2, w1.alloc (.cells #[.int .i64 0] 3) = w2 := ⟨_, rfl⟩
  obtain ⟨w3, hw3⟩ : ∃ w3, w2.alloc (.cells #[.int .i64 0] 3) = w3 := ⟨_, rfl⟩
  have c1 : Chg Pure' w w1 := by rw [← hw1]; exact (Chg.refl _ _).alloc _
  have c2 : Chg Pure' w1 w2 := by rw [← hw2]; exact (Chg.refl _ _).alloc _
  have c3 : Chg Pure' w2 w3 := by rw [← hw3]; exact (Chg.refl _ _).alloc _
  have s1 : w1.heap.size = w.heap.size + 1 := by rw [← hw1]; simp
  have s2 : w2.heap.size = w.heap.size + 1 + 1 := by rw [← hw2]; simp [s1]
  have i2 : IntAt w3 (w.heap.size + 1) (((0 : Nat) : Int)) := by rw [← s1]; exact (by rw [← hw2]; exact IntAt.new w1 0 : IntAt w2 w1.heap.size 0).chg c3 (fun h => h)
  have i3 : IntAt w3 (w.heap.size + 1 + 1) (((0 : Nat) : Int)) := by rw [← s2, ← hw3]; exact IntAt.new w2 0
  have hI : CntAt (w.heap.size + 1) (w.heap.size + 1 + 1) w3 (0, 0) := ⟨i2, i3, by omega, by decide, by decide⟩
  have bx : w1.cell? ⟨w.heap.size, 0, none⟩ = some (.int .i64 t.kind) := by rw [← hw1, cellAt_alloc_lit]; rfl
  have V : Visit w cnt1 (fun s d _ => d ≤ s.1 + 1 ∧ s.1 ≤ 1024) (CntAt (w.heap.size + 1) (w.heap.size + 1 + 1)) (fun k => k = w.heap.size + 1 ∨ k = w.heap.size + 1 + 1) 22 #[.pointer (some ⟨w.heap.size + 1, 0, none⟩), .pointer (some ⟨w.heap.size + 1 + 1, 0, none⟩)] := by
    refine ⟨fun a b s h hc => ⟨h.i2.chg hc (fun h => h), h.i3.chg hc (fun h => h), h.ne, h.le, h.ld⟩, fun k hk => by omega, fun a s k h hk => ?_, fun args w => by kernel_rfl, fun s d t h => by omega, fun s d t h hg x hx => ?_, fun s d t t' d' h h' hg => ?_, fun t' cs' d w' s ht' hR hc hI' => ?_⟩
    · have h1 := h.i2.lt; have h2 := h.i3.lt; omega
    · have hg : decide (s.1 + 1 ≤ 1024) = true := hg
      have := of_decide_eq_true hg
      exact ⟨by show d + 1 ≤ s.1 + 1 + 1; omega, this⟩
    · have hg : decide (s.1 + 1 ≤ 1024) = true := hg
      have := of_decide_eq_true hg
      exact ⟨by show d ≤ s.1 + 1 + 1; omega, this⟩
    · exact cnt_of _ _ cs' t' d w' w s ht' hR.1 hR.2 hI'
  have HCW := Lib.hid (walk_of V (sizeT t) t (Nat.le_refl _) _ 1 w3 (0, 0) ht0 ⟨by decide, by decide⟩ ((c1.pure c2).pure c3) hI)
  obtain ⟨r1, r2⟩ := cnt_act (sizeT t) t (Nat.le_refl _) 1 (0, 0) (by decide)
  obtain ⟨⟨⟨q1, q2⟩, qg⟩, hq⟩ : ∃ r, actT cnt1 t 1 (0, 0) = r := ⟨_, rfl⟩
  rw [hq] at HCW r1 r2
  simp only at HCW r1 r2
  have HW3 : Hid (((w.alloc (.cells (nodeCells t Ab cb Ak ck Ai ci) 26)).alloc (.cells #[.int .i64 0] 3)).alloc (.cells #[.int .i64 0] 3) = w3) := Lib.hid (by rw [hw1, hw2, hw3])
  have C3 := Lib.hid ((c1.pure c2).pure c3)
  have S1 := Lib.hid s1
  have S2 := Lib.hid s2
  have y0 := (c2.pure c3).cell bx (fun h => h)
  have zs : ∀ j u, (nodeCells t Ab cb Ak ck Ai ci)[j]? = some u → w3.cell? ⟨w.heap.size, j, none⟩ = some u := fun j u hu => (c2.pure c3).cell (by rw [← hw1, cellAt_alloc_lit]; exact hu) (fun h => h)
  have z0 := zs 0 _ rfl
  have z1 := zs 1 _ rfl
  have z2 := zs 2 _ rfl
  have z3 := zs 3 _ rfl
  have z4 := zs 4 _ rfl
  have z5 := zs 5 _ rfl
  have z6 := zs 6 _ rfl
  have z7 := zs 7 _ rfl
  have z8 := zs 8 _ rfl
  have HQ := Lib.hid (And.intro r1 r2)
  clear zs y0 bx i2 i3 hI V ht ht0 hw1 hw2 hw3 c1 c2 c3 r1 r2 hq
  unfold nodeCells at *
  go_enter Tryd.func15, Tryd.ntmps15
  go_upto_region 1 with (fail)
  rw [HW3.out]
  clear HW3
  go_wp2_with (fail)
  refine HCW.out.mono ?_
  rintro e w4 ⟨rfl, hI4, c4⟩
  obtain ⟨b2, hb2⟩ : ∃ b, w.heap.size + 1 = b := ⟨_, rfl⟩
  obtain ⟨b3, hb3⟩ : ∃ b, w.heap.size + 1 + 1 = b := ⟨_, rfl⟩
  have C4 := Lib.hid (C3.out.trans c4 (fun k hk h => by omega))
  have hlt : w.heap.size < b2 ∧ w.heap.size < b3 := by omega
  have HLT := Lib.hid hlt
  rw [hb3, hb2] at hI4 ⊢
  clear c4 HCW z0 z1 z2 z3 z4 z5 z6 z7 z8 hb2 hb3 hlt S1 S2
  obtain ⟨i2, i3, hne, hle, hld⟩ := hI4
  simp only at i2 i3 hle hld
  have x2 := i2.cell
  have x3 := i3.cell
  have f2 := i2.free
  have f3 := i3.free
  have HNE := Lib.hid hne
  by_cases hsz : sizeT t ≤ 1024
  · have h1 := HQ.out.1 (by omega)
    obtain ⟨⟨h2, h3⟩, h4⟩ := Prod.mk.inj h1 |>.imp Prod.mk.inj id
    subst h4
    have e1 : sizeM t = q1 := by unfold sizeM; rw [if_pos hsz]; omega
    have e2 : deepM t = q2 := by unfold deepM; rw [if_pos hsz]; have := deepT_pos t; omega
    have E12 := Lib.hid (And.intro e1 e2)
    clear e1 e2 h1 h2 h3 HQ hsz
    have cs2 := Chg.setCell (S := fun k => k = b2) (Chg.refl _ w4.drew) (p := ⟨b2, 0, none⟩) (.inr rfl) (.int .i64 (q1 : Nat))
    have j2 : IntAt (w4.drew.setCell ⟨b2, 0, none⟩ (.int .i64 (q1 : Nat))) b2 (q1 : Nat) := (show IntAt w4.drew b2 (q1 : Nat) from i2).set _
    have j3 : IntAt (w4.drew.setCell ⟨b2, 0, none⟩ (.int .i64 (q1 : Nat))) b3 (q2 : Nat) := (show IntAt w4.drew b3 (q2 : Nat) from i3).chg cs2 (fun e : b3 = b2 => HNE.out e.symm)
    have cs3 := Chg.setCell (S := fun k => k = b3) (Chg.refl _ (w4.drew.setCell ⟨b2, 0, none⟩ (.int .i64 (q1 : Nat)))) (p := ⟨b3, 0, none⟩) (.inr rfl) (.int .i64 (q2 : Nat))
    have l3 := j3.set (q2 : Nat)
    have l2 := j2.chg cs3 (fun e : b2 = b3 => HNE.out e)
    have u2 := l2.cell
    have u3 := l3.cell
    have g2 := (show IntAt w4.drew b2 (q1 : Nat) from i2).free
    have g3 := j3.free
    have x2d : w4.drew.cell? ⟨b2, 0, none⟩ = some (.int .i64 (q1 : Nat)) := x2
    have x3d : w4.drew.cell? ⟨b3, 0, none⟩ = some (.int .i64 (q2 : Nat)) := x3
    have CC2 := Lib.hid cs2
    have C6 := Lib.hid ((C4.out.drew.trans cs2 (fun k hk h => by have := HLT.out; have h : k = b2 := h; omega)).trans cs3 (fun k hk h => by have := HLT.out; have h : k = b3 := h; omega))
    clear cs2 cs3 j2 j3 l2 l3 i2 i3
    go_wp2_with (fail)
    refine regL_begin 3 (fun k => k = b2) (by kernel_rfl) ?_
    refine regL_take 1 (v := ?_) rfl (by kernel_rfl) (by kernel_rfl) (by kernel_rfl) (by kernel_rfl) (fun _ _ _ h => h) (by kernel_rfl) ?_ ?_
    rotate_left
    · (intro w' hS; have hz := hS.cell (w := w4.drew) x3d (fun e : b3 = b2 => HNE.out e.symm); go_simp; (try go_bits); (try with_reducible rfl))
    try simp only [Act.put, List.getElem_toArray, List.getElem_cons_zero, List.getElem_cons_succ, List.setIfInBounds_toArray, List.set_cons_zero, List.set_cons_succ]
    refine regL_do 0 rfl (by kernel_rfl) (by kernel_rfl) ?_
    intro K hK
    go_simp
    refine hK _ _ (Chg.refl _ _) ?_
    clear hK K
    refine regL_do 2 rfl (by kernel_rfl) (by kernel_rfl) ?_
    intro K hK
    go_simp
    refine hK _ _ CC2.out ?_
    clear hK K
    refine regL_last rfl (by kernel_rfl) (by kernel_rfl) ?_
    intro K hK
    go_simp
    refine hK _ _ ?_
    clear hK K
    try simp only [Act.put, List.getElem_toArray, List.getElem_cons_zero, List.getElem_cons_succ, List.setIfInBounds_toArray, List.set_cons_zero, List.set_cons_succ]
    refine wpAnyL_done (by kernel_rfl) ?_ _
    clear x2d x3d g2 g3
    go_wp2
    refine bodyPost_ret (v := .tuple #[.int .i64 (q1 : Nat), .int .i64 (q2 : Nat)]) ?_ rfl ?_
    · unfold results; go_simp
    · refine ⟨?_, C6.out⟩
      rw [E12.out.1, E12.out.2]
  · have h1 := HQ.out.2 (by omega)
    subst h1
    have e1 : sizeM t = 1025 := by unfold sizeM; rw [if_neg hsz]
    have e2 : deepM t = 1025 := by unfold deepM; rw [if_neg hsz]
    have E12 := Lib.hid (And.intro e1 e2)
    clear e1 e2 HQ hsz
    have cs2 := Chg.setCell (S := fun k => k = b2) (Chg.refl _ w4) (p := ⟨b2, 0, none⟩) (.inr rfl) (.int .i64 1025)
    have j2 := i2.set 1025
    have j3 := i3.chg cs2 (fun e : b3 = b2 => HNE.out e.symm)
    have cs3 := Chg.setCell (S := fun k => k = b3) (Chg.refl _ (w4.setCell ⟨b2, 0, none⟩ (.int .i64 1025))) (p := ⟨b3, 0, none⟩) (.inr rfl) (.int .i64 1025)
    have l3 := j3.set 1025
    have l2 := j2.chg cs3 (fun e : b2 = b3 => HNE.out e)
    have u2 := l2.cell
    have u3 := l3.cell
    have g3 := j3.free
    have v3 := j3.cell
    have C6 := Lib.hid ((C4.out.trans cs2 (fun k hk h => by have := HLT.out; have h : k = b2 := h; omega)).trans cs3 (fun k hk h => by have := HLT.out; have h : k = b3 := h; omega))
    clear cs2 cs3 j2 j3 l2 l3 i2 i3
    go_wp2
    refine bodyPost_ret (v := .tuple #[.int .i64 1025, .int .i64 1025]) ?_ rfl ?_
    · unfold results; go_simp
    · refine ⟨?_, C6.out⟩
      rw [E12.out.1, E12.out.2]
      rfl
end Go.Proofs.YtafpkecjicphoaaDoor
