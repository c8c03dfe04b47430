/- tree.Check: what it looks at in one node (Check$1), and all. -/
import Derived.Test.YtafpkecjicphoaaDoorTreeY
namespace Go.Proofs.YtafpkecjicphoaaDoor
open Go Go.RowKit
set_option linter.unusedVariables false
set_option linter.unusedSimpArgs false
set_option maxRecDepth 100000

/-- A node is looked at. -/
def chk1 (s : Int × Bool) (t : Tn) (d : Nat) : (Int × Bool) × Bool := ((aloneT t, s.2 || (decide (aloneT t = 0) && twinsL t.keys)), decide (aloneT t = 0))
/-- What Check answers. -/
def checkT (t : Tn) : Int :=
  if 1024 < sizeM t then 8
  else if 24 < deepM t then 7
  else if (actT chk1 t 1 (0, false)).1.1 = 0 ∧ (actT chk1 t 1 (0, false)).1.2 = true then 9
  else (actT chk1 t 1 (0, false)).1.1
/-- A captured value. -/
def ValAt (w : World) (b : Nat) (T : TypeId) (v : Value) : Prop := w.heap[b]? = some (.cells #[v] T (0, 0))
theorem ValAt.cell {w : World} {b : Nat} {T : TypeId} {v : Value} (h : ValAt w b T v) : w.cell? ⟨b, 0, none⟩ = some v := by
  unfold ValAt at h
  simp [World.cell?, h]
theorem ValAt.free {w : World} {b : Nat} {T : TypeId} {v : Value} (h : ValAt w b T v) : w.frozen? ⟨b, 0, none⟩ = false := by
  unfold ValAt at h
  simp [World.frozen?, h]
theorem ValAt.lt {w : World} {b : Nat} {T : TypeId} {v : Value} (h : ValAt w b T v) : b < w.heap.size := (Array.getElem?_eq_some_iff.1 h).1
theorem ValAt.chg {S : Nat → Prop} {w w' : World} {b : Nat} {T : TypeId} {v : Value} (h : ValAt w b T v) (hc : Chg S w w') (hb : ¬ S b) : ValAt w' b T v := (hc.block b h.lt hb).trans h
theorem ValAt.set {w : World} {b : Nat} {T : TypeId} {v : Value} (h : ValAt w b T v) (u : Value) : ValAt (w.setCell ⟨b, 0, none⟩ u) b T u := heap_setCell_same w b 0 _ _ _ h
theorem ValAt.new (w : World) (T : TypeId) (v : Value) : ValAt (w.alloc (.cells #[v] T)) w.heap.size T v := heap_alloc_new w _
structure ChkAt (b2 b3 : Nat) (w : World) (s : Int × Bool) : Prop where
  i2 : ValAt w b2 27 (.int .i64 s.1)
  i3 : ValAt w b3 4 (.bool s.2)
  ne : b2 ≠ b3
set_option maxHeartbeats 2000000 in
theorem chk_of (b2 b3 : Nat) (cs : Array Value) (t : Tn) (d : Nat) (w : World) (w0 : World) (s : Int × Bool) (ht : NodeAt w0 cs t) (hw0 : Chg Pure' w0 w) (h2 : w0.heap.size ≤ b2) (h3 : w0.heap.size ≤ b3) (hI : ChkAt b2 b3 w s) :
    Calls Tryd.prog 17 #[.agg cs, .int .i64 (d : Nat), .pointer (some ⟨b2, 0, none⟩), .pointer (some ⟨b3, 0, none⟩)] w fun e w' => e = .returned (.bool (chk1 s t d).2) ∧ ChkAt b2 b3 w' (chk1 s t d).1 ∧ Chg (fun k => k = b2 ∨ k = b3) w w' := by
  have htw := fun W hc => twins_of (w0 := w0) t cs W ht hc
  obtain ⟨Ab, cb, Ak, ck, Ai, ci, rfl, hP, -⟩ := ht.out
  have hal := fun W hc => alone_of t Ab cb Ak ck Ai ci W (hP.pure (w' := W) hc)
  obtain ⟨i2, i3, hne⟩ := hI
  obtain ⟨s1, s2⟩ := s
  simp only at i2 i3
  unfold chk1
  generalize aloneT t = a at *
  generalize twinsL t.keys = tw at *
  have hl2 := i2.lt
  have hl3 := i3.lt
  obtain ⟨w1, hw1⟩ : ∃ w1, w.alloc (.cells (nodeCells t Ab cb Ak ck Ai ci) 26) = w1 := ⟨_, rfl⟩
  have ca : Chg Pure' w w1 := by rw [← hw1]; exact (Chg.refl _ _).alloc _
  have hal1 := hal w1 (hw0.trans' ca)
  have hn : nodeCells t Ab cb Ak ck Ai ci = #[.int .i64 t.kind, .int .u64 (t.n.toNat : Int), .bool t.neg, .string ⟨t.dig.toArray⟩, .int .i64 t.exp, .string ⟨t.text.toArray⟩, .slice Ab t.bytes.length cb, .slice Ak t.keys.length ck, .slice Ai t.kids.length ci] := rfl
  have hblk : w1.heap[w.heap.size]? = some (.cells (nodeCells t Ab cb Ak ck Ai ci) 26 (0, 0)) := by rw [← hw1]; exact Array.getElem?_push_size
  rw [hn] at htw hal1 hw1 hblk ⊢
  go_enter Tryd.func17, Tryd.ntmps17
  go_upto_region 1 with (fail)
  have hal2 : ∀ w2, Chg Pure' w1 w2 → w2.heap[w.heap.size]? = some (.cells #[.int .i64 t.kind, .int .u64 (t.n.toNat : Int), .bool t.neg, .string ⟨t.dig.toArray⟩, .int .i64 t.exp, .string ⟨t.text.toArray⟩, .slice Ab t.bytes.length cb, .slice Ak t.keys.length ck, .slice Ai t.kids.length ci] 26 (0, 0)) :=
    fun w2 z => (z.block w.heap.size (Array.getElem?_eq_some_iff.1 hblk).1 (fun h => h)).trans hblk
  obtain ⟨o0, o1, o2, o3, o4, o5, o6, o7, o8⟩ := node_nine hblk
  clear hblk hal hP hn hw1
  by_cases ha : a = 0
  · subst ha
    cases s2
    · go_wp2_with (go_at_call 18; refine hal1.mono ?_)
      (first | rintro e w2 rfl z2 | rintro e w2 ⟨rfl, z2⟩)
      have hb := hal2 w2 z2
      obtain ⟨d0, d1, d2, d3, d4, d5, d6, d7, d8⟩ := node_nine hb
      have m2 := (i2.chg ca (fun h => h)).chg z2 (fun h => h)
      have m3 := (i3.chg ca (fun h => h)).chg z2 (fun h => h)
      have c2 := m2.cell
      have f2 := m2.free
      have q2 := m2.set (.int .i64 0)
      have C2 : Chg (fun k => k = b2) w2 (w2.setCell ⟨b2, 0, none⟩ (.int .i64 0)) := Chg.setCell (S := fun k => k = b2) (Chg.refl _ w2) (p := ⟨b2, 0, none⟩) (.inr rfl) _
      have q3 := m3.chg C2 (fun e : b3 = b2 => hne e.symm)
      have qb : (w2.setCell ⟨b2, 0, none⟩ (.int .i64 0)).heap[w.heap.size]? = _ := (C2.block w.heap.size (by have := ca.size; have := z2.size; have := (Array.getElem?_eq_some_iff.1 hb).1; omega) (fun e : w.heap.size = b2 => by omega)).trans hb
      obtain ⟨g0, g1, g2, g3, g4, g5, g6, g7, g8⟩ := node_nine qb
      have y2 := q2.cell
      have y3 := q3.cell
      have k3 := q3.free
      have HT := htw (w2.setCell ⟨b2, 0, none⟩ (.int .i64 0)) (((hw0.trans' ca).trans' z2).setCell (.inl h2) _)
      have HC := Lib.hid ((Chg.of_pure (S := fun k => k = b2 ∨ k = b3) (ca.trans' z2)).trans' (C2.mono (fun k _ h => .inl h)))
      have HQ := Lib.hid (And.intro q2 q3)
      have HNE := Lib.hid hne
      clear q2 q3 m2 m3 C2 hb qb ca z2
      go_wp2_with (go_at_call 19; refine HT.mono ?_)
      rintro e w3 ⟨rfl, z3⟩
      have p2 := HQ.out.1.chg z3 (fun h => h)
      have p3 := HQ.out.2.chg z3 (fun h => h)
      have x2 := p2.cell
      have x3 := p3.cell
      have e3 := p3.free
      have C3 : Chg (fun k => k = b3) w3 (w3.setCell ⟨b3, 0, none⟩ (.bool tw)) := Chg.setCell (S := fun k => k = b3) (Chg.refl _ w3) (p := ⟨b3, 0, none⟩) (.inr rfl) _
      have r3 := p3.set (.bool tw)
      have r2 := p2.chg C3 (fun e : b2 = b3 => HNE.out e)
      have x4 := r2.cell
      have HF := Lib.hid (⟨r2, r3, HNE.out⟩ : ChkAt b2 b3 _ (0, tw))
      have HE := Lib.hid ((HC.out.trans' (Chg.of_pure z3)).trans' (C3.mono (fun k _ h => .inr h)))
      clear p2 p3 r2 r3 C3 z3
      go_wp2
      go_ret
      exact ⟨rfl, by simpa using HF.out, HE.out⟩
    · go_wp2_with (go_at_call 18; refine hal1.mono ?_)
      (first | rintro e w2 rfl z2 | rintro e w2 ⟨rfl, z2⟩)
      have hb := hal2 w2 z2
      obtain ⟨d0, d1, d2, d3, d4, d5, d6, d7, d8⟩ := node_nine hb
      have m2 := (i2.chg ca (fun h => h)).chg z2 (fun h => h)
      have m3 := (i3.chg ca (fun h => h)).chg z2 (fun h => h)
      have c2 := m2.cell
      have f2 := m2.free
      have q2 := m2.set (.int .i64 0)
      have C2 : Chg (fun k => k = b2) w2 (w2.setCell ⟨b2, 0, none⟩ (.int .i64 0)) := Chg.setCell (S := fun k => k = b2) (Chg.refl _ w2) (p := ⟨b2, 0, none⟩) (.inr rfl) _
      have q3 := m3.chg C2 (fun e : b3 = b2 => hne e.symm)
      have qb : (w2.setCell ⟨b2, 0, none⟩ (.int .i64 0)).heap[w.heap.size]? = _ := (C2.block w.heap.size (by have := ca.size; have := z2.size; have := (Array.getElem?_eq_some_iff.1 hb).1; omega) (fun e : w.heap.size = b2 => by omega)).trans hb
      obtain ⟨g0, g1, g2, g3, g4, g5, g6, g7, g8⟩ := node_nine qb
      have y2 := q2.cell
      have y3 := q3.cell
      have k3 := q3.free
      have HT := htw (w2.setCell ⟨b2, 0, none⟩ (.int .i64 0)) (((hw0.trans' ca).trans' z2).setCell (.inl h2) _)
      have HC := Lib.hid ((Chg.of_pure (S := fun k => k = b2 ∨ k = b3) (ca.trans' z2)).trans' (C2.mono (fun k _ h => .inl h)))
      have HQ := Lib.hid (And.intro q2 q3)
      have HNE := Lib.hid hne
      clear q2 q3 m2 m3 C2 hb qb ca z2
      have C3 : Chg (fun k => k = b3) (w2.setCell ⟨b2, 0, none⟩ (.int .i64 0)) ((w2.setCell ⟨b2, 0, none⟩ (.int .i64 0)).setCell ⟨b3, 0, none⟩ (.bool true)) := Chg.setCell (S := fun k => k = b3) (Chg.refl _ _) (p := ⟨b3, 0, none⟩) (.inr rfl) _
      have r3 := HQ.out.2.set (.bool true)
      have r2 := HQ.out.1.chg C3 (fun e : b2 = b3 => HNE.out e)
      have x4 := r2.cell
      have HF := Lib.hid (⟨r2, r3, HNE.out⟩ : ChkAt b2 b3 _ (0, true))
      have HE := Lib.hid (HC.out.trans' (C3.mono (fun k _ h => .inr h)))
      clear r2 r3 C3
      go_wp2
      go_ret
      exact ⟨rfl, by simpa using HF.out, HE.out⟩
  · have ha' : (a == 0) = false := by simpa using ha
    cases s2
    · go_wp2_with (go_at_call 18; refine hal1.mono ?_)
      (first | rintro e w2 rfl z2 | rintro e w2 ⟨rfl, z2⟩)
      have hb := hal2 w2 z2
      obtain ⟨d0, d1, d2, d3, d4, d5, d6, d7, d8⟩ := node_nine hb
      have m2 := (i2.chg ca (fun h => h)).chg z2 (fun h => h)
      have m3 := (i3.chg ca (fun h => h)).chg z2 (fun h => h)
      have c2 := m2.cell
      have f2 := m2.free
      have q2 := m2.set (.int .i64 a)
      have C2 : Chg (fun k => k = b2) w2 (w2.setCell ⟨b2, 0, none⟩ (.int .i64 a)) := Chg.setCell (S := fun k => k = b2) (Chg.refl _ w2) (p := ⟨b2, 0, none⟩) (.inr rfl) _
      have q3 := m3.chg C2 (fun e : b3 = b2 => hne e.symm)
      have qb : (w2.setCell ⟨b2, 0, none⟩ (.int .i64 a)).heap[w.heap.size]? = _ := (C2.block w.heap.size (by have := ca.size; have := z2.size; have := (Array.getElem?_eq_some_iff.1 hb).1; omega) (fun e : w.heap.size = b2 => by omega)).trans hb
      obtain ⟨g0, g1, g2, g3, g4, g5, g6, g7, g8⟩ := node_nine qb
      have y2 := q2.cell
      have y3 := q3.cell
      have k3 := q3.free
      have HT := htw (w2.setCell ⟨b2, 0, none⟩ (.int .i64 a)) (((hw0.trans' ca).trans' z2).setCell (.inl h2) _)
      have HC := Lib.hid ((Chg.of_pure (S := fun k => k = b2 ∨ k = b3) (ca.trans' z2)).trans' (C2.mono (fun k _ h => .inl h)))
      have HQ := Lib.hid (And.intro q2 q3)
      have HNE := Lib.hid hne
      clear q2 q3 m2 m3 C2 hb qb ca z2
      have C3 : Chg (fun k => k = b3) (w2.setCell ⟨b2, 0, none⟩ (.int .i64 a)) ((w2.setCell ⟨b2, 0, none⟩ (.int .i64 a)).setCell ⟨b3, 0, none⟩ (.bool false)) := Chg.setCell (S := fun k => k = b3) (Chg.refl _ _) (p := ⟨b3, 0, none⟩) (.inr rfl) _
      have r3 := HQ.out.2.set (.bool false)
      have r2 := HQ.out.1.chg C3 (fun e : b2 = b3 => HNE.out e)
      have x4 := r2.cell
      have HF := Lib.hid (⟨r2, r3, HNE.out⟩ : ChkAt b2 b3 _ (a, false))
      have HE := Lib.hid (HC.out.trans' (C3.mono (fun k _ h => .inr h)))
      clear r2 r3 C3
      go_wp2
      go_ret
      exact ⟨by simp [ha], by simpa [ha] using HF.out, HE.out⟩
    · go_wp2_with (go_at_call 18; refine hal1.mono ?_)
      (first | rintro e w2 rfl z2 | rintro e w2 ⟨rfl, z2⟩)
      have hb := hal2 w2 z2
      obtain ⟨d0, d1, d2, d3, d4, d5, d6, d7, d8⟩ := node_nine hb
      have m2 := (i2.chg ca (fun h => h)).chg z2 (fun h => h)
      have m3 := (i3.chg ca (fun h => h)).chg z2 (fun h => h)
      have c2 := m2.cell
      have f2 := m2.free
      have q2 := m2.set (.int .i64 a)
      have C2 : Chg (fun k => k = b2) w2 (w2.setCell ⟨b2, 0, none⟩ (.int .i64 a)) := Chg.setCell (S := fun k => k = b2) (Chg.refl _ w2) (p := ⟨b2, 0, none⟩) (.inr rfl) _
      have q3 := m3.chg C2 (fun e : b3 = b2 => hne e.symm)
      have qb : (w2.setCell ⟨b2, 0, none⟩ (.int .i64 a)).heap[w.heap.size]? = _ := (C2.block w.heap.size (by have := ca.size; have := z2.size; have := (Array.getElem?_eq_some_iff.1 hb).1; omega) (fun e : w.heap.size = b2 => by omega)).trans hb
      obtain ⟨g0, g1, g2, g3, g4, g5, g6, g7, g8⟩ := node_nine qb
      have y2 := q2.cell
      have y3 := q3.cell
      have k3 := q3.free
      have HT := htw (w2.setCell ⟨b2, 0, none⟩ (.int .i64 a)) (((hw0.trans' ca).trans' z2).setCell (.inl h2) _)
      have HC := Lib.hid ((Chg.of_pure (S := fun k => k = b2 ∨ k = b3) (ca.trans' z2)).trans' (C2.mono (fun k _ h => .inl h)))
      have HQ := Lib.hid (And.intro q2 q3)
      have HNE := Lib.hid hne
      clear q2 q3 m2 m3 C2 hb qb ca z2
      have C3 : Chg (fun k => k = b3) (w2.setCell ⟨b2, 0, none⟩ (.int .i64 a)) ((w2.setCell ⟨b2, 0, none⟩ (.int .i64 a)).setCell ⟨b3, 0, none⟩ (.bool true)) := Chg.setCell (S := fun k => k = b3) (Chg.refl _ _) (p := ⟨b3, 0, none⟩) (.inr rfl) _
      have r3 := HQ.out.2.set (.bool true)
      have r2 := HQ.out.1.chg C3 (fun e : b2 = b3 => HNE.out e)
      have x4 := r2.cell
      have HF := Lib.hid (⟨r2, r3, HNE.out⟩ : ChkAt b2 b3 _ (a, true))
      have HE := Lib.hid (HC.out.trans' (C3.mono (fun k _ h => .inr h)))
      clear r2 r3 C3
      go_wp2
      go_ret
      exact ⟨by simp [ha], by simpa [ha] using HF.out, HE.out⟩
end Go.Proofs.YtafpkecjicphoaaDoor
