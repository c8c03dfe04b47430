/- tree.Check. -/
import Derived.Test.YtafpkecjicphoaaDoorTreeZ
namespace Go.Proofs.YtafpkecjicphoaaDoor
open Go Go.RowKit
set_option linter.unusedVariables false
set_option linter.unusedSimpArgs false
set_option maxRecDepth 100000

theorem deepTL_mem : ∀ {l : List Tn} {x : Tn}, x ∈ l → deepT x ≤ deepTL l
  | t :: l, x, h => by
    rw [deepTL]
    rcases List.mem_cons.1 h with rfl | h
    · omega
    · have := deepTL_mem h; omega
theorem deep_in {t x : Tn} (h : x ∈ t.keys ∨ x ∈ t.kids) : deepT x + 1 ≤ deepT t := by
  have e : deepT t = 1 + max (deepTL t.keys) (deepTL t.kids) := by cases t; rw [deepT]; rfl
  rcases h with h | h
  · have := deepTL_mem h; omega
  · have := deepTL_mem h; omega
theorem chk_visit (w0 : World) (b2 b3 : Nat) (h2 : w0.heap.size ≤ b2) (h3 : w0.heap.size ≤ b3) :
    Visit w0 chk1 (fun s d t => d + deepT t ≤ 25) (ChkAt b2 b3) (fun k => k = b2 ∨ k = b3) 17 #[.pointer (some ⟨b2, 0, none⟩), .pointer (some ⟨b3, 0, none⟩)] where
  keep a b s h hc := ⟨h.i2.chg hc (fun h => h), h.i3.chg hc (fun h => h), h.ne⟩
  new k hk := by omega
  old a s k h hk := by rcases hk with rfl | rfl; exact h.i2.lt; exact h.i3.lt
  enter args w := by kernel_rfl
  low s d t h := by omega
  kids s d t h hg x hx := by have := deep_in hx; omega
  stay s d t t' d' h h' hg := h
  call t cs d w s ht hR hc hI := chk_of b2 b3 cs t d w w0 s ht hc h2 h3 hI
set_option maxHeartbeats 2000000 in
theorem treeCheck_of (cs : Array Value) (t : Tn) (w : World) (ht : NodeAt w cs t) :
    Calls Tryd.prog 9 #[.agg cs] w fun e w' => e = .returned (.int .i64 (checkT t)) ∧ Chg Pure' w w' := by
  have hm := fun W hc => measure_of cs t W (ht.pure (w' := W) hc)
  have hwk := fun W b2 b3 h2 h3 hd hc hI => walk_of (chk_visit w b2 b3 h2 h3) (sizeT t) t (Nat.le_refl _) cs 1 W (0, false) ht hd hc hI
  obtain ⟨Ab, cb, Ak, ck, Ai, ci, rfl, -⟩ := ht.out
  have hn : nodeCells t Ab cb Ak ck Ai ci = #[.int .i64 t.kind, .int .u64 (t.n.toNat : Int), .bool t.neg, .string ⟨t.dig.toArray⟩, .int .i64 t.exp, .string ⟨t.text.toArray⟩, .slice Ab t.bytes.length cb, .slice Ak t.keys.length ck, .slice Ai t.kids.length ci] := rfl
  obtain ⟨w1, hw1⟩ : ∃ w1, w.alloc (.cells (nodeCells t Ab cb Ak ck Ai ci) 26) = w1 := ⟨_, rfl⟩
  have ca : Chg Pure' w w1 := by rw [← hw1]; exact (Chg.refl _ _).alloc _
  have hm1 := hm w1 ca
  have hblk : w1.heap[w.heap.size]? = some (.cells (nodeCells t Ab cb Ak ck Ai ci) 26 (0, 0)) := by rw [← hw1]; exact Array.getElem?_push_size
  rw [hn] at hm1 hwk hw1 hblk ⊢
  obtain ⟨o0, o1, o2, o3, o4, o5, o6, o7, o8⟩ := node_nine hblk
  have hdd : sizeM t ≤ 1024 → deepM t ≤ 24 → 1 + deepT t ≤ 25 := by
    intro h1 h2
    unfold sizeM at h1
    unfold deepM at h2
    split at h1
    · rename_i h; rw [if_pos h] at h2; omega
    · omega
  have hsm : sizeM t ≤ 1025 := by unfold sizeM; split <;> omega
  unfold checkT
  generalize sizeM t = sz at *
  generalize deepM t = dp at *
  by_cases hs : 1024 < sz
  · rw [if_pos hs]
    go_enter Tryd.func9, Tryd.ntmps9
    go_upto_region 1 with (fail)
    clear hwk hw1 hblk
    go_wp2_with (go_at_call 15; refine hm1.mono ?_)
    first | rintro e w2 rfl z2 | rintro e w2 ⟨rfl, z2⟩
    go_wp2
    go_ret
    exact ⟨rfl, ca.trans' z2⟩
  rw [if_neg hs]
  by_cases hd : 24 < dp
  · rw [if_pos hd]
    go_enter Tryd.func9, Tryd.ntmps9
    go_upto_region 1 with (fail)
    clear hwk hw1 hblk
    go_wp2_with (go_at_call 15; refine hm1.mono ?_)
    first | rintro e w2 rfl z2 | rintro e w2 ⟨rfl, z2⟩
    go_wp2
    go_ret
    exact ⟨rfl, ca.trans' z2⟩
  rw [if_neg hd]
  obtain ⟨⟨⟨R1, R2⟩, R3⟩, hR⟩ : ∃ r, actT chk1 t 1 (0, false) = r := ⟨_, rfl⟩
  rw [hR] at hwk ⊢
  simp only at hwk ⊢
  obtain ⟨F, hF⟩ : ∃ F, (if R1 = 0 ∧ R2 = true then 9 else R1 : Int) = F := ⟨_, rfl⟩
  rw [hF]
  replace hF := Lib.hid hF
  have hdd1 := hdd (by omega) (by omega)
  clear hdd hR ht hm hn
  go_enter Tryd.func9, Tryd.ntmps9
  go_upto_region 1 with (fail)
  go_wp2_with (go_at_call 15; refine hm1.mono ?_)
  first | rintro e w2 rfl z2 | rintro e w2 ⟨rfl, z2⟩
  have hblk2 := (z2.block w.heap.size (Array.getElem?_eq_some_iff.1 hblk).1 (fun h => h)).trans hblk
  obtain ⟨w4, hw4⟩ : ∃ w4, (w2.alloc (.cells #[.int .i64 0] 27)).alloc (.cells #[.bool false] 4) = w4 := ⟨_, rfl⟩
  have c4 : Chg Pure' w2 w4 := by rw [← hw4]; exact ((Chg.refl _ _).alloc _).alloc _
  have hblk4 := (c4.block w.heap.size (Array.getElem?_eq_some_iff.1 hblk2).1 (fun h => h)).trans hblk2
  obtain ⟨p0, p1, p2, p3, p4, p5, p6, p7, p8⟩ := node_nine hblk4
  have hsz := (ca.trans' z2).size
  have hI : ChkAt w2.heap.size (w2.heap.size + 1) w4 (0, false) := by
    rw [← hw4]
    refine ⟨(ValAt.new w2 _ _).chg ((Chg.refl Pure' _).alloc _) (fun h => h), ?_, by omega⟩
    have := ValAt.new (w2.alloc (.cells #[.int .i64 0] 27)) 4 (.bool false)
    rw [show (w2.alloc (.cells #[.int .i64 0] 27)).heap.size = w2.heap.size + 1 by simp] at this
    exact this
  have a2 := hI.i2.cell
  have af2 := hI.i2.free
  have D2 : Chg (fun k => k = w2.heap.size) w4 (w4.setCell ⟨w2.heap.size, 0, none⟩ (.int .i64 0)) := Chg.setCell (S := fun k => k = w2.heap.size) (Chg.refl _ _) (p := ⟨w2.heap.size, 0, none⟩) (.inr rfl) _
  have n2 := hI.i2.set (.int .i64 0)
  have n3 := hI.i3.chg D2 (fun e => absurd e (by omega))
  have a3 := n3.cell
  have af3 := n3.free
  have D3 : Chg (fun k => k = w2.heap.size + 1) (w4.setCell ⟨w2.heap.size, 0, none⟩ (.int .i64 0)) ((w4.setCell ⟨w2.heap.size, 0, none⟩ (.int .i64 0)).setCell ⟨w2.heap.size + 1, 0, none⟩ (.bool false)) := Chg.setCell (S := fun k => k = w2.heap.size + 1) (Chg.refl _ _) (p := ⟨w2.heap.size + 1, 0, none⟩) (.inr rfl) _
  have l3 := n3.set (.bool false)
  have l2 := n2.chg D3 (fun e => absurd e (by omega))
  have s4 := c4.size
  have C6 : Chg Pure' w ((w4.setCell ⟨w2.heap.size, 0, none⟩ (.int .i64 0)).setCell ⟨w2.heap.size + 1, 0, none⟩ (.bool false)) := (((ca.trans' z2).trans' c4).setCell (.inl hsz) _).setCell (.inl (by simp only; omega)) _
  have hlt4 : w.heap.size < w2.heap.size := by have := z2.size; have := (Array.getElem?_eq_some_iff.1 hblk).1; omega
  have hblk6 := (D3.block w.heap.size (by have := D2.size; have := s4; omega) (fun e => absurd e (by omega))).trans ((D2.block w.heap.size (by omega) (fun e => absurd e (by omega))).trans hblk4)
  clear p0 p1 p2 p3 p4 p5 p6 p7 p8
  obtain ⟨p0, p1, p2, p3, p4, p5, p6, p7, p8⟩ := node_nine hblk6
  have HCW := hwk _ w2.heap.size (w2.heap.size + 1) (by omega) (by omega) hdd1 C6 ⟨l2, l3, by omega⟩
  have C4 := Lib.hid C6
  have HSZ := Lib.hid hsz
  clear hwk hI D2 D3 n2 n3 l2 l3 C6 hblk6 hblk4 hblk2 hblk
  go_wp2_with (go_at_call 16; refine HCW.mono ?_)
  rintro e w5 ⟨rfl, hI5, z5⟩
  have e2 := hI5.i2.cell
  have e3 := hI5.i3.cell
  have C5 := Lib.hid (C4.out.trans z5 (fun k hk h => by have := HSZ.out; omega))
  clear hI5 z5 HCW
  simp only at e2 e3
  have HR : Hid (F = if R1 = 0 ∧ R2 = true then 9 else R1) := Lib.hid hF.out.symm
  by_cases h1 : R1 = 0
  · subst h1
    cases R2
    · have h9 : F = 0 := by rw [HR.out, if_neg (by simp)]
      clear HR hF
      go_wp2
      go_ret
      exact ⟨by rw [h9]; rfl, C5.out⟩
    · have h9 : F = 9 := by rw [HR.out, if_pos (by simp)]
      clear HR hF
      go_wp2
      go_ret
      exact ⟨by rw [h9]; rfl, C5.out⟩
  · have h9 : F = R1 := by rw [HR.out, if_neg (by simp [h1])]
    have h1' : (R1 == 0) = false := by simpa using h1
    clear HR hF
    go_wp2
    go_ret
    exact ⟨by rw [h9]; rfl, C5.out⟩
end Go.Proofs.YtafpkecjicphoaaDoor
