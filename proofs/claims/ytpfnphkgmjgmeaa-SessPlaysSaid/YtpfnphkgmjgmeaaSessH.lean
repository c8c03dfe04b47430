/- Package sess, going on: Hello. -/
import Derived.Test.YtpfnphkgmjgmeaaSessG
namespace Go.Proofs.Ytpfnphkgmjgmeaa
open Go Go.RowKit
set_option linter.unusedVariables false
set_option linter.unusedSimpArgs false

/-- What Hello answers, and what stands behind it. -/
def helloOf (T : Tb) (m : Mg) (d : UInt64) (now : Int) : (Mg × Int) × Tb :=
  if m.kind ≠ 3 ∨ (m.format ≠ 1 ∧ m.format ≠ 2) then ((resetM m.token, 12), tickT T now)
  else if m.token = 0 then
    (if beginE (tickT T now) d ≠ 0 then ((resetM m.token, beginE (tickT T now) d), tickT T now)
     else ((welcomeM d 1 m.format, 0), { beginT (tickT T now) d with L := (beginT (tickT T now) d).L.set (tickT T now).L.length ⟨d, 1, m.format, (tickT T now).now⟩ }))
  else if place (tickT T now).L m.token = -1 then ((resetM m.token, 15), tickT T now)
  else ((welcomeM m.token (((tickT T now).L.getD (place (tickT T now).L m.token).toNat ⟨0, 0, 0, 0⟩).epoch + 1) m.format, 0),
    { tickT T now with L := (tickT T now).L.set (place (tickT T now).L m.token).toNat ⟨m.token, ((tickT T now).L.getD (place (tickT T now).L m.token).toNat ⟨0, 0, 0, 0⟩).epoch + 1, m.format, (tickT T now).now⟩ })
/-- A block of the nine cells of a message. -/
def MsgBlk (w : World) (b : Nat) : Prop := (∃ cs, w.heap[b]? = some (.cells cs 32 (0, 0)) ∧ cs.size = 9)
theorem MsgBlk.lt {w : World} {b : Nat} (h : MsgBlk w b) : b < w.heap.size := by
  obtain ⟨cs, h1, _⟩ := h
  exact (Array.getElem?_eq_some_iff.1 h1).1
theorem MsgBlk.chg {w w' : World} {S : Nat → Prop} {b : Nat} (h : MsgBlk w b) (hc : Chg S w w') (hb : ¬ S b) : MsgBlk w' b := by
  have hl := h.lt
  obtain ⟨cs, h1, h2⟩ := h
  exact ⟨cs, (hc.block b hl hb).trans h1, h2⟩
theorem MsgBlk.cells {w : World} {b : Nat} (h : MsgBlk w b) : (∃ v0 v1 v2 v3 v4 v5 v6 v7 v8, w.cell? ⟨b, 0, none⟩ = some v0 ∧ w.cell? ⟨b, 1, none⟩ = some v1 ∧ w.cell? ⟨b, 2, none⟩ = some v2 ∧ w.cell? ⟨b, 3, none⟩ = some v3 ∧ w.cell? ⟨b, 4, none⟩ = some v4 ∧ w.cell? ⟨b, 5, none⟩ = some v5 ∧
    w.cell? ⟨b, 6, none⟩ = some v6 ∧ w.cell? ⟨b, 7, none⟩ = some v7 ∧ w.cell? ⟨b, 8, none⟩ = some v8) ∧ ∀ j, w.frozen? ⟨b, j, none⟩ = false := by
  obtain ⟨cs, h1, h2⟩ := h
  have hc := fun j => cell_of_row w b j cs _ _ h1
  have hg : ∀ j, j < 9 → ∃ v, cs[j]? = some v := fun j hj => ⟨cs[j]'(by omega), by simp [h2, hj]⟩
  obtain ⟨v0, e0⟩ := hg 0 (by omega)
  obtain ⟨v1, e1⟩ := hg 1 (by omega)
  obtain ⟨v2, e2⟩ := hg 2 (by omega)
  obtain ⟨v3, e3⟩ := hg 3 (by omega)
  obtain ⟨v4, e4⟩ := hg 4 (by omega)
  obtain ⟨v5, e5⟩ := hg 5 (by omega)
  obtain ⟨v6, e6⟩ := hg 6 (by omega)
  obtain ⟨v7, e7⟩ := hg 7 (by omega)
  obtain ⟨v8, e8⟩ := hg 8 (by omega)
  exact ⟨⟨v0, v1, v2, v3, v4, v5, v6, v7, v8, (hc 0).trans e0, (hc 1).trans e1, (hc 2).trans e2, (hc 3).trans e3, (hc 4).trans e4, (hc 5).trans e5, (hc 6).trans e6, (hc 7).trans e7, (hc 8).trans e8⟩, fun j => free_at h1⟩
theorem set9 {w : World} {b : Nat} (h : MsgBlk w b) (v0 v1 v2 v3 v4 v5 v6 v7 v8 : Value) : ∃ w5, w5 = (((((((((w.setCell ⟨b, 0, none⟩ v0).setCell ⟨b, 1, none⟩ v1).setCell ⟨b, 2, none⟩ v2).setCell ⟨b, 3, none⟩ v3).setCell ⟨b, 4, none⟩ v4).setCell ⟨b, 5, none⟩ v5).setCell ⟨b, 6, none⟩ v6).setCell ⟨b, 7, none⟩ v7).setCell ⟨b, 8, none⟩ v8) ∧ Chg (fun k => k = b) w w5 ∧ MsgBlk w5 b ∧ w5.cell? ⟨b, 0, none⟩ = some v0 ∧ w5.cell? ⟨b, 1, none⟩ = some v1 ∧ w5.cell? ⟨b, 2, none⟩ = some v2 ∧ w5.cell? ⟨b, 3, none⟩ = some v3 ∧ w5.cell? ⟨b, 4, none⟩ = some v4 ∧ w5.cell? ⟨b, 5, none⟩ = some v5 ∧ w5.cell? ⟨b, 6, none⟩ = some v6 ∧ w5.cell? ⟨b, 7, none⟩ = some v7 ∧ w5.cell? ⟨b, 8, none⟩ = some v8 := by
  obtain ⟨⟨x0, x1, x2, x3, x4, x5, x6, x7, x8, r0, r1, r2, r3, r4, r5, r6, r7, r8⟩, rf⟩ := h.cells
  have one : ∀ (w : World) (j : Nat) (u : Value), MsgBlk w b → MsgBlk (w.setCell ⟨b, j, none⟩ u) b := by
    rintro w j u ⟨cs, h1, h2⟩
    exact ⟨_, heap_setCell_same w b j cs _ _ h1, by simpa using h2⟩
  have chg : ∀ (w : World) (j : Nat) (u : Value), Chg (fun k => k = b) w (w.setCell ⟨b, j, none⟩ u) := fun w j u => Chg.setCell (S := fun k => k = b) (Chg.refl _ w) (p := ⟨b, j, none⟩) (.inr rfl) u
  refine ⟨_, rfl, ?_, ?_, ?_⟩
  · exact ((((((((chg _ _ _).trans' (chg _ _ _)).trans' (chg _ _ _)).trans' (chg _ _ _)).trans' (chg _ _ _)).trans' (chg _ _ _)).trans' (chg _ _ _)).trans' (chg _ _ _)).trans' (chg _ _ _)
  · exact one _ _ _ (one _ _ _ (one _ _ _ (one _ _ _ (one _ _ _ (one _ _ _ (one _ _ _ (one _ _ _ (one _ _ _ h))))))))
  · refine ⟨?_, ?_, ?_, ?_, ?_, ?_, ?_, ?_, ?_⟩
    · rw [set_far (by omega), set_far (by omega), set_far (by omega), set_far (by omega), set_far (by omega), set_far (by omega), set_far (by omega), set_far (by omega)]; exact set_at (u := x0) r0
    · rw [set_far (by omega), set_far (by omega), set_far (by omega), set_far (by omega), set_far (by omega), set_far (by omega), set_far (by omega)]; exact set_at (u := x1) (by rw [set_far (by omega)]; exact r1)
    · rw [set_far (by omega), set_far (by omega), set_far (by omega), set_far (by omega), set_far (by omega), set_far (by omega)]; exact set_at (u := x2) (by rw [set_far (by omega), set_far (by omega)]; exact r2)
    · rw [set_far (by omega), set_far (by omega), set_far (by omega), set_far (by omega), set_far (by omega)]; exact set_at (u := x3) (by rw [set_far (by omega), set_far (by omega), set_far (by omega)]; exact r3)
    · rw [set_far (by omega), set_far (by omega), set_far (by omega), set_far (by omega)]; exact set_at (u := x4) (by rw [set_far (by omega), set_far (by omega), set_far (by omega), set_far (by omega)]; exact r4)
    · rw [set_far (by omega), set_far (by omega), set_far (by omega)]; exact set_at (u := x5) (by rw [set_far (by omega), set_far (by omega), set_far (by omega), set_far (by omega), set_far (by omega)]; exact r5)
    · rw [set_far (by omega), set_far (by omega)]; exact set_at (u := x6) (by rw [set_far (by omega), set_far (by omega), set_far (by omega), set_far (by omega), set_far (by omega), set_far (by omega)]; exact r6)
    · rw [set_far (by omega)]; exact set_at (u := x7) (by rw [set_far (by omega), set_far (by omega), set_far (by omega), set_far (by omega), set_far (by omega), set_far (by omega), set_far (by omega)]; exact r7)
    · exact set_at (u := x8) (by rw [set_far (by omega), set_far (by omega), set_far (by omega), set_far (by omega), set_far (by omega), set_far (by omega), set_far (by omega), set_far (by omega)]; exact r8)
theorem set4 {w : World} {a : Nat} {x : Se} (h : SeAt w a x) (y : Se) : ∃ w5, w5 = ((((w.setCell ⟨a, 0, none⟩ (.int .u64 (y.token.toNat : Int))).setCell ⟨a, 1, none⟩ (.int .i64 y.epoch)).setCell ⟨a, 2, none⟩ (.int .i64 y.format)).setCell ⟨a, 3, none⟩ (.int .i64 y.last)) ∧ Chg (fun k => k = a) w w5 ∧ SeAt w5 a y := by
  have chg : ∀ (w : World) (j : Nat) (u : Value), Chg (fun k => k = a) w (w.setCell ⟨a, j, none⟩ u) := fun w j u => Chg.setCell (S := fun k => k = a) (Chg.refl _ w) (p := ⟨a, j, none⟩) (.inr rfl) u
  obtain ⟨cs, b1, b2⟩ := h.blk
  refine ⟨_, rfl, (((chg _ _ _).trans' (chg _ _ _)).trans' (chg _ _ _)).trans' (chg _ _ _), ⟨_, heap_setCell_same _ a 3 _ _ _ (heap_setCell_same _ a 2 _ _ _ (heap_setCell_same _ a 1 _ _ _ (heap_setCell_same w a 0 _ _ _ b1))), by simpa using b2⟩, ?_, ?_, ?_, ?_⟩
  · rw [set_far (by omega), set_far (by omega), set_far (by omega)]; exact set_at h.c0
  · rw [set_far (by omega), set_far (by omega)]; exact set_at (u := .int .i64 x.epoch) (by rw [set_far (by omega)]; exact h.c1)
  · rw [set_far (by omega)]; exact set_at (u := .int .i64 x.format) (by rw [set_far (by omega), set_far (by omega)]; exact h.c2)
  · exact set_at (u := .int .i64 x.last) (by rw [set_far (by omega), set_far (by omega), set_far (by omega)]; exact h.c3)
set_option maxHeartbeats 4000000 in
theorem hello_of {w : World} {p ub : Nat} {bs : List Nat} {v : Value} {T : Tb} {cnt : Nat} (h : TabOf w p ub bs v T cnt) (m : Mg) (d : UInt64) (now : Int) (hcnt : cnt ≤ 4611686018427387904) :
    Calls Try.prog 11 #[.pointer (some ⟨p, 0, none⟩), m.val, .int .u64 (d.toNat : Int), .int .i64 now] w fun e w' => e = .returned (.tuple #[(helloOf T m d now).1.1.val, .int .i64 (helloOf T m d now).1.2]) ∧ Chg (TFoot p ub bs v) w w' ∧
      ∃ bs' v', TabOf w' p ub bs' v' (helloOf T m d now).2 (cnt + 1) ∧ ∀ k, TFoot p ub bs' v' k → TFoot p ub bs v k ∨ w.heap.size ≤ k := by
  obtain ⟨mk, mt, me, ms, ma, mb, mc, mf, mA, mn, mq⟩ := m
  have hz := zero_msg20
  have hmf : ∀ (fn : Fn) (first cap : Array Value) (w : World), (Instr.makeFunc fn first cap).run Try.prog w = .ok (.func fn first cap) w := fun _ _ _ _ => rfl
  have HF := Lib.hid (fun k (hk : TFoot p ub bs v k) => h.flt hk)
  have c1 : Chg Pure' w (w.alloc (.cells #[.int .i64 mk, .int .u64 (mt.toNat : Int), .int .i64 me, .int .i64 ms, .int .i64 ma, .int .u64 (mb.toNat : Int), .int .i64 mc, .int .i64 mf, .slice mA mn mq] 32)) := (Chg.refl _ w).alloc _
  have hs1 : (w.alloc (.cells #[.int .i64 mk, .int .u64 (mt.toNat : Int), .int .i64 me, .int .i64 ms, .int .i64 ma, .int .u64 (mb.toNat : Int), .int .i64 mc, .int .i64 mf, .slice mA mn mq] 32)).heap.size = w.heap.size + 1 := by simp
  have c2 : Chg Pure' (w.alloc (.cells #[.int .i64 mk, .int .u64 (mt.toNat : Int), .int .i64 me, .int .i64 ms, .int .i64 ma, .int .u64 (mb.toNat : Int), .int .i64 mc, .int .i64 mf, .slice mA mn mq] 32)) ((w.alloc (.cells #[.int .i64 mk, .int .u64 (mt.toNat : Int), .int .i64 me, .int .i64 ms, .int .i64 ma, .int .u64 (mb.toNat : Int), .int .i64 mc, .int .i64 mf, .slice mA mn mq] 32)).alloc (.cells #[.int .i64 0, .int .u64 0, .int .i64 0, .int .i64 0, .int .i64 0, .int .u64 0, .int .i64 0, .int .i64 0, .slice none 0 0] 32)) := (Chg.refl _ _).alloc _
  have l0 : (w.alloc (.cells #[.int .i64 mk, .int .u64 (mt.toNat : Int), .int .i64 me, .int .i64 ms, .int .i64 ma, .int .u64 (mb.toNat : Int), .int .i64 mc, .int .i64 mf, .slice mA mn mq] 32)).cell? ⟨w.heap.size, 0, none⟩ = some (.int .i64 mk) := cellAt_alloc_lit w _ _ 0
  have l1 : (w.alloc (.cells #[.int .i64 mk, .int .u64 (mt.toNat : Int), .int .i64 me, .int .i64 ms, .int .i64 ma, .int .u64 (mb.toNat : Int), .int .i64 mc, .int .i64 mf, .slice mA mn mq] 32)).cell? ⟨w.heap.size, 1, none⟩ = some (.int .u64 (mt.toNat : Int)) := cellAt_alloc_lit w _ _ 1
  have l7 : (w.alloc (.cells #[.int .i64 mk, .int .u64 (mt.toNat : Int), .int .i64 me, .int .i64 ms, .int .i64 ma, .int .u64 (mb.toNat : Int), .int .i64 mc, .int .i64 mf, .slice mA mn mq] 32)).cell? ⟨w.heap.size, 7, none⟩ = some (.int .i64 mf) := cellAt_alloc_lit w _ _ 7
  have k0 := c2.cell l0 (fun h => h)
  have k1 := c2.cell l1 (fun h => h)
  have k7 := c2.cell l7 (fun h => h)
  have hb : MsgBlk ((w.alloc (.cells #[.int .i64 mk, .int .u64 (mt.toNat : Int), .int .i64 me, .int .i64 ms, .int .i64 ma, .int .u64 (mb.toNat : Int), .int .i64 mc, .int .i64 mf, .slice mA mn mq] 32)).alloc (.cells #[.int .i64 0, .int .u64 0, .int .i64 0, .int .i64 0, .int .i64 0, .int .u64 0, .int .i64 0, .int .i64 0, .slice none 0 0] 32)) (w.heap.size + 1) := ⟨_, by rw [← hs1]; exact heap_alloc_new _ _, rfl⟩
  have H2 := Lib.hid ((h.pure c1).pure c2)
  have cc := c1.pure c2
  have hs2 : ((w.alloc (.cells #[.int .i64 mk, .int .u64 (mt.toNat : Int), .int .i64 me, .int .i64 ms, .int .i64 ma, .int .u64 (mb.toNat : Int), .int .i64 mc, .int .i64 mf, .slice mA mn mq] 32)).alloc (.cells #[.int .i64 0, .int .u64 0, .int .i64 0, .int .i64 0, .int .i64 0, .int .u64 0, .int .i64 0, .int .i64 0, .slice none 0 0] 32)).heap.size = w.heap.size + 2 := by simp
  clear l0 l1 l7 c1 c2 hs1 h
  rw [show (Mg.val ⟨mk, mt, me, ms, ma, mb, mc, mf, mA, mn, mq⟩) = .agg #[.int .i64 mk, .int .u64 (mt.toNat : Int), .int .i64 me, .int .i64 ms, .int .i64 ma, .int .u64 (mb.toNat : Int), .int .i64 mc, .int .i64 mf, .slice mA mn mq] from rfl]
  obtain ⟨M, hM⟩ : ∃ M : Mg, (⟨mk, mt, me, ms, ma, mb, mc, mf, mA, mn, mq⟩ : Mg) = M := ⟨_, rfl⟩
  rw [hM]
  have HMM := Lib.hid hM
  clear hM
  go_enter Try.func11, Try.ntmps11
  go_wp2_with (fail)
  generalize ((w.alloc (.cells #[.int .i64 mk, .int .u64 (mt.toNat : Int), .int .i64 me, .int .i64 ms, .int .i64 ma, .int .u64 (mb.toNat : Int), .int .i64 mc, .int .i64 mf, .slice mA mn mq] 32)).alloc (.cells #[.int .i64 0, .int .u64 0, .int .i64 0, .int .i64 0, .int .i64 0, .int .u64 0, .int .i64 0, .int .i64 0, .slice none 0 0] 32)) = w2 at *
  refine (tok_any H2.out).mono ?_
  rintro e w' ⟨rfl, rfl⟩
  go_wp2_with (fail)
  refine (tick_of H2.out now).mono ?_
  rintro e w3 ⟨ve, rfl, hve, c3, bs3, v3, h3, hf3⟩
  obtain ⟨Be, qe, rfl, -, -, -⟩ := own_slice hve
  have nt : ∀ k, w.heap.size ≤ k → ¬ TFoot p ub bs v k := fun k hk e => by have := HF.out k e; omega
  have y0 := c3.cell k0 (nt _ (Nat.le_refl _))
  have y1 := c3.cell k1 (nt _ (Nat.le_refl _))
  have y7 := c3.cell k7 (nt _ (Nat.le_refl _))
  have hb3 := hb.chg c3 (nt _ (Nat.le_succ _))
  have C3 := (cc.of_pure).trans' c3
  have H3 := Lib.hid h3
  have HF3 := Lib.hid (fun k (hk : TFoot p ub bs3 v3 k) => HF.out k (hf3 k hk))
  have hs3 : w.heap.size + 2 ≤ w3.heap.size := by have := c3.size; omega
  have hfl3 := Lib.hid hf3
  clear k0 k1 k7 hb c3 h3 hf3 hve cc hs2
  -- refused for its kind
  by_cases hkd : mk ≠ 3 ∨ (mf ≠ 1 ∧ mf ≠ 2)
  · have hR : helloOf T M d now = ((resetM mt, 12), tickT T now) := by
      rw [← HMM.out]; unfold helloOf; rw [if_pos hkd]
    have HR := Lib.hid hR
    clear hR
    by_cases hk3 : mk = 3
    · subst hk3
      have i1 : ((3 : Int) != 3) = false := rfl
      have i2 : (mf != 1) = true := by rw [bne_iff_ne]; omega
      have i3 : (mf != 2) = true := by rw [bne_iff_ne]; omega
      clear hkd
      go_wp2_with (fail)
      refine (refuse_any w.heap.size mt 12 _ y1 (by omega)).mono ?_
      rintro e w4 ⟨rfl, c4⟩
      have hb4 := hb3.chg c4 (fun h => h)
      obtain ⟨⟨v0, v1, v2, v3, v4, v5, v6, v7, v8, r0, r1, r2, r3, r4, r5, r6, r7, r8⟩, rf⟩ := hb4.cells
      obtain ⟨w5, e5, c5, -, f0, f1, f2, f3, f4, f5, f6, f7, f8⟩ := set9 hb4 (.int .i64 5) (.int .u64 (mt.toNat : Int)) (.int .i64 0) (.int .i64 0) (.int .i64 0) (.int .u64 0) (.int .i64 0) (.int .i64 0) (.slice none 0 0)
      rw [show (resetM mt).val = .agg #[.int .i64 5, .int .u64 (mt.toNat : Int), .int .i64 0, .int .i64 0, .int .i64 0, .int .u64 0, .int .i64 0, .int .i64 0, .slice none 0 0] from rfl]
      have E5 := Lib.hid e5
      clear e5
      go_wp2_with (fail)
      rw [← E5.out]
      clear r0 r1 r2 r3 r4 r5 r6 r7 r8 rf
      refine bodyPost_ret (v := .tuple #[(resetM mt).val, .int .i64 12]) ?_ rfl ⟨by rw [HR.out], (C3.pure c4).trans c5 (fun i hi e => by have e : i = w.heap.size + 1 := e; omega), bs3, _, by rw [HR.out]; exact ((H3.out.pure c4).frame c5 (fun k hk e => by have := HF3.out k hk; have e : k = w.heap.size + 1 := e; omega)).more, fun k hk => .inl (hfl3.out k hk)⟩
      unfold results
      go_simp
      try rfl
    · have i1 : (mk != 3) = true := by rw [bne_iff_ne]; exact hk3
      clear hkd hk3
      go_wp2_with (fail)
      refine (refuse_any w.heap.size mt 12 _ y1 (by omega)).mono ?_
      rintro e w4 ⟨rfl, c4⟩
      have hb4 := hb3.chg c4 (fun h => h)
      obtain ⟨⟨v0, v1, v2, v3, v4, v5, v6, v7, v8, r0, r1, r2, r3, r4, r5, r6, r7, r8⟩, rf⟩ := hb4.cells
      obtain ⟨w5, e5, c5, -, f0, f1, f2, f3, f4, f5, f6, f7, f8⟩ := set9 hb4 (.int .i64 5) (.int .u64 (mt.toNat : Int)) (.int .i64 0) (.int .i64 0) (.int .i64 0) (.int .u64 0) (.int .i64 0) (.int .i64 0) (.slice none 0 0)
      rw [show (resetM mt).val = .agg #[.int .i64 5, .int .u64 (mt.toNat : Int), .int .i64 0, .int .i64 0, .int .i64 0, .int .u64 0, .int .i64 0, .int .i64 0, .slice none 0 0] from rfl]
      have E5 := Lib.hid e5
      clear e5
      go_wp2_with (fail)
      rw [← E5.out]
      clear r0 r1 r2 r3 r4 r5 r6 r7 r8 rf
      refine bodyPost_ret (v := .tuple #[(resetM mt).val, .int .i64 12]) ?_ rfl ⟨by rw [HR.out], (C3.pure c4).trans c5 (fun i hi e => by have e : i = w.heap.size + 1 := e; omega), bs3, _, by rw [HR.out]; exact ((H3.out.pure c4).frame c5 (fun k hk e => by have := HF3.out k hk; have e : k = w.heap.size + 1 := e; omega)).more, fun k hk => .inl (hfl3.out k hk)⟩
      unfold results
      go_simp
      try rfl
  · have hmk : mk = 3 := by omega
    subst hmk
    have hff : mf = 1 ∨ mf = 2 := by omega
    have i1 : ((3 : Int) != 3) = false := rfl
    have HK := Lib.hid hkd
    clear hkd
    rcases hff with hf | hf
    case' inl =>
      have j1 : (mf != 1) = false := by rw [hf]; rfl
      have j2 : (mf != 2) = true := by rw [hf]; rfl
    case' inr =>
      have j1 : (mf != 1) = true := by rw [hf]; rfl
      have j2 : (mf != 2) = false := by rw [hf]; rfl
    all_goals
      clear hf
      by_cases hm0 : mt = 0
      · have hm1 : ((mt.toNat : Int) == 0) = true := by rw [hm0]; rfl
        have HM0 := Lib.hid hm0
        clear hm0
        go_wp2_with (fail)
        refine (begin_of H3.out d hcnt).mono ?_
        rintro e w4 (⟨hne, rfl, c4⟩ | ⟨hz0, c4, a, v4, rfl, ha, h4, hv4⟩)
        · have hR : helloOf T M d now = ((resetM mt, beginE (tickT T now) d), tickT T now) := by
            rw [← HMM.out]; unfold helloOf; rw [if_neg HK.out, if_pos HM0.out, if_pos hne]
          have HR := Lib.hid hR
          have i4 : (beginE (tickT T now) d != 0) = true := by rw [bne_iff_ne]; exact hne
          generalize beginE (tickT T now) d = E at *
          clear hR hne
          have hs4 := c4.size
          have y1 := c4.cell y1 (fun h => h)
          have hb3 := hb3.chg c4 (fun h => h)
          have C3 := C3.pure c4
          have H3 := Lib.hid (H3.out.pure c4)
          go_wp2_with (fail)
          refine (refuse_any w.heap.size mt E _ y1 (by omega)).mono ?_
          rintro e w6 ⟨rfl, c6⟩
          have hb6 := hb3.chg c6 (fun h => h)
          obtain ⟨⟨v0, v1, v2, v3, v4', v5, v6, v7, v8, r0, r1, r2, r3, r4, r5, r6, r7, r8⟩, rf⟩ := hb6.cells
          obtain ⟨w5, e5, c5, -, f0, f1, f2, f3, f4, f5, f6, f7, f8⟩ := set9 hb6 (.int .i64 5) (.int .u64 (mt.toNat : Int)) (.int .i64 0) (.int .i64 0) (.int .i64 0) (.int .u64 0) (.int .i64 0) (.int .i64 0) (.slice none 0 0)
          rw [show (resetM mt).val = .agg #[.int .i64 5, .int .u64 (mt.toNat : Int), .int .i64 0, .int .i64 0, .int .i64 0, .int .u64 0, .int .i64 0, .int .i64 0, .slice none 0 0] from rfl]
          have E5 := Lib.hid e5
          clear e5
          go_wp2_with (fail)
          rw [← E5.out]
          clear r0 r1 r2 r3 r4 r5 r6 r7 r8 rf
          refine bodyPost_ret (v := .tuple #[(resetM mt).val, .int .i64 E]) ?_ rfl ⟨by rw [HR.out], (C3.pure c6).trans c5 (fun i hi e => by have e : i = w.heap.size + 1 := e; omega), bs3, _, by rw [HR.out]; exact ((H3.out.pure c6).frame c5 (fun k hk e => by have := HF3.out k hk; have e : k = w.heap.size + 1 := e; omega)).more, fun k hk => .inl (hfl3.out k hk)⟩
          unfold results
          go_simp
          try rfl
        · have nf3 : ∀ k, w.heap.size ≤ k → ¬ TFoot p ub bs3 v3 k := fun k hk e => by have := HF3.out k e; omega
          have y7 := c4.cell y7 (nf3 _ (Nat.le_refl _))
          have hb4 := hb3.chg c4 (nf3 _ (Nat.le_succ _))
          have C4 := C3.trans c4 (fun i hi e => hfl3.out i e)
          have hs4 := c4.size
          have hlen := H3.out.len
          have hib : bs3.length < (bs3 ++ [a]).length := by simp
          have hia : (bs3 ++ [a])[bs3.length]'hib = a := by rw [List.getElem_append_right (Nat.le_refl _)]; simp
          obtain ⟨x, hx⟩ : ∃ x : Se, x = ⟨d, 0, 0, 0⟩ := ⟨_, rfl⟩
          have hse : SeAt w4 a x := by
            have h2 : bs3.length < (beginT (tickT T now) d).L.length := by simp [beginT]; omega
            have := h4.ses bs3.length hib h2
            rw [hia] at this
            have e2 : ((beginT (tickT T now) d).L)[bs3.length]'h2 = x := by
              rw [hx]
              simp only [beginT]
              rw [List.getElem_append_right (by omega)]
              simp
            rw [e2] at this
            exact this
          have hep : 0 ≤ x.epoch ∧ x.epoch ≤ (cnt : Int) := by rw [hx]; simp only; omega
          have hpa : p ≠ a := fun e => (h4.ap a (by simp)).1 e.symm
          have hN : 0 ≤ (tickT T now).now ∧ (tickT T now).now ≤ 1099511627776 := h4.n0
          have n4 : w4.cell? ⟨p, 2, none⟩ = some (.int .i64 (tickT T now).now) := h4.c2
          have hR : helloOf T M d now = ((welcomeM x.token (x.epoch + 1) mf, 0), { beginT (tickT T now) d with L := (beginT (tickT T now) d).L.set bs3.length ⟨x.token, x.epoch + 1, mf, (tickT T now).now⟩ }) := by
            rw [← HMM.out]; unfold helloOf
            rw [if_neg HK.out, if_pos HM0.out, if_neg (by rw [hz0]; simp), hlen, hx]
            rfl
          have HR := Lib.hid hR
          have HA := Lib.hid hia
          have H4 := Lib.hid h4
          have HIB := Lib.hid hib
          have HFa : Hid (a < w.heap.size → TFoot p ub bs v a) := Lib.hid (fun h => by omega)
          have HNR : Hid (∀ k, TFoot p ub (bs3 ++ [a]) v4 k → k ≠ w.heap.size + 1) := Lib.hid (by
            rintro k hk e
            rcases hk with hk | hk | hk | hk
            · have := HF3.out p (.inl rfl); omega
            · have := HF3.out ub (.inr (.inl rfl)); omega
            · rcases List.mem_append.1 hk with hk | hk
              · have := HF3.out k (.inr (.inr (.inl hk))); omega
              · simp at hk; omega
            · rcases hv4 k hk with hk | hk
              · have := HF3.out k (.inr (.inr (.inr hk))); omega
              · omega)
          have HFO : Hid (∀ k, TFoot p ub (bs3 ++ [a]) v4 k → TFoot p ub bs v k ∨ w.heap.size ≤ k) := Lib.hid (by
            rintro k hk
            rcases hk with hk | hk | hk | hk
            · exact .inl (.inl hk)
            · exact .inl (.inr (.inl hk))
            · rcases List.mem_append.1 hk with hk | hk
              · exact .inl (hfl3.out k (.inr (.inr (.inl hk))))
              · simp at hk; exact .inr (by omega)
            · rcases hv4 k hk with hk | hk
              · exact .inl (hfl3.out k (.inr (.inr (.inr hk))))
              · exact .inr (by omega))
          have hma : w.heap.size ≠ a := by omega
          have hra : w.heap.size + 1 ≠ a := by omega
          have hcc : cnt + 1 ≤ cnt + 1 := Nat.le_refl _
          generalize (tickT T now).now = N at *
          clear hx h4 c4 hb3 C3 H3 y0 y1 hR hia hz0 hlen hv4 nf3
          have hzs := zero_session
          have z0 := hse.c0
          have z1 := hse.c1
          have z2 := hse.c2
          have z3 := hse.c3
          have zf : ∀ j, w4.frozen? ⟨a, j, none⟩ = false := fun j => by obtain ⟨cs, b1, _⟩ := hse.blk; exact free_at b1
          obtain ⟨w5, e5, c5, hs5⟩ := set4 hse ⟨x.token, x.epoch + 1, mf, N⟩
          have np5 : ¬ p = a := hpa
          have hb5 := hb4.chg c5 (fun e => hra e)
          have T5 := Lib.hid (H4.out.seset HIB.out ⟨x.token, x.epoch + 1, mf, N⟩ (by rw [HA.out]; exact c5) (by rw [HA.out]; exact hs5) (cnt' := cnt + 1) ⟨by simp only; omega, by simp only; omega, hN.1, hN.2⟩ hcc)
          have HA := Lib.hid HA.out
          have C5 : Chg (TFoot p ub bs v) w w5 := C4.trans c5 (fun i hi e => by have e : i = a := e; rw [e] at hi ⊢; exact HFa.out hi)
          have q0 : w5.drew.drew.cell? ⟨a, 0, none⟩ = some (.int .u64 (x.token.toNat : Int)) := hs5.c0
          have q1 : w5.drew.drew.cell? ⟨a, 1, none⟩ = some (.int .i64 (x.epoch + 1)) := hs5.c1
          have q2 : w5.drew.drew.cell? ⟨a, 2, none⟩ = some (.int .i64 mf) := hs5.c2
          simp only at e5
          have hb6 : MsgBlk w5.drew.drew (w.heap.size + 1) := hb5
          obtain ⟨⟨v0, v1, v2, v3', v4', v5, v6, v7, v8, r0, r1, r2, r3, r4, r5, r6, r7, r8⟩, rf⟩ := hb6.cells
          obtain ⟨w7, e7, c7, -, f0, f1, f2, f3, f4, f5, f6, f7, f8⟩ := set9 hb6 (.int .i64 4) (.int .u64 (x.token.toNat : Int)) (.int .i64 (x.epoch + 1)) (.int .i64 0) (.int .i64 0) (.int .u64 0) (.int .i64 0) (.int .i64 mf) (.slice none 0 0)
          have E5 := Lib.hid e5
          have E7 := Lib.hid e7
          have T7 := Lib.hid ((T5.out.pure ((Chg.refl Pure' w5).drew.drew)).frame c7 (fun k hk e => HNR.out k hk e))
          have C7 : Chg (TFoot p ub bs v) w w7 := C5.drew.drew.trans c7 (fun i hi e => by have e : i = w.heap.size + 1 := e; omega)
          clear e5 e7 hse hs5 hb4 hb5 hb6 C4 C5
          go_wp2_with (fail)
          refine reg_begin (fun k => k = a) (by kernel_rfl) ?_
          refine reg_take 0 (v := ?_) rfl (by kernel_rfl) (by kernel_rfl) (by kernel_rfl) (fun _ _ _ h => h) (by kernel_rfl) ?_ ?_
          rotate_left
          · (intro w' hS; go_simp; (try go_bits); (try with_reducible rfl))
          try simp only [Act.put, List.getElem_toArray, List.getElem_cons_zero, List.getElem_cons_succ, List.setIfInBounds_toArray, List.set_cons_zero, List.set_cons_succ]
          refine reg_take 1 (v := ?_) rfl (by kernel_rfl) (by kernel_rfl) (by kernel_rfl) (fun _ _ _ h => h) (by kernel_rfl) ?_ ?_
          rotate_left
          · (intro w' hS; go_simp; (try go_bits); (try with_reducible rfl))
          try simp only [Act.put, List.getElem_toArray, List.getElem_cons_zero, List.getElem_cons_succ, List.setIfInBounds_toArray, List.set_cons_zero, List.set_cons_succ]
          refine reg_take 2 (v := ?_) rfl (by kernel_rfl) (by kernel_rfl) (by kernel_rfl) (fun _ _ _ h => h) (by kernel_rfl) ?_ ?_
          rotate_left
          · (intro w' hS; go_simp; (try go_bits); (try with_reducible rfl))
          try simp only [Act.put, List.getElem_toArray, List.getElem_cons_zero, List.getElem_cons_succ, List.setIfInBounds_toArray, List.set_cons_zero, List.set_cons_succ]
          refine reg_take 3 (v := ?_) rfl (by kernel_rfl) (by kernel_rfl) (by kernel_rfl) (fun _ _ _ h => h) (by kernel_rfl) ?_ ?_
          rotate_left
          · (intro w' hS; go_simp; (try go_bits); (try with_reducible rfl))
          try simp only [Act.put, List.getElem_toArray, List.getElem_cons_zero, List.getElem_cons_succ, List.setIfInBounds_toArray, List.set_cons_zero, List.set_cons_succ]
          refine reg_take 5 (v := ?_) rfl (by kernel_rfl) (by kernel_rfl) (by kernel_rfl) (fun _ _ _ h => h) (by kernel_rfl) ?_ ?_
          rotate_left
          · (intro w' hS; go_simp; (try go_bits); (try with_reducible rfl))
          try simp only [Act.put, List.getElem_toArray, List.getElem_cons_zero, List.getElem_cons_succ, List.setIfInBounds_toArray, List.set_cons_zero, List.set_cons_succ]
          refine reg_take 6 (v := ?_) rfl (by kernel_rfl) (by kernel_rfl) (by kernel_rfl) (fun _ _ _ h => h) (by kernel_rfl) ?_ ?_
          rotate_left
          · (intro w' hS; go_simp; (try go_bits); (try with_reducible rfl))
          try simp only [Act.put, List.getElem_toArray, List.getElem_cons_zero, List.getElem_cons_succ, List.setIfInBounds_toArray, List.set_cons_zero, List.set_cons_succ]
          refine reg_take 7 (v := ?_) rfl (by kernel_rfl) (by kernel_rfl) (by kernel_rfl) (fun _ _ _ h => h) (by kernel_rfl) ?_ ?_
          rotate_left
          · (intro w' hS; go_simp; (try go_bits); (try with_reducible rfl))
          try simp only [Act.put, List.getElem_toArray, List.getElem_cons_zero, List.getElem_cons_succ, List.setIfInBounds_toArray, List.set_cons_zero, List.set_cons_succ]
          refine reg_take 10 (v := ?_) rfl (by kernel_rfl) (by kernel_rfl) (by kernel_rfl) (fun _ _ _ h => h) (by kernel_rfl) ?_ ?_
          rotate_left
          · (intro w' hS; go_simp; (try go_bits); (try with_reducible rfl))
          try simp only [Act.put, List.getElem_toArray, List.getElem_cons_zero, List.getElem_cons_succ, List.setIfInBounds_toArray, List.set_cons_zero, List.set_cons_succ]
          refine reg_take 11 (v := ?_) rfl (by kernel_rfl) (by kernel_rfl) (by kernel_rfl) (fun _ _ _ h => h) (by kernel_rfl) ?_ ?_
          rotate_left
          · (intro w' hS; have hz := hS.cell (w := w4.drew) y7 (fun e => hma e); go_simp; (try go_bits); (try with_reducible rfl))
          try simp only [Act.put, List.getElem_toArray, List.getElem_cons_zero, List.getElem_cons_succ, List.setIfInBounds_toArray, List.set_cons_zero, List.set_cons_succ]
          refine reg_take 12 (v := ?_) rfl (by kernel_rfl) (by kernel_rfl) (by kernel_rfl) (fun _ _ _ h => h) (by kernel_rfl) ?_ ?_
          rotate_left
          · (intro w' hS; go_simp; (try go_bits); (try with_reducible rfl))
          try simp only [Act.put, List.getElem_toArray, List.getElem_cons_zero, List.getElem_cons_succ, List.setIfInBounds_toArray, List.set_cons_zero, List.set_cons_succ]
          refine reg_take 13 (v := ?_) rfl (by kernel_rfl) (by kernel_rfl) (by kernel_rfl) (fun _ _ _ h => h) (by kernel_rfl) ?_ ?_
          rotate_left
          · (intro w' hS; go_simp; (try go_bits); (try with_reducible rfl))
          try simp only [Act.put, List.getElem_toArray, List.getElem_cons_zero, List.getElem_cons_succ, List.setIfInBounds_toArray, List.set_cons_zero, List.set_cons_succ]
          refine reg_take 14 (v := ?_) rfl (by kernel_rfl) (by kernel_rfl) (by kernel_rfl) (fun _ _ _ h => h) (by kernel_rfl) ?_ ?_
          rotate_left
          · (intro w' hS; go_simp; (try go_bits); (try with_reducible rfl))
          try simp only [Act.put, List.getElem_toArray, List.getElem_cons_zero, List.getElem_cons_succ, List.setIfInBounds_toArray, List.set_cons_zero, List.set_cons_succ]
          refine reg_take 15 (v := ?_) rfl (by kernel_rfl) (by kernel_rfl) (by kernel_rfl) (fun _ _ _ h => h) (by kernel_rfl) ?_ ?_
          rotate_left
          · (intro w' hS; have hz := hS.cell (w := w4.drew) n4 (fun e => hpa e); go_simp; (try go_bits); (try with_reducible rfl))
          try simp only [Act.put, List.getElem_toArray, List.getElem_cons_zero, List.getElem_cons_succ, List.setIfInBounds_toArray, List.set_cons_zero, List.set_cons_succ]
          have z0d : w4.drew.cell? ⟨a, 0, none⟩ = some (.int .u64 (x.token.toNat : Int)) := z0
          have z1d : w4.drew.cell? ⟨a, 1, none⟩ = some (.int .i64 x.epoch) := z1
          have z2d : w4.drew.cell? ⟨a, 2, none⟩ = some (.int .i64 x.format) := z2
          have z3d : w4.drew.cell? ⟨a, 3, none⟩ = some (.int .i64 x.last) := z3
          have zfd : ∀ j, w4.drew.frozen? ⟨a, j, none⟩ = false := zf
          refine reg_do2 4 8 rfl rfl (by kernel_rfl) (by kernel_rfl) (by kernel_rfl) ?_ ?_
          case' refine_1 =>
            intro K hK
            go_simp
            refine hK _ _ (Chg.refl _ _) ?_
            clear hK K
            try simp only [Act.put, List.getElem_toArray, List.getElem_cons_zero, List.getElem_cons_succ, List.setIfInBounds_toArray, List.set_cons_zero, List.set_cons_succ]
            refine reg_do 8 rfl (by kernel_rfl) (by kernel_rfl) ?_
            intro K hK
            go_simp
            refine hK _ _ (Chg.refl _ _) ?_
            clear hK K
            try simp only [Act.put, List.getElem_toArray, List.getElem_cons_zero, List.getElem_cons_succ, List.setIfInBounds_toArray, List.set_cons_zero, List.set_cons_succ]
            refine reg_take 9 (v := ?_) rfl (by kernel_rfl) (by kernel_rfl) (by kernel_rfl) (fun _ _ _ h => h) (by kernel_rfl) ?_ ?_
            rotate_left
            · (intro w' hS; go_simp; (try go_bits); (try with_reducible rfl))
            try simp only [Act.put, List.getElem_toArray, List.getElem_cons_zero, List.getElem_cons_succ, List.setIfInBounds_toArray, List.set_cons_zero, List.set_cons_succ]
          case' refine_2 =>
            intro K hK
            go_simp
            refine hK _ _ (Chg.refl _ _) ?_
            clear hK K
            try simp only [Act.put, List.getElem_toArray, List.getElem_cons_zero, List.getElem_cons_succ, List.setIfInBounds_toArray, List.set_cons_zero, List.set_cons_succ]
            refine reg_take 9 (v := ?_) rfl (by kernel_rfl) (by kernel_rfl) (by kernel_rfl) (fun _ _ _ h => h) (by kernel_rfl) ?_ ?_
            rotate_left
            · (intro w' hS; go_simp; (try go_bits); (try with_reducible rfl))
            try simp only [Act.put, List.getElem_toArray, List.getElem_cons_zero, List.getElem_cons_succ, List.setIfInBounds_toArray, List.set_cons_zero, List.set_cons_succ]
            refine reg_do 4 rfl (by kernel_rfl) (by kernel_rfl) ?_
            intro K hK
            go_simp
            refine hK _ _ (Chg.refl _ _) ?_
            clear hK K
            try simp only [Act.put, List.getElem_toArray, List.getElem_cons_zero, List.getElem_cons_succ, List.setIfInBounds_toArray, List.set_cons_zero, List.set_cons_succ]
          all_goals
            refine reg_take 16 (v := ?_) rfl (by kernel_rfl) (by kernel_rfl) (by kernel_rfl) (fun _ _ _ h => h) (by kernel_rfl) ?_ ?_
            rotate_left
            · (intro w' hS; go_simp; (try go_bits); (try with_reducible rfl))
            try simp only [Act.put, List.getElem_toArray, List.getElem_cons_zero, List.getElem_cons_succ, List.setIfInBounds_toArray, List.set_cons_zero, List.set_cons_succ]
            refine reg_take 17 (v := ?_) rfl (by kernel_rfl) (by kernel_rfl) (by kernel_rfl) (fun _ _ _ h => h) (by kernel_rfl) ?_ ?_
            rotate_left
            · (intro w' hS; go_simp; (try go_bits); (try with_reducible rfl))
            try simp only [Act.put, List.getElem_toArray, List.getElem_cons_zero, List.getElem_cons_succ, List.setIfInBounds_toArray, List.set_cons_zero, List.set_cons_succ]
            refine reg_do 18 rfl (by kernel_rfl) (by kernel_rfl) ?_
            intro K hK
            go_simp
            rw [← E5.out]
            refine hK _ _ (Chg.drew (Chg.undrew c5)) ?_
            clear hK K
            try simp only [Act.put, List.getElem_toArray, List.getElem_cons_zero, List.getElem_cons_succ, List.setIfInBounds_toArray, List.set_cons_zero, List.set_cons_succ]
            refine wpAnyH_done (by kernel_rfl) ?_ _
            clear z0 z1 z2 z3 zf z0d z1d z2d z3d zfd n4 y7
            go_wp2_with (fail)
            refine reg_begin (fun k => k = w.heap.size + 1) (by kernel_rfl) ?_
            generalize w5.drew.drew = w6 at *
            refine reg_take 0 (v := ?_) rfl (by kernel_rfl) (by kernel_rfl) (by kernel_rfl) (fun _ _ _ h => h) (by kernel_rfl) ?_ ?_
            rotate_left
            · (intro w' hS; go_simp; (try go_bits); (try with_reducible rfl))
            try simp only [Act.put, List.getElem_toArray, List.getElem_cons_zero, List.getElem_cons_succ, List.setIfInBounds_toArray, List.set_cons_zero, List.set_cons_succ]
            refine reg_take 1 (v := ?_) rfl (by kernel_rfl) (by kernel_rfl) (by kernel_rfl) (fun _ _ _ h => h) (by kernel_rfl) ?_ ?_
            rotate_left
            · (intro w' hS; go_simp; (try go_bits); (try with_reducible rfl))
            try simp only [Act.put, List.getElem_toArray, List.getElem_cons_zero, List.getElem_cons_succ, List.setIfInBounds_toArray, List.set_cons_zero, List.set_cons_succ]
            refine reg_take 2 (v := ?_) rfl (by kernel_rfl) (by kernel_rfl) (by kernel_rfl) (fun _ _ _ h => h) (by kernel_rfl) ?_ ?_
            rotate_left
            · (intro w' hS; go_simp; (try go_bits); (try with_reducible rfl))
            try simp only [Act.put, List.getElem_toArray, List.getElem_cons_zero, List.getElem_cons_succ, List.setIfInBounds_toArray, List.set_cons_zero, List.set_cons_succ]
            refine reg_take 3 (v := ?_) rfl (by kernel_rfl) (by kernel_rfl) (by kernel_rfl) (fun _ _ _ h => h) (by kernel_rfl) ?_ ?_
            rotate_left
            · (intro w' hS; have hz := hS.cell (w := w6) q0 (fun e => hra e.symm); go_simp; (try go_bits); (try with_reducible rfl))
            try simp only [Act.put, List.getElem_toArray, List.getElem_cons_zero, List.getElem_cons_succ, List.setIfInBounds_toArray, List.set_cons_zero, List.set_cons_succ]
            refine reg_take 4 (v := ?_) rfl (by kernel_rfl) (by kernel_rfl) (by kernel_rfl) (fun _ _ _ h => h) (by kernel_rfl) ?_ ?_
            rotate_left
            · (intro w' hS; go_simp; (try go_bits); (try with_reducible rfl))
            try simp only [Act.put, List.getElem_toArray, List.getElem_cons_zero, List.getElem_cons_succ, List.setIfInBounds_toArray, List.set_cons_zero, List.set_cons_succ]
            refine reg_take 5 (v := ?_) rfl (by kernel_rfl) (by kernel_rfl) (by kernel_rfl) (fun _ _ _ h => h) (by kernel_rfl) ?_ ?_
            rotate_left
            · (intro w' hS; go_simp; (try go_bits); (try with_reducible rfl))
            try simp only [Act.put, List.getElem_toArray, List.getElem_cons_zero, List.getElem_cons_succ, List.setIfInBounds_toArray, List.set_cons_zero, List.set_cons_succ]
            refine reg_take 6 (v := ?_) rfl (by kernel_rfl) (by kernel_rfl) (by kernel_rfl) (fun _ _ _ h => h) (by kernel_rfl) ?_ ?_
            rotate_left
            · (intro w' hS; go_simp; (try go_bits); (try with_reducible rfl))
            try simp only [Act.put, List.getElem_toArray, List.getElem_cons_zero, List.getElem_cons_succ, List.setIfInBounds_toArray, List.set_cons_zero, List.set_cons_succ]
            refine reg_take 7 (v := ?_) rfl (by kernel_rfl) (by kernel_rfl) (by kernel_rfl) (fun _ _ _ h => h) (by kernel_rfl) ?_ ?_
            rotate_left
            · (intro w' hS; have hz := hS.cell (w := w6) q1 (fun e => hra e.symm); go_simp; (try go_bits); (try with_reducible rfl))
            try simp only [Act.put, List.getElem_toArray, List.getElem_cons_zero, List.getElem_cons_succ, List.setIfInBounds_toArray, List.set_cons_zero, List.set_cons_succ]
            refine reg_take 8 (v := ?_) rfl (by kernel_rfl) (by kernel_rfl) (by kernel_rfl) (fun _ _ _ h => h) (by kernel_rfl) ?_ ?_
            rotate_left
            · (intro w' hS; go_simp; (try go_bits); (try with_reducible rfl))
            try simp only [Act.put, List.getElem_toArray, List.getElem_cons_zero, List.getElem_cons_succ, List.setIfInBounds_toArray, List.set_cons_zero, List.set_cons_succ]
            refine reg_take 9 (v := ?_) rfl (by kernel_rfl) (by kernel_rfl) (by kernel_rfl) (fun _ _ _ h => h) (by kernel_rfl) ?_ ?_
            rotate_left
            · (intro w' hS; go_simp; (try go_bits); (try with_reducible rfl))
            try simp only [Act.put, List.getElem_toArray, List.getElem_cons_zero, List.getElem_cons_succ, List.setIfInBounds_toArray, List.set_cons_zero, List.set_cons_succ]
            refine reg_take 10 (v := ?_) rfl (by kernel_rfl) (by kernel_rfl) (by kernel_rfl) (fun _ _ _ h => h) (by kernel_rfl) ?_ ?_
            rotate_left
            · (intro w' hS; go_simp; (try go_bits); (try with_reducible rfl))
            try simp only [Act.put, List.getElem_toArray, List.getElem_cons_zero, List.getElem_cons_succ, List.setIfInBounds_toArray, List.set_cons_zero, List.set_cons_succ]
            refine reg_take 11 (v := ?_) rfl (by kernel_rfl) (by kernel_rfl) (by kernel_rfl) (fun _ _ _ h => h) (by kernel_rfl) ?_ ?_
            rotate_left
            · (intro w' hS; have hz := hS.cell (w := w6) q2 (fun e => hra e.symm); go_simp; (try go_bits); (try with_reducible rfl))
            try simp only [Act.put, List.getElem_toArray, List.getElem_cons_zero, List.getElem_cons_succ, List.setIfInBounds_toArray, List.set_cons_zero, List.set_cons_succ]
            refine reg_take 12 (v := ?_) rfl (by kernel_rfl) (by kernel_rfl) (by kernel_rfl) (fun _ _ _ h => h) (by kernel_rfl) ?_ ?_
            rotate_left
            · (intro w' hS; go_simp; (try go_bits); (try with_reducible rfl))
            try simp only [Act.put, List.getElem_toArray, List.getElem_cons_zero, List.getElem_cons_succ, List.setIfInBounds_toArray, List.set_cons_zero, List.set_cons_succ]
            refine reg_do 13 rfl (by kernel_rfl) (by kernel_rfl) ?_
            intro K hK
            go_simp
            rw [← E7.out]
            refine hK _ _ (c7) ?_
            clear hK K
            try simp only [Act.put, List.getElem_toArray, List.getElem_cons_zero, List.getElem_cons_succ, List.setIfInBounds_toArray, List.set_cons_zero, List.set_cons_succ]
            refine reg_take 14 (v := ?_) rfl (by kernel_rfl) (by kernel_rfl) (by kernel_rfl) (fun _ _ _ h => h) (by kernel_rfl) ?_ ?_
            rotate_left
            · (intro w' hS; go_simp; (try go_bits); (try with_reducible rfl))
            try simp only [Act.put, List.getElem_toArray, List.getElem_cons_zero, List.getElem_cons_succ, List.setIfInBounds_toArray, List.set_cons_zero, List.set_cons_succ]
            refine wpAnyH_done (by kernel_rfl) ?_ _
            clear r0 r1 r2 r3 r4 r5 r6 r7 r8 rf q0 q1 q2
            go_wp2_with (fail)
            refine bodyPost_ret (v := .tuple #[(welcomeM x.token (x.epoch + 1) mf).val, .int .i64 0]) ?_ rfl ⟨by rw [HR.out], C7, _, _, by rw [HR.out]; exact T7.out, fun k hk => HFO.out k hk⟩
            unfold results
            go_simp
            try rfl
      · have hm1 : ((mt.toNat : Int) == 0) = false := by
          rw [beq_eq_false_iff_ne]
          exact fun e => hm0 (UInt64.toNat_inj.1 (by simpa using e))
        have HM0 := Lib.hid hm0
        clear hm0
        go_wp2_with (fail)
        refine (again_any H3.out mt).mono ?_
        rintro e w4 ⟨c4, ⟨hp, rfl⟩ | ⟨i, hib, hp, hi, rfl⟩⟩
        · have hR : helloOf T M d now = ((resetM mt, 15), tickT T now) := by
            rw [← HMM.out]; unfold helloOf; rw [if_neg HK.out, if_neg HM0.out, if_pos hp]
          have HR := Lib.hid hR
          clear hR hp
          have hs4 := c4.size
          have y1 := c4.cell y1 (fun h => h)
          have hb3 := hb3.chg c4 (fun h => h)
          have C3 := C3.pure c4
          have H3 := Lib.hid (H3.out.pure c4)
          go_wp2_with (fail)
          refine (refuse_any w.heap.size mt 15 _ y1 (by omega)).mono ?_
          rintro e w6 ⟨rfl, c6⟩
          have hb6 := hb3.chg c6 (fun h => h)
          obtain ⟨⟨v0, v1, v2, v3, v4', v5, v6, v7, v8, r0, r1, r2, r3, r4, r5, r6, r7, r8⟩, rf⟩ := hb6.cells
          obtain ⟨w5, e5, c5, -, f0, f1, f2, f3, f4, f5, f6, f7, f8⟩ := set9 hb6 (.int .i64 5) (.int .u64 (mt.toNat : Int)) (.int .i64 0) (.int .i64 0) (.int .i64 0) (.int .u64 0) (.int .i64 0) (.int .i64 0) (.slice none 0 0)
          rw [show (resetM mt).val = .agg #[.int .i64 5, .int .u64 (mt.toNat : Int), .int .i64 0, .int .i64 0, .int .i64 0, .int .u64 0, .int .i64 0, .int .i64 0, .slice none 0 0] from rfl]
          have E5 := Lib.hid e5
          clear e5
          go_wp2_with (fail)
          rw [← E5.out]
          clear r0 r1 r2 r3 r4 r5 r6 r7 r8 rf
          refine bodyPost_ret (v := .tuple #[(resetM mt).val, .int .i64 15]) ?_ rfl ⟨by rw [HR.out], (C3.pure c6).trans c5 (fun i hi e => by have e : i = w.heap.size + 1 := e; omega), bs3, _, by rw [HR.out]; exact ((H3.out.pure c6).frame c5 (fun k hk e => by have := HF3.out k hk; have e : k = w.heap.size + 1 := e; omega)).more, fun k hk => .inl (hfl3.out k hk)⟩
          unfold results
          go_simp
          try rfl
        · have y7 := c4.cell y7 (fun h => h)
          have hb4 := hb3.chg c4 (fun h => h)
          have C4 := C3.pure c4
          have h4 := H3.out.pure c4
          have hs4 := c4.size
          obtain ⟨a, ha⟩ : ∃ a, bs3[i] = a := ⟨_, rfl⟩
          have hse := h4.ses i hib hi
          rw [ha] at hse
          have hmem : a ∈ bs3 := by rw [← ha]; exact List.getElem_mem hib
          have hat := HF3.out a (.inr (.inr (.inl hmem)))
          have hpa : p ≠ a := fun e => (h4.ap _ hmem).1 e.symm
          have hep := h4.ep _ (List.getElem_mem hi)
          have hN := h4.n0
          have n4 := h4.c2
          obtain ⟨x, hx⟩ : ∃ x, (tickT T now).L[i] = x := ⟨_, rfl⟩
          have htok : x.token = mt := by
            rcases place_ge (tickT T now).L mt with h1 | ⟨j, hj, h1, h2, -⟩
            · omega
            · obtain rfl : j = i := by omega
              rw [← hx]; exact h2
          have hR : helloOf T M d now = ((welcomeM x.token (x.epoch + 1) mf, 0), { tickT T now with L := (tickT T now).L.set i ⟨x.token, x.epoch + 1, mf, (tickT T now).now⟩ }) := by
            rw [← HMM.out]; unfold helloOf
            rw [if_neg HK.out, if_neg HM0.out, if_neg (fun e => by rw [hp] at e; omega), hp, Int.toNat_natCast, List.getD_eq_getElem?_getD, List.getElem?_eq_getElem hi, hx, htok]
            rfl
          rw [hx] at hse hep
          have HR := Lib.hid hR
          have HA := Lib.hid ha
          have H4 := Lib.hid h4
          have HIB := Lib.hid hib
          have HFa : Hid (a < w.heap.size → TFoot p ub bs v a) := Lib.hid (fun _ => hfl3.out a (.inr (.inr (.inl hmem))))
          have HNR : Hid (∀ k, TFoot p ub bs3 v3 k → k ≠ w.heap.size + 1) := Lib.hid (fun k hk e => by have := HF3.out k hk; omega)
          have HFO : Hid (∀ k, TFoot p ub bs3 v3 k → TFoot p ub bs v k ∨ w.heap.size ≤ k) := Lib.hid (fun k hk => .inl (hfl3.out k hk))
          have hma : w.heap.size ≠ a := by omega
          have hra : w.heap.size + 1 ≠ a := by omega
          have hcc : cnt ≤ cnt + 1 := Nat.le_succ _
          rw [ha]
          generalize (tickT T now).now = N at *
          clear ha hx h4 c4 hp hmem hb3 C3 H3 y0 y1 hR htok
          have hzs := zero_session
          have z0 := hse.c0
          have z1 := hse.c1
          have z2 := hse.c2
          have z3 := hse.c3
          have zf : ∀ j, w4.frozen? ⟨a, j, none⟩ = false := fun j => by obtain ⟨cs, b1, _⟩ := hse.blk; exact free_at b1
          obtain ⟨w5, e5, c5, hs5⟩ := set4 hse ⟨x.token, x.epoch + 1, mf, N⟩
          have np5 : ¬ p = a := hpa
          have hb5 := hb4.chg c5 (fun e => hra e)
          have T5 := Lib.hid (H4.out.seset HIB.out ⟨x.token, x.epoch + 1, mf, N⟩ (by rw [HA.out]; exact c5) (by rw [HA.out]; exact hs5) (cnt' := cnt + 1) ⟨by simp only; omega, by simp only; omega, hN.1, hN.2⟩ hcc)
          have HA := Lib.hid HA.out
          have C5 : Chg (TFoot p ub bs v) w w5 := C4.trans c5 (fun i hi e => by have e : i = a := e; rw [e] at hi ⊢; exact HFa.out hi)
          have q0 : w5.drew.drew.cell? ⟨a, 0, none⟩ = some (.int .u64 (x.token.toNat : Int)) := hs5.c0
          have q1 : w5.drew.drew.cell? ⟨a, 1, none⟩ = some (.int .i64 (x.epoch + 1)) := hs5.c1
          have q2 : w5.drew.drew.cell? ⟨a, 2, none⟩ = some (.int .i64 mf) := hs5.c2
          simp only at e5
          have hb6 : MsgBlk w5.drew.drew (w.heap.size + 1) := hb5
          obtain ⟨⟨v0, v1, v2, v3', v4', v5, v6, v7, v8, r0, r1, r2, r3, r4, r5, r6, r7, r8⟩, rf⟩ := hb6.cells
          obtain ⟨w7, e7, c7, -, f0, f1, f2, f3, f4, f5, f6, f7, f8⟩ := set9 hb6 (.int .i64 4) (.int .u64 (x.token.toNat : Int)) (.int .i64 (x.epoch + 1)) (.int .i64 0) (.int .i64 0) (.int .u64 0) (.int .i64 0) (.int .i64 mf) (.slice none 0 0)
          have E5 := Lib.hid e5
          have E7 := Lib.hid e7
          have T7 := Lib.hid ((T5.out.pure ((Chg.refl Pure' w5).drew.drew)).frame c7 (fun k hk e => HNR.out k hk e))
          have C7 : Chg (TFoot p ub bs v) w w7 := C5.drew.drew.trans c7 (fun i hi e => by have e : i = w.heap.size + 1 := e; omega)
          clear e5 e7 hse hs5 hb4 hb5 hb6 C4 C5
          go_wp2_with (fail)
          refine reg_begin (fun k => k = a) (by kernel_rfl) ?_
          refine reg_take 0 (v := ?_) rfl (by kernel_rfl) (by kernel_rfl) (by kernel_rfl) (fun _ _ _ h => h) (by kernel_rfl) ?_ ?_
          rotate_left
          · (intro w' hS; go_simp; (try go_bits); (try with_reducible rfl))
          try simp only [Act.put, List.getElem_toArray, List.getElem_cons_zero, List.getElem_cons_succ, List.setIfInBounds_toArray, List.set_cons_zero, List.set_cons_succ]
          refine reg_take 1 (v := ?_) rfl (by kernel_rfl) (by kernel_rfl) (by kernel_rfl) (fun _ _ _ h => h) (by kernel_rfl) ?_ ?_
          rotate_left
          · (intro w' hS; go_simp; (try go_bits); (try with_reducible rfl))
          try simp only [Act.put, List.getElem_toArray, List.getElem_cons_zero, List.getElem_cons_succ, List.setIfInBounds_toArray, List.set_cons_zero, List.set_cons_succ]
          refine reg_take 2 (v := ?_) rfl (by kernel_rfl) (by kernel_rfl) (by kernel_rfl) (fun _ _ _ h => h) (by kernel_rfl) ?_ ?_
          rotate_left
          · (intro w' hS; go_simp; (try go_bits); (try with_reducible rfl))
          try simp only [Act.put, List.getElem_toArray, List.getElem_cons_zero, List.getElem_cons_succ, List.setIfInBounds_toArray, List.set_cons_zero, List.set_cons_succ]
          refine reg_take 3 (v := ?_) rfl (by kernel_rfl) (by kernel_rfl) (by kernel_rfl) (fun _ _ _ h => h) (by kernel_rfl) ?_ ?_
          rotate_left
          · (intro w' hS; go_simp; (try go_bits); (try with_reducible rfl))
          try simp only [Act.put, List.getElem_toArray, List.getElem_cons_zero, List.getElem_cons_succ, List.setIfInBounds_toArray, List.set_cons_zero, List.set_cons_succ]
          refine reg_take 5 (v := ?_) rfl (by kernel_rfl) (by kernel_rfl) (by kernel_rfl) (fun _ _ _ h => h) (by kernel_rfl) ?_ ?_
          rotate_left
          · (intro w' hS; go_simp; (try go_bits); (try with_reducible rfl))
          try simp only [Act.put, List.getElem_toArray, List.getElem_cons_zero, List.getElem_cons_succ, List.setIfInBounds_toArray, List.set_cons_zero, List.set_cons_succ]
          refine reg_take 6 (v := ?_) rfl (by kernel_rfl) (by kernel_rfl) (by kernel_rfl) (fun _ _ _ h => h) (by kernel_rfl) ?_ ?_
          rotate_left
          · (intro w' hS; go_simp; (try go_bits); (try with_reducible rfl))
          try simp only [Act.put, List.getElem_toArray, List.getElem_cons_zero, List.getElem_cons_succ, List.setIfInBounds_toArray, List.set_cons_zero, List.set_cons_succ]
          refine reg_take 7 (v := ?_) rfl (by kernel_rfl) (by kernel_rfl) (by kernel_rfl) (fun _ _ _ h => h) (by kernel_rfl) ?_ ?_
          rotate_left
          · (intro w' hS; go_simp; (try go_bits); (try with_reducible rfl))
          try simp only [Act.put, List.getElem_toArray, List.getElem_cons_zero, List.getElem_cons_succ, List.setIfInBounds_toArray, List.set_cons_zero, List.set_cons_succ]
          refine reg_take 10 (v := ?_) rfl (by kernel_rfl) (by kernel_rfl) (by kernel_rfl) (fun _ _ _ h => h) (by kernel_rfl) ?_ ?_
          rotate_left
          · (intro w' hS; go_simp; (try go_bits); (try with_reducible rfl))
          try simp only [Act.put, List.getElem_toArray, List.getElem_cons_zero, List.getElem_cons_succ, List.setIfInBounds_toArray, List.set_cons_zero, List.set_cons_succ]
          refine reg_take 11 (v := ?_) rfl (by kernel_rfl) (by kernel_rfl) (by kernel_rfl) (fun _ _ _ h => h) (by kernel_rfl) ?_ ?_
          rotate_left
          · (intro w' hS; have hz := hS.cell (w := w4.drew) y7 (fun e => hma e); go_simp; (try go_bits); (try with_reducible rfl))
          try simp only [Act.put, List.getElem_toArray, List.getElem_cons_zero, List.getElem_cons_succ, List.setIfInBounds_toArray, List.set_cons_zero, List.set_cons_succ]
          refine reg_take 12 (v := ?_) rfl (by kernel_rfl) (by kernel_rfl) (by kernel_rfl) (fun _ _ _ h => h) (by kernel_rfl) ?_ ?_
          rotate_left
          · (intro w' hS; go_simp; (try go_bits); (try with_reducible rfl))
          try simp only [Act.put, List.getElem_toArray, List.getElem_cons_zero, List.getElem_cons_succ, List.setIfInBounds_toArray, List.set_cons_zero, List.set_cons_succ]
          refine reg_take 13 (v := ?_) rfl (by kernel_rfl) (by kernel_rfl) (by kernel_rfl) (fun _ _ _ h => h) (by kernel_rfl) ?_ ?_
          rotate_left
          · (intro w' hS; go_simp; (try go_bits); (try with_reducible rfl))
          try simp only [Act.put, List.getElem_toArray, List.getElem_cons_zero, List.getElem_cons_succ, List.setIfInBounds_toArray, List.set_cons_zero, List.set_cons_succ]
          refine reg_take 14 (v := ?_) rfl (by kernel_rfl) (by kernel_rfl) (by kernel_rfl) (fun _ _ _ h => h) (by kernel_rfl) ?_ ?_
          rotate_left
          · (intro w' hS; go_simp; (try go_bits); (try with_reducible rfl))
          try simp only [Act.put, List.getElem_toArray, List.getElem_cons_zero, List.getElem_cons_succ, List.setIfInBounds_toArray, List.set_cons_zero, List.set_cons_succ]
          refine reg_take 15 (v := ?_) rfl (by kernel_rfl) (by kernel_rfl) (by kernel_rfl) (fun _ _ _ h => h) (by kernel_rfl) ?_ ?_
          rotate_left
          · (intro w' hS; have hz := hS.cell (w := w4.drew) n4 (fun e => hpa e); go_simp; (try go_bits); (try with_reducible rfl))
          try simp only [Act.put, List.getElem_toArray, List.getElem_cons_zero, List.getElem_cons_succ, List.setIfInBounds_toArray, List.set_cons_zero, List.set_cons_succ]
          have z0d : w4.drew.cell? ⟨a, 0, none⟩ = some (.int .u64 (x.token.toNat : Int)) := z0
          have z1d : w4.drew.cell? ⟨a, 1, none⟩ = some (.int .i64 x.epoch) := z1
          have z2d : w4.drew.cell? ⟨a, 2, none⟩ = some (.int .i64 x.format) := z2
          have z3d : w4.drew.cell? ⟨a, 3, none⟩ = some (.int .i64 x.last) := z3
          have zfd : ∀ j, w4.drew.frozen? ⟨a, j, none⟩ = false := zf
          refine reg_do2 4 8 rfl rfl (by kernel_rfl) (by kernel_rfl) (by kernel_rfl) ?_ ?_
          case' refine_1 =>
            intro K hK
            go_simp
            refine hK _ _ (Chg.refl _ _) ?_
            clear hK K
            try simp only [Act.put, List.getElem_toArray, List.getElem_cons_zero, List.getElem_cons_succ, List.setIfInBounds_toArray, List.set_cons_zero, List.set_cons_succ]
            refine reg_do 8 rfl (by kernel_rfl) (by kernel_rfl) ?_
            intro K hK
            go_simp
            refine hK _ _ (Chg.refl _ _) ?_
            clear hK K
            try simp only [Act.put, List.getElem_toArray, List.getElem_cons_zero, List.getElem_cons_succ, List.setIfInBounds_toArray, List.set_cons_zero, List.set_cons_succ]
            refine reg_take 9 (v := ?_) rfl (by kernel_rfl) (by kernel_rfl) (by kernel_rfl) (fun _ _ _ h => h) (by kernel_rfl) ?_ ?_
            rotate_left
            · (intro w' hS; go_simp; (try go_bits); (try with_reducible rfl))
            try simp only [Act.put, List.getElem_toArray, List.getElem_cons_zero, List.getElem_cons_succ, List.setIfInBounds_toArray, List.set_cons_zero, List.set_cons_succ]
          case' refine_2 =>
            intro K hK
            go_simp
            refine hK _ _ (Chg.refl _ _) ?_
            clear hK K
            try simp only [Act.put, List.getElem_toArray, List.getElem_cons_zero, List.getElem_cons_succ, List.setIfInBounds_toArray, List.set_cons_zero, List.set_cons_succ]
            refine reg_take 9 (v := ?_) rfl (by kernel_rfl) (by kernel_rfl) (by kernel_rfl) (fun _ _ _ h => h) (by kernel_rfl) ?_ ?_
            rotate_left
            · (intro w' hS; go_simp; (try go_bits); (try with_reducible rfl))
            try simp only [Act.put, List.getElem_toArray, List.getElem_cons_zero, List.getElem_cons_succ, List.setIfInBounds_toArray, List.set_cons_zero, List.set_cons_succ]
            refine reg_do 4 rfl (by kernel_rfl) (by kernel_rfl) ?_
            intro K hK
            go_simp
            refine hK _ _ (Chg.refl _ _) ?_
            clear hK K
            try simp only [Act.put, List.getElem_toArray, List.getElem_cons_zero, List.getElem_cons_succ, List.setIfInBounds_toArray, List.set_cons_zero, List.set_cons_succ]
          all_goals
            refine reg_take 16 (v := ?_) rfl (by kernel_rfl) (by kernel_rfl) (by kernel_rfl) (fun _ _ _ h => h) (by kernel_rfl) ?_ ?_
            rotate_left
            · (intro w' hS; go_simp; (try go_bits); (try with_reducible rfl))
            try simp only [Act.put, List.getElem_toArray, List.getElem_cons_zero, List.getElem_cons_succ, List.setIfInBounds_toArray, List.set_cons_zero, List.set_cons_succ]
            refine reg_take 17 (v := ?_) rfl (by kernel_rfl) (by kernel_rfl) (by kernel_rfl) (fun _ _ _ h => h) (by kernel_rfl) ?_ ?_
            rotate_left
            · (intro w' hS; go_simp; (try go_bits); (try with_reducible rfl))
            try simp only [Act.put, List.getElem_toArray, List.getElem_cons_zero, List.getElem_cons_succ, List.setIfInBounds_toArray, List.set_cons_zero, List.set_cons_succ]
            refine reg_do 18 rfl (by kernel_rfl) (by kernel_rfl) ?_
            intro K hK
            go_simp
            rw [← E5.out]
            refine hK _ _ (Chg.drew (Chg.undrew c5)) ?_
            clear hK K
            try simp only [Act.put, List.getElem_toArray, List.getElem_cons_zero, List.getElem_cons_succ, List.setIfInBounds_toArray, List.set_cons_zero, List.set_cons_succ]
            refine wpAnyH_done (by kernel_rfl) ?_ _
            clear z0 z1 z2 z3 zf z0d z1d z2d z3d zfd n4 y7
            go_wp2_with (fail)
            refine reg_begin (fun k => k = w.heap.size + 1) (by kernel_rfl) ?_
            generalize w5.drew.drew = w6 at *
            refine reg_take 0 (v := ?_) rfl (by kernel_rfl) (by kernel_rfl) (by kernel_rfl) (fun _ _ _ h => h) (by kernel_rfl) ?_ ?_
            rotate_left
            · (intro w' hS; go_simp; (try go_bits); (try with_reducible rfl))
            try simp only [Act.put, List.getElem_toArray, List.getElem_cons_zero, List.getElem_cons_succ, List.setIfInBounds_toArray, List.set_cons_zero, List.set_cons_succ]
            refine reg_take 1 (v := ?_) rfl (by kernel_rfl) (by kernel_rfl) (by kernel_rfl) (fun _ _ _ h => h) (by kernel_rfl) ?_ ?_
            rotate_left
            · (intro w' hS; go_simp; (try go_bits); (try with_reducible rfl))
            try simp only [Act.put, List.getElem_toArray, List.getElem_cons_zero, List.getElem_cons_succ, List.setIfInBounds_toArray, List.set_cons_zero, List.set_cons_succ]
            refine reg_take 2 (v := ?_) rfl (by kernel_rfl) (by kernel_rfl) (by kernel_rfl) (fun _ _ _ h => h) (by kernel_rfl) ?_ ?_
            rotate_left
            · (intro w' hS; go_simp; (try go_bits); (try with_reducible rfl))
            try simp only [Act.put, List.getElem_toArray, List.getElem_cons_zero, List.getElem_cons_succ, List.setIfInBounds_toArray, List.set_cons_zero, List.set_cons_succ]
            refine reg_take 3 (v := ?_) rfl (by kernel_rfl) (by kernel_rfl) (by kernel_rfl) (fun _ _ _ h => h) (by kernel_rfl) ?_ ?_
            rotate_left
            · (intro w' hS; have hz := hS.cell (w := w6) q0 (fun e => hra e.symm); go_simp; (try go_bits); (try with_reducible rfl))
            try simp only [Act.put, List.getElem_toArray, List.getElem_cons_zero, List.getElem_cons_succ, List.setIfInBounds_toArray, List.set_cons_zero, List.set_cons_succ]
            refine reg_take 4 (v := ?_) rfl (by kernel_rfl) (by kernel_rfl) (by kernel_rfl) (fun _ _ _ h => h) (by kernel_rfl) ?_ ?_
            rotate_left
            · (intro w' hS; go_simp; (try go_bits); (try with_reducible rfl))
            try simp only [Act.put, List.getElem_toArray, List.getElem_cons_zero, List.getElem_cons_succ, List.setIfInBounds_toArray, List.set_cons_zero, List.set_cons_succ]
            refine reg_take 5 (v := ?_) rfl (by kernel_rfl) (by kernel_rfl) (by kernel_rfl) (fun _ _ _ h => h) (by kernel_rfl) ?_ ?_
            rotate_left
            · (intro w' hS; go_simp; (try go_bits); (try with_reducible rfl))
            try simp only [Act.put, List.getElem_toArray, List.getElem_cons_zero, List.getElem_cons_succ, List.setIfInBounds_toArray, List.set_cons_zero, List.set_cons_succ]
            refine reg_take 6 (v := ?_) rfl (by kernel_rfl) (by kernel_rfl) (by kernel_rfl) (fun _ _ _ h => h) (by kernel_rfl) ?_ ?_
            rotate_left
            · (intro w' hS; go_simp; (try go_bits); (try with_reducible rfl))
            try simp only [Act.put, List.getElem_toArray, List.getElem_cons_zero, List.getElem_cons_succ, List.setIfInBounds_toArray, List.set_cons_zero, List.set_cons_succ]
            refine reg_take 7 (v := ?_) rfl (by kernel_rfl) (by kernel_rfl) (by kernel_rfl) (fun _ _ _ h => h) (by kernel_rfl) ?_ ?_
            rotate_left
            · (intro w' hS; have hz := hS.cell (w := w6) q1 (fun e => hra e.symm); go_simp; (try go_bits); (try with_reducible rfl))
            try simp only [Act.put, List.getElem_toArray, List.getElem_cons_zero, List.getElem_cons_succ, List.setIfInBounds_toArray, List.set_cons_zero, List.set_cons_succ]
            refine reg_take 8 (v := ?_) rfl (by kernel_rfl) (by kernel_rfl) (by kernel_rfl) (fun _ _ _ h => h) (by kernel_rfl) ?_ ?_
            rotate_left
            · (intro w' hS; go_simp; (try go_bits); (try with_reducible rfl))
            try simp only [Act.put, List.getElem_toArray, List.getElem_cons_zero, List.getElem_cons_succ, List.setIfInBounds_toArray, List.set_cons_zero, List.set_cons_succ]
            refine reg_take 9 (v := ?_) rfl (by kernel_rfl) (by kernel_rfl) (by kernel_rfl) (fun _ _ _ h => h) (by kernel_rfl) ?_ ?_
            rotate_left
            · (intro w' hS; go_simp; (try go_bits); (try with_reducible rfl))
            try simp only [Act.put, List.getElem_toArray, List.getElem_cons_zero, List.getElem_cons_succ, List.setIfInBounds_toArray, List.set_cons_zero, List.set_cons_succ]
            refine reg_take 10 (v := ?_) rfl (by kernel_rfl) (by kernel_rfl) (by kernel_rfl) (fun _ _ _ h => h) (by kernel_rfl) ?_ ?_
            rotate_left
            · (intro w' hS; go_simp; (try go_bits); (try with_reducible rfl))
            try simp only [Act.put, List.getElem_toArray, List.getElem_cons_zero, List.getElem_cons_succ, List.setIfInBounds_toArray, List.set_cons_zero, List.set_cons_succ]
            refine reg_take 11 (v := ?_) rfl (by kernel_rfl) (by kernel_rfl) (by kernel_rfl) (fun _ _ _ h => h) (by kernel_rfl) ?_ ?_
            rotate_left
            · (intro w' hS; have hz := hS.cell (w := w6) q2 (fun e => hra e.symm); go_simp; (try go_bits); (try with_reducible rfl))
            try simp only [Act.put, List.getElem_toArray, List.getElem_cons_zero, List.getElem_cons_succ, List.setIfInBounds_toArray, List.set_cons_zero, List.set_cons_succ]
            refine reg_take 12 (v := ?_) rfl (by kernel_rfl) (by kernel_rfl) (by kernel_rfl) (fun _ _ _ h => h) (by kernel_rfl) ?_ ?_
            rotate_left
            · (intro w' hS; go_simp; (try go_bits); (try with_reducible rfl))
            try simp only [Act.put, List.getElem_toArray, List.getElem_cons_zero, List.getElem_cons_succ, List.setIfInBounds_toArray, List.set_cons_zero, List.set_cons_succ]
            refine reg_do 13 rfl (by kernel_rfl) (by kernel_rfl) ?_
            intro K hK
            go_simp
            rw [← E7.out]
            refine hK _ _ (c7) ?_
            clear hK K
            try simp only [Act.put, List.getElem_toArray, List.getElem_cons_zero, List.getElem_cons_succ, List.setIfInBounds_toArray, List.set_cons_zero, List.set_cons_succ]
            refine reg_take 14 (v := ?_) rfl (by kernel_rfl) (by kernel_rfl) (by kernel_rfl) (fun _ _ _ h => h) (by kernel_rfl) ?_ ?_
            rotate_left
            · (intro w' hS; go_simp; (try go_bits); (try with_reducible rfl))
            try simp only [Act.put, List.getElem_toArray, List.getElem_cons_zero, List.getElem_cons_succ, List.setIfInBounds_toArray, List.set_cons_zero, List.set_cons_succ]
            refine wpAnyH_done (by kernel_rfl) ?_ _
            clear r0 r1 r2 r3 r4 r5 r6 r7 r8 rf q0 q1 q2
            go_wp2_with (fail)
            refine bodyPost_ret (v := .tuple #[(welcomeM x.token (x.epoch + 1) mf).val, .int .i64 0]) ?_ rfl ⟨by rw [HR.out], C7, _, _, by rw [HR.out]; exact T7.out, fun k hk => HFO.out k hk⟩
            unfold results
            go_simp
            try rfl
end Go.Proofs.Ytpfnphkgmjgmeaa
