/- Package gantlineref20: Hello. -/
import Derived.Test.YtpfnphkgmjgmeaaSessP
namespace Go.Proofs.Ytpfnphkgmjgmeaa
open Go Go.RowKit
set_option linter.unusedVariables false
set_option linter.unusedSimpArgs false

theorem rzero_ses (w : World) : (zeroValue 75).run Try.prog w = .ok (.agg #[.int .u64 0, .int .i64 0, .int .i64 0, .int .i64 0]) w := by kernel_rfl
theorem chg_realloc {S : Nat → Prop} {w : World} {o o' : Obj} (hS : S w.heap.size) : Chg S (w.alloc o).drew (w.alloc o').drew := by
  refine ⟨rfl, rfl, rfl, by show (w.alloc o).heap.size ≤ (w.alloc o').heap.size; simp, fun k hk hn => ?_⟩
  have hk : k < (w.alloc o).heap.size := hk
  have hne : k ≠ w.heap.size := fun e => hn (by rw [e]; exact hS)
  have hlt : k < w.heap.size := by simp at hk; omega
  show (w.alloc o').heap[k]? = (w.alloc o).heap[k]?
  rw [Below.heap_alloc _ _ _ hlt, Below.heap_alloc _ _ _ hlt]
theorem chg_dd {S : Nat → Prop} {w w' : World} (h : Chg S w w') : Chg S w.drew w'.drew := ⟨h.os, h.tape, h.output, h.size, h.block⟩
/-- A token is set down as used. -/
theorem RTab.setU {w w' : World} {B p : Nat} {T : Tb} {us : List UInt64} {vL vU vU' : Value} (h : RTab w B p T us vL vU) (d : UInt64) (hr : w.ownsRow B 29 1 vU' (us ++ [d]).length ((us ++ [d]).map u64v)) (hl : (us ++ [d]).length ≤ 4398046511104)
    (e : w' = w.setCell ⟨p, 4, none⟩ vU') : RTab w' B p { T with U := fun i => T.U i || decide (i = (d.toNat : Int)) } (us ++ [d]) vL vU' ∧ Chg (fun k => k = p) w w' := by
  subst e
  have c : Chg (fun k => k = p) w (w.setCell ⟨p, 4, none⟩ vU') := Chg.setCell (S := fun k => k = p) (Chg.refl _ w) (p := ⟨p, 4, none⟩) (.inr rfl) _
  obtain ⟨cs, b1⟩ := h.blk
  have hp := h.pB
  refine ⟨⟨⟨_, heap_setCell_same w p 4 _ 42 vU' b1⟩, ?_, ?_, ?_, ?_, ?_, own_keep h.rowL c (fun g hg e => by have := (h.rowL.lt g hg).1; omega), own_keep hr c (fun g hg e => by have := (hr.lt g hg).1; omega), fun x => ?_, h.pB, h.n0, h.i2, h.l64, h.m64, hl, h.ep⟩, c⟩
  · rw [set_far (by decide)]; exact h.c0
  · rw [set_far (by decide)]; exact h.c1
  · rw [set_far (by decide)]; exact h.c2
  · rw [set_far (by decide)]; exact h.c3
  · exact set_at h.c4
  · simp only
    rw [h.uu x, Bool.eq_iff_iff]
    simp only [Bool.or_eq_true, decide_eq_true_eq, List.mem_append, List.mem_singleton]
    constructor
    · rintro (hx | hx)
      · exact .inl hx
      · exact .inr (UInt64.toNat_inj.1 (by omega))
    · rintro (hx | hx)
      · exact .inl hx
      · exact .inr (by rw [hx])
/-- A session is set. -/
theorem RTab.setSe {w w' : World} {B p q m g : Nat} {T : Tb} {us : List UInt64} {vU : Value} (h : RTab w B p T us (.slice (some ⟨g, 0, none⟩) m q) vU) {i : Nat} (hi : i < T.L.length) (y : Se) (hy : 0 ≤ y.epoch ∧ y.epoch ≤ 4398046511104 ∧ 0 ≤ y.last ∧ y.last ≤ 1099511627776)
    (e : w' = (((w.setCell ⟨g, i * 4, none⟩ (.int .u64 (y.token.toNat : Int))).setCell ⟨g, i * 4 + 1, none⟩ (.int .i64 y.epoch)).setCell ⟨g, i * 4 + 2, none⟩ (.int .i64 y.format)).setCell ⟨g, i * 4 + 3, none⟩ (.int .i64 y.last)) :
    RTab w' B p { T with L := T.L.set i y } us (.slice (some ⟨g, 0, none⟩) m q) vU ∧ Chg (fun k => k = g) w w' := by
  subst e
  have chg : ∀ (w : World) (j : Nat) (u : Value), Chg (fun k => k = g) w (w.setCell ⟨g, j, none⟩ u) := fun w j u => Chg.setCell (S := fun k => k = g) (Chg.refl _ w) (p := ⟨g, j, none⟩) (.inr rfl) u
  have c := (((chg w (i * 4) (.int .u64 (y.token.toNat : Int))).trans' (chg _ (i * 4 + 1) (.int .i64 y.epoch))).trans' (chg _ (i * 4 + 2) (.int .i64 y.format))).trans' (chg _ (i * 4 + 3) (.int .i64 y.last))
  have hg := (h.rowL.lt g rfl).1
  have hpB := h.pB
  have hmL : m = T.L.length := by
    rcases h.rowL.2 with ⟨h', -⟩ | ⟨g', cap, cur, h', -⟩
    · cases h'
    · cases h'; rfl
  have hU : ∀ k, vU.ownBlock = some k → ¬ k = g := by
    rintro k hk rfl
    exact own_far h.rowU h.rowL (by decide) hk rfl
  subst hmL
  obtain ⟨o1, -⟩ := h.rowL.stored (i * 4) (.int .u64 (y.token.toNat : Int))
  obtain ⟨o2, -⟩ := o1.stored (i * 4 + 1) (.int .i64 y.epoch)
  obtain ⟨o3, -⟩ := o2.stored (i * 4 + 2) (.int .i64 y.format)
  obtain ⟨o4, -⟩ := o3.stored (i * 4 + 3) (.int .i64 y.last)
  rw [rowCells_set4 T.L i y hi] at o4
  have hpg : ¬ p = g := by omega
  refine ⟨⟨?_, c.cell h.c0 hpg, c.cell h.c1 hpg, c.cell h.c2 hpg, c.cell h.c3 hpg, c.cell h.c4 hpg, ?_, own_keep h.rowU c hU, h.uu, h.pB, h.n0, h.i2, by simpa using h.l64, h.m64, h.ul, ?_⟩, c⟩
  · obtain ⟨cs, b1⟩ := h.blk
    exact ⟨cs, (c.block p h.plt hpg).trans b1⟩
  · simp only [List.length_set]
    exact o4
  · intro x hx
    rcases List.mem_or_eq_of_mem_set hx with hx | rfl
    · exact h.ep x hx
    · exact hy
theorem cat64 {w : World} {B m q : Nat} {v : Value} {A : Option Addr} {us ts : List UInt64} (h : w.ownsRow B 29 1 v us.length (us.map u64v)) (hr : Row w A (ts.map u64v)) (hm : ts.length = m) (hB : B ≤ w.heap.size) (hn : (us.length + ts.length) * 8 ≤ 140737488355328) :
    ∃ v' w', (Builtin.append_ #[22, 22] 22 #[v, .slice A m q]).run Try.prog w = .ok v' w' ∧ w'.ownsRow B 29 1 v' (us ++ ts).length ((us ++ ts).map u64v) ∧ Chg (fun k => v.ownBlock = some k) w w' ∧ (∀ k, v'.ownBlock = some k → v.ownBlock = some k ∨ w.heap.size ≤ k) := by
  subst hm
  obtain ⟨v6, w6, hr6, ho6, hg6, hb6⟩ := app_own (P := Try.prog) w B 22 22 29 Try.underlying22 infoU64 rfl (by decide) _ _ _ h A ts.length q (ts.map u64v) hr (by rw [List.length_map, Nat.mul_one]) (by intro u hu; obtain ⟨t, -, rfl⟩ := List.mem_map.1 hu; rfl) (by decide) hn hB
  refine ⟨v6, w6, hr6, ?_, (Chg.refl _ _).grown hg6 (fun k hk => .inr hk), hb6⟩
  rw [List.length_append, List.map_append]
  exact ho6
theorem RTab.rowUs {w : World} {B p m q : Nat} {A : Option Addr} {T : Tb} {us : List UInt64} {vL : Value} (h : RTab w B p T us vL (.slice A m q)) : Row w A (us.map u64v) := by
  rcases h.rowU.2 with ⟨h', h0⟩ | ⟨g, cap, cur, h', hb, hg, hnc, hcm, hcs, htk⟩
  · have : us = [] := List.eq_nil_of_length_eq_zero (by omega)
    rw [this]
    exact Row.nil _ _
  · cases h'
    refine ⟨fun _ => ⟨g, 0, rfl, fun j u hu => ?_⟩⟩
    have := World.ownsRow.cells h.rowU (g := g) rfl j u hu
    have e : (⟨g, 0, none⟩ : Addr).add j = ⟨g, 0 + j, none⟩ := by unfold Addr.add; split <;> simp_all
    rwa [e] at this
/-- What Hello leaves. -/
def rhelloPost (w : World) (B p : Nat) (us : List UInt64) (vU : Value) (R : (Mg × Int) × Tb) (e : Ending) (w' : World) : Prop :=
  ∃ vL' vU' us', e = .returned (.tuple #[R.1.1.val, .int .i64 R.1.2]) ∧ RTab w' B p R.2 us' vL' vU' ∧ us'.length ≤ us.length + 1 ∧ (∀ k, RFoot p vL' k → k = p ∨ w.heap.size ≤ k) ∧ (∀ k, vU'.ownBlock = some k → vU.ownBlock = some k ∨ w.heap.size ≤ k) ∧ Chg (fun k => k = p) w w'
set_option maxRecDepth 100000 in
set_option maxHeartbeats 4000000 in
theorem rhello_any {w : World} {B p : Nat} {T : Tb} {us : List UInt64} {vL vU : Value} (h : RTab w B p T us vL vU) (hB : B ≤ w.heap.size) (hlm : T.L.length ≤ T.most) (hus : us.length + 1 ≤ 4398046511104) (hepc : ∀ x ∈ T.L, x.epoch + 1 ≤ 4398046511104) (m : Mg) (d : UInt64) (now : Int) :
    Calls Try.prog 16 #[.pointer (some ⟨p, 0, none⟩), m.val, .int .u64 (d.toNat : Int), .int .i64 now] w (rhelloPost w B p us vU (helloOf T m d now)) := by
  obtain ⟨mk, mt, me, ms, ma, mb, mc, mf, mA, mn, mq⟩ := m
  have hz := zero_msg20
  have hplt := h.plt
  have c1 : Chg Pure' w (w.alloc (.cells #[.int .i64 mk, .int .u64 (mt.toNat : Int), .int .i64 me, .int .i64 ms, .int .i64 ma, .int .u64 (mb.toNat : Int), .int .i64 mc, .int .i64 mf, .slice mA mn mq] 32)) := (Chg.refl _ w).alloc _
  have hs1 : (w.alloc (.cells #[.int .i64 mk, .int .u64 (mt.toNat : Int), .int .i64 me, .int .i64 ms, .int .i64 ma, .int .u64 (mb.toNat : Int), .int .i64 mc, .int .i64 mf, .slice mA mn mq] 32)).heap.size = w.heap.size + 1 := by simp
  have c2 : Chg Pure' (w.alloc (.cells #[.int .i64 mk, .int .u64 (mt.toNat : Int), .int .i64 me, .int .i64 ms, .int .i64 ma, .int .u64 (mb.toNat : Int), .int .i64 mc, .int .i64 mf, .slice mA mn mq] 32)) ((w.alloc (.cells #[.int .i64 mk, .int .u64 (mt.toNat : Int), .int .i64 me, .int .i64 ms, .int .i64 ma, .int .u64 (mb.toNat : Int), .int .i64 mc, .int .i64 mf, .slice mA mn mq] 32)).alloc (.cells #[.int .i64 0, .int .u64 0, .int .i64 0, .int .i64 0, .int .i64 0, .int .u64 0, .int .i64 0, .int .i64 0, .slice none 0 0] 32)) := (Chg.refl _ _).alloc _
  have l0 : (w.alloc (.cells #[.int .i64 mk, .int .u64 (mt.toNat : Int), .int .i64 me, .int .i64 ms, .int .i64 ma, .int .u64 (mb.toNat : Int), .int .i64 mc, .int .i64 mf, .slice mA mn mq] 32)).cell? ⟨w.heap.size, 0, none⟩ = some (.int .i64 mk) := cellAt_alloc_lit w _ _ 0
  have l1 : (w.alloc (.cells #[.int .i64 mk, .int .u64 (mt.toNat : Int), .int .i64 me, .int .i64 ms, .int .i64 ma, .int .u64 (mb.toNat : Int), .int .i64 mc, .int .i64 mf, .slice mA mn mq] 32)).cell? ⟨w.heap.size, 1, none⟩ = some (.int .u64 (mt.toNat : Int)) := cellAt_alloc_lit w _ _ 1
  have l7 : (w.alloc (.cells #[.int .i64 mk, .int .u64 (mt.toNat : Int), .int .i64 me, .int .i64 ms, .int .i64 ma, .int .u64 (mb.toNat : Int), .int .i64 mc, .int .i64 mf, .slice mA mn mq] 32)).cell? ⟨w.heap.size, 7, none⟩ = some (.int .i64 mf) := cellAt_alloc_lit w _ _ 7
  have k0 := c2.cell l0 (fun h => h)
  have k1 := c2.cell l1 (fun h => h)
  have k7 := c2.cell l7 (fun h => h)
  have hb : MsgBlk ((w.alloc (.cells #[.int .i64 mk, .int .u64 (mt.toNat : Int), .int .i64 me, .int .i64 ms, .int .i64 ma, .int .u64 (mb.toNat : Int), .int .i64 mc, .int .i64 mf, .slice mA mn mq] 32)).alloc (.cells #[.int .i64 0, .int .u64 0, .int .i64 0, .int .i64 0, .int .i64 0, .int .u64 0, .int .i64 0, .int .i64 0, .slice none 0 0] 32)) (w.heap.size + 1) := ⟨_, by rw [← hs1]; exact heap_alloc_new _ _, rfl⟩
  have H2 := Lib.hid ((h.pure c1).pure c2)
  have cc := c1.pure c2
  have hs2 : ((w.alloc (.cells #[.int .i64 mk, .int .u64 (mt.toNat : Int), .int .i64 me, .int .i64 ms, .int .i64 ma, .int .u64 (mb.toNat : Int), .int .i64 mc, .int .i64 mf, .slice mA mn mq] 32)).alloc (.cells #[.int .i64 0, .int .u64 0, .int .i64 0, .int .i64 0, .int .i64 0, .int .u64 0, .int .i64 0, .int .i64 0, .slice none 0 0] 32)).heap.size = w.heap.size + 2 := by simp
  have HLM := Lib.hid hlm
  have HU3 : Hid (∀ k, vU.ownBlock = some k → k < w.heap.size) := Lib.hid (fun k hk => (h.rowU.lt k hk).2)
  have HEPC := Lib.hid hepc
  clear l0 l1 l7 c1 c2 hs1 h hlm hepc
  rw [show (Mg.val ⟨mk, mt, me, ms, ma, mb, mc, mf, mA, mn, mq⟩) = .agg #[.int .i64 mk, .int .u64 (mt.toNat : Int), .int .i64 me, .int .i64 ms, .int .i64 ma, .int .u64 (mb.toNat : Int), .int .i64 mc, .int .i64 mf, .slice mA mn mq] from rfl]
  obtain ⟨M, hM⟩ : ∃ M : Mg, (⟨mk, mt, me, ms, ma, mb, mc, mf, mA, mn, mq⟩ : Mg) = M := ⟨_, rfl⟩
  rw [hM]
  have HMM := Lib.hid hM
  clear hM
  go_enter Try.func16, Try.ntmps16
  go_wp2_with (fail)
  generalize ((w.alloc (.cells #[.int .i64 mk, .int .u64 (mt.toNat : Int), .int .i64 me, .int .i64 ms, .int .i64 ma, .int .u64 (mb.toNat : Int), .int .i64 mc, .int .i64 mf, .slice mA mn mq] 32)).alloc (.cells #[.int .i64 0, .int .u64 0, .int .i64 0, .int .i64 0, .int .i64 0, .int .u64 0, .int .i64 0, .int .i64 0, .slice none 0 0] 32)) = w2 at *
  refine (rtick_any H2.out (by omega) now).mono ?_
  rintro e w3 ⟨ve, vL3, rfl, hve, h3, hv3, c3⟩
  obtain ⟨Be, qe, rfl, -, -, -⟩ := own_slice hve
  have y0 := c3.cell k0 (fun e => by simp only at e; omega)
  have y1 := c3.cell k1 (fun e => by simp only at e; omega)
  have y7 := c3.cell k7 (fun e => by simp only at e; omega)
  have hb3 := hb.chg c3 (fun e => by omega)
  have C3 : Chg (fun k => k = p) w w3 := (cc.of_pure).trans' c3
  have hs3 : w.heap.size + 2 ≤ w3.heap.size := by have := c3.size; omega
  have H3 := Lib.hid h3
  have HW3 : Hid (∀ k, vL3.ownBlock = some k → k < w3.heap.size) := Lib.hid (fun k hk => (h3.rowL.lt k hk).2)
  have HV3 : Hid (∀ k, vL3.ownBlock = some k → w.heap.size + 2 ≤ k) := Lib.hid (fun k hk => by have := hv3 k hk; omega)
  clear k0 k1 k7 hb c3 h3 hv3 hve cc hs2 H2
  have cr : Chg Pure' w3 (w3.alloc (.cells #[.int .i64 5, .int .u64 (mt.toNat : Int), .int .i64 0, .int .i64 0, .int .i64 0, .int .u64 0, .int .i64 0, .int .i64 0, .slice none 0 0] 32)) := (Chg.refl _ w3).alloc _
  have q0 : (w3.alloc (.cells #[.int .i64 5, .int .u64 (mt.toNat : Int), .int .i64 0, .int .i64 0, .int .i64 0, .int .u64 0, .int .i64 0, .int .i64 0, .slice none 0 0] 32)).cell? ⟨w3.heap.size, 0, none⟩ = some (.int .i64 5) := cellAt_alloc_lit w3 _ _ 0
  have q1 : (w3.alloc (.cells #[.int .i64 5, .int .u64 (mt.toNat : Int), .int .i64 0, .int .i64 0, .int .i64 0, .int .u64 0, .int .i64 0, .int .i64 0, .slice none 0 0] 32)).cell? ⟨w3.heap.size, 1, none⟩ = some (.int .u64 (mt.toNat : Int)) := cellAt_alloc_lit w3 _ _ 1
  have q2 : (w3.alloc (.cells #[.int .i64 5, .int .u64 (mt.toNat : Int), .int .i64 0, .int .i64 0, .int .i64 0, .int .u64 0, .int .i64 0, .int .i64 0, .slice none 0 0] 32)).cell? ⟨w3.heap.size, 2, none⟩ = some (.int .i64 0) := cellAt_alloc_lit w3 _ _ 2
  have q3 : (w3.alloc (.cells #[.int .i64 5, .int .u64 (mt.toNat : Int), .int .i64 0, .int .i64 0, .int .i64 0, .int .u64 0, .int .i64 0, .int .i64 0, .slice none 0 0] 32)).cell? ⟨w3.heap.size, 3, none⟩ = some (.int .i64 0) := cellAt_alloc_lit w3 _ _ 3
  have q4 : (w3.alloc (.cells #[.int .i64 5, .int .u64 (mt.toNat : Int), .int .i64 0, .int .i64 0, .int .i64 0, .int .u64 0, .int .i64 0, .int .i64 0, .slice none 0 0] 32)).cell? ⟨w3.heap.size, 4, none⟩ = some (.int .i64 0) := cellAt_alloc_lit w3 _ _ 4
  have q5 : (w3.alloc (.cells #[.int .i64 5, .int .u64 (mt.toNat : Int), .int .i64 0, .int .i64 0, .int .i64 0, .int .u64 0, .int .i64 0, .int .i64 0, .slice none 0 0] 32)).cell? ⟨w3.heap.size, 5, none⟩ = some (.int .u64 0) := cellAt_alloc_lit w3 _ _ 5
  have q6 : (w3.alloc (.cells #[.int .i64 5, .int .u64 (mt.toNat : Int), .int .i64 0, .int .i64 0, .int .i64 0, .int .u64 0, .int .i64 0, .int .i64 0, .slice none 0 0] 32)).cell? ⟨w3.heap.size, 6, none⟩ = some (.int .i64 0) := cellAt_alloc_lit w3 _ _ 6
  have q7 : (w3.alloc (.cells #[.int .i64 5, .int .u64 (mt.toNat : Int), .int .i64 0, .int .i64 0, .int .i64 0, .int .u64 0, .int .i64 0, .int .i64 0, .slice none 0 0] 32)).cell? ⟨w3.heap.size, 7, none⟩ = some (.int .i64 0) := cellAt_alloc_lit w3 _ _ 7
  have q8 : (w3.alloc (.cells #[.int .i64 5, .int .u64 (mt.toNat : Int), .int .i64 0, .int .i64 0, .int .i64 0, .int .u64 0, .int .i64 0, .int .i64 0, .slice none 0 0] 32)).cell? ⟨w3.heap.size, 8, none⟩ = some (.slice none 0 0) := cellAt_alloc_lit w3 _ _ 8
  have y0 := cr.cell y0 (fun h => h)
  have y1 := cr.cell y1 (fun h => h)
  have y7 := cr.cell y7 (fun h => h)
  have hb3 := hb3.chg cr (fun h => h)
  have H3 := Lib.hid (H3.out.pure cr)
  have C3 := C3.pure cr
  have hs4 : (w3.alloc (.cells #[.int .i64 5, .int .u64 (mt.toNat : Int), .int .i64 0, .int .i64 0, .int .i64 0, .int .u64 0, .int .i64 0, .int .i64 0, .slice none 0 0] 32)).heap.size = w3.heap.size + 1 := by simp
  have hn : ∀ (j k : Nat) (u : Value), ((w3.alloc (.cells #[.int .i64 5, .int .u64 (mt.toNat : Int), .int .i64 0, .int .i64 0, .int .i64 0, .int .u64 0, .int .i64 0, .int .i64 0, .slice none 0 0] 32)).setCell ⟨w.heap.size + 1, j, none⟩ u).cell? ⟨w3.heap.size, k, none⟩ = (w3.alloc (.cells #[.int .i64 5, .int .u64 (mt.toNat : Int), .int .i64 0, .int .i64 0, .int .i64 0, .int .u64 0, .int .i64 0, .int .i64 0, .slice none 0 0] 32)).cell? ⟨w3.heap.size, k, none⟩ := fun j k u => World.cell?_setCell_other (w := (w3.alloc (.cells #[.int .i64 5, .int .u64 (mt.toNat : Int), .int .i64 0, .int .i64 0, .int .i64 0, .int .u64 0, .int .i64 0, .int .i64 0, .slice none 0 0] 32))) (a := ⟨w.heap.size + 1, j, none⟩) (b := ⟨w3.heap.size, k, none⟩) (v := u) (fun e => by injection e; omega)
  clear cr hn
  obtain ⟨rb, hrb⟩ : ∃ r, w3.heap.size = r := ⟨_, rfl⟩
  rw [hrb] at q0 q1 q2 q3 q4 q5 q6 q7 q8
  by_cases hkd : mk ≠ 3 ∨ (mf ≠ 1 ∧ mf ≠ 2)
  · have hR : helloOf T M d now = ((resetM mt, 12), tickT T now) := by
      rw [← HMM.out]; unfold helloOf; rw [if_pos hkd]
    have HR := Lib.hid hR
    clear hR
    by_cases hk3 : mk = 3
    · subst hk3
      have i1 : ((3 : Int) != 3) = false := rfl
      have i2 : (mf != 1) = true := by rw [bne_iff_ne]; omega
      have i3 : (mf != 2) = true := by rw [bne_iff_ne]; omega
      clear hkd
      obtain ⟨⟨v0, v1, v2, v3, v4', v5, v6, v7, v8, r0, r1, r2, r3, r4, r5, r6, r7, r8⟩, rf⟩ := hb3.cells
      obtain ⟨w5, e5, c5, -, f0, f1, f2, f3, f4, f5, f6, f7, f8⟩ := set9 hb3 (.int .i64 5) (.int .u64 (mt.toNat : Int)) (.int .i64 0) (.int .i64 0) (.int .i64 0) (.int .u64 0) (.int .i64 0) (.int .i64 0) (.slice none 0 0)
      have E5 := Lib.hid e5
      clear e5
      go_wp2_with (fail)
      rw [← E5.out]
      clear r0 r1 r2 r3 r4 r5 r6 r7 r8 rf
      refine bodyPost_ret (v := .tuple #[(resetM mt).val, .int .i64 12]) ?_ rfl ⟨vL3, vU, us, by rw [HR.out], by rw [HR.out]; exact H3.out.frame c5 (fun e => by omega) (fun k hk e => by have := HV3.out k hk; omega) (fun k hk e => by have := HU3.out k hk; omega), Nat.le_succ _, fun k hk => hk.imp id (fun h => by have := HV3.out k h; omega), fun k hk => .inl hk, C3.trans c5 (fun i hi e => by have e : i = w.heap.size + 1 := e; omega)⟩
      unfold results
      go_simp
      try rfl
    · have i1 : (mk != 3) = true := by rw [bne_iff_ne]; exact hk3
      clear hkd hk3
      obtain ⟨⟨v0, v1, v2, v3, v4', v5, v6, v7, v8, r0, r1, r2, r3, r4, r5, r6, r7, r8⟩, rf⟩ := hb3.cells
      obtain ⟨w5, e5, c5, -, f0, f1, f2, f3, f4, f5, f6, f7, f8⟩ := set9 hb3 (.int .i64 5) (.int .u64 (mt.toNat : Int)) (.int .i64 0) (.int .i64 0) (.int .i64 0) (.int .u64 0) (.int .i64 0) (.int .i64 0) (.slice none 0 0)
      have E5 := Lib.hid e5
      clear e5
      go_wp2_with (fail)
      rw [← E5.out]
      clear r0 r1 r2 r3 r4 r5 r6 r7 r8 rf
      refine bodyPost_ret (v := .tuple #[(resetM mt).val, .int .i64 12]) ?_ rfl ⟨vL3, vU, us, by rw [HR.out], by rw [HR.out]; exact H3.out.frame c5 (fun e => by omega) (fun k hk e => by have := HV3.out k hk; omega) (fun k hk e => by have := HU3.out k hk; omega), Nat.le_succ _, fun k hk => hk.imp id (fun h => by have := HV3.out k h; omega), fun k hk => .inl hk, C3.trans c5 (fun i hi e => by have e : i = w.heap.size + 1 := e; omega)⟩
      unfold results
      go_simp
      try rfl
  · have hmk : mk = 3 := by omega
    subst hmk
    have hff : mf = 1 ∨ mf = 2 := by omega
    have i1 : ((3 : Int) != 3) = false := rfl
    have HK := Lib.hid hkd
    have hzs := rzero_ses
    have n3 := H3.out.c2
    have hppr : p < w.heap.size := hplt
    clear hkd
    rcases hff with hf | hf
    case' inl =>
      have j1 : (mf != 1) = false := by rw [hf]; rfl
      have j2 : (mf != 2) = true := by rw [hf]; rfl
    case' inr =>
      have j1 : (mf != 1) = true := by rw [hf]; rfl
      have j2 : (mf != 2) = false := by rw [hf]; rfl
    all_goals
      clear hf
      go_wp2_with (fail)
      generalize (w3.alloc (.cells #[.int .i64 5, .int .u64 (mt.toNat : Int), .int .i64 0, .int .i64 0, .int .i64 0, .int .u64 0, .int .i64 0, .int .i64 0, .slice none 0 0] 32)) = w4 at *
      refine reg_begin (fun k => w4.heap.size ≤ k) (by kernel_rfl) ?_
      refine reg_take 0 (v := ?_) rfl (by kernel_rfl) (by kernel_rfl) (by kernel_rfl) (fun _ _ _ h => h) (by kernel_rfl) ?_ ?_
      rotate_left
      · (intro w' hS; go_simp; (try go_bits); (try with_reducible rfl))
      try simp only [Act.put, List.getElem_toArray, List.getElem_cons_zero, List.getElem_cons_succ, List.setIfInBounds_toArray, List.set_cons_zero, List.set_cons_succ]
      refine reg_take 1 (v := ?_) rfl (by kernel_rfl) (by kernel_rfl) (by kernel_rfl) (fun _ _ _ h => h) (by kernel_rfl) ?_ ?_
      rotate_left
      · (intro w' hS; go_simp; (try go_bits); (try with_reducible rfl))
      try simp only [Act.put, List.getElem_toArray, List.getElem_cons_zero, List.getElem_cons_succ, List.setIfInBounds_toArray, List.set_cons_zero, List.set_cons_succ]
      refine reg_take 2 (v := ?_) rfl (by kernel_rfl) (by kernel_rfl) (by kernel_rfl) (fun _ _ _ h => h) (by kernel_rfl) ?_ ?_
      rotate_left
      · (intro w' hS; have hz := hS.cell (w := w4.drew) y7 (fun h => by simp only at h; omega); go_simp; (try go_bits); (try with_reducible rfl))
      try simp only [Act.put, List.getElem_toArray, List.getElem_cons_zero, List.getElem_cons_succ, List.setIfInBounds_toArray, List.set_cons_zero, List.set_cons_succ]
      refine reg_take 3 (v := ?_) rfl (by kernel_rfl) (by kernel_rfl) (by kernel_rfl) (fun _ _ _ h => h) (by kernel_rfl) ?_ ?_
      rotate_left
      · (intro w' hS; go_simp; (try go_bits); (try with_reducible rfl))
      try simp only [Act.put, List.getElem_toArray, List.getElem_cons_zero, List.getElem_cons_succ, List.setIfInBounds_toArray, List.set_cons_zero, List.set_cons_succ]
      refine reg_take 4 (v := ?_) rfl (by kernel_rfl) (by kernel_rfl) (by kernel_rfl) (fun _ _ _ h => h) (by kernel_rfl) ?_ ?_
      rotate_left
      · (intro w' hS; go_simp; (try go_bits); (try with_reducible rfl))
      try simp only [Act.put, List.getElem_toArray, List.getElem_cons_zero, List.getElem_cons_succ, List.setIfInBounds_toArray, List.set_cons_zero, List.set_cons_succ]
      refine reg_take 5 (v := ?_) rfl (by kernel_rfl) (by kernel_rfl) (by kernel_rfl) (fun _ _ _ h => h) (by kernel_rfl) ?_ ?_
      rotate_left
      · (intro w' hS; go_simp; (try go_bits); (try with_reducible rfl))
      try simp only [Act.put, List.getElem_toArray, List.getElem_cons_zero, List.getElem_cons_succ, List.setIfInBounds_toArray, List.set_cons_zero, List.set_cons_succ]
      refine reg_take 6 (v := ?_) rfl (by kernel_rfl) (by kernel_rfl) (by kernel_rfl) (fun _ _ _ h => h) (by kernel_rfl) ?_ ?_
      rotate_left
      · (intro w' hS; have hz := hS.cell (w := w4.drew) n3 (fun h => by simp only at h; omega); go_simp; (try go_bits); (try with_reducible rfl))
      try simp only [Act.put, List.getElem_toArray, List.getElem_cons_zero, List.getElem_cons_succ, List.setIfInBounds_toArray, List.set_cons_zero, List.set_cons_succ]
      refine reg_take 7 (v := ?_) rfl (by kernel_rfl) (by kernel_rfl) (by kernel_rfl) (fun _ _ _ h => h) (by kernel_rfl) ?_ ?_
      rotate_left
      · (intro w' hS; go_simp; (try go_bits); (try with_reducible rfl))
      try simp only [Act.put, List.getElem_toArray, List.getElem_cons_zero, List.getElem_cons_succ, List.setIfInBounds_toArray, List.set_cons_zero, List.set_cons_succ]
      refine reg_do 8 rfl (by kernel_rfl) (by kernel_rfl) ?_
      intro K hK
      go_simp
      refine hK _ _ ((Chg.refl _ _).alloc _) ?_
      clear hK K
      try simp only [Act.put, List.getElem_toArray, List.getElem_cons_zero, List.getElem_cons_succ, List.setIfInBounds_toArray, List.set_cons_zero, List.set_cons_succ]
      refine reg_do 9 rfl (by kernel_rfl) (by kernel_rfl) ?_
      intro K hK
      go_simp
      refine hK _ _ (chg_realloc (Nat.le_refl _)) ?_
      clear hK K
      try simp only [Act.put, List.getElem_toArray, List.getElem_cons_zero, List.getElem_cons_succ, List.setIfInBounds_toArray, List.set_cons_zero, List.set_cons_succ]
      refine wpAnyH_done (by kernel_rfl) ?_ _
      have hz5 : (w4.alloc (.cells #[.int .u64 (d.toNat : Int), .int .i64 1, .int .i64 mf, .int .i64 (tickT T now).now] 75)).drew.heap.size = rb + 2 := by show (w4.alloc _).heap.size = _; simp; omega
      have cx : Chg Pure' w4 (w4.alloc (.cells #[.int .u64 (d.toNat : Int), .int .i64 1, .int .i64 mf, .int .i64 (tickT T now).now] 75)).drew := ((Chg.refl _ w4).alloc _).drew
      have lit := fun j => cellAt_alloc_lit w4 #[.int .u64 (d.toNat : Int), .int .i64 1, .int .i64 mf, .int .i64 (tickT T now).now] 75 j
      have hxb : w4.heap.size = rb + 1 := by omega
      rw [hxb] at lit
      have z0 : (w4.alloc (.cells #[.int .u64 (d.toNat : Int), .int .i64 1, .int .i64 mf, .int .i64 (tickT T now).now] 75)).drew.cell? ⟨rb + 1, 0, none⟩ = some (.int .u64 (d.toNat : Int)) := lit 0
      have z1 : (w4.alloc (.cells #[.int .u64 (d.toNat : Int), .int .i64 1, .int .i64 mf, .int .i64 (tickT T now).now] 75)).drew.cell? ⟨rb + 1, 1, none⟩ = some (.int .i64 1) := lit 1
      have z2 : (w4.alloc (.cells #[.int .u64 (d.toNat : Int), .int .i64 1, .int .i64 mf, .int .i64 (tickT T now).now] 75)).drew.cell? ⟨rb + 1, 2, none⟩ = some (.int .i64 mf) := lit 2
      have z3 : (w4.alloc (.cells #[.int .u64 (d.toNat : Int), .int .i64 1, .int .i64 mf, .int .i64 (tickT T now).now] 75)).drew.cell? ⟨rb + 1, 3, none⟩ = some (.int .i64 (tickT T now).now) := lit 3
      have zb : (w4.alloc (.cells #[.int .u64 (d.toNat : Int), .int .i64 1, .int .i64 mf, .int .i64 (tickT T now).now] 75)).drew.heap[rb + 1]? = some (.cells #[.int .u64 (d.toNat : Int), .int .i64 1, .int .i64 mf, .int .i64 (tickT T now).now] 75 (0, 0)) := by rw [← hxb]; exact heap_alloc_new w4 _
      have y1 := cx.cell y1 (fun h => h)
      have y7 := cx.cell y7 (fun h => h)
      have q0 := cx.cell q0 (fun h => h)
      have q1 := cx.cell q1 (fun h => h)
      have q2 := cx.cell q2 (fun h => h)
      have q3 := cx.cell q3 (fun h => h)
      have q4 := cx.cell q4 (fun h => h)
      have q5 := cx.cell q5 (fun h => h)
      have q6 := cx.cell q6 (fun h => h)
      have q7 := cx.cell q7 (fun h => h)
      have q8 := cx.cell q8 (fun h => h)
      have hb3 := hb3.chg cx (fun h => h)
      have H3 := Lib.hid (H3.out.pure cx)
      have C3 := C3.pure cx
      clear cx lit hxb n3 y0 hs4
      generalize (w4.alloc (.cells #[.int .u64 (d.toNat : Int), .int .i64 1, .int .i64 mf, .int .i64 (tickT T now).now] 75)).drew = w5 at *
      by_cases hm0 : mt = 0
      · have hm1 : ((mt.toNat : Int) == 0) = true := by rw [hm0]; rfl
        have HM0 := Lib.hid hm0
        clear hm0
        have hcall := rbegins_any H3.out (Nat.le_trans (List.length_filter_le _ _) HLM.out) d
        by_cases hne : beginE (tickT T now) d ≠ 0
        · have hR : helloOf T M d now = ((resetM mt, beginE (tickT T now) d), tickT T now) := by
            rw [← HMM.out]; unfold helloOf; rw [if_neg HK.out, if_pos HM0.out, if_pos hne]
          have HR := Lib.hid hR
          have i4 : (beginE (tickT T now) d != 0) = true := by rw [bne_iff_ne]; exact hne
          generalize beginE (tickT T now) d = E at *
          have HCA := Lib.hid hcall
          clear hR hne hcall
          go_wp2_with (fail)
          refine HCA.out.mono ?_
          rintro e w6 ⟨rfl, c6⟩
          have q0 := c6.cell q0 (fun h => h)
          have q1 := c6.cell q1 (fun h => h)
          have q2 := c6.cell q2 (fun h => h)
          have q3 := c6.cell q3 (fun h => h)
          have q4 := c6.cell q4 (fun h => h)
          have q5 := c6.cell q5 (fun h => h)
          have q6 := c6.cell q6 (fun h => h)
          have q7 := c6.cell q7 (fun h => h)
          have q8 := c6.cell q8 (fun h => h)
          have hb3 := hb3.chg c6 (fun h => h)
          have H3 := Lib.hid (H3.out.pure c6)
          have C3 := C3.pure c6
          clear c6 HCA
          obtain ⟨⟨v0, v1, v2, v3, v4', v5, v6, v7, v8, r0, r1, r2, r3, r4, r5, r6, r7, r8⟩, rf⟩ := hb3.cells
          obtain ⟨w9, e9, c9, -, f0, f1, f2, f3, f4, f5, f6, f7, f8⟩ := set9 hb3 (.int .i64 5) (.int .u64 (mt.toNat : Int)) (.int .i64 0) (.int .i64 0) (.int .i64 0) (.int .u64 0) (.int .i64 0) (.int .i64 0) (.slice none 0 0)
          have E9 := Lib.hid e9
          clear e9
          go_wp2_with (fail)
          rw [← E9.out]
          clear r0 r1 r2 r3 r4 r5 r6 r7 r8 rf
          refine bodyPost_ret (v := .tuple #[(resetM mt).val, .int .i64 E]) ?_ rfl ⟨vL3, vU, us, by rw [HR.out], by rw [HR.out]; exact H3.out.frame c9 (fun e => by omega) (fun k hk e => by have := HV3.out k hk; omega) (fun k hk e => by have := HU3.out k hk; omega), Nat.le_succ _, fun k hk => hk.imp id (fun h => by have := HV3.out k h; omega), fun k hk => .inl hk, C3.trans c9 (fun i hi e => by have e : i = w.heap.size + 1 := e; omega)⟩
          unfold results
          go_simp
          try rfl
        · have hz0 : beginE (tickT T now) d = 0 := by omega
          rw [hz0] at hcall
          have hR : helloOf T M d now = ((welcomeM d 1 mf, 0), { beginT (tickT T now) d with L := (tickT T now).L ++ [⟨d, 1, mf, (tickT T now).now⟩] }) := by
            rw [← HMM.out]; unfold helloOf
            rw [if_neg HK.out, if_pos HM0.out, if_neg (by rw [hz0]; simp)]
            simp only [beginT]
            rw [List.set_append_right _ _ (Nat.le_refl _), Nat.sub_self]
            rfl
          have HR := Lib.hid hR
          have HCA := Lib.hid hcall
          have hlt : (tickT T now).L.length < (tickT T now).most := by
            have h1 := Nat.le_trans (List.length_filter_le (fun x => !overB (tickNow T now) T.idle x) T.L) HLM.out
            unfold beginE at hz0
            split at hz0
            · omega
            · split at hz0
              · omega
              · split at hz0
                · omega
                · rename_i hne2
                  have h1 : (tickT T now).L.length ≤ (tickT T now).most := h1
                  omega
          have hn0 := H3.out.n0
          clear hR hcall hne hz0
          go_wp2_with (fail)
          refine HCA.out.mono ?_
          rintro e w6 ⟨rfl, c6⟩
          have z0 := c6.cell z0 (fun h => h)
          have z1 := c6.cell z1 (fun h => h)
          have z2 := c6.cell z2 (fun h => h)
          have z3 := c6.cell z3 (fun h => h)
          have hb3 := hb3.chg c6 (fun h => h)
          have H6 := H3.out.pure c6
          have C6 := C3.pure c6
          have hs6 := c6.size
          clear c6 HCA q0 q1 q2 q3 q4 q5 q6 q7 q8 H3 C3 zb y1 y7
          obtain ⟨A, q, hvL, hq, hr1, -⟩ := H6.part
          have hr1 := hr1 (tickT T now).L.length
          rw [List.take_length] at hr1
          subst hvL
          have p3 := H6.c3
          have hfr3 : ∀ j, w6.frozen? ⟨p, j, none⟩ = false := fun j => by obtain ⟨cs, b1⟩ := H6.blk; exact free_at b1
          have hl64 := H6.m64
          have hnil : w6.drew.ownsRow w6.heap.size 75 4 (.slice none 0 0) ([] : List Se).length (rowCells []) := World.ownsRow_nil _ _ _ _
          obtain ⟨N1, hN1⟩ : ∃ n, (tickT T now).now = n := ⟨_, rfl⟩
          have HN1 := Lib.hid hN1
          rw [hN1] at z3 hn0
          have cb : Chg Pure' w6.drew (w6.drew.alloc (.cells #[.int .u64 (d.toNat : Int), .int .i64 1, .int .i64 mf, .int .i64 N1] 75)) := (Chg.refl _ _).alloc _
          obtain ⟨va, wa, hra, hoa, ca, -⟩ := catSe (B := w6.heap.size) (L := []) (M := (tickT T now).L) (q := q) (m := (tickT T now).L.length) hnil (hr1.chg (Chg.refl Pure' w6).drew (Off.pure _)) rfl (Nat.le_refl w6.heap.size) (by simp only [List.length_nil]; omega)
          have ca : Chg Pure' w6.drew wa := ca.mono (fun k hk e => by cases e)
          rw [List.nil_append] at hoa
          have hva := fun k hk => (hoa.lt k hk).1
          have caw : Chg Pure' wa (wa.alloc (.cells #[.int .u64 (d.toNat : Int), .int .i64 1, .int .i64 mf, .int .i64 N1] 75)) := (Chg.refl _ _).alloc _
          have hrxA : Row (wa.alloc (.cells #[.int .u64 (d.toNat : Int), .int .i64 1, .int .i64 mf, .int .i64 N1] 75)) (some ⟨wa.heap.size, 0, none⟩) (rowCells [⟨d, 1, mf, N1⟩]) := by
            refine ⟨fun _ => ⟨wa.heap.size, 0, rfl, fun j u hu => ?_⟩⟩
            have := cellAt_alloc_lit wa #[.int .u64 (d.toNat : Int), .int .i64 1, .int .i64 mf, .int .i64 N1] 75 j
            rw [Nat.zero_add]
            refine Eq.trans this ?_
            rw [← hu]
            simp [rowCells, seCells]
          obtain ⟨vb, wb, hrb2, hob, cb2, -⟩ := catSe (q := 1) (m := 1) (own_keep hoa caw (fun _ _ h => h)) hrxA rfl (Nat.le_trans ca.size caw.size) (by simp only [List.length_cons, List.length_nil]; omega)
          have cabw : Chg (fun k => w6.heap.size ≤ k) (wa.alloc (.cells #[.int .u64 (d.toNat : Int), .int .i64 1, .int .i64 mf, .int .i64 N1] 75)) wb := cb2.mono (fun k hk e => hva k e)
          have cab : Chg (fun k => w6.heap.size ≤ k) wa wb := (caw.of_pure (S := fun k => w6.heap.size ≤ k)).trans' cabw
          have hnilB : (w6.drew.alloc (.cells #[.int .u64 (d.toNat : Int), .int .i64 1, .int .i64 mf, .int .i64 N1] 75)).ownsRow w6.heap.size 75 4 (.slice none 0 0) ([] : List Se).length (rowCells []) := World.ownsRow_nil _ _ _ _
          obtain ⟨vc, wc, hrc, hoc, cc, -⟩ := catSe (B := w6.heap.size) (L := []) (M := (tickT T now).L) (q := q) (m := (tickT T now).L.length) hnilB (hr1.chg ((Chg.refl Pure' w6).drew.alloc _) (Off.pure _)) rfl cb.size (by simp only [List.length_nil]; omega)
          have cc : Chg Pure' (w6.drew.alloc (.cells #[.int .u64 (d.toNat : Int), .int .i64 1, .int .i64 mf, .int .i64 N1] 75)) wc := cc.mono (fun k hk e => by cases e)
          rw [List.nil_append] at hoc
          have hvc := fun k hk => (hoc.lt k hk).1
          have hrx : Row wc (some ⟨w6.heap.size, 0, none⟩) (rowCells [⟨d, 1, mf, N1⟩]) := by
            refine Row.chg ?_ cc (Off.pure _)
            refine ⟨fun _ => ⟨w6.heap.size, 0, rfl, fun j u hu => ?_⟩⟩
            have := cellAt_alloc_lit w6.drew #[.int .u64 (d.toNat : Int), .int .i64 1, .int .i64 mf, .int .i64 N1] 75 j
            rw [Nat.zero_add]
            refine Eq.trans this ?_
            rw [← hu]
            simp [rowCells, seCells]
          obtain ⟨vd, wd, hrd, hod, cd2, -⟩ := catSe (q := 1) (m := 1) hoc hrx rfl (Nat.le_trans cb.size cc.size) (by simp only [List.length_cons, List.length_nil]; omega)
          have ccd : Chg (fun k => w6.heap.size ≤ k) wc wd := cd2.mono (fun k hk e => hvc k e)
          have CB : Chg Pure' w6 wb := (((Chg.refl Pure' w6).drew.pure ca).of_pure (S := fun k => w6.heap.size ≤ k)).trans' cab |>.mono (fun k hk e => by omega)
          have CD : Chg Pure' w6 wd := ((((Chg.refl Pure' w6).drew.pure cb).pure cc).of_pure (S := fun k => w6.heap.size ≤ k)).trans' ccd |>.mono (fun k hk e => by omega)
          have HB2 := Lib.hid (And.intro hob CB)
          have HD2 := Lib.hid (And.intro hod CD)
          obtain ⟨Aa, qa, rfl, -⟩ := own_slice hoa
          obtain ⟨Ac, qc, rfl, -⟩ := own_slice hoc
          obtain ⟨Ab, qb, rfl, -⟩ := own_slice hob
          obtain ⟨Ad, qd, rfl, -⟩ := own_slice hod
          have pb3 := (H6.pure CB).c3
          have pd3 := (H6.pure CD).c3
          have fb3 : ∀ j, wb.frozen? ⟨p, j, none⟩ = false := fun j => by obtain ⟨cs, b1⟩ := (H6.pure CB).blk; exact free_at b1
          have fd3 : ∀ j, wd.frozen? ⟨p, j, none⟩ = false := fun j => by obtain ⟨cs, b1⟩ := (H6.pure CD).blk; exact free_at b1
          have fb3 := fb3 3
          have fd3 := fd3 3
          clear hob hod hoa hoc cb2 cd2 hva hvc hrx hrxA CB CD
          have H6' := Lib.hid H6
          obtain ⟨n0, hn0'⟩ : ∃ n, (tickT T now).L.length = n := ⟨_, rfl⟩
          have hll : ∀ y : Se, ((tickT T now).L ++ [y]).length = n0 + 1 := fun y => by rw [List.length_append, hn0']; rfl
          have HLL := Lib.hid hll
          rw [hll] at hrb2 hrd
          rw [hn0'] at p3 hra hrb2 hrc hrd hq
          rw [hll] at HB2 HD2
          have hn64 : n0 + 1 ≤ 64 := by omega
          clear H6 hll hn0'
          go_wp2_with (fail)
          refine regL_begin 11 (fun k => w6.heap.size ≤ k) (by kernel_rfl) ?_
          refine regL_take 0 (v := ?_) rfl (by kernel_rfl) (by kernel_rfl) (by kernel_rfl) (by kernel_rfl) (fun _ _ _ h => h) (by kernel_rfl) ?_ ?_
          rotate_left
          · (intro w' hS; go_simp; (try go_bits); (try with_reducible rfl))
          try simp only [Act.put, List.getElem_toArray, List.getElem_cons_zero, List.getElem_cons_succ, List.setIfInBounds_toArray, List.set_cons_zero, List.set_cons_succ]
          refine regL_take 1 (v := ?_) rfl (by kernel_rfl) (by kernel_rfl) (by kernel_rfl) (by kernel_rfl) (fun _ _ _ h => h) (by kernel_rfl) ?_ ?_
          rotate_left
          · (intro w' hS; go_simp; (try go_bits); (try with_reducible rfl))
          try simp only [Act.put, List.getElem_toArray, List.getElem_cons_zero, List.getElem_cons_succ, List.setIfInBounds_toArray, List.set_cons_zero, List.set_cons_succ]
          refine regL_take 2 (v := ?_) rfl (by kernel_rfl) (by kernel_rfl) (by kernel_rfl) (by kernel_rfl) (fun _ _ _ h => h) (by kernel_rfl) ?_ ?_
          rotate_left
          · (intro w' hS; go_simp; (try go_bits); (try with_reducible rfl))
          try simp only [Act.put, List.getElem_toArray, List.getElem_cons_zero, List.getElem_cons_succ, List.setIfInBounds_toArray, List.set_cons_zero, List.set_cons_succ]
          refine regL_take 3 (v := ?_) rfl (by kernel_rfl) (by kernel_rfl) (by kernel_rfl) (by kernel_rfl) (fun _ _ _ h => h) (by kernel_rfl) ?_ ?_
          rotate_left
          · (intro w' hS; go_simp; (try go_bits); (try with_reducible rfl))
          try simp only [Act.put, List.getElem_toArray, List.getElem_cons_zero, List.getElem_cons_succ, List.setIfInBounds_toArray, List.set_cons_zero, List.set_cons_succ]
          refine regL_take 4 (v := ?_) rfl (by kernel_rfl) (by kernel_rfl) (by kernel_rfl) (by kernel_rfl) (fun _ _ _ h => h) (by kernel_rfl) ?_ ?_
          rotate_left
          · (intro w' hS; have hz := hS.cell (w := w6.drew) p3 (fun h => by simp only at h; omega); go_simp; (try go_bits); (try with_reducible rfl))
          try simp only [Act.put, List.getElem_toArray, List.getElem_cons_zero, List.getElem_cons_succ, List.setIfInBounds_toArray, List.set_cons_zero, List.set_cons_succ]
          refine regL_take 6 (v := ?_) rfl (by kernel_rfl) (by kernel_rfl) (by kernel_rfl) (by kernel_rfl) (fun _ _ _ h => h) (by kernel_rfl) ?_ ?_
          rotate_left
          · (intro w' hS; have hz := hS.cell (w := w6.drew) z0 (fun h => by simp only at h; omega); have hy1 := hS.cell (w := w6.drew) z1 (fun h => by simp only at h; omega); have hy2 := hS.cell (w := w6.drew) z2 (fun h => by simp only at h; omega); have hy3 := hS.cell (w := w6.drew) z3 (fun h => by simp only at h; omega); go_simp; (try go_bits); (try with_reducible rfl))
          try simp only [Act.put, List.getElem_toArray, List.getElem_cons_zero, List.getElem_cons_succ, List.setIfInBounds_toArray, List.set_cons_zero, List.set_cons_succ]
          refine regL_do2 5 7 rfl rfl (by kernel_rfl) (by kernel_rfl) (by kernel_rfl) ?_ ?_
          case' refine_1 =>
            intro K hK
            refine Lib.wp_append_run _ _ _ _ _ rfl _ _ rfl rfl _ _ hra ?_
            refine hK _ _ (ca.of_pure) ?_
            clear hK K
            try simp only [Act.put, List.getElem_toArray, List.getElem_cons_zero, List.getElem_cons_succ, List.setIfInBounds_toArray, List.set_cons_zero, List.set_cons_succ]
            refine regL_do 7 rfl (by kernel_rfl) (by kernel_rfl) ?_
            intro K hK
            go_simp
            refine hK _ _ ((Chg.refl _ _).alloc _) ?_
            clear hK K
            try simp only [Act.put, List.getElem_toArray, List.getElem_cons_zero, List.getElem_cons_succ, List.setIfInBounds_toArray, List.set_cons_zero, List.set_cons_succ]
            refine regL_do 8 rfl (by kernel_rfl) (by kernel_rfl) ?_
            intro K hK
            refine Lib.wp_append_run _ _ _ _ _ rfl _ _ rfl rfl _ _ hrb2 ?_
            refine hK _ _ (cabw) ?_
            clear hK K
            try simp only [Act.put, List.getElem_toArray, List.getElem_cons_zero, List.getElem_cons_succ, List.setIfInBounds_toArray, List.set_cons_zero, List.set_cons_succ]
            refine regL_do 9 rfl (by kernel_rfl) (by kernel_rfl) ?_
            intro K hK
            go_simp
            refine hK _ _ (Chg.refl _ _) ?_
            clear hK K
            try simp only [Act.put, List.getElem_toArray, List.getElem_cons_zero, List.getElem_cons_succ, List.setIfInBounds_toArray, List.set_cons_zero, List.set_cons_succ]
            refine regL_take 10 (v := ?_) rfl (by kernel_rfl) (by kernel_rfl) (by kernel_rfl) (by kernel_rfl) (fun _ _ _ h => h) (by kernel_rfl) ?_ ?_
            rotate_left
            · (intro w' hS; go_simp; (try go_bits); (try with_reducible rfl))
            try simp only [Act.put, List.getElem_toArray, List.getElem_cons_zero, List.getElem_cons_succ, List.setIfInBounds_toArray, List.set_cons_zero, List.set_cons_succ]
            refine regL_last rfl (by kernel_rfl) (by kernel_rfl) ?_
            intro K hK
            go_simp
            refine hK _ _ ?_
            clear hK K
            try simp only [Act.put, List.getElem_toArray, List.getElem_cons_zero, List.getElem_cons_succ, List.setIfInBounds_toArray, List.set_cons_zero, List.set_cons_succ]
            refine wpAnyL_done (by kernel_rfl) ?_ _
            obtain ⟨hob, CB⟩ := HB2.out
            have C9' := C6.pure CB
            obtain ⟨h9, c9⟩ := (H6'.out.pure CB).setL ((tickT T now).L ++ [⟨d, 1, mf, N1⟩]) (vL' := .slice Ab (n0 + 1) qb) (by rw [HLL.out]; exact World.ownsRow.low hob (by have := C6.size; omega)) (by rw [HLL.out]; exact hn64) (by
              intro y hy
              rcases List.mem_append.1 hy with hy | hy
              · exact H6'.out.ep y hy
              · simp at hy; subst hy; exact ⟨by show (0 : Int) ≤ 1; decide, by show (1 : Int) ≤ 4398046511104; decide, hn0⟩) rfl
            have z0 := c9.cell (CB.cell z0 (fun h => h)) (fun e => by simp only at e; omega)
            have z1 := c9.cell (CB.cell z1 (fun h => h)) (fun e => by simp only at e; omega)
            have z2 := c9.cell (CB.cell z2 (fun h => h)) (fun e => by simp only at e; omega)
            have hb9 := (hb3.chg CB (fun h => h)).chg c9 (fun e => by omega)
            have C9 := C9'.trans' c9
            have hge9 : ∀ k, (Value.slice Ab (n0 + 1) qb).ownBlock = some k → w.heap.size + 2 ≤ k := fun k hk => by have := (hob.lt k hk).1; omega
            clear c9 hob CB C9' hra hrb2 hrc hrd
            generalize wb.setCell ⟨p, 3, none⟩ (.slice Ab (n0 + 1) qb) = w9 at *
            generalize Value.slice Ab (n0 + 1) qb = vL9 at *
          case' refine_2 =>
            intro K hK
            go_simp
            refine hK _ _ ((Chg.refl _ _).alloc _) ?_
            clear hK K
            try simp only [Act.put, List.getElem_toArray, List.getElem_cons_zero, List.getElem_cons_succ, List.setIfInBounds_toArray, List.set_cons_zero, List.set_cons_succ]
            refine regL_do 5 rfl (by kernel_rfl) (by kernel_rfl) ?_
            intro K hK
            refine Lib.wp_append_run _ _ _ _ _ rfl _ _ rfl rfl _ _ hrc ?_
            refine hK _ _ (cc.of_pure) ?_
            clear hK K
            try simp only [Act.put, List.getElem_toArray, List.getElem_cons_zero, List.getElem_cons_succ, List.setIfInBounds_toArray, List.set_cons_zero, List.set_cons_succ]
            refine regL_do 8 rfl (by kernel_rfl) (by kernel_rfl) ?_
            intro K hK
            refine Lib.wp_append_run _ _ _ _ _ rfl _ _ rfl rfl _ _ hrd ?_
            refine hK _ _ (ccd) ?_
            clear hK K
            try simp only [Act.put, List.getElem_toArray, List.getElem_cons_zero, List.getElem_cons_succ, List.setIfInBounds_toArray, List.set_cons_zero, List.set_cons_succ]
            refine regL_do 9 rfl (by kernel_rfl) (by kernel_rfl) ?_
            intro K hK
            go_simp
            refine hK _ _ (Chg.refl _ _) ?_
            clear hK K
            try simp only [Act.put, List.getElem_toArray, List.getElem_cons_zero, List.getElem_cons_succ, List.setIfInBounds_toArray, List.set_cons_zero, List.set_cons_succ]
            refine regL_take 10 (v := ?_) rfl (by kernel_rfl) (by kernel_rfl) (by kernel_rfl) (by kernel_rfl) (fun _ _ _ h => h) (by kernel_rfl) ?_ ?_
            rotate_left
            · (intro w' hS; go_simp; (try go_bits); (try with_reducible rfl))
            try simp only [Act.put, List.getElem_toArray, List.getElem_cons_zero, List.getElem_cons_succ, List.setIfInBounds_toArray, List.set_cons_zero, List.set_cons_succ]
            refine regL_last rfl (by kernel_rfl) (by kernel_rfl) ?_
            intro K hK
            go_simp
            refine hK _ _ ?_
            clear hK K
            try simp only [Act.put, List.getElem_toArray, List.getElem_cons_zero, List.getElem_cons_succ, List.setIfInBounds_toArray, List.set_cons_zero, List.set_cons_succ]
            refine wpAnyL_done (by kernel_rfl) ?_ _
            obtain ⟨hob, CB⟩ := HD2.out
            have C9' := C6.pure CB
            obtain ⟨h9, c9⟩ := (H6'.out.pure CB).setL ((tickT T now).L ++ [⟨d, 1, mf, N1⟩]) (vL' := .slice Ad (n0 + 1) qd) (by rw [HLL.out]; exact World.ownsRow.low hob (by have := C6.size; omega)) (by rw [HLL.out]; exact hn64) (by
              intro y hy
              rcases List.mem_append.1 hy with hy | hy
              · exact H6'.out.ep y hy
              · simp at hy; subst hy; exact ⟨by show (0 : Int) ≤ 1; decide, by show (1 : Int) ≤ 4398046511104; decide, hn0⟩) rfl
            have z0 := c9.cell (CB.cell z0 (fun h => h)) (fun e => by simp only at e; omega)
            have z1 := c9.cell (CB.cell z1 (fun h => h)) (fun e => by simp only at e; omega)
            have z2 := c9.cell (CB.cell z2 (fun h => h)) (fun e => by simp only at e; omega)
            have hb9 := (hb3.chg CB (fun h => h)).chg c9 (fun e => by omega)
            have C9 := C9'.trans' c9
            have hge9 : ∀ k, (Value.slice Ad (n0 + 1) qd).ownBlock = some k → w.heap.size + 2 ≤ k := fun k hk => by have := (hob.lt k hk).1; omega
            clear c9 hob CB C9' hra hrb2 hrc hrd
            generalize wd.setCell ⟨p, 3, none⟩ (.slice Ad (n0 + 1) qd) = w9 at *
            generalize Value.slice Ad (n0 + 1) qd = vL9 at *
          all_goals
            obtain ⟨Au, qu, hvu, hqu⟩ := h9.valU
            subst hvu
            have hru := h9.rowUs
            have p4 := h9.c4
            have hul := h9.ul
            have hz9 : w.heap.size ≤ w9.heap.size := C9.size
            obtain ⟨v10, w10, hr10, ho10, c10, -⟩ := cat64 (B := w9.heap.size) (us := []) (ts := us) (q := qu) (m := us.length) (World.ownsRow_nil w9 w9.heap.size 29 1) hru rfl (Nat.le_refl _) (by simp only [List.length_nil]; omega)
            have c10 : Chg Pure' w9 w10 := c10.mono (fun k hk e => by cases e)
            rw [List.nil_append] at ho10
            have hv10 := fun k hk => (ho10.lt k hk).1
            obtain ⟨v11, w11, hr11, ho11, c11, -⟩ := push64 ho10 d c10.size (by omega) rfl
            have C11 : Chg Pure' w9 w11 := c10.trans c11 (fun k hk e => by have := hv10 k e; omega)
            have hv11 := fun k hk => (ho11.lt k hk).1
            obtain ⟨A10, q10, rfl, -⟩ := own_slice ho10
            obtain ⟨A11, q11, rfl, -⟩ := own_slice ho11
            have hl1 : (us ++ [d]).length = us.length + 1 := by simp
            rw [hl1] at hr11 ho11
            have hv11 : ∀ k, (Value.slice A11 (us.length + 1) q11).ownBlock = some k → w9.heap.size ≤ k := fun k hk => (ho11.lt k hk).1
            have h11 := h9.pure C11
            have p4' := h11.c4
            have f4' : w11.frozen? ⟨p, 4, none⟩ = false := by obtain ⟨cs, b1⟩ := h11.blk; exact free_at b1
            obtain ⟨h12, c12⟩ := h11.setU d (vU' := .slice A11 (us.length + 1) q11) (by rw [hl1]; exact World.ownsRow.low ho11 (by omega)) (by rw [hl1]; exact hus) rfl
            have z0 := c12.cell (C11.cell z0 (fun h => h)) (fun e => by simp only at e; omega)
            have z1 := c12.cell (C11.cell z1 (fun h => h)) (fun e => by simp only at e; omega)
            have z2 := c12.cell (C11.cell z2 (fun h => h)) (fun e => by simp only at e; omega)
            have hb12 := (hb9.chg C11 (fun h => h)).chg c12 (fun e => by omega)
            have C12 := (C9.pure C11).trans' c12
            obtain ⟨⟨v0, v1, v2, v3, v4', v5, v6, v7, v8, r0, r1, r2, r3, r4, r5, r6, r7, r8⟩, rf⟩ := hb12.cells
            obtain ⟨w13, e13, c13, -, f0, f1, f2, f3, f4, f5, f6, f7, f8⟩ := set9 hb12 (.int .i64 4) (.int .u64 (d.toNat : Int)) (.int .i64 1) (.int .i64 0) (.int .i64 0) (.int .u64 0) (.int .i64 0) (.int .i64 mf) (.slice none 0 0)
            have E13 := Lib.hid e13
            have H13 := Lib.hid (h12.frame c13 (fun e => by omega) (fun k hk e => by have := hge9 k hk; omega) (fun k hk e => by have := hv11 k hk; have := hb9.lt; omega))
            have C13 : Chg (fun k => k = p) w w13 := C12.trans c13 (fun i hi e => by have e : i = w.heap.size + 1 := e; omega)
            clear e13 h12 h11 c12 ho10 ho11 c10 c11 hv10 hru
            have tok1 : True := trivial
            go_wp2_with (first
              | (at_builtin; have _t := tok1; refine Lib.wpList_append_run _ rfl _ _ _ _ rfl _ _ rfl rfl _ _ hr10 ?_; clear tok1 hr10)
              | (at_builtin; refine Lib.wpList_append_run _ rfl _ _ _ _ rfl _ _ rfl rfl _ _ hr11 ?_; clear hr11)
              | fail)
            rw [← E13.out]
            clear r0 r1 r2 r3 r4 r5 r6 r7 r8 rf
            have hfin : RTab w13 B p { beginT (tickT T now) d with L := (tickT T now).L ++ [⟨d, 1, mf, (tickT T now).now⟩] } (us ++ [d]) vL9 (.slice A11 (us.length + 1) q11) := by rw [HN1.out]; exact H13.out
            have HFin := Lib.hid hfin
            clear hfin
            refine bodyPost_ret (v := .tuple #[(welcomeM d 1 mf).val, .int .i64 0]) ?_ rfl ⟨vL9, .slice A11 (us.length + 1) q11, us ++ [d], by rw [HR.out], by rw [HR.out]; exact HFin.out, by rw [hl1]; exact Nat.le_refl _, fun k hk => hk.imp id (fun h => by have := hge9 k h; omega), fun k hk => .inr (by have := hv11 k hk; omega), C13⟩
            unfold results
            go_simp
            try rfl
      · have hm1 : ((mt.toNat : Int) == 0) = false := by
          rw [beq_eq_false_iff_ne]
          exact fun e => hm0 (UInt64.toNat_inj.1 (by simpa using e))
        have HM0 := Lib.hid hm0
        clear hm0
        have hpl := rplace_any H3.out mt
        rcases place_ge (tickT T now).L mt with hp | ⟨i, hi, hp, htk, -⟩
        · have hR : helloOf T M d now = ((resetM mt, 15), tickT T now) := by
            rw [← HMM.out]; unfold helloOf; rw [if_neg HK.out, if_neg HM0.out, if_pos hp]
          have HR := Lib.hid hR
          rw [hp] at hpl
          have HP := Lib.hid hpl
          clear hR hp hpl
          obtain ⟨⟨v0, v1, v2, v3, v4', v5, v6, v7, v8, r0, r1, r2, r3, r4, r5, r6, r7, r8⟩, rf⟩ := hb3.cells
          obtain ⟨w9, e9, c9, -, f0, f1, f2, f3, f4, f5, f6, f7, f8⟩ := set9 hb3 (.int .i64 5) (.int .u64 (mt.toNat : Int)) (.int .i64 0) (.int .i64 0) (.int .i64 0) (.int .u64 0) (.int .i64 0) (.int .i64 0) (.slice none 0 0)
          have E9 := Lib.hid e9
          clear e9
          go_wp2_with (fail)
          refine HP.out.mono ?_
          rintro e w6 ⟨rfl, rfl⟩
          go_wp2_with (fail)
          rw [← E9.out]
          clear r0 r1 r2 r3 r4 r5 r6 r7 r8 rf
          refine bodyPost_ret (v := .tuple #[(resetM mt).val, .int .i64 15]) ?_ rfl ⟨vL3, vU, us, by rw [HR.out], by rw [HR.out]; exact H3.out.frame c9 (fun e => by omega) (fun k hk e => by have := HV3.out k hk; omega) (fun k hk e => by have := HU3.out k hk; omega), Nat.le_succ _, fun k hk => hk.imp id (fun h => by have := HV3.out k h; omega), fun k hk => .inl hk, C3.trans c9 (fun i hi e => by have e : i = w.heap.size + 1 := e; omega)⟩
          unfold results
          go_simp
          try rfl
        · have hR : helloOf T M d now = ((welcomeM mt (((tickT T now).L[i]).epoch + 1) mf, 0), { tickT T now with L := (tickT T now).L.set i ⟨mt, ((tickT T now).L[i]).epoch + 1, mf, (tickT T now).now⟩ }) := by
            rw [← HMM.out]; unfold helloOf
            rw [if_neg HK.out, if_neg HM0.out, if_neg (by rw [hp]; omega), hp, Int.toNat_natCast, getD_at hi]
          have HR := Lib.hid hR
          rw [hp] at hpl
          have HP := Lib.hid hpl
          obtain ⟨A, q, hvL, hq⟩ := H3.out.val
          subst hvL
          have p3 := H3.out.c3
          have hn0 := H3.out.n0
          have hl64 := H3.out.l64
          obtain ⟨g, rfl, hgB, -, -, x0, x1, x2, x3, hfr⟩ := H3.out.at' hi
          have hepx := H3.out.ep _ (List.getElem_mem hi)
          have hepx2 := HEPC.out _ (List.mem_filter.1 (List.getElem_mem hi)).1
          have hgw := HV3.out g rfl
          have hgl := (H3.out.rowL.lt g rfl).2
          have hg5 : g < rb := by have := HW3.out g rfl; omega
          have t1 : (i : Int) < ((tickT T now).L.length : Int) := by omega
          have t2 : i ≤ 64 := by omega
          have HI := Lib.hid hi
          have zf : ∀ j, w5.frozen? ⟨rb + 1, j, none⟩ = false := fun j => free_at zb
          have HX := Lib.hid htk
          clear hR hp hpl q0 q1 q2 q3 q4 q5 q6 q7 q8 htk hfr
          have HSE := Lib.hid (fun (wx : World) (hx : RTab wx B p (tickT T now) us (.slice (some ⟨g, 0, none⟩) (tickT T now).L.length q) vU) (y : Se) (hy) (w' : World) (e) => hx.setSe HI.out y hy (w' := w') e)
          obtain ⟨N1, hN1⟩ : ∃ n, (tickT T now).now = n := ⟨_, rfl⟩
          have HN1 := Lib.hid hN1
          rw [hN1] at z3 hn0
          generalize hx : (tickT T now).L[i] = x at HR x0 x1 x2 x3 hepx hepx2
          obtain ⟨n0, hn0'⟩ : ∃ n, (tickT T now).L.length = n := ⟨_, rfl⟩
          have HNN := Lib.hid hn0'
          rw [hn0'] at p3 hq hl64 t1
          clear hx hn0' hN1
          have b1 : x.epoch ≤ 4398046511104 := hepx.2.1
          have b0 : 0 ≤ x.epoch := hepx.1
          go_wp2_with (fail)
          refine HP.out.mono ?_
          rintro e w6 ⟨rfl, rfl⟩
          go_wp2_with (fail)
          refine reg_begin (fun k => k = rb + 1) (by kernel_rfl) ?_
          refine reg_take 0 (v := ?_) rfl (by kernel_rfl) (by kernel_rfl) (by kernel_rfl) (fun _ _ _ h => h) (by kernel_rfl) ?_ ?_
          rotate_left
          · (intro w' hS; go_simp; (try go_bits); (try with_reducible rfl))
          try simp only [Act.put, List.getElem_toArray, List.getElem_cons_zero, List.getElem_cons_succ, List.setIfInBounds_toArray, List.set_cons_zero, List.set_cons_succ]
          refine reg_take 1 (v := ?_) rfl (by kernel_rfl) (by kernel_rfl) (by kernel_rfl) (fun _ _ _ h => h) (by kernel_rfl) ?_ ?_
          rotate_left
          · (intro w' hS; have hz := hS.cell (w := w5.drew) y1 (fun h => by simp only at h; omega); go_simp; (try go_bits); (try with_reducible rfl))
          try simp only [Act.put, List.getElem_toArray, List.getElem_cons_zero, List.getElem_cons_succ, List.setIfInBounds_toArray, List.set_cons_zero, List.set_cons_succ]
          refine reg_take 2 (v := ?_) rfl (by kernel_rfl) (by kernel_rfl) (by kernel_rfl) (fun _ _ _ h => h) (by kernel_rfl) ?_ ?_
          rotate_left
          · (intro w' hS; go_simp; (try go_bits); (try with_reducible rfl))
          try simp only [Act.put, List.getElem_toArray, List.getElem_cons_zero, List.getElem_cons_succ, List.setIfInBounds_toArray, List.set_cons_zero, List.set_cons_succ]
          refine reg_take 3 (v := ?_) rfl (by kernel_rfl) (by kernel_rfl) (by kernel_rfl) (fun _ _ _ h => h) (by kernel_rfl) ?_ ?_
          rotate_left
          · (intro w' hS; go_simp; (try go_bits); (try with_reducible rfl))
          try simp only [Act.put, List.getElem_toArray, List.getElem_cons_zero, List.getElem_cons_succ, List.setIfInBounds_toArray, List.set_cons_zero, List.set_cons_succ]
          refine reg_take 4 (v := ?_) rfl (by kernel_rfl) (by kernel_rfl) (by kernel_rfl) (fun _ _ _ h => h) (by kernel_rfl) ?_ ?_
          rotate_left
          · (intro w' hS; go_simp; (try go_bits); (try with_reducible rfl))
          try simp only [Act.put, List.getElem_toArray, List.getElem_cons_zero, List.getElem_cons_succ, List.setIfInBounds_toArray, List.set_cons_zero, List.set_cons_succ]
          refine reg_take 5 (v := ?_) rfl (by kernel_rfl) (by kernel_rfl) (by kernel_rfl) (fun _ _ _ h => h) (by kernel_rfl) ?_ ?_
          rotate_left
          · (intro w' hS; have hz := hS.cell (w := w5.drew) p3 (fun h => by simp only at h; omega); go_simp; (try go_bits); (try with_reducible rfl))
          try simp only [Act.put, List.getElem_toArray, List.getElem_cons_zero, List.getElem_cons_succ, List.setIfInBounds_toArray, List.set_cons_zero, List.set_cons_succ]
          refine reg_take 6 (v := ?_) rfl (by kernel_rfl) (by kernel_rfl) (by kernel_rfl) (fun _ _ _ h => h) (by kernel_rfl) ?_ ?_
          rotate_left
          · (intro w' hS; go_simp; (try go_bits); (try with_reducible rfl))
          try simp only [Act.put, List.getElem_toArray, List.getElem_cons_zero, List.getElem_cons_succ, List.setIfInBounds_toArray, List.set_cons_zero, List.set_cons_succ]
          refine reg_take 7 (v := ?_) rfl (by kernel_rfl) (by kernel_rfl) (by kernel_rfl) (fun _ _ _ h => h) (by kernel_rfl) ?_ ?_
          rotate_left
          · (intro w' hS; go_simp; (try go_bits); (try with_reducible rfl))
          try simp only [Act.put, List.getElem_toArray, List.getElem_cons_zero, List.getElem_cons_succ, List.setIfInBounds_toArray, List.set_cons_zero, List.set_cons_succ]
          refine reg_take 8 (v := ?_) rfl (by kernel_rfl) (by kernel_rfl) (by kernel_rfl) (fun _ _ _ h => h) (by kernel_rfl) ?_ ?_
          rotate_left
          · (intro w' hS; go_simp; (try go_bits); (try with_reducible rfl))
          try simp only [Act.put, List.getElem_toArray, List.getElem_cons_zero, List.getElem_cons_succ, List.setIfInBounds_toArray, List.set_cons_zero, List.set_cons_succ]
          refine reg_take 9 (v := ?_) rfl (by kernel_rfl) (by kernel_rfl) (by kernel_rfl) (fun _ _ _ h => h) (by kernel_rfl) ?_ ?_
          rotate_left
          · (intro w' hS; have hz := hS.cell (w := w5.drew) x1 (fun h => by simp only at h; omega); go_simp; (try go_bits); (try with_reducible rfl))
          try simp only [Act.put, List.getElem_toArray, List.getElem_cons_zero, List.getElem_cons_succ, List.setIfInBounds_toArray, List.set_cons_zero, List.set_cons_succ]
          refine reg_take 10 (v := ?_) rfl (by kernel_rfl) (by kernel_rfl) (by kernel_rfl) (fun _ _ _ h => h) (by kernel_rfl) ?_ ?_
          rotate_left
          · (intro w' hS; go_simp; (try go_bits); (try with_reducible rfl))
          try simp only [Act.put, List.getElem_toArray, List.getElem_cons_zero, List.getElem_cons_succ, List.setIfInBounds_toArray, List.set_cons_zero, List.set_cons_succ]
          refine reg_take 11 (v := ?_) rfl (by kernel_rfl) (by kernel_rfl) (by kernel_rfl) (fun _ _ _ h => h) (by kernel_rfl) ?_ ?_
          rotate_left
          · (intro w' hS; go_simp; (try go_bits); (try with_reducible rfl))
          try simp only [Act.put, List.getElem_toArray, List.getElem_cons_zero, List.getElem_cons_succ, List.setIfInBounds_toArray, List.set_cons_zero, List.set_cons_succ]
          have z0d : w5.drew.cell? ⟨rb + 1, 0, none⟩ = some (.int .u64 (d.toNat : Int)) := z0
          have z1d : w5.drew.cell? ⟨rb + 1, 1, none⟩ = some (.int .i64 1) := z1
          have f0d : w5.drew.frozen? ⟨rb + 1, 0, none⟩ = false := zf 0
          have f1d : w5.drew.frozen? ⟨rb + 1, 1, none⟩ = false := zf 1
          refine reg_do 12 rfl (by kernel_rfl) (by kernel_rfl) ?_
          intro K hK
          go_simp
          refine hK _ _ (chg_dd (Chg.setCell (S := fun k => k = rb + 1) (Chg.refl _ w5) (p := ⟨rb + 1, 0, none⟩) (.inr rfl) (.int .u64 (mt.toNat : Int)))) ?_
          clear hK K
          try simp only [Act.put, List.getElem_toArray, List.getElem_cons_zero, List.getElem_cons_succ, List.setIfInBounds_toArray, List.set_cons_zero, List.set_cons_succ]
          refine reg_take 13 (v := ?_) rfl (by kernel_rfl) (by kernel_rfl) (by kernel_rfl) (fun _ _ _ h => h) (by kernel_rfl) ?_ ?_
          rotate_left
          · (intro w' hS; go_simp; (try go_bits); (try with_reducible rfl))
          try simp only [Act.put, List.getElem_toArray, List.getElem_cons_zero, List.getElem_cons_succ, List.setIfInBounds_toArray, List.set_cons_zero, List.set_cons_succ]
          have z1e : (w5.setCell ⟨rb + 1, 0, none⟩ (.int .u64 (mt.toNat : Int))).drew.cell? ⟨rb + 1, 1, none⟩ = some (.int .i64 1) := (set_far (by decide)).trans z1
          have f1e : (w5.setCell ⟨rb + 1, 0, none⟩ (.int .u64 (mt.toNat : Int))).drew.frozen? ⟨rb + 1, 1, none⟩ = false := free_at (heap_setCell_same w5 (rb + 1) 0 _ 75 _ zb)
          refine reg_do 14 rfl (by kernel_rfl) (by kernel_rfl) ?_
          intro K hK
          go_simp
          refine hK _ _ (chg_dd (Chg.setCell (S := fun k => k = rb + 1) (Chg.refl _ (w5.setCell ⟨rb + 1, 0, none⟩ (.int .u64 (mt.toNat : Int)))) (p := ⟨rb + 1, 1, none⟩) (.inr rfl) (.int .i64 (x.epoch + 1)))) ?_
          clear hK K
          try simp only [Act.put, List.getElem_toArray, List.getElem_cons_zero, List.getElem_cons_succ, List.setIfInBounds_toArray, List.set_cons_zero, List.set_cons_succ]
          refine wpAnyH_done (by kernel_rfl) ?_ _
          have c7 : Chg (fun k => k = rb + 1) w5 ((w5.setCell ⟨rb + 1, 0, none⟩ (.int .u64 (mt.toNat : Int))).setCell ⟨rb + 1, 1, none⟩ (.int .i64 (x.epoch + 1))).drew := (Chg.setCell (S := fun k => k = rb + 1) (Chg.setCell (S := fun k => k = rb + 1) (Chg.refl _ w5) (p := ⟨rb + 1, 0, none⟩) (.inr rfl) (.int .u64 (mt.toNat : Int))) (p := ⟨rb + 1, 1, none⟩) (.inr rfl) (.int .i64 (x.epoch + 1))).drew
          have s0 : ((w5.setCell ⟨rb + 1, 0, none⟩ (.int .u64 (mt.toNat : Int))).setCell ⟨rb + 1, 1, none⟩ (.int .i64 (x.epoch + 1))).drew.cell? ⟨rb + 1, 0, none⟩ = some (.int .u64 (mt.toNat : Int)) := (set_far (by decide)).trans (set_at z0)
          have s1 : ((w5.setCell ⟨rb + 1, 0, none⟩ (.int .u64 (mt.toNat : Int))).setCell ⟨rb + 1, 1, none⟩ (.int .i64 (x.epoch + 1))).drew.cell? ⟨rb + 1, 1, none⟩ = some (.int .i64 (x.epoch + 1)) := set_at (u := .int .i64 1) ((set_far (by decide)).trans z1)
          have s2 : ((w5.setCell ⟨rb + 1, 0, none⟩ (.int .u64 (mt.toNat : Int))).setCell ⟨rb + 1, 1, none⟩ (.int .i64 (x.epoch + 1))).drew.cell? ⟨rb + 1, 2, none⟩ = some (.int .i64 mf) := (set_far (by decide)).trans ((set_far (by decide)).trans z2)
          have s3 : ((w5.setCell ⟨rb + 1, 0, none⟩ (.int .u64 (mt.toNat : Int))).setCell ⟨rb + 1, 1, none⟩ (.int .i64 (x.epoch + 1))).drew.cell? ⟨rb + 1, 3, none⟩ = some (.int .i64 N1) := (set_far (by decide)).trans ((set_far (by decide)).trans z3)
          have h7 := H3.out.frame c7 (fun e => by omega) (fun k hk e => by have hk : some g = some k := hk; cases hk; omega) (fun k hk e => by have := HU3.out k hk; omega)
          have hb7 := hb3.chg c7 (fun e => by omega)
          have C7 : Chg (fun k => k = p) w ((w5.setCell ⟨rb + 1, 0, none⟩ (.int .u64 (mt.toNat : Int))).setCell ⟨rb + 1, 1, none⟩ (.int .i64 (x.epoch + 1))).drew := C3.trans c7 (fun k hk e => by omega)
          have H7 := Lib.hid h7
          have p3 := h7.c3
          rw [HNN.out] at p3
          obtain ⟨g', hgg, -, -, -, x0, x1, x2, x3, hfr⟩ := h7.at' HI.out
          cases hgg
          have hf0 := hfr (i * 4)
          have hf1 := hfr (i * 4 + 1)
          have hf2 := hfr (i * 4 + 2)
          have hf3 := hfr (i * 4 + 3)
          clear z0 z1 z2 z3 z0d z1d z1e f0d f1d f1e zf zb H3 C3 hb3 h7 c7 HP hfr
          generalize ((w5.setCell ⟨rb + 1, 0, none⟩ (.int .u64 (mt.toNat : Int))).setCell ⟨rb + 1, 1, none⟩ (.int .i64 (x.epoch + 1))).drew = w7 at *
          go_wp2_with (fail)
          refine reg_begin (fun k => k = g) (by kernel_rfl) ?_
          refine reg_take 0 (v := ?_) rfl (by kernel_rfl) (by kernel_rfl) (by kernel_rfl) (fun _ _ _ h => h) (by kernel_rfl) ?_ ?_
          rotate_left
          · (intro w' hS; go_simp; (try go_bits); (try with_reducible rfl))
          try simp only [Act.put, List.getElem_toArray, List.getElem_cons_zero, List.getElem_cons_succ, List.setIfInBounds_toArray, List.set_cons_zero, List.set_cons_succ]
          refine reg_take 1 (v := ?_) rfl (by kernel_rfl) (by kernel_rfl) (by kernel_rfl) (fun _ _ _ h => h) (by kernel_rfl) ?_ ?_
          rotate_left
          · (intro w' hS; go_simp; (try go_bits); (try with_reducible rfl))
          try simp only [Act.put, List.getElem_toArray, List.getElem_cons_zero, List.getElem_cons_succ, List.setIfInBounds_toArray, List.set_cons_zero, List.set_cons_succ]
          refine reg_take 2 (v := ?_) rfl (by kernel_rfl) (by kernel_rfl) (by kernel_rfl) (fun _ _ _ h => h) (by kernel_rfl) ?_ ?_
          rotate_left
          · (intro w' hS; go_simp; (try go_bits); (try with_reducible rfl))
          try simp only [Act.put, List.getElem_toArray, List.getElem_cons_zero, List.getElem_cons_succ, List.setIfInBounds_toArray, List.set_cons_zero, List.set_cons_succ]
          refine reg_take 3 (v := ?_) rfl (by kernel_rfl) (by kernel_rfl) (by kernel_rfl) (fun _ _ _ h => h) (by kernel_rfl) ?_ ?_
          rotate_left
          · (intro w' hS; have hz := hS.cell (w := w7.drew) p3 (fun h => by simp only at h; omega); go_simp; (try go_bits); (try with_reducible rfl))
          try simp only [Act.put, List.getElem_toArray, List.getElem_cons_zero, List.getElem_cons_succ, List.setIfInBounds_toArray, List.set_cons_zero, List.set_cons_succ]
          refine reg_take 4 (v := ?_) rfl (by kernel_rfl) (by kernel_rfl) (by kernel_rfl) (fun _ _ _ h => h) (by kernel_rfl) ?_ ?_
          rotate_left
          · (intro w' hS; go_simp; (try go_bits); (try with_reducible rfl))
          try simp only [Act.put, List.getElem_toArray, List.getElem_cons_zero, List.getElem_cons_succ, List.setIfInBounds_toArray, List.set_cons_zero, List.set_cons_succ]
          refine reg_take 5 (v := ?_) rfl (by kernel_rfl) (by kernel_rfl) (by kernel_rfl) (fun _ _ _ h => h) (by kernel_rfl) ?_ ?_
          rotate_left
          · (intro w' hS; have hz := hS.cell (w := w7.drew) s0 (fun h => by simp only at h; omega); have hs1 := hS.cell (w := w7.drew) s1 (fun h => by simp only at h; omega); have hs2 := hS.cell (w := w7.drew) s2 (fun h => by simp only at h; omega); have hs3 := hS.cell (w := w7.drew) s3 (fun h => by simp only at h; omega); go_simp; (try go_bits); (try with_reducible rfl))
          try simp only [Act.put, List.getElem_toArray, List.getElem_cons_zero, List.getElem_cons_succ, List.setIfInBounds_toArray, List.set_cons_zero, List.set_cons_succ]
          refine reg_take 6 (v := ?_) rfl (by kernel_rfl) (by kernel_rfl) (by kernel_rfl) (fun _ _ _ h => h) (by kernel_rfl) ?_ ?_
          rotate_left
          · (intro w' hS; go_simp; (try go_bits); (try with_reducible rfl))
          try simp only [Act.put, List.getElem_toArray, List.getElem_cons_zero, List.getElem_cons_succ, List.setIfInBounds_toArray, List.set_cons_zero, List.set_cons_succ]
          have x0d : w7.drew.cell? ⟨g, i * 4, none⟩ = _ := x0
          have x1d : w7.drew.cell? ⟨g, i * 4 + 1, none⟩ = _ := x1
          have x2d : w7.drew.cell? ⟨g, i * 4 + 2, none⟩ = _ := x2
          have x3d : w7.drew.cell? ⟨g, i * 4 + 3, none⟩ = _ := x3
          have f0d : w7.drew.frozen? ⟨g, i * 4, none⟩ = false := hf0
          have f1d : w7.drew.frozen? ⟨g, i * 4 + 1, none⟩ = false := hf1
          have f2d : w7.drew.frozen? ⟨g, i * 4 + 2, none⟩ = false := hf2
          have f3d : w7.drew.frozen? ⟨g, i * 4 + 3, none⟩ = false := hf3
          refine reg_do 7 rfl (by kernel_rfl) (by kernel_rfl) ?_
          intro K hK
          go_simp
          refine hK _ _ (chg_dd (HSE.out w7 H7.out ⟨mt, x.epoch + 1, mf, N1⟩ ⟨by show 0 ≤ x.epoch + 1; omega, hepx2, hn0.1, hn0.2⟩ _ rfl).2) ?_
          clear hK K
          try simp only [Act.put, List.getElem_toArray, List.getElem_cons_zero, List.getElem_cons_succ, List.setIfInBounds_toArray, List.set_cons_zero, List.set_cons_succ]
          refine wpAnyH_done (by kernel_rfl) ?_ _
          obtain ⟨h8, c8⟩ := HSE.out w7 H7.out ⟨mt, x.epoch + 1, mf, N1⟩ ⟨by show 0 ≤ x.epoch + 1; omega, hepx2, hn0.1, hn0.2⟩ ((((w7.setCell ⟨g, i * 4, none⟩ (.int .u64 (mt.toNat : Int))).setCell ⟨g, i * 4 + 1, none⟩ (.int .i64 (x.epoch + 1))).setCell ⟨g, i * 4 + 2, none⟩ (.int .i64 mf)).setCell ⟨g, i * 4 + 3, none⟩ (.int .i64 N1)) rfl
          have h8 := h8.pure ((Chg.refl Pure' _).drew)
          have c8 := c8.drew
          have s0 := c8.cell s0 (fun e => by simp only at e; omega)
          have s1 := c8.cell s1 (fun e => by simp only at e; omega)
          have s2 := c8.cell s2 (fun e => by simp only at e; omega)
          have hb8 := hb7.chg c8 (fun e => by omega)
          have C8 : Chg (fun k => k = p) w ((((w7.setCell ⟨g, i * 4, none⟩ (.int .u64 (mt.toNat : Int))).setCell ⟨g, i * 4 + 1, none⟩ (.int .i64 (x.epoch + 1))).setCell ⟨g, i * 4 + 2, none⟩ (.int .i64 mf)).setCell ⟨g, i * 4 + 3, none⟩ (.int .i64 N1)).drew := C7.trans c8 (fun k hk e => by omega)
          clear s3 x0d x1d x2d x3d f0d f1d f2d f3d hf0 hf1 hf2 hf3 x0 x1 x2 x3 c8 hb7 C7 H7 p3
          generalize ((((w7.setCell ⟨g, i * 4, none⟩ (.int .u64 (mt.toNat : Int))).setCell ⟨g, i * 4 + 1, none⟩ (.int .i64 (x.epoch + 1))).setCell ⟨g, i * 4 + 2, none⟩ (.int .i64 mf)).setCell ⟨g, i * 4 + 3, none⟩ (.int .i64 N1)).drew = w8 at *
          obtain ⟨⟨v0, v1, v2, v3, v4', v5, v6, v7, v8, r0, r1, r2, r3, r4, r5, r6, r7, r8⟩, rf⟩ := hb8.cells
          obtain ⟨w13, e13, c13, -, f0, f1, f2, f3, f4, f5, f6, f7, f8⟩ := set9 hb8 (.int .i64 4) (.int .u64 (mt.toNat : Int)) (.int .i64 (x.epoch + 1)) (.int .i64 0) (.int .i64 0) (.int .u64 0) (.int .i64 0) (.int .i64 mf) (.slice none 0 0)
          have E13 := Lib.hid e13
          have H13 := h8.frame c13 (fun e => by omega) (fun k hk e => by have hk : some g = some k := hk; cases hk; omega) (fun k hk e => by have := HU3.out k hk; omega)
          have HFin : Hid (RTab w13 B p { tickT T now with L := (tickT T now).L.set i ⟨mt, x.epoch + 1, mf, (tickT T now).now⟩ } us (.slice (some ⟨g, 0, none⟩) (tickT T now).L.length q) vU) := Lib.hid (by rw [HN1.out]; exact H13)
          have C13 : Chg (fun k => k = p) w w13 := C8.trans c13 (fun i hi e => by have e : i = w.heap.size + 1 := e; omega)
          clear e13 H13 h8 C8
          go_wp2_with (fail)
          rw [← E13.out]
          clear r0 r1 r2 r3 r4 r5 r6 r7 r8 rf
          refine bodyPost_ret (v := .tuple #[(welcomeM mt (x.epoch + 1) mf).val, .int .i64 0]) ?_ rfl ⟨.slice (some ⟨g, 0, none⟩) (tickT T now).L.length q, vU, us, by rw [HR.out], by rw [HR.out]; exact HFin.out, Nat.le_succ _, fun k hk => hk.imp id (fun h => by have h : some g = some k := h; cases h; omega), fun k hk => .inl hk, C13⟩
          unfold results
          go_simp
          try rfl
end Go.Proofs.Ytpfnphkgmjgmeaa
