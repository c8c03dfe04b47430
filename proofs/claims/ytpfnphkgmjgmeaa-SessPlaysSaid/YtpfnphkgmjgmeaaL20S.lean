/- SessPlays: the program's table plays as the document's. -/
import Derived.Test.YtpfnphkgmjgmeaaSessR
import Derived.Test.YtpfnphkgmjgmeaaL20B
import Derived.Test.YtpfnphkgmjgmeaaRegL
namespace Go.Proofs.Ytpfnphkgmjgmeaa
open Go Go.RowKit
set_option linter.unusedVariables false
set_option linter.unusedSimpArgs false

set_option maxRecDepth 100000 in
set_option maxHeartbeats 8000000 in
theorem law_SessPlays (a0 a1 : Int) (A : Option Addr) (n c : Nat) (acts : List Act20) (w : World) (ha0 : -9223372036854775808 ≤ a0 ∧ a0 ≤ 9223372036854775807) (ha1 : -9223372036854775808 ≤ a1 ∧ a1 ≤ 9223372036854775807) (hA : Acts20 w A n acts) (hn : n ≤ 1256584717422) :
    Calls Try.prog 4 #[.int .i64 a0, .int .i64 a1, .slice A n c] w fun e w' => e = .returned (.bool true) ∧ Chg Pure' w w' := by
  by_cases hbad : a0 < 1 ∨ 64 < a0 ∨ a1 < 1 ∨ 1048576 < a1
  · go_enter Try.func4, Try.ntmps4
    go_wp2_with (fail)
    refine (tnew_bad _ _ _ hbad).mono ?_
    rintro e w1 ⟨rfl, rfl⟩
    have hz := rzero_tab
    go_wp2_with (fail)
    refine (rnew_bad _ _ _ hbad).mono ?_
    rintro e w2 ⟨rfl, c2⟩
    go_wp2_with (fail)
    have c3 : Chg Pure' w (w2.alloc (.cells #[.int .i64 0, .int .i64 0, .int .i64 0, .slice none 0 0, .slice none 0 0] 42)) := c2.pure ((Chg.refl _ _).alloc _)
    refine (alive20 _).mono ?_
    rintro e w4 ⟨rfl, c4⟩
    have c5 := c3.pure c4
    clear c2 c3 c4 hz
    go_wp2
    go_ret
    exact ⟨rfl, c5⟩
  · obtain ⟨most, rfl⟩ : ∃ m : Nat, a0 = m := ⟨a0.toNat, by omega⟩
    obtain ⟨idle, rfl⟩ : ∃ m : Nat, a1 = m := ⟨a1.toNat, by omega⟩
    have h1 : 1 ≤ most := by omega
    have h2 : most ≤ 64 := by omega
    have h3 : 1 ≤ idle := by omega
    have h4 : idle ≤ 1048576 := by omega
    have hz := zero_msg20
    have hzt := rzero_tab
    clear hbad ha0 ha1
    go_enter Try.func4, Try.ntmps4
    go_wp2_with (fail)
    refine (tnew_ok most idle _ h1 h2 h3 h4).mono ?_
    rintro e w1 ⟨rfl, d1, t1⟩
    go_wp2_with (fail)
    refine (rnew_ok most idle _ h1 h2 h3 h4).mono ?_
    rintro e w2 ⟨rfl, d2⟩
    go_wp2_with (fail)
    have d3 : Chg Pure' w2 (w2.alloc (.cells #[.int .i64 most, .int .i64 idle, .int .i64 0, .slice none 0 0, .slice none 0 0] 42)) := (Chg.refl _ _).alloc _
    have hb : (w2.alloc (.cells #[.int .i64 most, .int .i64 idle, .int .i64 0, .slice none 0 0, .slice none 0 0] 42)).heap[w2.heap.size]? = some (.cells #[.int .i64 most, .int .i64 idle, .int .i64 0, .slice none 0 0, .slice none 0 0] 42 (0, 0)) := heap_alloc_new _ _
    have hs1 : w.heap.size + 2 ≤ w1.heap.size := by have := t1.plt; omega
    have hs2 := d2.size
    have hs3 : (w2.alloc (.cells #[.int .i64 most, .int .i64 idle, .int .i64 0, .slice none 0 0, .slice none 0 0] 42)).heap.size = w2.heap.size + 1 := by simp
    have D0 : Duo w (w2.alloc (.cells #[.int .i64 most, .int .i64 idle, .int .i64 0, .slice none 0 0, .slice none 0 0] 42)) (w.heap.size + 1) w2.heap.size w.heap.size [] (.slice none 0 0) (w2.heap.size + 1) (.slice none 0 0) (.slice none 0 0) (newT most idle) (newT most idle) [] 0 := by
      refine ⟨(t1.pure d2).pure d3, RTab.new hb h2 h4, by omega, ?_, by omega, (d1.pure d2).pure d3⟩
      rintro x (rfl | rfl | hx | hx)
      · exact ⟨by omega, by omega, (fun e => by cases e), (fun e => by cases e)⟩
      · exact ⟨by omega, by omega, (fun e => by cases e), (fun e => by cases e)⟩
      · cases hx
      · cases hx
    clear hb hs1 hs2 hs3 d1 d2 d3 t1
    generalize (w2.alloc (.cells #[.int .i64 most, .int .i64 idle, .int .i64 0, .slice none 0 0, .slice none 0 0] 42)) = w3 at *
    refine (alive20 _).mono ?_
    rintro e w4 ⟨rfl, c4⟩
    have D1 := Lib.hid (D0.pure c4)
    generalize hp : w.heap.size + 1 = p at *
    generalize hpr : w2.heap.size = pr at *
    clear D0 c4 hzt
    go_wp2_with (fail)
    go_loopw [54] (fun i wr => ∃ (k ub : Nat) (bs : List Nat) (v : Value) (B : Nat) (vL vU : Value) (T : Tb) (us : List UInt64), k ≤ n ∧ i = .int .i64 k ∧ Hid (Duo w wr p pr ub bs v B vL vU T T us k) ∧ us.length ≤ k) (fun i _ => n - (intOf i).toNat)
    case atStart => exact ⟨0, _, _, _, _, _, _, _, [], Nat.zero_le _, rfl, D1, Nat.zero_le _⟩
    case round =>
      clear D1
      obtain ⟨k, ub, bs, v, B, vL, vU, T, us, hk, rfl, HD, hul⟩ := hrel
      by_cases hlt : k < n
      · obtain ⟨b, off, rfl, hbl, hcell⟩ := hA.cells (by omega)
        have hkx : k < acts.length := by have := hA.len; omega
        have hcl := fun c u h => HD.out.c.cell (hcell k hkx c u h) (fun h => h)
        clear hcell
        generalize acts[k] = act at hcl
        obtain ⟨kind, now, ⟨mk, mt, me, ms, ma, mb, mc, mf, mA, mn, mq⟩, d⟩ := act
        have e0 := hcl 0 _ rfl
        have e1 := hcl 1 _ rfl
        have e2 := hcl 2 _ rfl
        have e3 := hcl 3 _ rfl
        have e4 := hcl 4 _ rfl
        have e5 := hcl 5 _ rfl
        have e6 := hcl 6 _ rfl
        have e7 := hcl 7 _ rfl
        have e8 := hcl 8 _ rfl
        have e9 := hcl 9 _ rfl
        have e10 := hcl 10 _ rfl
        have e11 := hcl 11 _ rfl
        rw [Nat.add_zero] at e0
        simp only at e0 e1 e2 e3 e4 e5 e6 e7 e8 e9 e10 e11
        have ca : Chg Pure' wr (wr.alloc (.cells #[.int .i64 kind, .int .i64 now, .int .i64 mk, .int .u64 (mt.toNat : Int), .int .i64 me, .int .i64 ms, .int .i64 ma, .int .u64 (mb.toNat : Int), .int .i64 mc, .int .i64 mf, .slice mA mn mq, .int .u64 (d.toNat : Int)] 46)) := (Chg.refl _ wr).alloc _
        have x0 : (wr.alloc (.cells #[.int .i64 kind, .int .i64 now, .int .i64 mk, .int .u64 (mt.toNat : Int), .int .i64 me, .int .i64 ms, .int .i64 ma, .int .u64 (mb.toNat : Int), .int .i64 mc, .int .i64 mf, .slice mA mn mq, .int .u64 (d.toNat : Int)] 46)).cell? ⟨wr.heap.size, 0, none⟩ = some (.int .i64 kind) := cellAt_alloc_lit wr _ _ 0
        have x1 : (wr.alloc (.cells #[.int .i64 kind, .int .i64 now, .int .i64 mk, .int .u64 (mt.toNat : Int), .int .i64 me, .int .i64 ms, .int .i64 ma, .int .u64 (mb.toNat : Int), .int .i64 mc, .int .i64 mf, .slice mA mn mq, .int .u64 (d.toNat : Int)] 46)).cell? ⟨wr.heap.size, 1, none⟩ = some (.int .i64 now) := cellAt_alloc_lit wr _ _ 1
        have x2 : (wr.alloc (.cells #[.int .i64 kind, .int .i64 now, .int .i64 mk, .int .u64 (mt.toNat : Int), .int .i64 me, .int .i64 ms, .int .i64 ma, .int .u64 (mb.toNat : Int), .int .i64 mc, .int .i64 mf, .slice mA mn mq, .int .u64 (d.toNat : Int)] 46)).cell? ⟨wr.heap.size, 2, none⟩ = some (.int .i64 mk) := cellAt_alloc_lit wr _ _ 2
        have x3 : (wr.alloc (.cells #[.int .i64 kind, .int .i64 now, .int .i64 mk, .int .u64 (mt.toNat : Int), .int .i64 me, .int .i64 ms, .int .i64 ma, .int .u64 (mb.toNat : Int), .int .i64 mc, .int .i64 mf, .slice mA mn mq, .int .u64 (d.toNat : Int)] 46)).cell? ⟨wr.heap.size, 3, none⟩ = some (.int .u64 (mt.toNat : Int)) := cellAt_alloc_lit wr _ _ 3
        have x4 : (wr.alloc (.cells #[.int .i64 kind, .int .i64 now, .int .i64 mk, .int .u64 (mt.toNat : Int), .int .i64 me, .int .i64 ms, .int .i64 ma, .int .u64 (mb.toNat : Int), .int .i64 mc, .int .i64 mf, .slice mA mn mq, .int .u64 (d.toNat : Int)] 46)).cell? ⟨wr.heap.size, 4, none⟩ = some (.int .i64 me) := cellAt_alloc_lit wr _ _ 4
        have x5 : (wr.alloc (.cells #[.int .i64 kind, .int .i64 now, .int .i64 mk, .int .u64 (mt.toNat : Int), .int .i64 me, .int .i64 ms, .int .i64 ma, .int .u64 (mb.toNat : Int), .int .i64 mc, .int .i64 mf, .slice mA mn mq, .int .u64 (d.toNat : Int)] 46)).cell? ⟨wr.heap.size, 5, none⟩ = some (.int .i64 ms) := cellAt_alloc_lit wr _ _ 5
        have x6 : (wr.alloc (.cells #[.int .i64 kind, .int .i64 now, .int .i64 mk, .int .u64 (mt.toNat : Int), .int .i64 me, .int .i64 ms, .int .i64 ma, .int .u64 (mb.toNat : Int), .int .i64 mc, .int .i64 mf, .slice mA mn mq, .int .u64 (d.toNat : Int)] 46)).cell? ⟨wr.heap.size, 6, none⟩ = some (.int .i64 ma) := cellAt_alloc_lit wr _ _ 6
        have x7 : (wr.alloc (.cells #[.int .i64 kind, .int .i64 now, .int .i64 mk, .int .u64 (mt.toNat : Int), .int .i64 me, .int .i64 ms, .int .i64 ma, .int .u64 (mb.toNat : Int), .int .i64 mc, .int .i64 mf, .slice mA mn mq, .int .u64 (d.toNat : Int)] 46)).cell? ⟨wr.heap.size, 7, none⟩ = some (.int .u64 (mb.toNat : Int)) := cellAt_alloc_lit wr _ _ 7
        have x8 : (wr.alloc (.cells #[.int .i64 kind, .int .i64 now, .int .i64 mk, .int .u64 (mt.toNat : Int), .int .i64 me, .int .i64 ms, .int .i64 ma, .int .u64 (mb.toNat : Int), .int .i64 mc, .int .i64 mf, .slice mA mn mq, .int .u64 (d.toNat : Int)] 46)).cell? ⟨wr.heap.size, 8, none⟩ = some (.int .i64 mc) := cellAt_alloc_lit wr _ _ 8
        have x9 : (wr.alloc (.cells #[.int .i64 kind, .int .i64 now, .int .i64 mk, .int .u64 (mt.toNat : Int), .int .i64 me, .int .i64 ms, .int .i64 ma, .int .u64 (mb.toNat : Int), .int .i64 mc, .int .i64 mf, .slice mA mn mq, .int .u64 (d.toNat : Int)] 46)).cell? ⟨wr.heap.size, 9, none⟩ = some (.int .i64 mf) := cellAt_alloc_lit wr _ _ 9
        have x10 : (wr.alloc (.cells #[.int .i64 kind, .int .i64 now, .int .i64 mk, .int .u64 (mt.toNat : Int), .int .i64 me, .int .i64 ms, .int .i64 ma, .int .u64 (mb.toNat : Int), .int .i64 mc, .int .i64 mf, .slice mA mn mq, .int .u64 (d.toNat : Int)] 46)).cell? ⟨wr.heap.size, 10, none⟩ = some (.slice mA mn mq) := cellAt_alloc_lit wr _ _ 10
        have x11 : (wr.alloc (.cells #[.int .i64 kind, .int .i64 now, .int .i64 mk, .int .u64 (mt.toNat : Int), .int .i64 me, .int .i64 ms, .int .i64 ma, .int .u64 (mb.toNat : Int), .int .i64 mc, .int .i64 mf, .slice mA mn mq, .int .u64 (d.toNat : Int)] 46)).cell? ⟨wr.heap.size, 11, none⟩ = some (.int .u64 (d.toNat : Int)) := cellAt_alloc_lit wr _ _ 11
        have nb : ¬ (TFoot p ub bs v wr.heap.size ∨ wr.heap.size = pr) := fun e => e.elim (fun e => by have := HD.out.t.flt e; omega) (fun e => by have := HD.out.r.plt; omega)
        have HD := Lib.hid (HD.out.pure ca)
        clear hcl hA
        have hab : wr.heap.size < (wr.alloc (.cells #[.int .i64 kind, .int .i64 now, .int .i64 mk, .int .u64 (mt.toNat : Int), .int .i64 me, .int .i64 ms, .int .i64 ma, .int .u64 (mb.toNat : Int), .int .i64 mc, .int .i64 mf, .slice mA mn mq, .int .u64 (d.toNat : Int)] 46)).heap.size := World.block_lt_of_cell? _ _ x0
        clear ca
        rcases and3_20 kind with hk0 | hk1
        · -- Hello
          go_wp2_with (fail)
          generalize (wr.alloc (.cells #[.int .i64 kind, .int .i64 now, .int .i64 mk, .int .u64 (mt.toNat : Int), .int .i64 me, .int .i64 ms, .int .i64 ma, .int .u64 (mb.toNat : Int), .int .i64 mc, .int .i64 mf, .slice mA mn mq, .int .u64 (d.toNat : Int)] 46)) = w3 at *
          generalize wr.heap.size = ab at *
          refine (hello_of HD.out.t ⟨mk, mt, me, ms, ma, mb, mc, mf, mA, mn, mq⟩ d now (by omega)).mono ?_
          rintro e w5 ⟨rfl, c5, bs5, v5, h5, f5⟩
          have hpl := hello_plain T ⟨mk, mt, me, ms, ma, mb, mc, mf, mA, mn, mq⟩ d now
          have HD5 := Lib.hid (HD.out.prog c5 h5 f5)
          have hep : Hid (∀ x ∈ T.L, x.epoch + 1 ≤ 4398046511104) := Lib.hid (fun x hx => by have := (HD.out.t.ep x hx).2.1; omega)
          have hlm : Hid (T.L.length ≤ T.most) := Lib.hid HD.out.t.lm
          have x0 := c5.cell x0 (fun h => nb (.inl h))
          have x1 := c5.cell x1 (fun h => nb (.inl h))
          have x2 := c5.cell x2 (fun h => nb (.inl h))
          have x3 := c5.cell x3 (fun h => nb (.inl h))
          have x4 := c5.cell x4 (fun h => nb (.inl h))
          have x5 := c5.cell x5 (fun h => nb (.inl h))
          have x6 := c5.cell x6 (fun h => nb (.inl h))
          have x7 := c5.cell x7 (fun h => nb (.inl h))
          have x8 := c5.cell x8 (fun h => nb (.inl h))
          have x9 := c5.cell x9 (fun h => nb (.inl h))
          have x10 := c5.cell x10 (fun h => nb (.inl h))
          have x11 := c5.cell x11 (fun h => nb (.inl h))
          clear c5 h5 f5 HD
          generalize hR : helloOf T ⟨mk, mt, me, ms, ma, mb, mc, mf, mA, mn, mq⟩ d now = R at *
          have HR := Lib.hid hR
          clear hR
          obtain ⟨⟨⟨rk, rt, re, rs, ra, rb, rc, rf, rA, rn, rq⟩, E⟩, T5⟩ := R
          obtain ⟨rfl, rfl, rfl⟩ := hpl
          rw [Mg.val_eq]
          have cb : Chg Pure' w5 (w5.alloc (.cells #[.int .i64 rk, .int .u64 (rt.toNat : Int), .int .i64 re, .int .i64 rs, .int .i64 ra, .int .u64 (rb.toNat : Int), .int .i64 rc, .int .i64 rf, .slice none 0 0] 32)) := (Chg.refl _ w5).alloc _
          have y0 : (w5.alloc (.cells #[.int .i64 rk, .int .u64 (rt.toNat : Int), .int .i64 re, .int .i64 rs, .int .i64 ra, .int .u64 (rb.toNat : Int), .int .i64 rc, .int .i64 rf, .slice none 0 0] 32)).cell? ⟨w5.heap.size, 0, none⟩ = some (.int .i64 rk) := cellAt_alloc_lit w5 _ _ 0
          have y1 : (w5.alloc (.cells #[.int .i64 rk, .int .u64 (rt.toNat : Int), .int .i64 re, .int .i64 rs, .int .i64 ra, .int .u64 (rb.toNat : Int), .int .i64 rc, .int .i64 rf, .slice none 0 0] 32)).cell? ⟨w5.heap.size, 1, none⟩ = some (.int .u64 (rt.toNat : Int)) := cellAt_alloc_lit w5 _ _ 1
          have y2 : (w5.alloc (.cells #[.int .i64 rk, .int .u64 (rt.toNat : Int), .int .i64 re, .int .i64 rs, .int .i64 ra, .int .u64 (rb.toNat : Int), .int .i64 rc, .int .i64 rf, .slice none 0 0] 32)).cell? ⟨w5.heap.size, 2, none⟩ = some (.int .i64 re) := cellAt_alloc_lit w5 _ _ 2
          have y3 : (w5.alloc (.cells #[.int .i64 rk, .int .u64 (rt.toNat : Int), .int .i64 re, .int .i64 rs, .int .i64 ra, .int .u64 (rb.toNat : Int), .int .i64 rc, .int .i64 rf, .slice none 0 0] 32)).cell? ⟨w5.heap.size, 3, none⟩ = some (.int .i64 rs) := cellAt_alloc_lit w5 _ _ 3
          have y4 : (w5.alloc (.cells #[.int .i64 rk, .int .u64 (rt.toNat : Int), .int .i64 re, .int .i64 rs, .int .i64 ra, .int .u64 (rb.toNat : Int), .int .i64 rc, .int .i64 rf, .slice none 0 0] 32)).cell? ⟨w5.heap.size, 4, none⟩ = some (.int .i64 ra) := cellAt_alloc_lit w5 _ _ 4
          have y5 : (w5.alloc (.cells #[.int .i64 rk, .int .u64 (rt.toNat : Int), .int .i64 re, .int .i64 rs, .int .i64 ra, .int .u64 (rb.toNat : Int), .int .i64 rc, .int .i64 rf, .slice none 0 0] 32)).cell? ⟨w5.heap.size, 5, none⟩ = some (.int .u64 (rb.toNat : Int)) := cellAt_alloc_lit w5 _ _ 5
          have y6 : (w5.alloc (.cells #[.int .i64 rk, .int .u64 (rt.toNat : Int), .int .i64 re, .int .i64 rs, .int .i64 ra, .int .u64 (rb.toNat : Int), .int .i64 rc, .int .i64 rf, .slice none 0 0] 32)).cell? ⟨w5.heap.size, 6, none⟩ = some (.int .i64 rc) := cellAt_alloc_lit w5 _ _ 6
          have y7 : (w5.alloc (.cells #[.int .i64 rk, .int .u64 (rt.toNat : Int), .int .i64 re, .int .i64 rs, .int .i64 ra, .int .u64 (rb.toNat : Int), .int .i64 rc, .int .i64 rf, .slice none 0 0] 32)).cell? ⟨w5.heap.size, 7, none⟩ = some (.int .i64 rf) := cellAt_alloc_lit w5 _ _ 7
          have y8 : (w5.alloc (.cells #[.int .i64 rk, .int .u64 (rt.toNat : Int), .int .i64 re, .int .i64 rs, .int .i64 ra, .int .u64 (rb.toNat : Int), .int .i64 rc, .int .i64 rf, .slice none 0 0] 32)).cell? ⟨w5.heap.size, 8, none⟩ = some (.slice none 0 0) := cellAt_alloc_lit w5 _ _ 8
          have x0 := cb.cell x0 (fun h => h)
          have x1 := cb.cell x1 (fun h => h)
          have x2 := cb.cell x2 (fun h => h)
          have x3 := cb.cell x3 (fun h => h)
          have x4 := cb.cell x4 (fun h => h)
          have x5 := cb.cell x5 (fun h => h)
          have x6 := cb.cell x6 (fun h => h)
          have x7 := cb.cell x7 (fun h => h)
          have x8 := cb.cell x8 (fun h => h)
          have x9 := cb.cell x9 (fun h => h)
          have x10 := cb.cell x10 (fun h => h)
          have x11 := cb.cell x11 (fun h => h)
          have HD6 := Lib.hid (HD5.out.pure cb)
          have nb5 : w5.heap.size ≠ pr := fun e => by have := HD5.out.r.plt; omega
          clear HD5 cb
          go_wp2_with (fail)
          generalize (w5.alloc (.cells #[.int .i64 rk, .int .u64 (rt.toNat : Int), .int .i64 re, .int .i64 rs, .int .i64 ra, .int .u64 (rb.toNat : Int), .int .i64 rc, .int .i64 rf, .slice none 0 0] 32)) = w6 at *
          generalize w5.heap.size = yb at *
          refine (rhello_any HD6.out.r HD6.out.b hlm.out (by omega) hep.out ⟨mk, mt, me, ms, ma, mb, mc, mf, mA, mn, mq⟩ d now).mono ?_
          rintro e w7 ⟨vL7, vU7, us7, rfl, h7, hul7, fL7, fU7, c7⟩
          rw [HR.out] at h7 ⊢
          have HD7 := Lib.hid (HD6.out.ref c7 h7 fL7 fU7)
          have nbr : ¬ ab = pr := fun e => nb (.inr e)
          have x0 := c7.cell x0 nbr
          have x1 := c7.cell x1 nbr
          have x2 := c7.cell x2 nbr
          have x3 := c7.cell x3 nbr
          have x4 := c7.cell x4 nbr
          have x5 := c7.cell x5 nbr
          have x6 := c7.cell x6 nbr
          have x7 := c7.cell x7 nbr
          have x8 := c7.cell x8 nbr
          have x9 := c7.cell x9 nbr
          have x10 := c7.cell x10 nbr
          have x11 := c7.cell x11 nbr
          have y0 := c7.cell y0 nb5
          have y1 := c7.cell y1 nb5
          have y2 := c7.cell y2 nb5
          have y3 := c7.cell y3 nb5
          have y4 := c7.cell y4 nb5
          have y5 := c7.cell y5 nb5
          have y6 := c7.cell y6 nb5
          have y7 := c7.cell y7 nb5
          have y8 := c7.cell y8 nb5
          clear c7 h7 fL7 fU7 HD6 hep hlm HR
          simp only
          rw [Mg.val_eq]
          have cb : Chg Pure' w7 (w7.alloc (.cells #[.int .i64 rk, .int .u64 (rt.toNat : Int), .int .i64 re, .int .i64 rs, .int .i64 ra, .int .u64 (rb.toNat : Int), .int .i64 rc, .int .i64 rf, .slice none 0 0] 32)) := (Chg.refl _ w7).alloc _
          have z0 : (w7.alloc (.cells #[.int .i64 rk, .int .u64 (rt.toNat : Int), .int .i64 re, .int .i64 rs, .int .i64 ra, .int .u64 (rb.toNat : Int), .int .i64 rc, .int .i64 rf, .slice none 0 0] 32)).cell? ⟨w7.heap.size, 0, none⟩ = some (.int .i64 rk) := cellAt_alloc_lit w7 _ _ 0
          have z1 : (w7.alloc (.cells #[.int .i64 rk, .int .u64 (rt.toNat : Int), .int .i64 re, .int .i64 rs, .int .i64 ra, .int .u64 (rb.toNat : Int), .int .i64 rc, .int .i64 rf, .slice none 0 0] 32)).cell? ⟨w7.heap.size, 1, none⟩ = some (.int .u64 (rt.toNat : Int)) := cellAt_alloc_lit w7 _ _ 1
          have z2 : (w7.alloc (.cells #[.int .i64 rk, .int .u64 (rt.toNat : Int), .int .i64 re, .int .i64 rs, .int .i64 ra, .int .u64 (rb.toNat : Int), .int .i64 rc, .int .i64 rf, .slice none 0 0] 32)).cell? ⟨w7.heap.size, 2, none⟩ = some (.int .i64 re) := cellAt_alloc_lit w7 _ _ 2
          have z3 : (w7.alloc (.cells #[.int .i64 rk, .int .u64 (rt.toNat : Int), .int .i64 re, .int .i64 rs, .int .i64 ra, .int .u64 (rb.toNat : Int), .int .i64 rc, .int .i64 rf, .slice none 0 0] 32)).cell? ⟨w7.heap.size, 3, none⟩ = some (.int .i64 rs) := cellAt_alloc_lit w7 _ _ 3
          have z4 : (w7.alloc (.cells #[.int .i64 rk, .int .u64 (rt.toNat : Int), .int .i64 re, .int .i64 rs, .int .i64 ra, .int .u64 (rb.toNat : Int), .int .i64 rc, .int .i64 rf, .slice none 0 0] 32)).cell? ⟨w7.heap.size, 4, none⟩ = some (.int .i64 ra) := cellAt_alloc_lit w7 _ _ 4
          have z5 : (w7.alloc (.cells #[.int .i64 rk, .int .u64 (rt.toNat : Int), .int .i64 re, .int .i64 rs, .int .i64 ra, .int .u64 (rb.toNat : Int), .int .i64 rc, .int .i64 rf, .slice none 0 0] 32)).cell? ⟨w7.heap.size, 5, none⟩ = some (.int .u64 (rb.toNat : Int)) := cellAt_alloc_lit w7 _ _ 5
          have z6 : (w7.alloc (.cells #[.int .i64 rk, .int .u64 (rt.toNat : Int), .int .i64 re, .int .i64 rs, .int .i64 ra, .int .u64 (rb.toNat : Int), .int .i64 rc, .int .i64 rf, .slice none 0 0] 32)).cell? ⟨w7.heap.size, 6, none⟩ = some (.int .i64 rc) := cellAt_alloc_lit w7 _ _ 6
          have z7 : (w7.alloc (.cells #[.int .i64 rk, .int .u64 (rt.toNat : Int), .int .i64 re, .int .i64 rs, .int .i64 ra, .int .u64 (rb.toNat : Int), .int .i64 rc, .int .i64 rf, .slice none 0 0] 32)).cell? ⟨w7.heap.size, 7, none⟩ = some (.int .i64 rf) := cellAt_alloc_lit w7 _ _ 7
          have z8 : (w7.alloc (.cells #[.int .i64 rk, .int .u64 (rt.toNat : Int), .int .i64 re, .int .i64 rs, .int .i64 ra, .int .u64 (rb.toNat : Int), .int .i64 rc, .int .i64 rf, .slice none 0 0] 32)).cell? ⟨w7.heap.size, 8, none⟩ = some (.slice none 0 0) := cellAt_alloc_lit w7 _ _ 8
          have x0 := cb.cell x0 (fun h => h)
          have x1 := cb.cell x1 (fun h => h)
          have x2 := cb.cell x2 (fun h => h)
          have x3 := cb.cell x3 (fun h => h)
          have x4 := cb.cell x4 (fun h => h)
          have x5 := cb.cell x5 (fun h => h)
          have x6 := cb.cell x6 (fun h => h)
          have x7 := cb.cell x7 (fun h => h)
          have x8 := cb.cell x8 (fun h => h)
          have x9 := cb.cell x9 (fun h => h)
          have x10 := cb.cell x10 (fun h => h)
          have x11 := cb.cell x11 (fun h => h)
          have y0 := cb.cell y0 (fun h => h)
          have y1 := cb.cell y1 (fun h => h)
          have y2 := cb.cell y2 (fun h => h)
          have y3 := cb.cell y3 (fun h => h)
          have y4 := cb.cell y4 (fun h => h)
          have y5 := cb.cell y5 (fun h => h)
          have y6 := cb.cell y6 (fun h => h)
          have y7 := cb.cell y7 (fun h => h)
          have y8 := cb.cell y8 (fun h => h)
          have HD8 := Lib.hid (HD7.out.pure cb)
          clear HD7 cb
          go_wp2_with (fail)
          generalize (w7.alloc (.cells #[.int .i64 rk, .int .u64 (rt.toNat : Int), .int .i64 re, .int .i64 rs, .int .i64 ra, .int .u64 (rb.toNat : Int), .int .i64 rc, .int .i64 rf, .slice none 0 0] 32)) = w8 at *
          generalize w7.heap.size = zb at *
          have iE : (E == E) = true := beq_self_eq_true _
          refine (one_self ⟨rk, rt, re, rs, ra, rb, rc, rf, none, 0, 0⟩ ⟨rfl, rfl, rfl⟩ w8).mono ?_
          rintro e w9 ⟨rfl, c9⟩
          have HD9 := Lib.hid (HD8.out.pure c9)
          have hul9 : us7.length ≤ k + 1 := by omega
          have x0 := c9.cell x0 (fun h => h)
          have x1 := c9.cell x1 (fun h => h)
          have x2 := c9.cell x2 (fun h => h)
          have x3 := c9.cell x3 (fun h => h)
          have x4 := c9.cell x4 (fun h => h)
          have x5 := c9.cell x5 (fun h => h)
          have x6 := c9.cell x6 (fun h => h)
          have x7 := c9.cell x7 (fun h => h)
          have x8 := c9.cell x8 (fun h => h)
          have x9 := c9.cell x9 (fun h => h)
          have x10 := c9.cell x10 (fun h => h)
          have x11 := c9.cell x11 (fun h => h)
          clear y0 y1 y2 y3 y4 y5 y6 y7 y8 z0 z1 z2 z3 z4 z5 z6 z7 z8 c9 HD8 x0 x1 x2 x4 x5 x6 x7 x8 x9 x10 x11 hul7
          go_wp2_with (fail)
          refine (tfind_any HD9.out.t mt).mono ?_
          rintro e wA ⟨rfl, cA⟩
          have HDA := Lib.hid (HD9.out.pure cA)
          have x3 := cA.cell x3 (fun h => h)
          clear HD9 cA
          go_wp2_with (fail)
          refine (rfind_any HDA.out.r mt).mono ?_
          rintro e wB ⟨rfl, cB⟩
          have hDB := HDA.out.pure cB
          obtain ⟨qA, qL, hvL, hqL⟩ := hDB.r.val
          subst hvL
          have p3 := hDB.r.c3
          have HDB := Lib.hid hDB
          clear HDA cB x3 hDB
          generalize hL : (T5.L.length : Nat) = nL at *
          have HL := Lib.hid hL
          clear hL
          generalize (findOf T5.L mt).1 = ep at *
          generalize (findOf T5.L mt).2.1 = fo at *
          generalize (findOf T5.L mt).2.2 = th at *
          have j0 : (ep != ep) = false := by simp
          have j1 : (fo != fo) = false := by simp
          have j2 : (th != th) = false := by simp
          have j3 : ((nL : Int) != (nL : Int)) = false := by simp
          have n64 : nL ≤ 64 := by rw [← HL.out]; exact HDB.out.r.l64
          go_wp2_with (fail)
          refine reg_begin (Pure') (by kernel_rfl) ?_
          refine reg_take 0 (v := ?_) rfl (by kernel_rfl) (by kernel_rfl) (by kernel_rfl) (fun _ _ _ h => h) (by kernel_rfl) ?_ ?_
          rotate_left
          · (intro w' hS; go_simp; (try go_bits); (try with_reducible rfl))
          try simp only [Act.put, List.getElem_toArray, List.getElem_cons_zero, List.getElem_cons_succ, List.setIfInBounds_toArray, List.set_cons_zero, List.set_cons_succ]
          refine reg_take 1 (v := ?_) rfl (by kernel_rfl) (by kernel_rfl) (by kernel_rfl) (fun _ _ _ h => h) (by kernel_rfl) ?_ ?_
          rotate_left
          · (intro w' hS; go_simp; (try go_bits); (try with_reducible rfl))
          try simp only [Act.put, List.getElem_toArray, List.getElem_cons_zero, List.getElem_cons_succ, List.setIfInBounds_toArray, List.set_cons_zero, List.set_cons_succ]
          refine reg_take 2 (v := ?_) rfl (by kernel_rfl) (by kernel_rfl) (by kernel_rfl) (fun _ _ _ h => h) (by kernel_rfl) ?_ ?_
          rotate_left
          · (intro w' hS; go_simp; (try go_bits); (try with_reducible rfl))
          try simp only [Act.put, List.getElem_toArray, List.getElem_cons_zero, List.getElem_cons_succ, List.setIfInBounds_toArray, List.set_cons_zero, List.set_cons_succ]
          refine reg_take 3 (v := ?_) rfl (by kernel_rfl) (by kernel_rfl) (by kernel_rfl) (fun _ _ _ h => h) (by kernel_rfl) ?_ ?_
          rotate_left
          · (intro w' hS; go_simp; (try go_bits); (try with_reducible rfl))
          try simp only [Act.put, List.getElem_toArray, List.getElem_cons_zero, List.getElem_cons_succ, List.setIfInBounds_toArray, List.set_cons_zero, List.set_cons_succ]
          refine reg_take 4 (v := ?_) rfl (by kernel_rfl) (by kernel_rfl) (by kernel_rfl) (fun _ _ _ h => h) (by kernel_rfl) ?_ ?_
          rotate_left
          · (intro w' hS; go_simp; (try go_bits); (try with_reducible rfl))
          try simp only [Act.put, List.getElem_toArray, List.getElem_cons_zero, List.getElem_cons_succ, List.setIfInBounds_toArray, List.set_cons_zero, List.set_cons_succ]
          refine reg_take 5 (v := ?_) rfl (by kernel_rfl) (by kernel_rfl) (by kernel_rfl) (fun _ _ _ h => h) (by kernel_rfl) ?_ ?_
          rotate_left
          · (intro w' hS; go_simp; (try go_bits); (try with_reducible rfl))
          try simp only [Act.put, List.getElem_toArray, List.getElem_cons_zero, List.getElem_cons_succ, List.setIfInBounds_toArray, List.set_cons_zero, List.set_cons_succ]
          refine reg_take 6 (v := ?_) rfl (by kernel_rfl) (by kernel_rfl) (by kernel_rfl) (fun _ _ _ h => h) (by kernel_rfl) ?_ ?_
          rotate_left
          · (intro w' hS; go_simp; (try go_bits); (try with_reducible rfl))
          try simp only [Act.put, List.getElem_toArray, List.getElem_cons_zero, List.getElem_cons_succ, List.setIfInBounds_toArray, List.set_cons_zero, List.set_cons_succ]
          refine reg_take 7 (v := ?_) rfl (by kernel_rfl) (by kernel_rfl) (by kernel_rfl) (fun _ _ _ h => h) (by kernel_rfl) ?_ ?_
          rotate_left
          · (intro w' hS; go_simp; (try go_bits); (try with_reducible rfl))
          try simp only [Act.put, List.getElem_toArray, List.getElem_cons_zero, List.getElem_cons_succ, List.setIfInBounds_toArray, List.set_cons_zero, List.set_cons_succ]
          refine reg_take 8 (v := ?_) rfl (by kernel_rfl) (by kernel_rfl) (by kernel_rfl) (fun _ _ _ h => h) (by kernel_rfl) ?_ ?_
          rotate_left
          · (intro w' hS; go_simp; (try go_bits); (try with_reducible rfl))
          try simp only [Act.put, List.getElem_toArray, List.getElem_cons_zero, List.getElem_cons_succ, List.setIfInBounds_toArray, List.set_cons_zero, List.set_cons_succ]
          refine reg_take 9 (v := ?_) rfl (by kernel_rfl) (by kernel_rfl) (by kernel_rfl) (fun _ _ _ h => h) (by kernel_rfl) ?_ ?_
          rotate_left
          · (intro w' hS; go_simp; (try go_bits); (try with_reducible rfl))
          try simp only [Act.put, List.getElem_toArray, List.getElem_cons_zero, List.getElem_cons_succ, List.setIfInBounds_toArray, List.set_cons_zero, List.set_cons_succ]
          refine reg_take 10 (v := ?_) rfl (by kernel_rfl) (by kernel_rfl) (by kernel_rfl) (fun _ _ _ h => h) (by kernel_rfl) ?_ ?_
          rotate_left
          · (intro w' hS; go_simp; (try go_bits); (try with_reducible rfl))
          try simp only [Act.put, List.getElem_toArray, List.getElem_cons_zero, List.getElem_cons_succ, List.setIfInBounds_toArray, List.set_cons_zero, List.set_cons_succ]
          refine reg_take 11 (v := ?_) rfl (by kernel_rfl) (by kernel_rfl) (by kernel_rfl) (fun _ _ _ h => h) (by kernel_rfl) ?_ ?_
          rotate_left
          · (intro w' hS; go_simp; (try go_bits); (try with_reducible rfl))
          try simp only [Act.put, List.getElem_toArray, List.getElem_cons_zero, List.getElem_cons_succ, List.setIfInBounds_toArray, List.set_cons_zero, List.set_cons_succ]
          refine reg_take 12 (v := ?_) rfl (by kernel_rfl) (by kernel_rfl) (by kernel_rfl) (fun _ _ _ h => h) (by kernel_rfl) ?_ ?_
          rotate_left
          · (intro w' hS; go_simp; (try go_bits); (try with_reducible rfl))
          try simp only [Act.put, List.getElem_toArray, List.getElem_cons_zero, List.getElem_cons_succ, List.setIfInBounds_toArray, List.set_cons_zero, List.set_cons_succ]
          refine reg_take 13 (v := ?_) rfl (by kernel_rfl) (by kernel_rfl) (by kernel_rfl) (fun _ _ _ h => h) (by kernel_rfl) ?_ ?_
          rotate_left
          · (intro w' hS; go_simp; (try go_bits); (try with_reducible rfl))
          try simp only [Act.put, List.getElem_toArray, List.getElem_cons_zero, List.getElem_cons_succ, List.setIfInBounds_toArray, List.set_cons_zero, List.set_cons_succ]
          refine reg_take 14 (v := ?_) rfl (by kernel_rfl) (by kernel_rfl) (by kernel_rfl) (fun _ _ _ h => h) (by kernel_rfl) ?_ ?_
          rotate_left
          · (intro w' hS; go_simp; (try go_bits); (try with_reducible rfl))
          try simp only [Act.put, List.getElem_toArray, List.getElem_cons_zero, List.getElem_cons_succ, List.setIfInBounds_toArray, List.set_cons_zero, List.set_cons_succ]
          refine reg_take 15 (v := ?_) rfl (by kernel_rfl) (by kernel_rfl) (by kernel_rfl) (fun _ _ _ h => h) (by kernel_rfl) ?_ ?_
          rotate_left
          · (intro w' hS; go_simp; (try go_bits); (try with_reducible rfl))
          try simp only [Act.put, List.getElem_toArray, List.getElem_cons_zero, List.getElem_cons_succ, List.setIfInBounds_toArray, List.set_cons_zero, List.set_cons_succ]
          refine reg_take 16 (v := ?_) rfl (by kernel_rfl) (by kernel_rfl) (by kernel_rfl) (fun _ _ _ h => h) (by kernel_rfl) ?_ ?_
          rotate_left
          · (intro w' hS; go_simp; (try go_bits); (try with_reducible rfl))
          try simp only [Act.put, List.getElem_toArray, List.getElem_cons_zero, List.getElem_cons_succ, List.setIfInBounds_toArray, List.set_cons_zero, List.set_cons_succ]
          refine reg_take 17 (v := ?_) rfl (by kernel_rfl) (by kernel_rfl) (by kernel_rfl) (fun _ _ _ h => h) (by kernel_rfl) ?_ ?_
          rotate_left
          · (intro w' hS; go_simp; (try go_bits); (try with_reducible rfl))
          try simp only [Act.put, List.getElem_toArray, List.getElem_cons_zero, List.getElem_cons_succ, List.setIfInBounds_toArray, List.set_cons_zero, List.set_cons_succ]
          refine reg_take 18 (v := ?_) rfl (by kernel_rfl) (by kernel_rfl) (by kernel_rfl) (fun _ _ _ h => h) (by kernel_rfl) ?_ ?_
          rotate_left
          · (intro w' hS; go_simp; (try go_bits); (try with_reducible rfl))
          try simp only [Act.put, List.getElem_toArray, List.getElem_cons_zero, List.getElem_cons_succ, List.setIfInBounds_toArray, List.set_cons_zero, List.set_cons_succ]
          refine reg_take 20 (v := ?_) rfl (by kernel_rfl) (by kernel_rfl) (by kernel_rfl) (fun _ _ _ h => h) (by kernel_rfl) ?_ ?_
          rotate_left
          · (intro w' hS; go_simp; (try go_bits); (try with_reducible rfl))
          try simp only [Act.put, List.getElem_toArray, List.getElem_cons_zero, List.getElem_cons_succ, List.setIfInBounds_toArray, List.set_cons_zero, List.set_cons_succ]
          refine reg_take 21 (v := ?_) rfl (by kernel_rfl) (by kernel_rfl) (by kernel_rfl) (fun _ _ _ h => h) (by kernel_rfl) ?_ ?_
          rotate_left
          · (intro w' hS; have hz := hS.cell (w := wB.drew) p3 (fun h => h); go_simp; (try go_bits); (try with_reducible rfl))
          try simp only [Act.put, List.getElem_toArray, List.getElem_cons_zero, List.getElem_cons_succ, List.setIfInBounds_toArray, List.set_cons_zero, List.set_cons_succ]
          refine reg_take 22 (v := ?_) rfl (by kernel_rfl) (by kernel_rfl) (by kernel_rfl) (fun _ _ _ h => h) (by kernel_rfl) ?_ ?_
          rotate_left
          · (intro w' hS; go_simp; (try go_bits); (try with_reducible rfl))
          try simp only [Act.put, List.getElem_toArray, List.getElem_cons_zero, List.getElem_cons_succ, List.setIfInBounds_toArray, List.set_cons_zero, List.set_cons_succ]
          refine reg_do 19 rfl (by kernel_rfl) (by kernel_rfl) ?_
          intro K hK
          go_simp
          refine (tlive_any (HDB.out.t.pure (Chg.refl Pure' wB).drew)).mono ?_
          rintro e wC ⟨rfl, rfl⟩
          rw [HL.out]
          go_simp
          refine hK _ _ (Chg.refl _ _) ?_
          clear hK K
          try simp only [Act.put, List.getElem_toArray, List.getElem_cons_zero, List.getElem_cons_succ, List.setIfInBounds_toArray, List.set_cons_zero, List.set_cons_succ]
          refine reg_take 23 (v := ?_) rfl (by kernel_rfl) (by kernel_rfl) (by kernel_rfl) (fun _ _ _ h => h) (by kernel_rfl) ?_ ?_
          rotate_left
          · (intro w' hS; go_simp; (try go_bits); (try with_reducible rfl))
          try simp only [Act.put, List.getElem_toArray, List.getElem_cons_zero, List.getElem_cons_succ, List.setIfInBounds_toArray, List.set_cons_zero, List.set_cons_succ]
          refine reg_take 24 (v := ?_) rfl (by kernel_rfl) (by kernel_rfl) (by kernel_rfl) (fun _ _ _ h => h) (by kernel_rfl) ?_ ?_
          rotate_left
          · (intro w' hS; go_simp; (try go_bits); (try with_reducible rfl))
          try simp only [Act.put, List.getElem_toArray, List.getElem_cons_zero, List.getElem_cons_succ, List.setIfInBounds_toArray, List.set_cons_zero, List.set_cons_succ]
          refine wpAnyH_done (by kernel_rfl) ?_ _
          have HDC := Lib.hid (HDB.out.pure (Chg.refl Pure' wB).drew)
          clear HDB p3 n64
          go_wp2
          go_roundw
          case rel => exact ⟨k + 1, _, _, _, _, _, _, T5, us7, by omega, by go_num, HDC, hul9⟩
          case measure => simp [intOf]; omega
        · have hE1 : True := trivial
          rcases hk1 with hk1 | hk1 | hk1
          · go_wp2_with (fail)
            generalize (wr.alloc (.cells #[.int .i64 kind, .int .i64 now, .int .i64 mk, .int .u64 (mt.toNat : Int), .int .i64 me, .int .i64 ms, .int .i64 ma, .int .u64 (mb.toNat : Int), .int .i64 mc, .int .i64 mf, .slice mA mn mq, .int .u64 (d.toNat : Int)] 46)) = w3 at *
            generalize wr.heap.size = ab at *
            have D3 := HD.out.pure (Chg.refl Pure' w3).drew
            have x3d : w3.drew.cell? ⟨ab, 3, none⟩ = some (.int .u64 (mt.toNat : Int)) := x3
            have nbr : ¬ ab = pr := fun e => nb (.inr e)
            have nbp : ¬ TFoot p ub bs v ab := fun e => nb (.inl e)
            have hprl : pr < w3.drew.heap.size := D3.r.plt
            have jE : ((hearOf T ⟨mk, mt, me, ms, ma, mb, mc, mf, mA, mn, mq⟩ now).1 == (hearOf T ⟨mk, mt, me, ms, ma, mb, mc, mf, mA, mn, mq⟩ now).1) = true := by simp
            have HD3 := Lib.hid D3
            clear HD D3 hab
            refine regL_begin 12 (fun x => TFoot p ub bs v x ∨ x = pr) (by kernel_rfl) ?_
            refine regL_take 0 (v := ?_) rfl (by kernel_rfl) (by kernel_rfl) (by kernel_rfl) (by kernel_rfl) (fun _ _ _ h => h) (by kernel_rfl) ?_ ?_
            rotate_left
            · (intro w' hS; go_simp; (try go_bits); (try with_reducible rfl))
            try simp only [Act.put, List.getElem_toArray, List.getElem_cons_zero, List.getElem_cons_succ, List.setIfInBounds_toArray, List.set_cons_zero, List.set_cons_succ]
            refine regL_take 1 (v := ?_) rfl (by kernel_rfl) (by kernel_rfl) (by kernel_rfl) (by kernel_rfl) (fun _ _ _ h => h) (by kernel_rfl) ?_ ?_
            rotate_left
            · (intro w' hS; go_simp; (try go_bits); (try with_reducible rfl))
            try simp only [Act.put, List.getElem_toArray, List.getElem_cons_zero, List.getElem_cons_succ, List.setIfInBounds_toArray, List.set_cons_zero, List.set_cons_succ]
            refine regL_take 2 (v := ?_) rfl (by kernel_rfl) (by kernel_rfl) (by kernel_rfl) (by kernel_rfl) (fun _ _ _ h => h) (by kernel_rfl) ?_ ?_
            rotate_left
            · (intro w' hS; have hz := hS.cell (w := w3.drew) x2 nb; have hz3 := hS.cell (w := w3.drew) x3 nb; have hz4 := hS.cell (w := w3.drew) x4 nb; have hz5 := hS.cell (w := w3.drew) x5 nb; have hz6 := hS.cell (w := w3.drew) x6 nb; have hz7 := hS.cell (w := w3.drew) x7 nb; have hz8 := hS.cell (w := w3.drew) x8 nb; have hz9 := hS.cell (w := w3.drew) x9 nb; have hz10 := hS.cell (w := w3.drew) x10 nb; go_simp; (try go_bits); (try with_reducible rfl))
            try simp only [Act.put, List.getElem_toArray, List.getElem_cons_zero, List.getElem_cons_succ, List.setIfInBounds_toArray, List.set_cons_zero, List.set_cons_succ]
            refine regL_take 3 (v := ?_) rfl (by kernel_rfl) (by kernel_rfl) (by kernel_rfl) (by kernel_rfl) (fun _ _ _ h => h) (by kernel_rfl) ?_ ?_
            rotate_left
            · (intro w' hS; go_simp; (try go_bits); (try with_reducible rfl))
            try simp only [Act.put, List.getElem_toArray, List.getElem_cons_zero, List.getElem_cons_succ, List.setIfInBounds_toArray, List.set_cons_zero, List.set_cons_succ]
            refine regL_take 4 (v := ?_) rfl (by kernel_rfl) (by kernel_rfl) (by kernel_rfl) (by kernel_rfl) (fun _ _ _ h => h) (by kernel_rfl) ?_ ?_
            rotate_left
            · (intro w' hS; have hz := hS.cell (w := w3.drew) x1 nb; go_simp; (try go_bits); (try with_reducible rfl))
            try simp only [Act.put, List.getElem_toArray, List.getElem_cons_zero, List.getElem_cons_succ, List.setIfInBounds_toArray, List.set_cons_zero, List.set_cons_succ]
            refine regL_take 6 (v := ?_) rfl (by kernel_rfl) (by kernel_rfl) (by kernel_rfl) (by kernel_rfl) (fun _ _ _ h => h) (by kernel_rfl) ?_ ?_
            rotate_left
            · (intro w' hS; go_simp; (try go_bits); (try with_reducible rfl))
            try simp only [Act.put, List.getElem_toArray, List.getElem_cons_zero, List.getElem_cons_succ, List.setIfInBounds_toArray, List.set_cons_zero, List.set_cons_succ]
            refine regL_take 7 (v := ?_) rfl (by kernel_rfl) (by kernel_rfl) (by kernel_rfl) (by kernel_rfl) (fun _ _ _ h => h) (by kernel_rfl) ?_ ?_
            rotate_left
            · (intro w' hS; have hz := hS.cell (w := w3.drew) x2 nb; have hz3 := hS.cell (w := w3.drew) x3 nb; have hz4 := hS.cell (w := w3.drew) x4 nb; have hz5 := hS.cell (w := w3.drew) x5 nb; have hz6 := hS.cell (w := w3.drew) x6 nb; have hz7 := hS.cell (w := w3.drew) x7 nb; have hz8 := hS.cell (w := w3.drew) x8 nb; have hz9 := hS.cell (w := w3.drew) x9 nb; have hz10 := hS.cell (w := w3.drew) x10 nb; go_simp; (try go_bits); (try with_reducible rfl))
            try simp only [Act.put, List.getElem_toArray, List.getElem_cons_zero, List.getElem_cons_succ, List.setIfInBounds_toArray, List.set_cons_zero, List.set_cons_succ]
            refine regL_take 8 (v := ?_) rfl (by kernel_rfl) (by kernel_rfl) (by kernel_rfl) (by kernel_rfl) (fun _ _ _ h => h) (by kernel_rfl) ?_ ?_
            rotate_left
            · (intro w' hS; go_simp; (try go_bits); (try with_reducible rfl))
            try simp only [Act.put, List.getElem_toArray, List.getElem_cons_zero, List.getElem_cons_succ, List.setIfInBounds_toArray, List.set_cons_zero, List.set_cons_succ]
            refine regL_take 9 (v := ?_) rfl (by kernel_rfl) (by kernel_rfl) (by kernel_rfl) (by kernel_rfl) (fun _ _ _ h => h) (by kernel_rfl) ?_ ?_
            rotate_left
            · (intro w' hS; have hz := hS.cell (w := w3.drew) x1 nb; go_simp; (try go_bits); (try with_reducible rfl))
            try simp only [Act.put, List.getElem_toArray, List.getElem_cons_zero, List.getElem_cons_succ, List.setIfInBounds_toArray, List.set_cons_zero, List.set_cons_succ]
            refine regL_do 5 rfl (by kernel_rfl) (by kernel_rfl) ?_
            intro K hK
            go_simp
            refine (hear_of HD3.out.t ⟨mk, mt, me, ms, ma, mb, mc, mf, mA, mn, mq⟩ now).mono ?_
            rintro e w5 ⟨rfl, c5, bs5, v5, h5, f5⟩
            have D5 := HD3.out.prog c5 h5 (fun x hx => .inl (f5 x hx))
            have x3e := c5.cell x3d nbp
            go_simp
            refine hK _ _ (c5.mono (fun k hk e => .inl e)) ?_
            clear hK K
            try simp only [Act.put, List.getElem_toArray, List.getElem_cons_zero, List.getElem_cons_succ, List.setIfInBounds_toArray, List.set_cons_zero, List.set_cons_succ]
            refine regL_do 10 rfl (by kernel_rfl) (by kernel_rfl) ?_
            intro K hK
            go_simp
            refine (rhear_any D5.r D5.b ⟨mk, mt, me, ms, ma, mb, mc, mf, mA, mn, mq⟩ now).mono ?_
            rintro e w6 ⟨vL6, vU6, rfl, h6, fL6, fU6, c6⟩
            have D6 := D5.ref c6 h6 fL6 fU6
            have x3f := c6.cell x3e nbr
            go_simp
            refine hK _ _ (c6.mono (fun k hk e => .inr e)) ?_
            clear hK K
            try simp only [Act.put, List.getElem_toArray, List.getElem_cons_zero, List.getElem_cons_succ, List.setIfInBounds_toArray, List.set_cons_zero, List.set_cons_succ]
            have w7e : True := trivial
            refine regL_take 11 (v := ?_) rfl (by kernel_rfl) (by kernel_rfl) (by kernel_rfl) (by kernel_rfl) (fun _ _ _ h => h) (by kernel_rfl) ?_ ?_
            rotate_left
            · (intro w' hS; go_simp; (try go_bits); (try with_reducible rfl))
            try simp only [Act.put, List.getElem_toArray, List.getElem_cons_zero, List.getElem_cons_succ, List.setIfInBounds_toArray, List.set_cons_zero, List.set_cons_succ]
            refine regL_last rfl (by kernel_rfl) (by kernel_rfl) ?_
            intro K hK
            go_simp
            refine hK _ _ ?_
            clear hK K
            try simp only [Act.put, List.getElem_toArray, List.getElem_cons_zero, List.getElem_cons_succ, List.setIfInBounds_toArray, List.set_cons_zero, List.set_cons_succ]
            refine wpAnyL_done (by kernel_rfl) ?_ _
            have D7 := D6
            all_goals
              have HD9 := Lib.hid D7.more
              have x3 := x3f
              have hul9 : us.length ≤ k + 1 := by omega
              clear D5 D6 D7 c5 c6 h5 h6 f5 fL6 fU6 jE x3d x3e x3f HD3 x0 x1 x2 x4 x5 x6 x7 x8 x9 x10 x11 hprl
              generalize (hearOf T ⟨mk, mt, me, ms, ma, mb, mc, mf, mA, mn, mq⟩ now).2 = T5 at *
              go_wp2_with (fail)
              refine (tfind_any HD9.out.t mt).mono ?_
              rintro e wA ⟨rfl, cA⟩
              have HDA := Lib.hid (HD9.out.pure cA)
              have x3 := cA.cell x3 (fun h => h)
              clear HD9 cA
              go_wp2_with (fail)
              refine (rfind_any HDA.out.r mt).mono ?_
              rintro e wB ⟨rfl, cB⟩
              have hDB := HDA.out.pure cB
              obtain ⟨qA, qL, hvL, hqL⟩ := hDB.r.val
              subst hvL
              have p3 := hDB.r.c3
              have HDB := Lib.hid hDB
              clear HDA cB x3 hDB
              generalize hL : (T5.L.length : Nat) = nL at *
              have HL := Lib.hid hL
              clear hL
              generalize (findOf T5.L mt).1 = ep at *
              generalize (findOf T5.L mt).2.1 = fo at *
              generalize (findOf T5.L mt).2.2 = th at *
              have j0 : (ep != ep) = false := by simp
              have j1 : (fo != fo) = false := by simp
              have j2 : (th != th) = false := by simp
              have j3 : ((nL : Int) != (nL : Int)) = false := by simp
              have n64 : nL ≤ 64 := by rw [← HL.out]; exact HDB.out.r.l64
              go_wp2_with (fail)
              refine reg_begin (Pure') (by kernel_rfl) ?_
              refine reg_take 0 (v := ?_) rfl (by kernel_rfl) (by kernel_rfl) (by kernel_rfl) (fun _ _ _ h => h) (by kernel_rfl) ?_ ?_
              rotate_left
              · (intro w' hS; go_simp; (try go_bits); (try with_reducible rfl))
              try simp only [Act.put, List.getElem_toArray, List.getElem_cons_zero, List.getElem_cons_succ, List.setIfInBounds_toArray, List.set_cons_zero, List.set_cons_succ]
              refine reg_take 1 (v := ?_) rfl (by kernel_rfl) (by kernel_rfl) (by kernel_rfl) (fun _ _ _ h => h) (by kernel_rfl) ?_ ?_
              rotate_left
              · (intro w' hS; go_simp; (try go_bits); (try with_reducible rfl))
              try simp only [Act.put, List.getElem_toArray, List.getElem_cons_zero, List.getElem_cons_succ, List.setIfInBounds_toArray, List.set_cons_zero, List.set_cons_succ]
              refine reg_take 2 (v := ?_) rfl (by kernel_rfl) (by kernel_rfl) (by kernel_rfl) (fun _ _ _ h => h) (by kernel_rfl) ?_ ?_
              rotate_left
              · (intro w' hS; go_simp; (try go_bits); (try with_reducible rfl))
              try simp only [Act.put, List.getElem_toArray, List.getElem_cons_zero, List.getElem_cons_succ, List.setIfInBounds_toArray, List.set_cons_zero, List.set_cons_succ]
              refine reg_take 3 (v := ?_) rfl (by kernel_rfl) (by kernel_rfl) (by kernel_rfl) (fun _ _ _ h => h) (by kernel_rfl) ?_ ?_
              rotate_left
              · (intro w' hS; go_simp; (try go_bits); (try with_reducible rfl))
              try simp only [Act.put, List.getElem_toArray, List.getElem_cons_zero, List.getElem_cons_succ, List.setIfInBounds_toArray, List.set_cons_zero, List.set_cons_succ]
              refine reg_take 4 (v := ?_) rfl (by kernel_rfl) (by kernel_rfl) (by kernel_rfl) (fun _ _ _ h => h) (by kernel_rfl) ?_ ?_
              rotate_left
              · (intro w' hS; go_simp; (try go_bits); (try with_reducible rfl))
              try simp only [Act.put, List.getElem_toArray, List.getElem_cons_zero, List.getElem_cons_succ, List.setIfInBounds_toArray, List.set_cons_zero, List.set_cons_succ]
              refine reg_take 5 (v := ?_) rfl (by kernel_rfl) (by kernel_rfl) (by kernel_rfl) (fun _ _ _ h => h) (by kernel_rfl) ?_ ?_
              rotate_left
              · (intro w' hS; go_simp; (try go_bits); (try with_reducible rfl))
              try simp only [Act.put, List.getElem_toArray, List.getElem_cons_zero, List.getElem_cons_succ, List.setIfInBounds_toArray, List.set_cons_zero, List.set_cons_succ]
              refine reg_take 6 (v := ?_) rfl (by kernel_rfl) (by kernel_rfl) (by kernel_rfl) (fun _ _ _ h => h) (by kernel_rfl) ?_ ?_
              rotate_left
              · (intro w' hS; go_simp; (try go_bits); (try with_reducible rfl))
              try simp only [Act.put, List.getElem_toArray, List.getElem_cons_zero, List.getElem_cons_succ, List.setIfInBounds_toArray, List.set_cons_zero, List.set_cons_succ]
              refine reg_take 7 (v := ?_) rfl (by kernel_rfl) (by kernel_rfl) (by kernel_rfl) (fun _ _ _ h => h) (by kernel_rfl) ?_ ?_
              rotate_left
              · (intro w' hS; go_simp; (try go_bits); (try with_reducible rfl))
              try simp only [Act.put, List.getElem_toArray, List.getElem_cons_zero, List.getElem_cons_succ, List.setIfInBounds_toArray, List.set_cons_zero, List.set_cons_succ]
              refine reg_take 8 (v := ?_) rfl (by kernel_rfl) (by kernel_rfl) (by kernel_rfl) (fun _ _ _ h => h) (by kernel_rfl) ?_ ?_
              rotate_left
              · (intro w' hS; go_simp; (try go_bits); (try with_reducible rfl))
              try simp only [Act.put, List.getElem_toArray, List.getElem_cons_zero, List.getElem_cons_succ, List.setIfInBounds_toArray, List.set_cons_zero, List.set_cons_succ]
              refine reg_take 9 (v := ?_) rfl (by kernel_rfl) (by kernel_rfl) (by kernel_rfl) (fun _ _ _ h => h) (by kernel_rfl) ?_ ?_
              rotate_left
              · (intro w' hS; go_simp; (try go_bits); (try with_reducible rfl))
              try simp only [Act.put, List.getElem_toArray, List.getElem_cons_zero, List.getElem_cons_succ, List.setIfInBounds_toArray, List.set_cons_zero, List.set_cons_succ]
              refine reg_take 10 (v := ?_) rfl (by kernel_rfl) (by kernel_rfl) (by kernel_rfl) (fun _ _ _ h => h) (by kernel_rfl) ?_ ?_
              rotate_left
              · (intro w' hS; go_simp; (try go_bits); (try with_reducible rfl))
              try simp only [Act.put, List.getElem_toArray, List.getElem_cons_zero, List.getElem_cons_succ, List.setIfInBounds_toArray, List.set_cons_zero, List.set_cons_succ]
              refine reg_take 11 (v := ?_) rfl (by kernel_rfl) (by kernel_rfl) (by kernel_rfl) (fun _ _ _ h => h) (by kernel_rfl) ?_ ?_
              rotate_left
              · (intro w' hS; go_simp; (try go_bits); (try with_reducible rfl))
              try simp only [Act.put, List.getElem_toArray, List.getElem_cons_zero, List.getElem_cons_succ, List.setIfInBounds_toArray, List.set_cons_zero, List.set_cons_succ]
              refine reg_take 12 (v := ?_) rfl (by kernel_rfl) (by kernel_rfl) (by kernel_rfl) (fun _ _ _ h => h) (by kernel_rfl) ?_ ?_
              rotate_left
              · (intro w' hS; go_simp; (try go_bits); (try with_reducible rfl))
              try simp only [Act.put, List.getElem_toArray, List.getElem_cons_zero, List.getElem_cons_succ, List.setIfInBounds_toArray, List.set_cons_zero, List.set_cons_succ]
              refine reg_take 13 (v := ?_) rfl (by kernel_rfl) (by kernel_rfl) (by kernel_rfl) (fun _ _ _ h => h) (by kernel_rfl) ?_ ?_
              rotate_left
              · (intro w' hS; go_simp; (try go_bits); (try with_reducible rfl))
              try simp only [Act.put, List.getElem_toArray, List.getElem_cons_zero, List.getElem_cons_succ, List.setIfInBounds_toArray, List.set_cons_zero, List.set_cons_succ]
              refine reg_take 14 (v := ?_) rfl (by kernel_rfl) (by kernel_rfl) (by kernel_rfl) (fun _ _ _ h => h) (by kernel_rfl) ?_ ?_
              rotate_left
              · (intro w' hS; go_simp; (try go_bits); (try with_reducible rfl))
              try simp only [Act.put, List.getElem_toArray, List.getElem_cons_zero, List.getElem_cons_succ, List.setIfInBounds_toArray, List.set_cons_zero, List.set_cons_succ]
              refine reg_take 15 (v := ?_) rfl (by kernel_rfl) (by kernel_rfl) (by kernel_rfl) (fun _ _ _ h => h) (by kernel_rfl) ?_ ?_
              rotate_left
              · (intro w' hS; go_simp; (try go_bits); (try with_reducible rfl))
              try simp only [Act.put, List.getElem_toArray, List.getElem_cons_zero, List.getElem_cons_succ, List.setIfInBounds_toArray, List.set_cons_zero, List.set_cons_succ]
              refine reg_take 16 (v := ?_) rfl (by kernel_rfl) (by kernel_rfl) (by kernel_rfl) (fun _ _ _ h => h) (by kernel_rfl) ?_ ?_
              rotate_left
              · (intro w' hS; go_simp; (try go_bits); (try with_reducible rfl))
              try simp only [Act.put, List.getElem_toArray, List.getElem_cons_zero, List.getElem_cons_succ, List.setIfInBounds_toArray, List.set_cons_zero, List.set_cons_succ]
              refine reg_take 17 (v := ?_) rfl (by kernel_rfl) (by kernel_rfl) (by kernel_rfl) (fun _ _ _ h => h) (by kernel_rfl) ?_ ?_
              rotate_left
              · (intro w' hS; go_simp; (try go_bits); (try with_reducible rfl))
              try simp only [Act.put, List.getElem_toArray, List.getElem_cons_zero, List.getElem_cons_succ, List.setIfInBounds_toArray, List.set_cons_zero, List.set_cons_succ]
              refine reg_take 18 (v := ?_) rfl (by kernel_rfl) (by kernel_rfl) (by kernel_rfl) (fun _ _ _ h => h) (by kernel_rfl) ?_ ?_
              rotate_left
              · (intro w' hS; go_simp; (try go_bits); (try with_reducible rfl))
              try simp only [Act.put, List.getElem_toArray, List.getElem_cons_zero, List.getElem_cons_succ, List.setIfInBounds_toArray, List.set_cons_zero, List.set_cons_succ]
              refine reg_take 20 (v := ?_) rfl (by kernel_rfl) (by kernel_rfl) (by kernel_rfl) (fun _ _ _ h => h) (by kernel_rfl) ?_ ?_
              rotate_left
              · (intro w' hS; go_simp; (try go_bits); (try with_reducible rfl))
              try simp only [Act.put, List.getElem_toArray, List.getElem_cons_zero, List.getElem_cons_succ, List.setIfInBounds_toArray, List.set_cons_zero, List.set_cons_succ]
              refine reg_take 21 (v := ?_) rfl (by kernel_rfl) (by kernel_rfl) (by kernel_rfl) (fun _ _ _ h => h) (by kernel_rfl) ?_ ?_
              rotate_left
              · (intro w' hS; have hz := hS.cell (w := wB.drew) p3 (fun h => h); go_simp; (try go_bits); (try with_reducible rfl))
              try simp only [Act.put, List.getElem_toArray, List.getElem_cons_zero, List.getElem_cons_succ, List.setIfInBounds_toArray, List.set_cons_zero, List.set_cons_succ]
              refine reg_take 22 (v := ?_) rfl (by kernel_rfl) (by kernel_rfl) (by kernel_rfl) (fun _ _ _ h => h) (by kernel_rfl) ?_ ?_
              rotate_left
              · (intro w' hS; go_simp; (try go_bits); (try with_reducible rfl))
              try simp only [Act.put, List.getElem_toArray, List.getElem_cons_zero, List.getElem_cons_succ, List.setIfInBounds_toArray, List.set_cons_zero, List.set_cons_succ]
              refine reg_do 19 rfl (by kernel_rfl) (by kernel_rfl) ?_
              intro K hK
              go_simp
              refine (tlive_any (HDB.out.t.pure (Chg.refl Pure' wB).drew)).mono ?_
              rintro e wC ⟨rfl, rfl⟩
              rw [HL.out]
              go_simp
              refine hK _ _ (Chg.refl _ _) ?_
              clear hK K
              try simp only [Act.put, List.getElem_toArray, List.getElem_cons_zero, List.getElem_cons_succ, List.setIfInBounds_toArray, List.set_cons_zero, List.set_cons_succ]
              refine reg_take 23 (v := ?_) rfl (by kernel_rfl) (by kernel_rfl) (by kernel_rfl) (fun _ _ _ h => h) (by kernel_rfl) ?_ ?_
              rotate_left
              · (intro w' hS; go_simp; (try go_bits); (try with_reducible rfl))
              try simp only [Act.put, List.getElem_toArray, List.getElem_cons_zero, List.getElem_cons_succ, List.setIfInBounds_toArray, List.set_cons_zero, List.set_cons_succ]
              refine reg_take 24 (v := ?_) rfl (by kernel_rfl) (by kernel_rfl) (by kernel_rfl) (fun _ _ _ h => h) (by kernel_rfl) ?_ ?_
              rotate_left
              · (intro w' hS; go_simp; (try go_bits); (try with_reducible rfl))
              try simp only [Act.put, List.getElem_toArray, List.getElem_cons_zero, List.getElem_cons_succ, List.setIfInBounds_toArray, List.set_cons_zero, List.set_cons_succ]
              refine wpAnyH_done (by kernel_rfl) ?_ _
              have HDC := Lib.hid (HDB.out.pure (Chg.refl Pure' wB).drew)
              clear HDB p3 n64
              go_wp2
              go_roundw
              case rel => exact ⟨k + 1, _, _, _, _, _, _, T5, us, by omega, by go_num, HDC, hul9⟩
              case measure => simp [intOf]; omega
          · go_wp2_with (fail)
            generalize (wr.alloc (.cells #[.int .i64 kind, .int .i64 now, .int .i64 mk, .int .u64 (mt.toNat : Int), .int .i64 me, .int .i64 ms, .int .i64 ma, .int .u64 (mb.toNat : Int), .int .i64 mc, .int .i64 mf, .slice mA mn mq, .int .u64 (d.toNat : Int)] 46)) = w3 at *
            generalize wr.heap.size = ab at *
            have D3 := HD.out.pure (Chg.refl Pure' w3).drew
            have x3d : w3.drew.cell? ⟨ab, 3, none⟩ = some (.int .u64 (mt.toNat : Int)) := x3
            have nbr : ¬ ab = pr := fun e => nb (.inr e)
            have nbp : ¬ TFoot p ub bs v ab := fun e => nb (.inl e)
            have hprl : pr < w3.drew.heap.size := D3.r.plt
            have jE : ((closeOf T d now).1 == (closeOf T d now).1) = true := by simp
            have HD3 := Lib.hid D3
            clear HD D3 hab
            refine regL_begin 12 (fun x => TFoot p ub bs v x ∨ x = pr) (by kernel_rfl) ?_
            refine regL_take 0 (v := ?_) rfl (by kernel_rfl) (by kernel_rfl) (by kernel_rfl) (by kernel_rfl) (fun _ _ _ h => h) (by kernel_rfl) ?_ ?_
            rotate_left
            · (intro w' hS; go_simp; (try go_bits); (try with_reducible rfl))
            try simp only [Act.put, List.getElem_toArray, List.getElem_cons_zero, List.getElem_cons_succ, List.setIfInBounds_toArray, List.set_cons_zero, List.set_cons_succ]
            refine regL_take 1 (v := ?_) rfl (by kernel_rfl) (by kernel_rfl) (by kernel_rfl) (by kernel_rfl) (fun _ _ _ h => h) (by kernel_rfl) ?_ ?_
            rotate_left
            · (intro w' hS; go_simp; (try go_bits); (try with_reducible rfl))
            try simp only [Act.put, List.getElem_toArray, List.getElem_cons_zero, List.getElem_cons_succ, List.setIfInBounds_toArray, List.set_cons_zero, List.set_cons_succ]
            refine regL_take 2 (v := ?_) rfl (by kernel_rfl) (by kernel_rfl) (by kernel_rfl) (by kernel_rfl) (fun _ _ _ h => h) (by kernel_rfl) ?_ ?_
            rotate_left
            · (intro w' hS; have hz := hS.cell (w := w3.drew) x11 nb; go_simp; (try go_bits); (try with_reducible rfl))
            try simp only [Act.put, List.getElem_toArray, List.getElem_cons_zero, List.getElem_cons_succ, List.setIfInBounds_toArray, List.set_cons_zero, List.set_cons_succ]
            refine regL_take 3 (v := ?_) rfl (by kernel_rfl) (by kernel_rfl) (by kernel_rfl) (by kernel_rfl) (fun _ _ _ h => h) (by kernel_rfl) ?_ ?_
            rotate_left
            · (intro w' hS; go_simp; (try go_bits); (try with_reducible rfl))
            try simp only [Act.put, List.getElem_toArray, List.getElem_cons_zero, List.getElem_cons_succ, List.setIfInBounds_toArray, List.set_cons_zero, List.set_cons_succ]
            refine regL_take 4 (v := ?_) rfl (by kernel_rfl) (by kernel_rfl) (by kernel_rfl) (by kernel_rfl) (fun _ _ _ h => h) (by kernel_rfl) ?_ ?_
            rotate_left
            · (intro w' hS; have hz := hS.cell (w := w3.drew) x1 nb; go_simp; (try go_bits); (try with_reducible rfl))
            try simp only [Act.put, List.getElem_toArray, List.getElem_cons_zero, List.getElem_cons_succ, List.setIfInBounds_toArray, List.set_cons_zero, List.set_cons_succ]
            refine regL_take 6 (v := ?_) rfl (by kernel_rfl) (by kernel_rfl) (by kernel_rfl) (by kernel_rfl) (fun _ _ _ h => h) (by kernel_rfl) ?_ ?_
            rotate_left
            · (intro w' hS; go_simp; (try go_bits); (try with_reducible rfl))
            try simp only [Act.put, List.getElem_toArray, List.getElem_cons_zero, List.getElem_cons_succ, List.setIfInBounds_toArray, List.set_cons_zero, List.set_cons_succ]
            refine regL_take 7 (v := ?_) rfl (by kernel_rfl) (by kernel_rfl) (by kernel_rfl) (by kernel_rfl) (fun _ _ _ h => h) (by kernel_rfl) ?_ ?_
            rotate_left
            · (intro w' hS; have hz := hS.cell (w := w3.drew) x11 nb; go_simp; (try go_bits); (try with_reducible rfl))
            try simp only [Act.put, List.getElem_toArray, List.getElem_cons_zero, List.getElem_cons_succ, List.setIfInBounds_toArray, List.set_cons_zero, List.set_cons_succ]
            refine regL_take 8 (v := ?_) rfl (by kernel_rfl) (by kernel_rfl) (by kernel_rfl) (by kernel_rfl) (fun _ _ _ h => h) (by kernel_rfl) ?_ ?_
            rotate_left
            · (intro w' hS; go_simp; (try go_bits); (try with_reducible rfl))
            try simp only [Act.put, List.getElem_toArray, List.getElem_cons_zero, List.getElem_cons_succ, List.setIfInBounds_toArray, List.set_cons_zero, List.set_cons_succ]
            refine regL_take 9 (v := ?_) rfl (by kernel_rfl) (by kernel_rfl) (by kernel_rfl) (by kernel_rfl) (fun _ _ _ h => h) (by kernel_rfl) ?_ ?_
            rotate_left
            · (intro w' hS; have hz := hS.cell (w := w3.drew) x1 nb; go_simp; (try go_bits); (try with_reducible rfl))
            try simp only [Act.put, List.getElem_toArray, List.getElem_cons_zero, List.getElem_cons_succ, List.setIfInBounds_toArray, List.set_cons_zero, List.set_cons_succ]
            refine regL_do 5 rfl (by kernel_rfl) (by kernel_rfl) ?_
            intro K hK
            go_simp
            refine (close_of HD3.out.t d now).mono ?_
            rintro e w5 ⟨rfl, c5, bs5, v5, h5, f5⟩
            have D5 := HD3.out.prog c5 h5 (fun x hx => .inl (f5 x hx))
            have x3e := c5.cell x3d nbp
            go_simp
            refine hK _ _ (c5.mono (fun k hk e => .inl e)) ?_
            clear hK K
            try simp only [Act.put, List.getElem_toArray, List.getElem_cons_zero, List.getElem_cons_succ, List.setIfInBounds_toArray, List.set_cons_zero, List.set_cons_succ]
            refine regL_do 10 rfl (by kernel_rfl) (by kernel_rfl) ?_
            intro K hK
            go_simp
            refine (rclose_any D5.r D5.b d now).mono ?_
            rintro e w6 ⟨vL6, vU6, rfl, h6, fL6, fU6, c6⟩
            have D6 := D5.ref c6 h6 fL6 fU6
            have x3f := c6.cell x3e nbr
            go_simp
            refine hK _ _ (c6.mono (fun k hk e => .inr e)) ?_
            clear hK K
            try simp only [Act.put, List.getElem_toArray, List.getElem_cons_zero, List.getElem_cons_succ, List.setIfInBounds_toArray, List.set_cons_zero, List.set_cons_succ]
            have w7e : True := trivial
            refine regL_take 11 (v := ?_) rfl (by kernel_rfl) (by kernel_rfl) (by kernel_rfl) (by kernel_rfl) (fun _ _ _ h => h) (by kernel_rfl) ?_ ?_
            rotate_left
            · (intro w' hS; go_simp; (try go_bits); (try with_reducible rfl))
            try simp only [Act.put, List.getElem_toArray, List.getElem_cons_zero, List.getElem_cons_succ, List.setIfInBounds_toArray, List.set_cons_zero, List.set_cons_succ]
            refine regL_last rfl (by kernel_rfl) (by kernel_rfl) ?_
            intro K hK
            go_simp
            refine hK _ _ ?_
            clear hK K
            try simp only [Act.put, List.getElem_toArray, List.getElem_cons_zero, List.getElem_cons_succ, List.setIfInBounds_toArray, List.set_cons_zero, List.set_cons_succ]
            refine wpAnyL_done (by kernel_rfl) ?_ _
            have D7 := D6
            all_goals
              have HD9 := Lib.hid D7.more
              have x3 := x3f
              have hul9 : us.length ≤ k + 1 := by omega
              clear D5 D6 D7 c5 c6 h5 h6 f5 fL6 fU6 jE x3d x3e x3f HD3 x0 x1 x2 x4 x5 x6 x7 x8 x9 x10 x11 hprl
              generalize (closeOf T d now).2 = T5 at *
              go_wp2_with (fail)
              refine (tfind_any HD9.out.t mt).mono ?_
              rintro e wA ⟨rfl, cA⟩
              have HDA := Lib.hid (HD9.out.pure cA)
              have x3 := cA.cell x3 (fun h => h)
              clear HD9 cA
              go_wp2_with (fail)
              refine (rfind_any HDA.out.r mt).mono ?_
              rintro e wB ⟨rfl, cB⟩
              have hDB := HDA.out.pure cB
              obtain ⟨qA, qL, hvL, hqL⟩ := hDB.r.val
              subst hvL
              have p3 := hDB.r.c3
              have HDB := Lib.hid hDB
              clear HDA cB x3 hDB
              generalize hL : (T5.L.length : Nat) = nL at *
              have HL := Lib.hid hL
              clear hL
              generalize (findOf T5.L mt).1 = ep at *
              generalize (findOf T5.L mt).2.1 = fo at *
              generalize (findOf T5.L mt).2.2 = th at *
              have j0 : (ep != ep) = false := by simp
              have j1 : (fo != fo) = false := by simp
              have j2 : (th != th) = false := by simp
              have j3 : ((nL : Int) != (nL : Int)) = false := by simp
              have n64 : nL ≤ 64 := by rw [← HL.out]; exact HDB.out.r.l64
              go_wp2_with (fail)
              refine reg_begin (Pure') (by kernel_rfl) ?_
              refine reg_take 0 (v := ?_) rfl (by kernel_rfl) (by kernel_rfl) (by kernel_rfl) (fun _ _ _ h => h) (by kernel_rfl) ?_ ?_
              rotate_left
              · (intro w' hS; go_simp; (try go_bits); (try with_reducible rfl))
              try simp only [Act.put, List.getElem_toArray, List.getElem_cons_zero, List.getElem_cons_succ, List.setIfInBounds_toArray, List.set_cons_zero, List.set_cons_succ]
              refine reg_take 1 (v := ?_) rfl (by kernel_rfl) (by kernel_rfl) (by kernel_rfl) (fun _ _ _ h => h) (by kernel_rfl) ?_ ?_
              rotate_left
              · (intro w' hS; go_simp; (try go_bits); (try with_reducible rfl))
              try simp only [Act.put, List.getElem_toArray, List.getElem_cons_zero, List.getElem_cons_succ, List.setIfInBounds_toArray, List.set_cons_zero, List.set_cons_succ]
              refine reg_take 2 (v := ?_) rfl (by kernel_rfl) (by kernel_rfl) (by kernel_rfl) (fun _ _ _ h => h) (by kernel_rfl) ?_ ?_
              rotate_left
              · (intro w' hS; go_simp; (try go_bits); (try with_reducible rfl))
              try simp only [Act.put, List.getElem_toArray, List.getElem_cons_zero, List.getElem_cons_succ, List.setIfInBounds_toArray, List.set_cons_zero, List.set_cons_succ]
              refine reg_take 3 (v := ?_) rfl (by kernel_rfl) (by kernel_rfl) (by kernel_rfl) (fun _ _ _ h => h) (by kernel_rfl) ?_ ?_
              rotate_left
              · (intro w' hS; go_simp; (try go_bits); (try with_reducible rfl))
              try simp only [Act.put, List.getElem_toArray, List.getElem_cons_zero, List.getElem_cons_succ, List.setIfInBounds_toArray, List.set_cons_zero, List.set_cons_succ]
              refine reg_take 4 (v := ?_) rfl (by kernel_rfl) (by kernel_rfl) (by kernel_rfl) (fun _ _ _ h => h) (by kernel_rfl) ?_ ?_
              rotate_left
              · (intro w' hS; go_simp; (try go_bits); (try with_reducible rfl))
              try simp only [Act.put, List.getElem_toArray, List.getElem_cons_zero, List.getElem_cons_succ, List.setIfInBounds_toArray, List.set_cons_zero, List.set_cons_succ]
              refine reg_take 5 (v := ?_) rfl (by kernel_rfl) (by kernel_rfl) (by kernel_rfl) (fun _ _ _ h => h) (by kernel_rfl) ?_ ?_
              rotate_left
              · (intro w' hS; go_simp; (try go_bits); (try with_reducible rfl))
              try simp only [Act.put, List.getElem_toArray, List.getElem_cons_zero, List.getElem_cons_succ, List.setIfInBounds_toArray, List.set_cons_zero, List.set_cons_succ]
              refine reg_take 6 (v := ?_) rfl (by kernel_rfl) (by kernel_rfl) (by kernel_rfl) (fun _ _ _ h => h) (by kernel_rfl) ?_ ?_
              rotate_left
              · (intro w' hS; go_simp; (try go_bits); (try with_reducible rfl))
              try simp only [Act.put, List.getElem_toArray, List.getElem_cons_zero, List.getElem_cons_succ, List.setIfInBounds_toArray, List.set_cons_zero, List.set_cons_succ]
              refine reg_take 7 (v := ?_) rfl (by kernel_rfl) (by kernel_rfl) (by kernel_rfl) (fun _ _ _ h => h) (by kernel_rfl) ?_ ?_
              rotate_left
              · (intro w' hS; go_simp; (try go_bits); (try with_reducible rfl))
              try simp only [Act.put, List.getElem_toArray, List.getElem_cons_zero, List.getElem_cons_succ, List.setIfInBounds_toArray, List.set_cons_zero, List.set_cons_succ]
              refine reg_take 8 (v := ?_) rfl (by kernel_rfl) (by kernel_rfl) (by kernel_rfl) (fun _ _ _ h => h) (by kernel_rfl) ?_ ?_
              rotate_left
              · (intro w' hS; go_simp; (try go_bits); (try with_reducible rfl))
              try simp only [Act.put, List.getElem_toArray, List.getElem_cons_zero, List.getElem_cons_succ, List.setIfInBounds_toArray, List.set_cons_zero, List.set_cons_succ]
              refine reg_take 9 (v := ?_) rfl (by kernel_rfl) (by kernel_rfl) (by kernel_rfl) (fun _ _ _ h => h) (by kernel_rfl) ?_ ?_
              rotate_left
              · (intro w' hS; go_simp; (try go_bits); (try with_reducible rfl))
              try simp only [Act.put, List.getElem_toArray, List.getElem_cons_zero, List.getElem_cons_succ, List.setIfInBounds_toArray, List.set_cons_zero, List.set_cons_succ]
              refine reg_take 10 (v := ?_) rfl (by kernel_rfl) (by kernel_rfl) (by kernel_rfl) (fun _ _ _ h => h) (by kernel_rfl) ?_ ?_
              rotate_left
              · (intro w' hS; go_simp; (try go_bits); (try with_reducible rfl))
              try simp only [Act.put, List.getElem_toArray, List.getElem_cons_zero, List.getElem_cons_succ, List.setIfInBounds_toArray, List.set_cons_zero, List.set_cons_succ]
              refine reg_take 11 (v := ?_) rfl (by kernel_rfl) (by kernel_rfl) (by kernel_rfl) (fun _ _ _ h => h) (by kernel_rfl) ?_ ?_
              rotate_left
              · (intro w' hS; go_simp; (try go_bits); (try with_reducible rfl))
              try simp only [Act.put, List.getElem_toArray, List.getElem_cons_zero, List.getElem_cons_succ, List.setIfInBounds_toArray, List.set_cons_zero, List.set_cons_succ]
              refine reg_take 12 (v := ?_) rfl (by kernel_rfl) (by kernel_rfl) (by kernel_rfl) (fun _ _ _ h => h) (by kernel_rfl) ?_ ?_
              rotate_left
              · (intro w' hS; go_simp; (try go_bits); (try with_reducible rfl))
              try simp only [Act.put, List.getElem_toArray, List.getElem_cons_zero, List.getElem_cons_succ, List.setIfInBounds_toArray, List.set_cons_zero, List.set_cons_succ]
              refine reg_take 13 (v := ?_) rfl (by kernel_rfl) (by kernel_rfl) (by kernel_rfl) (fun _ _ _ h => h) (by kernel_rfl) ?_ ?_
              rotate_left
              · (intro w' hS; go_simp; (try go_bits); (try with_reducible rfl))
              try simp only [Act.put, List.getElem_toArray, List.getElem_cons_zero, List.getElem_cons_succ, List.setIfInBounds_toArray, List.set_cons_zero, List.set_cons_succ]
              refine reg_take 14 (v := ?_) rfl (by kernel_rfl) (by kernel_rfl) (by kernel_rfl) (fun _ _ _ h => h) (by kernel_rfl) ?_ ?_
              rotate_left
              · (intro w' hS; go_simp; (try go_bits); (try with_reducible rfl))
              try simp only [Act.put, List.getElem_toArray, List.getElem_cons_zero, List.getElem_cons_succ, List.setIfInBounds_toArray, List.set_cons_zero, List.set_cons_succ]
              refine reg_take 15 (v := ?_) rfl (by kernel_rfl) (by kernel_rfl) (by kernel_rfl) (fun _ _ _ h => h) (by kernel_rfl) ?_ ?_
              rotate_left
              · (intro w' hS; go_simp; (try go_bits); (try with_reducible rfl))
              try simp only [Act.put, List.getElem_toArray, List.getElem_cons_zero, List.getElem_cons_succ, List.setIfInBounds_toArray, List.set_cons_zero, List.set_cons_succ]
              refine reg_take 16 (v := ?_) rfl (by kernel_rfl) (by kernel_rfl) (by kernel_rfl) (fun _ _ _ h => h) (by kernel_rfl) ?_ ?_
              rotate_left
              · (intro w' hS; go_simp; (try go_bits); (try with_reducible rfl))
              try simp only [Act.put, List.getElem_toArray, List.getElem_cons_zero, List.getElem_cons_succ, List.setIfInBounds_toArray, List.set_cons_zero, List.set_cons_succ]
              refine reg_take 17 (v := ?_) rfl (by kernel_rfl) (by kernel_rfl) (by kernel_rfl) (fun _ _ _ h => h) (by kernel_rfl) ?_ ?_
              rotate_left
              · (intro w' hS; go_simp; (try go_bits); (try with_reducible rfl))
              try simp only [Act.put, List.getElem_toArray, List.getElem_cons_zero, List.getElem_cons_succ, List.setIfInBounds_toArray, List.set_cons_zero, List.set_cons_succ]
              refine reg_take 18 (v := ?_) rfl (by kernel_rfl) (by kernel_rfl) (by kernel_rfl) (fun _ _ _ h => h) (by kernel_rfl) ?_ ?_
              rotate_left
              · (intro w' hS; go_simp; (try go_bits); (try with_reducible rfl))
              try simp only [Act.put, List.getElem_toArray, List.getElem_cons_zero, List.getElem_cons_succ, List.setIfInBounds_toArray, List.set_cons_zero, List.set_cons_succ]
              refine reg_take 20 (v := ?_) rfl (by kernel_rfl) (by kernel_rfl) (by kernel_rfl) (fun _ _ _ h => h) (by kernel_rfl) ?_ ?_
              rotate_left
              · (intro w' hS; go_simp; (try go_bits); (try with_reducible rfl))
              try simp only [Act.put, List.getElem_toArray, List.getElem_cons_zero, List.getElem_cons_succ, List.setIfInBounds_toArray, List.set_cons_zero, List.set_cons_succ]
              refine reg_take 21 (v := ?_) rfl (by kernel_rfl) (by kernel_rfl) (by kernel_rfl) (fun _ _ _ h => h) (by kernel_rfl) ?_ ?_
              rotate_left
              · (intro w' hS; have hz := hS.cell (w := wB.drew) p3 (fun h => h); go_simp; (try go_bits); (try with_reducible rfl))
              try simp only [Act.put, List.getElem_toArray, List.getElem_cons_zero, List.getElem_cons_succ, List.setIfInBounds_toArray, List.set_cons_zero, List.set_cons_succ]
              refine reg_take 22 (v := ?_) rfl (by kernel_rfl) (by kernel_rfl) (by kernel_rfl) (fun _ _ _ h => h) (by kernel_rfl) ?_ ?_
              rotate_left
              · (intro w' hS; go_simp; (try go_bits); (try with_reducible rfl))
              try simp only [Act.put, List.getElem_toArray, List.getElem_cons_zero, List.getElem_cons_succ, List.setIfInBounds_toArray, List.set_cons_zero, List.set_cons_succ]
              refine reg_do 19 rfl (by kernel_rfl) (by kernel_rfl) ?_
              intro K hK
              go_simp
              refine (tlive_any (HDB.out.t.pure (Chg.refl Pure' wB).drew)).mono ?_
              rintro e wC ⟨rfl, rfl⟩
              rw [HL.out]
              go_simp
              refine hK _ _ (Chg.refl _ _) ?_
              clear hK K
              try simp only [Act.put, List.getElem_toArray, List.getElem_cons_zero, List.getElem_cons_succ, List.setIfInBounds_toArray, List.set_cons_zero, List.set_cons_succ]
              refine reg_take 23 (v := ?_) rfl (by kernel_rfl) (by kernel_rfl) (by kernel_rfl) (fun _ _ _ h => h) (by kernel_rfl) ?_ ?_
              rotate_left
              · (intro w' hS; go_simp; (try go_bits); (try with_reducible rfl))
              try simp only [Act.put, List.getElem_toArray, List.getElem_cons_zero, List.getElem_cons_succ, List.setIfInBounds_toArray, List.set_cons_zero, List.set_cons_succ]
              refine reg_take 24 (v := ?_) rfl (by kernel_rfl) (by kernel_rfl) (by kernel_rfl) (fun _ _ _ h => h) (by kernel_rfl) ?_ ?_
              rotate_left
              · (intro w' hS; go_simp; (try go_bits); (try with_reducible rfl))
              try simp only [Act.put, List.getElem_toArray, List.getElem_cons_zero, List.getElem_cons_succ, List.setIfInBounds_toArray, List.set_cons_zero, List.set_cons_succ]
              refine wpAnyH_done (by kernel_rfl) ?_ _
              have HDC := Lib.hid (HDB.out.pure (Chg.refl Pure' wB).drew)
              clear HDB p3 n64
              go_wp2
              go_roundw
              case rel => exact ⟨k + 1, _, _, _, _, _, _, T5, us, by omega, by go_num, HDC, hul9⟩
              case measure => simp [intOf]; omega
          · go_wp2_with (fail)
            generalize (wr.alloc (.cells #[.int .i64 kind, .int .i64 now, .int .i64 mk, .int .u64 (mt.toNat : Int), .int .i64 me, .int .i64 ms, .int .i64 ma, .int .u64 (mb.toNat : Int), .int .i64 mc, .int .i64 mf, .slice mA mn mq, .int .u64 (d.toNat : Int)] 46)) = w3 at *
            generalize wr.heap.size = ab at *
            have D3 := HD.out.pure (Chg.refl Pure' w3).drew
            have x3d : w3.drew.cell? ⟨ab, 3, none⟩ = some (.int .u64 (mt.toNat : Int)) := x3
            have nbr : ¬ ab = pr := fun e => nb (.inr e)
            have nbp : ¬ TFoot p ub bs v ab := fun e => nb (.inl e)
            have hprl : pr < w3.drew.heap.size := D3.r.plt
            have hl64 : (tickE T now).length ≤ 64 := by unfold tickE; rw [List.length_map]; exact Nat.le_trans (List.length_filter_le _ _) D3.r.l64
            have HD3 := Lib.hid D3
            clear HD D3 hab
            refine regL_begin 8 (fun x => TFoot p ub bs v x ∨ x = pr) (by kernel_rfl) ?_
            refine regL_take 0 (v := ?_) rfl (by kernel_rfl) (by kernel_rfl) (by kernel_rfl) (by kernel_rfl) (fun _ _ _ h => h) (by kernel_rfl) ?_ ?_
            rotate_left
            · (intro w' hS; go_simp; (try go_bits); (try with_reducible rfl))
            try simp only [Act.put, List.getElem_toArray, List.getElem_cons_zero, List.getElem_cons_succ, List.setIfInBounds_toArray, List.set_cons_zero, List.set_cons_succ]
            refine regL_take 1 (v := ?_) rfl (by kernel_rfl) (by kernel_rfl) (by kernel_rfl) (by kernel_rfl) (fun _ _ _ h => h) (by kernel_rfl) ?_ ?_
            rotate_left
            · (intro w' hS; go_simp; (try go_bits); (try with_reducible rfl))
            try simp only [Act.put, List.getElem_toArray, List.getElem_cons_zero, List.getElem_cons_succ, List.setIfInBounds_toArray, List.set_cons_zero, List.set_cons_succ]
            refine regL_take 2 (v := ?_) rfl (by kernel_rfl) (by kernel_rfl) (by kernel_rfl) (by kernel_rfl) (fun _ _ _ h => h) (by kernel_rfl) ?_ ?_
            rotate_left
            · (intro w' hS; have hz := hS.cell (w := w3.drew) x1 nb; go_simp; (try go_bits); (try with_reducible rfl))
            try simp only [Act.put, List.getElem_toArray, List.getElem_cons_zero, List.getElem_cons_succ, List.setIfInBounds_toArray, List.set_cons_zero, List.set_cons_succ]
            refine regL_take 4 (v := ?_) rfl (by kernel_rfl) (by kernel_rfl) (by kernel_rfl) (by kernel_rfl) (fun _ _ _ h => h) (by kernel_rfl) ?_ ?_
            rotate_left
            · (intro w' hS; go_simp; (try go_bits); (try with_reducible rfl))
            try simp only [Act.put, List.getElem_toArray, List.getElem_cons_zero, List.getElem_cons_succ, List.setIfInBounds_toArray, List.set_cons_zero, List.set_cons_succ]
            refine regL_take 5 (v := ?_) rfl (by kernel_rfl) (by kernel_rfl) (by kernel_rfl) (by kernel_rfl) (fun _ _ _ h => h) (by kernel_rfl) ?_ ?_
            rotate_left
            · (intro w' hS; have hz := hS.cell (w := w3.drew) x1 nb; go_simp; (try go_bits); (try with_reducible rfl))
            try simp only [Act.put, List.getElem_toArray, List.getElem_cons_zero, List.getElem_cons_succ, List.setIfInBounds_toArray, List.set_cons_zero, List.set_cons_succ]
            refine regL_do 3 rfl (by kernel_rfl) (by kernel_rfl) ?_
            intro K hK
            go_simp
            refine (tick_of HD3.out.t now).mono ?_
            rintro e w5 ⟨ve, rfl, hve, c5, bs5, v5, h5, f5⟩
            obtain ⟨Ae, qe, rfl, -⟩ := own_slice hve
            have D5 := HD3.out.prog c5 h5 (fun x hx => .inl (f5 x hx))
            have x3e := c5.cell x3d nbp
            go_simp
            refine hK _ _ (c5.mono (fun k hk e => .inl e)) ?_
            clear hK K
            try simp only [Act.put, List.getElem_toArray, List.getElem_cons_zero, List.getElem_cons_succ, List.setIfInBounds_toArray, List.set_cons_zero, List.set_cons_succ]
            refine regL_do 6 rfl (by kernel_rfl) (by kernel_rfl) ?_
            intro K hK
            go_simp
            refine (rtick_any D5.r D5.b now).mono ?_
            rintro e w6 ⟨vr, vL6, rfl, hvr, h6, fL6, c6⟩
            obtain ⟨Ar, qr, rfl, -⟩ := own_slice hvr
            have D6 := D5.ref c6 h6 (fun x hx => hx.imp id (fun h => fL6 x h)) (fun x hx => .inl hx)
            have x3f := c6.cell x3e nbr
            go_simp
            refine hK _ _ (c6.mono (fun k hk e => .inr e)) ?_
            clear hK K
            try simp only [Act.put, List.getElem_toArray, List.getElem_cons_zero, List.getElem_cons_succ, List.setIfInBounds_toArray, List.set_cons_zero, List.set_cons_succ]
            have hve := own_keep hve c6 (fun g hg e => by have := (hve.lt g hg).1; omega)
            refine regL_do 7 rfl (by kernel_rfl) (by kernel_rfl) ?_
            intro K hK
            go_simp
            refine (rwords_same hve hvr hl64).mono ?_
            rintro e w7 ⟨rfl, c7⟩
            have D7 := D6.pure c7
            have x3f := c7.cell x3f (fun h => h)
            go_simp
            refine hK _ _ (c7.of_pure) ?_
            clear hK K
            try simp only [Act.put, List.getElem_toArray, List.getElem_cons_zero, List.getElem_cons_succ, List.setIfInBounds_toArray, List.set_cons_zero, List.set_cons_succ]
            refine regL_last rfl (by kernel_rfl) (by kernel_rfl) ?_
            intro K hK
            go_simp
            refine hK _ _ ?_
            clear hK K
            try simp only [Act.put, List.getElem_toArray, List.getElem_cons_zero, List.getElem_cons_succ, List.setIfInBounds_toArray, List.set_cons_zero, List.set_cons_succ]
            refine wpAnyL_done (by kernel_rfl) ?_ _
            all_goals
              have HD9 := Lib.hid D7.more
              have x3 := x3f
              have hul9 : us.length ≤ k + 1 := by omega
              clear D5 D6 D7 c5 c6 h5 h6 f5 fL6 c7 hve hvr hl64 x3d x3e x3f HD3 x0 x1 x2 x4 x5 x6 x7 x8 x9 x10 x11 hprl
              generalize (tickT T now) = T5 at *
              go_wp2_with (fail)
              refine (tfind_any HD9.out.t mt).mono ?_
              rintro e wA ⟨rfl, cA⟩
              have HDA := Lib.hid (HD9.out.pure cA)
              have x3 := cA.cell x3 (fun h => h)
              clear HD9 cA
              go_wp2_with (fail)
              refine (rfind_any HDA.out.r mt).mono ?_
              rintro e wB ⟨rfl, cB⟩
              have hDB := HDA.out.pure cB
              obtain ⟨qA, qL, hvL, hqL⟩ := hDB.r.val
              subst hvL
              have p3 := hDB.r.c3
              have HDB := Lib.hid hDB
              clear HDA cB x3 hDB
              generalize hL : (T5.L.length : Nat) = nL at *
              have HL := Lib.hid hL
              clear hL
              generalize (findOf T5.L mt).1 = ep at *
              generalize (findOf T5.L mt).2.1 = fo at *
              generalize (findOf T5.L mt).2.2 = th at *
              have j0 : (ep != ep) = false := by simp
              have j1 : (fo != fo) = false := by simp
              have j2 : (th != th) = false := by simp
              have j3 : ((nL : Int) != (nL : Int)) = false := by simp
              have n64 : nL ≤ 64 := by rw [← HL.out]; exact HDB.out.r.l64
              go_wp2_with (fail)
              refine reg_begin (Pure') (by kernel_rfl) ?_
              refine reg_take 0 (v := ?_) rfl (by kernel_rfl) (by kernel_rfl) (by kernel_rfl) (fun _ _ _ h => h) (by kernel_rfl) ?_ ?_
              rotate_left
              · (intro w' hS; go_simp; (try go_bits); (try with_reducible rfl))
              try simp only [Act.put, List.getElem_toArray, List.getElem_cons_zero, List.getElem_cons_succ, List.setIfInBounds_toArray, List.set_cons_zero, List.set_cons_succ]
              refine reg_take 1 (v := ?_) rfl (by kernel_rfl) (by kernel_rfl) (by kernel_rfl) (fun _ _ _ h => h) (by kernel_rfl) ?_ ?_
              rotate_left
              · (intro w' hS; go_simp; (try go_bits); (try with_reducible rfl))
              try simp only [Act.put, List.getElem_toArray, List.getElem_cons_zero, List.getElem_cons_succ, List.setIfInBounds_toArray, List.set_cons_zero, List.set_cons_succ]
              refine reg_take 2 (v := ?_) rfl (by kernel_rfl) (by kernel_rfl) (by kernel_rfl) (fun _ _ _ h => h) (by kernel_rfl) ?_ ?_
              rotate_left
              · (intro w' hS; go_simp; (try go_bits); (try with_reducible rfl))
              try simp only [Act.put, List.getElem_toArray, List.getElem_cons_zero, List.getElem_cons_succ, List.setIfInBounds_toArray, List.set_cons_zero, List.set_cons_succ]
              refine reg_take 3 (v := ?_) rfl (by kernel_rfl) (by kernel_rfl) (by kernel_rfl) (fun _ _ _ h => h) (by kernel_rfl) ?_ ?_
              rotate_left
              · (intro w' hS; go_simp; (try go_bits); (try with_reducible rfl))
              try simp only [Act.put, List.getElem_toArray, List.getElem_cons_zero, List.getElem_cons_succ, List.setIfInBounds_toArray, List.set_cons_zero, List.set_cons_succ]
              refine reg_take 4 (v := ?_) rfl (by kernel_rfl) (by kernel_rfl) (by kernel_rfl) (fun _ _ _ h => h) (by kernel_rfl) ?_ ?_
              rotate_left
              · (intro w' hS; go_simp; (try go_bits); (try with_reducible rfl))
              try simp only [Act.put, List.getElem_toArray, List.getElem_cons_zero, List.getElem_cons_succ, List.setIfInBounds_toArray, List.set_cons_zero, List.set_cons_succ]
              refine reg_take 5 (v := ?_) rfl (by kernel_rfl) (by kernel_rfl) (by kernel_rfl) (fun _ _ _ h => h) (by kernel_rfl) ?_ ?_
              rotate_left
              · (intro w' hS; go_simp; (try go_bits); (try with_reducible rfl))
              try simp only [Act.put, List.getElem_toArray, List.getElem_cons_zero, List.getElem_cons_succ, List.setIfInBounds_toArray, List.set_cons_zero, List.set_cons_succ]
              refine reg_take 6 (v := ?_) rfl (by kernel_rfl) (by kernel_rfl) (by kernel_rfl) (fun _ _ _ h => h) (by kernel_rfl) ?_ ?_
              rotate_left
              · (intro w' hS; go_simp; (try go_bits); (try with_reducible rfl))
              try simp only [Act.put, List.getElem_toArray, List.getElem_cons_zero, List.getElem_cons_succ, List.setIfInBounds_toArray, List.set_cons_zero, List.set_cons_succ]
              refine reg_take 7 (v := ?_) rfl (by kernel_rfl) (by kernel_rfl) (by kernel_rfl) (fun _ _ _ h => h) (by kernel_rfl) ?_ ?_
              rotate_left
              · (intro w' hS; go_simp; (try go_bits); (try with_reducible rfl))
              try simp only [Act.put, List.getElem_toArray, List.getElem_cons_zero, List.getElem_cons_succ, List.setIfInBounds_toArray, List.set_cons_zero, List.set_cons_succ]
              refine reg_take 8 (v := ?_) rfl (by kernel_rfl) (by kernel_rfl) (by kernel_rfl) (fun _ _ _ h => h) (by kernel_rfl) ?_ ?_
              rotate_left
              · (intro w' hS; go_simp; (try go_bits); (try with_reducible rfl))
              try simp only [Act.put, List.getElem_toArray, List.getElem_cons_zero, List.getElem_cons_succ, List.setIfInBounds_toArray, List.set_cons_zero, List.set_cons_succ]
              refine reg_take 9 (v := ?_) rfl (by kernel_rfl) (by kernel_rfl) (by kernel_rfl) (fun _ _ _ h => h) (by kernel_rfl) ?_ ?_
              rotate_left
              · (intro w' hS; go_simp; (try go_bits); (try with_reducible rfl))
              try simp only [Act.put, List.getElem_toArray, List.getElem_cons_zero, List.getElem_cons_succ, List.setIfInBounds_toArray, List.set_cons_zero, List.set_cons_succ]
              refine reg_take 10 (v := ?_) rfl (by kernel_rfl) (by kernel_rfl) (by kernel_rfl) (fun _ _ _ h => h) (by kernel_rfl) ?_ ?_
              rotate_left
              · (intro w' hS; go_simp; (try go_bits); (try with_reducible rfl))
              try simp only [Act.put, List.getElem_toArray, List.getElem_cons_zero, List.getElem_cons_succ, List.setIfInBounds_toArray, List.set_cons_zero, List.set_cons_succ]
              refine reg_take 11 (v := ?_) rfl (by kernel_rfl) (by kernel_rfl) (by kernel_rfl) (fun _ _ _ h => h) (by kernel_rfl) ?_ ?_
              rotate_left
              · (intro w' hS; go_simp; (try go_bits); (try with_reducible rfl))
              try simp only [Act.put, List.getElem_toArray, List.getElem_cons_zero, List.getElem_cons_succ, List.setIfInBounds_toArray, List.set_cons_zero, List.set_cons_succ]
              refine reg_take 12 (v := ?_) rfl (by kernel_rfl) (by kernel_rfl) (by kernel_rfl) (fun _ _ _ h => h) (by kernel_rfl) ?_ ?_
              rotate_left
              · (intro w' hS; go_simp; (try go_bits); (try with_reducible rfl))
              try simp only [Act.put, List.getElem_toArray, List.getElem_cons_zero, List.getElem_cons_succ, List.setIfInBounds_toArray, List.set_cons_zero, List.set_cons_succ]
              refine reg_take 13 (v := ?_) rfl (by kernel_rfl) (by kernel_rfl) (by kernel_rfl) (fun _ _ _ h => h) (by kernel_rfl) ?_ ?_
              rotate_left
              · (intro w' hS; go_simp; (try go_bits); (try with_reducible rfl))
              try simp only [Act.put, List.getElem_toArray, List.getElem_cons_zero, List.getElem_cons_succ, List.setIfInBounds_toArray, List.set_cons_zero, List.set_cons_succ]
              refine reg_take 14 (v := ?_) rfl (by kernel_rfl) (by kernel_rfl) (by kernel_rfl) (fun _ _ _ h => h) (by kernel_rfl) ?_ ?_
              rotate_left
              · (intro w' hS; go_simp; (try go_bits); (try with_reducible rfl))
              try simp only [Act.put, List.getElem_toArray, List.getElem_cons_zero, List.getElem_cons_succ, List.setIfInBounds_toArray, List.set_cons_zero, List.set_cons_succ]
              refine reg_take 15 (v := ?_) rfl (by kernel_rfl) (by kernel_rfl) (by kernel_rfl) (fun _ _ _ h => h) (by kernel_rfl) ?_ ?_
              rotate_left
              · (intro w' hS; go_simp; (try go_bits); (try with_reducible rfl))
              try simp only [Act.put, List.getElem_toArray, List.getElem_cons_zero, List.getElem_cons_succ, List.setIfInBounds_toArray, List.set_cons_zero, List.set_cons_succ]
              refine reg_take 16 (v := ?_) rfl (by kernel_rfl) (by kernel_rfl) (by kernel_rfl) (fun _ _ _ h => h) (by kernel_rfl) ?_ ?_
              rotate_left
              · (intro w' hS; go_simp; (try go_bits); (try with_reducible rfl))
              try simp only [Act.put, List.getElem_toArray, List.getElem_cons_zero, List.getElem_cons_succ, List.setIfInBounds_toArray, List.set_cons_zero, List.set_cons_succ]
              refine reg_take 17 (v := ?_) rfl (by kernel_rfl) (by kernel_rfl) (by kernel_rfl) (fun _ _ _ h => h) (by kernel_rfl) ?_ ?_
              rotate_left
              · (intro w' hS; go_simp; (try go_bits); (try with_reducible rfl))
              try simp only [Act.put, List.getElem_toArray, List.getElem_cons_zero, List.getElem_cons_succ, List.setIfInBounds_toArray, List.set_cons_zero, List.set_cons_succ]
              refine reg_take 18 (v := ?_) rfl (by kernel_rfl) (by kernel_rfl) (by kernel_rfl) (fun _ _ _ h => h) (by kernel_rfl) ?_ ?_
              rotate_left
              · (intro w' hS; go_simp; (try go_bits); (try with_reducible rfl))
              try simp only [Act.put, List.getElem_toArray, List.getElem_cons_zero, List.getElem_cons_succ, List.setIfInBounds_toArray, List.set_cons_zero, List.set_cons_succ]
              refine reg_take 20 (v := ?_) rfl (by kernel_rfl) (by kernel_rfl) (by kernel_rfl) (fun _ _ _ h => h) (by kernel_rfl) ?_ ?_
              rotate_left
              · (intro w' hS; go_simp; (try go_bits); (try with_reducible rfl))
              try simp only [Act.put, List.getElem_toArray, List.getElem_cons_zero, List.getElem_cons_succ, List.setIfInBounds_toArray, List.set_cons_zero, List.set_cons_succ]
              refine reg_take 21 (v := ?_) rfl (by kernel_rfl) (by kernel_rfl) (by kernel_rfl) (fun _ _ _ h => h) (by kernel_rfl) ?_ ?_
              rotate_left
              · (intro w' hS; have hz := hS.cell (w := wB.drew) p3 (fun h => h); go_simp; (try go_bits); (try with_reducible rfl))
              try simp only [Act.put, List.getElem_toArray, List.getElem_cons_zero, List.getElem_cons_succ, List.setIfInBounds_toArray, List.set_cons_zero, List.set_cons_succ]
              refine reg_take 22 (v := ?_) rfl (by kernel_rfl) (by kernel_rfl) (by kernel_rfl) (fun _ _ _ h => h) (by kernel_rfl) ?_ ?_
              rotate_left
              · (intro w' hS; go_simp; (try go_bits); (try with_reducible rfl))
              try simp only [Act.put, List.getElem_toArray, List.getElem_cons_zero, List.getElem_cons_succ, List.setIfInBounds_toArray, List.set_cons_zero, List.set_cons_succ]
              refine reg_do 19 rfl (by kernel_rfl) (by kernel_rfl) ?_
              intro K hK
              go_simp
              refine (tlive_any (HDB.out.t.pure (Chg.refl Pure' wB).drew)).mono ?_
              rintro e wC ⟨rfl, rfl⟩
              rw [HL.out]
              go_simp
              refine hK _ _ (Chg.refl _ _) ?_
              clear hK K
              try simp only [Act.put, List.getElem_toArray, List.getElem_cons_zero, List.getElem_cons_succ, List.setIfInBounds_toArray, List.set_cons_zero, List.set_cons_succ]
              refine reg_take 23 (v := ?_) rfl (by kernel_rfl) (by kernel_rfl) (by kernel_rfl) (fun _ _ _ h => h) (by kernel_rfl) ?_ ?_
              rotate_left
              · (intro w' hS; go_simp; (try go_bits); (try with_reducible rfl))
              try simp only [Act.put, List.getElem_toArray, List.getElem_cons_zero, List.getElem_cons_succ, List.setIfInBounds_toArray, List.set_cons_zero, List.set_cons_succ]
              refine reg_take 24 (v := ?_) rfl (by kernel_rfl) (by kernel_rfl) (by kernel_rfl) (fun _ _ _ h => h) (by kernel_rfl) ?_ ?_
              rotate_left
              · (intro w' hS; go_simp; (try go_bits); (try with_reducible rfl))
              try simp only [Act.put, List.getElem_toArray, List.getElem_cons_zero, List.getElem_cons_succ, List.setIfInBounds_toArray, List.set_cons_zero, List.set_cons_succ]
              refine wpAnyH_done (by kernel_rfl) ?_ _
              have HDC := Lib.hid (HDB.out.pure (Chg.refl Pure' wB).drew)
              clear HDB p3 n64
              go_wp2
              go_roundw
              case rel => exact ⟨k + 1, _, _, _, _, _, _, T5, us, by omega, by go_num, HDC, hul9⟩
              case measure => simp [intOf]; omega
      · have hkn : ((k : Int) < (n : Int)) = False := eq_false (by omega)
        go_wp2
        go_ret
        exact ⟨rfl, HD.out.c⟩
end Go.Proofs.Ytpfnphkgmjgmeaa
