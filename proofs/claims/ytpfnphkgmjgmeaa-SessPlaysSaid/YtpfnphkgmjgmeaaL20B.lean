/- The laws of layer 20: scripts, and SessBounds. -/
import Derived.Test.YtpfnphkgmjgmeaaL20P
namespace Go.Proofs.Ytpfnphkgmjgmeaa
open Go Go.RowKit
set_option linter.unusedVariables false
set_option linter.unusedSimpArgs false

/-- One call of a script. -/
structure Act20 where
  kind : Int
  now : Int
  m : Mg
  d : UInt64
def Act20.cells (a : Act20) : List Value := [.int .i64 a.kind, .int .i64 a.now, .int .i64 a.m.kind, .int .u64 (a.m.token.toNat : Int), .int .i64 a.m.epoch, .int .i64 a.m.seq, .int .i64 a.m.ack, .int .u64 (a.m.bits.toNat : Int), .int .i64 a.m.credit, .int .i64 a.m.format, .slice a.m.A a.m.n a.m.c, .int .u64 (a.d.toNat : Int)]
/-- A script that came in. -/
structure Acts20 (w : World) (A : Option Addr) (n : Nat) (acts : List Act20) : Prop where
  len : acts.length = n
  cells : 0 < n → ∃ b off, A = some ⟨b, off, none⟩ ∧ b < w.heap.size ∧ ∀ j (h : j < acts.length) c u, ((acts[j]'h).cells)[c]? = some u → w.cell? ⟨b, off + j * 12 + c, none⟩ = some u
theorem and3_20 (a : Int) : bits .and .i64 a 3 = 0 ∨ bits .and .i64 a 3 = 1 ∨ bits .and .i64 a 3 = 2 ∨ bits .and .i64 a 3 = 3 := by
  have e : bits .and .i64 a 3 = IntKind.i64.wrap ((BitVec.ofInt 64 a &&& BitVec.ofInt 64 3).toNat : Int) := rfl
  have h : (BitVec.ofInt 64 a &&& BitVec.ofInt 64 3).toNat ≤ 3 := by
    rw [BitVec.toNat_and]
    exact Nat.le_trans Nat.and_le_right (by decide)
  rw [e, IntKind.wrap_i64]
  omega
theorem most_hello (T : Tb) (m : Mg) (d : UInt64) (now : Int) : (helloOf T m d now).2.most = T.most := by
  unfold helloOf; split
  · rfl
  · split
    · split <;> rfl
    · split <;> rfl
theorem most_close (T : Tb) (tk : UInt64) (now : Int) : (closeOf T tk now).2.most = T.most := by unfold closeOf; split <;> rfl
theorem most_hear (T : Tb) (m : Mg) (now : Int) : (hearOf T m now).2.most = T.most := by
  unfold hearOf; split
  · rfl
  · split
    · rfl
    · split
      · rfl
      · split
        · exact most_close _ _ _
        · rfl
set_option maxRecDepth 100000 in
set_option maxHeartbeats 8000000 in
theorem law_SessBounds (a0 a1 : Int) (A : Option Addr) (n c : Nat) (acts : List Act20) (w : World) (ha0 : -9223372036854775808 ≤ a0 ∧ a0 ≤ 9223372036854775807) (ha1 : -9223372036854775808 ≤ a1 ∧ a1 ≤ 9223372036854775807) (hA : Acts20 w A n acts) (hn : n ≤ 140737488351232) :
    Calls Try.prog 5 #[.int .i64 a0, .int .i64 a1, .slice A n c] w fun e w' => e = .returned (.bool true) ∧ Chg Pure' w w' := by
  by_cases hbad : a0 < 1 ∨ 64 < a0 ∨ a1 < 1 ∨ 1048576 < a1
  · go_enter Try.func5, Try.ntmps5
    go_wp2_with (fail)
    refine (tnew_bad _ _ _ hbad).mono ?_
    rintro e w1 ⟨rfl, rfl⟩
    go_wp2_with (fail)
    refine (alive20 _).mono ?_
    rintro e w2 ⟨rfl, hg⟩
    go_wp2
    go_ret
    exact ⟨rfl, hg⟩
  · obtain ⟨most, rfl⟩ : ∃ m : Nat, a0 = m := ⟨a0.toNat, by omega⟩
    obtain ⟨idle, rfl⟩ : ∃ m : Nat, a1 = m := ⟨a1.toNat, by omega⟩
    have h1 : 1 ≤ most := by omega
    have h2 : most ≤ 64 := by omega
    have h3 : 1 ≤ idle := by omega
    have h4 : idle ≤ 1048576 := by omega
    have hz := zero_msg20
    clear hbad ha0 ha1
    go_enter Try.func5, Try.ntmps5
    go_wp2_with (fail)
    refine (ownt_new most idle _ h1 h2 h3 h4).mono ?_
    rintro e w1 ⟨rfl, s1⟩
    go_wp2_with (fail)
    refine (alive20 _).mono ?_
    rintro e w2 ⟨rfl, c2⟩
    obtain ⟨ub0, bs0, v0, t2, f2, C2⟩ := s1.pure c2
    clear s1 c2
    have T2 := Lib.hid t2
    have F2 := Lib.hid f2
    have G2 := Lib.hid (Good.new most idle)
    clear t2 f2
    generalize hp : w.heap.size + 1 = p at *
    go_wp2_with (fail)
    go_loopw [38] (fun i wr => ∃ (k ub : Nat) (bs : List Nat) (v : Value) (T : Tb), k ≤ n ∧ i = .int .i64 k ∧ Hid (T.most = most) ∧ Hid (TabOf wr p ub bs v T k) ∧ Hid (∀ k, TFoot p ub bs v k → w.heap.size ≤ k) ∧ Hid (Good T) ∧ Chg Pure' w wr) (fun i _ => n - (intOf i).toNat)
    case atStart => exact ⟨0, ub0, bs0, v0, _, Nat.zero_le _, rfl, Lib.hid rfl, T2, F2, G2, C2⟩
    case round =>
      clear T2 F2 G2 C2
      obtain ⟨k, ub, bs, v, T, hk, rfl, hmo, HT, HF, HG, hC⟩ := hrel
      by_cases hlt : k < n
      · obtain ⟨b, off, rfl, hbl, hcell⟩ := hA.cells (by omega)
        have hkx : k < acts.length := by have := hA.len; omega
        have hcl := fun c u h => hC.cell (hcell k hkx c u h) (fun h => h)
        clear hcell
        generalize acts[k] = act at hcl
        obtain ⟨kind, now, ⟨mk, mt, me, ms, ma, mb, mc, mf, mA, mn, mq⟩, d⟩ := act
        have e0 := hcl 0 _ rfl
        have e1 := hcl 1 _ rfl
        have e2 := hcl 2 _ rfl
        have e3 := hcl 3 _ rfl
        have e4 := hcl 4 _ rfl
        have e5 := hcl 5 _ rfl
        have e6 := hcl 6 _ rfl
        have e7 := hcl 7 _ rfl
        have e8 := hcl 8 _ rfl
        have e9 := hcl 9 _ rfl
        have e10 := hcl 10 _ rfl
        have e11 := hcl 11 _ rfl
        rw [Nat.add_zero] at e0
        simp only at e0 e1 e2 e3 e4 e5 e6 e7 e8 e9 e10 e11
        have ca : Chg Pure' wr (wr.alloc (.cells #[.int .i64 kind, .int .i64 now, .int .i64 mk, .int .u64 (mt.toNat : Int), .int .i64 me, .int .i64 ms, .int .i64 ma, .int .u64 (mb.toNat : Int), .int .i64 mc, .int .i64 mf, .slice mA mn mq, .int .u64 (d.toNat : Int)] 46)) := (Chg.refl _ wr).alloc _
        have x0 : (wr.alloc (.cells #[.int .i64 kind, .int .i64 now, .int .i64 mk, .int .u64 (mt.toNat : Int), .int .i64 me, .int .i64 ms, .int .i64 ma, .int .u64 (mb.toNat : Int), .int .i64 mc, .int .i64 mf, .slice mA mn mq, .int .u64 (d.toNat : Int)] 46)).cell? ⟨wr.heap.size, 0, none⟩ = some (.int .i64 kind) := cellAt_alloc_lit wr _ _ 0
        have x1 : (wr.alloc (.cells #[.int .i64 kind, .int .i64 now, .int .i64 mk, .int .u64 (mt.toNat : Int), .int .i64 me, .int .i64 ms, .int .i64 ma, .int .u64 (mb.toNat : Int), .int .i64 mc, .int .i64 mf, .slice mA mn mq, .int .u64 (d.toNat : Int)] 46)).cell? ⟨wr.heap.size, 1, none⟩ = some (.int .i64 now) := cellAt_alloc_lit wr _ _ 1
        have x2 : (wr.alloc (.cells #[.int .i64 kind, .int .i64 now, .int .i64 mk, .int .u64 (mt.toNat : Int), .int .i64 me, .int .i64 ms, .int .i64 ma, .int .u64 (mb.toNat : Int), .int .i64 mc, .int .i64 mf, .slice mA mn mq, .int .u64 (d.toNat : Int)] 46)).cell? ⟨wr.heap.size, 2, none⟩ = some (.int .i64 mk) := cellAt_alloc_lit wr _ _ 2
        have x3 : (wr.alloc (.cells #[.int .i64 kind, .int .i64 now, .int .i64 mk, .int .u64 (mt.toNat : Int), .int .i64 me, .int .i64 ms, .int .i64 ma, .int .u64 (mb.toNat : Int), .int .i64 mc, .int .i64 mf, .slice mA mn mq, .int .u64 (d.toNat : Int)] 46)).cell? ⟨wr.heap.size, 3, none⟩ = some (.int .u64 (mt.toNat : Int)) := cellAt_alloc_lit wr _ _ 3
        have x4 : (wr.alloc (.cells #[.int .i64 kind, .int .i64 now, .int .i64 mk, .int .u64 (mt.toNat : Int), .int .i64 me, .int .i64 ms, .int .i64 ma, .int .u64 (mb.toNat : Int), .int .i64 mc, .int .i64 mf, .slice mA mn mq, .int .u64 (d.toNat : Int)] 46)).cell? ⟨wr.heap.size, 4, none⟩ = some (.int .i64 me) := cellAt_alloc_lit wr _ _ 4
        have x5 : (wr.alloc (.cells #[.int .i64 kind, .int .i64 now, .int .i64 mk, .int .u64 (mt.toNat : Int), .int .i64 me, .int .i64 ms, .int .i64 ma, .int .u64 (mb.toNat : Int), .int .i64 mc, .int .i64 mf, .slice mA mn mq, .int .u64 (d.toNat : Int)] 46)).cell? ⟨wr.heap.size, 5, none⟩ = some (.int .i64 ms) := cellAt_alloc_lit wr _ _ 5
        have x6 : (wr.alloc (.cells #[.int .i64 kind, .int .i64 now, .int .i64 mk, .int .u64 (mt.toNat : Int), .int .i64 me, .int .i64 ms, .int .i64 ma, .int .u64 (mb.toNat : Int), .int .i64 mc, .int .i64 mf, .slice mA mn mq, .int .u64 (d.toNat : Int)] 46)).cell? ⟨wr.heap.size, 6, none⟩ = some (.int .i64 ma) := cellAt_alloc_lit wr _ _ 6
        have x7 : (wr.alloc (.cells #[.int .i64 kind, .int .i64 now, .int .i64 mk, .int .u64 (mt.toNat : Int), .int .i64 me, .int .i64 ms, .int .i64 ma, .int .u64 (mb.toNat : Int), .int .i64 mc, .int .i64 mf, .slice mA mn mq, .int .u64 (d.toNat : Int)] 46)).cell? ⟨wr.heap.size, 7, none⟩ = some (.int .u64 (mb.toNat : Int)) := cellAt_alloc_lit wr _ _ 7
        have x8 : (wr.alloc (.cells #[.int .i64 kind, .int .i64 now, .int .i64 mk, .int .u64 (mt.toNat : Int), .int .i64 me, .int .i64 ms, .int .i64 ma, .int .u64 (mb.toNat : Int), .int .i64 mc, .int .i64 mf, .slice mA mn mq, .int .u64 (d.toNat : Int)] 46)).cell? ⟨wr.heap.size, 8, none⟩ = some (.int .i64 mc) := cellAt_alloc_lit wr _ _ 8
        have x9 : (wr.alloc (.cells #[.int .i64 kind, .int .i64 now, .int .i64 mk, .int .u64 (mt.toNat : Int), .int .i64 me, .int .i64 ms, .int .i64 ma, .int .u64 (mb.toNat : Int), .int .i64 mc, .int .i64 mf, .slice mA mn mq, .int .u64 (d.toNat : Int)] 46)).cell? ⟨wr.heap.size, 9, none⟩ = some (.int .i64 mf) := cellAt_alloc_lit wr _ _ 9
        have x10 : (wr.alloc (.cells #[.int .i64 kind, .int .i64 now, .int .i64 mk, .int .u64 (mt.toNat : Int), .int .i64 me, .int .i64 ms, .int .i64 ma, .int .u64 (mb.toNat : Int), .int .i64 mc, .int .i64 mf, .slice mA mn mq, .int .u64 (d.toNat : Int)] 46)).cell? ⟨wr.heap.size, 10, none⟩ = some (.slice mA mn mq) := cellAt_alloc_lit wr _ _ 10
        have x11 : (wr.alloc (.cells #[.int .i64 kind, .int .i64 now, .int .i64 mk, .int .u64 (mt.toNat : Int), .int .i64 me, .int .i64 ms, .int .i64 ma, .int .u64 (mb.toNat : Int), .int .i64 mc, .int .i64 mf, .slice mA mn mq, .int .u64 (d.toNat : Int)] 46)).cell? ⟨wr.heap.size, 11, none⟩ = some (.int .u64 (d.toNat : Int)) := cellAt_alloc_lit wr _ _ 11
        have nb : ¬ TFoot p ub bs v wr.heap.size := fun e => by have := HT.out.flt e; omega
        have T3 := Lib.hid (HT.out.pure ca)
        have C3 := hC.pure ca
        clear hcl hA
        go_wp2_with (fail)
        generalize (wr.alloc (.cells #[.int .i64 kind, .int .i64 now, .int .i64 mk, .int .u64 (mt.toNat : Int), .int .i64 me, .int .i64 ms, .int .i64 ma, .int .u64 (mb.toNat : Int), .int .i64 mc, .int .i64 mf, .slice mA mn mq, .int .u64 (d.toNat : Int)] 46)) = w3 at *
        generalize wr.heap.size = ab at *
        clear e0 e1 e2 e3 e4 e5 e6 e7 e8 e9 e10 e11
        refine (tfind_any T3.out mt).mono ?_
        rintro e w4 ⟨rfl, c4⟩
        have x0 := c4.cell x0 (fun h => h)
        have x1 := c4.cell x1 (fun h => h)
        have x2 := c4.cell x2 (fun h => h)
        have x3 := c4.cell x3 (fun h => h)
        have x4 := c4.cell x4 (fun h => h)
        have x5 := c4.cell x5 (fun h => h)
        have x6 := c4.cell x6 (fun h => h)
        have x7 := c4.cell x7 (fun h => h)
        have x8 := c4.cell x8 (fun h => h)
        have x9 := c4.cell x9 (fun h => h)
        have x10 := c4.cell x10 (fun h => h)
        have x11 := c4.cell x11 (fun h => h)
        have T4 := Lib.hid (T3.out.pure c4)
        have C4 := C3.pure c4
        clear T3 C3 c4 ca
        have hep := findOf_le T4.out.ep mt
        have hab : ab < w4.heap.size := World.block_lt_of_cell? w4 _ x0
        have HFE := Lib.hid (show ∀ L', Of L' T.L → (findOf L' mt).2.2 = true → (findOf T.L mt).2.2 = true ∧ (findOf L' mt).1 = (findOf T.L mt).1 from fun L' h1 h2 => h1.find HG.out.nd h2)
        rcases and3_20 kind with hk0 | hk1
        · -- Hello
          have HS := Lib.hid (hello_says HG.out ⟨mk, mt, me, ms, ma, mb, mc, mf, mA, mn, mq⟩ d now)
          have hG5 := HG.out.hello ⟨mk, mt, me, ms, ma, mb, mc, mf, mA, mn, mq⟩ d now
          have hM5 := (most_hello T ⟨mk, mt, me, ms, ma, mb, mc, mf, mA, mn, mq⟩ d now).trans hmo.out
          generalize (findOf T.L mt).1 = ep at *
          generalize (findOf T.L mt).2.1 = fo at *
          generalize (findOf T.L mt).2.2 = th at *
          go_wp2_with (fail)
          refine (hello_of T4.out ⟨mk, mt, me, ms, ma, mb, mc, mf, mA, mn, mq⟩ d now (by omega)).mono ?_
          rintro e w5 ⟨rfl, c5, bs5, v5, h5, f5⟩
          generalize helloOf T ⟨mk, mt, me, ms, ma, mb, mc, mf, mA, mn, mq⟩ d now = R at *
          obtain ⟨⟨r, E⟩, T5⟩ := R
          obtain ⟨rk, rt, re, rs, ra, rb, rc, rf, rA, rn, rq⟩ := r
          simp only at HS hG5 hM5 h5 ⊢
          rw [Mg.val_eq]
          have x0 := c5.cell x0 nb
          have x1 := c5.cell x1 nb
          have x3 := c5.cell x3 nb
          have cb : Chg Pure' w5 (w5.alloc (.cells #[.int .i64 rk, .int .u64 (rt.toNat : Int), .int .i64 re, .int .i64 rs, .int .i64 ra, .int .u64 (rb.toNat : Int), .int .i64 rc, .int .i64 rf, .slice rA rn rq] 32)) := (Chg.refl _ w5).alloc _
          have y0 : (w5.alloc (.cells #[.int .i64 rk, .int .u64 (rt.toNat : Int), .int .i64 re, .int .i64 rs, .int .i64 ra, .int .u64 (rb.toNat : Int), .int .i64 rc, .int .i64 rf, .slice rA rn rq] 32)).cell? ⟨w5.heap.size, 0, none⟩ = some (.int .i64 rk) := cellAt_alloc_lit w5 _ _ 0
          have y2 : (w5.alloc (.cells #[.int .i64 rk, .int .u64 (rt.toNat : Int), .int .i64 re, .int .i64 rs, .int .i64 ra, .int .u64 (rb.toNat : Int), .int .i64 rc, .int .i64 rf, .slice rA rn rq] 32)).cell? ⟨w5.heap.size, 2, none⟩ = some (.int .i64 re) := cellAt_alloc_lit w5 _ _ 2
          have x0 := cb.cell x0 (fun h => h)
          have x1 := cb.cell x1 (fun h => h)
          have x3 := cb.cell x3 (fun h => h)
          have T6 := Lib.hid (h5.pure cb)
          have C6 := (C4.trans c5 (fun i hi e => by have := HF.out i e; omega)).pure cb
          have F6 : Hid (∀ k, TFoot p ub bs5 v5 k → w.heap.size ≤ k) := Lib.hid (fun k hk => (f5 k hk).elim (fun h => HF.out k h) (fun h => by have := C4.size; omega))
          have HM6 := Lib.hid hM5
          have HG6 := Lib.hid hG5
          clear x2 x4 x5 x6 x7 x8 x9 x10 x11 T4 C4 c5 h5 f5 hG5 hM5 cb
          have hsay := HS.out
          clear HS
          by_cases hE : E = 0
          · obtain ⟨g1, g2, g3⟩ := hsay.1 hE
            have i1 : (E == 0) = true := by rw [beq_iff_eq]; exact hE
            have i2 : (E != 0) = false := by rw [bne_eq_false_iff_eq]; exact hE
            have i3 : (rk != 4) = false := by rw [bne_eq_false_iff_eq]; exact g1
            clear hE hsay g1
            by_cases hm0 : mt = 0
            · have i4 : ((mt.toNat : Int) != 0) = false := by rw [hm0]; rfl
              have i5 : ((mt.toNat : Int) == 0) = true := by rw [hm0]; rfl
              have i6 : (re != 1) = false := by rw [bne_eq_false_iff_eq]; exact g3 hm0
              clear g2 g3 hm0
              go_wp2_with (fail)
              generalize (w5.alloc (.cells #[.int .i64 rk, .int .u64 (rt.toNat : Int), .int .i64 re, .int .i64 rs, .int .i64 ra, .int .u64 (rb.toNat : Int), .int .i64 rc, .int .i64 rf, .slice rA rn rq] 32)) = w6 at *
              refine (tfind_any T6.out mt).mono ?_
              rintro e w7 ⟨rfl, c7⟩
              have x0 := c7.cell x0 (fun h => h)
              have T7 := Lib.hid (T6.out.pure c7)
              have C7 := C6.pure c7
              clear T6 C6 c7
              have hlm : (T5.L.length : Int) ≤ (most : Int) := by have := T7.out.lm; have := HM6.out; omega
              go_wp2_with (fail)
              refine (tlive_any T7.out).mono ?_
              rintro e w' ⟨rfl, rfl⟩
              go_wp2_with (fail)
              refine (tlive_any T7.out).mono ?_
              rintro e w' ⟨rfl, rfl⟩
              go_wp2
              go_roundw
              case rel => exact ⟨k + 1, ub, bs5, v5, T5, by omega, by go_num, HM6, T7, F6, HG6, C7⟩
              case measure => simp [intOf]; omega
            · have i4 : ((mt.toNat : Int) != 0) = true := by
                rw [bne_iff_ne]
                exact fun e => hm0 (UInt64.toNat_inj.1 (by simpa using e))
              have i5 : ((mt.toNat : Int) == 0) = false := by
                rw [beq_eq_false_iff_ne]
                exact fun e => hm0 (UInt64.toNat_inj.1 (by simpa using e))
              have i6 : (re != ep + 1) = false := by rw [bne_eq_false_iff_eq]; exact g2 hm0
              clear g2 g3 hm0
              go_wp2_with (fail)
              generalize (w5.alloc (.cells #[.int .i64 rk, .int .u64 (rt.toNat : Int), .int .i64 re, .int .i64 rs, .int .i64 ra, .int .u64 (rb.toNat : Int), .int .i64 rc, .int .i64 rf, .slice rA rn rq] 32)) = w6 at *
              refine (tfind_any T6.out mt).mono ?_
              rintro e w7 ⟨rfl, c7⟩
              have x0 := c7.cell x0 (fun h => h)
              have T7 := Lib.hid (T6.out.pure c7)
              have C7 := C6.pure c7
              clear T6 C6 c7
              have hlm : (T5.L.length : Int) ≤ (most : Int) := by have := T7.out.lm; have := HM6.out; omega
              go_wp2_with (fail)
              refine (tlive_any T7.out).mono ?_
              rintro e w' ⟨rfl, rfl⟩
              go_wp2_with (fail)
              refine (tlive_any T7.out).mono ?_
              rintro e w' ⟨rfl, rfl⟩
              go_wp2
              go_roundw
              case rel => exact ⟨k + 1, ub, bs5, v5, T5, by omega, by go_num, HM6, T7, F6, HG6, C7⟩
              case measure => simp [intOf]; omega
          · have g1 := hsay.2 hE
            have i1 : (E == 0) = false := by rw [beq_eq_false_iff_ne]; exact hE
            have i2 : (E != 0) = true := by rw [bne_iff_ne]; exact hE
            have i3 : (rk != 5) = false := by rw [bne_eq_false_iff_eq]; exact g1
            clear hE hsay g1
            go_wp2_with (fail)
            generalize (w5.alloc (.cells #[.int .i64 rk, .int .u64 (rt.toNat : Int), .int .i64 re, .int .i64 rs, .int .i64 ra, .int .u64 (rb.toNat : Int), .int .i64 rc, .int .i64 rf, .slice rA rn rq] 32)) = w6 at *
            refine (tfind_any T6.out mt).mono ?_
            rintro e w7 ⟨rfl, c7⟩
            have x0 := c7.cell x0 (fun h => h)
            have T7 := Lib.hid (T6.out.pure c7)
            have C7 := C6.pure c7
            clear T6 C6 c7
            have hlm : (T5.L.length : Int) ≤ (most : Int) := by have := T7.out.lm; have := HM6.out; omega
            go_wp2_with (fail)
            refine (tlive_any T7.out).mono ?_
            rintro e w' ⟨rfl, rfl⟩
            go_wp2_with (fail)
            refine (tlive_any T7.out).mono ?_
            rintro e w' ⟨rfl, rfl⟩
            go_wp2
            go_roundw
            case rel => exact ⟨k + 1, ub, bs5, v5, T5, by omega, by go_num, HM6, T7, F6, HG6, C7⟩
            case measure => simp [intOf]; omega
        · rcases hk1 with hk1 | hk1 | hk1
          · have hof := hear_sub T ⟨mk, mt, me, ms, ma, mb, mc, mf, mA, mn, mq⟩ now
            have hG5 := HG.out.hear ⟨mk, mt, me, ms, ma, mb, mc, mf, mA, mn, mq⟩ now
            have hM5 := (most_hear T ⟨mk, mt, me, ms, ma, mb, mc, mf, mA, mn, mq⟩ now).trans hmo.out
            go_wp2_with (fail)
            refine (hear_of T4.out ⟨mk, mt, me, ms, ma, mb, mc, mf, mA, mn, mq⟩ now).mono ?_
            rintro e w5 ⟨rfl, c5, bs5, v5, h5, f5⟩
            have x3' := c5.cell x3 nb
            have x3 := x3'
            have x0 := c5.cell x0 nb
            have h5 := h5.more
            have C5 := C4.trans c5 (fun i hi e => by have := HF.out i e; omega)
            have F6 : Hid (∀ k, TFoot p ub bs5 v5 k → w.heap.size ≤ k) := Lib.hid (fun k hk => HF.out k (f5 k hk))
            have hfe := HFE.out _ hof
            have HM6 := Lib.hid hM5
            have HG6 := Lib.hid hG5
            generalize hT5 : (hearOf T ⟨mk, mt, me, ms, ma, mb, mc, mf, mA, mn, mq⟩ now).2 = T5 at *
            have H5 := Lib.hid h5
            clear hT5 x1 x2 x3' x4 x5 x6 x7 x8 x9 x10 x11 T4 C4 c5 h5 f5 hG5 hM5 hof
            go_wp2_with (fail)
            refine (tfind_any H5.out mt).mono ?_
            rintro e w7 ⟨rfl, c7⟩
            have x0 := c7.cell x0 (fun h => h)
            have T7 := Lib.hid (H5.out.pure c7)
            have C7 := C5.pure c7
            clear H5 C5 c7
            generalize (findOf T.L mt).1 = ep at *
            generalize (findOf T.L mt).2.1 = fo at *
            generalize (findOf T.L mt).2.2 = th at *
            generalize (findOf T5.L mt).1 = ep2 at *
            generalize (findOf T5.L mt).2.1 = fo2 at *
            generalize (findOf T5.L mt).2.2 = th2 at *
            cases th2 with
            | false =>
              clear hfe
              have hlm : (T5.L.length : Int) ≤ (most : Int) := by have := T7.out.lm; have := HM6.out; omega
              go_wp2_with (fail)
              refine (tlive_any T7.out).mono ?_
              rintro e w' ⟨rfl, rfl⟩
              go_wp2_with (fail)
              refine (tlive_any T7.out).mono ?_
              rintro e w' ⟨rfl, rfl⟩
              go_wp2
              go_roundw
              case rel => exact ⟨k + 1, ub, bs5, v5, T5, by omega, by go_num, HM6, T7, F6, HG6, C7⟩
              case measure => simp [intOf]; omega
            | true =>
              obtain ⟨rfl, rfl⟩ := hfe rfl
              have hlm : (T5.L.length : Int) ≤ (most : Int) := by have := T7.out.lm; have := HM6.out; omega
              go_wp2_with (fail)
              refine (tlive_any T7.out).mono ?_
              rintro e w' ⟨rfl, rfl⟩
              go_wp2_with (fail)
              refine (tlive_any T7.out).mono ?_
              rintro e w' ⟨rfl, rfl⟩
              go_wp2
              go_roundw
              case rel => exact ⟨k + 1, ub, bs5, v5, T5, by omega, by go_num, HM6, T7, F6, HG6, C7⟩
              case measure => simp [intOf]; omega
          · have hof := close_sub T d now
            have hG5 := HG.out.close d now
            have hM5 := (most_close T d now).trans hmo.out
            go_wp2_with (fail)
            refine (close_of T4.out d now).mono ?_
            rintro e w5 ⟨rfl, c5, bs5, v5, h5, f5⟩
            have x3' := c5.cell x3 nb
            have x3 := x3'
            have x0 := c5.cell x0 nb
            have h5 := h5.more
            have C5 := C4.trans c5 (fun i hi e => by have := HF.out i e; omega)
            have F6 : Hid (∀ k, TFoot p ub bs5 v5 k → w.heap.size ≤ k) := Lib.hid (fun k hk => HF.out k (f5 k hk))
            have hfe := HFE.out _ hof
            have HM6 := Lib.hid hM5
            have HG6 := Lib.hid hG5
            generalize hT5 : (closeOf T d now).2 = T5 at *
            have H5 := Lib.hid h5
            clear hT5 x1 x2 x3' x4 x5 x6 x7 x8 x9 x10 x11 T4 C4 c5 h5 f5 hG5 hM5 hof
            go_wp2_with (fail)
            refine (tfind_any H5.out mt).mono ?_
            rintro e w7 ⟨rfl, c7⟩
            have x0 := c7.cell x0 (fun h => h)
            have T7 := Lib.hid (H5.out.pure c7)
            have C7 := C5.pure c7
            clear H5 C5 c7
            generalize (findOf T.L mt).1 = ep at *
            generalize (findOf T.L mt).2.1 = fo at *
            generalize (findOf T.L mt).2.2 = th at *
            generalize (findOf T5.L mt).1 = ep2 at *
            generalize (findOf T5.L mt).2.1 = fo2 at *
            generalize (findOf T5.L mt).2.2 = th2 at *
            cases th2 with
            | false =>
              clear hfe
              have hlm : (T5.L.length : Int) ≤ (most : Int) := by have := T7.out.lm; have := HM6.out; omega
              go_wp2_with (fail)
              refine (tlive_any T7.out).mono ?_
              rintro e w' ⟨rfl, rfl⟩
              go_wp2_with (fail)
              refine (tlive_any T7.out).mono ?_
              rintro e w' ⟨rfl, rfl⟩
              go_wp2
              go_roundw
              case rel => exact ⟨k + 1, ub, bs5, v5, T5, by omega, by go_num, HM6, T7, F6, HG6, C7⟩
              case measure => simp [intOf]; omega
            | true =>
              obtain ⟨rfl, rfl⟩ := hfe rfl
              have hlm : (T5.L.length : Int) ≤ (most : Int) := by have := T7.out.lm; have := HM6.out; omega
              go_wp2_with (fail)
              refine (tlive_any T7.out).mono ?_
              rintro e w' ⟨rfl, rfl⟩
              go_wp2_with (fail)
              refine (tlive_any T7.out).mono ?_
              rintro e w' ⟨rfl, rfl⟩
              go_wp2
              go_roundw
              case rel => exact ⟨k + 1, ub, bs5, v5, T5, by omega, by go_num, HM6, T7, F6, HG6, C7⟩
              case measure => simp [intOf]; omega
          · have hof := tick_of_sub T now
            have hG5 := HG.out.tick now
            have hM5 : (tickT T now).most = most := hmo.out
            go_wp2_with (fail)
            refine (tick_of T4.out now).mono ?_
            rintro e w5 ⟨ve, rfl, hve, c5, bs5, v5, h5, f5⟩
            obtain ⟨Be, qe, rfl, -, -, -⟩ := own_slice hve
            clear hve
            have x3' := c5.cell x3 nb
            have x3 := x3'
            have x0 := c5.cell x0 nb
            have h5 := h5.more
            have C5 := C4.trans c5 (fun i hi e => by have := HF.out i e; omega)
            have F6 : Hid (∀ k, TFoot p ub bs5 v5 k → w.heap.size ≤ k) := Lib.hid (fun k hk => HF.out k (f5 k hk))
            have hfe := HFE.out _ hof
            have HM6 := Lib.hid hM5
            have HG6 := Lib.hid hG5
            generalize hT5 : tickT T now = T5 at *
            have H5 := Lib.hid h5
            clear hT5 x1 x2 x3' x4 x5 x6 x7 x8 x9 x10 x11 T4 C4 c5 h5 f5 hG5 hM5 hof
            go_wp2_with (fail)
            refine (tfind_any H5.out mt).mono ?_
            rintro e w7 ⟨rfl, c7⟩
            have x0 := c7.cell x0 (fun h => h)
            have T7 := Lib.hid (H5.out.pure c7)
            have C7 := C5.pure c7
            clear H5 C5 c7
            generalize (findOf T.L mt).1 = ep at *
            generalize (findOf T.L mt).2.1 = fo at *
            generalize (findOf T.L mt).2.2 = th at *
            generalize (findOf T5.L mt).1 = ep2 at *
            generalize (findOf T5.L mt).2.1 = fo2 at *
            generalize (findOf T5.L mt).2.2 = th2 at *
            cases th2 with
            | false =>
              clear hfe
              have hlm : (T5.L.length : Int) ≤ (most : Int) := by have := T7.out.lm; have := HM6.out; omega
              go_wp2_with (fail)
              refine (tlive_any T7.out).mono ?_
              rintro e w' ⟨rfl, rfl⟩
              go_wp2_with (fail)
              refine (tlive_any T7.out).mono ?_
              rintro e w' ⟨rfl, rfl⟩
              go_wp2
              go_roundw
              case rel => exact ⟨k + 1, ub, bs5, v5, T5, by omega, by go_num, HM6, T7, F6, HG6, C7⟩
              case measure => simp [intOf]; omega
            | true =>
              obtain ⟨rfl, rfl⟩ := hfe rfl
              have hlm : (T5.L.length : Int) ≤ (most : Int) := by have := T7.out.lm; have := HM6.out; omega
              go_wp2_with (fail)
              refine (tlive_any T7.out).mono ?_
              rintro e w' ⟨rfl, rfl⟩
              go_wp2_with (fail)
              refine (tlive_any T7.out).mono ?_
              rintro e w' ⟨rfl, rfl⟩
              go_wp2
              go_roundw
              case rel => exact ⟨k + 1, ub, bs5, v5, T5, by omega, by go_num, HM6, T7, F6, HG6, C7⟩
              case measure => simp [intOf]; omega
      · go_wp2
        go_ret
        exact ⟨rfl, hC⟩
end Go.Proofs.Ytpfnphkgmjgmeaa
