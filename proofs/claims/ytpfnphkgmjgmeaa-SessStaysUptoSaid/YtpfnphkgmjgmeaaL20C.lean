/- The laws of layer 20: SessRefused. -/
import Derived.Test.YtpfnphkgmjgmeaaL20B
namespace Go.Proofs.Ytpfnphkgmjgmeaa
open Go Go.RowKit
set_option linter.unusedVariables false
set_option linter.unusedSimpArgs false

theorem tickNow_idem (T : Tb) (L : List Se) (now : Int) : tickNow { T with now := tickNow T now, L := L } now = tickNow T now := by
  unfold tickNow
  by_cases h : now ≤ 1099511627776
  · simp only [if_pos h]; omega
  · simp only [if_neg h]
theorem tick_idem (T : Tb) (now : Int) : tickT (tickT T now) now = tickT T now := by
  have e := tickNow_idem T (T.L.filter fun x => !overB (tickNow T now) T.idle x) now
  have e1 : tickNow (tickT T now) now = tickNow T now := e
  have e2 : tickT (tickT T now) now = { tickT T now with now := tickNow (tickT T now) now, L := (tickT T now).L.filter fun x => !overB (tickNow (tickT T now) now) (tickT T now).idle x } := rfl
  rw [e2, e1]
  have e3 : (tickT T now).L.filter (fun x => !overB (tickNow T now) (tickT T now).idle x) = (tickT T now).L := by
    rw [List.filter_eq_self]
    intro x hx
    exact (List.mem_filter.1 hx).2
  rw [e3]
  rfl
theorem place_mem {L : List Se} {tk : UInt64} {y : Se} (hy : y ∈ L) (h : y.token = tk) : place L tk ≠ -1 := by
  intro e
  rcases place_ge L tk with hp | ⟨i, hi, hp, -, -⟩
  · unfold place at hp
    cases hf : L.findIdx? (fun x => x.token == tk) with
    | some i => rw [hf] at hp; simp at hp
    | none =>
      rw [List.findIdx?_eq_none_iff] at hf
      have := hf y hy
      simp [h] at this
  · omega
theorem close_zero (T : Tb) (now : Int) (i : Nat) (y : Se) (tk : UInt64) (hi : i < (tickT T now).L.length) (ht : y.token = tk) (hl : y.last = (tickT T now).now) : (closeOf { tickT T now with L := (tickT T now).L.set i y } tk now).1 = 0 := by
  have e5 : tickNow { tickT T now with L := (tickT T now).L.set i y } now = (tickT T now).now := tickNow_idem T ((tickT T now).L.set i y) now
  unfold closeOf
  rw [if_neg]
  refine place_mem (y := y) (List.mem_filter.2 ⟨List.mem_iff_getElem.2 ⟨i, by simpa using hi, by simp⟩, ?_⟩) ht
  rw [e5]
  unfold overB
  rw [hl]
  simp
theorem hello_err {T : Tb} {m : Mg} {d : UInt64} {now : Int} (h : (helloOf T m d now).1.2 ≠ 0) : (helloOf T m d now).2 = tickT T now := by
  unfold helloOf at h ⊢
  split
  · rfl
  · rename_i hk
    rw [if_neg hk] at h
    split
    · rename_i h0
      rw [if_pos h0] at h
      split
      · rfl
      · rename_i hb
        rw [if_neg hb] at h
        exact absurd rfl h
    · rename_i h0
      rw [if_neg h0] at h
      split
      · rfl
      · rename_i hp
        rw [if_neg hp] at h
        exact absurd rfl h
theorem hear_err {T : Tb} {m : Mg} {now : Int} (h : (hearOf T m now).1 ≠ 0) : (hearOf T m now).2 = tickT T now := by
  unfold hearOf at h ⊢
  split
  · rfl
  · rename_i hp
    rw [if_neg hp] at h
    obtain ⟨i, hi, e1, e2, e3⟩ := place_get hp
    split
    · rfl
    · rename_i h1
      rw [if_neg h1] at h
      split
      · rfl
      · rename_i h2
        rw [if_neg h2] at h
        split
        · rename_i h7
          rw [if_pos h7] at h
          exfalso
          apply h
          exact close_zero T now _ _ m.token (by rw [e1, Int.toNat_natCast]; exact hi) (by rw [e3]; exact e2) rfl
        · rename_i h7
          rw [if_neg h7] at h
          exact absurd rfl h
theorem and1_20 (a : Int) : bits .and .i64 a 1 = 0 ∨ bits .and .i64 a 1 = 1 := by
  have e : bits .and .i64 a 1 = IntKind.i64.wrap ((BitVec.ofInt 64 a &&& BitVec.ofInt 64 1).toNat : Int) := rfl
  have h : (BitVec.ofInt 64 a &&& BitVec.ofInt 64 1).toNat ≤ 1 := by
    rw [BitVec.toNat_and]
    exact Nat.le_trans Nat.and_le_right (by decide)
  rw [e, IntKind.wrap_i64]
  omega
/-- A call stands in block b. -/
def AskAt (w : World) (b : Nat) (a : Act20) : Prop := ∀ j u, a.cells[j]? = some u → w.cell? ⟨b, j, none⟩ = some u
theorem AskAt.chg {w w' : World} {S : Nat → Prop} {b : Nat} {a : Act20} (h : AskAt w b a) (hc : Chg S w w') (hb : ¬ S b) : AskAt w' b a := fun j u hu => hc.cell (h j u hu) hb
theorem AskAt.made (w : World) (a : Act20) : AskAt (w.alloc (.cells a.cells.toArray 46)) w.heap.size a := fun j u hu => by
  rw [cellAt_alloc_lit]; simpa using hu
set_option maxRecDepth 100000 in
set_option maxHeartbeats 8000000 in
theorem law_SessRefused (A : Option Addr) (n c : Nat) (acts : List Act20) (ask : Act20) (w : World) (hA : Acts20 w A n acts) (hn : n ≤ 140737488351232) :
    Calls Try.prog 7 #[.slice A n c, .agg ask.cells.toArray] w fun e w' => e = .returned (.bool true) ∧ Chg Pure' w w' := by
  have KQ := AskAt.made w ask
  obtain ⟨qkind, qnow, ⟨qmk, qmt, qme, qms, qma, qmb, qmc, qmf, qmA, qmn, qmq⟩, qd⟩ := ask
  rw [show (Act20.cells ⟨qkind, qnow, ⟨qmk, qmt, qme, qms, qma, qmb, qmc, qmf, qmA, qmn, qmq⟩, qd⟩).toArray = #[.int .i64 qkind, .int .i64 qnow, .int .i64 qmk, .int .u64 (qmt.toNat : Int), .int .i64 qme, .int .i64 qms, .int .i64 qma, .int .u64 (qmb.toNat : Int), .int .i64 qmc, .int .i64 qmf, .slice qmA qmn qmq, .int .u64 (qd.toNat : Int)] from rfl] at KQ ⊢
  have hz := zero_msg20
  have cq : Chg Pure' w (w.alloc (.cells #[.int .i64 qkind, .int .i64 qnow, .int .i64 qmk, .int .u64 (qmt.toNat : Int), .int .i64 qme, .int .i64 qms, .int .i64 qma, .int .u64 (qmb.toNat : Int), .int .i64 qmc, .int .i64 qmf, .slice qmA qmn qmq, .int .u64 (qd.toNat : Int)] 46)) := (Chg.refl _ w).alloc _
  have hs1 : (w.alloc (.cells #[.int .i64 qkind, .int .i64 qnow, .int .i64 qmk, .int .u64 (qmt.toNat : Int), .int .i64 qme, .int .i64 qms, .int .i64 qma, .int .u64 (qmb.toNat : Int), .int .i64 qmc, .int .i64 qmf, .slice qmA qmn qmq, .int .u64 (qd.toNat : Int)] 46)).heap.size = w.heap.size + 1 := by simp
  have hA1 := Lib.hid hA
  clear hA
  go_enter Try.func7, Try.ntmps7
  go_wp2_with (fail)
  generalize (w.alloc (.cells #[.int .i64 qkind, .int .i64 qnow, .int .i64 qmk, .int .u64 (qmt.toNat : Int), .int .i64 qme, .int .i64 qms, .int .i64 qma, .int .u64 (qmb.toNat : Int), .int .i64 qmc, .int .i64 qmf, .slice qmA qmn qmq, .int .u64 (qd.toNat : Int)] 46)) = w1 at *
  refine (tnew_ok 3 50 w1 (by omega) (by omega) (by omega) (by omega)).mono ?_
  rintro e w2 ⟨rfl, c2, t2⟩
  have KQ := KQ.chg c2 (fun h => h)
  have C2 := cq.pure c2
  rw [hs1] at t2 ⊢
  go_wp2_with (fail)
  refine (alive20 _).mono ?_
  rintro e w3 ⟨rfl, c3⟩
  have KQ := Lib.hid (KQ.chg c3 (fun h => h))
  have C3 := C2.pure c3
  have T3 := Lib.hid (t2.pure c3)
  have F3 : Hid (∀ k, TFoot (w.heap.size + 1 + 1) (w.heap.size + 1) [] (.slice none 0 0) k → w.heap.size < k) := Lib.hid (by
    rintro k (rfl | rfl | h | h)
    · omega
    · omega
    · simp at h
    · cases h)
  clear t2 c2 c3 C2 hs1 cq
  generalize hp : w.heap.size + 1 + 1 = p at *
  go_wp2_with (fail)
  go_loopw [33] (fun i wr => ∃ (k ub : Nat) (bs : List Nat) (v : Value) (T : Tb), k ≤ n ∧ i = .int .i64 k ∧ Hid (TabOf wr p ub bs v T k) ∧ Hid (∀ k, TFoot p ub bs v k → w.heap.size < k) ∧ Hid (AskAt wr w.heap.size ⟨qkind, qnow, ⟨qmk, qmt, qme, qms, qma, qmb, qmc, qmf, qmA, qmn, qmq⟩, qd⟩) ∧ Chg Pure' w wr) (fun i _ => n - (intOf i).toNat)
  case atStart => exact ⟨0, _, _, _, _, Nat.zero_le _, rfl, T3, F3, KQ, C3⟩
  case round =>
    clear T3 F3 KQ C3
    obtain ⟨k, ub, bs, v, T, hk, rfl, HT, HF, HQ, hC⟩ := hrel
    by_cases hlt : k < n
    · obtain ⟨b, off, rfl, hbl, hcell⟩ := hA1.out.cells (by omega)
      have hkx : k < acts.length := by have := hA1.out.len; omega
      have hcl := fun c u h => hC.cell (hcell k hkx c u h) (fun h => h)
      clear hcell
      generalize acts[k] = act at hcl
      have K3 := AskAt.made wr act
      obtain ⟨kind, now, ⟨mk, mt, me, ms, ma, mb, mc, mf, mA, mn, mq⟩, d⟩ := act
      rw [show (Act20.cells ⟨kind, now, ⟨mk, mt, me, ms, ma, mb, mc, mf, mA, mn, mq⟩, d⟩).toArray = #[.int .i64 kind, .int .i64 now, .int .i64 mk, .int .u64 (mt.toNat : Int), .int .i64 me, .int .i64 ms, .int .i64 ma, .int .u64 (mb.toNat : Int), .int .i64 mc, .int .i64 mf, .slice mA mn mq, .int .u64 (d.toNat : Int)] from rfl] at K3
      have e0 := hcl 0 _ rfl
      have e1 := hcl 1 _ rfl
      have e2 := hcl 2 _ rfl
      have e3 := hcl 3 _ rfl
      have e4 := hcl 4 _ rfl
      have e5 := hcl 5 _ rfl
      have e6 := hcl 6 _ rfl
      have e7 := hcl 7 _ rfl
      have e8 := hcl 8 _ rfl
      have e9 := hcl 9 _ rfl
      have e10 := hcl 10 _ rfl
      have e11 := hcl 11 _ rfl
      rw [Nat.add_zero] at e0
      simp only at e0 e1 e2 e3 e4 e5 e6 e7 e8 e9 e10 e11
      have x1 := K3 1 _ rfl
      have x2 := K3 2 _ rfl
      have x3 := K3 3 _ rfl
      have x4 := K3 4 _ rfl
      have x5 := K3 5 _ rfl
      have x6 := K3 6 _ rfl
      have x7 := K3 7 _ rfl
      have x8 := K3 8 _ rfl
      have x9 := K3 9 _ rfl
      have x10 := K3 10 _ rfl
      have x11 := K3 11 _ rfl
      simp only at x1 x2 x3 x4 x5 x6 x7 x8 x9 x10 x11
      have ca : Chg Pure' wr (wr.alloc (.cells #[.int .i64 kind, .int .i64 now, .int .i64 mk, .int .u64 (mt.toNat : Int), .int .i64 me, .int .i64 ms, .int .i64 ma, .int .u64 (mb.toNat : Int), .int .i64 mc, .int .i64 mf, .slice mA mn mq, .int .u64 (d.toNat : Int)] 46)) := (Chg.refl _ wr).alloc _
      have T3 := Lib.hid (HT.out.pure ca)
      have C3 := hC.pure ca
      have Q3 := Lib.hid (HQ.out.chg ca (fun h => h))
      clear hcl hC ca K3
      go_wp2_with (fail)
      generalize (wr.alloc (.cells #[.int .i64 kind, .int .i64 now, .int .i64 mk, .int .u64 (mt.toNat : Int), .int .i64 me, .int .i64 ms, .int .i64 ma, .int .u64 (mb.toNat : Int), .int .i64 mc, .int .i64 mf, .slice mA mn mq, .int .u64 (d.toNat : Int)] 46)) = w3 at *
      refine (hello_of T3.out ⟨mk, mt, me, ms, ma, mb, mc, mf, mA, mn, mq⟩ d now (by omega)).mono ?_
      rintro e w5 ⟨rfl, c5, bs5, v5, h5, f5⟩
      have T5 := Lib.hid h5
      have nf : ¬ TFoot p ub bs v w.heap.size := fun e => by have := HF.out _ e; omega
      have Q5 := Lib.hid (Q3.out.chg c5 nf)
      have C5 := C3.trans c5 (fun i hi e => by have := HF.out i e; omega)
      have F5 : Hid (∀ k, TFoot p ub bs5 v5 k → w.heap.size < k) := Lib.hid (fun k hk => (f5 k hk).elim (fun h => HF.out k h) (fun h => by have := World.block_lt_of_cell? _ _ (Q3.out 0 _ rfl); simp only at this; omega))
      generalize (helloOf T ⟨mk, mt, me, ms, ma, mb, mc, mf, mA, mn, mq⟩ d now).2 = T6 at *
      generalize (helloOf T ⟨mk, mt, me, ms, ma, mb, mc, mf, mA, mn, mq⟩ d now).1.1 = r at *
      generalize (helloOf T ⟨mk, mt, me, ms, ma, mb, mc, mf, mA, mn, mq⟩ d now).1.2 = E at *
      rw [Mg.val_eq]
      clear h5 c5 f5 e0 e1 e2 e3 e4 e5 e6 e7 e8 e9 e10 e11 x1 x2 x3 x4 x5 x6 x7 x8 x9 x10 x11 T3 C3 Q3
      go_wp2
      go_roundw
      case rel => exact ⟨k + 1, ub, bs5, v5, T6, by omega, by go_num, T5, F5, Q5, C5⟩
      case measure => simp [intOf]; omega
    · have q1 : wr.cell? ⟨w.heap.size, 1, none⟩ = some (.int .i64 qnow) := HQ.out 1 _ rfl
      have nf : ¬ TFoot p ub bs v w.heap.size := fun e => by have := HF.out _ e; omega
      go_wp2_with (fail)
      refine (tick_of HT.out qnow).mono ?_
      rintro e w4 ⟨ve, rfl, hve, c4, bs4, v4, h4, f4⟩
      obtain ⟨Be, qe, rfl, -, -, -⟩ := own_slice hve
      have Q4 := HQ.out.chg c4 nf
      have q3 : w4.cell? ⟨w.heap.size, 3, none⟩ = some (.int .u64 (qmt.toNat : Int)) := Q4 3 _ rfl
      have T4 := Lib.hid h4
      have C4 := hC.trans c4 (fun i hi e => by have := HF.out i e; omega)
      have F4 : Hid (∀ k, TFoot p ub bs4 v4 k → w.heap.size < k) := Lib.hid (fun k hk => HF.out k (f4 k hk))
      clear hve h4 c4 f4 q1 HT HQ hC
      go_wp2_with (fail)
      refine (tlive_any T4.out).mono ?_
      rintro e w5 ⟨rfl, rfl⟩
      go_wp2_with (fail)
      refine (tfind_any T4.out qmt).mono ?_
      rintro e w5 ⟨rfl, c5⟩
      have Q5 := Q4.chg c5 (fun h => h)
      have T5 := Lib.hid (T4.out.pure c5)
      have C5 := C4.pure c5
      have nf5 : ¬ TFoot p ub bs4 v4 w.heap.size := fun e => by have := F4.out _ e; omega
      have q0 := Q5 0 _ rfl
      have q1 := Q5 1 _ rfl
      have q2 := Q5 2 _ rfl
      have q3 := Q5 3 _ rfl
      have q4 := Q5 4 _ rfl
      have q5 := Q5 5 _ rfl
      have q6 := Q5 6 _ rfl
      have q7 := Q5 7 _ rfl
      have q8 := Q5 8 _ rfl
      have q9 := Q5 9 _ rfl
      have q10 := Q5 10 _ rfl
      have q11 := Q5 11 _ rfl
      simp only at q0 q1 q2 q3 q4 q5 q6 q7 q8 q9 q10 q11
      clear c5 T4 C4 Q4
      rcases and1_20 qkind with hk0 | hk1
      · have hER : (helloOf (tickT T qnow) ⟨qmk, qmt, qme, qms, qma, qmb, qmc, qmf, qmA, qmn, qmq⟩ qd qnow).1.2 ≠ 0 → (helloOf (tickT T qnow) ⟨qmk, qmt, qme, qms, qma, qmb, qmc, qmf, qmA, qmn, qmq⟩ qd qnow).2 = tickT T qnow := fun h => (hello_err h).trans (tick_idem T qnow)
        go_wp2_with (fail)
        refine (hello_of T5.out ⟨qmk, qmt, qme, qms, qma, qmb, qmc, qmf, qmA, qmn, qmq⟩ qd qnow (by omega)).mono ?_
        rintro e w6 ⟨rfl, c6, bs6, v6, h6, f6⟩
        have q3 := c6.cell q3 nf5
        have C6 := C5.trans c6 (fun i hi e => by have := F4.out i e; omega)
        generalize (helloOf (tickT T qnow) ⟨qmk, qmt, qme, qms, qma, qmb, qmc, qmf, qmA, qmn, qmq⟩ qd qnow).2 = T6 at *
        generalize (helloOf (tickT T qnow) ⟨qmk, qmt, qme, qms, qma, qmb, qmc, qmf, qmA, qmn, qmq⟩ qd qnow).1.1 = r at *
        generalize (helloOf (tickT T qnow) ⟨qmk, qmt, qme, qms, qma, qmb, qmc, qmf, qmA, qmn, qmq⟩ qd qnow).1.2 = E at *
        rw [Mg.val_eq]
        have T6' := Lib.hid h6
        clear h6 c6 f6 q0 q1 q2 q4 q5 q6 q7 q8 q9 q10 q11 Q5 T5 C5
        have HER := Lib.hid hER
        clear hER
        go_wp2_with (fail)
        refine (tfind_any T6'.out qmt).mono ?_
        rintro e w7 ⟨rfl, c7⟩
        have T7 := Lib.hid (T6'.out.pure c7)
        have C7 := C6.pure c7
        by_cases hE : E = 0
        · have i1 : (E == 0) = true := by rw [beq_iff_eq]; exact hE
          clear hE c7 T6' C6
          go_wp2
          go_ret
          exact ⟨rfl, C7⟩
        · have i1 : (E == 0) = false := by rw [beq_eq_false_iff_ne]; exact hE
          have hT6 := HER.out hE
          rw [hT6] at T7 ⊢
          clear hE c7 T6' C6 hT6 HER
          go_wp2_with (fail)
          refine (tlive_any T7.out).mono ?_
          rintro e w8 ⟨rfl, rfl⟩
          generalize findOf (tickT T qnow).L qmt = fo at *
          obtain ⟨f1, f2, f3⟩ := fo
          cases f3 with
          | false =>
            go_wp2
            go_ret
            exact ⟨rfl, C7⟩
          | true =>
            go_wp2
            go_ret
            exact ⟨rfl, C7⟩
      · have hER : (hearOf (tickT T qnow) ⟨qmk, qmt, qme, qms, qma, qmb, qmc, qmf, qmA, qmn, qmq⟩ qnow).1 ≠ 0 → (hearOf (tickT T qnow) ⟨qmk, qmt, qme, qms, qma, qmb, qmc, qmf, qmA, qmn, qmq⟩ qnow).2 = tickT T qnow := fun h => (hear_err h).trans (tick_idem T qnow)
        go_wp2_with (fail)
        refine (hear_of T5.out ⟨qmk, qmt, qme, qms, qma, qmb, qmc, qmf, qmA, qmn, qmq⟩ qnow).mono ?_
        rintro e w6 ⟨rfl, c6, bs6, v6, h6, f6⟩
        have q3 := c6.cell q3 nf5
        have C6 := C5.trans c6 (fun i hi e => by have := F4.out i e; omega)
        generalize (hearOf (tickT T qnow) ⟨qmk, qmt, qme, qms, qma, qmb, qmc, qmf, qmA, qmn, qmq⟩ qnow).2 = T6 at *
        generalize (hearOf (tickT T qnow) ⟨qmk, qmt, qme, qms, qma, qmb, qmc, qmf, qmA, qmn, qmq⟩ qnow).1 = E at *
        have T6' := Lib.hid h6
        clear h6 c6 f6 q0 q1 q2 q4 q5 q6 q7 q8 q9 q10 q11 Q5 T5 C5
        have HER := Lib.hid hER
        clear hER
        go_wp2_with (fail)
        refine (tfind_any T6'.out qmt).mono ?_
        rintro e w7 ⟨rfl, c7⟩
        have T7 := Lib.hid (T6'.out.pure c7)
        have C7 := C6.pure c7
        by_cases hE : E = 0
        · have i1 : (E == 0) = true := by rw [beq_iff_eq]; exact hE
          clear hE c7 T6' C6
          go_wp2
          go_ret
          exact ⟨rfl, C7⟩
        · have i1 : (E == 0) = false := by rw [beq_eq_false_iff_ne]; exact hE
          have hT6 := HER.out hE
          rw [hT6] at T7 ⊢
          clear hE c7 T6' C6 hT6 HER
          go_wp2_with (fail)
          refine (tlive_any T7.out).mono ?_
          rintro e w8 ⟨rfl, rfl⟩
          generalize findOf (tickT T qnow).L qmt = fo at *
          obtain ⟨f1, f2, f3⟩ := fo
          cases f3 with
          | false =>
            go_wp2
            go_ret
            exact ⟨rfl, C7⟩
          | true =>
            go_wp2
            go_ret
            exact ⟨rfl, C7⟩
end Go.Proofs.Ytpfnphkgmjgmeaa
