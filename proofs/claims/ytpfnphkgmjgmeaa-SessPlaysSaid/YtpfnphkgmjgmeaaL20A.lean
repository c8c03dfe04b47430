/- The laws of layer 20: SessOnce. -/
import Derived.Test.YtpfnphkgmjgmeaaSessJ
namespace Go.Proofs.Ytpfnphkgmjgmeaa
open Go Go.RowKit
set_option linter.unusedVariables false
set_option linter.unusedSimpArgs false

/-- A slice of words. -/
structure Words (w : World) (A : Option Addr) (n : Nat) (xs : List UInt64) : Prop where
  len : xs.length = n
  cells : 0 < n → ∃ b off, A = some ⟨b, off, none⟩ ∧ ∀ j (h : j < xs.length), w.cell? ⟨b, off + j, none⟩ = some (.int .u64 ((xs[j]'h).toNat : Int))
theorem once_hello {w : World} {p ub : Nat} {bs : List Nat} {v : Value} {T : Tb} {cnt : Nat} (h : TabOf w p ub bs v T cnt) (d : UInt64) (now : Int) (hcnt : cnt ≤ 4611686018427387904) :
    Calls Try.prog 11 #[.pointer (some ⟨p, 0, none⟩), (helloM 0).val, .int .u64 (d.toNat : Int), .int .i64 now] w fun e w' => ∃ (r : Mg) (E : Int) (T' : Tb) (bs' : List Nat) (v' : Value), e = .returned (.tuple #[r.val, .int .i64 E]) ∧ Chg (TFoot p ub bs v) w w' ∧
      TabOf w' p ub bs' v' T' (cnt + 1) ∧ (∀ k, TFoot p ub bs' v' k → TFoot p ub bs v k ∨ w.heap.size ≤ k) ∧ T'.most = T.most ∧
      ((d = 0 ∧ E = 1 ∧ T'.U = T.U) ∨ (d ≠ 0 ∧ T.U (d.toNat : Int) = true ∧ E = 9 ∧ T'.U = T.U) ∨ (d ≠ 0 ∧ T.U (d.toNat : Int) = false ∧ E = 14 ∧ T'.U = T.U ∧ T'.L.length = T.most) ∨
        (d ≠ 0 ∧ T.U (d.toNat : Int) = false ∧ E = 0 ∧ T'.U = fun i => T.U i || decide (i = (d.toNat : Int)))) := by
  refine (hello_of h (helloM 0) d now hcnt).mono ?_
  rintro e w' ⟨rfl, hc, bs', v', h', hf⟩
  have e0 : helloOf T (helloM 0) d now = if beginE (tickT T now) d ≠ 0 then ((resetM 0, beginE (tickT T now) d), tickT T now) else ((welcomeM d 1 1, 0), { beginT (tickT T now) d with L := (beginT (tickT T now) d).L.set (tickT T now).L.length ⟨d, 1, 1, (tickT T now).now⟩ }) := by
    unfold helloOf
    rw [if_neg (by simp [helloM]), if_pos (show (helloM 0).token = 0 from rfl)]
    rfl
  refine ⟨(helloOf T (helloM 0) d now).1.1, (helloOf T (helloM 0) d now).1.2, (helloOf T (helloM 0) d now).2, bs', v', rfl, hc, h', hf, ?_, ?_⟩
  · rw [e0]; split <;> rfl
  · rw [e0]
    by_cases hd : d = 0
    · have e1 : beginE (tickT T now) d = 1 := by unfold beginE; rw [if_pos hd]
      rw [e1, if_pos (by decide)]
      exact .inl ⟨hd, rfl, rfl⟩
    · cases hU : T.U (d.toNat : Int) with
      | true =>
        have e1 : beginE (tickT T now) d = 9 := by unfold beginE; rw [if_neg hd, if_pos (show (tickT T now).U (d.toNat : Int) = true from hU)]
        rw [e1, if_pos (by decide)]
        exact .inr (.inl ⟨hd, rfl, rfl, rfl⟩)
      | false =>
        by_cases hf : (tickT T now).L.length = (tickT T now).most
        · have e1 : beginE (tickT T now) d = 14 := by unfold beginE; rw [if_neg hd, if_neg (show ¬ (tickT T now).U (d.toNat : Int) = true from by rw [show (tickT T now).U (d.toNat : Int) = false from hU]; simp), if_pos hf]
          rw [e1, if_pos (by decide)]
          exact .inr (.inr (.inl ⟨hd, rfl, rfl, rfl, hf⟩))
        · have e1 : beginE (tickT T now) d = 0 := by unfold beginE; rw [if_neg hd, if_neg (show ¬ (tickT T now).U (d.toNat : Int) = true from by rw [show (tickT T now).U (d.toNat : Int) = false from hU]; simp), if_neg hf]
          rw [e1, if_neg (by decide)]
          exact .inr (.inr (.inr ⟨hd, rfl, rfl, rfl⟩))
theorem once_close {w : World} {p ub : Nat} {bs : List Nat} {v : Value} {T : Tb} {cnt : Nat} (h : TabOf w p ub bs v T cnt) (tk : UInt64) (now : Int) :
    Calls Try.prog 14 #[.pointer (some ⟨p, 0, none⟩), .int .u64 (tk.toNat : Int), .int .i64 now] w fun e w' => ∃ (E : Int) (T' : Tb) (bs' : List Nat) (v' : Value), e = .returned (.int .i64 E) ∧ Chg (TFoot p ub bs v) w w' ∧
      TabOf w' p ub bs' v' T' cnt ∧ (∀ k, TFoot p ub bs' v' k → TFoot p ub bs v k) ∧ T'.most = T.most ∧ T'.U = T.U := by
  refine (close_of h tk now).mono ?_
  rintro e w' ⟨rfl, hc, bs', v', h', hf⟩
  refine ⟨_, _, bs', v', rfl, hc, h', hf, ?_, ?_⟩ <;> (unfold closeOf; split <;> rfl)
set_option maxRecDepth 100000 in
set_option maxHeartbeats 4000000 in
theorem law_SessOnce (A : Option Addr) (n c : Nat) (xs : List UInt64) (how : UInt8) (w : World) (hA : Words w A n xs) (hn : n ≤ 140737488351232) :
    Calls Try.prog 3 #[.slice A n c, .int .u8 (how.toNat : Int)] w fun e w' => e = .returned (.bool true) ∧ Chg Pure' w w' := by
  have hz := zero_msg20
  have hzb := zero_bool
  have hmm := @run_makeMap Try.prog
  go_enter Try.func3, Try.ntmps3
  go_wp2_with (fail)
  refine (ownt_new 64 5 w (by omega) (by omega) (by omega) (by omega)).mono ?_
  rintro e w1 ⟨rfl, s1⟩
  go_wp2_with (fail)
  refine (alive20 _).mono ?_
  rintro e w2 ⟨rfl, c2⟩
  have s2 := s1.pure c2
  clear s1 c2
  obtain ⟨ub, bs, v, t2, f2, C2⟩ := s2
  have fl := fun k (hk : TFoot (w.heap.size + 1) ub bs v k) => t2.flt hk
  have c3 : Chg Pure' w2 (w2.alloc (.map #[] 0)) := (Chg.refl _ w2).alloc _
  have M3 : Hid (MapU (w2.alloc (.map #[] 0)) 29 w2.heap.size 0 (usedM (newT 64 5).U)) := Lib.hid (MapU.made w2 29)
  have T3 := Lib.hid (t2.pure c3)
  have C3 := C2.pure c3
  have F3 : Hid (∀ k, TFoot (w.heap.size + 1) ub bs v k → w.heap.size ≤ k ∧ k ≠ w2.heap.size) := Lib.hid (fun k hk => ⟨f2 k hk, fun e => by have := fl k hk; omega⟩)
  have hsm : w2.heap.size < (w2.alloc (.map #[] 0)).heap.size := by simp
  clear t2 f2 fl c3
  generalize hp : w.heap.size + 1 = p at *
  have hmb : w.heap.size ≤ w2.heap.size := C2.size
  go_wp2_with (fail)
  generalize (w2.alloc (.map #[] 0)) = w3 at *
  generalize w2.heap.size = mb at *
  go_loopw [31] (fun i wr => ∃ (k ub : Nat) (bs : List Nat) (v : Value) (T : Tb), k ≤ n ∧ i = .int .i64 k ∧ T.most = 64 ∧ Hid (TabOf wr p ub bs v T k) ∧ Hid (∀ k, TFoot p ub bs v k → w.heap.size ≤ k ∧ k ≠ mb) ∧ Hid (MapU wr 29 mb k (usedM T.U)) ∧ Chg Pure' w wr ∧ mb < wr.heap.size) (fun i _ => n - (intOf i).toNat)
  case atStart => exact ⟨0, ub, bs, v, _, Nat.zero_le _, rfl, rfl, T3, F3, M3, C3, hsm⟩
  case round =>
    clear T3 F3 M3 C3 hsm C2
    obtain ⟨k, ub, bs, v, T, hk, rfl, hmo, HT, HF, HM, hC, hml⟩ := hrel
    have HMO := Lib.hid hmo
    clear hmo
    by_cases hlt : k < n
    · obtain ⟨b, off, rfl, hcell⟩ := hA.cells (by omega)
      have hkx : k < xs.length := by have := hA.len; omega
      have e0 := hC.cell (hcell k hkx) (fun h => h)
      generalize xs[k] = d at *
      have hd := d.toNat_lt
      clear hcell
      go_wp2_with (fail)
      refine (hello_msg 0 _).mono ?_
      rintro e w4 ⟨rfl, c4⟩
      go_wp2_with (fail)
      refine (once_hello (HT.out.pure c4) d _ (by omega)).mono ?_
      rintro e w5 ⟨r, E, T5, bs5, v5, rfl, c5, t5, f5, hm5, hw⟩
      rw [Mg.val_eq]
      have ca : Chg Pure' w5 (w5.alloc (.cells #[.int .i64 r.kind, .int .u64 (r.token.toNat : Int), .int .i64 r.epoch, .int .i64 r.seq, .int .i64 r.ack, .int .u64 (r.bits.toNat : Int), .int .i64 r.credit, .int .i64 r.format, .slice r.A r.n r.c] 32)) := (Chg.refl _ w5).alloc _
      have hs4 := c4.size
      have hs5 := c5.size
      have hs6 := ca.size
      have T6 := Lib.hid (t5.pure ca)
      have nmb : ¬ TFoot p ub bs v mb := fun e => (HF.out mb e).2 rfl
      have M6 := Lib.hid (((HM.out.chg c4 (fun h => h)).chg c5 nmb).chg ca (fun h => h))
      have C6 := ((hC.pure c4).trans c5 (fun i hi e => by have := (HF.out i e).1; omega)).pure ca
      have F6 : Hid (∀ k, TFoot p ub bs5 v5 k → w.heap.size ≤ k ∧ k ≠ mb) := Lib.hid (fun k hk => (f5 k hk).elim (fun h => HF.out k h) (fun h => by have := hC.size; omega))
      have hml6 : mb < (w5.alloc (.cells #[.int .i64 r.kind, .int .u64 (r.token.toNat : Int), .int .i64 r.epoch, .int .i64 r.seq, .int .i64 r.ack, .int .u64 (r.bits.toNat : Int), .int .i64 r.credit, .int .i64 r.format, .slice r.A r.n r.c] 32)).heap.size := by omega
      have hkey : (Lit.int .u64 (d.toNat : Int)).wf = true := wf_u64 (by omega)
      have hlook := look_runU M6.out Try.underlying29 Try.underlying28 (zero_bool (w5.alloc (.cells #[.int .i64 r.kind, .int .u64 (r.token.toNat : Int), .int .i64 r.epoch, .int .i64 r.seq, .int .i64 r.ack, .int .u64 (r.bits.toNat : Int), .int .i64 r.credit, .int .i64 r.format, .slice r.A r.n r.c] 32))) hkey (v := .bool (T.U (d.toNat : Int))) (by unfold usedM; cases T.U (d.toNat : Int) <;> rfl)
      have HM5 := Lib.hid (hm5.trans HMO.out)
      clear t5 c5 c4 hA hm5 f5 hzb
      rcases hw with ⟨h1, rfl, h3⟩ | ⟨h1, h2, rfl, h3⟩ | ⟨h1, h2, rfl, h3, h4⟩ | ⟨h1, h2, rfl, h3⟩
      case' inl =>
        have i1 : ((d.toNat : Int) == 0) = true := by rw [h1]; rfl
        have M7 : Hid (MapU (w5.alloc (.cells #[.int .i64 r.kind, .int .u64 (r.token.toNat : Int), .int .i64 r.epoch, .int .i64 r.seq, .int .i64 r.ack, .int .u64 (r.bits.toNat : Int), .int .i64 r.credit, .int .i64 r.format, .slice r.A r.n r.c] 32)) 29 mb (k + 1) (usedM T5.U)) := Lib.hid (by rw [h3]; exact M6.out.mono)
        clear h1 hlook
        go_wp2_with (fail)
        generalize (w5.alloc (.cells #[.int .i64 r.kind, .int .u64 (r.token.toNat : Int), .int .i64 r.epoch, .int .i64 r.seq, .int .i64 r.ack, .int .u64 (r.bits.toNat : Int), .int .i64 r.credit, .int .i64 r.format, .slice r.A r.n r.c] 32)) = w7 at *
      case' inr.inl =>
        have i1 : ((d.toNat : Int) == 0) = false := by
          rw [beq_eq_false_iff_ne]
          exact fun e => h1 (UInt64.toNat_inj.1 (by simpa using e))
        rw [h2] at hlook
        have M7 : Hid (MapU (w5.alloc (.cells #[.int .i64 r.kind, .int .u64 (r.token.toNat : Int), .int .i64 r.epoch, .int .i64 r.seq, .int .i64 r.ack, .int .u64 (r.bits.toNat : Int), .int .i64 r.credit, .int .i64 r.format, .slice r.A r.n r.c] 32)) 29 mb (k + 1) (usedM T5.U)) := Lib.hid (by rw [h3]; exact M6.out.mono)
        clear h1 h2
        go_wp2_with (fail)
        clear hlook
        generalize (w5.alloc (.cells #[.int .i64 r.kind, .int .u64 (r.token.toNat : Int), .int .i64 r.epoch, .int .i64 r.seq, .int .i64 r.ack, .int .u64 (r.bits.toNat : Int), .int .i64 r.credit, .int .i64 r.format, .slice r.A r.n r.c] 32)) = w7 at *
      case' inr.inr.inl =>
        have i1 : ((d.toNat : Int) == 0) = false := by
          rw [beq_eq_false_iff_ne]
          exact fun e => h1 (UInt64.toNat_inj.1 (by simpa using e))
        rw [h2] at hlook
        have M7 : Hid (MapU (w5.alloc (.cells #[.int .i64 r.kind, .int .u64 (r.token.toNat : Int), .int .i64 r.epoch, .int .i64 r.seq, .int .i64 r.ack, .int .u64 (r.bits.toNat : Int), .int .i64 r.credit, .int .i64 r.format, .slice r.A r.n r.c] 32)) 29 mb (k + 1) (usedM T5.U)) := Lib.hid (by rw [h3]; exact M6.out.mono)
        have H4 := Lib.hid (h4.trans HMO.out)
        clear h1 h2 h4
        go_wp2_with (fail)
        clear hlook
        generalize (w5.alloc (.cells #[.int .i64 r.kind, .int .u64 (r.token.toNat : Int), .int .i64 r.epoch, .int .i64 r.seq, .int .i64 r.ack, .int .u64 (r.bits.toNat : Int), .int .i64 r.credit, .int .i64 r.format, .slice r.A r.n r.c] 32)) = w7 at *
        refine (tlive_any T6.out).mono ?_
        rintro e w8 ⟨rfl, rfl⟩
        rw [H4.out]
        go_wp2_with (fail)
      case' inr.inr.inr =>
        have i1 : ((d.toNat : Int) == 0) = false := by
          rw [beq_eq_false_iff_ne]
          exact fun e => h1 (UInt64.toNat_inj.1 (by simpa using e))
        rw [h2] at hlook
        obtain ⟨w7, hput, hM7, c7⟩ := put_runU M6.out Try.underlying29 Try.underlying28 (by unfold maxLen; omega) hkey (.bool true)
        rw [usedM_set] at hM7
        have M7 : Hid (MapU w7 29 mb (k + 1) (usedM T5.U)) := Lib.hid (by rw [h3]; exact hM7)
        have T6 := Lib.hid (T6.out.frame c7 (fun k hk e => (F6.out k hk).2 e))
        have C6 := C6.trans c7 (fun i hi e => by have e : i = mb := e; omega)
        have hml6 : mb < w7.heap.size := by have := c7.size; omega
        clear h1 h2 hM7
        go_wp2_with (fail)
        clear hlook hput
      all_goals
        first
        | (refine (once_close T6.out d _).mono ?_
           rintro e w9 ⟨E9, T9, bs9, v9, rfl, c9, t9, f9, m9, u9⟩
           have M9 : Hid (MapU w9 29 mb (k + 1) (usedM T9.U)) := Lib.hid (by rw [u9]; exact M7.out.chg c9 (fun e => (F6.out mb e).2 rfl))
           have F9 : Hid (∀ k, TFoot p ub bs9 v9 k → w.heap.size ≤ k ∧ k ≠ mb) := Lib.hid (fun k hk => F6.out k (f9 k hk))
           have C9 := C6.trans c9 (fun i hi e => by have := (F6.out i e).1; omega)
           have hml9 : mb < w9.heap.size := by have := c9.size; omega
           have T9' := Lib.hid t9
           have HM9 := Lib.hid (m9.trans HM5.out)
           clear t9 c9 f9 m9 u9
           go_wp2
           go_roundw
           case rel => exact ⟨k + 1, ub, bs9, v9, T9, by omega, by go_num, HM9.out, T9', F9, M9, C9, hml9⟩
           case measure => simp [intOf]; omega)
        | (go_roundw
           case rel => exact ⟨k + 1, ub, bs5, v5, T5, by omega, by go_num, HM5.out, T6, F6, M7, C6, hml6⟩
           case measure => simp [intOf]; omega)
    · go_wp2
      go_ret
      exact ⟨rfl, hC⟩
end Go.Proofs.Ytpfnphkgmjgmeaa
