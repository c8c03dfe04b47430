/- Package sess, going on: a table of the call's own. -/
import Derived.Test.YtpfnphkgmjgmeaaSessI
namespace Go.Proofs.Ytpfnphkgmjgmeaa
open Go Go.RowKit
set_option linter.unusedVariables false
set_option linter.unusedSimpArgs false

/-- A table made since w0; nothing that was there in w0 has turned. -/
def OwnT (w0 w : World) (p : Nat) (T : Tb) (cnt : Nat) : Prop := ∃ ub bs v, TabOf w p ub bs v T cnt ∧ (∀ k, TFoot p ub bs v k → w0.heap.size ≤ k) ∧ Chg Pure' w0 w
theorem OwnT.pure {w0 w w' : World} {p : Nat} {T : Tb} {cnt : Nat} (h : OwnT w0 w p T cnt) (hc : Chg Pure' w w') : OwnT w0 w' p T cnt := by
  obtain ⟨ub, bs, v, h1, h2, h3⟩ := h
  exact ⟨ub, bs, v, h1.pure hc, h2, h3.pure hc⟩
theorem OwnT.chg {w0 w : World} {p : Nat} {T : Tb} {cnt : Nat} (h : OwnT w0 w p T cnt) : Chg Pure' w0 w := by
  obtain ⟨ub, bs, v, h1, h2, h3⟩ := h
  exact h3
theorem OwnT.more {w0 w : World} {p : Nat} {T : Tb} {cnt : Nat} (h : OwnT w0 w p T cnt) : OwnT w0 w p T (cnt + 1) := by
  obtain ⟨ub, bs, v, h1, h2, h3⟩ := h
  exact ⟨ub, bs, v, h1.more, h2, h3⟩
theorem ownt_new (m i : Nat) (w : World) (h1 : 1 ≤ m) (h2 : m ≤ 64) (h3 : 1 ≤ i) (h4 : i ≤ 1048576) :
    Calls Try.prog 9 #[.int .i64 m, .int .i64 i] w fun e w' => e = .returned (.tuple #[.pointer (some ⟨w.heap.size + 1, 0, none⟩), .int .i64 0]) ∧ OwnT w w' (w.heap.size + 1) (newT m i) 0 := by
  refine (tnew_ok m i w h1 h2 h3 h4).mono ?_
  rintro e w' ⟨rfl, hc, hs⟩
  refine ⟨rfl, _, _, _, hs, ?_, hc⟩
  rintro k (rfl | rfl | h | h)
  · omega
  · exact Nat.le_refl _
  · simp at h
  · cases h
theorem ownt_hello {w0 w : World} {p : Nat} {T : Tb} {cnt : Nat} (h : OwnT w0 w p T cnt) (m : Mg) (d : UInt64) (now : Int) (hcnt : cnt ≤ 4611686018427387904) :
    Calls Try.prog 11 #[.pointer (some ⟨p, 0, none⟩), m.val, .int .u64 (d.toNat : Int), .int .i64 now] w fun e w' => e = .returned (.tuple #[(helloOf T m d now).1.1.val, .int .i64 (helloOf T m d now).1.2]) ∧ OwnT w0 w' p (helloOf T m d now).2 (cnt + 1) := by
  obtain ⟨ub, bs, v, h1, h2, h3⟩ := h
  refine (hello_of h1 m d now hcnt).mono ?_
  rintro e w' ⟨he, hc, bs', v', g1, g2⟩
  have hs := h3.size
  exact ⟨he, ub, bs', v', g1, fun k hk => (g2 k hk).elim (fun h => h2 k h) (fun h => by omega), h3.trans hc (fun i hi e => by have := h2 i e; omega)⟩
theorem ownt_tick {w0 w : World} {p : Nat} {T : Tb} {cnt : Nat} (h : OwnT w0 w p T cnt) (now : Int) :
    Calls Try.prog 22 #[.pointer (some ⟨p, 0, none⟩), .int .i64 now] w fun e w' => ∃ ve, e = .returned ve ∧ w'.ownsRow w.heap.size 29 1 ve (tickE T now).length ((tickE T now).map u64v) ∧ OwnT w0 w' p (tickT T now) cnt := by
  obtain ⟨ub, bs, v, h1, h2, h3⟩ := h
  refine (tick_of h1 now).mono ?_
  rintro e w' ⟨ve, he, hr, hc, bs', v', g1, g2⟩
  exact ⟨ve, he, hr, ub, bs', v', g1, fun k hk => h2 k (g2 k hk), h3.trans hc (fun i hi e => by have := h2 i e; omega)⟩
theorem ownt_close {w0 w : World} {p : Nat} {T : Tb} {cnt : Nat} (h : OwnT w0 w p T cnt) (tk : UInt64) (now : Int) :
    Calls Try.prog 14 #[.pointer (some ⟨p, 0, none⟩), .int .u64 (tk.toNat : Int), .int .i64 now] w fun e w' => e = .returned (.int .i64 (closeOf T tk now).1) ∧ OwnT w0 w' p (closeOf T tk now).2 cnt := by
  obtain ⟨ub, bs, v, h1, h2, h3⟩ := h
  refine (close_of h1 tk now).mono ?_
  rintro e w' ⟨he, hc, bs', v', g1, g2⟩
  exact ⟨he, ub, bs', v', g1, fun k hk => h2 k (g2 k hk), h3.trans hc (fun i hi e => by have := h2 i e; omega)⟩
theorem ownt_find {w0 w : World} {p : Nat} {T : Tb} {cnt : Nat} (h : OwnT w0 w p T cnt) (tk : UInt64) :
    Calls Try.prog 24 #[.pointer (some ⟨p, 0, none⟩), .int .u64 (tk.toNat : Int)] w fun e w' => e = .returned (.tuple #[.int .i64 (findOf T.L tk).1, .int .i64 (findOf T.L tk).2.1, .bool (findOf T.L tk).2.2]) ∧ OwnT w0 w' p T cnt := by
  obtain ⟨ub, bs, v, h1, h2, h3⟩ := h
  refine (tfind_any h1 tk).mono ?_
  rintro e w' ⟨he, hc⟩
  exact ⟨he, ub, bs, v, h1.pure hc, h2, h3.pure hc⟩
theorem ownt_live {w0 w : World} {p : Nat} {T : Tb} {cnt : Nat} (h : OwnT w0 w p T cnt) :
    Calls Try.prog 13 #[.pointer (some ⟨p, 0, none⟩)] w fun e w' => e = .returned (.int .i64 (T.L.length : Nat)) ∧ w = w' := by
  obtain ⟨ub, bs, v, h1, h2, h3⟩ := h
  exact tlive_any h1
theorem OwnT.lm {w0 w : World} {p : Nat} {T : Tb} {cnt : Nat} (h : OwnT w0 w p T cnt) : T.L.length ≤ T.most ∧ T.most ≤ 64 := by
  obtain ⟨ub, bs, v, h1, h2, h3⟩ := h
  exact ⟨h1.lm, h1.m64⟩
theorem Mg.val_eq (m : Mg) : m.val = .agg #[.int .i64 m.kind, .int .u64 (m.token.toNat : Int), .int .i64 m.epoch, .int .i64 m.seq, .int .i64 m.ack, .int .u64 (m.bits.toNat : Int), .int .i64 m.credit, .int .i64 m.format, .slice m.A m.n m.c] := rfl
def helloM (t : UInt64) : Mg := ⟨3, t, 0, 0, 0, 0, 0, 1, none, 0, 0⟩
theorem hello_msg (t : UInt64) (w : World) : Calls Try.prog 12 #[.int .u64 (t.toNat : Int)] w fun e w' => e = .returned (helloM t).val ∧ Chg Pure' w w' := by
  have hz := zero_msg20
  go_enter Try.func12, Try.ntmps12
  go_wp2_with (fail)
  refine bodyPost_ret (v := (helloM t).val) ?_ rfl ⟨rfl, (Chg.refl _ w).alloc _⟩
  unfold results
  go_simp
  try rfl
theorem alive_h1 : helloOf (newT 2 10) (helloM 0) 7 0 = ((welcomeM 7 1 1, 0), { beginT (tickT (newT 2 10) 0) 7 with L := [⟨7, 1, 1, 0⟩] }) := by
  rfl
theorem alive_h2 : (helloOf { beginT (tickT (newT 2 10) 0) 7 with L := [⟨7, 1, 1, 0⟩] } (helloM 7) 0 1).1 = (welcomeM 7 2 1, 0) ∧ (helloOf { beginT (tickT (newT 2 10) 0) 7 with L := [⟨7, 1, 1, 0⟩] } (helloM 7) 0 1).2.L.length = 1 := by
  exact ⟨rfl, rfl⟩
set_option maxRecDepth 100000 in
set_option maxHeartbeats 2000000 in
theorem alive20 (w : World) : Calls Try.prog 10 #[] w fun e w' => e = .returned (.bool true) ∧ Chg Pure' w w' := by
  have hz := zero_msg20
  go_enter Try.func10, Try.ntmps10
  go_wp2_with (fail)
  refine (ownt_new 2 10 w (by omega) (by omega) (by omega) (by omega)).mono ?_
  rintro e w1 ⟨rfl, s1⟩
  go_wp2_with (fail)
  refine (hello_msg 0 _).mono ?_
  rintro e w2 ⟨rfl, c2⟩
  go_wp2_with (fail)
  refine (ownt_hello (s1.pure c2) (helloM 0) 7 0 (by omega)).mono ?_
  rintro e w3 ⟨rfl, s3⟩
  rw [alive_h1] at s3 ⊢
  obtain ⟨T2, hT2⟩ : ∃ T2, T2 = ({ beginT (tickT (newT 2 10) 0) 7 with L := [⟨7, 1, 1, 0⟩] } : Tb) := ⟨_, rfl⟩
  rw [← hT2] at s3
  obtain ⟨g1, g2⟩ : (helloOf T2 (helloM 7) 0 1).1 = (welcomeM 7 2 1, 0) ∧ (helloOf T2 (helloM 7) 0 1).2.L.length = 1 := by rw [hT2]; exact alive_h2
  have G1 := Lib.hid g1
  have G2 := Lib.hid g2
  clear hT2 g1 g2
  rw [show (welcomeM 7 1 1).val = .agg #[.int .i64 4, .int .u64 7, .int .i64 1, .int .i64 0, .int .i64 0, .int .u64 0, .int .i64 0, .int .i64 1, .slice none 0 0] from rfl]
  have ca : Chg Pure' w3 (w3.alloc (.cells #[.int .i64 4, .int .u64 7, .int .i64 1, .int .i64 0, .int .i64 0, .int .u64 0, .int .i64 0, .int .i64 1, .slice none 0 0] 32)) := (Chg.refl _ w3).alloc _
  have l1 : (w3.alloc (.cells #[.int .i64 4, .int .u64 7, .int .i64 1, .int .i64 0, .int .i64 0, .int .u64 0, .int .i64 0, .int .i64 1, .slice none 0 0] 32)).cell? ⟨w3.heap.size, 1, none⟩ = some (.int .u64 7) := cellAt_alloc_lit w3 _ _ 1
  have l2 : (w3.alloc (.cells #[.int .i64 4, .int .u64 7, .int .i64 1, .int .i64 0, .int .i64 0, .int .u64 0, .int .i64 0, .int .i64 1, .slice none 0 0] 32)).cell? ⟨w3.heap.size, 2, none⟩ = some (.int .i64 1) := cellAt_alloc_lit w3 _ _ 2
  obtain ⟨ub, bs, v, t1, t2, t3⟩ := s3
  have fl := Lib.hid (fun k (hk : TFoot (w.heap.size + 1) ub bs v k) => t1.flt hk)
  have HT2 := Lib.hid t2
  have s4 := Lib.hid (t1.pure ca)
  have C4 := t3.pure ca
  have hs4 : (w3.alloc (.cells #[.int .i64 4, .int .u64 7, .int .i64 1, .int .i64 0, .int .i64 0, .int .u64 0, .int .i64 0, .int .i64 1, .slice none 0 0] 32)).heap.size = w3.heap.size + 1 := by simp
  clear s1 t1 t2 t3
  go_wp2_with (fail)
  generalize (w3.alloc (.cells #[.int .i64 4, .int .u64 7, .int .i64 1, .int .i64 0, .int .i64 0, .int .u64 0, .int .i64 0, .int .i64 1, .slice none 0 0] 32)) = w4 at *
  refine (hello_msg 7 _).mono ?_
  rintro e w5 ⟨rfl, c5⟩
  have l1 := c5.cell l1 (fun h => h)
  have l2 := c5.cell l2 (fun h => h)
  have nf : ¬ TFoot (w.heap.size + 1) ub bs v w3.heap.size := fun e => by have := fl.out _ e; omega
  go_wp2_with (fail)
  refine (hello_of (s4.out.pure c5) (helloM 7) 0 1 (by omega)).mono ?_
  rintro e w6 ⟨rfl, c6, bs6, v6, t6, f6⟩
  have l1 := c6.cell l1 nf
  have l2 := c6.cell l2 nf
  have T6 := Lib.hid t6
  have C6 := (C4.pure c5).trans c6 (fun i hi e => by have := HT2.out i e; omega)
  rw [G1.out]
  rw [show (welcomeM 7 2 1).val = .agg #[.int .i64 4, .int .u64 7, .int .i64 2, .int .i64 0, .int .i64 0, .int .u64 0, .int .i64 0, .int .i64 1, .slice none 0 0] from rfl]
  have ca : Chg Pure' w6 (w6.alloc (.cells #[.int .i64 4, .int .u64 7, .int .i64 2, .int .i64 0, .int .i64 0, .int .u64 0, .int .i64 0, .int .i64 1, .slice none 0 0] 32)) := (Chg.refl _ w6).alloc _
  have l3 : (w6.alloc (.cells #[.int .i64 4, .int .u64 7, .int .i64 2, .int .i64 0, .int .i64 0, .int .u64 0, .int .i64 0, .int .i64 1, .slice none 0 0] 32)).cell? ⟨w6.heap.size, 2, none⟩ = some (.int .i64 2) := cellAt_alloc_lit w6 _ _ 2
  have l1 := ca.cell l1 (fun h => h)
  have l2 := ca.cell l2 (fun h => h)
  have T7 := Lib.hid (T6.out.pure ca)
  clear t6 c6 c5 s4
  go_wp2_with (fail)
  generalize (w6.alloc (.cells #[.int .i64 4, .int .u64 7, .int .i64 2, .int .i64 0, .int .i64 0, .int .u64 0, .int .i64 0, .int .i64 1, .slice none 0 0] 32)) = w7 at *
  refine (tlive_any T7.out).mono ?_
  rintro e w8 ⟨rfl, rfl⟩
  rw [G2.out]
  go_wp2
  go_ret
  exact ⟨rfl, C6.pure ca⟩
end Go.Proofs.Ytpfnphkgmjgmeaa
