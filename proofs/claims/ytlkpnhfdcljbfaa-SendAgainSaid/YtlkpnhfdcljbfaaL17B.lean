/- The laws of layer 17, going on: a call without looking. -/
import Derived.Test.YtlkpnhfdcljbfaaL17
namespace Go.Proofs.Ytlkpnhfdcljbfaa
open Go Go.RowKit
set_option linter.unusedVariables false
set_option linter.unusedSimpArgs false

theorem OwnS.more {w0 w : World} {p b W base lim : Nat} {Ls : List Ld} {cnt : Nat} (h : OwnS w0 w p b W base lim Ls cnt) : OwnS w0 w p b W base lim Ls (cnt + 1) := by
  obtain ⟨adr, D, h, h2, h3⟩ := h
  exact ⟨adr, D, ⟨h.blk, h.w1, h.w32, h.b1, h.len, h.nx, h.lm, h.c0, h.c1, h.c2, h.c3, h.c4, h.map.mono, h.lds, h.pb, h.inj, h.ap, h.dd⟩, h2, h3⟩
theorem and3 (a : Int) : bits .and .i64 a 3 = 0 ∨ bits .and .i64 a 3 = 1 ∨ bits .and .i64 a 3 = 2 ∨ bits .and .i64 a 3 = 3 := by
  have e : bits .and .i64 a 3 = IntKind.i64.wrap ((BitVec.ofInt 64 a &&& BitVec.ofInt 64 3).toNat : Int) := rfl
  have h : (BitVec.ofInt 64 a &&& BitVec.ofInt 64 3).toNat ≤ 3 := by
    rw [BitVec.toNat_and]
    exact Nat.le_trans Nat.and_le_right (by decide)
  rw [e, IntKind.wrap_i64]
  omega
theorem ackOf_base (base lim : Nat) (Ls : List Ld) (ack : Int) (m : UInt64) (credit : Int) : base ≤ (ackOf base lim Ls ack m credit).2.1 := by
  unfold ackOf; split
  · exact Nat.le_add_right _ _
  · exact Nat.le_refl _
theorem resOf_base (base lim : Nat) (Ls : List Ld) (ack credit now : Int) : base ≤ (resOf base lim Ls ack credit now).2.1 := by
  unfold resOf; split
  · exact Nat.le_add_right _ _
  · exact Nat.le_refl _
set_option maxHeartbeats 1000000 in
theorem own_plays {w0 w : World} {p b W base lim : Nat} {Ls : List Ld} {cnt : Nat} (h : OwnS w0 w p b W base lim Ls cnt) (kind now n credit : Int) (m : UInt64) (A : Option Addr) (l c : Nat) (xs : List UInt8) (hA : Bytes w A l xs) (hn : l ≤ 140737488351232) (hcnt : cnt ≤ 4611686018427387904) :
    Calls Try.prog 15 #[.pointer (some ⟨p, 0, none⟩), .agg #[.int .i64 kind, .int .i64 now, .int .i64 n, .int .i64 credit, .int .u64 (m.toNat : Int), .slice A l c]] w fun e w' => e = .returned (.tuple #[]) ∧
      ∃ base' lim' Ls', base ≤ base' ∧ OwnS w0 w' p b W base' lim' Ls' (cnt + 1) := by
  have ca : Chg Pure' w (w.alloc (.cells #[.int .i64 kind, .int .i64 now, .int .i64 n, .int .i64 credit, .int .u64 (m.toNat : Int), .slice A l c] 39)) := (Chg.refl _ w).alloc _
  have s1 := h.pure ca
  have hA1 := hA.pure ca
  rcases and3 kind with hk | hk | hk | hk
  · go_enter Try.func15, Try.ntmps15
    go_wp2_with (fail)
    refine (own_push s1 A l c xs now hA1 hn hcnt).mono ?_
    rintro e w2 ⟨rfl, s2⟩
    go_wp2
    refine bodyPost_end (v := .tuple #[]) (by unfold results; go_simp) rfl ⟨rfl, _, _, _, Nat.le_refl _, s2⟩
  · go_enter Try.func15, Try.ntmps15
    go_wp2_with (fail)
    refine (own_due s1 now).mono ?_
    rintro e w2 ⟨v, vs, rfl, -, s2, -⟩
    go_wp2
    refine bodyPost_end (v := .tuple #[]) (by unfold results; go_simp) rfl ⟨rfl, _, _, _, Nat.le_refl _, s2.more⟩
  · go_enter Try.func15, Try.ntmps15
    go_wp2_with (fail)
    refine (own_ack s1 n m credit).mono ?_
    rintro e w2 ⟨rfl, s2⟩
    go_wp2
    refine bodyPost_end (v := .tuple #[]) (by unfold results; go_simp) rfl ⟨rfl, _, _, _, ackOf_base _ _ _ _ _ _, s2.more⟩
  · go_enter Try.func15, Try.ntmps15
    go_wp2_with (fail)
    refine (own_res s1 n credit now).mono ?_
    rintro e w2 ⟨rfl, s2⟩
    go_wp2
    refine bodyPost_end (v := .tuple #[]) (by unfold results; go_simp) rfl ⟨rfl, _, _, _, resOf_base _ _ _ _ _ _, s2.more⟩
end Go.Proofs.Ytlkpnhfdcljbfaa
