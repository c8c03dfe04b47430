/- Package sess, going on: messages, and a session that is written anew. -/
import Derived.Test.YtpfnphkgmjgmeaaSessF
namespace Go.Proofs.Ytpfnphkgmjgmeaa
open Go Go.RowKit
set_option linter.unusedVariables false
set_option linter.unusedSimpArgs false

theorem zero_msg20 (w : World) : (zeroValue 32).run Try.prog w = .ok (.agg #[.int .i64 0, .int .u64 0, .int .i64 0, .int .i64 0, .int .i64 0, .int .u64 0, .int .i64 0, .int .i64 0, .slice none 0 0]) w := by kernel_rfl
/-- A message's values. -/
structure Mg where
  kind : Int
  token : UInt64
  epoch : Int
  seq : Int
  ack : Int
  bits : UInt64
  credit : Int
  format : Int
  A : Option Addr
  n : Nat
  c : Nat
def Mg.cells (m : Mg) : Array Value := #[.int .i64 m.kind, .int .u64 (m.token.toNat : Int), .int .i64 m.epoch, .int .i64 m.seq, .int .i64 m.ack, .int .u64 (m.bits.toNat : Int), .int .i64 m.credit, .int .i64 m.format, .slice m.A m.n m.c]
def Mg.val (m : Mg) : Value := .agg m.cells
/-- The message that says 'reset'. -/
def resetM (t : UInt64) : Mg := ⟨5, t, 0, 0, 0, 0, 0, 0, none, 0, 0⟩
def welcomeM (t : UInt64) (e f : Int) : Mg := ⟨4, t, e, 0, 0, 0, 0, f, none, 0, 0⟩
theorem refuse_any (mb : Nat) (tok : UInt64) (e : Int) (w : World) (h : w.cell? ⟨mb, 1, none⟩ = some (.int .u64 (tok.toNat : Int))) (hm : mb < w.heap.size) :
    Calls Try.prog 26 #[.int .i64 e, .pointer (some ⟨mb, 0, none⟩)] w fun e' w' => e' = .returned (.tuple #[(resetM tok).val, .int .i64 e]) ∧ Chg Pure' w w' := by
  have hz := zero_msg20
  have ca : Chg Pure' w (w.alloc (.cells #[.int .i64 0, .int .u64 0, .int .i64 0, .int .i64 0, .int .i64 0, .int .u64 0, .int .i64 0, .int .i64 0, .slice none 0 0] 32)) := (Chg.refl _ w).alloc _
  have h1 := ca.cell h (fun h => h)
  go_enter Try.func26, Try.ntmps26
  go_wp2_with (fail)
  refine bodyPost_ret (v := .tuple #[(resetM tok).val, .int .i64 e]) ?_ rfl ⟨rfl, (Chg.refl _ w).alloc _⟩
  unfold results
  go_simp
  try rfl
theorem nodup_inj {l : List Nat} (h : l.Nodup) {i j : Nat} (hi : i < l.length) (hj : j < l.length) (e : l[i] = l[j]) : i = j := by
  rcases Nat.lt_trichotomy i j with h1 | h1 | h1
  · exact absurd e ((List.pairwise_iff_getElem.1 h) i j hi hj h1)
  · exact h1
  · exact absurd e.symm ((List.pairwise_iff_getElem.1 h) j i hj hi h1)
/-- A session is written anew. -/
theorem TabOf.seset {w w' : World} {p ub : Nat} {bs : List Nat} {v : Value} {T : Tb} {cnt cnt' i : Nat} (h : TabOf w p ub bs v T cnt) (hi : i < bs.length) (y : Se) (hc : Chg (fun k => k = bs[i]) w w') (hy : SeAt w' bs[i] y)
    (he : 0 ≤ y.epoch ∧ y.epoch ≤ cnt' ∧ 0 ≤ y.last ∧ y.last ≤ 1099511627776) (hcc : cnt ≤ cnt') : TabOf w' p ub bs v { T with L := T.L.set i y } cnt' := by
  have hmem := List.getElem_mem hi
  have hap := h.ap _ hmem
  obtain ⟨cs, b1, b2⟩ := h.blk
  have np : ¬ p = bs[i] := fun e => hap.1 e.symm
  have nu : ¬ ub = bs[i] := fun e => hap.2.1 e.symm
  have hm : MapU w' 29 ub cnt' (usedM T.U) := by
    have := h.map.chg hc nu
    obtain ⟨D, h1, h2⟩ := this
    exact ⟨D, h1.mono hcc, h2⟩
  refine ⟨⟨cs, (hc.block p h.plt np).trans b1, b2⟩, hc.cell h.c0 np, hc.cell h.c1 np, hc.cell h.c2 np, hc.cell h.c3 np, hc.cell h.c4 np, ?_, hm, by simpa using h.len, ?_, h.inj, h.ap, h.pb, h.vp, h.vu, h.m1, h.m64, h.i1, h.i2, h.n0, by simpa using h.lm, ?_⟩
  · simpa using own_keep h.row hc (fun g hg e => hap.2.2 (by rw [← show g = bs[i] from e]; exact hg))
  · intro j h1 h2
    by_cases hj : j = i
    · subst hj
      simp only [List.getElem_set_self]
      exact hy
    · simp only [List.getElem_set_ne (fun e => hj e.symm)]
      have h3 : j < T.L.length := by rw [← h.len]; exact h1
      refine (h.ses j h1 h3).frame hc (fun e => hj ?_)
      exact nodup_inj h.inj h1 hi e
  · intro x hx
    rcases List.mem_or_eq_of_mem_set hx with hx | rfl
    · have := h.ep x hx; omega
    · exact he
end Go.Proofs.Ytpfnphkgmjgmeaa
