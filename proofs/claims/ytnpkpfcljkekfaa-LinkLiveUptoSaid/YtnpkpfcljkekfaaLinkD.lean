/- Datagrams are unpacked by the document. -/
import Derived.Test.YtnpkpfcljkekfaaKD
namespace Go.Proofs.Ytnpkpfcljkekfaa
open Go Go.RowKit
set_option linter.unusedVariables false
set_option maxRecDepth 100000
set_option linter.unusedSimpArgs false

/-- The message of nothing. -/
def zeroM : Ms := ⟨0, 0, 0, 0, 0, 0, 0, 0, []⟩
/-- A number that is too great is -1. -/
def numD (n : Nat) : Int := if n ≤ 4611686018427387904 then (n : Int) else -1
/-- The message that numbers and a rest make. -/
def madeM (a b c d e f g h : Nat) (r : List UInt8) : Ms := ⟨numD a, UInt64.ofNat b, numD c, numD d, numD e, UInt64.ofNat f, numD g, numD h, r⟩
theorem made_small {a b c d e f g h : Nat} {r : List UInt8} (hm : (madeM a b c d e f g h r).may = true) : a ≤ 4611686018427387904 ∧ c ≤ 4611686018427387904 ∧ d ≤ 4611686018427387904 ∧ e ≤ 4611686018427387904 ∧ g ≤ 4611686018427387904 ∧ h ≤ 4611686018427387904 := by
  obtain ⟨h1, h2, h3, h4⟩ := (madeM a b c d e f g h r).may_iff.1 hm
  have key : ∀ n, 0 ≤ numD n → n ≤ 4611686018427387904 := fun n hn => by
    unfold numD at hn
    split at hn
    · assumption
    · omega
  exact ⟨key a (h1 0 (by decide)).1, key c (h1 1 (by decide)).1, key d (h1 2 (by decide)).1, key e (h1 3 (by decide)).1, key g (h1 4 (by decide)).1, key h (h1 5 (by decide)).1⟩
theorem tell_made {l : List UInt8} {a b c d e f g h : Nat} {z : Cr} (ht : told l = ([a, b, c, d, e, f, g, h], z)) :
    tellM l = if z.why = 0 ∧ (madeM a b c d e f g h (l.drop z.pos)).may = true then some (madeM a b c d e f g h (l.drop z.pos)) else none := by
  unfold tellM
  rw [ht]
  simp only
  by_cases hs : z.why = 0 ∧ small a = true ∧ small c = true ∧ small d = true ∧ small e = true ∧ small g = true ∧ small h = true
  · rw [if_pos hs]
    obtain ⟨hw, s1, s2, s3, s4, s5, s6⟩ := hs
    simp only [small, decide_eq_true_eq] at s1 s2 s3 s4 s5 s6
    have hm : madeM a b c d e f g h (l.drop z.pos) = ⟨a, UInt64.ofNat b, c, d, e, UInt64.ofNat f, g, h, l.drop z.pos⟩ := by
      unfold madeM numD
      rw [if_pos s1, if_pos s2, if_pos s3, if_pos s4, if_pos s5, if_pos s6]
    rw [hm]
    simp only [hw, true_and]
  · rw [if_neg hs, if_neg]
    rintro ⟨hw, hm⟩
    obtain ⟨s1, s2, s3, s4, s5, s6⟩ := made_small hm
    exact hs ⟨hw, by simpa [small] using s1, by simpa [small] using s2, by simpa [small] using s3, by simpa [small] using s4, by simpa [small] using s5, by simpa [small] using s6⟩
/-- What an Unpack answers. -/
def unpR (b : List UInt8) : Ms × Int := match unpackB b with | .ok m => (m, 0) | .error k => (zeroM, k)
/-- What an Unpack leaves. -/
def unpackPost (w : World) (b : List UInt8) (e : Ending) (w' : World) : Prop :=
  Chg Pure' w w' ∧ ∃ A q, e = .returned (.tuple #[(unpR b).1.val A (unpR b).1.load.length q, .int .i64 (unpR b).2]) ∧ Bytes w' A (unpR b).1.load.length (unpR b).1.load ∧ (unpR b).1.load.length ≤ q ∧ From A w.heap.size
theorem unpack_zero {w w' : World} {b : List UInt8} {k : Int} (h : unpackB b = .error k) (hc : Chg Pure' w w') :
    unpackPost w b (.returned (.tuple #[.agg #[.int .i64 0, .int .u64 0, .int .i64 0, .int .i64 0, .int .i64 0, .int .u64 0, .int .i64 0, .int .i64 0, .slice none 0 0], .int .i64 k])) w' := by
  have e : unpR b = (zeroM, k) := by unfold unpR; rw [h]
  refine ⟨hc, none, 0, ?_, ?_, ?_, fun a ha => by cases ha⟩
  · rw [e]; rfl
  · rw [e]; exact Bytes.nil _ _
  · rw [e]; exact Nat.le_refl _
theorem unpack_good {w w' : World} {b : List UInt8} {m : Ms} {A : Option Addr} {q : Nat} (h : unpackB b = .ok m) (hc : Chg Pure' w w') (hb : Bytes w' A m.load.length m.load) (hq : m.load.length ≤ q) (hf : From A w.heap.size) :
    unpackPost w b (.returned (.tuple #[m.val A m.load.length q, .int .i64 0])) w' := by
  have e : unpR b = (m, 0) := by unfold unpR; rw [h]
  exact ⟨hc, A, q, by rw [e], by rw [e]; exact hb, by rw [e]; exact hq, hf⟩
theorem unpack_whole {b l : List UInt8} (h : lookB b = .whole l) : unpackB b = if l.length + 8 = b.length then (match tellM l with | some m => .ok m | none => .error 5) else .error 4 := by
  unfold unpackB
  rw [h]
  simp only
  by_cases hl : l.length + 8 = b.length
  · rw [if_pos hl, if_pos hl]
    cases tellM l <;> rfl
  · rw [if_neg hl, if_neg hl]
theorem shortC_b (c : Cr) : (shortC c).2.b = c.b := by
  unfold shortC
  split
  · rfl
  · split <;> rfl
theorem takeC_why (c : Cr) : (takeC c).why = c.why := by
  unfold takeC
  split
  · rename_i h; exact h.symm
  · rfl
theorem u64_ofNat {n : Nat} (h : n < 18446744073709551616) : (((UInt64.ofNat n).toNat : Nat) : Int) = (n : Int) := by
  rw [UInt64.toNat_ofNat']; omega
theorem at_every (A : Option Addr) (n c : Nat) (xs : List UInt8) (w : World) (hA : Bytes w A n xs) (hc : n ≤ c) (hn : n ≤ 140737488351232) :
    Calls Try.prog 43 #[.slice A n c] w (atPost w xs) := by
  by_cases h1 : 1 ≤ n
  · obtain ⟨b, off, rfl, -⟩ := hA.cells (by omega)
    cases hh : headOk xs with
    | false => exact at_bad b off n c xs w hA h1 hn hh
    | true =>
      by_cases h4 : n < 4
      · exact at_short b off n c xs w hA h1 h4 hh
      · exact at_long b off n c xs w hA hc (by omega) hn hh
  · obtain rfl : n = 0 := by omega
    have hx : xs = [] := List.eq_nil_of_length_eq_zero hA.len
    subst hx
    clear hA
    go_enter Try.func43, Try.ntmps43
    go_wp2_with (fail)
    all_goals try go_quiet (fail)
    all_goals go_wp2
    all_goals go_ret3
    all_goals exact ⟨by first | exact Chg.refl _ _ | exact (Chg.refl _ _).drewN _, by rw [look_nil]; rfl⟩
theorem rnumber_any (n : Nat) (w : World) (hn : n < 18446744073709551616) :
    Calls Try.prog 44 #[.int .u64 (n : Nat)] w fun e w' => e = .returned (.int .i64 (numD n)) ∧ w = w' := by
  by_cases h : n ≤ 4611686018427387904
  · have e : numD n = n := by unfold numD; rw [if_pos h]
    have i1 : ((4611686018427387904 : Int) < (n : Int)) = False := eq_false (by omega)
    have i2 : (n : Int) ≤ 4611686018427387904 := by omega
    rw [e]
    clear e
    go_enter Try.func44, Try.ntmps44
    go_wp2
    go_ret
    exact ⟨rfl, rfl⟩
  · have e : numD n = -1 := by unfold numD; rw [if_neg h]
    have i1 : (4611686018427387904 : Int) < (n : Int) := by omega
    rw [e]
    clear e
    go_enter Try.func44, Try.ntmps44
    go_wp2
    go_ret
    exact ⟨rfl, rfl⟩
theorem zero_msg19 (w : World) : (zeroValue 25).run Try.prog w = .ok (.agg #[.int .i64 0, .int .u64 0, .int .i64 0, .int .i64 0, .int .i64 0, .int .u64 0, .int .i64 0, .int .i64 0, .slice none 0 0]) w := by kernel_rfl
theorem zero_rcur (w : World) : (zeroValue 84).run Try.prog w = .ok (.agg #[.slice none 0 0, .int .i64 0, .int .i64 0, .int .i64 0]) w := by kernel_rfl
/-- A field of a message in memory. -/
theorem msg_cell {w : World} {mb : Nat} {cs : Array Value} (h : w.heap[mb]? = some (.cells cs 25 (0, 0))) (j : Nat) : w.cell? ⟨mb, j, none⟩ = cs[j]? := cell_of_row w mb j cs _ _ h
theorem msg_set {w : World} {mb : Nat} {cs : Array Value} (h : w.heap[mb]? = some (.cells cs 25 (0, 0))) (j : Nat) (v : Value) : (w.setCell ⟨mb, j, none⟩ v).heap[mb]? = some (.cells (cs.setIfInBounds j v) 25 (0, 0)) := heap_setCell_same w mb j cs _ v h
theorem setC {w : World} (mb j : Nat) (v : Value) : Chg (fun k => k = mb) w (w.setCell ⟨mb, j, none⟩ v) := Chg.setCell (S := fun k => k = mb) (Chg.refl _ w) (p := ⟨mb, j, none⟩) (.inr rfl) v
theorem nine {w : World} {rb : Nat} {a0 a1 a2 a3 a4 a5 a6 a7 a8 : Value} (h : w.heap[rb]? = some (.cells #[a0, a1, a2, a3, a4, a5, a6, a7, a8] 25 (0, 0))) (v0 v1 v2 v3 v4 v5 v6 v7 v8 : Value) :
    Chg (fun k => k = rb) w (((((((((w.setCell ⟨rb, 0, none⟩ v0).setCell ⟨rb, 1, none⟩ v1).setCell ⟨rb, 2, none⟩ v2).setCell ⟨rb, 3, none⟩ v3).setCell ⟨rb, 4, none⟩ v4).setCell ⟨rb, 5, none⟩ v5).setCell ⟨rb, 6, none⟩ v6).setCell ⟨rb, 7, none⟩ v7).setCell ⟨rb, 8, none⟩ v8) ∧
    (((((((((w.setCell ⟨rb, 0, none⟩ v0).setCell ⟨rb, 1, none⟩ v1).setCell ⟨rb, 2, none⟩ v2).setCell ⟨rb, 3, none⟩ v3).setCell ⟨rb, 4, none⟩ v4).setCell ⟨rb, 5, none⟩ v5).setCell ⟨rb, 6, none⟩ v6).setCell ⟨rb, 7, none⟩ v7).setCell ⟨rb, 8, none⟩ v8).heap[rb]? = some (.cells #[v0, v1, v2, v3, v4, v5, v6, v7, v8] 25 (0, 0)) := by
  have s0 : (w.setCell ⟨rb, 0, none⟩ v0).heap[rb]? = some (.cells #[v0, a1, a2, a3, a4, a5, a6, a7, a8] 25 (0, 0)) := msg_set h 0 v0
  have s1 : ((w.setCell ⟨rb, 0, none⟩ v0).setCell ⟨rb, 1, none⟩ v1).heap[rb]? = some (.cells #[v0, v1, a2, a3, a4, a5, a6, a7, a8] 25 (0, 0)) := msg_set s0 1 v1
  have s2 : (((w.setCell ⟨rb, 0, none⟩ v0).setCell ⟨rb, 1, none⟩ v1).setCell ⟨rb, 2, none⟩ v2).heap[rb]? = some (.cells #[v0, v1, v2, a3, a4, a5, a6, a7, a8] 25 (0, 0)) := msg_set s1 2 v2
  have s3 : ((((w.setCell ⟨rb, 0, none⟩ v0).setCell ⟨rb, 1, none⟩ v1).setCell ⟨rb, 2, none⟩ v2).setCell ⟨rb, 3, none⟩ v3).heap[rb]? = some (.cells #[v0, v1, v2, v3, a4, a5, a6, a7, a8] 25 (0, 0)) := msg_set s2 3 v3
  have s4 : (((((w.setCell ⟨rb, 0, none⟩ v0).setCell ⟨rb, 1, none⟩ v1).setCell ⟨rb, 2, none⟩ v2).setCell ⟨rb, 3, none⟩ v3).setCell ⟨rb, 4, none⟩ v4).heap[rb]? = some (.cells #[v0, v1, v2, v3, v4, a5, a6, a7, a8] 25 (0, 0)) := msg_set s3 4 v4
  have s5 : ((((((w.setCell ⟨rb, 0, none⟩ v0).setCell ⟨rb, 1, none⟩ v1).setCell ⟨rb, 2, none⟩ v2).setCell ⟨rb, 3, none⟩ v3).setCell ⟨rb, 4, none⟩ v4).setCell ⟨rb, 5, none⟩ v5).heap[rb]? = some (.cells #[v0, v1, v2, v3, v4, v5, a6, a7, a8] 25 (0, 0)) := msg_set s4 5 v5
  have s6 : (((((((w.setCell ⟨rb, 0, none⟩ v0).setCell ⟨rb, 1, none⟩ v1).setCell ⟨rb, 2, none⟩ v2).setCell ⟨rb, 3, none⟩ v3).setCell ⟨rb, 4, none⟩ v4).setCell ⟨rb, 5, none⟩ v5).setCell ⟨rb, 6, none⟩ v6).heap[rb]? = some (.cells #[v0, v1, v2, v3, v4, v5, v6, a7, a8] 25 (0, 0)) := msg_set s5 6 v6
  have s7 : ((((((((w.setCell ⟨rb, 0, none⟩ v0).setCell ⟨rb, 1, none⟩ v1).setCell ⟨rb, 2, none⟩ v2).setCell ⟨rb, 3, none⟩ v3).setCell ⟨rb, 4, none⟩ v4).setCell ⟨rb, 5, none⟩ v5).setCell ⟨rb, 6, none⟩ v6).setCell ⟨rb, 7, none⟩ v7).heap[rb]? = some (.cells #[v0, v1, v2, v3, v4, v5, v6, v7, a8] 25 (0, 0)) := msg_set s6 7 v7
  have s8 : (((((((((w.setCell ⟨rb, 0, none⟩ v0).setCell ⟨rb, 1, none⟩ v1).setCell ⟨rb, 2, none⟩ v2).setCell ⟨rb, 3, none⟩ v3).setCell ⟨rb, 4, none⟩ v4).setCell ⟨rb, 5, none⟩ v5).setCell ⟨rb, 6, none⟩ v6).setCell ⟨rb, 7, none⟩ v7).setCell ⟨rb, 8, none⟩ v8).heap[rb]? = some (.cells #[v0, v1, v2, v3, v4, v5, v6, v7, v8] 25 (0, 0)) := msg_set s7 8 v8
  exact ⟨((((((((setC rb 0 v0).trans' (setC rb 1 v1)).trans' (setC rb 2 v2)).trans' (setC rb 3 v3)).trans' (setC rb 4 v4)).trans' (setC rb 5 v5)).trans' (setC rb 6 v6)).trans' (setC rb 7 v7)).trans' (setC rb 8 v8), s8⟩
set_option maxHeartbeats 16000000 in
theorem runpack_any (A0 : Option Addr) (n0 q0 : Nat) (b : List UInt8) (w : World) (hA : Bytes w A0 n0 b) (hq : n0 ≤ q0) (hn : n0 ≤ 140737488351232) :
    Calls Try.prog 12 #[.slice A0 n0 q0] w (unpackPost w b) := by
  have hz1 := zero_msg19
  have hz2 := zero_rcur
  have hl := hA.len
  have HL := Lib.hid hl
  clear hl
  obtain ⟨wr, hwr⟩ : ∃ wr, w.alloc (.cells #[.int .i64 0, .int .u64 0, .int .i64 0, .int .i64 0, .int .i64 0, .int .u64 0, .int .i64 0, .int .i64 0, .slice none 0 0] 25) = wr := ⟨_, rfl⟩
  have cr : Chg Pure' w wr := by rw [← hwr]; exact (Chg.refl _ w).alloc _
  have hrb : wr.heap[w.heap.size]? = some (.cells #[.int .i64 0, .int .u64 0, .int .i64 0, .int .i64 0, .int .i64 0, .int .u64 0, .int .i64 0, .int .i64 0, .slice none 0 0] 25 (0, 0)) := by rw [← hwr]; exact heap_alloc_new w _
  have HRB := Lib.hid hrb
  have HAT := Lib.hid (at_every A0 n0 q0 b wr (hA.pure cr) hq hn)
  clear hrb
  go_enter Try.func12, Try.ntmps12
  go_wp2_with (fail)
  try rw [hwr]
  clear hwr
  refine HAT.out.mono ?_
  rintro e w1 ⟨c1, hp⟩
  have C1 := cr.pure c1
  have HB1 := Lib.hid ((c1.block w.heap.size (Array.getElem?_eq_some_iff.1 HRB.out).1 (fun h => h)).trans HRB.out)
  have hszr := cr.size
  have hrs : w.heap.size < wr.heap.size := (Array.getElem?_eq_some_iff.1 HRB.out).1
  have hs1 := c1.size
  clear HAT HRB
  generalize hrbn : w.heap.size = rb at *
  have ff : ∀ j, w1.frozen? ⟨rb, j, none⟩ = false := fun j => free_at HB1.out
  have r0 := msg_cell HB1.out 0
  have r1 := msg_cell HB1.out 1
  have r2 := msg_cell HB1.out 2
  have r3 := msg_cell HB1.out 3
  have r4 := msg_cell HB1.out 4
  have r5 := msg_cell HB1.out 5
  have r6 := msg_cell HB1.out 6
  have r7 := msg_cell HB1.out 7
  have r8 := msg_cell HB1.out 8
  obtain ⟨n9, m9⟩ := nine HB1.out (.int .i64 0) (.int .u64 0) (.int .i64 0) (.int .i64 0) (.int .i64 0) (.int .u64 0) (.int .i64 0) (.int .i64 0) (.slice none 0 0)
  have N9 := Lib.hid n9
  have M9 := Lib.hid m9
  clear n9 m9
  have bad : ∀ (k : Int) (w2 : World), unpackB b = .error k → Chg Pure' w w2 → unpackPost w b (.returned (.tuple #[.agg #[.int .i64 0, .int .u64 0, .int .i64 0, .int .i64 0, .int .i64 0, .int .u64 0, .int .i64 0, .int .i64 0, .slice none 0 0], .int .i64 k])) w2 := fun k w2 h1 h2 => unpack_zero h1 h2
  obtain ⟨r, hr⟩ : ∃ r, lookB b = r := ⟨_, rfl⟩
  rw [hr] at hp
  cases r with
  | nothing =>
    obtain rfl := hp
    have hu : unpackB b = .error 4 := by unfold unpackB; rw [hr]
    clear hr
    have HU := Lib.hid hu
    clear hu
    by_cases h0 : n0 = 0
    · have i1 : ((n0 : Int) == 0) = true := by rw [h0]; rfl
      clear h0
      go_wp2
      have hq0 := fun j => msg_cell M9.out j
      refine bodyPost_ret (v := .tuple #[.agg #[.int .i64 0, .int .u64 0, .int .i64 0, .int .i64 0, .int .i64 0, .int .u64 0, .int .i64 0, .int .i64 0, .slice none 0 0], .int .i64 4]) ?_ rfl (bad 4 _ HU.out (C1.trans N9.out (fun i hi e => by have e : i = rb := e; omega)))
      unfold results
      go_simp
    · have i1 : ((n0 : Int) == 0) = false := by rw [beq_eq_false_iff_ne]; omega
      clear h0
      go_wp2
      have hq0 := fun j => msg_cell M9.out j
      refine bodyPost_ret (v := .tuple #[.agg #[.int .i64 0, .int .u64 0, .int .i64 0, .int .i64 0, .int .i64 0, .int .u64 0, .int .i64 0, .int .i64 0, .slice none 0 0], .int .i64 4]) ?_ rfl (bad 4 _ HU.out (C1.trans N9.out (fun i hi e => by have e : i = rb := e; omega)))
      unfold results
      go_simp
  | few =>
    obtain rfl := hp
    have hu : unpackB b = .error 4 := by unfold unpackB; rw [hr]
    clear hr
    have HU := Lib.hid hu
    clear hu
    by_cases h0 : n0 = 0
    · have i1 : ((n0 : Int) == 0) = true := by rw [h0]; rfl
      clear h0
      go_wp2
      have hq0 := fun j => msg_cell M9.out j
      refine bodyPost_ret (v := .tuple #[.agg #[.int .i64 0, .int .u64 0, .int .i64 0, .int .i64 0, .int .i64 0, .int .u64 0, .int .i64 0, .int .i64 0, .slice none 0 0], .int .i64 4]) ?_ rfl (bad 4 _ HU.out (C1.trans N9.out (fun i hi e => by have e : i = rb := e; omega)))
      unfold results
      go_simp
    · have i1 : ((n0 : Int) == 0) = false := by rw [beq_eq_false_iff_ne]; omega
      clear h0
      go_wp2
      have hq0 := fun j => msg_cell M9.out j
      refine bodyPost_ret (v := .tuple #[.agg #[.int .i64 0, .int .u64 0, .int .i64 0, .int .i64 0, .int .i64 0, .int .u64 0, .int .i64 0, .int .i64 0, .slice none 0 0], .int .i64 4]) ?_ rfl (bad 4 _ HU.out (C1.trans N9.out (fun i hi e => by have e : i = rb := e; omega)))
      unfold results
      go_simp
  | whole l =>
    obtain ⟨A', c', rfl, hlc, hld⟩ := hp
    obtain ⟨g1, g2, g3, -⟩ := look_whole hr
    rw [HL.out] at g2
    have hn8 : 8 ≤ n0 := by omega
    have hl12 : l.length ≤ 1200 := by omega
    have i1 : ((n0 : Int) == 0) = false := by rw [beq_eq_false_iff_ne]; omega
    have hub := unpack_whole hr
    rw [HL.out] at hub
    clear hr g1 g2 g3
    by_cases hlen : l.length + 8 = n0
    · rw [if_pos hlen] at hub
      have HU := Lib.hid hub
      have i2 : ((l.length : Int) + 8 != (n0 : Int)) = false := by rw [bne_eq_false_iff_eq]; omega
      clear hub hlen
      have hcb : wr.heap.size ≤ w1.heap.size := hs1
      obtain ⟨wA, hwA⟩ : ∃ wA, w1.alloc (.cells #[.slice A' l.length c', .int .i64 0, .int .i64 0, .int .i64 0] 84) = wA := ⟨_, rfl⟩
      obtain ⟨wB, hwB⟩ : ∃ wB, wA.alloc (.cells #[.int .i64 0, .int .u64 0, .int .i64 0, .int .i64 0, .int .i64 0, .int .u64 0, .int .i64 0, .int .i64 0, .slice none 0 0] 25) = wB := ⟨_, rfl⟩
      have cA : Chg Pure' w1 wA := by rw [← hwA]; exact (Chg.refl _ _).alloc _
      have cB : Chg Pure' wA wB := by rw [← hwB]; exact (Chg.refl _ _).alloc _
      have zA : wA.heap.size = w1.heap.size + 1 := by rw [← hwA]; simp
      have hA1 : ∀ a, A' = some a → a.block < w1.heap.size := fun a ha => hld.lt ha
      have hA0 : From A' w.heap.size := fun a ha => by have := (hld.blk a ha).1; rw [hrbn]; omega
      have R0 : RCurAt wA w1.heap.size A' c' ⟨l, 0, 0, 0⟩ := by
        have lit := fun j => cellAt_alloc_lit w1 #[.slice A' l.length c', .int .i64 0, .int .i64 0, .int .i64 0] 84 j
        rw [hwA] at lit
        refine ⟨⟨#[.slice A' l.length c', .int .i64 0, .int .i64 0, .int .i64 0], by rw [← hwA]; exact heap_alloc_new w1 _, rfl⟩, lit 0, lit 1, lit 2, lit 3, hld.bytes.pure cA, ?_, hlc, ⟨rfl, Nat.zero_le _, Nat.zero_le _, by simp, fun _ => rfl⟩, hl12⟩
        intro a ha e
        have e : a.block = w1.heap.size := e
        have := hA1 a ha
        omega
      have HR0 := Lib.hid (R0.pure cB)
      have HM0 : Hid (wB.heap[w1.heap.size + 1]? = some (.cells #[.int .i64 0, .int .u64 0, .int .i64 0, .int .i64 0, .int .i64 0, .int .u64 0, .int .i64 0, .int .i64 0, .slice none 0 0] 25 (0, 0))) := Lib.hid (by rw [← hwB, ← zA]; exact heap_alloc_new wA _)
      have HAB : Hid (∀ a, A' = some a → a.block < w1.heap.size) := Lib.hid hA1
      have HA0 := Lib.hid hA0
      have HRBB : Hid (wB.heap[rb]? = some (.cells #[.int .i64 0, .int .u64 0, .int .i64 0, .int .i64 0, .int .i64 0, .int .u64 0, .int .i64 0, .int .i64 0, .slice none 0 0] 25 (0, 0))) := Lib.hid ((cB.block rb (by rw [zA]; omega) (fun h => h)).trans ((cA.block rb (by omega) (fun h => h)).trans HB1.out))
      have CB := Lib.hid ((C1.pure cA).pure cB)
      have hrb1 : rb < w1.heap.size := by omega
      have hwrb : w.heap.size = rb := hrbn
      have hsB : w1.heap.size + 1 < wB.heap.size := by rw [← hwB]; simp; omega
      have HWR := Lib.hid hrbn
      have HWA := Lib.hid hwA
      have HWB := Lib.hid hwB
      clear hwA hwB
      clear r0 r1 r2 r3 r4 r5 r6 r7 r8 N9 M9 ff cA cB R0 hA1 hA0 hld C1 c1 HB1 hcb zA hwrb hrbn hrs hszr hs1 hA cr
      go_wp2_with (fail)
      rw [HWA.out, HWB.out]
      clear HWA HWB
      generalize hcb : w1.heap.size = cb at *
      obtain ⟨c0, hc0⟩ : ∃ c0 : Cr, (⟨l, 0, 0, 0⟩ : Cr) = c0 := ⟨_, rfl⟩
      rw [hc0] at HR0
      have HC0 := Lib.hid hc0
      have HZ0 := HRBB
      have CB0 := CB
      clear HRBB CB hc0
      obtain ⟨y0, hn0⟩ : ∃ n, (shortC c0).1 = n := ⟨_, rfl⟩
      obtain ⟨c1, hc1⟩ : ∃ c, (shortC c0).2 = c := ⟨_, rfl⟩
      have hlt0 : y0 < 18446744073709551616 := by rw [← hn0]; exact shortC_lt
      have HS0 := rshort_any HR0.out
      unfold rshortPost at HS0
      rw [hn0, hc1] at HS0
      have HS0 := Lib.hid HS0
      have HN0 := Lib.hid hn0
      have HC1 := Lib.hid hc1
      clear hn0 hc1 HR0
      refine HS0.out.mono ?_
      rintro e V0 ⟨rfl, ha, ca⟩
      have HRa0 := Lib.hid ha
      have HMa0 := Lib.hid ((ca.block (cb + 1) (Array.getElem?_eq_some_iff.1 HM0.out).1 (by show ¬ cb + 1 = cb; omega)).trans HM0.out)
      have HZa0 := Lib.hid ((ca.block rb (Array.getElem?_eq_some_iff.1 HZ0.out).1 (by show ¬ rb = cb; omega)).trans HZ0.out)
      have CBa0 := Lib.hid (CB0.out.trans ca (fun i hi e => by have e : i = cb := e; have := HWR.out; omega))
      clear ha ca HS0 HM0 HZ0 CB0
      go_wp2_with (fail)
      refine (rnumber_any y0 _ hlt0).mono ?_
      rintro e V0b ⟨rfl, rfl⟩
      have x := msg_cell HMa0.out 0
      have f : V0.frozen? ⟨cb + 1, 0, none⟩ = false := free_at HMa0.out
      have cs := setC (w := V0) (cb + 1) 0 (.int .i64 (numD y0))
      have HM1 : Hid ((V0.setCell ⟨cb + 1, 0, none⟩ (.int .i64 (numD y0))).heap[cb + 1]? = some (.cells #[.int .i64 (numD y0), .int .u64 0, .int .i64 0, .int .i64 0, .int .i64 0, .int .u64 0, .int .i64 0, .int .i64 0, .slice none 0 0] 25 (0, 0))) := Lib.hid (msg_set HMa0.out 0 (.int .i64 (numD y0)))
      have HR1 := Lib.hid (HRa0.out.frame cs (by show ¬ cb = cb + 1; omega) (fun a ha e => by have e : a.block = cb + 1 := e; have := HAB.out a ha; omega))
      have HZ1 := Lib.hid ((cs.block rb (Array.getElem?_eq_some_iff.1 HZa0.out).1 (by show ¬ rb = cb + 1; omega)).trans HZa0.out)
      have CB1 := Lib.hid (CBa0.out.trans cs (fun i hi e => by have e : i = cb + 1 := e; have := HWR.out; omega))
      clear cs
      clear HRa0 HMa0 HZa0 CBa0
      go_wp2_with (fail)
      clear x f
      generalize (V0.setCell ⟨cb + 1, 0, none⟩ (.int .i64 (numD y0))) = W1 at *
      obtain ⟨y1, hn1⟩ : ∃ n, (shortC c1).1 = n := ⟨_, rfl⟩
      obtain ⟨c2, hc2⟩ : ∃ c, (shortC c1).2 = c := ⟨_, rfl⟩
      have hlt1 : y1 < 18446744073709551616 := by rw [← hn1]; exact shortC_lt
      have HS1 := rshort_any HR1.out
      unfold rshortPost at HS1
      rw [hn1, hc2] at HS1
      have HS1 := Lib.hid HS1
      have HN1 := Lib.hid hn1
      have HC2 := Lib.hid hc2
      clear hn1 hc2 HR1
      refine HS1.out.mono ?_
      rintro e V1 ⟨rfl, ha, ca⟩
      have HRa1 := Lib.hid ha
      have HMa1 := Lib.hid ((ca.block (cb + 1) (Array.getElem?_eq_some_iff.1 HM1.out).1 (by show ¬ cb + 1 = cb; omega)).trans HM1.out)
      have HZa1 := Lib.hid ((ca.block rb (Array.getElem?_eq_some_iff.1 HZ1.out).1 (by show ¬ rb = cb; omega)).trans HZ1.out)
      have CBa1 := Lib.hid (CB1.out.trans ca (fun i hi e => by have e : i = cb := e; have := HWR.out; omega))
      clear ha ca HS1 HM1 HZ1 CB1
      have x := msg_cell HMa1.out 1
      have f : V1.frozen? ⟨cb + 1, 1, none⟩ = false := free_at HMa1.out
      have cs := setC (w := V1) (cb + 1) 1 (.int .u64 (y1 : Int))
      have HM2 : Hid ((V1.setCell ⟨cb + 1, 1, none⟩ (.int .u64 (y1 : Int))).heap[cb + 1]? = some (.cells #[.int .i64 (numD y0), .int .u64 (y1 : Int), .int .i64 0, .int .i64 0, .int .i64 0, .int .u64 0, .int .i64 0, .int .i64 0, .slice none 0 0] 25 (0, 0))) := Lib.hid (msg_set HMa1.out 1 (.int .u64 (y1 : Int)))
      have HR2 := Lib.hid (HRa1.out.frame cs (by show ¬ cb = cb + 1; omega) (fun a ha e => by have e : a.block = cb + 1 := e; have := HAB.out a ha; omega))
      have HZ2 := Lib.hid ((cs.block rb (Array.getElem?_eq_some_iff.1 HZa1.out).1 (by show ¬ rb = cb + 1; omega)).trans HZa1.out)
      have CB2 := Lib.hid (CBa1.out.trans cs (fun i hi e => by have e : i = cb + 1 := e; have := HWR.out; omega))
      clear cs
      clear HRa1 HMa1 HZa1 CBa1
      go_wp2_with (fail)
      clear x f
      generalize (V1.setCell ⟨cb + 1, 1, none⟩ (.int .u64 (y1 : Int))) = W2 at *
      obtain ⟨y2, hn2⟩ : ∃ n, (shortC c2).1 = n := ⟨_, rfl⟩
      obtain ⟨c3, hc3⟩ : ∃ c, (shortC c2).2 = c := ⟨_, rfl⟩
      have hlt2 : y2 < 18446744073709551616 := by rw [← hn2]; exact shortC_lt
      have HS2 := rshort_any HR2.out
      unfold rshortPost at HS2
      rw [hn2, hc3] at HS2
      have HS2 := Lib.hid HS2
      have HN2 := Lib.hid hn2
      have HC3 := Lib.hid hc3
      clear hn2 hc3 HR2
      refine HS2.out.mono ?_
      rintro e V2 ⟨rfl, ha, ca⟩
      have HRa2 := Lib.hid ha
      have HMa2 := Lib.hid ((ca.block (cb + 1) (Array.getElem?_eq_some_iff.1 HM2.out).1 (by show ¬ cb + 1 = cb; omega)).trans HM2.out)
      have HZa2 := Lib.hid ((ca.block rb (Array.getElem?_eq_some_iff.1 HZ2.out).1 (by show ¬ rb = cb; omega)).trans HZ2.out)
      have CBa2 := Lib.hid (CB2.out.trans ca (fun i hi e => by have e : i = cb := e; have := HWR.out; omega))
      clear ha ca HS2 HM2 HZ2 CB2
      go_wp2_with (fail)
      refine (rnumber_any y2 _ hlt2).mono ?_
      rintro e V2b ⟨rfl, rfl⟩
      have x := msg_cell HMa2.out 2
      have f : V2.frozen? ⟨cb + 1, 2, none⟩ = false := free_at HMa2.out
      have cs := setC (w := V2) (cb + 1) 2 (.int .i64 (numD y2))
      have HM3 : Hid ((V2.setCell ⟨cb + 1, 2, none⟩ (.int .i64 (numD y2))).heap[cb + 1]? = some (.cells #[.int .i64 (numD y0), .int .u64 (y1 : Int), .int .i64 (numD y2), .int .i64 0, .int .i64 0, .int .u64 0, .int .i64 0, .int .i64 0, .slice none 0 0] 25 (0, 0))) := Lib.hid (msg_set HMa2.out 2 (.int .i64 (numD y2)))
      have HR3 := Lib.hid (HRa2.out.frame cs (by show ¬ cb = cb + 1; omega) (fun a ha e => by have e : a.block = cb + 1 := e; have := HAB.out a ha; omega))
      have HZ3 := Lib.hid ((cs.block rb (Array.getElem?_eq_some_iff.1 HZa2.out).1 (by show ¬ rb = cb + 1; omega)).trans HZa2.out)
      have CB3 := Lib.hid (CBa2.out.trans cs (fun i hi e => by have e : i = cb + 1 := e; have := HWR.out; omega))
      clear cs
      clear HRa2 HMa2 HZa2 CBa2
      go_wp2_with (fail)
      clear x f
      generalize (V2.setCell ⟨cb + 1, 2, none⟩ (.int .i64 (numD y2))) = W3 at *
      obtain ⟨y3, hn3⟩ : ∃ n, (shortC c3).1 = n := ⟨_, rfl⟩
      obtain ⟨c4, hc4⟩ : ∃ c, (shortC c3).2 = c := ⟨_, rfl⟩
      have hlt3 : y3 < 18446744073709551616 := by rw [← hn3]; exact shortC_lt
      have HS3 := rshort_any HR3.out
      unfold rshortPost at HS3
      rw [hn3, hc4] at HS3
      have HS3 := Lib.hid HS3
      have HN3 := Lib.hid hn3
      have HC4 := Lib.hid hc4
      clear hn3 hc4 HR3
      refine HS3.out.mono ?_
      rintro e V3 ⟨rfl, ha, ca⟩
      have HRa3 := Lib.hid ha
      have HMa3 := Lib.hid ((ca.block (cb + 1) (Array.getElem?_eq_some_iff.1 HM3.out).1 (by show ¬ cb + 1 = cb; omega)).trans HM3.out)
      have HZa3 := Lib.hid ((ca.block rb (Array.getElem?_eq_some_iff.1 HZ3.out).1 (by show ¬ rb = cb; omega)).trans HZ3.out)
      have CBa3 := Lib.hid (CB3.out.trans ca (fun i hi e => by have e : i = cb := e; have := HWR.out; omega))
      clear ha ca HS3 HM3 HZ3 CB3
      go_wp2_with (fail)
      refine (rnumber_any y3 _ hlt3).mono ?_
      rintro e V3b ⟨rfl, rfl⟩
      have x := msg_cell HMa3.out 3
      have f : V3.frozen? ⟨cb + 1, 3, none⟩ = false := free_at HMa3.out
      have cs := setC (w := V3) (cb + 1) 3 (.int .i64 (numD y3))
      have HM4 : Hid ((V3.setCell ⟨cb + 1, 3, none⟩ (.int .i64 (numD y3))).heap[cb + 1]? = some (.cells #[.int .i64 (numD y0), .int .u64 (y1 : Int), .int .i64 (numD y2), .int .i64 (numD y3), .int .i64 0, .int .u64 0, .int .i64 0, .int .i64 0, .slice none 0 0] 25 (0, 0))) := Lib.hid (msg_set HMa3.out 3 (.int .i64 (numD y3)))
      have HR4 := Lib.hid (HRa3.out.frame cs (by show ¬ cb = cb + 1; omega) (fun a ha e => by have e : a.block = cb + 1 := e; have := HAB.out a ha; omega))
      have HZ4 := Lib.hid ((cs.block rb (Array.getElem?_eq_some_iff.1 HZa3.out).1 (by show ¬ rb = cb + 1; omega)).trans HZa3.out)
      have CB4 := Lib.hid (CBa3.out.trans cs (fun i hi e => by have e : i = cb + 1 := e; have := HWR.out; omega))
      clear cs
      clear HRa3 HMa3 HZa3 CBa3
      go_wp2_with (fail)
      clear x f
      generalize (V3.setCell ⟨cb + 1, 3, none⟩ (.int .i64 (numD y3))) = W4 at *
      obtain ⟨y4, hn4⟩ : ∃ n, (shortC c4).1 = n := ⟨_, rfl⟩
      obtain ⟨c5, hc5⟩ : ∃ c, (shortC c4).2 = c := ⟨_, rfl⟩
      have hlt4 : y4 < 18446744073709551616 := by rw [← hn4]; exact shortC_lt
      have HS4 := rshort_any HR4.out
      unfold rshortPost at HS4
      rw [hn4, hc5] at HS4
      have HS4 := Lib.hid HS4
      have HN4 := Lib.hid hn4
      have HC5 := Lib.hid hc5
      clear hn4 hc5 HR4
      refine HS4.out.mono ?_
      rintro e V4 ⟨rfl, ha, ca⟩
      have HRa4 := Lib.hid ha
      have HMa4 := Lib.hid ((ca.block (cb + 1) (Array.getElem?_eq_some_iff.1 HM4.out).1 (by show ¬ cb + 1 = cb; omega)).trans HM4.out)
      have HZa4 := Lib.hid ((ca.block rb (Array.getElem?_eq_some_iff.1 HZ4.out).1 (by show ¬ rb = cb; omega)).trans HZ4.out)
      have CBa4 := Lib.hid (CB4.out.trans ca (fun i hi e => by have e : i = cb := e; have := HWR.out; omega))
      clear ha ca HS4 HM4 HZ4 CB4
      go_wp2_with (fail)
      refine (rnumber_any y4 _ hlt4).mono ?_
      rintro e V4b ⟨rfl, rfl⟩
      have x := msg_cell HMa4.out 4
      have f : V4.frozen? ⟨cb + 1, 4, none⟩ = false := free_at HMa4.out
      have cs := setC (w := V4) (cb + 1) 4 (.int .i64 (numD y4))
      have HM5 : Hid ((V4.setCell ⟨cb + 1, 4, none⟩ (.int .i64 (numD y4))).heap[cb + 1]? = some (.cells #[.int .i64 (numD y0), .int .u64 (y1 : Int), .int .i64 (numD y2), .int .i64 (numD y3), .int .i64 (numD y4), .int .u64 0, .int .i64 0, .int .i64 0, .slice none 0 0] 25 (0, 0))) := Lib.hid (msg_set HMa4.out 4 (.int .i64 (numD y4)))
      have HR5 := Lib.hid (HRa4.out.frame cs (by show ¬ cb = cb + 1; omega) (fun a ha e => by have e : a.block = cb + 1 := e; have := HAB.out a ha; omega))
      have HZ5 := Lib.hid ((cs.block rb (Array.getElem?_eq_some_iff.1 HZa4.out).1 (by show ¬ rb = cb + 1; omega)).trans HZa4.out)
      have CB5 := Lib.hid (CBa4.out.trans cs (fun i hi e => by have e : i = cb + 1 := e; have := HWR.out; omega))
      clear cs
      clear HRa4 HMa4 HZa4 CBa4
      go_wp2_with (fail)
      clear x f
      generalize (V4.setCell ⟨cb + 1, 4, none⟩ (.int .i64 (numD y4))) = W5 at *
      obtain ⟨y5, hn5⟩ : ∃ n, (shortC c5).1 = n := ⟨_, rfl⟩
      obtain ⟨c6, hc6⟩ : ∃ c, (shortC c5).2 = c := ⟨_, rfl⟩
      have hlt5 : y5 < 18446744073709551616 := by rw [← hn5]; exact shortC_lt
      have HS5 := rshort_any HR5.out
      unfold rshortPost at HS5
      rw [hn5, hc6] at HS5
      have HS5 := Lib.hid HS5
      have HN5 := Lib.hid hn5
      have HC6 := Lib.hid hc6
      clear hn5 hc6 HR5
      refine HS5.out.mono ?_
      rintro e V5 ⟨rfl, ha, ca⟩
      have HRa5 := Lib.hid ha
      have HMa5 := Lib.hid ((ca.block (cb + 1) (Array.getElem?_eq_some_iff.1 HM5.out).1 (by show ¬ cb + 1 = cb; omega)).trans HM5.out)
      have HZa5 := Lib.hid ((ca.block rb (Array.getElem?_eq_some_iff.1 HZ5.out).1 (by show ¬ rb = cb; omega)).trans HZ5.out)
      have CBa5 := Lib.hid (CB5.out.trans ca (fun i hi e => by have e : i = cb := e; have := HWR.out; omega))
      clear ha ca HS5 HM5 HZ5 CB5
      have x := msg_cell HMa5.out 5
      have f : V5.frozen? ⟨cb + 1, 5, none⟩ = false := free_at HMa5.out
      have cs := setC (w := V5) (cb + 1) 5 (.int .u64 (y5 : Int))
      have HM6 : Hid ((V5.setCell ⟨cb + 1, 5, none⟩ (.int .u64 (y5 : Int))).heap[cb + 1]? = some (.cells #[.int .i64 (numD y0), .int .u64 (y1 : Int), .int .i64 (numD y2), .int .i64 (numD y3), .int .i64 (numD y4), .int .u64 (y5 : Int), .int .i64 0, .int .i64 0, .slice none 0 0] 25 (0, 0))) := Lib.hid (msg_set HMa5.out 5 (.int .u64 (y5 : Int)))
      have HR6 := Lib.hid (HRa5.out.frame cs (by show ¬ cb = cb + 1; omega) (fun a ha e => by have e : a.block = cb + 1 := e; have := HAB.out a ha; omega))
      have HZ6 := Lib.hid ((cs.block rb (Array.getElem?_eq_some_iff.1 HZa5.out).1 (by show ¬ rb = cb + 1; omega)).trans HZa5.out)
      have CB6 := Lib.hid (CBa5.out.trans cs (fun i hi e => by have e : i = cb + 1 := e; have := HWR.out; omega))
      clear cs
      clear HRa5 HMa5 HZa5 CBa5
      go_wp2_with (fail)
      clear x f
      generalize (V5.setCell ⟨cb + 1, 5, none⟩ (.int .u64 (y5 : Int))) = W6 at *
      obtain ⟨y6, hn6⟩ : ∃ n, (shortC c6).1 = n := ⟨_, rfl⟩
      obtain ⟨c7, hc7⟩ : ∃ c, (shortC c6).2 = c := ⟨_, rfl⟩
      have hlt6 : y6 < 18446744073709551616 := by rw [← hn6]; exact shortC_lt
      have HS6 := rshort_any HR6.out
      unfold rshortPost at HS6
      rw [hn6, hc7] at HS6
      have HS6 := Lib.hid HS6
      have HN6 := Lib.hid hn6
      have HC7 := Lib.hid hc7
      clear hn6 hc7 HR6
      refine HS6.out.mono ?_
      rintro e V6 ⟨rfl, ha, ca⟩
      have HRa6 := Lib.hid ha
      have HMa6 := Lib.hid ((ca.block (cb + 1) (Array.getElem?_eq_some_iff.1 HM6.out).1 (by show ¬ cb + 1 = cb; omega)).trans HM6.out)
      have HZa6 := Lib.hid ((ca.block rb (Array.getElem?_eq_some_iff.1 HZ6.out).1 (by show ¬ rb = cb; omega)).trans HZ6.out)
      have CBa6 := Lib.hid (CB6.out.trans ca (fun i hi e => by have e : i = cb := e; have := HWR.out; omega))
      clear ha ca HS6 HM6 HZ6 CB6
      go_wp2_with (fail)
      refine (rnumber_any y6 _ hlt6).mono ?_
      rintro e V6b ⟨rfl, rfl⟩
      have x := msg_cell HMa6.out 6
      have f : V6.frozen? ⟨cb + 1, 6, none⟩ = false := free_at HMa6.out
      have cs := setC (w := V6) (cb + 1) 6 (.int .i64 (numD y6))
      have HM7 : Hid ((V6.setCell ⟨cb + 1, 6, none⟩ (.int .i64 (numD y6))).heap[cb + 1]? = some (.cells #[.int .i64 (numD y0), .int .u64 (y1 : Int), .int .i64 (numD y2), .int .i64 (numD y3), .int .i64 (numD y4), .int .u64 (y5 : Int), .int .i64 (numD y6), .int .i64 0, .slice none 0 0] 25 (0, 0))) := Lib.hid (msg_set HMa6.out 6 (.int .i64 (numD y6)))
      have HR7 := Lib.hid (HRa6.out.frame cs (by show ¬ cb = cb + 1; omega) (fun a ha e => by have e : a.block = cb + 1 := e; have := HAB.out a ha; omega))
      have HZ7 := Lib.hid ((cs.block rb (Array.getElem?_eq_some_iff.1 HZa6.out).1 (by show ¬ rb = cb + 1; omega)).trans HZa6.out)
      have CB7 := Lib.hid (CBa6.out.trans cs (fun i hi e => by have e : i = cb + 1 := e; have := HWR.out; omega))
      clear cs
      clear HRa6 HMa6 HZa6 CBa6
      go_wp2_with (fail)
      clear x f
      generalize (V6.setCell ⟨cb + 1, 6, none⟩ (.int .i64 (numD y6))) = W7 at *
      obtain ⟨y7, hn7⟩ : ∃ n, (shortC c7).1 = n := ⟨_, rfl⟩
      obtain ⟨c8, hc8⟩ : ∃ c, (shortC c7).2 = c := ⟨_, rfl⟩
      have hlt7 : y7 < 18446744073709551616 := by rw [← hn7]; exact shortC_lt
      have HS7 := rshort_any HR7.out
      unfold rshortPost at HS7
      rw [hn7, hc8] at HS7
      have HS7 := Lib.hid HS7
      have HN7 := Lib.hid hn7
      have HC8 := Lib.hid hc8
      clear hn7 hc8 HR7
      refine HS7.out.mono ?_
      rintro e V7 ⟨rfl, ha, ca⟩
      have HRa7 := Lib.hid ha
      have HMa7 := Lib.hid ((ca.block (cb + 1) (Array.getElem?_eq_some_iff.1 HM7.out).1 (by show ¬ cb + 1 = cb; omega)).trans HM7.out)
      have HZa7 := Lib.hid ((ca.block rb (Array.getElem?_eq_some_iff.1 HZ7.out).1 (by show ¬ rb = cb; omega)).trans HZ7.out)
      have CBa7 := Lib.hid (CB7.out.trans ca (fun i hi e => by have e : i = cb := e; have := HWR.out; omega))
      clear ha ca HS7 HM7 HZ7 CB7
      go_wp2_with (fail)
      refine (rnumber_any y7 _ hlt7).mono ?_
      rintro e V7b ⟨rfl, rfl⟩
      have x := msg_cell HMa7.out 7
      have f : V7.frozen? ⟨cb + 1, 7, none⟩ = false := free_at HMa7.out
      have cs := setC (w := V7) (cb + 1) 7 (.int .i64 (numD y7))
      have HM8 : Hid ((V7.setCell ⟨cb + 1, 7, none⟩ (.int .i64 (numD y7))).heap[cb + 1]? = some (.cells #[.int .i64 (numD y0), .int .u64 (y1 : Int), .int .i64 (numD y2), .int .i64 (numD y3), .int .i64 (numD y4), .int .u64 (y5 : Int), .int .i64 (numD y6), .int .i64 (numD y7), .slice none 0 0] 25 (0, 0))) := Lib.hid (msg_set HMa7.out 7 (.int .i64 (numD y7)))
      have HR8 := Lib.hid (HRa7.out.frame cs (by show ¬ cb = cb + 1; omega) (fun a ha e => by have e : a.block = cb + 1 := e; have := HAB.out a ha; omega))
      have HZ8 := Lib.hid ((cs.block rb (Array.getElem?_eq_some_iff.1 HZa7.out).1 (by show ¬ rb = cb + 1; omega)).trans HZa7.out)
      have CB8 := Lib.hid (CBa7.out.trans cs (fun i hi e => by have e : i = cb + 1 := e; have := HWR.out; omega))
      clear cs
      have hb8 : c8.b = l := by rw [← HC8.out, shortC_b, ← HC7.out, shortC_b, ← HC6.out, shortC_b, ← HC5.out, shortC_b, ← HC4.out, shortC_b, ← HC3.out, shortC_b, ← HC2.out, shortC_b, ← HC1.out, shortC_b, ← HC0.out]
      have p8 : c8.pos ≤ l.length := by have := HRa7.out.ok.pos; rwa [hb8] at this
      have HB8 := Lib.hid hb8
      clear hb8
      have x2 := HRa7.out.c2
      clear HRa7 HMa7 HZa7 CBa7
      go_wp2_with (fail)
      clear x f x2
      generalize (V7.setCell ⟨cb + 1, 7, none⟩ (.int .i64 (numD y7))) = W8 at *
      have htold : told l = ([y0, y1, y2, y3, y4, y5, y6, y7], c8) := by
        unfold told
        simp only [HC0.out, HN0.out, HC1.out, HN1.out, HC2.out, HN2.out, HC3.out, HN3.out, HC4.out, HN4.out, HC5.out, HN5.out, HC6.out, HN6.out, HC7.out, HN7.out, HC8.out]
      have HT := Lib.hid (rtake_any HR8.out ((l.length : Int) - c8.pos) (by rw [HB8.out]))
      have htm := tell_made htold
      have HTM := Lib.hid htm
      clear htold htm HC0 HN0 HC1 HN1 HC2 HN2 HC3 HN3 HC4 HN4 HC5 HN5 HC6 HN6 HC7 HN7 HC8 HR8
      refine HT.out.mono ?_
      rintro e V8 ⟨B, mm, d, rfl, hmd, hbt, hfB, ha, ca⟩
      have HMa := Lib.hid ((ca.block (cb + 1) (Array.getElem?_eq_some_iff.1 HM8.out).1 (by show ¬ cb + 1 = cb; omega)).trans HM8.out)
      have HZa := Lib.hid ((ca.block rb (Array.getElem?_eq_some_iff.1 HZ8.out).1 (by show ¬ rb = cb; omega)).trans HZ8.out)
      have CBa := Lib.hid (CB8.out.trans ca (fun i hi e => by have e : i = cb := e; have := HWR.out; omega))
      have hsz8 := (Array.getElem?_eq_some_iff.1 HM8.out).1
      have x := msg_cell HMa.out 8
      have f : V8.frozen? ⟨cb + 1, 8, none⟩ = false := free_at HMa.out
      have cs := setC (w := V8) (cb + 1) 8 (.slice B mm d)
      have HM9 : Hid ((V8.setCell ⟨cb + 1, 8, none⟩ (.slice B mm d)).heap[cb + 1]? = some (.cells #[.int .i64 (numD y0), .int .u64 (y1 : Int), .int .i64 (numD y2), .int .i64 (numD y3), .int .i64 (numD y4), .int .u64 (y5 : Int), .int .i64 (numD y6), .int .i64 (numD y7), .slice B mm d] 25 (0, 0))) := Lib.hid (msg_set HMa.out 8 (.slice B mm d))
      have HR9 := Lib.hid (ha.frame cs (by show ¬ cb = cb + 1; omega) (fun a ha e => by have e : a.block = cb + 1 := e; have := HAB.out a ha; omega))
      have HZ9 := Lib.hid ((cs.block rb (Array.getElem?_eq_some_iff.1 HZa.out).1 (by show ¬ rb = cb + 1; omega)).trans HZa.out)
      have CB9 := Lib.hid (CBa.out.trans cs (fun i hi e => by have e : i = cb + 1 := e; have := HWR.out; omega))
      have HBT : Hid (c8.why = 0 → mm = c8.b.length - c8.pos ∧ Bytes (V8.setCell ⟨cb + 1, 8, none⟩ (.slice B mm d)) B mm (c8.b.drop c8.pos)) := Lib.hid (fun h => ⟨(hbt h).1, (hbt h).2.chg cs (fun a ha e => by have e : a.block = cb + 1 := e; have := hfB a ha; omega)⟩)
      have hrb8 := (Array.getElem?_eq_some_iff.1 HZ8.out).1
      have HFR : Hid (∀ a, B = some a → a.block ≠ rb) := Lib.hid (fun a ha e => by have := hfB a ha; omega)
      have HFB : Hid (From B w.heap.size) := Lib.hid (fun a ha => by have := hfB a ha; have := CB8.out.size; omega)
      clear cs ha ca hbt hfB HMa HZa CBa HM8 HZ8 CB8 hsz8 hrb8
      go_upto_region 15 with (fail)
      clear x f
      generalize (V8.setCell ⟨cb + 1, 8, none⟩ (.slice B mm d)) = W9 at *
      have xw := HR9.out.c3
      rw [takeC_why] at xw
      have m0 := msg_cell HM9.out 0
      have m1 := msg_cell HM9.out 1
      have m2 := msg_cell HM9.out 2
      have m3 := msg_cell HM9.out 3
      have m4 := msg_cell HM9.out 4
      have m5 := msg_cell HM9.out 5
      have m6 := msg_cell HM9.out 6
      have m7 := msg_cell HM9.out 7
      have m8 := msg_cell HM9.out 8
      by_cases hw : c8.why = 0
      · rw [hw] at xw
        obtain ⟨hmm, hbt⟩ := HBT.out hw
        have HBM := Lib.hid hbt
        have hmay := rmay_any (madeM y0 y1 y2 y3 y4 y5 y6 y7 (l.drop c8.pos)) B mm d W9
        have hmv : (madeM y0 y1 y2 y3 y4 y5 y6 y7 (l.drop c8.pos)).val B mm d = .agg #[.int .i64 (numD y0), .int .u64 (y1 : Int), .int .i64 (numD y2), .int .i64 (numD y3), .int .i64 (numD y4), .int .u64 (y5 : Int), .int .i64 (numD y6), .int .i64 (numD y7), .slice B mm d] := by
          unfold Ms.val Ms.cells madeM
          simp only
          rw [u64_ofNat hlt1, u64_ofNat hlt5]
        rw [hmv] at hmay
        have hML : (madeM y0 y1 y2 y3 y4 y5 y6 y7 (l.drop c8.pos)).load = l.drop c8.pos := rfl
        have htm := HTM.out
        obtain ⟨MM, hMM⟩ : ∃ MM, madeM y0 y1 y2 y3 y4 y5 y6 y7 (l.drop c8.pos) = MM := ⟨_, rfl⟩
        rw [hMM] at hmay hmv hML htm
        have HMV := Lib.hid hmv
        have HML := Lib.hid hML
        have HMM := Lib.hid hmm
        clear hMM HTM hmv hML hmm hbt HBT
        cases hmb : MM.may with
        | false =>
          rw [hmb] at hmay htm
          have hu : unpackB b = .error 5 := by rw [HU.out, htm, if_neg (by simp)]
          have HMY := Lib.hid hmay
          have HU5 := Lib.hid hu
          clear hmay htm hu HU hmb
          go_wp2_with (fail)
          refine HMY.out.mono ?_
          rintro e W10 ⟨rfl, c10⟩
          have HZ10 := Lib.hid ((c10.block rb (Array.getElem?_eq_some_iff.1 HZ9.out).1 (fun h => h)).trans HZ9.out)
          have CB10 := Lib.hid (CB9.out.pure c10)
          clear c10 HMY m0 m1 m2 m3 m4 m5 m6 m7 m8 xw HZ9 CB9
          have ff : ∀ j, W10.frozen? ⟨rb, j, none⟩ = false := fun j => free_at HZ10.out
          have r0 := msg_cell HZ10.out 0
          have r1 := msg_cell HZ10.out 1
          have r2 := msg_cell HZ10.out 2
          have r3 := msg_cell HZ10.out 3
          have r4 := msg_cell HZ10.out 4
          have r5 := msg_cell HZ10.out 5
          have r6 := msg_cell HZ10.out 6
          have r7 := msg_cell HZ10.out 7
          have r8 := msg_cell HZ10.out 8
          obtain ⟨n9, m9⟩ := nine HZ10.out (.int .i64 0) (.int .u64 0) (.int .i64 0) (.int .i64 0) (.int .i64 0) (.int .u64 0) (.int .i64 0) (.int .i64 0) (.slice none 0 0)
          have N9 := Lib.hid n9
          have M9 := Lib.hid m9
          clear n9 m9
          go_wp2
          have hq0 := fun j => msg_cell M9.out j
          refine bodyPost_ret (v := .tuple #[.agg #[.int .i64 0, .int .u64 0, .int .i64 0, .int .i64 0, .int .i64 0, .int .u64 0, .int .i64 0, .int .i64 0, .slice none 0 0], .int .i64 5]) ?_ rfl (bad 5 _ HU5.out (CB10.out.trans N9.out (fun i hi e => by have e : i = rb := e; have := HWR.out; omega)))
          unfold results
          go_simp
        | true =>
          rw [hmb] at hmay htm
          have hu : unpackB b = .ok MM := by rw [HU.out, htm, if_pos ⟨hw, rfl⟩]
          have HMY := Lib.hid hmay
          have HU5 := Lib.hid hu
          clear hmay htm hu HU hmb
          go_wp2_with (fail)
          refine HMY.out.mono ?_
          rintro e W10 ⟨rfl, c10⟩
          have HZ10 := Lib.hid ((c10.block rb (Array.getElem?_eq_some_iff.1 HZ9.out).1 (fun h => h)).trans HZ9.out)
          have CB10 := Lib.hid (CB9.out.pure c10)
          have q0 := c10.cell m0 (fun h => h)
          have q1 := c10.cell m1 (fun h => h)
          have q2 := c10.cell m2 (fun h => h)
          have q3 := c10.cell m3 (fun h => h)
          have q4 := c10.cell m4 (fun h => h)
          have q5 := c10.cell m5 (fun h => h)
          have q6 := c10.cell m6 (fun h => h)
          have q7 := c10.cell m7 (fun h => h)
          have q8 := c10.cell m8 (fun h => h)
          have HB10 := Lib.hid (HBM.out.pure c10)
          clear c10 HMY m0 m1 m2 m3 m4 m5 m6 m7 m8 xw HZ9 CB9
          have ff : ∀ j, W10.frozen? ⟨rb, j, none⟩ = false := fun j => free_at HZ10.out
          have r0 := msg_cell HZ10.out 0
          have r1 := msg_cell HZ10.out 1
          have r2 := msg_cell HZ10.out 2
          have r3 := msg_cell HZ10.out 3
          have r4 := msg_cell HZ10.out 4
          have r5 := msg_cell HZ10.out 5
          have r6 := msg_cell HZ10.out 6
          have r7 := msg_cell HZ10.out 7
          have r8 := msg_cell HZ10.out 8
          obtain ⟨n9, m9⟩ := nine HZ10.out (.int .i64 (numD y0)) (.int .u64 (y1 : Int)) (.int .i64 (numD y2)) (.int .i64 (numD y3)) (.int .i64 (numD y4)) (.int .u64 (y5 : Int)) (.int .i64 (numD y6)) (.int .i64 (numD y7)) (.slice B mm d)
          have N9 := Lib.hid n9
          have M9 := Lib.hid m9
          clear n9 m9
          go_wp2
          have hq0 := fun j => msg_cell M9.out j
          have CF : Chg Pure' w _ := CB10.out.trans N9.out (fun i hi e => by have e : i = rb := e; have := HWR.out; omega)
          have hlen : MM.load.length = mm := by rw [HMM.out, HML.out, HB8.out]; simp
          have hbf := HB10.out.chg N9.out (fun a ha e => by have e : a.block = rb := e; exact HFR.out a ha e)
          have hres := unpack_good HU5.out CF (A := B) (q := d) (by rw [hlen, HML.out, ← HB8.out]; exact hbf) (by rw [hlen]; exact hmd) HFB.out
          rw [hlen, HMV.out] at hres
          refine bodyPost_ret (v := .tuple #[.agg #[.int .i64 (numD y0), .int .u64 (y1 : Int), .int .i64 (numD y2), .int .i64 (numD y3), .int .i64 (numD y4), .int .u64 (y5 : Int), .int .i64 (numD y6), .int .i64 (numD y7), .slice B mm d], .int .i64 0]) ?_ rfl hres
          unfold results
          go_simp
      · have i3 : ((c8.why : Int) != 0) = true := by rw [bne_iff_ne]; omega
        have i4 : ((c8.why : Int) = 0) = False := eq_false (by omega)
        have htm := HTM.out
        have hu : unpackB b = .error 5 := by rw [HU.out, htm, if_neg (fun h => hw h.1)]
        have HU5 := Lib.hid hu
        clear htm hu HU HTM HBT
        have ff : ∀ j, W9.frozen? ⟨rb, j, none⟩ = false := fun j => free_at HZ9.out
        have r0 := msg_cell HZ9.out 0
        have r1 := msg_cell HZ9.out 1
        have r2 := msg_cell HZ9.out 2
        have r3 := msg_cell HZ9.out 3
        have r4 := msg_cell HZ9.out 4
        have r5 := msg_cell HZ9.out 5
        have r6 := msg_cell HZ9.out 6
        have r7 := msg_cell HZ9.out 7
        have r8 := msg_cell HZ9.out 8
        obtain ⟨n9, m9⟩ := nine HZ9.out (.int .i64 0) (.int .u64 0) (.int .i64 0) (.int .i64 0) (.int .i64 0) (.int .u64 0) (.int .i64 0) (.int .i64 0) (.slice none 0 0)
        have N9 := Lib.hid n9
        have M9 := Lib.hid m9
        clear n9 m9
        go_wp2
        have hq0 := fun j => msg_cell M9.out j
        refine bodyPost_ret (v := .tuple #[.agg #[.int .i64 0, .int .u64 0, .int .i64 0, .int .i64 0, .int .i64 0, .int .u64 0, .int .i64 0, .int .i64 0, .slice none 0 0], .int .i64 5]) ?_ rfl (bad 5 _ HU5.out (CB9.out.trans N9.out (fun i hi e => by have e : i = rb := e; have := HWR.out; omega)))
        unfold results
        go_simp
    · rw [if_neg hlen] at hub
      have HU := Lib.hid hub
      have i2 : ((l.length : Int) + 8 != (n0 : Int)) = true := by rw [bne_iff_ne]; omega
      clear hub hlen
      go_wp2
      have hq0 := fun j => msg_cell M9.out j
      refine bodyPost_ret (v := .tuple #[.agg #[.int .i64 0, .int .u64 0, .int .i64 0, .int .i64 0, .int .i64 0, .int .u64 0, .int .i64 0, .int .i64 0, .slice none 0 0], .int .i64 4]) ?_ rfl (bad 4 _ HU.out (C1.trans N9.out (fun i hi e => by have e : i = rb := e; omega)))
      unfold results
      go_simp
end Go.Proofs.Ytnpkpfcljkekfaa
