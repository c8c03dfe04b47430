/- Package gantlineref20: New; and what the laws of layer 20 match with: words, One. -/
import Derived.Test.YtpfnphkgmjgmeaaSessQ
namespace Go.Proofs.Ytpfnphkgmjgmeaa
open Go Go.RowKit
set_option linter.unusedVariables false
set_option linter.unusedSimpArgs false

theorem rzero_tab (w : World) : (zeroValue 42).run Try.prog w = .ok (.agg #[.int .i64 0, .int .i64 0, .int .i64 0, .slice none 0 0, .slice none 0 0]) w := by kernel_rfl
set_option maxHeartbeats 2000000 in
theorem rnew_bad (m i : Int) (w : World) (h : m < 1 ∨ 64 < m ∨ i < 1 ∨ 1048576 < i) :
    Calls Try.prog 15 #[.int .i64 m, .int .i64 i] w fun e w' => e = .returned (.tuple #[.agg #[.int .i64 0, .int .i64 0, .int .i64 0, .slice none 0 0, .slice none 0 0], .int .i64 1]) ∧ Chg Pure' w w' := by
  have hz := rzero_tab
  have cz : Chg Pure' w (w.alloc (.cells #[.int .i64 0, .int .i64 0, .int .i64 0, .slice none 0 0, .slice none 0 0] 42)) := (Chg.refl _ w).alloc _
  have f0 : (w.alloc (.cells #[.int .i64 0, .int .i64 0, .int .i64 0, .slice none 0 0, .slice none 0 0] 42)).cell? ⟨w.heap.size, 0, none⟩ = some (.int .i64 0) := cellAt_alloc_lit w _ _ 0
  have f1 : (w.alloc (.cells #[.int .i64 0, .int .i64 0, .int .i64 0, .slice none 0 0, .slice none 0 0] 42)).cell? ⟨w.heap.size, 1, none⟩ = some (.int .i64 0) := cellAt_alloc_lit w _ _ 1
  have f2 : (w.alloc (.cells #[.int .i64 0, .int .i64 0, .int .i64 0, .slice none 0 0, .slice none 0 0] 42)).cell? ⟨w.heap.size, 2, none⟩ = some (.int .i64 0) := cellAt_alloc_lit w _ _ 2
  have f3 : (w.alloc (.cells #[.int .i64 0, .int .i64 0, .int .i64 0, .slice none 0 0, .slice none 0 0] 42)).cell? ⟨w.heap.size, 3, none⟩ = some (.slice none 0 0) := cellAt_alloc_lit w _ _ 3
  have f4 : (w.alloc (.cells #[.int .i64 0, .int .i64 0, .int .i64 0, .slice none 0 0, .slice none 0 0] 42)).cell? ⟨w.heap.size, 4, none⟩ = some (.slice none 0 0) := cellAt_alloc_lit w _ _ 4
  by_cases h1 : m < 1
  · go_enter Try.func15, Try.ntmps15
    go_wp2_with (fail)
    refine bodyPost_ret (v := .tuple #[.agg #[.int .i64 0, .int .i64 0, .int .i64 0, .slice none 0 0, .slice none 0 0], .int .i64 1]) ?_ rfl ⟨rfl, cz⟩
    unfold results
    go_simp
    try rfl
  · have d1 : decide (m < 1) = false := by simp; omega
    by_cases h2 : 64 < m
    · go_enter Try.func15, Try.ntmps15
      go_wp2_with (fail)
      refine bodyPost_ret (v := .tuple #[.agg #[.int .i64 0, .int .i64 0, .int .i64 0, .slice none 0 0, .slice none 0 0], .int .i64 1]) ?_ rfl ⟨rfl, cz⟩
      unfold results
      go_simp
      try rfl
    · have d2 : decide (64 < m) = false := by simp; omega
      by_cases h3 : i < 1
      · go_enter Try.func15, Try.ntmps15
        go_wp2_with (fail)
        refine bodyPost_ret (v := .tuple #[.agg #[.int .i64 0, .int .i64 0, .int .i64 0, .slice none 0 0, .slice none 0 0], .int .i64 1]) ?_ rfl ⟨rfl, cz⟩
        unfold results
        go_simp
        try rfl
      · have d3 : decide (i < 1) = false := by simp; omega
        have h4 : 1048576 < i := by omega
        go_enter Try.func15, Try.ntmps15
        go_wp2_with (fail)
        refine bodyPost_ret (v := .tuple #[.agg #[.int .i64 0, .int .i64 0, .int .i64 0, .slice none 0 0, .slice none 0 0], .int .i64 1]) ?_ rfl ⟨rfl, cz⟩
        unfold results
        go_simp
        try rfl
set_option maxHeartbeats 2000000 in
theorem rnew_ok (m i : Nat) (w : World) (h1 : 1 ≤ m) (h2 : m ≤ 64) (h3 : 1 ≤ i) (h4 : i ≤ 1048576) :
    Calls Try.prog 15 #[.int .i64 m, .int .i64 i] w fun e w' => e = .returned (.tuple #[.agg #[.int .i64 m, .int .i64 i, .int .i64 0, .slice none 0 0, .slice none 0 0], .int .i64 0]) ∧ Chg Pure' w w' := by
  have d1 : decide ((m : Int) < 1) = false := by simp; omega
  have d2 : decide ((64 : Int) < (m : Int)) = false := by simp; omega
  have d3 : decide ((i : Int) < 1) = false := by simp; omega
  have d4 : decide ((1048576 : Int) < (i : Int)) = false := by simp; omega
  have hz := rzero_tab
  have cz : Chg Pure' w (w.alloc (.cells #[.int .i64 m, .int .i64 i, .int .i64 0, .slice none 0 0, .slice none 0 0] 42)) := (Chg.refl _ w).alloc _
  have f0 : (w.alloc (.cells #[.int .i64 m, .int .i64 i, .int .i64 0, .slice none 0 0, .slice none 0 0] 42)).cell? ⟨w.heap.size, 0, none⟩ = some (.int .i64 m) := cellAt_alloc_lit w _ _ 0
  have f1 : (w.alloc (.cells #[.int .i64 m, .int .i64 i, .int .i64 0, .slice none 0 0, .slice none 0 0] 42)).cell? ⟨w.heap.size, 1, none⟩ = some (.int .i64 i) := cellAt_alloc_lit w _ _ 1
  have f2 : (w.alloc (.cells #[.int .i64 m, .int .i64 i, .int .i64 0, .slice none 0 0, .slice none 0 0] 42)).cell? ⟨w.heap.size, 2, none⟩ = some (.int .i64 0) := cellAt_alloc_lit w _ _ 2
  have f3 : (w.alloc (.cells #[.int .i64 m, .int .i64 i, .int .i64 0, .slice none 0 0, .slice none 0 0] 42)).cell? ⟨w.heap.size, 3, none⟩ = some (.slice none 0 0) := cellAt_alloc_lit w _ _ 3
  have f4 : (w.alloc (.cells #[.int .i64 m, .int .i64 i, .int .i64 0, .slice none 0 0, .slice none 0 0] 42)).cell? ⟨w.heap.size, 4, none⟩ = some (.slice none 0 0) := cellAt_alloc_lit w _ _ 4
  go_enter Try.func15, Try.ntmps15
  go_wp2_with (fail)
  refine bodyPost_ret (v := .tuple #[.agg #[.int .i64 m, .int .i64 i, .int .i64 0, .slice none 0 0, .slice none 0 0], .int .i64 0]) ?_ rfl ⟨rfl, cz⟩
  unfold results
  go_simp
  try rfl
theorem own64_at {w : World} {B m q : Nat} {A : Option Addr} {ts : List UInt64} (hr : w.ownsRow B 29 1 (.slice A m q) ts.length (ts.map u64v)) {i : Nat} (hi : i < ts.length) : ∃ g, A = some ⟨g, 0, none⟩ ∧ w.cell? ⟨g, i, none⟩ = some (.int .u64 ((ts[i]'hi).toNat : Int)) := by
  rcases hr.2 with ⟨h', h0⟩ | ⟨g, cap, cur, h', hb, hg, hnc, hcm, hcs, htk⟩
  · exfalso; omega
  · cases h'
    have := World.ownsRow.cells hr (g := g) rfl i (u64v (ts[i]'hi)) (by simp [hi])
    have e : (⟨g, 0, none⟩ : Addr).add i = ⟨g, i, none⟩ := by unfold Addr.add; split <;> simp_all
    rw [e] at this
    exact ⟨g, rfl, this⟩
set_option maxHeartbeats 2000000 in
theorem rwords_same {w : World} {B C : Nat} {va vb : Value} {ts : List UInt64} (ha : w.ownsRow B 29 1 va ts.length (ts.map u64v)) (hb : w.ownsRow C 29 1 vb ts.length (ts.map u64v)) (hl : ts.length ≤ 64) :
    Calls Try.prog 21 #[va, vb] w fun e w' => e = .returned (.bool true) ∧ Chg Pure' w w' := by
  obtain ⟨A, q, rfl, hq, -⟩ := own_slice ha
  obtain ⟨A', q', rfl, hq', -⟩ := own_slice hb
  have XA := Lib.hid (fun i (hi : i < ts.length) => own64_at ha hi)
  have XB := Lib.hid (fun i (hi : i < ts.length) => own64_at hb hi)
  obtain ⟨N, hN⟩ : ∃ N, ts.length = N := ⟨_, rfl⟩
  have HN := Lib.hid hN
  rw [hN] at hl hq hq' ⊢
  clear hN ha hb
  go_enter Try.func21, Try.ntmps21
  go_wp2_with (fail)
  go_loopw [13] (fun i wr => ∃ k : Nat, k ≤ N ∧ i = .int .i64 k ∧ Chg Pure' w wr) (fun i _ => N - (intOf i).toNat)
  case atStart => exact ⟨0, Nat.zero_le _, rfl, Chg.refl _ _⟩
  case round =>
    obtain ⟨k, hk, rfl, hC⟩ := hrel
    by_cases hlt : k < N
    · have hkl : k < ts.length := by rw [HN.out]; exact hlt
      obtain ⟨g, rfl, x0⟩ := XA.out k hkl
      obtain ⟨g', rfl, x1⟩ := XB.out k hkl
      have x0 := hC.cell x0 (fun h => h)
      have x1 := hC.cell x1 (fun h => h)
      have cd : Chg Pure' w wr.drew := hC.drew
      have k0 : (k : Int) < (N : Int) := by omega
      have k1 : k ≤ 64 := by omega
      generalize ts[k]'hkl = tt at *
      clear hC
      go_wp2_with (fail)
      refine reg_begin (Pure') (by kernel_rfl) ?_
      refine reg_take 0 (v := ?_) rfl (by kernel_rfl) (by kernel_rfl) (by kernel_rfl) (fun _ _ _ h => h) (by kernel_rfl) ?_ ?_
      rotate_left
      · (intro w' hS; go_simp; (try go_bits); (try with_reducible rfl))
      try simp only [Act.put, List.getElem_toArray, List.getElem_cons_zero, List.getElem_cons_succ, List.setIfInBounds_toArray, List.set_cons_zero, List.set_cons_succ]
      refine reg_take 1 (v := ?_) rfl (by kernel_rfl) (by kernel_rfl) (by kernel_rfl) (fun _ _ _ h => h) (by kernel_rfl) ?_ ?_
      rotate_left
      · (intro w' hS; go_simp; (try go_bits); (try with_reducible rfl))
      try simp only [Act.put, List.getElem_toArray, List.getElem_cons_zero, List.getElem_cons_succ, List.setIfInBounds_toArray, List.set_cons_zero, List.set_cons_succ]
      refine reg_take 2 (v := ?_) rfl (by kernel_rfl) (by kernel_rfl) (by kernel_rfl) (fun _ _ _ h => h) (by kernel_rfl) ?_ ?_
      rotate_left
      · (intro w' hS; go_simp; (try go_bits); (try with_reducible rfl))
      try simp only [Act.put, List.getElem_toArray, List.getElem_cons_zero, List.getElem_cons_succ, List.setIfInBounds_toArray, List.set_cons_zero, List.set_cons_succ]
      refine reg_take 3 (v := ?_) rfl (by kernel_rfl) (by kernel_rfl) (by kernel_rfl) (fun _ _ _ h => h) (by kernel_rfl) ?_ ?_
      rotate_left
      · (intro w' hS; have hz := hS.cell (w := wr.drew) x0 (fun h => h); go_simp; (try go_bits); (try with_reducible rfl))
      try simp only [Act.put, List.getElem_toArray, List.getElem_cons_zero, List.getElem_cons_succ, List.setIfInBounds_toArray, List.set_cons_zero, List.set_cons_succ]
      refine reg_take 4 (v := ?_) rfl (by kernel_rfl) (by kernel_rfl) (by kernel_rfl) (fun _ _ _ h => h) (by kernel_rfl) ?_ ?_
      rotate_left
      · (intro w' hS; go_simp; (try go_bits); (try with_reducible rfl))
      try simp only [Act.put, List.getElem_toArray, List.getElem_cons_zero, List.getElem_cons_succ, List.setIfInBounds_toArray, List.set_cons_zero, List.set_cons_succ]
      refine reg_take 5 (v := ?_) rfl (by kernel_rfl) (by kernel_rfl) (by kernel_rfl) (fun _ _ _ h => h) (by kernel_rfl) ?_ ?_
      rotate_left
      · (intro w' hS; go_simp; (try go_bits); (try with_reducible rfl))
      try simp only [Act.put, List.getElem_toArray, List.getElem_cons_zero, List.getElem_cons_succ, List.setIfInBounds_toArray, List.set_cons_zero, List.set_cons_succ]
      refine reg_take 6 (v := ?_) rfl (by kernel_rfl) (by kernel_rfl) (by kernel_rfl) (fun _ _ _ h => h) (by kernel_rfl) ?_ ?_
      rotate_left
      · (intro w' hS; go_simp; (try go_bits); (try with_reducible rfl))
      try simp only [Act.put, List.getElem_toArray, List.getElem_cons_zero, List.getElem_cons_succ, List.setIfInBounds_toArray, List.set_cons_zero, List.set_cons_succ]
      refine reg_take 7 (v := ?_) rfl (by kernel_rfl) (by kernel_rfl) (by kernel_rfl) (fun _ _ _ h => h) (by kernel_rfl) ?_ ?_
      rotate_left
      · (intro w' hS; have hz := hS.cell (w := wr.drew) x1 (fun h => h); go_simp; (try go_bits); (try with_reducible rfl))
      try simp only [Act.put, List.getElem_toArray, List.getElem_cons_zero, List.getElem_cons_succ, List.setIfInBounds_toArray, List.set_cons_zero, List.set_cons_succ]
      refine reg_take 8 (v := ?_) rfl (by kernel_rfl) (by kernel_rfl) (by kernel_rfl) (fun _ _ _ h => h) (by kernel_rfl) ?_ ?_
      rotate_left
      · (intro w' hS; go_simp; (try go_bits); (try with_reducible rfl))
      try simp only [Act.put, List.getElem_toArray, List.getElem_cons_zero, List.getElem_cons_succ, List.setIfInBounds_toArray, List.set_cons_zero, List.set_cons_succ]
      refine wpAnyH_done (by kernel_rfl) ?_ _
      go_wp2
      go_roundw
      case rel => exact ⟨k + 1, by omega, by go_num, cd⟩
      case measure => simp [intOf]; omega
    · have hkn : ((k : Int) < (N : Int)) = False := eq_false (by omega)
      go_wp2
      go_ret
      exact ⟨rfl, hC⟩
set_option maxHeartbeats 2000000 in
theorem one_self (m : Mg) (hA : m.A = none ∧ m.n = 0 ∧ m.c = 0) (w : World) : Calls Try.prog 17 #[m.val, m.val] w fun e w' => e = .returned (.bool true) ∧ Chg Pure' w w' := by
  obtain ⟨mk, mt, me, ms, ma, mb, mc, mf, mA, mn, mq⟩ := m
  obtain ⟨h1, h2, h3⟩ := hA
  simp only at h1 h2 h3
  subst h1 h2 h3
  rw [show (Mg.val ⟨mk, mt, me, ms, ma, mb, mc, mf, none, 0, 0⟩) = .agg #[.int .i64 mk, .int .u64 (mt.toNat : Int), .int .i64 me, .int .i64 ms, .int .i64 ma, .int .u64 (mb.toNat : Int), .int .i64 mc, .int .i64 mf, .slice none 0 0] from rfl]
  have c1 : Chg Pure' w (w.alloc (.cells #[.int .i64 mk, .int .u64 (mt.toNat : Int), .int .i64 me, .int .i64 ms, .int .i64 ma, .int .u64 (mb.toNat : Int), .int .i64 mc, .int .i64 mf, .slice none 0 0] 32)) := (Chg.refl _ w).alloc _
  have hs1 : (w.alloc (.cells #[.int .i64 mk, .int .u64 (mt.toNat : Int), .int .i64 me, .int .i64 ms, .int .i64 ma, .int .u64 (mb.toNat : Int), .int .i64 mc, .int .i64 mf, .slice none 0 0] 32)).heap.size = w.heap.size + 1 := by simp
  have c2 : Chg Pure' (w.alloc (.cells #[.int .i64 mk, .int .u64 (mt.toNat : Int), .int .i64 me, .int .i64 ms, .int .i64 ma, .int .u64 (mb.toNat : Int), .int .i64 mc, .int .i64 mf, .slice none 0 0] 32)) ((w.alloc (.cells #[.int .i64 mk, .int .u64 (mt.toNat : Int), .int .i64 me, .int .i64 ms, .int .i64 ma, .int .u64 (mb.toNat : Int), .int .i64 mc, .int .i64 mf, .slice none 0 0] 32)).alloc (.cells #[.int .i64 mk, .int .u64 (mt.toNat : Int), .int .i64 me, .int .i64 ms, .int .i64 ma, .int .u64 (mb.toNat : Int), .int .i64 mc, .int .i64 mf, .slice none 0 0] 32)) := (Chg.refl _ _).alloc _
  have m0 : ((w.alloc (.cells #[.int .i64 mk, .int .u64 (mt.toNat : Int), .int .i64 me, .int .i64 ms, .int .i64 ma, .int .u64 (mb.toNat : Int), .int .i64 mc, .int .i64 mf, .slice none 0 0] 32)).alloc (.cells #[.int .i64 mk, .int .u64 (mt.toNat : Int), .int .i64 me, .int .i64 ms, .int .i64 ma, .int .u64 (mb.toNat : Int), .int .i64 mc, .int .i64 mf, .slice none 0 0] 32)).cell? ⟨w.heap.size, 0, none⟩ = some (.int .i64 mk) := c2.cell (cellAt_alloc_lit w _ _ 0) (fun h => h)
  have n0 : ((w.alloc (.cells #[.int .i64 mk, .int .u64 (mt.toNat : Int), .int .i64 me, .int .i64 ms, .int .i64 ma, .int .u64 (mb.toNat : Int), .int .i64 mc, .int .i64 mf, .slice none 0 0] 32)).alloc (.cells #[.int .i64 mk, .int .u64 (mt.toNat : Int), .int .i64 me, .int .i64 ms, .int .i64 ma, .int .u64 (mb.toNat : Int), .int .i64 mc, .int .i64 mf, .slice none 0 0] 32)).cell? ⟨w.heap.size + 1, 0, none⟩ = some (.int .i64 mk) := by rw [← hs1]; exact cellAt_alloc_lit _ _ _ 0
  have m1 : ((w.alloc (.cells #[.int .i64 mk, .int .u64 (mt.toNat : Int), .int .i64 me, .int .i64 ms, .int .i64 ma, .int .u64 (mb.toNat : Int), .int .i64 mc, .int .i64 mf, .slice none 0 0] 32)).alloc (.cells #[.int .i64 mk, .int .u64 (mt.toNat : Int), .int .i64 me, .int .i64 ms, .int .i64 ma, .int .u64 (mb.toNat : Int), .int .i64 mc, .int .i64 mf, .slice none 0 0] 32)).cell? ⟨w.heap.size, 1, none⟩ = some (.int .u64 (mt.toNat : Int)) := c2.cell (cellAt_alloc_lit w _ _ 1) (fun h => h)
  have n1 : ((w.alloc (.cells #[.int .i64 mk, .int .u64 (mt.toNat : Int), .int .i64 me, .int .i64 ms, .int .i64 ma, .int .u64 (mb.toNat : Int), .int .i64 mc, .int .i64 mf, .slice none 0 0] 32)).alloc (.cells #[.int .i64 mk, .int .u64 (mt.toNat : Int), .int .i64 me, .int .i64 ms, .int .i64 ma, .int .u64 (mb.toNat : Int), .int .i64 mc, .int .i64 mf, .slice none 0 0] 32)).cell? ⟨w.heap.size + 1, 1, none⟩ = some (.int .u64 (mt.toNat : Int)) := by rw [← hs1]; exact cellAt_alloc_lit _ _ _ 1
  have m2 : ((w.alloc (.cells #[.int .i64 mk, .int .u64 (mt.toNat : Int), .int .i64 me, .int .i64 ms, .int .i64 ma, .int .u64 (mb.toNat : Int), .int .i64 mc, .int .i64 mf, .slice none 0 0] 32)).alloc (.cells #[.int .i64 mk, .int .u64 (mt.toNat : Int), .int .i64 me, .int .i64 ms, .int .i64 ma, .int .u64 (mb.toNat : Int), .int .i64 mc, .int .i64 mf, .slice none 0 0] 32)).cell? ⟨w.heap.size, 2, none⟩ = some (.int .i64 me) := c2.cell (cellAt_alloc_lit w _ _ 2) (fun h => h)
  have n2 : ((w.alloc (.cells #[.int .i64 mk, .int .u64 (mt.toNat : Int), .int .i64 me, .int .i64 ms, .int .i64 ma, .int .u64 (mb.toNat : Int), .int .i64 mc, .int .i64 mf, .slice none 0 0] 32)).alloc (.cells #[.int .i64 mk, .int .u64 (mt.toNat : Int), .int .i64 me, .int .i64 ms, .int .i64 ma, .int .u64 (mb.toNat : Int), .int .i64 mc, .int .i64 mf, .slice none 0 0] 32)).cell? ⟨w.heap.size + 1, 2, none⟩ = some (.int .i64 me) := by rw [← hs1]; exact cellAt_alloc_lit _ _ _ 2
  have m3 : ((w.alloc (.cells #[.int .i64 mk, .int .u64 (mt.toNat : Int), .int .i64 me, .int .i64 ms, .int .i64 ma, .int .u64 (mb.toNat : Int), .int .i64 mc, .int .i64 mf, .slice none 0 0] 32)).alloc (.cells #[.int .i64 mk, .int .u64 (mt.toNat : Int), .int .i64 me, .int .i64 ms, .int .i64 ma, .int .u64 (mb.toNat : Int), .int .i64 mc, .int .i64 mf, .slice none 0 0] 32)).cell? ⟨w.heap.size, 3, none⟩ = some (.int .i64 ms) := c2.cell (cellAt_alloc_lit w _ _ 3) (fun h => h)
  have n3 : ((w.alloc (.cells #[.int .i64 mk, .int .u64 (mt.toNat : Int), .int .i64 me, .int .i64 ms, .int .i64 ma, .int .u64 (mb.toNat : Int), .int .i64 mc, .int .i64 mf, .slice none 0 0] 32)).alloc (.cells #[.int .i64 mk, .int .u64 (mt.toNat : Int), .int .i64 me, .int .i64 ms, .int .i64 ma, .int .u64 (mb.toNat : Int), .int .i64 mc, .int .i64 mf, .slice none 0 0] 32)).cell? ⟨w.heap.size + 1, 3, none⟩ = some (.int .i64 ms) := by rw [← hs1]; exact cellAt_alloc_lit _ _ _ 3
  have m4 : ((w.alloc (.cells #[.int .i64 mk, .int .u64 (mt.toNat : Int), .int .i64 me, .int .i64 ms, .int .i64 ma, .int .u64 (mb.toNat : Int), .int .i64 mc, .int .i64 mf, .slice none 0 0] 32)).alloc (.cells #[.int .i64 mk, .int .u64 (mt.toNat : Int), .int .i64 me, .int .i64 ms, .int .i64 ma, .int .u64 (mb.toNat : Int), .int .i64 mc, .int .i64 mf, .slice none 0 0] 32)).cell? ⟨w.heap.size, 4, none⟩ = some (.int .i64 ma) := c2.cell (cellAt_alloc_lit w _ _ 4) (fun h => h)
  have n4 : ((w.alloc (.cells #[.int .i64 mk, .int .u64 (mt.toNat : Int), .int .i64 me, .int .i64 ms, .int .i64 ma, .int .u64 (mb.toNat : Int), .int .i64 mc, .int .i64 mf, .slice none 0 0] 32)).alloc (.cells #[.int .i64 mk, .int .u64 (mt.toNat : Int), .int .i64 me, .int .i64 ms, .int .i64 ma, .int .u64 (mb.toNat : Int), .int .i64 mc, .int .i64 mf, .slice none 0 0] 32)).cell? ⟨w.heap.size + 1, 4, none⟩ = some (.int .i64 ma) := by rw [← hs1]; exact cellAt_alloc_lit _ _ _ 4
  have m5 : ((w.alloc (.cells #[.int .i64 mk, .int .u64 (mt.toNat : Int), .int .i64 me, .int .i64 ms, .int .i64 ma, .int .u64 (mb.toNat : Int), .int .i64 mc, .int .i64 mf, .slice none 0 0] 32)).alloc (.cells #[.int .i64 mk, .int .u64 (mt.toNat : Int), .int .i64 me, .int .i64 ms, .int .i64 ma, .int .u64 (mb.toNat : Int), .int .i64 mc, .int .i64 mf, .slice none 0 0] 32)).cell? ⟨w.heap.size, 5, none⟩ = some (.int .u64 (mb.toNat : Int)) := c2.cell (cellAt_alloc_lit w _ _ 5) (fun h => h)
  have n5 : ((w.alloc (.cells #[.int .i64 mk, .int .u64 (mt.toNat : Int), .int .i64 me, .int .i64 ms, .int .i64 ma, .int .u64 (mb.toNat : Int), .int .i64 mc, .int .i64 mf, .slice none 0 0] 32)).alloc (.cells #[.int .i64 mk, .int .u64 (mt.toNat : Int), .int .i64 me, .int .i64 ms, .int .i64 ma, .int .u64 (mb.toNat : Int), .int .i64 mc, .int .i64 mf, .slice none 0 0] 32)).cell? ⟨w.heap.size + 1, 5, none⟩ = some (.int .u64 (mb.toNat : Int)) := by rw [← hs1]; exact cellAt_alloc_lit _ _ _ 5
  have m6 : ((w.alloc (.cells #[.int .i64 mk, .int .u64 (mt.toNat : Int), .int .i64 me, .int .i64 ms, .int .i64 ma, .int .u64 (mb.toNat : Int), .int .i64 mc, .int .i64 mf, .slice none 0 0] 32)).alloc (.cells #[.int .i64 mk, .int .u64 (mt.toNat : Int), .int .i64 me, .int .i64 ms, .int .i64 ma, .int .u64 (mb.toNat : Int), .int .i64 mc, .int .i64 mf, .slice none 0 0] 32)).cell? ⟨w.heap.size, 6, none⟩ = some (.int .i64 mc) := c2.cell (cellAt_alloc_lit w _ _ 6) (fun h => h)
  have n6 : ((w.alloc (.cells #[.int .i64 mk, .int .u64 (mt.toNat : Int), .int .i64 me, .int .i64 ms, .int .i64 ma, .int .u64 (mb.toNat : Int), .int .i64 mc, .int .i64 mf, .slice none 0 0] 32)).alloc (.cells #[.int .i64 mk, .int .u64 (mt.toNat : Int), .int .i64 me, .int .i64 ms, .int .i64 ma, .int .u64 (mb.toNat : Int), .int .i64 mc, .int .i64 mf, .slice none 0 0] 32)).cell? ⟨w.heap.size + 1, 6, none⟩ = some (.int .i64 mc) := by rw [← hs1]; exact cellAt_alloc_lit _ _ _ 6
  have m7 : ((w.alloc (.cells #[.int .i64 mk, .int .u64 (mt.toNat : Int), .int .i64 me, .int .i64 ms, .int .i64 ma, .int .u64 (mb.toNat : Int), .int .i64 mc, .int .i64 mf, .slice none 0 0] 32)).alloc (.cells #[.int .i64 mk, .int .u64 (mt.toNat : Int), .int .i64 me, .int .i64 ms, .int .i64 ma, .int .u64 (mb.toNat : Int), .int .i64 mc, .int .i64 mf, .slice none 0 0] 32)).cell? ⟨w.heap.size, 7, none⟩ = some (.int .i64 mf) := c2.cell (cellAt_alloc_lit w _ _ 7) (fun h => h)
  have n7 : ((w.alloc (.cells #[.int .i64 mk, .int .u64 (mt.toNat : Int), .int .i64 me, .int .i64 ms, .int .i64 ma, .int .u64 (mb.toNat : Int), .int .i64 mc, .int .i64 mf, .slice none 0 0] 32)).alloc (.cells #[.int .i64 mk, .int .u64 (mt.toNat : Int), .int .i64 me, .int .i64 ms, .int .i64 ma, .int .u64 (mb.toNat : Int), .int .i64 mc, .int .i64 mf, .slice none 0 0] 32)).cell? ⟨w.heap.size + 1, 7, none⟩ = some (.int .i64 mf) := by rw [← hs1]; exact cellAt_alloc_lit _ _ _ 7
  have m8 : ((w.alloc (.cells #[.int .i64 mk, .int .u64 (mt.toNat : Int), .int .i64 me, .int .i64 ms, .int .i64 ma, .int .u64 (mb.toNat : Int), .int .i64 mc, .int .i64 mf, .slice none 0 0] 32)).alloc (.cells #[.int .i64 mk, .int .u64 (mt.toNat : Int), .int .i64 me, .int .i64 ms, .int .i64 ma, .int .u64 (mb.toNat : Int), .int .i64 mc, .int .i64 mf, .slice none 0 0] 32)).cell? ⟨w.heap.size, 8, none⟩ = some (.slice none 0 0) := c2.cell (cellAt_alloc_lit w _ _ 8) (fun h => h)
  have n8 : ((w.alloc (.cells #[.int .i64 mk, .int .u64 (mt.toNat : Int), .int .i64 me, .int .i64 ms, .int .i64 ma, .int .u64 (mb.toNat : Int), .int .i64 mc, .int .i64 mf, .slice none 0 0] 32)).alloc (.cells #[.int .i64 mk, .int .u64 (mt.toNat : Int), .int .i64 me, .int .i64 ms, .int .i64 ma, .int .u64 (mb.toNat : Int), .int .i64 mc, .int .i64 mf, .slice none 0 0] 32)).cell? ⟨w.heap.size + 1, 8, none⟩ = some (.slice none 0 0) := by rw [← hs1]; exact cellAt_alloc_lit _ _ _ 8
  have cc := c1.pure c2
  clear c1 c2 hs1
  have i0 : (mk == mk) = true := beq_self_eq_true _
  have i1 : ((mt.toNat : Int) == (mt.toNat : Int)) = true := beq_self_eq_true _
  have i2 : (me == me) = true := beq_self_eq_true _
  have i3 : (ms == ms) = true := beq_self_eq_true _
  have i4 : (ma == ma) = true := beq_self_eq_true _
  have i5 : ((mb.toNat : Int) == (mb.toNat : Int)) = true := beq_self_eq_true _
  have i6 : (mc == mc) = true := beq_self_eq_true _
  have i7 : (mf == mf) = true := beq_self_eq_true _
  go_enter Try.func17, Try.ntmps17
  go_wp2_with (fail)
  refine (same_is true _ _ _ [] _ _ _ [] _ (Bytes.nil _ _) (Bytes.nil _ _) rfl).mono ?_
  rintro e w' ⟨rfl, rfl⟩
  go_wp2
  go_ret
  exact ⟨rfl, cc⟩
theorem hello_plain (T : Tb) (m : Mg) (d : UInt64) (now : Int) : (helloOf T m d now).1.1.A = none ∧ (helloOf T m d now).1.1.n = 0 ∧ (helloOf T m d now).1.1.c = 0 := by
  unfold helloOf
  split
  · exact ⟨rfl, rfl, rfl⟩
  · split
    · split <;> exact ⟨rfl, rfl, rfl⟩
    · split <;> exact ⟨rfl, rfl, rfl⟩
/-- The program's table and the document's, side by side. -/
structure Duo (w0 w : World) (p pr ub : Nat) (bs : List Nat) (v : Value) (B : Nat) (vL vU : Value) (T R : Tb) (us : List UInt64) (k : Nat) : Prop where
  t : TabOf w p ub bs v T k
  r : RTab w B pr R us vL vU
  b : B ≤ w.heap.size
  f : ∀ x, TFoot p ub bs v x → w0.heap.size ≤ x ∧ x ≠ pr ∧ vL.ownBlock ≠ some x ∧ vU.ownBlock ≠ some x
  p0 : w0.heap.size ≤ pr
  c : Chg Pure' w0 w
theorem Duo.pure {w0 w w' : World} {p pr ub : Nat} {bs : List Nat} {v : Value} {B : Nat} {vL vU : Value} {T R : Tb} {us : List UInt64} {k : Nat} (D : Duo w0 w p pr ub bs v B vL vU T R us k) (c : Chg Pure' w w') : Duo w0 w' p pr ub bs v B vL vU T R us k :=
  ⟨D.t.pure c, D.r.pure c, Nat.le_trans D.b c.size, D.f, D.p0, D.c.pure c⟩
theorem Duo.prog {w0 w w' : World} {p pr ub : Nat} {bs bs' : List Nat} {v v' : Value} {B : Nat} {vL vU : Value} {T T' R : Tb} {us : List UInt64} {k k' : Nat} (D : Duo w0 w p pr ub bs v B vL vU T R us k) (c : Chg (TFoot p ub bs v) w w') (h : TabOf w' p ub bs' v' T' k')
    (f : ∀ x, TFoot p ub bs' v' x → TFoot p ub bs v x ∨ w.heap.size ≤ x) : Duo w0 w' p pr ub bs' v' B vL vU T' R us k' := by
  refine ⟨h, D.r.frame c (fun e => (D.f _ e).2.1 rfl) (fun x hx e => (D.f x e).2.2.1 hx) (fun x hx e => (D.f x e).2.2.2 hx), Nat.le_trans D.b c.size, fun x hx => ?_, D.p0, D.c.trans c (fun i hi e => by have := (D.f i e).1; omega)⟩
  rcases f x hx with hx | hx
  · exact D.f x hx
  · have h1 := D.r.plt
    have h2 := D.c.size
    exact ⟨by omega, by omega, fun e => by have := (D.r.rowL.lt x e).2; omega, fun e => by have := (D.r.rowU.lt x e).2; omega⟩
theorem Duo.ref {w0 w w' : World} {p pr ub : Nat} {bs : List Nat} {v : Value} {B : Nat} {vL vU vL' vU' : Value} {T R R' : Tb} {us us' : List UInt64} {k : Nat} (D : Duo w0 w p pr ub bs v B vL vU T R us k) (c : Chg (fun x => x = pr) w w') (h : RTab w' B pr R' us' vL' vU')
    (fL : ∀ x, RFoot pr vL' x → x = pr ∨ w.heap.size ≤ x) (fU : ∀ x, vU'.ownBlock = some x → vU.ownBlock = some x ∨ w.heap.size ≤ x) : Duo w0 w' p pr ub bs v B vL' vU' T R' us' k := by
  refine ⟨D.t.frame c (fun x hx e => (D.f x hx).2.1 e), h, Nat.le_trans D.b c.size, fun x hx => ?_, D.p0, D.c.trans c (fun i hi e => by have := D.p0; omega)⟩
  have h1 := D.t.flt hx
  obtain ⟨g0, g1, g2, g3⟩ := D.f x hx
  refine ⟨g0, g1, fun e => ?_, fun e => ?_⟩
  · rcases fL x (.inr e) with h | h
    · exact g1 h
    · omega
  · rcases fU x e with h | h
    · exact g3 h
    · omega
theorem Duo.more {w0 w : World} {p pr ub : Nat} {bs : List Nat} {v : Value} {B : Nat} {vL vU : Value} {T R : Tb} {us : List UInt64} {k : Nat} (D : Duo w0 w p pr ub bs v B vL vU T R us k) : Duo w0 w p pr ub bs v B vL vU T R us (k + 1) :=
  ⟨D.t.more, D.r, D.b, D.f, D.p0, D.c⟩
theorem RTab.new {w : World} {b m i : Nat} (hb : w.heap[b]? = some (.cells #[.int .i64 m, .int .i64 i, .int .i64 0, .slice none 0 0, .slice none 0 0] 42 (0, 0))) (h2 : m ≤ 64) (h4 : i ≤ 1048576) : RTab w (b + 1) b (newT m i) [] (.slice none 0 0) (.slice none 0 0) := by
  have c : ∀ j u, (#[Value.int .i64 m, .int .i64 i, .int .i64 0, .slice none 0 0, .slice none 0 0] : Array Value)[j]? = some u → w.cell? ⟨b, j, none⟩ = some u := fun j u hu => by
    unfold World.cell?
    simp [hb]
    simpa using hu
  exact ⟨⟨_, hb⟩, c 0 _ rfl, c 1 _ rfl, c 2 _ rfl, c 3 _ rfl, c 4 _ rfl, World.ownsRow_nil _ _ _ _, World.ownsRow_nil _ _ _ _, fun d => by simp [newT], by omega, ⟨by show (0 : Int) ≤ 0; omega, by show (0 : Int) ≤ _; omega⟩, h4, Nat.zero_le _, h2, Nat.zero_le _, fun x hx => by simp [newT] at hx⟩
end Go.Proofs.Ytpfnphkgmjgmeaa
