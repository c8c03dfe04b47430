/- The laws of layer 20: a table that nobody made. -/
import Derived.Test.YtpfnphkgmjgmeaaL20C
namespace Go.Proofs.Ytpfnphkgmjgmeaa
open Go Go.RowKit
set_option linter.unusedVariables false
set_option linter.unusedSimpArgs false

def DeadT (w : World) (v : Value) : Prop := v = .pointer none ∨ ∃ p, v = .pointer (some ⟨p, 0, none⟩) ∧ w.cell? ⟨p, 4, none⟩ = some (.map none)
theorem DeadT.chg {w w' : World} {v : Value} (h : DeadT w v) (hc : Chg Pure' w w') : DeadT w' v := by
  rcases h with h | ⟨p, h, hp⟩
  · exact .inl h
  · exact .inr ⟨p, h, hc.cell hp (fun h => h)⟩
theorem tok_dead (v : Value) (w : World) (h : DeadT w v) : Calls Try.prog 27 #[v] w fun e w' => e = .returned (.bool false) ∧ w = w' := by
  have hn := run_neq_map_nil (P := Try.prog) w 28 29 4 none Try.underlying28
  rcases h with rfl | ⟨p, rfl, h1⟩
  · go_enter Try.func27, Try.ntmps27
    go_wp2
    go_ret
    exact ⟨rfl, rfl⟩
  · go_enter Try.func27, Try.ntmps27
    go_wp2
    go_ret
    exact ⟨rfl, rfl⟩
theorem tlive_dead (v : Value) (w : World) (h : DeadT w v) : Calls Try.prog 13 #[v] w fun e w' => e = .returned (.int .i64 0) ∧ w = w' := by
  go_enter Try.func13, Try.ntmps13
  go_wp2_with (fail)
  refine (tok_dead _ _ h).mono ?_
  rintro e w' ⟨rfl, rfl⟩
  go_wp2
  go_ret
  exact ⟨rfl, rfl⟩
theorem tfind_dead (v x : Value) (w : World) (h : DeadT w v) : Calls Try.prog 24 #[v, x] w fun e w' => e = .returned (.tuple #[.int .i64 0, .int .i64 0, .bool false]) ∧ w = w' := by
  go_enter Try.func24, Try.ntmps24
  go_wp2_with (fail)
  refine (tok_dead _ _ h).mono ?_
  rintro e w' ⟨rfl, rfl⟩
  go_wp2
  go_ret3
  exact ⟨rfl, rfl⟩
theorem tclose_dead (v x y : Value) (w : World) (h : DeadT w v) : Calls Try.prog 14 #[v, x, y] w fun e w' => e = .returned (.int .i64 2) ∧ w = w' := by
  go_enter Try.func14, Try.ntmps14
  go_wp2_with (fail)
  refine (tok_dead _ _ h).mono ?_
  rintro e w' ⟨rfl, rfl⟩
  go_wp2
  go_ret
  exact ⟨rfl, rfl⟩
theorem ttick_dead (v : Value) (hv : v.oneCell' = true) (x : Value) (w : World) (h : DeadT w v) : Calls Try.prog 22 #[v, x] w fun e w' => e = .returned (.slice none 0 0) ∧ Chg Pure' w w' := by
  have hd := fun cs T => h.chg ((Chg.refl Pure' w).alloc (.cells cs T))
  rcases h with rfl | ⟨p, rfl, h1⟩
  · have lit : (w.alloc (.cells #[.pointer none] 23)).cell? ⟨w.heap.size, 0, none⟩ = some (.pointer none) := cellAt_alloc_lit w _ _ 0
    go_enter Try.func22, Try.ntmps22
    go_wp2_with (fail)
    refine (tok_dead _ _ (hd _ _)).mono ?_
    rintro e w' ⟨rfl, rfl⟩
    go_wp2
    go_ret
    exact ⟨rfl, (Chg.refl _ w).alloc _⟩
  · have lit : (w.alloc (.cells #[.pointer (some ⟨p, 0, none⟩)] 23)).cell? ⟨w.heap.size, 0, none⟩ = some (.pointer (some ⟨p, 0, none⟩)) := cellAt_alloc_lit w _ _ 0
    go_enter Try.func22, Try.ntmps22
    go_wp2_with (fail)
    refine (tok_dead _ _ (hd _ _)).mono ?_
    rintro e w' ⟨rfl, rfl⟩
    go_wp2
    go_ret
    exact ⟨rfl, (Chg.refl _ w).alloc _⟩
theorem thear_dead (v x : Value) (m : Mg) (w : World) (h : DeadT w v) : Calls Try.prog 18 #[v, m.val, x] w fun e w' => e = .returned (.int .i64 2) ∧ Chg Pure' w w' := by
  obtain ⟨mk, mt, me, ms, ma, mb, mc, mf, mA, mn, mq⟩ := m
  rw [show (Mg.val ⟨mk, mt, me, ms, ma, mb, mc, mf, mA, mn, mq⟩) = .agg #[.int .i64 mk, .int .u64 (mt.toNat : Int), .int .i64 me, .int .i64 ms, .int .i64 ma, .int .u64 (mb.toNat : Int), .int .i64 mc, .int .i64 mf, .slice mA mn mq] from rfl]
  have ca : Chg Pure' w (w.alloc (.cells #[.int .i64 mk, .int .u64 (mt.toNat : Int), .int .i64 me, .int .i64 ms, .int .i64 ma, .int .u64 (mb.toNat : Int), .int .i64 mc, .int .i64 mf, .slice mA mn mq] 32)) := (Chg.refl _ w).alloc _
  have hd := h.chg ca
  go_enter Try.func18, Try.ntmps18
  go_wp2_with (fail)
  refine (tok_dead _ _ hd).mono ?_
  rintro e w' ⟨rfl, rfl⟩
  go_wp2
  go_ret
  exact ⟨rfl, ca⟩
theorem thello_dead (v x y : Value) (m : Mg) (w : World) (h : DeadT w v) : Calls Try.prog 11 #[v, m.val, x, y] w fun e w' => e = .returned (.tuple #[(resetM m.token).val, .int .i64 2]) ∧ Chg Pure' w w' := by
  obtain ⟨mk, mt, me, ms, ma, mb, mc, mf, mA, mn, mq⟩ := m
  rw [show (Mg.val ⟨mk, mt, me, ms, ma, mb, mc, mf, mA, mn, mq⟩) = .agg #[.int .i64 mk, .int .u64 (mt.toNat : Int), .int .i64 me, .int .i64 ms, .int .i64 ma, .int .u64 (mb.toNat : Int), .int .i64 mc, .int .i64 mf, .slice mA mn mq] from rfl]
  have hz := zero_msg20
  have hmf : ∀ (fn : Fn) (first cap : Array Value) (w : World), (Instr.makeFunc fn first cap).run Try.prog w = .ok (.func fn first cap) w := fun _ _ _ _ => rfl
  have c1 : Chg Pure' w (w.alloc (.cells #[.int .i64 mk, .int .u64 (mt.toNat : Int), .int .i64 me, .int .i64 ms, .int .i64 ma, .int .u64 (mb.toNat : Int), .int .i64 mc, .int .i64 mf, .slice mA mn mq] 32)) := (Chg.refl _ w).alloc _
  have hs1 : (w.alloc (.cells #[.int .i64 mk, .int .u64 (mt.toNat : Int), .int .i64 me, .int .i64 ms, .int .i64 ma, .int .u64 (mb.toNat : Int), .int .i64 mc, .int .i64 mf, .slice mA mn mq] 32)).heap.size = w.heap.size + 1 := by simp
  have c2 : Chg Pure' (w.alloc (.cells #[.int .i64 mk, .int .u64 (mt.toNat : Int), .int .i64 me, .int .i64 ms, .int .i64 ma, .int .u64 (mb.toNat : Int), .int .i64 mc, .int .i64 mf, .slice mA mn mq] 32)) ((w.alloc (.cells #[.int .i64 mk, .int .u64 (mt.toNat : Int), .int .i64 me, .int .i64 ms, .int .i64 ma, .int .u64 (mb.toNat : Int), .int .i64 mc, .int .i64 mf, .slice mA mn mq] 32)).alloc (.cells #[.int .i64 0, .int .u64 0, .int .i64 0, .int .i64 0, .int .i64 0, .int .u64 0, .int .i64 0, .int .i64 0, .slice none 0 0] 32)) := (Chg.refl _ _).alloc _
  have l1 : (w.alloc (.cells #[.int .i64 mk, .int .u64 (mt.toNat : Int), .int .i64 me, .int .i64 ms, .int .i64 ma, .int .u64 (mb.toNat : Int), .int .i64 mc, .int .i64 mf, .slice mA mn mq] 32)).cell? ⟨w.heap.size, 1, none⟩ = some (.int .u64 (mt.toNat : Int)) := cellAt_alloc_lit w _ _ 1
  have k1 := c2.cell l1 (fun h => h)
  have hb : MsgBlk ((w.alloc (.cells #[.int .i64 mk, .int .u64 (mt.toNat : Int), .int .i64 me, .int .i64 ms, .int .i64 ma, .int .u64 (mb.toNat : Int), .int .i64 mc, .int .i64 mf, .slice mA mn mq] 32)).alloc (.cells #[.int .i64 0, .int .u64 0, .int .i64 0, .int .i64 0, .int .i64 0, .int .u64 0, .int .i64 0, .int .i64 0, .slice none 0 0] 32)) (w.heap.size + 1) := ⟨_, by rw [← hs1]; exact heap_alloc_new _ _, rfl⟩
  have cc := c1.pure c2
  have hd := h.chg cc
  have hs2 : ((w.alloc (.cells #[.int .i64 mk, .int .u64 (mt.toNat : Int), .int .i64 me, .int .i64 ms, .int .i64 ma, .int .u64 (mb.toNat : Int), .int .i64 mc, .int .i64 mf, .slice mA mn mq] 32)).alloc (.cells #[.int .i64 0, .int .u64 0, .int .i64 0, .int .i64 0, .int .i64 0, .int .u64 0, .int .i64 0, .int .i64 0, .slice none 0 0] 32)).heap.size = w.heap.size + 2 := by simp
  clear l1 c1 c2 hs1 h
  go_enter Try.func11, Try.ntmps11
  go_wp2_with (fail)
  generalize ((w.alloc (.cells #[.int .i64 mk, .int .u64 (mt.toNat : Int), .int .i64 me, .int .i64 ms, .int .i64 ma, .int .u64 (mb.toNat : Int), .int .i64 mc, .int .i64 mf, .slice mA mn mq] 32)).alloc (.cells #[.int .i64 0, .int .u64 0, .int .i64 0, .int .i64 0, .int .i64 0, .int .u64 0, .int .i64 0, .int .i64 0, .slice none 0 0] 32)) = w2 at *
  refine (tok_dead _ _ hd).mono ?_
  rintro e w' ⟨rfl, rfl⟩
  go_wp2_with (fail)
  refine (refuse_any w.heap.size mt 2 _ k1 (by omega)).mono ?_
  rintro e w4 ⟨rfl, c4⟩
  have hb4 := hb.chg c4 (fun h => h)
  obtain ⟨⟨v0, v1, v2, v3, v4, v5, v6, v7, v8, r0, r1, r2, r3, r4, r5, r6, r7, r8⟩, rf⟩ := hb4.cells
  obtain ⟨w5, e5, c5, -, f0, f1, f2, f3, f4, f5, f6, f7, f8⟩ := set9 hb4 (.int .i64 5) (.int .u64 (mt.toNat : Int)) (.int .i64 0) (.int .i64 0) (.int .i64 0) (.int .u64 0) (.int .i64 0) (.int .i64 0) (.slice none 0 0)
  rw [show (resetM mt).val = .agg #[.int .i64 5, .int .u64 (mt.toNat : Int), .int .i64 0, .int .i64 0, .int .i64 0, .int .u64 0, .int .i64 0, .int .i64 0, .slice none 0 0] from rfl]
  have E5 := Lib.hid e5
  clear e5
  go_wp2_with (fail)
  rw [← E5.out]
  clear r0 r1 r2 r3 r4 r5 r6 r7 r8 rf
  refine bodyPost_ret (v := .tuple #[(resetM mt).val, .int .i64 2]) ?_ rfl ⟨rfl, (cc.pure c4).trans c5 (fun i hi e => by have e : i = w.heap.size + 1 := e; omega)⟩
  unfold results
  go_simp
  try rfl
theorem one_reset (mt : UInt64) (w : World) : Calls Try.prog 17 #[(resetM mt).val, (resetM mt).val] w fun e w' => e = .returned (.bool true) ∧ Chg Pure' w w' := by
  rw [show (resetM mt).val = .agg #[.int .i64 5, .int .u64 (mt.toNat : Int), .int .i64 0, .int .i64 0, .int .i64 0, .int .u64 0, .int .i64 0, .int .i64 0, .slice none 0 0] from rfl]
  have c1 : Chg Pure' w (w.alloc (.cells #[.int .i64 5, .int .u64 (mt.toNat : Int), .int .i64 0, .int .i64 0, .int .i64 0, .int .u64 0, .int .i64 0, .int .i64 0, .slice none 0 0] 32)) := (Chg.refl _ w).alloc _
  have hs1 : (w.alloc (.cells #[.int .i64 5, .int .u64 (mt.toNat : Int), .int .i64 0, .int .i64 0, .int .i64 0, .int .u64 0, .int .i64 0, .int .i64 0, .slice none 0 0] 32)).heap.size = w.heap.size + 1 := by simp
  have c2 : Chg Pure' (w.alloc (.cells #[.int .i64 5, .int .u64 (mt.toNat : Int), .int .i64 0, .int .i64 0, .int .i64 0, .int .u64 0, .int .i64 0, .int .i64 0, .slice none 0 0] 32)) ((w.alloc (.cells #[.int .i64 5, .int .u64 (mt.toNat : Int), .int .i64 0, .int .i64 0, .int .i64 0, .int .u64 0, .int .i64 0, .int .i64 0, .slice none 0 0] 32)).alloc (.cells #[.int .i64 5, .int .u64 (mt.toNat : Int), .int .i64 0, .int .i64 0, .int .i64 0, .int .u64 0, .int .i64 0, .int .i64 0, .slice none 0 0] 32)) := (Chg.refl _ _).alloc _
  have m0 : ((w.alloc (.cells #[.int .i64 5, .int .u64 (mt.toNat : Int), .int .i64 0, .int .i64 0, .int .i64 0, .int .u64 0, .int .i64 0, .int .i64 0, .slice none 0 0] 32)).alloc (.cells #[.int .i64 5, .int .u64 (mt.toNat : Int), .int .i64 0, .int .i64 0, .int .i64 0, .int .u64 0, .int .i64 0, .int .i64 0, .slice none 0 0] 32)).cell? ⟨w.heap.size, 0, none⟩ = some (.int .i64 5) := c2.cell (show (w.alloc (.cells #[.int .i64 5, .int .u64 (mt.toNat : Int), .int .i64 0, .int .i64 0, .int .i64 0, .int .u64 0, .int .i64 0, .int .i64 0, .slice none 0 0] 32)).cell? ⟨w.heap.size, 0, none⟩ = some (.int .i64 5) from cellAt_alloc_lit w _ _ 0) (fun h => h)
  have n0 : ((w.alloc (.cells #[.int .i64 5, .int .u64 (mt.toNat : Int), .int .i64 0, .int .i64 0, .int .i64 0, .int .u64 0, .int .i64 0, .int .i64 0, .slice none 0 0] 32)).alloc (.cells #[.int .i64 5, .int .u64 (mt.toNat : Int), .int .i64 0, .int .i64 0, .int .i64 0, .int .u64 0, .int .i64 0, .int .i64 0, .slice none 0 0] 32)).cell? ⟨w.heap.size + 1, 0, none⟩ = some (.int .i64 5) := by rw [← hs1]; exact cellAt_alloc_lit (w.alloc (.cells #[.int .i64 5, .int .u64 (mt.toNat : Int), .int .i64 0, .int .i64 0, .int .i64 0, .int .u64 0, .int .i64 0, .int .i64 0, .slice none 0 0] 32)) _ _ 0
  have m1 : ((w.alloc (.cells #[.int .i64 5, .int .u64 (mt.toNat : Int), .int .i64 0, .int .i64 0, .int .i64 0, .int .u64 0, .int .i64 0, .int .i64 0, .slice none 0 0] 32)).alloc (.cells #[.int .i64 5, .int .u64 (mt.toNat : Int), .int .i64 0, .int .i64 0, .int .i64 0, .int .u64 0, .int .i64 0, .int .i64 0, .slice none 0 0] 32)).cell? ⟨w.heap.size, 1, none⟩ = some (.int .u64 (mt.toNat : Int)) := c2.cell (show (w.alloc (.cells #[.int .i64 5, .int .u64 (mt.toNat : Int), .int .i64 0, .int .i64 0, .int .i64 0, .int .u64 0, .int .i64 0, .int .i64 0, .slice none 0 0] 32)).cell? ⟨w.heap.size, 1, none⟩ = some (.int .u64 (mt.toNat : Int)) from cellAt_alloc_lit w _ _ 1) (fun h => h)
  have n1 : ((w.alloc (.cells #[.int .i64 5, .int .u64 (mt.toNat : Int), .int .i64 0, .int .i64 0, .int .i64 0, .int .u64 0, .int .i64 0, .int .i64 0, .slice none 0 0] 32)).alloc (.cells #[.int .i64 5, .int .u64 (mt.toNat : Int), .int .i64 0, .int .i64 0, .int .i64 0, .int .u64 0, .int .i64 0, .int .i64 0, .slice none 0 0] 32)).cell? ⟨w.heap.size + 1, 1, none⟩ = some (.int .u64 (mt.toNat : Int)) := by rw [← hs1]; exact cellAt_alloc_lit (w.alloc (.cells #[.int .i64 5, .int .u64 (mt.toNat : Int), .int .i64 0, .int .i64 0, .int .i64 0, .int .u64 0, .int .i64 0, .int .i64 0, .slice none 0 0] 32)) _ _ 1
  have m2 : ((w.alloc (.cells #[.int .i64 5, .int .u64 (mt.toNat : Int), .int .i64 0, .int .i64 0, .int .i64 0, .int .u64 0, .int .i64 0, .int .i64 0, .slice none 0 0] 32)).alloc (.cells #[.int .i64 5, .int .u64 (mt.toNat : Int), .int .i64 0, .int .i64 0, .int .i64 0, .int .u64 0, .int .i64 0, .int .i64 0, .slice none 0 0] 32)).cell? ⟨w.heap.size, 2, none⟩ = some (.int .i64 0) := c2.cell (show (w.alloc (.cells #[.int .i64 5, .int .u64 (mt.toNat : Int), .int .i64 0, .int .i64 0, .int .i64 0, .int .u64 0, .int .i64 0, .int .i64 0, .slice none 0 0] 32)).cell? ⟨w.heap.size, 2, none⟩ = some (.int .i64 0) from cellAt_alloc_lit w _ _ 2) (fun h => h)
  have n2 : ((w.alloc (.cells #[.int .i64 5, .int .u64 (mt.toNat : Int), .int .i64 0, .int .i64 0, .int .i64 0, .int .u64 0, .int .i64 0, .int .i64 0, .slice none 0 0] 32)).alloc (.cells #[.int .i64 5, .int .u64 (mt.toNat : Int), .int .i64 0, .int .i64 0, .int .i64 0, .int .u64 0, .int .i64 0, .int .i64 0, .slice none 0 0] 32)).cell? ⟨w.heap.size + 1, 2, none⟩ = some (.int .i64 0) := by rw [← hs1]; exact cellAt_alloc_lit (w.alloc (.cells #[.int .i64 5, .int .u64 (mt.toNat : Int), .int .i64 0, .int .i64 0, .int .i64 0, .int .u64 0, .int .i64 0, .int .i64 0, .slice none 0 0] 32)) _ _ 2
  have m3 : ((w.alloc (.cells #[.int .i64 5, .int .u64 (mt.toNat : Int), .int .i64 0, .int .i64 0, .int .i64 0, .int .u64 0, .int .i64 0, .int .i64 0, .slice none 0 0] 32)).alloc (.cells #[.int .i64 5, .int .u64 (mt.toNat : Int), .int .i64 0, .int .i64 0, .int .i64 0, .int .u64 0, .int .i64 0, .int .i64 0, .slice none 0 0] 32)).cell? ⟨w.heap.size, 3, none⟩ = some (.int .i64 0) := c2.cell (show (w.alloc (.cells #[.int .i64 5, .int .u64 (mt.toNat : Int), .int .i64 0, .int .i64 0, .int .i64 0, .int .u64 0, .int .i64 0, .int .i64 0, .slice none 0 0] 32)).cell? ⟨w.heap.size, 3, none⟩ = some (.int .i64 0) from cellAt_alloc_lit w _ _ 3) (fun h => h)
  have n3 : ((w.alloc (.cells #[.int .i64 5, .int .u64 (mt.toNat : Int), .int .i64 0, .int .i64 0, .int .i64 0, .int .u64 0, .int .i64 0, .int .i64 0, .slice none 0 0] 32)).alloc (.cells #[.int .i64 5, .int .u64 (mt.toNat : Int), .int .i64 0, .int .i64 0, .int .i64 0, .int .u64 0, .int .i64 0, .int .i64 0, .slice none 0 0] 32)).cell? ⟨w.heap.size + 1, 3, none⟩ = some (.int .i64 0) := by rw [← hs1]; exact cellAt_alloc_lit (w.alloc (.cells #[.int .i64 5, .int .u64 (mt.toNat : Int), .int .i64 0, .int .i64 0, .int .i64 0, .int .u64 0, .int .i64 0, .int .i64 0, .slice none 0 0] 32)) _ _ 3
  have m4 : ((w.alloc (.cells #[.int .i64 5, .int .u64 (mt.toNat : Int), .int .i64 0, .int .i64 0, .int .i64 0, .int .u64 0, .int .i64 0, .int .i64 0, .slice none 0 0] 32)).alloc (.cells #[.int .i64 5, .int .u64 (mt.toNat : Int), .int .i64 0, .int .i64 0, .int .i64 0, .int .u64 0, .int .i64 0, .int .i64 0, .slice none 0 0] 32)).cell? ⟨w.heap.size, 4, none⟩ = some (.int .i64 0) := c2.cell (show (w.alloc (.cells #[.int .i64 5, .int .u64 (mt.toNat : Int), .int .i64 0, .int .i64 0, .int .i64 0, .int .u64 0, .int .i64 0, .int .i64 0, .slice none 0 0] 32)).cell? ⟨w.heap.size, 4, none⟩ = some (.int .i64 0) from cellAt_alloc_lit w _ _ 4) (fun h => h)
  have n4 : ((w.alloc (.cells #[.int .i64 5, .int .u64 (mt.toNat : Int), .int .i64 0, .int .i64 0, .int .i64 0, .int .u64 0, .int .i64 0, .int .i64 0, .slice none 0 0] 32)).alloc (.cells #[.int .i64 5, .int .u64 (mt.toNat : Int), .int .i64 0, .int .i64 0, .int .i64 0, .int .u64 0, .int .i64 0, .int .i64 0, .slice none 0 0] 32)).cell? ⟨w.heap.size + 1, 4, none⟩ = some (.int .i64 0) := by rw [← hs1]; exact cellAt_alloc_lit (w.alloc (.cells #[.int .i64 5, .int .u64 (mt.toNat : Int), .int .i64 0, .int .i64 0, .int .i64 0, .int .u64 0, .int .i64 0, .int .i64 0, .slice none 0 0] 32)) _ _ 4
  have m5 : ((w.alloc (.cells #[.int .i64 5, .int .u64 (mt.toNat : Int), .int .i64 0, .int .i64 0, .int .i64 0, .int .u64 0, .int .i64 0, .int .i64 0, .slice none 0 0] 32)).alloc (.cells #[.int .i64 5, .int .u64 (mt.toNat : Int), .int .i64 0, .int .i64 0, .int .i64 0, .int .u64 0, .int .i64 0, .int .i64 0, .slice none 0 0] 32)).cell? ⟨w.heap.size, 5, none⟩ = some (.int .u64 0) := c2.cell (show (w.alloc (.cells #[.int .i64 5, .int .u64 (mt.toNat : Int), .int .i64 0, .int .i64 0, .int .i64 0, .int .u64 0, .int .i64 0, .int .i64 0, .slice none 0 0] 32)).cell? ⟨w.heap.size, 5, none⟩ = some (.int .u64 0) from cellAt_alloc_lit w _ _ 5) (fun h => h)
  have n5 : ((w.alloc (.cells #[.int .i64 5, .int .u64 (mt.toNat : Int), .int .i64 0, .int .i64 0, .int .i64 0, .int .u64 0, .int .i64 0, .int .i64 0, .slice none 0 0] 32)).alloc (.cells #[.int .i64 5, .int .u64 (mt.toNat : Int), .int .i64 0, .int .i64 0, .int .i64 0, .int .u64 0, .int .i64 0, .int .i64 0, .slice none 0 0] 32)).cell? ⟨w.heap.size + 1, 5, none⟩ = some (.int .u64 0) := by rw [← hs1]; exact cellAt_alloc_lit (w.alloc (.cells #[.int .i64 5, .int .u64 (mt.toNat : Int), .int .i64 0, .int .i64 0, .int .i64 0, .int .u64 0, .int .i64 0, .int .i64 0, .slice none 0 0] 32)) _ _ 5
  have m6 : ((w.alloc (.cells #[.int .i64 5, .int .u64 (mt.toNat : Int), .int .i64 0, .int .i64 0, .int .i64 0, .int .u64 0, .int .i64 0, .int .i64 0, .slice none 0 0] 32)).alloc (.cells #[.int .i64 5, .int .u64 (mt.toNat : Int), .int .i64 0, .int .i64 0, .int .i64 0, .int .u64 0, .int .i64 0, .int .i64 0, .slice none 0 0] 32)).cell? ⟨w.heap.size, 6, none⟩ = some (.int .i64 0) := c2.cell (show (w.alloc (.cells #[.int .i64 5, .int .u64 (mt.toNat : Int), .int .i64 0, .int .i64 0, .int .i64 0, .int .u64 0, .int .i64 0, .int .i64 0, .slice none 0 0] 32)).cell? ⟨w.heap.size, 6, none⟩ = some (.int .i64 0) from cellAt_alloc_lit w _ _ 6) (fun h => h)
  have n6 : ((w.alloc (.cells #[.int .i64 5, .int .u64 (mt.toNat : Int), .int .i64 0, .int .i64 0, .int .i64 0, .int .u64 0, .int .i64 0, .int .i64 0, .slice none 0 0] 32)).alloc (.cells #[.int .i64 5, .int .u64 (mt.toNat : Int), .int .i64 0, .int .i64 0, .int .i64 0, .int .u64 0, .int .i64 0, .int .i64 0, .slice none 0 0] 32)).cell? ⟨w.heap.size + 1, 6, none⟩ = some (.int .i64 0) := by rw [← hs1]; exact cellAt_alloc_lit (w.alloc (.cells #[.int .i64 5, .int .u64 (mt.toNat : Int), .int .i64 0, .int .i64 0, .int .i64 0, .int .u64 0, .int .i64 0, .int .i64 0, .slice none 0 0] 32)) _ _ 6
  have m7 : ((w.alloc (.cells #[.int .i64 5, .int .u64 (mt.toNat : Int), .int .i64 0, .int .i64 0, .int .i64 0, .int .u64 0, .int .i64 0, .int .i64 0, .slice none 0 0] 32)).alloc (.cells #[.int .i64 5, .int .u64 (mt.toNat : Int), .int .i64 0, .int .i64 0, .int .i64 0, .int .u64 0, .int .i64 0, .int .i64 0, .slice none 0 0] 32)).cell? ⟨w.heap.size, 7, none⟩ = some (.int .i64 0) := c2.cell (show (w.alloc (.cells #[.int .i64 5, .int .u64 (mt.toNat : Int), .int .i64 0, .int .i64 0, .int .i64 0, .int .u64 0, .int .i64 0, .int .i64 0, .slice none 0 0] 32)).cell? ⟨w.heap.size, 7, none⟩ = some (.int .i64 0) from cellAt_alloc_lit w _ _ 7) (fun h => h)
  have n7 : ((w.alloc (.cells #[.int .i64 5, .int .u64 (mt.toNat : Int), .int .i64 0, .int .i64 0, .int .i64 0, .int .u64 0, .int .i64 0, .int .i64 0, .slice none 0 0] 32)).alloc (.cells #[.int .i64 5, .int .u64 (mt.toNat : Int), .int .i64 0, .int .i64 0, .int .i64 0, .int .u64 0, .int .i64 0, .int .i64 0, .slice none 0 0] 32)).cell? ⟨w.heap.size + 1, 7, none⟩ = some (.int .i64 0) := by rw [← hs1]; exact cellAt_alloc_lit (w.alloc (.cells #[.int .i64 5, .int .u64 (mt.toNat : Int), .int .i64 0, .int .i64 0, .int .i64 0, .int .u64 0, .int .i64 0, .int .i64 0, .slice none 0 0] 32)) _ _ 7
  have m8 : ((w.alloc (.cells #[.int .i64 5, .int .u64 (mt.toNat : Int), .int .i64 0, .int .i64 0, .int .i64 0, .int .u64 0, .int .i64 0, .int .i64 0, .slice none 0 0] 32)).alloc (.cells #[.int .i64 5, .int .u64 (mt.toNat : Int), .int .i64 0, .int .i64 0, .int .i64 0, .int .u64 0, .int .i64 0, .int .i64 0, .slice none 0 0] 32)).cell? ⟨w.heap.size, 8, none⟩ = some (.slice none 0 0) := c2.cell (show (w.alloc (.cells #[.int .i64 5, .int .u64 (mt.toNat : Int), .int .i64 0, .int .i64 0, .int .i64 0, .int .u64 0, .int .i64 0, .int .i64 0, .slice none 0 0] 32)).cell? ⟨w.heap.size, 8, none⟩ = some (.slice none 0 0) from cellAt_alloc_lit w _ _ 8) (fun h => h)
  have n8 : ((w.alloc (.cells #[.int .i64 5, .int .u64 (mt.toNat : Int), .int .i64 0, .int .i64 0, .int .i64 0, .int .u64 0, .int .i64 0, .int .i64 0, .slice none 0 0] 32)).alloc (.cells #[.int .i64 5, .int .u64 (mt.toNat : Int), .int .i64 0, .int .i64 0, .int .i64 0, .int .u64 0, .int .i64 0, .int .i64 0, .slice none 0 0] 32)).cell? ⟨w.heap.size + 1, 8, none⟩ = some (.slice none 0 0) := by rw [← hs1]; exact cellAt_alloc_lit (w.alloc (.cells #[.int .i64 5, .int .u64 (mt.toNat : Int), .int .i64 0, .int .i64 0, .int .i64 0, .int .u64 0, .int .i64 0, .int .i64 0, .slice none 0 0] 32)) _ _ 8
  have cc := c1.pure c2
  clear c1 c2 hs1
  go_enter Try.func17, Try.ntmps17
  go_wp2_with (fail)
  refine (same_is true _ _ _ [] _ _ _ [] _ (Bytes.nil _ _) (Bytes.nil _ _) rfl).mono ?_
  rintro e w' ⟨rfl, rfl⟩
  go_wp2
  go_ret
  exact ⟨rfl, cc⟩
end Go.Proofs.Ytpfnphkgmjgmeaa
