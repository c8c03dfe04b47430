/- tree.alone: a node's fault, what is in it aside (printed by wip/genTreeY.py). -/
import Derived.Test.YtafpkecjicphoaaDoorTreeV
namespace Go.Proofs.YtafpkecjicphoaaDoor
open Go Go.RowKit
set_option linter.unusedVariables false
set_option linter.unusedSimpArgs false
set_option maxRecDepth 100000

/-- A node's parts do not fit its Kind. -/
def badT (t : Tn) : Prop :=
  (t.kind = 1 ∧ 1 < t.n.toNat) ∨ (t.kind = 8 ∧ t.keys.length ≠ t.kids.length) ∨ (t.kind = 9 ∧ t.kids.length ≠ 1) ∨ (t.kind = 10 ∧ (255 < t.n.toNat ∨ (20 ≤ t.n.toNat ∧ t.n.toNat < 32 ∧ t.n.toNat ≠ 23)))
instance (t : Tn) : Decidable (badT t) := by unfold badT; infer_instance
/-- A node's fault, what is in it aside. -/
def aloneT (t : Tn) : Int :=
  if firstT t ≠ 0 then firstT t
  else if badT t ∨ t.kind < 0 ∨ 10 < t.kind ∨ emptyT (plainT t) = false then 12
  else 0
theorem PartsAt.pure {w w' : World} {t : Tn} {Ab : Option Addr} {cb ck ci : Nat} (h : PartsAt w t Ab cb ck ci) (hc : Chg Pure' w w') : PartsAt w' t Ab cb ck ci :=
  ⟨h.kind, h.exp, h.dig, h.text, h.bytes.pure hc, h.lb, h.cb, h.lk, h.ck, h.li, h.ci⟩
theorem node_nine {w : World} {g : Nat} {T : TypeId} {v0 v1 v2 v3 v4 v5 v6 v7 v8 : Value} (h : w.heap[g]? = some (.cells #[v0, v1, v2, v3, v4, v5, v6, v7, v8] T (0, 0))) :
    w.cell? ⟨g, 0, none⟩ = some v0 ∧ w.cell? ⟨g, 1, none⟩ = some v1 ∧ w.cell? ⟨g, 2, none⟩ = some v2 ∧ w.cell? ⟨g, 3, none⟩ = some v3 ∧ w.cell? ⟨g, 4, none⟩ = some v4 ∧ w.cell? ⟨g, 5, none⟩ = some v5 ∧ w.cell? ⟨g, 6, none⟩ = some v6 ∧ w.cell? ⟨g, 7, none⟩ = some v7 ∧ w.cell? ⟨g, 8, none⟩ = some v8 := by
  simp [World.cell?, h]
theorem one_block {w w1 : World} {o : Obj} (z : Chg Pure' (w.alloc o) w1) : w1.heap[w.heap.size]? = some o :=
  (z.block w.heap.size (by simp) (fun h => h)).trans Array.getElem?_push_size
set_option maxHeartbeats 2000000 in
theorem alone_first (t : Tn) (Ab : Option Addr) (cb : Nat) (Ak : Option Addr) (ck : Nat) (Ai : Option Addr) (ci : Nat) (w : World) (hP : PartsAt w t Ab cb ck ci) (h0 : firstT t ≠ 0) :
    Calls Tryd.prog 18 #[.agg (nodeCells t Ab cb Ak ck Ai ci)] w fun e w' => e = .returned (.int .i64 (firstT t)) ∧ Chg Pure' w w' := by
  have hf := first_of t Ab cb Ak ck Ai ci
  have hf' : ∀ W, Chg Pure' w W → Calls Tryd.prog 23 #[.agg (nodeCells t Ab cb Ak ck Ai ci)] W fun e w' => e = .returned (.int .i64 (firstT t)) ∧ Chg Pure' W w' := fun W hc => hf W (hP.pure hc)
  clear hf
  generalize firstT t = F at *
  have hlk := hP.lk
  have hli := hP.li
  clear hP
  unfold nodeCells at *
  go_enter Tryd.func18, Tryd.ntmps18
  go_wp2_with (go_at_call 23; refine (hf' _ ((Chg.refl _ _).alloc _)).mono ?_)
  first | rintro e w1 rfl z1 | rintro e w1 ⟨rfl, z1⟩
  have hz := one_block z1
  obtain ⟨d0, d1, d2, d3, d4, d5, d6, d7, d8⟩ := node_nine hz
  clear hz
  go_wp2
  all_goals go_ret
  all_goals exact ⟨rfl, ((Chg.refl _ _).alloc _).trans' z1⟩
set_option maxHeartbeats 2000000 in
theorem alone_1_bad (t : Tn) (Ab : Option Addr) (cb : Nat) (Ak : Option Addr) (ck : Nat) (Ai : Option Addr) (ci : Nat) (w : World) (hP : PartsAt w t Ab cb ck ci) (hk : t.kind = 1) (hb : 1 < t.n.toNat) (h0 : firstT t = 0) :
    Calls Tryd.prog 18 #[.agg (nodeCells t Ab cb Ak ck Ai ci)] w fun e w' => e = .returned (.int .i64 12) ∧ Chg Pure' w w' := by
  have hf := first_of t Ab cb Ak ck Ai ci
  have hf' : ∀ W, Chg Pure' w W → Calls Tryd.prog 23 #[.agg (nodeCells t Ab cb Ak ck Ai ci)] W fun e w' => e = .returned (.int .i64 (firstT t)) ∧ Chg Pure' W w' := fun W hc => hf W (hP.pure hc)
  clear hf
  rw [h0] at hf'
  have hlk := hP.lk
  have hli := hP.li
  clear hP
  unfold nodeCells at *
  rw [hk] at *
  go_enter Tryd.func18, Tryd.ntmps18
  go_wp2_with (go_at_call 23; refine (hf' _ ((Chg.refl _ _).alloc _)).mono ?_)
  first | rintro e w1 rfl z1 | rintro e w1 ⟨rfl, z1⟩
  have hz := one_block z1
  obtain ⟨d0, d1, d2, d3, d4, d5, d6, d7, d8⟩ := node_nine hz
  clear hz
  go_wp2
  all_goals first
    | (go_ret; exact ⟨rfl, ((Chg.refl _ _).alloc _).trans' z1⟩)
    | (exfalso; simp only [beq_iff_eq, bne_iff_ne, beq_eq_false_iff_ne] at *; omega)
set_option maxHeartbeats 2000000 in
theorem alone_8_bad (t : Tn) (Ab : Option Addr) (cb : Nat) (Ak : Option Addr) (ck : Nat) (Ai : Option Addr) (ci : Nat) (w : World) (hP : PartsAt w t Ab cb ck ci) (hk : t.kind = 8) (hb : t.keys.length ≠ t.kids.length) (h0 : firstT t = 0) :
    Calls Tryd.prog 18 #[.agg (nodeCells t Ab cb Ak ck Ai ci)] w fun e w' => e = .returned (.int .i64 12) ∧ Chg Pure' w w' := by
  have hf := first_of t Ab cb Ak ck Ai ci
  have hf' : ∀ W, Chg Pure' w W → Calls Tryd.prog 23 #[.agg (nodeCells t Ab cb Ak ck Ai ci)] W fun e w' => e = .returned (.int .i64 (firstT t)) ∧ Chg Pure' W w' := fun W hc => hf W (hP.pure hc)
  clear hf
  rw [h0] at hf'
  have hlk := hP.lk
  have hli := hP.li
  clear hP
  unfold nodeCells at *
  rw [hk] at *
  go_enter Tryd.func18, Tryd.ntmps18
  go_wp2_with (go_at_call 23; refine (hf' _ ((Chg.refl _ _).alloc _)).mono ?_)
  first | rintro e w1 rfl z1 | rintro e w1 ⟨rfl, z1⟩
  have hz := one_block z1
  obtain ⟨d0, d1, d2, d3, d4, d5, d6, d7, d8⟩ := node_nine hz
  clear hz
  go_wp2
  all_goals first
    | (go_ret; exact ⟨rfl, ((Chg.refl _ _).alloc _).trans' z1⟩)
    | (exfalso; simp only [beq_iff_eq, bne_iff_ne, beq_eq_false_iff_ne] at *; omega)
set_option maxHeartbeats 2000000 in
theorem alone_9_bad (t : Tn) (Ab : Option Addr) (cb : Nat) (Ak : Option Addr) (ck : Nat) (Ai : Option Addr) (ci : Nat) (w : World) (hP : PartsAt w t Ab cb ck ci) (hk : t.kind = 9) (hb : t.kids.length ≠ 1) (h0 : firstT t = 0) :
    Calls Tryd.prog 18 #[.agg (nodeCells t Ab cb Ak ck Ai ci)] w fun e w' => e = .returned (.int .i64 12) ∧ Chg Pure' w w' := by
  have hf := first_of t Ab cb Ak ck Ai ci
  have hf' : ∀ W, Chg Pure' w W → Calls Tryd.prog 23 #[.agg (nodeCells t Ab cb Ak ck Ai ci)] W fun e w' => e = .returned (.int .i64 (firstT t)) ∧ Chg Pure' W w' := fun W hc => hf W (hP.pure hc)
  clear hf
  rw [h0] at hf'
  have hlk := hP.lk
  have hli := hP.li
  clear hP
  unfold nodeCells at *
  rw [hk] at *
  go_enter Tryd.func18, Tryd.ntmps18
  go_wp2_with (go_at_call 23; refine (hf' _ ((Chg.refl _ _).alloc _)).mono ?_)
  first | rintro e w1 rfl z1 | rintro e w1 ⟨rfl, z1⟩
  have hz := one_block z1
  obtain ⟨d0, d1, d2, d3, d4, d5, d6, d7, d8⟩ := node_nine hz
  clear hz
  go_wp2
  all_goals first
    | (go_ret; exact ⟨rfl, ((Chg.refl _ _).alloc _).trans' z1⟩)
    | (exfalso; simp only [beq_iff_eq, bne_iff_ne, beq_eq_false_iff_ne] at *; omega)
set_option maxHeartbeats 2000000 in
theorem alone_10_bad (t : Tn) (Ab : Option Addr) (cb : Nat) (Ak : Option Addr) (ck : Nat) (Ai : Option Addr) (ci : Nat) (w : World) (hP : PartsAt w t Ab cb ck ci) (hk : t.kind = 10) (hb : (255 < t.n.toNat ∨ (20 ≤ t.n.toNat ∧ t.n.toNat < 32 ∧ t.n.toNat ≠ 23))) (h0 : firstT t = 0) :
    Calls Tryd.prog 18 #[.agg (nodeCells t Ab cb Ak ck Ai ci)] w fun e w' => e = .returned (.int .i64 12) ∧ Chg Pure' w w' := by
  have hf := first_of t Ab cb Ak ck Ai ci
  have hf' : ∀ W, Chg Pure' w W → Calls Tryd.prog 23 #[.agg (nodeCells t Ab cb Ak ck Ai ci)] W fun e w' => e = .returned (.int .i64 (firstT t)) ∧ Chg Pure' W w' := fun W hc => hf W (hP.pure hc)
  clear hf
  rw [h0] at hf'
  have hlk := hP.lk
  have hli := hP.li
  clear hP
  unfold nodeCells at *
  rw [hk] at *
  go_enter Tryd.func18, Tryd.ntmps18
  go_wp2_with (go_at_call 23; refine (hf' _ ((Chg.refl _ _).alloc _)).mono ?_)
  first | rintro e w1 rfl z1 | rintro e w1 ⟨rfl, z1⟩
  have hz := one_block z1
  obtain ⟨d0, d1, d2, d3, d4, d5, d6, d7, d8⟩ := node_nine hz
  clear hz
  go_wp2
  all_goals first
    | (go_ret; exact ⟨rfl, ((Chg.refl _ _).alloc _).trans' z1⟩)
    | (exfalso; simp only [beq_iff_eq, bne_iff_ne, beq_eq_false_iff_ne] at *; omega)
theorem plainT_len (t : Tn) : (plainT t).bytes.length ≤ t.bytes.length ∧ (plainT t).keys.length ≤ t.keys.length ∧ (plainT t).kids.length ≤ t.kids.length := by
  unfold plainT
  repeat' split
  all_goals simp [Tn.bytes, Tn.keys, Tn.kids]
set_option maxHeartbeats 2000000 in
theorem alone_x_bad (t : Tn) (Ab : Option Addr) (cb : Nat) (Ak : Option Addr) (ck : Nat) (Ai : Option Addr) (ci : Nat) (w : World) (hP : PartsAt w t Ab cb ck ci) (hk : t.kind < 0 ∨ 10 < t.kind) (h0 : firstT t = 0) :
    Calls Tryd.prog 18 #[.agg (nodeCells t Ab cb Ak ck Ai ci)] w fun e w' => e = .returned (.int .i64 12) ∧ Chg Pure' w w' := by
  have hf := first_of t Ab cb Ak ck Ai ci
  have hf' : ∀ W, Chg Pure' w W → Calls Tryd.prog 23 #[.agg (nodeCells t Ab cb Ak ck Ai ci)] W fun e w' => e = .returned (.int .i64 (firstT t)) ∧ Chg Pure' W w' := fun W hc => hf W (hP.pure hc)
  clear hf
  rw [h0] at hf'
  have hlk := hP.lk
  have hli := hP.li
  clear hP
  unfold nodeCells at *
  go_enter Tryd.func18, Tryd.ntmps18
  go_wp2_with (go_at_call 23; refine (hf' _ ((Chg.refl _ _).alloc _)).mono ?_)
  first | rintro e w1 rfl z1 | rintro e w1 ⟨rfl, z1⟩
  have hz := one_block z1
  obtain ⟨d0, d1, d2, d3, d4, d5, d6, d7, d8⟩ := node_nine hz
  clear hz
  go_wp2
  all_goals first
    | (go_ret; exact ⟨rfl, ((Chg.refl _ _).alloc _).trans' z1⟩)
    | (exfalso; simp only [beq_iff_eq, bne_iff_ne, beq_eq_false_iff_ne] at *; omega)
set_option maxHeartbeats 600000 in
theorem alone_1_ok (t : Tn) (Ab : Option Addr) (cb : Nat) (Ak : Option Addr) (ck : Nat) (Ai : Option Addr) (ci : Nat) (w : World) (hP : PartsAt w t Ab cb ck ci) (hk : t.kind = 1) (hb : ¬ (1 < t.n.toNat)) (h0 : firstT t = 0) :
    Calls Tryd.prog 18 #[.agg (nodeCells t Ab cb Ak ck Ai ci)] w fun e w' => e = .returned (.int .i64 (if emptyT (plainT t) then 0 else 12)) ∧ Chg Pure' w w' := by
  have hpl : ∀ W, Calls Tryd.prog 25 #[.agg (nodeCells t Ab cb Ak ck Ai ci)] W fun e w' => ∃ v, e = .returned v ∧ (∀ W', Calls Tryd.prog 24 #[v] W' fun e w' => e = .returned (.bool (emptyT (plainT t))) ∧ Chg Pure' W' w') ∧ Chg Pure' W w' := by
    intro W
    have hle := plainT_len t
    refine (plain_of t Ab cb Ak ck Ai ci (by omega) (by omega) W).mono ?_
    rintro e w' ⟨A1, c1, A2, c2, A3, c3, rfl, hc⟩
    exact ⟨_, rfl, fun W' => empty_of (plainT t) A1 c1 A2 c2 A3 c3 (by have := hP.lb; omega) (by have := hP.lk; omega) (by have := hP.li; omega) W', hc⟩
  have hf' : ∀ W, Chg Pure' w W → Calls Tryd.prog 23 #[.agg (nodeCells t Ab cb Ak ck Ai ci)] W fun e w' => e = .returned (.int .i64 (firstT t)) ∧ Chg Pure' W w' := fun W hc => first_of t Ab cb Ak ck Ai ci W (hP.pure hc)
  rw [h0] at hf'
  have hlk := hP.lk
  have hli := hP.li
  clear hP
  have hN : nodeCells t Ab cb Ak ck Ai ci = #[.int .i64 t.kind, .int .u64 (t.n.toNat : Int), .bool t.neg, .string ⟨t.dig.toArray⟩, .int .i64 t.exp, .string ⟨t.text.toArray⟩, .slice Ab t.bytes.length cb, .slice Ak t.keys.length ck, .slice Ai t.kids.length ci] := rfl
  rw [hN] at hpl hf' ⊢
  clear hN
  rw [hk] at hpl hf' ⊢
  generalize emptyT (plainT t) = B at hpl ⊢
  cases B
  · rw [if_neg (by decide)]
    go_enter Tryd.func18, Tryd.ntmps18
    go_wp2_with (go_at_call 23; refine (hf' _ ((Chg.refl _ _).alloc _)).mono ?_)
    first | rintro e w1 rfl z1 | rintro e w1 ⟨rfl, z1⟩
    have hz := one_block z1
    obtain ⟨d0, d1, d2, d3, d4, d5, d6, d7, d8⟩ := node_nine hz
    clear hz
    go_wp2_with (go_at_call 25; refine (hpl _).mono ?_)
    all_goals try (exfalso; simp only [beq_iff_eq, bne_iff_ne, beq_eq_false_iff_ne] at *; omega)
    all_goals rintro e w2 ⟨v, rfl, hem, z2⟩
    all_goals go_wp2_with (go_at_call 24; refine (hem _).mono ?_)
    all_goals (first | rintro e w3 rfl z3 | rintro e w3 ⟨rfl, z3⟩)
    all_goals go_wp2
    all_goals go_ret
    all_goals exact ⟨rfl, ((((Chg.refl _ _).alloc _).trans' z1).trans' z2).trans' z3⟩
  · rw [if_pos rfl]
    go_enter Tryd.func18, Tryd.ntmps18
    go_wp2_with (go_at_call 23; refine (hf' _ ((Chg.refl _ _).alloc _)).mono ?_)
    first | rintro e w1 rfl z1 | rintro e w1 ⟨rfl, z1⟩
    have hz := one_block z1
    obtain ⟨d0, d1, d2, d3, d4, d5, d6, d7, d8⟩ := node_nine hz
    clear hz
    go_wp2_with (go_at_call 25; refine (hpl _).mono ?_)
    all_goals try (exfalso; simp only [beq_iff_eq, bne_iff_ne, beq_eq_false_iff_ne] at *; omega)
    all_goals rintro e w2 ⟨v, rfl, hem, z2⟩
    all_goals go_wp2_with (go_at_call 24; refine (hem _).mono ?_)
    all_goals (first | rintro e w3 rfl z3 | rintro e w3 ⟨rfl, z3⟩)
    all_goals go_wp2
    all_goals go_ret
    all_goals exact ⟨rfl, ((((Chg.refl _ _).alloc _).trans' z1).trans' z2).trans' z3⟩
set_option maxHeartbeats 600000 in
theorem alone_8_ok (t : Tn) (Ab : Option Addr) (cb : Nat) (Ak : Option Addr) (ck : Nat) (Ai : Option Addr) (ci : Nat) (w : World) (hP : PartsAt w t Ab cb ck ci) (hk : t.kind = 8) (hb : ¬ (t.keys.length ≠ t.kids.length)) (h0 : firstT t = 0) :
    Calls Tryd.prog 18 #[.agg (nodeCells t Ab cb Ak ck Ai ci)] w fun e w' => e = .returned (.int .i64 (if emptyT (plainT t) then 0 else 12)) ∧ Chg Pure' w w' := by
  have hpl : ∀ W, Calls Tryd.prog 25 #[.agg (nodeCells t Ab cb Ak ck Ai ci)] W fun e w' => ∃ v, e = .returned v ∧ (∀ W', Calls Tryd.prog 24 #[v] W' fun e w' => e = .returned (.bool (emptyT (plainT t))) ∧ Chg Pure' W' w') ∧ Chg Pure' W w' := by
    intro W
    have hle := plainT_len t
    refine (plain_of t Ab cb Ak ck Ai ci (by omega) (by omega) W).mono ?_
    rintro e w' ⟨A1, c1, A2, c2, A3, c3, rfl, hc⟩
    exact ⟨_, rfl, fun W' => empty_of (plainT t) A1 c1 A2 c2 A3 c3 (by have := hP.lb; omega) (by have := hP.lk; omega) (by have := hP.li; omega) W', hc⟩
  have hf' : ∀ W, Chg Pure' w W → Calls Tryd.prog 23 #[.agg (nodeCells t Ab cb Ak ck Ai ci)] W fun e w' => e = .returned (.int .i64 (firstT t)) ∧ Chg Pure' W w' := fun W hc => first_of t Ab cb Ak ck Ai ci W (hP.pure hc)
  rw [h0] at hf'
  have hlk := hP.lk
  have hli := hP.li
  clear hP
  have hN : nodeCells t Ab cb Ak ck Ai ci = #[.int .i64 t.kind, .int .u64 (t.n.toNat : Int), .bool t.neg, .string ⟨t.dig.toArray⟩, .int .i64 t.exp, .string ⟨t.text.toArray⟩, .slice Ab t.bytes.length cb, .slice Ak t.keys.length ck, .slice Ai t.kids.length ci] := rfl
  rw [hN] at hpl hf' ⊢
  clear hN
  rw [hk] at hpl hf' ⊢
  generalize emptyT (plainT t) = B at hpl ⊢
  cases B
  · rw [if_neg (by decide)]
    go_enter Tryd.func18, Tryd.ntmps18
    go_wp2_with (go_at_call 23; refine (hf' _ ((Chg.refl _ _).alloc _)).mono ?_)
    first | rintro e w1 rfl z1 | rintro e w1 ⟨rfl, z1⟩
    have hz := one_block z1
    obtain ⟨d0, d1, d2, d3, d4, d5, d6, d7, d8⟩ := node_nine hz
    clear hz
    go_wp2_with (go_at_call 25; refine (hpl _).mono ?_)
    all_goals try (exfalso; simp only [beq_iff_eq, bne_iff_ne, beq_eq_false_iff_ne] at *; omega)
    all_goals rintro e w2 ⟨v, rfl, hem, z2⟩
    all_goals go_wp2_with (go_at_call 24; refine (hem _).mono ?_)
    all_goals (first | rintro e w3 rfl z3 | rintro e w3 ⟨rfl, z3⟩)
    all_goals go_wp2
    all_goals go_ret
    all_goals exact ⟨rfl, ((((Chg.refl _ _).alloc _).trans' z1).trans' z2).trans' z3⟩
  · rw [if_pos rfl]
    go_enter Tryd.func18, Tryd.ntmps18
    go_wp2_with (go_at_call 23; refine (hf' _ ((Chg.refl _ _).alloc _)).mono ?_)
    first | rintro e w1 rfl z1 | rintro e w1 ⟨rfl, z1⟩
    have hz := one_block z1
    obtain ⟨d0, d1, d2, d3, d4, d5, d6, d7, d8⟩ := node_nine hz
    clear hz
    go_wp2_with (go_at_call 25; refine (hpl _).mono ?_)
    all_goals try (exfalso; simp only [beq_iff_eq, bne_iff_ne, beq_eq_false_iff_ne] at *; omega)
    all_goals rintro e w2 ⟨v, rfl, hem, z2⟩
    all_goals go_wp2_with (go_at_call 24; refine (hem _).mono ?_)
    all_goals (first | rintro e w3 rfl z3 | rintro e w3 ⟨rfl, z3⟩)
    all_goals go_wp2
    all_goals go_ret
    all_goals exact ⟨rfl, ((((Chg.refl _ _).alloc _).trans' z1).trans' z2).trans' z3⟩
set_option maxHeartbeats 600000 in
theorem alone_9_ok (t : Tn) (Ab : Option Addr) (cb : Nat) (Ak : Option Addr) (ck : Nat) (Ai : Option Addr) (ci : Nat) (w : World) (hP : PartsAt w t Ab cb ck ci) (hk : t.kind = 9) (hb : ¬ (t.kids.length ≠ 1)) (h0 : firstT t = 0) :
    Calls Tryd.prog 18 #[.agg (nodeCells t Ab cb Ak ck Ai ci)] w fun e w' => e = .returned (.int .i64 (if emptyT (plainT t) then 0 else 12)) ∧ Chg Pure' w w' := by
  have hpl : ∀ W, Calls Tryd.prog 25 #[.agg (nodeCells t Ab cb Ak ck Ai ci)] W fun e w' => ∃ v, e = .returned v ∧ (∀ W', Calls Tryd.prog 24 #[v] W' fun e w' => e = .returned (.bool (emptyT (plainT t))) ∧ Chg Pure' W' w') ∧ Chg Pure' W w' := by
    intro W
    have hle := plainT_len t
    refine (plain_of t Ab cb Ak ck Ai ci (by omega) (by omega) W).mono ?_
    rintro e w' ⟨A1, c1, A2, c2, A3, c3, rfl, hc⟩
    exact ⟨_, rfl, fun W' => empty_of (plainT t) A1 c1 A2 c2 A3 c3 (by have := hP.lb; omega) (by have := hP.lk; omega) (by have := hP.li; omega) W', hc⟩
  have hf' : ∀ W, Chg Pure' w W → Calls Tryd.prog 23 #[.agg (nodeCells t Ab cb Ak ck Ai ci)] W fun e w' => e = .returned (.int .i64 (firstT t)) ∧ Chg Pure' W w' := fun W hc => first_of t Ab cb Ak ck Ai ci W (hP.pure hc)
  rw [h0] at hf'
  have hlk := hP.lk
  have hli := hP.li
  clear hP
  have hN : nodeCells t Ab cb Ak ck Ai ci = #[.int .i64 t.kind, .int .u64 (t.n.toNat : Int), .bool t.neg, .string ⟨t.dig.toArray⟩, .int .i64 t.exp, .string ⟨t.text.toArray⟩, .slice Ab t.bytes.length cb, .slice Ak t.keys.length ck, .slice Ai t.kids.length ci] := rfl
  rw [hN] at hpl hf' ⊢
  clear hN
  rw [hk] at hpl hf' ⊢
  generalize emptyT (plainT t) = B at hpl ⊢
  cases B
  · rw [if_neg (by decide)]
    go_enter Tryd.func18, Tryd.ntmps18
    go_wp2_with (go_at_call 23; refine (hf' _ ((Chg.refl _ _).alloc _)).mono ?_)
    first | rintro e w1 rfl z1 | rintro e w1 ⟨rfl, z1⟩
    have hz := one_block z1
    obtain ⟨d0, d1, d2, d3, d4, d5, d6, d7, d8⟩ := node_nine hz
    clear hz
    go_wp2_with (go_at_call 25; refine (hpl _).mono ?_)
    all_goals try (exfalso; simp only [beq_iff_eq, bne_iff_ne, beq_eq_false_iff_ne] at *; omega)
    all_goals rintro e w2 ⟨v, rfl, hem, z2⟩
    all_goals go_wp2_with (go_at_call 24; refine (hem _).mono ?_)
    all_goals (first | rintro e w3 rfl z3 | rintro e w3 ⟨rfl, z3⟩)
    all_goals go_wp2
    all_goals go_ret
    all_goals exact ⟨rfl, ((((Chg.refl _ _).alloc _).trans' z1).trans' z2).trans' z3⟩
  · rw [if_pos rfl]
    go_enter Tryd.func18, Tryd.ntmps18
    go_wp2_with (go_at_call 23; refine (hf' _ ((Chg.refl _ _).alloc _)).mono ?_)
    first | rintro e w1 rfl z1 | rintro e w1 ⟨rfl, z1⟩
    have hz := one_block z1
    obtain ⟨d0, d1, d2, d3, d4, d5, d6, d7, d8⟩ := node_nine hz
    clear hz
    go_wp2_with (go_at_call 25; refine (hpl _).mono ?_)
    all_goals try (exfalso; simp only [beq_iff_eq, bne_iff_ne, beq_eq_false_iff_ne] at *; omega)
    all_goals rintro e w2 ⟨v, rfl, hem, z2⟩
    all_goals go_wp2_with (go_at_call 24; refine (hem _).mono ?_)
    all_goals (first | rintro e w3 rfl z3 | rintro e w3 ⟨rfl, z3⟩)
    all_goals go_wp2
    all_goals go_ret
    all_goals exact ⟨rfl, ((((Chg.refl _ _).alloc _).trans' z1).trans' z2).trans' z3⟩
set_option maxHeartbeats 1000000 in
theorem alone_10_ok1 (t : Tn) (Ab : Option Addr) (cb : Nat) (Ak : Option Addr) (ck : Nat) (Ai : Option Addr) (ci : Nat) (w : World) (hP : PartsAt w t Ab cb ck ci) (hk : t.kind = 10) (hb : t.n.toNat < 20) (h0 : firstT t = 0) :
    Calls Tryd.prog 18 #[.agg (nodeCells t Ab cb Ak ck Ai ci)] w fun e w' => e = .returned (.int .i64 (if emptyT (plainT t) then 0 else 12)) ∧ Chg Pure' w w' := by
  have hpl : ∀ W, Calls Tryd.prog 25 #[.agg (nodeCells t Ab cb Ak ck Ai ci)] W fun e w' => ∃ v, e = .returned v ∧ (∀ W', Calls Tryd.prog 24 #[v] W' fun e w' => e = .returned (.bool (emptyT (plainT t))) ∧ Chg Pure' W' w') ∧ Chg Pure' W w' := by
    intro W
    have hle := plainT_len t
    refine (plain_of t Ab cb Ak ck Ai ci (by omega) (by omega) W).mono ?_
    rintro e w' ⟨A1, c1, A2, c2, A3, c3, rfl, hc⟩
    exact ⟨_, rfl, fun W' => empty_of (plainT t) A1 c1 A2 c2 A3 c3 (by have := hP.lb; omega) (by have := hP.lk; omega) (by have := hP.li; omega) W', hc⟩
  have hf' : ∀ W, Chg Pure' w W → Calls Tryd.prog 23 #[.agg (nodeCells t Ab cb Ak ck Ai ci)] W fun e w' => e = .returned (.int .i64 (firstT t)) ∧ Chg Pure' W w' := fun W hc => first_of t Ab cb Ak ck Ai ci W (hP.pure hc)
  rw [h0] at hf'
  have hlk := hP.lk
  have hli := hP.li
  clear hP
  have hN : nodeCells t Ab cb Ak ck Ai ci = #[.int .i64 t.kind, .int .u64 (t.n.toNat : Int), .bool t.neg, .string ⟨t.dig.toArray⟩, .int .i64 t.exp, .string ⟨t.text.toArray⟩, .slice Ab t.bytes.length cb, .slice Ak t.keys.length ck, .slice Ai t.kids.length ci] := rfl
  rw [hN] at hpl hf' ⊢
  clear hN
  rw [hk] at hpl hf' ⊢
  generalize emptyT (plainT t) = B at hpl ⊢
  have hb1 : (t.n.toNat : Int) < 20 := by omega
  cases B
  · rw [if_neg (by decide)]
    go_enter Tryd.func18, Tryd.ntmps18
    go_wp2_with (go_at_call 23; refine (hf' _ ((Chg.refl _ _).alloc _)).mono ?_)
    first | rintro e w1 rfl z1 | rintro e w1 ⟨rfl, z1⟩
    have hz := one_block z1
    obtain ⟨d0, d1, d2, d3, d4, d5, d6, d7, d8⟩ := node_nine hz
    clear hz
    go_wp2_with (first
      | (go_at_call 25; refine (hpl _).mono ?_; rintro e w2 ⟨v, rfl, hem, z2⟩)
      | (go_at_call 24; refine (hem _).mono ?_; first | rintro e w3 rfl z3 | rintro e w3 ⟨rfl, z3⟩))
    all_goals first
      | (go_ret; exact ⟨rfl, ((((Chg.refl _ _).alloc _).trans' z1).trans' z2).trans' z3⟩)
      | (exfalso; omega)
  · rw [if_pos rfl]
    go_enter Tryd.func18, Tryd.ntmps18
    go_wp2_with (go_at_call 23; refine (hf' _ ((Chg.refl _ _).alloc _)).mono ?_)
    first | rintro e w1 rfl z1 | rintro e w1 ⟨rfl, z1⟩
    have hz := one_block z1
    obtain ⟨d0, d1, d2, d3, d4, d5, d6, d7, d8⟩ := node_nine hz
    clear hz
    go_wp2_with (first
      | (go_at_call 25; refine (hpl _).mono ?_; rintro e w2 ⟨v, rfl, hem, z2⟩)
      | (go_at_call 24; refine (hem _).mono ?_; first | rintro e w3 rfl z3 | rintro e w3 ⟨rfl, z3⟩))
    all_goals first
      | (go_ret; exact ⟨rfl, ((((Chg.refl _ _).alloc _).trans' z1).trans' z2).trans' z3⟩)
      | (exfalso; omega)
set_option maxHeartbeats 1000000 in
theorem alone_10_ok2 (t : Tn) (Ab : Option Addr) (cb : Nat) (Ak : Option Addr) (ck : Nat) (Ai : Option Addr) (ci : Nat) (w : World) (hP : PartsAt w t Ab cb ck ci) (hk : t.kind = 10) (hb : 32 ≤ t.n.toNat ∧ t.n.toNat ≤ 255) (h0 : firstT t = 0) :
    Calls Tryd.prog 18 #[.agg (nodeCells t Ab cb Ak ck Ai ci)] w fun e w' => e = .returned (.int .i64 (if emptyT (plainT t) then 0 else 12)) ∧ Chg Pure' w w' := by
  have hpl : ∀ W, Calls Tryd.prog 25 #[.agg (nodeCells t Ab cb Ak ck Ai ci)] W fun e w' => ∃ v, e = .returned v ∧ (∀ W', Calls Tryd.prog 24 #[v] W' fun e w' => e = .returned (.bool (emptyT (plainT t))) ∧ Chg Pure' W' w') ∧ Chg Pure' W w' := by
    intro W
    have hle := plainT_len t
    refine (plain_of t Ab cb Ak ck Ai ci (by omega) (by omega) W).mono ?_
    rintro e w' ⟨A1, c1, A2, c2, A3, c3, rfl, hc⟩
    exact ⟨_, rfl, fun W' => empty_of (plainT t) A1 c1 A2 c2 A3 c3 (by have := hP.lb; omega) (by have := hP.lk; omega) (by have := hP.li; omega) W', hc⟩
  have hf' : ∀ W, Chg Pure' w W → Calls Tryd.prog 23 #[.agg (nodeCells t Ab cb Ak ck Ai ci)] W fun e w' => e = .returned (.int .i64 (firstT t)) ∧ Chg Pure' W w' := fun W hc => first_of t Ab cb Ak ck Ai ci W (hP.pure hc)
  rw [h0] at hf'
  have hlk := hP.lk
  have hli := hP.li
  clear hP
  have hN : nodeCells t Ab cb Ak ck Ai ci = #[.int .i64 t.kind, .int .u64 (t.n.toNat : Int), .bool t.neg, .string ⟨t.dig.toArray⟩, .int .i64 t.exp, .string ⟨t.text.toArray⟩, .slice Ab t.bytes.length cb, .slice Ak t.keys.length ck, .slice Ai t.kids.length ci] := rfl
  rw [hN] at hpl hf' ⊢
  clear hN
  rw [hk] at hpl hf' ⊢
  generalize emptyT (plainT t) = B at hpl ⊢
  have hb1 : (32 : Int) ≤ t.n.toNat := by omega
  have hb2 : (t.n.toNat : Int) ≤ 255 := by omega
  cases B
  · rw [if_neg (by decide)]
    go_enter Tryd.func18, Tryd.ntmps18
    go_wp2_with (go_at_call 23; refine (hf' _ ((Chg.refl _ _).alloc _)).mono ?_)
    first | rintro e w1 rfl z1 | rintro e w1 ⟨rfl, z1⟩
    have hz := one_block z1
    obtain ⟨d0, d1, d2, d3, d4, d5, d6, d7, d8⟩ := node_nine hz
    clear hz
    go_wp2_with (first
      | (go_at_call 25; refine (hpl _).mono ?_; rintro e w2 ⟨v, rfl, hem, z2⟩)
      | (go_at_call 24; refine (hem _).mono ?_; first | rintro e w3 rfl z3 | rintro e w3 ⟨rfl, z3⟩))
    all_goals first
      | (go_ret; exact ⟨rfl, ((((Chg.refl _ _).alloc _).trans' z1).trans' z2).trans' z3⟩)
      | (exfalso; omega)
  · rw [if_pos rfl]
    go_enter Tryd.func18, Tryd.ntmps18
    go_wp2_with (go_at_call 23; refine (hf' _ ((Chg.refl _ _).alloc _)).mono ?_)
    first | rintro e w1 rfl z1 | rintro e w1 ⟨rfl, z1⟩
    have hz := one_block z1
    obtain ⟨d0, d1, d2, d3, d4, d5, d6, d7, d8⟩ := node_nine hz
    clear hz
    go_wp2_with (first
      | (go_at_call 25; refine (hpl _).mono ?_; rintro e w2 ⟨v, rfl, hem, z2⟩)
      | (go_at_call 24; refine (hem _).mono ?_; first | rintro e w3 rfl z3 | rintro e w3 ⟨rfl, z3⟩))
    all_goals first
      | (go_ret; exact ⟨rfl, ((((Chg.refl _ _).alloc _).trans' z1).trans' z2).trans' z3⟩)
      | (exfalso; omega)
set_option maxHeartbeats 1000000 in
theorem alone_10_ok3 (t : Tn) (Ab : Option Addr) (cb : Nat) (Ak : Option Addr) (ck : Nat) (Ai : Option Addr) (ci : Nat) (w : World) (hP : PartsAt w t Ab cb ck ci) (hk : t.kind = 10) (hb : t.n.toNat = 23) (h0 : firstT t = 0) :
    Calls Tryd.prog 18 #[.agg (nodeCells t Ab cb Ak ck Ai ci)] w fun e w' => e = .returned (.int .i64 (if emptyT (plainT t) then 0 else 12)) ∧ Chg Pure' w w' := by
  have hpl : ∀ W, Calls Tryd.prog 25 #[.agg (nodeCells t Ab cb Ak ck Ai ci)] W fun e w' => ∃ v, e = .returned v ∧ (∀ W', Calls Tryd.prog 24 #[v] W' fun e w' => e = .returned (.bool (emptyT (plainT t))) ∧ Chg Pure' W' w') ∧ Chg Pure' W w' := by
    intro W
    have hle := plainT_len t
    refine (plain_of t Ab cb Ak ck Ai ci (by omega) (by omega) W).mono ?_
    rintro e w' ⟨A1, c1, A2, c2, A3, c3, rfl, hc⟩
    exact ⟨_, rfl, fun W' => empty_of (plainT t) A1 c1 A2 c2 A3 c3 (by have := hP.lb; omega) (by have := hP.lk; omega) (by have := hP.li; omega) W', hc⟩
  have hf' : ∀ W, Chg Pure' w W → Calls Tryd.prog 23 #[.agg (nodeCells t Ab cb Ak ck Ai ci)] W fun e w' => e = .returned (.int .i64 (firstT t)) ∧ Chg Pure' W w' := fun W hc => first_of t Ab cb Ak ck Ai ci W (hP.pure hc)
  rw [h0] at hf'
  have hlk := hP.lk
  have hli := hP.li
  clear hP
  have hN : nodeCells t Ab cb Ak ck Ai ci = #[.int .i64 t.kind, .int .u64 (t.n.toNat : Int), .bool t.neg, .string ⟨t.dig.toArray⟩, .int .i64 t.exp, .string ⟨t.text.toArray⟩, .slice Ab t.bytes.length cb, .slice Ak t.keys.length ck, .slice Ai t.kids.length ci] := rfl
  rw [hN] at hpl hf' ⊢
  clear hN
  rw [hk] at hpl hf' ⊢
  generalize emptyT (plainT t) = B at hpl ⊢
  rw [hb] at hpl hf' ⊢
  cases B
  · rw [if_neg (by decide)]
    go_enter Tryd.func18, Tryd.ntmps18
    go_wp2_with (go_at_call 23; refine (hf' _ ((Chg.refl _ _).alloc _)).mono ?_)
    first | rintro e w1 rfl z1 | rintro e w1 ⟨rfl, z1⟩
    have hz := one_block z1
    obtain ⟨d0, d1, d2, d3, d4, d5, d6, d7, d8⟩ := node_nine hz
    clear hz
    go_wp2_with (first
      | (go_at_call 25; refine (hpl _).mono ?_; rintro e w2 ⟨v, rfl, hem, z2⟩)
      | (go_at_call 24; refine (hem _).mono ?_; first | rintro e w3 rfl z3 | rintro e w3 ⟨rfl, z3⟩))
    all_goals first
      | (go_ret; exact ⟨rfl, ((((Chg.refl _ _).alloc _).trans' z1).trans' z2).trans' z3⟩)
      | (exfalso; omega)
  · rw [if_pos rfl]
    go_enter Tryd.func18, Tryd.ntmps18
    go_wp2_with (go_at_call 23; refine (hf' _ ((Chg.refl _ _).alloc _)).mono ?_)
    first | rintro e w1 rfl z1 | rintro e w1 ⟨rfl, z1⟩
    have hz := one_block z1
    obtain ⟨d0, d1, d2, d3, d4, d5, d6, d7, d8⟩ := node_nine hz
    clear hz
    go_wp2_with (first
      | (go_at_call 25; refine (hpl _).mono ?_; rintro e w2 ⟨v, rfl, hem, z2⟩)
      | (go_at_call 24; refine (hem _).mono ?_; first | rintro e w3 rfl z3 | rintro e w3 ⟨rfl, z3⟩))
    all_goals first
      | (go_ret; exact ⟨rfl, ((((Chg.refl _ _).alloc _).trans' z1).trans' z2).trans' z3⟩)
      | (exfalso; omega)
set_option maxHeartbeats 600000 in
theorem alone_x_ok (t : Tn) (Ab : Option Addr) (cb : Nat) (Ak : Option Addr) (ck : Nat) (Ai : Option Addr) (ci : Nat) (w : World) (hP : PartsAt w t Ab cb ck ci) (k0 : 0 ≤ t.kind) (k1 : t.kind ≤ 10) (h1 : t.kind ≠ 1) (h8 : t.kind ≠ 8) (h9 : t.kind ≠ 9) (h10 : t.kind ≠ 10) (h0 : firstT t = 0) :
    Calls Tryd.prog 18 #[.agg (nodeCells t Ab cb Ak ck Ai ci)] w fun e w' => e = .returned (.int .i64 (if emptyT (plainT t) then 0 else 12)) ∧ Chg Pure' w w' := by
  have hpl : ∀ W, Calls Tryd.prog 25 #[.agg (nodeCells t Ab cb Ak ck Ai ci)] W fun e w' => ∃ v, e = .returned v ∧ (∀ W', Calls Tryd.prog 24 #[v] W' fun e w' => e = .returned (.bool (emptyT (plainT t))) ∧ Chg Pure' W' w') ∧ Chg Pure' W w' := by
    intro W
    have hle := plainT_len t
    refine (plain_of t Ab cb Ak ck Ai ci (by omega) (by omega) W).mono ?_
    rintro e w' ⟨A1, c1, A2, c2, A3, c3, rfl, hc⟩
    exact ⟨_, rfl, fun W' => empty_of (plainT t) A1 c1 A2 c2 A3 c3 (by have := hP.lb; omega) (by have := hP.lk; omega) (by have := hP.li; omega) W', hc⟩
  have hf' : ∀ W, Chg Pure' w W → Calls Tryd.prog 23 #[.agg (nodeCells t Ab cb Ak ck Ai ci)] W fun e w' => e = .returned (.int .i64 (firstT t)) ∧ Chg Pure' W w' := fun W hc => first_of t Ab cb Ak ck Ai ci W (hP.pure hc)
  rw [h0] at hf'
  have hlk := hP.lk
  have hli := hP.li
  clear hP
  have hN : nodeCells t Ab cb Ak ck Ai ci = #[.int .i64 t.kind, .int .u64 (t.n.toNat : Int), .bool t.neg, .string ⟨t.dig.toArray⟩, .int .i64 t.exp, .string ⟨t.text.toArray⟩, .slice Ab t.bytes.length cb, .slice Ak t.keys.length ck, .slice Ai t.kids.length ci] := rfl
  rw [hN] at hpl hf' ⊢
  clear hN
  generalize emptyT (plainT t) = B at hpl ⊢
  cases B
  · rw [if_neg (by decide)]
    go_enter Tryd.func18, Tryd.ntmps18
    go_wp2_with (go_at_call 23; refine (hf' _ ((Chg.refl _ _).alloc _)).mono ?_)
    first | rintro e w1 rfl z1 | rintro e w1 ⟨rfl, z1⟩
    have hz := one_block z1
    obtain ⟨d0, d1, d2, d3, d4, d5, d6, d7, d8⟩ := node_nine hz
    clear hz
    go_wp2_with (go_at_call 25; refine (hpl _).mono ?_)
    all_goals try (exfalso; simp only [beq_iff_eq, bne_iff_ne, beq_eq_false_iff_ne] at *; omega)
    all_goals rintro e w2 ⟨v, rfl, hem, z2⟩
    all_goals go_wp2_with (go_at_call 24; refine (hem _).mono ?_)
    all_goals (first | rintro e w3 rfl z3 | rintro e w3 ⟨rfl, z3⟩)
    all_goals go_wp2
    all_goals go_ret
    all_goals exact ⟨rfl, ((((Chg.refl _ _).alloc _).trans' z1).trans' z2).trans' z3⟩
  · rw [if_pos rfl]
    go_enter Tryd.func18, Tryd.ntmps18
    go_wp2_with (go_at_call 23; refine (hf' _ ((Chg.refl _ _).alloc _)).mono ?_)
    first | rintro e w1 rfl z1 | rintro e w1 ⟨rfl, z1⟩
    have hz := one_block z1
    obtain ⟨d0, d1, d2, d3, d4, d5, d6, d7, d8⟩ := node_nine hz
    clear hz
    go_wp2_with (go_at_call 25; refine (hpl _).mono ?_)
    all_goals try (exfalso; simp only [beq_iff_eq, bne_iff_ne, beq_eq_false_iff_ne] at *; omega)
    all_goals rintro e w2 ⟨v, rfl, hem, z2⟩
    all_goals go_wp2_with (go_at_call 24; refine (hem _).mono ?_)
    all_goals (first | rintro e w3 rfl z3 | rintro e w3 ⟨rfl, z3⟩)
    all_goals go_wp2
    all_goals go_ret
    all_goals exact ⟨rfl, ((((Chg.refl _ _).alloc _).trans' z1).trans' z2).trans' z3⟩
theorem alone_of (t : Tn) (Ab : Option Addr) (cb : Nat) (Ak : Option Addr) (ck : Nat) (Ai : Option Addr) (ci : Nat) (w : World) (hP : PartsAt w t Ab cb ck ci) :
    Calls Tryd.prog 18 #[.agg (nodeCells t Ab cb Ak ck Ai ci)] w fun e w' => e = .returned (.int .i64 (aloneT t)) ∧ Chg Pure' w w' := by
  unfold aloneT
  by_cases h0 : firstT t = 0
  case neg => rw [if_pos h0]; exact alone_first t Ab cb Ak ck Ai ci w hP h0
  rw [if_neg (by simpa using h0)]
  have hgo : ∀ (v : Int), (if emptyT (plainT t) then 0 else 12 : Int) = v → ¬ badT t → 0 ≤ t.kind → t.kind ≤ 10 → v = if badT t ∨ t.kind < 0 ∨ 10 < t.kind ∨ emptyT (plainT t) = false then 12 else 0 := by
    intro v hv hb k0 k1
    subst hv
    cases emptyT (plainT t)
    · rw [if_neg (by decide), if_pos (by simp)]
    · rw [if_pos rfl, if_neg (by simp; exact ⟨hb, k0, k1⟩)]
  by_cases k1 : t.kind = 1
  · by_cases hb : 1 < t.n.toNat
    · rw [if_pos (.inl (.inl ⟨k1, hb⟩))]; exact alone_1_bad t Ab cb Ak ck Ai ci w hP k1 hb h0
    · rw [← hgo _ rfl (by unfold badT; omega) (by omega) (by omega)]; exact alone_1_ok t Ab cb Ak ck Ai ci w hP k1 hb h0
  by_cases k8 : t.kind = 8
  · by_cases hb : t.keys.length ≠ t.kids.length
    · rw [if_pos (.inl (.inr (.inl ⟨k8, hb⟩)))]; exact alone_8_bad t Ab cb Ak ck Ai ci w hP k8 hb h0
    · rw [← hgo _ rfl (by unfold badT; omega) (by omega) (by omega)]; exact alone_8_ok t Ab cb Ak ck Ai ci w hP k8 hb h0
  by_cases k9 : t.kind = 9
  · by_cases hb : t.kids.length ≠ 1
    · rw [if_pos (.inl (.inr (.inr (.inl ⟨k9, hb⟩))))]; exact alone_9_bad t Ab cb Ak ck Ai ci w hP k9 hb h0
    · rw [← hgo _ rfl (by unfold badT; omega) (by omega) (by omega)]; exact alone_9_ok t Ab cb Ak ck Ai ci w hP k9 hb h0
  by_cases k10 : t.kind = 10
  · by_cases hb : (255 < t.n.toNat ∨ (20 ≤ t.n.toNat ∧ t.n.toNat < 32 ∧ t.n.toNat ≠ 23))
    · rw [if_pos (.inl (.inr (.inr (.inr ⟨k10, hb⟩))))]; exact alone_10_bad t Ab cb Ak ck Ai ci w hP k10 hb h0
    · rw [← hgo _ rfl (by unfold badT; omega) (by omega) (by omega)]; rcases (by omega : t.n.toNat < 20 ∨ (32 ≤ t.n.toNat ∧ t.n.toNat ≤ 255) ∨ t.n.toNat = 23) with h | h | h
      · exact alone_10_ok1 t Ab cb Ak ck Ai ci w hP k10 h h0
      · exact alone_10_ok2 t Ab cb Ak ck Ai ci w hP k10 h h0
      · exact alone_10_ok3 t Ab cb Ak ck Ai ci w hP k10 h h0
  by_cases hr : 0 ≤ t.kind ∧ t.kind ≤ 10
  · rw [← hgo _ rfl (by unfold badT; omega) hr.1 hr.2]; exact alone_x_ok t Ab cb Ak ck Ai ci w hP hr.1 hr.2 k1 k8 k9 k10 h0
  · rw [if_pos (by omega)]; exact alone_x_bad t Ab cb Ak ck Ai ci w hP (by omega) h0
end Go.Proofs.YtafpkecjicphoaaDoor
