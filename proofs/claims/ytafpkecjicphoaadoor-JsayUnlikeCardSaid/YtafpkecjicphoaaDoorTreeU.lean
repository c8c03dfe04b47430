/- A node without what its Kind has (tree.plain), and whether it has nothing else (tree.empty; printed by wip/genTreeU.py). -/
import Derived.Test.YtafpkecjicphoaaDoorTreeT
namespace Go.Proofs.YtafpkecjicphoaaDoor
open Go Go.RowKit
set_option linter.unusedVariables false
set_option linter.unusedSimpArgs false
set_option maxRecDepth 100000

/-- A node without what its Kind has. -/
def plainT (t : Tn) : Tn :=
  if t.kind = 1 then .mk t.kind 0 t.neg t.dig t.exp t.text t.bytes t.keys t.kids
  else if t.kind = 2 then .mk t.kind t.n false [] t.exp t.text t.bytes t.keys t.kids
  else if t.kind = 3 then .mk t.kind t.n false [] 0 t.text t.bytes t.keys t.kids
  else if t.kind = 4 then .mk t.kind 0 t.neg t.dig t.exp t.text t.bytes t.keys t.kids
  else if t.kind = 5 then .mk t.kind t.n t.neg t.dig t.exp [] t.bytes t.keys t.kids
  else if t.kind = 6 then .mk t.kind t.n t.neg t.dig t.exp t.text [] t.keys t.kids
  else if t.kind = 7 then .mk t.kind t.n t.neg t.dig t.exp t.text t.bytes t.keys []
  else if t.kind = 8 then .mk t.kind t.n t.neg t.dig t.exp t.text t.bytes [] []
  else if t.kind = 9 then .mk t.kind 0 t.neg t.dig t.exp t.text t.bytes t.keys []
  else if t.kind = 10 then .mk t.kind 0 t.neg t.dig t.exp t.text t.bytes t.keys t.kids
  else t
/-- Has a node nothing but its Kind? -/
def emptyT (t : Tn) : Bool := decide (t.n = 0) && !t.neg && decide (t.dig = []) && decide (t.exp = 0) && decide (t.text = []) && decide (t.bytes.length + t.keys.length + t.kids.length = 0)
theorem zero_node (w : World) : (zeroValue 26).run Tryd.prog w = .ok (.agg #[.int .i64 0, .int .u64 0, .bool false, .string ⟨#[]⟩, .int .i64 0, .string ⟨#[]⟩, .slice none 0 0, .slice none 0 0, .slice none 0 0]) w := by kernel_rfl
set_option maxHeartbeats 4000000 in
theorem plain_0 (t : Tn) (Ab : Option Addr) (cb : Nat) (Ak : Option Addr) (ck : Nat) (Ai : Option Addr) (ci : Nat) (hk : t.kind = 0) (w : World) :
    Calls Tryd.prog 25 #[.agg (nodeCells t Ab cb Ak ck Ai ci)] w fun e w' => ∃ A1 c1 A2 c2 A3 c3, e = .returned (.agg (nodeCells (plainT t) A1 c1 A2 c2 A3 c3)) ∧ Chg Pure' w w' := by
  have hz := zero_node
  have e1 : plainT t = t := by unfold plainT; rw [if_neg (by rw [hk]; decide), if_neg (by rw [hk]; decide), if_neg (by rw [hk]; decide), if_neg (by rw [hk]; decide), if_neg (by rw [hk]; decide), if_neg (by rw [hk]; decide), if_neg (by rw [hk]; decide), if_neg (by rw [hk]; decide), if_neg (by rw [hk]; decide), if_neg (by rw [hk]; decide)]
  rw [e1]
  clear e1
  unfold nodeCells
  rw [hk]
  go_enter Tryd.func25, Tryd.ntmps25
  go_wp2
  refine bodyPost_ret (v := .agg #[.int .i64 0, .int .u64 (t.n.toNat : Int), .bool t.neg, .string ⟨t.dig.toArray⟩, .int .i64 t.exp, .string ⟨t.text.toArray⟩, .slice Ab t.bytes.length cb, .slice Ak t.keys.length ck, .slice Ai t.kids.length ci]) ?_ rfl ?_
  · unfold results; go_simp
  · exact ⟨Ab, cb, Ak, ck, Ai, ci, rfl, ((Chg.refl _ _).alloc _).alloc _⟩
set_option maxHeartbeats 4000000 in
theorem plain_1 (t : Tn) (Ab : Option Addr) (cb : Nat) (Ak : Option Addr) (ck : Nat) (Ai : Option Addr) (ci : Nat) (hk : t.kind = 1) (w : World) :
    Calls Tryd.prog 25 #[.agg (nodeCells t Ab cb Ak ck Ai ci)] w fun e w' => ∃ A1 c1 A2 c2 A3 c3, e = .returned (.agg (nodeCells (plainT t) A1 c1 A2 c2 A3 c3)) ∧ Chg Pure' w w' := by
  have hz := zero_node
  have e1 : plainT t = .mk t.kind 0 t.neg t.dig t.exp t.text t.bytes t.keys t.kids := by unfold plainT; rw [if_pos hk]
  rw [e1]
  clear e1
  unfold nodeCells
  rw [hk]
  go_enter Tryd.func25, Tryd.ntmps25
  go_wp2
  refine bodyPost_ret (v := .agg #[.int .i64 1, .int .u64 0, .bool t.neg, .string ⟨t.dig.toArray⟩, .int .i64 t.exp, .string ⟨t.text.toArray⟩, .slice Ab t.bytes.length cb, .slice Ak t.keys.length ck, .slice Ai t.kids.length ci]) ?_ rfl ?_
  · unfold results; go_simp
  · exact ⟨Ab, cb, Ak, ck, Ai, ci, rfl, ((Chg.refl _ _).alloc _).alloc _⟩
set_option maxHeartbeats 4000000 in
theorem plain_2 (t : Tn) (Ab : Option Addr) (cb : Nat) (Ak : Option Addr) (ck : Nat) (Ai : Option Addr) (ci : Nat) (hk : t.kind = 2) (w : World) :
    Calls Tryd.prog 25 #[.agg (nodeCells t Ab cb Ak ck Ai ci)] w fun e w' => ∃ A1 c1 A2 c2 A3 c3, e = .returned (.agg (nodeCells (plainT t) A1 c1 A2 c2 A3 c3)) ∧ Chg Pure' w w' := by
  have hz := zero_node
  have e1 : plainT t = .mk t.kind t.n false [] t.exp t.text t.bytes t.keys t.kids := by unfold plainT; rw [if_neg (by rw [hk]; decide), if_pos hk]
  rw [e1]
  clear e1
  unfold nodeCells
  rw [hk]
  go_enter Tryd.func25, Tryd.ntmps25
  go_wp2
  refine bodyPost_ret (v := .agg #[.int .i64 2, .int .u64 (t.n.toNat : Int), .bool false, .string ⟨#[]⟩, .int .i64 t.exp, .string ⟨t.text.toArray⟩, .slice Ab t.bytes.length cb, .slice Ak t.keys.length ck, .slice Ai t.kids.length ci]) ?_ rfl ?_
  · unfold results; go_simp
  · exact ⟨Ab, cb, Ak, ck, Ai, ci, rfl, ((Chg.refl _ _).alloc _).alloc _⟩
set_option maxHeartbeats 4000000 in
theorem plain_3 (t : Tn) (Ab : Option Addr) (cb : Nat) (Ak : Option Addr) (ck : Nat) (Ai : Option Addr) (ci : Nat) (hk : t.kind = 3) (w : World) :
    Calls Tryd.prog 25 #[.agg (nodeCells t Ab cb Ak ck Ai ci)] w fun e w' => ∃ A1 c1 A2 c2 A3 c3, e = .returned (.agg (nodeCells (plainT t) A1 c1 A2 c2 A3 c3)) ∧ Chg Pure' w w' := by
  have hz := zero_node
  have e1 : plainT t = .mk t.kind t.n false [] 0 t.text t.bytes t.keys t.kids := by unfold plainT; rw [if_neg (by rw [hk]; decide), if_neg (by rw [hk]; decide), if_pos hk]
  rw [e1]
  clear e1
  unfold nodeCells
  rw [hk]
  go_enter Tryd.func25, Tryd.ntmps25
  go_wp2
  refine bodyPost_ret (v := .agg #[.int .i64 3, .int .u64 (t.n.toNat : Int), .bool false, .string ⟨#[]⟩, .int .i64 0, .string ⟨t.text.toArray⟩, .slice Ab t.bytes.length cb, .slice Ak t.keys.length ck, .slice Ai t.kids.length ci]) ?_ rfl ?_
  · unfold results; go_simp
  · exact ⟨Ab, cb, Ak, ck, Ai, ci, rfl, ((Chg.refl _ _).alloc _).alloc _⟩
set_option maxHeartbeats 4000000 in
theorem plain_4 (t : Tn) (Ab : Option Addr) (cb : Nat) (Ak : Option Addr) (ck : Nat) (Ai : Option Addr) (ci : Nat) (hk : t.kind = 4) (w : World) :
    Calls Tryd.prog 25 #[.agg (nodeCells t Ab cb Ak ck Ai ci)] w fun e w' => ∃ A1 c1 A2 c2 A3 c3, e = .returned (.agg (nodeCells (plainT t) A1 c1 A2 c2 A3 c3)) ∧ Chg Pure' w w' := by
  have hz := zero_node
  have e1 : plainT t = .mk t.kind 0 t.neg t.dig t.exp t.text t.bytes t.keys t.kids := by unfold plainT; rw [if_neg (by rw [hk]; decide), if_neg (by rw [hk]; decide), if_neg (by rw [hk]; decide), if_pos hk]
  rw [e1]
  clear e1
  unfold nodeCells
  rw [hk]
  go_enter Tryd.func25, Tryd.ntmps25
  go_wp2
  refine bodyPost_ret (v := .agg #[.int .i64 4, .int .u64 0, .bool t.neg, .string ⟨t.dig.toArray⟩, .int .i64 t.exp, .string ⟨t.text.toArray⟩, .slice Ab t.bytes.length cb, .slice Ak t.keys.length ck, .slice Ai t.kids.length ci]) ?_ rfl ?_
  · unfold results; go_simp
  · exact ⟨Ab, cb, Ak, ck, Ai, ci, rfl, ((Chg.refl _ _).alloc _).alloc _⟩
set_option maxHeartbeats 4000000 in
theorem plain_5 (t : Tn) (Ab : Option Addr) (cb : Nat) (Ak : Option Addr) (ck : Nat) (Ai : Option Addr) (ci : Nat) (hk : t.kind = 5) (w : World) :
    Calls Tryd.prog 25 #[.agg (nodeCells t Ab cb Ak ck Ai ci)] w fun e w' => ∃ A1 c1 A2 c2 A3 c3, e = .returned (.agg (nodeCells (plainT t) A1 c1 A2 c2 A3 c3)) ∧ Chg Pure' w w' := by
  have hz := zero_node
  have e1 : plainT t = .mk t.kind t.n t.neg t.dig t.exp [] t.bytes t.keys t.kids := by unfold plainT; rw [if_neg (by rw [hk]; decide), if_neg (by rw [hk]; decide), if_neg (by rw [hk]; decide), if_neg (by rw [hk]; decide), if_pos hk]
  rw [e1]
  clear e1
  unfold nodeCells
  rw [hk]
  go_enter Tryd.func25, Tryd.ntmps25
  go_wp2
  refine bodyPost_ret (v := .agg #[.int .i64 5, .int .u64 (t.n.toNat : Int), .bool t.neg, .string ⟨t.dig.toArray⟩, .int .i64 t.exp, .string ⟨#[]⟩, .slice Ab t.bytes.length cb, .slice Ak t.keys.length ck, .slice Ai t.kids.length ci]) ?_ rfl ?_
  · unfold results; go_simp
  · exact ⟨Ab, cb, Ak, ck, Ai, ci, rfl, ((Chg.refl _ _).alloc _).alloc _⟩
set_option maxHeartbeats 4000000 in
theorem plain_6 (t : Tn) (Ab : Option Addr) (cb : Nat) (Ak : Option Addr) (ck : Nat) (Ai : Option Addr) (ci : Nat) (hk : t.kind = 6) (w : World) :
    Calls Tryd.prog 25 #[.agg (nodeCells t Ab cb Ak ck Ai ci)] w fun e w' => ∃ A1 c1 A2 c2 A3 c3, e = .returned (.agg (nodeCells (plainT t) A1 c1 A2 c2 A3 c3)) ∧ Chg Pure' w w' := by
  have hz := zero_node
  have e1 : plainT t = .mk t.kind t.n t.neg t.dig t.exp t.text [] t.keys t.kids := by unfold plainT; rw [if_neg (by rw [hk]; decide), if_neg (by rw [hk]; decide), if_neg (by rw [hk]; decide), if_neg (by rw [hk]; decide), if_neg (by rw [hk]; decide), if_pos hk]
  rw [e1]
  clear e1
  unfold nodeCells
  rw [hk]
  go_enter Tryd.func25, Tryd.ntmps25
  go_wp2
  refine bodyPost_ret (v := .agg #[.int .i64 6, .int .u64 (t.n.toNat : Int), .bool t.neg, .string ⟨t.dig.toArray⟩, .int .i64 t.exp, .string ⟨t.text.toArray⟩, .slice none 0 0, .slice Ak t.keys.length ck, .slice Ai t.kids.length ci]) ?_ rfl ?_
  · unfold results; go_simp
  · exact ⟨none, 0, Ak, ck, Ai, ci, rfl, ((Chg.refl _ _).alloc _).alloc _⟩
set_option maxHeartbeats 4000000 in
theorem plain_7 (t : Tn) (Ab : Option Addr) (cb : Nat) (Ak : Option Addr) (ck : Nat) (Ai : Option Addr) (ci : Nat) (hk : t.kind = 7) (w : World) :
    Calls Tryd.prog 25 #[.agg (nodeCells t Ab cb Ak ck Ai ci)] w fun e w' => ∃ A1 c1 A2 c2 A3 c3, e = .returned (.agg (nodeCells (plainT t) A1 c1 A2 c2 A3 c3)) ∧ Chg Pure' w w' := by
  have hz := zero_node
  have e1 : plainT t = .mk t.kind t.n t.neg t.dig t.exp t.text t.bytes t.keys [] := by unfold plainT; rw [if_neg (by rw [hk]; decide), if_neg (by rw [hk]; decide), if_neg (by rw [hk]; decide), if_neg (by rw [hk]; decide), if_neg (by rw [hk]; decide), if_neg (by rw [hk]; decide), if_pos hk]
  rw [e1]
  clear e1
  unfold nodeCells
  rw [hk]
  go_enter Tryd.func25, Tryd.ntmps25
  go_wp2
  refine bodyPost_ret (v := .agg #[.int .i64 7, .int .u64 (t.n.toNat : Int), .bool t.neg, .string ⟨t.dig.toArray⟩, .int .i64 t.exp, .string ⟨t.text.toArray⟩, .slice Ab t.bytes.length cb, .slice Ak t.keys.length ck, .slice none 0 0]) ?_ rfl ?_
  · unfold results; go_simp
  · exact ⟨Ab, cb, Ak, ck, none, 0, rfl, ((Chg.refl _ _).alloc _).alloc _⟩
set_option maxHeartbeats 4000000 in
theorem plain_8 (t : Tn) (Ab : Option Addr) (cb : Nat) (Ak : Option Addr) (ck : Nat) (Ai : Option Addr) (ci : Nat) (hk : t.kind = 8) (w : World) :
    Calls Tryd.prog 25 #[.agg (nodeCells t Ab cb Ak ck Ai ci)] w fun e w' => ∃ A1 c1 A2 c2 A3 c3, e = .returned (.agg (nodeCells (plainT t) A1 c1 A2 c2 A3 c3)) ∧ Chg Pure' w w' := by
  have hz := zero_node
  have e1 : plainT t = .mk t.kind t.n t.neg t.dig t.exp t.text t.bytes [] [] := by unfold plainT; rw [if_neg (by rw [hk]; decide), if_neg (by rw [hk]; decide), if_neg (by rw [hk]; decide), if_neg (by rw [hk]; decide), if_neg (by rw [hk]; decide), if_neg (by rw [hk]; decide), if_neg (by rw [hk]; decide), if_pos hk]
  rw [e1]
  clear e1
  unfold nodeCells
  rw [hk]
  go_enter Tryd.func25, Tryd.ntmps25
  go_wp2
  refine bodyPost_ret (v := .agg #[.int .i64 8, .int .u64 (t.n.toNat : Int), .bool t.neg, .string ⟨t.dig.toArray⟩, .int .i64 t.exp, .string ⟨t.text.toArray⟩, .slice Ab t.bytes.length cb, .slice none 0 0, .slice none 0 0]) ?_ rfl ?_
  · unfold results; go_simp
  · exact ⟨Ab, cb, none, 0, none, 0, rfl, ((Chg.refl _ _).alloc _).alloc _⟩
set_option maxHeartbeats 4000000 in
theorem plain_9 (t : Tn) (Ab : Option Addr) (cb : Nat) (Ak : Option Addr) (ck : Nat) (Ai : Option Addr) (ci : Nat) (hk : t.kind = 9) (w : World) :
    Calls Tryd.prog 25 #[.agg (nodeCells t Ab cb Ak ck Ai ci)] w fun e w' => ∃ A1 c1 A2 c2 A3 c3, e = .returned (.agg (nodeCells (plainT t) A1 c1 A2 c2 A3 c3)) ∧ Chg Pure' w w' := by
  have hz := zero_node
  have e1 : plainT t = .mk t.kind 0 t.neg t.dig t.exp t.text t.bytes t.keys [] := by unfold plainT; rw [if_neg (by rw [hk]; decide), if_neg (by rw [hk]; decide), if_neg (by rw [hk]; decide), if_neg (by rw [hk]; decide), if_neg (by rw [hk]; decide), if_neg (by rw [hk]; decide), if_neg (by rw [hk]; decide), if_neg (by rw [hk]; decide), if_pos hk]
  rw [e1]
  clear e1
  unfold nodeCells
  rw [hk]
  go_enter Tryd.func25, Tryd.ntmps25
  go_wp2
  refine bodyPost_ret (v := .agg #[.int .i64 9, .int .u64 0, .bool t.neg, .string ⟨t.dig.toArray⟩, .int .i64 t.exp, .string ⟨t.text.toArray⟩, .slice Ab t.bytes.length cb, .slice Ak t.keys.length ck, .slice none 0 0]) ?_ rfl ?_
  · unfold results; go_simp
  · exact ⟨Ab, cb, Ak, ck, none, 0, rfl, ((Chg.refl _ _).alloc _).alloc _⟩
set_option maxHeartbeats 4000000 in
theorem plain_10 (t : Tn) (Ab : Option Addr) (cb : Nat) (Ak : Option Addr) (ck : Nat) (Ai : Option Addr) (ci : Nat) (hk : t.kind = 10) (w : World) :
    Calls Tryd.prog 25 #[.agg (nodeCells t Ab cb Ak ck Ai ci)] w fun e w' => ∃ A1 c1 A2 c2 A3 c3, e = .returned (.agg (nodeCells (plainT t) A1 c1 A2 c2 A3 c3)) ∧ Chg Pure' w w' := by
  have hz := zero_node
  have e1 : plainT t = .mk t.kind 0 t.neg t.dig t.exp t.text t.bytes t.keys t.kids := by unfold plainT; rw [if_neg (by rw [hk]; decide), if_neg (by rw [hk]; decide), if_neg (by rw [hk]; decide), if_neg (by rw [hk]; decide), if_neg (by rw [hk]; decide), if_neg (by rw [hk]; decide), if_neg (by rw [hk]; decide), if_neg (by rw [hk]; decide), if_neg (by rw [hk]; decide), if_pos hk]
  rw [e1]
  clear e1
  unfold nodeCells
  rw [hk]
  go_enter Tryd.func25, Tryd.ntmps25
  go_wp2
  refine bodyPost_ret (v := .agg #[.int .i64 10, .int .u64 0, .bool t.neg, .string ⟨t.dig.toArray⟩, .int .i64 t.exp, .string ⟨t.text.toArray⟩, .slice Ab t.bytes.length cb, .slice Ak t.keys.length ck, .slice Ai t.kids.length ci]) ?_ rfl ?_
  · unfold results; go_simp
  · exact ⟨Ab, cb, Ak, ck, Ai, ci, rfl, ((Chg.refl _ _).alloc _).alloc _⟩
/-- tree.plain. -/
theorem plain_of (t : Tn) (Ab : Option Addr) (cb : Nat) (Ak : Option Addr) (ck : Nat) (Ai : Option Addr) (ci : Nat) (h0 : 0 ≤ t.kind) (h1 : t.kind ≤ 10) (w : World) :
    Calls Tryd.prog 25 #[.agg (nodeCells t Ab cb Ak ck Ai ci)] w fun e w' => ∃ A1 c1 A2 c2 A3 c3, e = .returned (.agg (nodeCells (plainT t) A1 c1 A2 c2 A3 c3)) ∧ Chg Pure' w w' := by
  rcases (by omega : t.kind = 0 ∨ t.kind = 1 ∨ t.kind = 2 ∨ t.kind = 3 ∨ t.kind = 4 ∨ t.kind = 5 ∨ t.kind = 6 ∨ t.kind = 7 ∨ t.kind = 8 ∨ t.kind = 9 ∨ t.kind = 10) with h | h | h | h | h | h | h | h | h | h | h
  · exact plain_0 t Ab cb Ak ck Ai ci h w
  · exact plain_1 t Ab cb Ak ck Ai ci h w
  · exact plain_2 t Ab cb Ak ck Ai ci h w
  · exact plain_3 t Ab cb Ak ck Ai ci h w
  · exact plain_4 t Ab cb Ak ck Ai ci h w
  · exact plain_5 t Ab cb Ak ck Ai ci h w
  · exact plain_6 t Ab cb Ak ck Ai ci h w
  · exact plain_7 t Ab cb Ak ck Ai ci h w
  · exact plain_8 t Ab cb Ak ck Ai ci h w
  · exact plain_9 t Ab cb Ak ck Ai ci h w
  · exact plain_10 t Ab cb Ak ck Ai ci h w
set_option maxHeartbeats 4000000 in
/-- tree.empty. -/
theorem empty_of (t : Tn) (Ab : Option Addr) (cb : Nat) (Ak : Option Addr) (ck : Nat) (Ai : Option Addr) (ci : Nat) (hb : t.bytes.length ≤ 140737488351232) (hk : t.keys.length ≤ 140737488351232) (hi : t.kids.length ≤ 140737488351232) (w : World) :
    Calls Tryd.prog 24 #[.agg (nodeCells t Ab cb Ak ck Ai ci)] w fun e w' => e = .returned (.bool (emptyT t)) ∧ Chg Pure' w w' := by
  have ca : Chg Pure' w (w.alloc (.cells (nodeCells t Ab cb Ak ck Ai ci) 26)) := (Chg.refl _ _).alloc _
  have CA := Lib.hid ca
  have HE : Hid (emptyT t = (decide (t.n = 0) && !t.neg && decide (t.dig = []) && decide (t.exp = 0) && decide (t.text = []) && decide (t.bytes.length + t.keys.length + t.kids.length = 0))) := Lib.hid rfl
  have hn : ((t.n.toNat : Int) == 0) = decide (t.n = 0) := by
    rw [show decide (t.n = 0) = decide ((t.n.toNat : Int) = 0) from by rw [decide_eq_decide]; constructor; (intro h; rw [h]; rfl); (intro h; exact UInt64.toNat_inj.1 (by show t.n.toNat = 0; omega))]
    rfl
  have hs : ((t.bytes.length : Int) + (t.keys.length : Int) + (t.kids.length : Int) == 0) = decide (t.bytes.length + t.keys.length + t.kids.length = 0) := by
    rw [show decide (t.bytes.length + t.keys.length + t.kids.length = 0) = decide ((t.bytes.length : Int) + (t.keys.length : Int) + (t.kids.length : Int) = 0) from by rw [decide_eq_decide]; omega]
    rfl
  clear ca
  unfold nodeCells at *
  go_enter Tryd.func24, Tryd.ntmps24
  go_wp2
  all_goals go_ret
  all_goals refine ⟨?_, (Chg.refl _ _).alloc _⟩
  all_goals rw [HE.out]
  all_goals simp_all
end Go.Proofs.YtafpkecjicphoaaDoor
