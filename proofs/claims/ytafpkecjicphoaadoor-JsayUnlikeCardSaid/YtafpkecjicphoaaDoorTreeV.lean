/- tree.first: a fault of a node's text, bytes or number. -/
import Derived.Test.YtafpkecjicphoaaDoorTreeU
import Derived.Test.YtafpkecjicphoaaDoorUtfB
import Derived.Test.YtafpkecjicphoaaDoorDecWh
import Derived.Lib.ConvBytes
namespace Go.Proofs.YtafpkecjicphoaaDoor
open Go Go.RowKit
set_option linter.unusedVariables false
set_option linter.unusedSimpArgs false
set_option maxRecDepth 100000

/-- A node's number. -/
def Tn.num (t : Tn) : Num := ⟨t.neg, t.dig, t.exp⟩
/-- A fault of a node's text, bytes or number. -/
def firstT (t : Tn) : Int :=
  if t.kind = 5 then (if 4096 < t.text.length then 8 else if utfOk t.text then 0 else 6)
  else if t.kind = 6 then (if 4096 < t.bytes.length then 8 else 0)
  else if t.kind = 2 then (if natR t.dig = false ∨ (t.neg = true ∧ t.dig = [48]) then 11 else 0)
  else if t.kind = 3 then (if (wholeA t.num).2 = true ∨ t.num.right = false then 11 else 0)
  else 0
theorem two_blocks {w w1 : World} {o o2 : Obj} (z : Chg Pure' ((w.alloc o).alloc o2) w1) : w1.heap[w.heap.size]? = some o ∧ w1.heap[w.heap.size + 1]? = some o2 := by
  constructor
  · refine (z.block w.heap.size (by simp; omega) (fun h => h)).trans ?_
    rw [Below.heap_alloc _ _ _ (by simp)]
    exact Array.getElem?_push_size
  · refine (z.block (w.heap.size + 1) (by simp) (fun h => h)).trans ?_
    have := Array.getElem?_push_size (xs := (w.alloc o).heap) (x := o2)
    rw [show (w.alloc o).heap.size = w.heap.size + 1 by simp] at this
    exact this
theorem bytesWorld_chg' (w : World) (k : TypeId) (s : ByteArray) : Chg Pure' w (Lib.bytesWorld w k s) :=
  ⟨rfl, rfl, rfl, by rw [Lib.bytesWorld_size]; omega, fun j hj _ => Lib.bytesWorld_at_old w k s j hj⟩
theorem bytesWorld_bytes (w : World) (e : TypeId) (l : List UInt8) : Bytes (Lib.bytesWorld w e ⟨l.toArray⟩) (some ⟨w.heap.size, 0, none⟩) l.length l := by
  refine ⟨rfl, fun _ => ⟨w.heap.size, 0, rfl, fun j hj => ?_⟩⟩
  rw [Nat.zero_add, Lib.bytesWorld_cell w e ⟨l.toArray⟩ j (by simpa [ByteArray.size] using hj)]
  simp [List.getD_eq_getElem?_getD, hj]
theorem utfStr_of (l : List UInt8) (hl : l.length ≤ 4611686018427387904) (W : World) (k n cp : Nat) (hk : W.heap.size = k) (hn : l.length = n) (hcp : grownCap W (⟨l.toArray⟩ : ByteArray).size 0 5 = cp) :
    Calls Tryd.prog 35 #[.slice (some ⟨k, 0, none⟩) n cp] (Lib.bytesWorld W 5 ⟨l.toArray⟩) fun e w' => ∃ at_, e = .returned (faultOf (utfOk l) at_) ∧ Chg Pure' W w' := by
  subst hk hn hcp
  refine (utfCheck_of _ _ _ l _ (bytesWorld_bytes W 5 l) hl ?_).mono ?_
  · have := grownCap_ge W (⟨l.toArray⟩ : ByteArray).size 0 5
    simpa [ByteArray.size] using this
  · rintro e w' ⟨a, rfl, hc⟩
    exact ⟨a, rfl, (bytesWorld_chg' W _ _).trans' hc⟩
set_option maxHeartbeats 2000000 in
theorem first_5 (t : Tn) (Ab : Option Addr) (cb : Nat) (Ak : Option Addr) (ck : Nat) (Ai : Option Addr) (ci : Nat) (hk : t.kind = 5) (w : World) (hl : t.text.length ≤ 140737488351232) :
    Calls Tryd.prog 23 #[.agg (nodeCells t Ab cb Ak ck Ai ci)] w fun e w' => e = .returned (.int .i64 (firstT t)) ∧ Chg Pure' w w' := by
  have hcv := fun W => Lib.run_convert_string_bytes (P := Tryd.prog) W 9 23 5 ⟨t.text.toArray⟩ Tryd.underlying9 Tryd.underlying23 Tryd.underlying5
  have e1 : firstT t = (if 4096 < t.text.length then 8 else if utfOk t.text then 0 else 6) := by unfold firstT; rw [if_pos hk]
  rw [e1]
  clear e1
  have hu := utfStr_of t.text (by omega)
  unfold nodeCells
  rw [hk]
  by_cases h4 : 4096 < t.text.length
  · rw [if_pos h4]
    go_enter Tryd.func23, Tryd.ntmps23
    go_wp2
    go_ret
    exact ⟨rfl, ((Chg.refl _ _).alloc _).alloc _⟩
  · rw [if_neg h4]
    obtain ⟨B, hB⟩ : ∃ B, utfOk t.text = B := ⟨_, rfl⟩
    rw [hB] at hu ⊢
    clear hB
    cases B
    · simp only [faultOf] at hu
      go_enter Tryd.func23, Tryd.ntmps23
      go_wp2_with (go_at_call 35; refine (hu _ _ _ _ (by simp) (by simp [ByteArray.size]) rfl).mono ?_)
      rintro e w1 a rfl z1
      go_wp2
      go_ret
      exact ⟨rfl, (((Chg.refl _ _).alloc _).alloc _).trans' z1⟩
    · simp only [faultOf] at hu
      go_enter Tryd.func23, Tryd.ntmps23
      go_wp2_with (go_at_call 35; refine (hu _ _ _ _ (by simp) (by simp [ByteArray.size]) rfl).mono ?_)
      rintro e w1 rfl z1
      go_wp2
      go_ret
      exact ⟨rfl, (((Chg.refl _ _).alloc _).alloc _).trans' z1⟩
set_option maxHeartbeats 2000000 in
theorem first_6 (t : Tn) (Ab : Option Addr) (cb : Nat) (Ak : Option Addr) (ck : Nat) (Ai : Option Addr) (ci : Nat) (hk : t.kind = 6) (w : World) (hl : t.bytes.length ≤ 140737488351232) :
    Calls Tryd.prog 23 #[.agg (nodeCells t Ab cb Ak ck Ai ci)] w fun e w' => e = .returned (.int .i64 (firstT t)) ∧ Chg Pure' w w' := by
  have e1 : firstT t = (if 4096 < t.bytes.length then 8 else 0) := by unfold firstT; rw [if_neg (by rw [hk]; decide), if_pos hk]
  rw [e1]
  clear e1
  unfold nodeCells
  rw [hk]
  by_cases h4 : 4096 < t.bytes.length
  · rw [if_pos h4]
    go_enter Tryd.func23, Tryd.ntmps23
    go_wp2
    go_ret
    exact ⟨rfl, ((Chg.refl _ _).alloc _).alloc _⟩
  · rw [if_neg h4]
    go_enter Tryd.func23, Tryd.ntmps23
    go_wp2
    go_ret
    exact ⟨rfl, ((Chg.refl _ _).alloc _).alloc _⟩
set_option maxHeartbeats 2000000 in
theorem first_2 (t : Tn) (Ab : Option Addr) (cb : Nat) (Ak : Option Addr) (ck : Nat) (Ai : Option Addr) (ci : Nat) (hk : t.kind = 2) (w : World) (hl : t.dig.length ≤ 140737488351232) :
    Calls Tryd.prog 23 #[.agg (nodeCells t Ab cb Ak ck Ai ci)] w fun e w' => e = .returned (.int .i64 (firstT t)) ∧ Chg Pure' w w' := by
  have e1 : firstT t = (if natR t.dig = false ∨ (t.neg = true ∧ t.dig = [48]) then 11 else 0) := by unfold firstT; rw [if_neg (by rw [hk]; decide), if_neg (by rw [hk]; decide), if_pos hk]
  rw [e1]
  clear e1
  have hn := fun w => natRight_of t.dig w (by omega)
  unfold nodeCells
  rw [hk]
  clear hl
  generalize natR t.dig = B at *
  generalize t.neg = g at *
  generalize t.dig = d at *
  cases B
  · rw [if_pos (.inl rfl)]
    go_enter Tryd.func23, Tryd.ntmps23
    go_wp2_with (go_at_call 36; refine (hn _).mono ?_)
    rintro e w1 ⟨rfl, z1⟩
    have hb := (two_blocks z1).1
    have d2 : w1.cell? ⟨w.heap.size, 2, none⟩ = some (.bool g) := by simp [World.cell?, hb]
    have d3 : w1.cell? ⟨w.heap.size, 3, none⟩ = some (.string ⟨d.toArray⟩) := by simp [World.cell?, hb]
    clear hb
    go_wp2
    all_goals go_ret
    all_goals exact ⟨rfl, (((Chg.refl _ _).alloc _).alloc _).trans' z1⟩
  cases g
  · rw [if_neg (by simp)]
    go_enter Tryd.func23, Tryd.ntmps23
    go_wp2_with (go_at_call 36; refine (hn _).mono ?_)
    rintro e w1 ⟨rfl, z1⟩
    have hb := (two_blocks z1).1
    have d2 : w1.cell? ⟨w.heap.size, 2, none⟩ = some (.bool false) := by simp [World.cell?, hb]
    have d3 : w1.cell? ⟨w.heap.size, 3, none⟩ = some (.string ⟨d.toArray⟩) := by simp [World.cell?, hb]
    clear hb
    go_wp2
    all_goals go_ret
    all_goals exact ⟨rfl, (((Chg.refl _ _).alloc _).alloc _).trans' z1⟩
  by_cases hd : d = [48]
  · subst hd
    rw [if_pos (.inr ⟨rfl, rfl⟩)]
    go_enter Tryd.func23, Tryd.ntmps23
    go_wp2_with (go_at_call 36; refine (hn _).mono ?_)
    rintro e w1 ⟨rfl, z1⟩
    have hb := (two_blocks z1).1
    have d2 : w1.cell? ⟨w.heap.size, 2, none⟩ = some (.bool true) := by simp [World.cell?, hb]
    have d3 : w1.cell? ⟨w.heap.size, 3, none⟩ = some (.string ⟨#[48]⟩) := by simp [World.cell?, hb]
    clear hb
    go_wp2
    all_goals go_ret
    all_goals exact ⟨rfl, (((Chg.refl _ _).alloc _).alloc _).trans' z1⟩
  · rw [if_neg (by simp [hd])]
    have hne : ¬ (⟨d.toArray⟩ : ByteArray) = ⟨#[48]⟩ := by
      intro e; apply hd; have := congrArg ByteArray.data e; simpa using congrArg Array.toList this
    go_enter Tryd.func23, Tryd.ntmps23
    go_wp2_with (go_at_call 36; refine (hn _).mono ?_)
    rintro e w1 ⟨rfl, z1⟩
    have hb := (two_blocks z1).1
    have d2 : w1.cell? ⟨w.heap.size, 2, none⟩ = some (.bool true) := by simp [World.cell?, hb]
    have d3 : w1.cell? ⟨w.heap.size, 3, none⟩ = some (.string ⟨d.toArray⟩) := by simp [World.cell?, hb]
    clear hb
    go_wp2
    all_goals first
      | (go_ret; exact ⟨rfl, (((Chg.refl _ _).alloc _).alloc _).trans' z1⟩)
      | (exfalso; simp_all)
set_option maxHeartbeats 2000000 in
theorem first_3 (t : Tn) (Ab : Option Addr) (cb : Nat) (Ak : Option Addr) (ck : Nat) (Ai : Option Addr) (ci : Nat) (hk : t.kind = 3) (w : World) (hl : t.dig.length ≤ 140737488351232) :
    Calls Tryd.prog 23 #[.agg (nodeCells t Ab cb Ak ck Ai ci)] w fun e w' => e = .returned (.int .i64 (firstT t)) ∧ Chg Pure' w w' := by
  have e1 : firstT t = (if (wholeA t.num).2 = true ∨ t.num.right = false then 11 else 0) := by unfold firstT; rw [if_neg (by rw [hk]; decide), if_neg (by rw [hk]; decide), if_neg (by rw [hk]; decide), if_pos hk]
  rw [e1]
  clear e1
  have hr := fun w => decRight_of t.num w (by unfold Tn.num; simp only; omega)
  have hw := fun w => whole_of t.num w (by unfold Tn.num; simp only; omega)
  simp only [Num.val, Tn.num] at hr hw
  unfold nodeCells
  rw [hk]
  change Calls _ _ _ _ (fun e w' => e = .returned (.int .i64 (if (wholeA ⟨t.neg, t.dig, t.exp⟩).2 = true ∨ Num.right ⟨t.neg, t.dig, t.exp⟩ = false then 11 else 0)) ∧ Chg Pure' w w')
  generalize Num.right ⟨t.neg, t.dig, t.exp⟩ = B2 at *
  generalize wholeA ⟨t.neg, t.dig, t.exp⟩ = B1 at *
  obtain ⟨L1, B1⟩ := B1
  simp only at *
  clear hl
  cases B1
  · cases B2
    · rw [if_pos (.inr rfl)]
      go_enter Tryd.func23, Tryd.ntmps23
      go_wp2_with (go_at_call 37; refine (hw _).mono ?_)
      rintro e w1 ⟨rfl, z1⟩
      have hb := (two_blocks z1).2
      have d0 : w1.cell? ⟨w.heap.size + 1, 0, none⟩ = some (.bool t.neg) := by simp [World.cell?, hb]
      have d1 : w1.cell? ⟨w.heap.size + 1, 1, none⟩ = some (.string ⟨t.dig.toArray⟩) := by simp [World.cell?, hb]
      have d2 : w1.cell? ⟨w.heap.size + 1, 2, none⟩ = some (.int .i64 t.exp) := by simp [World.cell?, hb]
      clear hb
      go_wp2_with (go_at_call 38; refine (hr _).mono ?_)
      rintro e w2 ⟨rfl, z2⟩
      go_wp2
      all_goals go_ret
      all_goals exact ⟨rfl, ((((Chg.refl _ _).alloc _).alloc _).trans' z1).trans' z2⟩
    · rw [if_neg (by simp)]
      go_enter Tryd.func23, Tryd.ntmps23
      go_wp2_with (go_at_call 37; refine (hw _).mono ?_)
      rintro e w1 ⟨rfl, z1⟩
      have hb := (two_blocks z1).2
      have d0 : w1.cell? ⟨w.heap.size + 1, 0, none⟩ = some (.bool t.neg) := by simp [World.cell?, hb]
      have d1 : w1.cell? ⟨w.heap.size + 1, 1, none⟩ = some (.string ⟨t.dig.toArray⟩) := by simp [World.cell?, hb]
      have d2 : w1.cell? ⟨w.heap.size + 1, 2, none⟩ = some (.int .i64 t.exp) := by simp [World.cell?, hb]
      clear hb
      go_wp2_with (go_at_call 38; refine (hr _).mono ?_)
      rintro e w2 ⟨rfl, z2⟩
      go_wp2
      all_goals go_ret
      all_goals exact ⟨rfl, ((((Chg.refl _ _).alloc _).alloc _).trans' z1).trans' z2⟩
  · rw [if_pos (.inl rfl)]
    go_enter Tryd.func23, Tryd.ntmps23
    go_wp2_with (go_at_call 37; refine (hw _).mono ?_)
    rintro e w1 ⟨rfl, z1⟩
    have hb := (two_blocks z1).2
    have d0 : w1.cell? ⟨w.heap.size + 1, 0, none⟩ = some (.bool t.neg) := by simp [World.cell?, hb]
    have d1 : w1.cell? ⟨w.heap.size + 1, 1, none⟩ = some (.string ⟨t.dig.toArray⟩) := by simp [World.cell?, hb]
    have d2 : w1.cell? ⟨w.heap.size + 1, 2, none⟩ = some (.int .i64 t.exp) := by simp [World.cell?, hb]
    clear hb
    go_wp2
    all_goals go_ret
    all_goals exact ⟨rfl, (((Chg.refl _ _).alloc _).alloc _).trans' z1⟩
set_option maxHeartbeats 2000000 in
theorem first_x (t : Tn) (Ab : Option Addr) (cb : Nat) (Ak : Option Addr) (ck : Nat) (Ai : Option Addr) (ci : Nat) (h2 : t.kind ≠ 2) (h3 : t.kind ≠ 3) (h5 : t.kind ≠ 5) (h6 : t.kind ≠ 6) (w : World) :
    Calls Tryd.prog 23 #[.agg (nodeCells t Ab cb Ak ck Ai ci)] w fun e w' => e = .returned (.int .i64 (firstT t)) ∧ Chg Pure' w w' := by
  have e1 : firstT t = 0 := by unfold firstT; rw [if_neg h5, if_neg h6, if_neg h2, if_neg h3]
  rw [e1]
  clear e1
  unfold nodeCells
  go_enter Tryd.func23, Tryd.ntmps23
  go_wp2
  go_ret
  exact ⟨rfl, ((Chg.refl _ _).alloc _).alloc _⟩
theorem first_of (t : Tn) (Ab : Option Addr) (cb : Nat) (Ak : Option Addr) (ck : Nat) (Ai : Option Addr) (ci : Nat) (w : World) (hP : PartsAt w t Ab cb ck ci) :
    Calls Tryd.prog 23 #[.agg (nodeCells t Ab cb Ak ck Ai ci)] w fun e w' => e = .returned (.int .i64 (firstT t)) ∧ Chg Pure' w w' := by
  by_cases h2 : t.kind = 2
  · exact first_2 t Ab cb Ak ck Ai ci h2 w hP.dig
  by_cases h3 : t.kind = 3
  · exact first_3 t Ab cb Ak ck Ai ci h3 w hP.dig
  by_cases h5 : t.kind = 5
  · exact first_5 t Ab cb Ak ck Ai ci h5 w hP.text
  by_cases h6 : t.kind = 6
  · exact first_6 t Ab cb Ak ck Ai ci h6 w hP.lb
  exact first_x t Ab cb Ak ck Ai ci h2 h3 h5 h6 w
end Go.Proofs.YtafpkecjicphoaaDoor
