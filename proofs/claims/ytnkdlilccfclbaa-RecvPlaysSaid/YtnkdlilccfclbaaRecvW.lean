/- The document's receiver, going on: New. -/
import Derived.Test.YtnkdlilccfclbaaRecvT
namespace Go.Proofs.Ytnkdlilccfclbaa
open Go Go.RowKit
set_option linter.unusedVariables false
set_option linter.unusedSimpArgs false

theorem zero_mrecv (w : World) : (zeroValue 45).run Try.prog w = .ok (.agg #[.int .i64 0, .int .i64 0, .slice none 0 0]) w := by kernel_rfl
theorem mnew_bad (W : Int) (w : World) (h : W < 1 ∨ 32 < W) :
    Calls Try.prog 16 #[.int .i64 W] w fun e w' => e = .returned (.tuple #[.agg #[.int .i64 0, .int .i64 0, .slice none 0 0], .int .i64 1]) ∧ Chg Pure' w w' := by
  have hz := zero_mrecv
  have hc : Chg Pure' w (w.alloc (.cells #[.int .i64 0, .int .i64 0, .slice none 0 0] 45)) := (Chg.refl _ w).alloc _
  rcases h with h | h
  · go_enter Try.func16, Try.ntmps16
    go_wp2
    refine bodyPost_ret (v := .tuple #[.agg #[.int .i64 0, .int .i64 0, .slice none 0 0], .int .i64 1]) ?_ rfl ⟨rfl, hc⟩
    unfold results
    go_simp
  · have h1 : ¬ W < 1 := by omega
    have h2 : decide (W < 1) = false := by simp; omega
    go_enter Try.func16, Try.ntmps16
    go_wp2
    refine bodyPost_ret (v := .tuple #[.agg #[.int .i64 0, .int .i64 0, .slice none 0 0], .int .i64 1]) ?_ rfl ⟨rfl, hc⟩
    unfold results
    go_simp
theorem made_get (n i : Nat) (h : i < n * 2) : (madeCells #[.bool false, .slice none 0 0] (n * 2)).toList[i]? = some (if i % 2 = 0 then .bool false else .slice none 0 0) := by
  unfold madeCells
  rw [Array.getElem?_toList, Array.getElem?_map, Array.getElem?_range, if_pos h]
  rcases Nat.mod_two_eq_zero_or_one i with hm | hm
  · simp [hm]
  · simp [hm]
theorem mnew_ok (W : Nat) (w : World) (h1 : 1 ≤ W) (h2 : W ≤ 32) :
    Calls Try.prog 16 #[.int .i64 W] w fun e w' => ∃ g, e = .returned (.tuple #[.agg #[.int .i64 W, .int .i64 0, .slice (some ⟨g, 0, none⟩) W W], .int .i64 0]) ∧ Chg Pure' w w' ∧ w.heap.size ≤ g ∧
      w'.ownsRow 0 61 2 (.slice (some ⟨g, 0, none⟩) W W) W (madeCells #[.bool false, .slice none 0 0] (W * 2)).toList := by
  obtain ⟨i0, hi, hz0, hz1, hz2⟩ := info_parts infoCame
  have hmk : ∀ w : World, (Instr.makeSlice 43 (.int .i64 W) (.int .i64 W)).run Try.prog w = .ok (.slice (some ⟨w.heap.size, 0, none⟩) W W) (w.alloc (.cells (madeCells #[.bool false, .slice none 0 0] (W * 2)) 61)) := by
    intro w
    have h := run_make (P := Try.prog) w 43 61 i0 (.agg #[.bool false, .slice none 0 0]) Try.underlying43 hi hz0 .i64 .i64 W W (by omega) (by omega) (by rw [hz2]; omega) (by omega)
    simpa [hz1, Value.cells] using h
  have h3 : decide ((W : Int) < 1) = false := by simp; omega
  have h4 : decide ((32 : Int) < (W : Int)) = false := by simp; omega
  have hz := zero_mrecv
  go_enter Try.func16, Try.ntmps16
  go_wp2
  have hc1 : ∀ cs, Chg Pure' w ((w.alloc (.cells cs 45)).alloc (.cells (madeCells #[.bool false, .slice none 0 0] (W * 2)) 61)) := fun cs => ((Chg.refl _ w).alloc _).alloc _
  refine bodyPost_ret (v := .tuple #[.agg #[.int .i64 W, .int .i64 0, .slice (some ⟨w.heap.size + 1, 0, none⟩) W W], .int .i64 0]) ?_ rfl ⟨w.heap.size + 1, rfl, hc1 _, by omega, ?_⟩
  · unfold results
    go_simp
  · have hb := heap_alloc_new (w.alloc (.cells #[.int .i64 W, .int .i64 0, .slice (some ⟨w.heap.size + 1, 0, none⟩) W W] 45)) (.cells (madeCells #[.bool false, .slice none 0 0] (W * 2)) 61)
    have e : (w.alloc (.cells #[.int .i64 W, .int .i64 0, .slice (some ⟨w.heap.size + 1, 0, none⟩) W W] 45)).heap.size = w.heap.size + 1 := by simp
    rw [e] at hb
    refine ⟨by simp [size_madeCells], .inr ⟨_, W, _, rfl, Nat.zero_le _, hb, Nat.le_refl _, by unfold maxLen; omega, by simp [size_madeCells], ?_⟩⟩
    rw [List.take_of_length_le (by simp [size_madeCells])]
theorem m_made {W g : Nat} {w : World} (h1 : 1 ≤ W) (h2 : W ≤ 32) (ho : w.ownsRow 0 61 2 (.slice (some ⟨g, 0, none⟩) W W) W (madeCells #[.bool false, .slice none 0 0] (W * 2)).toList) :
    MAt (w.alloc (.cells #[.int .i64 W, .int .i64 0, .slice (some ⟨g, 0, none⟩) W W] 45)) (fun k => k = g ∨ k = w.heap.size) w.heap.size W 0 (List.replicate W none) := by
  have hg := (ho.lt g rfl).2
  have ca : Chg Pure' w (w.alloc (.cells #[.int .i64 W, .int .i64 0, .slice (some ⟨g, 0, none⟩) W W] 45)) := (Chg.refl _ w).alloc _
  refine ⟨.inr rfl, fun k hk => by rcases hk with rfl | rfl <;> simp <;> omega, h1, h2, by simp, ⟨_, heap_alloc_new w _, rfl⟩, by rw [cellAt_alloc_lit]; rfl, by rw [cellAt_alloc_lit]; rfl,
    ⟨g, W, _, by rw [cellAt_alloc_lit]; rfl, own_keep ho ca (fun _ _ h => h), .inl rfl, by omega, Nat.le_refl _, fun j hj => ?_⟩⟩
  have e : (List.replicate W (none : Option (List UInt8))).getD j none = none := by
    rw [List.getD_eq_getElem?_getD, List.getElem?_replicate]
    split <;> rfl
  rw [e]
  exact ⟨by rw [made_get W _ (by omega), if_pos (by omega)], by rw [made_get W _ (by omega), if_neg (by omega)]⟩
end Go.Proofs.Ytnkdlilccfclbaa
