/- Package frame: the walk of look at fewer than four bytes. -/
import Derived.Test.YtemofjaonoofhaaFrameA
namespace Go.Proofs.Ytemofjaonoofhaa
open Go Go.RowKit
set_option linter.unusedVariables false
set_option linter.unusedSimpArgs false

set_option maxHeartbeats 4000000 in
theorem look_1 (b off c : Nat) (xs : List UInt8) (w : World) (hA : Bytes w (some ⟨b, off, none⟩) 1 xs) (hc : 1 ≤ c) :
    Calls Try.prog 28 #[.slice (some ⟨b, off, none⟩) 1 c] w (lookPost w xs) := by
  have hl := hA.len
  have ca : Chg Pure' w (w.alloc (.cells #[.int .u8 165, .int .u8 90] 5)) := (Chg.refl _ w).alloc _
  have hH0 := Bytes.alloc_lit w #[.int .u8 165, .int .u8 90] 5 [165, 90] rfl 2 rfl
  have hH : Bytes (w.alloc (.cells #[.int .u8 165, .int .u8 90] 5)) (some ⟨w.heap.size, 0, none⟩) 1 [165] := by
    have := hH0.part 0 1 (by omega) (by omega)
    exact this
  have hA1 := hA.pure ca
  have hp : Bytes (w.alloc (.cells #[.int .u8 165, .int .u8 90] 5)) (some ⟨b, off, none⟩) 1 (xs.take 1) := by
    have := hA1.part 0 1 (by omega) (by omega)
    exact this
  have hdec : decide (xs.take 1 = [165]) = headOk xs := by
    unfold headOk
    rw [hl, show min 1 2 = 1 from rfl]
    rw [show xs.take 2 = xs.take 1 from by rw [List.take_of_length_le (by omega), List.take_of_length_le (by omega)]]
    rfl
  have s1 : (1 : Int) ≤ (c : Int) := by omega
  have s4 : 1 ≤ c := by omega
  have hN : frameN xs = 0 := by
    unfold frameN
    rw [hl]
    rfl
  cases hh : headOk xs with
  | false =>
    rw [hh] at hdec
    have hR : lookB xs = .nothing := by unfold lookB; rw [if_pos hh]
    have HR := Lib.hid hR
    clear hR hh hl hN
    go_enter Try.func28, Try.ntmps28
    go_wp2_with (fail)
    generalize (w.alloc (.cells #[.int .u8 165, .int .u8 90] 5)) = w1 at *
    refine reg_begin (Pure') (by kernel_rfl) ?_
    refine reg_take 0 (v := ?_) rfl (by kernel_rfl) (by kernel_rfl) (by kernel_rfl) (fun _ _ _ h => h) (by kernel_rfl) ?_ ?_
    rotate_left
    · (intro w' hS; go_simp; (try go_bits); (try with_reducible rfl))
    try simp only [Act.put, List.getElem_toArray, List.getElem_cons_zero, List.getElem_cons_succ, List.setIfInBounds_toArray, List.set_cons_zero, List.set_cons_succ]
    refine reg_take 1 (v := ?_) rfl (by kernel_rfl) (by kernel_rfl) (by kernel_rfl) (fun _ _ _ h => h) (by kernel_rfl) ?_ ?_
    rotate_left
    · (intro w' hS; go_simp; (try go_bits); (try with_reducible rfl))
    try simp only [Act.put, List.getElem_toArray, List.getElem_cons_zero, List.getElem_cons_succ, List.setIfInBounds_toArray, List.set_cons_zero, List.set_cons_succ]
    refine reg_take 2 (v := ?_) rfl (by kernel_rfl) (by kernel_rfl) (by kernel_rfl) (fun _ _ _ h => h) (by kernel_rfl) ?_ ?_
    rotate_left
    · (intro w' hS; go_simp; (try go_bits); (try with_reducible rfl))
    try simp only [Act.put, List.getElem_toArray, List.getElem_cons_zero, List.getElem_cons_succ, List.setIfInBounds_toArray, List.set_cons_zero, List.set_cons_succ]
    refine reg_take 3 (v := ?_) rfl (by kernel_rfl) (by kernel_rfl) (by kernel_rfl) (fun _ _ _ h => h) (by kernel_rfl) ?_ ?_
    rotate_left
    · (intro w' hS; go_simp; (try go_bits); (try with_reducible rfl))
    try simp only [Act.put, List.getElem_toArray, List.getElem_cons_zero, List.getElem_cons_succ, List.setIfInBounds_toArray, List.set_cons_zero, List.set_cons_succ]
    refine reg_take 4 (v := ?_) rfl (by kernel_rfl) (by kernel_rfl) (by kernel_rfl) (fun _ _ _ h => h) (by kernel_rfl) ?_ ?_
    rotate_left
    · (intro w' hS; go_simp; (try go_bits); (try with_reducible rfl))
    try simp only [Act.put, List.getElem_toArray, List.getElem_cons_zero, List.getElem_cons_succ, List.setIfInBounds_toArray, List.set_cons_zero, List.set_cons_succ]
    refine reg_take 5 (v := ?_) rfl (by kernel_rfl) (by kernel_rfl) (by kernel_rfl) (fun _ _ _ h => h) (by kernel_rfl) ?_ ?_
    rotate_left
    · (intro w' hS; go_simp; (try go_bits); (try with_reducible rfl))
    try simp only [Act.put, List.getElem_toArray, List.getElem_cons_zero, List.getElem_cons_succ, List.setIfInBounds_toArray, List.set_cons_zero, List.set_cons_succ]
    refine reg_do 6 rfl (by kernel_rfl) (by kernel_rfl) ?_
    intro K hK
    go_simp
    refine (eqb_any _ _ _ _ _ _ _ _ _ hp.drew hH.drew false hdec).mono ?_
    rintro e w2 ⟨rfl, rfl⟩
    go_simp
    refine hK _ _ (Chg.refl _ _) ?_
    clear hK K
    try simp only [Act.put, List.getElem_toArray, List.getElem_cons_zero, List.getElem_cons_succ, List.setIfInBounds_toArray, List.set_cons_zero, List.set_cons_succ]
    refine reg_take 7 (v := ?_) rfl (by kernel_rfl) (by kernel_rfl) (by kernel_rfl) (fun _ _ _ h => h) (by kernel_rfl) ?_ ?_
    rotate_left
    · (intro w' hS; go_simp; (try go_bits); (try with_reducible rfl))
    try simp only [Act.put, List.getElem_toArray, List.getElem_cons_zero, List.getElem_cons_succ, List.setIfInBounds_toArray, List.set_cons_zero, List.set_cons_succ]
    refine wpAnyH_done (by kernel_rfl) ?_ _
    go_wp2
    go_ret2
    refine ⟨ca.drew, ?_⟩
    rw [HR.out]
    rfl
  | true =>
    rw [hh] at hdec
    have hR : lookB xs = if 1200 < frameN xs then .nothing else .few := by
      unfold lookB; rw [if_neg (by rw [hh]; simp)]
      split
      · rfl
      · rw [if_pos (.inl (by omega))]
    rw [hN] at hR
    have HR := Lib.hid hR
    clear hR hh hl hN
    by_cases hc1 : c = 1
    · have s9 : (c = 1) = True := eq_true hc1
      clear hc1
      go_enter Try.func28, Try.ntmps28
      go_wp2_with (fail)
      generalize (w.alloc (.cells #[.int .u8 165, .int .u8 90] 5)) = w1 at *
      refine reg_begin (Pure') (by kernel_rfl) ?_
      refine reg_take 0 (v := ?_) rfl (by kernel_rfl) (by kernel_rfl) (by kernel_rfl) (fun _ _ _ h => h) (by kernel_rfl) ?_ ?_
      rotate_left
      · (intro w' hS; go_simp; (try go_bits); (try with_reducible rfl))
      try simp only [Act.put, List.getElem_toArray, List.getElem_cons_zero, List.getElem_cons_succ, List.setIfInBounds_toArray, List.set_cons_zero, List.set_cons_succ]
      refine reg_take 1 (v := ?_) rfl (by kernel_rfl) (by kernel_rfl) (by kernel_rfl) (fun _ _ _ h => h) (by kernel_rfl) ?_ ?_
      rotate_left
      · (intro w' hS; go_simp; (try go_bits); (try with_reducible rfl))
      try simp only [Act.put, List.getElem_toArray, List.getElem_cons_zero, List.getElem_cons_succ, List.setIfInBounds_toArray, List.set_cons_zero, List.set_cons_succ]
      refine reg_take 2 (v := ?_) rfl (by kernel_rfl) (by kernel_rfl) (by kernel_rfl) (fun _ _ _ h => h) (by kernel_rfl) ?_ ?_
      rotate_left
      · (intro w' hS; go_simp; (try go_bits); (try with_reducible rfl))
      try simp only [Act.put, List.getElem_toArray, List.getElem_cons_zero, List.getElem_cons_succ, List.setIfInBounds_toArray, List.set_cons_zero, List.set_cons_succ]
      refine reg_take 3 (v := ?_) rfl (by kernel_rfl) (by kernel_rfl) (by kernel_rfl) (fun _ _ _ h => h) (by kernel_rfl) ?_ ?_
      rotate_left
      · (intro w' hS; go_simp; (try go_bits); (try with_reducible rfl))
      try simp only [Act.put, List.getElem_toArray, List.getElem_cons_zero, List.getElem_cons_succ, List.setIfInBounds_toArray, List.set_cons_zero, List.set_cons_succ]
      refine reg_take 4 (v := ?_) rfl (by kernel_rfl) (by kernel_rfl) (by kernel_rfl) (fun _ _ _ h => h) (by kernel_rfl) ?_ ?_
      rotate_left
      · (intro w' hS; go_simp; (try go_bits); (try with_reducible rfl))
      try simp only [Act.put, List.getElem_toArray, List.getElem_cons_zero, List.getElem_cons_succ, List.setIfInBounds_toArray, List.set_cons_zero, List.set_cons_succ]
      refine reg_take 5 (v := ?_) rfl (by kernel_rfl) (by kernel_rfl) (by kernel_rfl) (fun _ _ _ h => h) (by kernel_rfl) ?_ ?_
      rotate_left
      · (intro w' hS; go_simp; (try go_bits); (try with_reducible rfl))
      try simp only [Act.put, List.getElem_toArray, List.getElem_cons_zero, List.getElem_cons_succ, List.setIfInBounds_toArray, List.set_cons_zero, List.set_cons_succ]
      refine reg_do 6 rfl (by kernel_rfl) (by kernel_rfl) ?_
      intro K hK
      go_simp
      refine (eqb_any _ _ _ _ _ _ _ _ _ hp.drew hH.drew true hdec).mono ?_
      rintro e w2 ⟨rfl, rfl⟩
      go_simp
      refine hK _ _ (Chg.refl _ _) ?_
      clear hK K
      try simp only [Act.put, List.getElem_toArray, List.getElem_cons_zero, List.getElem_cons_succ, List.setIfInBounds_toArray, List.set_cons_zero, List.set_cons_succ]
      refine reg_take 7 (v := ?_) rfl (by kernel_rfl) (by kernel_rfl) (by kernel_rfl) (fun _ _ _ h => h) (by kernel_rfl) ?_ ?_
      rotate_left
      · (intro w' hS; go_simp; (try go_bits); (try with_reducible rfl))
      try simp only [Act.put, List.getElem_toArray, List.getElem_cons_zero, List.getElem_cons_succ, List.setIfInBounds_toArray, List.set_cons_zero, List.set_cons_succ]
      refine wpAnyH_done (by kernel_rfl) ?_ _
      have ca := ca.drew
      generalize w1.drew = w2 at *
      go_wp2_with (fail)
      go_loop [6, 34] (fun s i => ∃ k : Nat, k = 0 ∧ i = .int .i64 k ∧ s = .int .i64 k) (fun _ i => 1 - (intOf i).toNat)
      case atStart => exact ⟨0, rfl, rfl, rfl⟩
      case round =>
        obtain ⟨k, rfl, rfl, rfl⟩ := hrel
        go_wp2
        go_ret2
        refine ⟨ca, ?_⟩
        rw [HR.out]
        rfl
    · have s9 : (c = 1) = False := eq_false hc1
      go_enter Try.func28, Try.ntmps28
      go_wp2_with (fail)
      generalize (w.alloc (.cells #[.int .u8 165, .int .u8 90] 5)) = w1 at *
      refine reg_begin (Pure') (by kernel_rfl) ?_
      refine reg_take 0 (v := ?_) rfl (by kernel_rfl) (by kernel_rfl) (by kernel_rfl) (fun _ _ _ h => h) (by kernel_rfl) ?_ ?_
      rotate_left
      · (intro w' hS; go_simp; (try go_bits); (try with_reducible rfl))
      try simp only [Act.put, List.getElem_toArray, List.getElem_cons_zero, List.getElem_cons_succ, List.setIfInBounds_toArray, List.set_cons_zero, List.set_cons_succ]
      refine reg_take 1 (v := ?_) rfl (by kernel_rfl) (by kernel_rfl) (by kernel_rfl) (fun _ _ _ h => h) (by kernel_rfl) ?_ ?_
      rotate_left
      · (intro w' hS; go_simp; (try go_bits); (try with_reducible rfl))
      try simp only [Act.put, List.getElem_toArray, List.getElem_cons_zero, List.getElem_cons_succ, List.setIfInBounds_toArray, List.set_cons_zero, List.set_cons_succ]
      refine reg_take 2 (v := ?_) rfl (by kernel_rfl) (by kernel_rfl) (by kernel_rfl) (fun _ _ _ h => h) (by kernel_rfl) ?_ ?_
      rotate_left
      · (intro w' hS; go_simp; (try go_bits); (try with_reducible rfl))
      try simp only [Act.put, List.getElem_toArray, List.getElem_cons_zero, List.getElem_cons_succ, List.setIfInBounds_toArray, List.set_cons_zero, List.set_cons_succ]
      refine reg_take 3 (v := ?_) rfl (by kernel_rfl) (by kernel_rfl) (by kernel_rfl) (fun _ _ _ h => h) (by kernel_rfl) ?_ ?_
      rotate_left
      · (intro w' hS; go_simp; (try go_bits); (try with_reducible rfl))
      try simp only [Act.put, List.getElem_toArray, List.getElem_cons_zero, List.getElem_cons_succ, List.setIfInBounds_toArray, List.set_cons_zero, List.set_cons_succ]
      refine reg_take 4 (v := ?_) rfl (by kernel_rfl) (by kernel_rfl) (by kernel_rfl) (fun _ _ _ h => h) (by kernel_rfl) ?_ ?_
      rotate_left
      · (intro w' hS; go_simp; (try go_bits); (try with_reducible rfl))
      try simp only [Act.put, List.getElem_toArray, List.getElem_cons_zero, List.getElem_cons_succ, List.setIfInBounds_toArray, List.set_cons_zero, List.set_cons_succ]
      refine reg_take 5 (v := ?_) rfl (by kernel_rfl) (by kernel_rfl) (by kernel_rfl) (fun _ _ _ h => h) (by kernel_rfl) ?_ ?_
      rotate_left
      · (intro w' hS; go_simp; (try go_bits); (try with_reducible rfl))
      try simp only [Act.put, List.getElem_toArray, List.getElem_cons_zero, List.getElem_cons_succ, List.setIfInBounds_toArray, List.set_cons_zero, List.set_cons_succ]
      refine reg_do 6 rfl (by kernel_rfl) (by kernel_rfl) ?_
      intro K hK
      go_simp
      refine (eqb_any _ _ _ _ _ _ _ _ _ hp.drew hH.drew true hdec).mono ?_
      rintro e w2 ⟨rfl, rfl⟩
      go_simp
      refine hK _ _ (Chg.refl _ _) ?_
      clear hK K
      try simp only [Act.put, List.getElem_toArray, List.getElem_cons_zero, List.getElem_cons_succ, List.setIfInBounds_toArray, List.set_cons_zero, List.set_cons_succ]
      refine reg_take 7 (v := ?_) rfl (by kernel_rfl) (by kernel_rfl) (by kernel_rfl) (fun _ _ _ h => h) (by kernel_rfl) ?_ ?_
      rotate_left
      · (intro w' hS; go_simp; (try go_bits); (try with_reducible rfl))
      try simp only [Act.put, List.getElem_toArray, List.getElem_cons_zero, List.getElem_cons_succ, List.setIfInBounds_toArray, List.set_cons_zero, List.set_cons_succ]
      refine wpAnyH_done (by kernel_rfl) ?_ _
      have ca := ca.drew
      generalize w1.drew = w2 at *
      go_wp2_with (fail)
      go_loop [6, 34] (fun s i => ∃ k : Nat, k = 0 ∧ i = .int .i64 k ∧ s = .int .i64 k) (fun _ i => 1 - (intOf i).toNat)
      case atStart => exact ⟨0, rfl, rfl, rfl⟩
      case round =>
        obtain ⟨k, rfl, rfl, rfl⟩ := hrel
        go_wp2
        go_ret2
        refine ⟨ca, ?_⟩
        rw [HR.out]
        rfl
set_option maxHeartbeats 4000000 in
theorem look_2 (b off c : Nat) (xs : List UInt8) (w : World) (hA : Bytes w (some ⟨b, off, none⟩) 2 xs) (hc : 2 ≤ c) :
    Calls Try.prog 28 #[.slice (some ⟨b, off, none⟩) 2 c] w (lookPost w xs) := by
  have hl := hA.len
  have ca : Chg Pure' w (w.alloc (.cells #[.int .u8 165, .int .u8 90] 5)) := (Chg.refl _ w).alloc _
  have hH0 := Bytes.alloc_lit w #[.int .u8 165, .int .u8 90] 5 [165, 90] rfl 2 rfl
  have hH : Bytes (w.alloc (.cells #[.int .u8 165, .int .u8 90] 5)) (some ⟨w.heap.size, 0, none⟩) 2 [165, 90] := by
    have := hH0.part 0 2 (by omega) (by omega)
    exact this
  have hA1 := hA.pure ca
  have hp : Bytes (w.alloc (.cells #[.int .u8 165, .int .u8 90] 5)) (some ⟨b, off, none⟩) 2 (xs.take 2) := by
    have := hA1.part 0 2 (by omega) (by omega)
    exact this
  have hdec : decide (xs.take 2 = [165, 90]) = headOk xs := by
    unfold headOk
    rw [hl, show min 2 2 = 2 from rfl]
    rw [show xs.take 2 = xs.take 2 from rfl]
    rfl
  have s1 : (2 : Int) ≤ (c : Int) := by omega
  have s4 : 2 ≤ c := by omega
  have hN : frameN xs = 0 := by
    unfold frameN
    rw [hl]
    rfl
  cases hh : headOk xs with
  | false =>
    rw [hh] at hdec
    have hR : lookB xs = .nothing := by unfold lookB; rw [if_pos hh]
    have HR := Lib.hid hR
    clear hR hh hl hN
    go_enter Try.func28, Try.ntmps28
    go_wp2_with (fail)
    generalize (w.alloc (.cells #[.int .u8 165, .int .u8 90] 5)) = w1 at *
    refine reg_begin (Pure') (by kernel_rfl) ?_
    refine reg_take 0 (v := ?_) rfl (by kernel_rfl) (by kernel_rfl) (by kernel_rfl) (fun _ _ _ h => h) (by kernel_rfl) ?_ ?_
    rotate_left
    · (intro w' hS; go_simp; (try go_bits); (try with_reducible rfl))
    try simp only [Act.put, List.getElem_toArray, List.getElem_cons_zero, List.getElem_cons_succ, List.setIfInBounds_toArray, List.set_cons_zero, List.set_cons_succ]
    refine reg_take 1 (v := ?_) rfl (by kernel_rfl) (by kernel_rfl) (by kernel_rfl) (fun _ _ _ h => h) (by kernel_rfl) ?_ ?_
    rotate_left
    · (intro w' hS; go_simp; (try go_bits); (try with_reducible rfl))
    try simp only [Act.put, List.getElem_toArray, List.getElem_cons_zero, List.getElem_cons_succ, List.setIfInBounds_toArray, List.set_cons_zero, List.set_cons_succ]
    refine reg_take 2 (v := ?_) rfl (by kernel_rfl) (by kernel_rfl) (by kernel_rfl) (fun _ _ _ h => h) (by kernel_rfl) ?_ ?_
    rotate_left
    · (intro w' hS; go_simp; (try go_bits); (try with_reducible rfl))
    try simp only [Act.put, List.getElem_toArray, List.getElem_cons_zero, List.getElem_cons_succ, List.setIfInBounds_toArray, List.set_cons_zero, List.set_cons_succ]
    refine reg_take 3 (v := ?_) rfl (by kernel_rfl) (by kernel_rfl) (by kernel_rfl) (fun _ _ _ h => h) (by kernel_rfl) ?_ ?_
    rotate_left
    · (intro w' hS; go_simp; (try go_bits); (try with_reducible rfl))
    try simp only [Act.put, List.getElem_toArray, List.getElem_cons_zero, List.getElem_cons_succ, List.setIfInBounds_toArray, List.set_cons_zero, List.set_cons_succ]
    refine reg_take 4 (v := ?_) rfl (by kernel_rfl) (by kernel_rfl) (by kernel_rfl) (fun _ _ _ h => h) (by kernel_rfl) ?_ ?_
    rotate_left
    · (intro w' hS; go_simp; (try go_bits); (try with_reducible rfl))
    try simp only [Act.put, List.getElem_toArray, List.getElem_cons_zero, List.getElem_cons_succ, List.setIfInBounds_toArray, List.set_cons_zero, List.set_cons_succ]
    refine reg_take 5 (v := ?_) rfl (by kernel_rfl) (by kernel_rfl) (by kernel_rfl) (fun _ _ _ h => h) (by kernel_rfl) ?_ ?_
    rotate_left
    · (intro w' hS; go_simp; (try go_bits); (try with_reducible rfl))
    try simp only [Act.put, List.getElem_toArray, List.getElem_cons_zero, List.getElem_cons_succ, List.setIfInBounds_toArray, List.set_cons_zero, List.set_cons_succ]
    refine reg_do 6 rfl (by kernel_rfl) (by kernel_rfl) ?_
    intro K hK
    go_simp
    refine (eqb_any _ _ _ _ _ _ _ _ _ hp.drew hH.drew false hdec).mono ?_
    rintro e w2 ⟨rfl, rfl⟩
    go_simp
    refine hK _ _ (Chg.refl _ _) ?_
    clear hK K
    try simp only [Act.put, List.getElem_toArray, List.getElem_cons_zero, List.getElem_cons_succ, List.setIfInBounds_toArray, List.set_cons_zero, List.set_cons_succ]
    refine reg_take 7 (v := ?_) rfl (by kernel_rfl) (by kernel_rfl) (by kernel_rfl) (fun _ _ _ h => h) (by kernel_rfl) ?_ ?_
    rotate_left
    · (intro w' hS; go_simp; (try go_bits); (try with_reducible rfl))
    try simp only [Act.put, List.getElem_toArray, List.getElem_cons_zero, List.getElem_cons_succ, List.setIfInBounds_toArray, List.set_cons_zero, List.set_cons_succ]
    refine wpAnyH_done (by kernel_rfl) ?_ _
    go_wp2
    go_ret2
    refine ⟨ca.drew, ?_⟩
    rw [HR.out]
    rfl
  | true =>
    rw [hh] at hdec
    have hR : lookB xs = if 1200 < frameN xs then .nothing else .few := by
      unfold lookB; rw [if_neg (by rw [hh]; simp)]
      split
      · rfl
      · rw [if_pos (.inl (by omega))]
    rw [hN] at hR
    have HR := Lib.hid hR
    clear hR hh hl hN
    by_cases hc2 : c = 2
    · have s9 : (c = 2) = True := eq_true hc2
      clear hc2
      go_enter Try.func28, Try.ntmps28
      go_wp2_with (fail)
      generalize (w.alloc (.cells #[.int .u8 165, .int .u8 90] 5)) = w1 at *
      refine reg_begin (Pure') (by kernel_rfl) ?_
      refine reg_take 0 (v := ?_) rfl (by kernel_rfl) (by kernel_rfl) (by kernel_rfl) (fun _ _ _ h => h) (by kernel_rfl) ?_ ?_
      rotate_left
      · (intro w' hS; go_simp; (try go_bits); (try with_reducible rfl))
      try simp only [Act.put, List.getElem_toArray, List.getElem_cons_zero, List.getElem_cons_succ, List.setIfInBounds_toArray, List.set_cons_zero, List.set_cons_succ]
      refine reg_take 1 (v := ?_) rfl (by kernel_rfl) (by kernel_rfl) (by kernel_rfl) (fun _ _ _ h => h) (by kernel_rfl) ?_ ?_
      rotate_left
      · (intro w' hS; go_simp; (try go_bits); (try with_reducible rfl))
      try simp only [Act.put, List.getElem_toArray, List.getElem_cons_zero, List.getElem_cons_succ, List.setIfInBounds_toArray, List.set_cons_zero, List.set_cons_succ]
      refine reg_take 2 (v := ?_) rfl (by kernel_rfl) (by kernel_rfl) (by kernel_rfl) (fun _ _ _ h => h) (by kernel_rfl) ?_ ?_
      rotate_left
      · (intro w' hS; go_simp; (try go_bits); (try with_reducible rfl))
      try simp only [Act.put, List.getElem_toArray, List.getElem_cons_zero, List.getElem_cons_succ, List.setIfInBounds_toArray, List.set_cons_zero, List.set_cons_succ]
      refine reg_take 3 (v := ?_) rfl (by kernel_rfl) (by kernel_rfl) (by kernel_rfl) (fun _ _ _ h => h) (by kernel_rfl) ?_ ?_
      rotate_left
      · (intro w' hS; go_simp; (try go_bits); (try with_reducible rfl))
      try simp only [Act.put, List.getElem_toArray, List.getElem_cons_zero, List.getElem_cons_succ, List.setIfInBounds_toArray, List.set_cons_zero, List.set_cons_succ]
      refine reg_take 4 (v := ?_) rfl (by kernel_rfl) (by kernel_rfl) (by kernel_rfl) (fun _ _ _ h => h) (by kernel_rfl) ?_ ?_
      rotate_left
      · (intro w' hS; go_simp; (try go_bits); (try with_reducible rfl))
      try simp only [Act.put, List.getElem_toArray, List.getElem_cons_zero, List.getElem_cons_succ, List.setIfInBounds_toArray, List.set_cons_zero, List.set_cons_succ]
      refine reg_take 5 (v := ?_) rfl (by kernel_rfl) (by kernel_rfl) (by kernel_rfl) (fun _ _ _ h => h) (by kernel_rfl) ?_ ?_
      rotate_left
      · (intro w' hS; go_simp; (try go_bits); (try with_reducible rfl))
      try simp only [Act.put, List.getElem_toArray, List.getElem_cons_zero, List.getElem_cons_succ, List.setIfInBounds_toArray, List.set_cons_zero, List.set_cons_succ]
      refine reg_do 6 rfl (by kernel_rfl) (by kernel_rfl) ?_
      intro K hK
      go_simp
      refine (eqb_any _ _ _ _ _ _ _ _ _ hp.drew hH.drew true hdec).mono ?_
      rintro e w2 ⟨rfl, rfl⟩
      go_simp
      refine hK _ _ (Chg.refl _ _) ?_
      clear hK K
      try simp only [Act.put, List.getElem_toArray, List.getElem_cons_zero, List.getElem_cons_succ, List.setIfInBounds_toArray, List.set_cons_zero, List.set_cons_succ]
      refine reg_take 7 (v := ?_) rfl (by kernel_rfl) (by kernel_rfl) (by kernel_rfl) (fun _ _ _ h => h) (by kernel_rfl) ?_ ?_
      rotate_left
      · (intro w' hS; go_simp; (try go_bits); (try with_reducible rfl))
      try simp only [Act.put, List.getElem_toArray, List.getElem_cons_zero, List.getElem_cons_succ, List.setIfInBounds_toArray, List.set_cons_zero, List.set_cons_succ]
      refine wpAnyH_done (by kernel_rfl) ?_ _
      have ca := ca.drew
      generalize w1.drew = w2 at *
      go_wp2_with (fail)
      go_loop [6, 34] (fun s i => ∃ k : Nat, k = 0 ∧ i = .int .i64 k ∧ s = .int .i64 k) (fun _ i => 1 - (intOf i).toNat)
      case atStart => exact ⟨0, rfl, rfl, rfl⟩
      case round =>
        obtain ⟨k, rfl, rfl, rfl⟩ := hrel
        go_wp2
        go_ret2
        refine ⟨ca, ?_⟩
        rw [HR.out]
        rfl
    · have s9 : (c = 2) = False := eq_false hc2
      go_enter Try.func28, Try.ntmps28
      go_wp2_with (fail)
      generalize (w.alloc (.cells #[.int .u8 165, .int .u8 90] 5)) = w1 at *
      refine reg_begin (Pure') (by kernel_rfl) ?_
      refine reg_take 0 (v := ?_) rfl (by kernel_rfl) (by kernel_rfl) (by kernel_rfl) (fun _ _ _ h => h) (by kernel_rfl) ?_ ?_
      rotate_left
      · (intro w' hS; go_simp; (try go_bits); (try with_reducible rfl))
      try simp only [Act.put, List.getElem_toArray, List.getElem_cons_zero, List.getElem_cons_succ, List.setIfInBounds_toArray, List.set_cons_zero, List.set_cons_succ]
      refine reg_take 1 (v := ?_) rfl (by kernel_rfl) (by kernel_rfl) (by kernel_rfl) (fun _ _ _ h => h) (by kernel_rfl) ?_ ?_
      rotate_left
      · (intro w' hS; go_simp; (try go_bits); (try with_reducible rfl))
      try simp only [Act.put, List.getElem_toArray, List.getElem_cons_zero, List.getElem_cons_succ, List.setIfInBounds_toArray, List.set_cons_zero, List.set_cons_succ]
      refine reg_take 2 (v := ?_) rfl (by kernel_rfl) (by kernel_rfl) (by kernel_rfl) (fun _ _ _ h => h) (by kernel_rfl) ?_ ?_
      rotate_left
      · (intro w' hS; go_simp; (try go_bits); (try with_reducible rfl))
      try simp only [Act.put, List.getElem_toArray, List.getElem_cons_zero, List.getElem_cons_succ, List.setIfInBounds_toArray, List.set_cons_zero, List.set_cons_succ]
      refine reg_take 3 (v := ?_) rfl (by kernel_rfl) (by kernel_rfl) (by kernel_rfl) (fun _ _ _ h => h) (by kernel_rfl) ?_ ?_
      rotate_left
      · (intro w' hS; go_simp; (try go_bits); (try with_reducible rfl))
      try simp only [Act.put, List.getElem_toArray, List.getElem_cons_zero, List.getElem_cons_succ, List.setIfInBounds_toArray, List.set_cons_zero, List.set_cons_succ]
      refine reg_take 4 (v := ?_) rfl (by kernel_rfl) (by kernel_rfl) (by kernel_rfl) (fun _ _ _ h => h) (by kernel_rfl) ?_ ?_
      rotate_left
      · (intro w' hS; go_simp; (try go_bits); (try with_reducible rfl))
      try simp only [Act.put, List.getElem_toArray, List.getElem_cons_zero, List.getElem_cons_succ, List.setIfInBounds_toArray, List.set_cons_zero, List.set_cons_succ]
      refine reg_take 5 (v := ?_) rfl (by kernel_rfl) (by kernel_rfl) (by kernel_rfl) (fun _ _ _ h => h) (by kernel_rfl) ?_ ?_
      rotate_left
      · (intro w' hS; go_simp; (try go_bits); (try with_reducible rfl))
      try simp only [Act.put, List.getElem_toArray, List.getElem_cons_zero, List.getElem_cons_succ, List.setIfInBounds_toArray, List.set_cons_zero, List.set_cons_succ]
      refine reg_do 6 rfl (by kernel_rfl) (by kernel_rfl) ?_
      intro K hK
      go_simp
      refine (eqb_any _ _ _ _ _ _ _ _ _ hp.drew hH.drew true hdec).mono ?_
      rintro e w2 ⟨rfl, rfl⟩
      go_simp
      refine hK _ _ (Chg.refl _ _) ?_
      clear hK K
      try simp only [Act.put, List.getElem_toArray, List.getElem_cons_zero, List.getElem_cons_succ, List.setIfInBounds_toArray, List.set_cons_zero, List.set_cons_succ]
      refine reg_take 7 (v := ?_) rfl (by kernel_rfl) (by kernel_rfl) (by kernel_rfl) (fun _ _ _ h => h) (by kernel_rfl) ?_ ?_
      rotate_left
      · (intro w' hS; go_simp; (try go_bits); (try with_reducible rfl))
      try simp only [Act.put, List.getElem_toArray, List.getElem_cons_zero, List.getElem_cons_succ, List.setIfInBounds_toArray, List.set_cons_zero, List.set_cons_succ]
      refine wpAnyH_done (by kernel_rfl) ?_ _
      have ca := ca.drew
      generalize w1.drew = w2 at *
      go_wp2_with (fail)
      go_loop [6, 34] (fun s i => ∃ k : Nat, k = 0 ∧ i = .int .i64 k ∧ s = .int .i64 k) (fun _ i => 1 - (intOf i).toNat)
      case atStart => exact ⟨0, rfl, rfl, rfl⟩
      case round =>
        obtain ⟨k, rfl, rfl, rfl⟩ := hrel
        go_wp2
        go_ret2
        refine ⟨ca, ?_⟩
        rw [HR.out]
        rfl
set_option maxHeartbeats 4000000 in
theorem look_3 (b off c : Nat) (xs : List UInt8) (w : World) (hA : Bytes w (some ⟨b, off, none⟩) 3 xs) (hc : 3 ≤ c) :
    Calls Try.prog 28 #[.slice (some ⟨b, off, none⟩) 3 c] w (lookPost w xs) := by
  have hl := hA.len
  have ca : Chg Pure' w (w.alloc (.cells #[.int .u8 165, .int .u8 90] 5)) := (Chg.refl _ w).alloc _
  have hH0 := Bytes.alloc_lit w #[.int .u8 165, .int .u8 90] 5 [165, 90] rfl 2 rfl
  have hH : Bytes (w.alloc (.cells #[.int .u8 165, .int .u8 90] 5)) (some ⟨w.heap.size, 0, none⟩) 2 [165, 90] := by
    have := hH0.part 0 2 (by omega) (by omega)
    exact this
  have hA1 := hA.pure ca
  have hp : Bytes (w.alloc (.cells #[.int .u8 165, .int .u8 90] 5)) (some ⟨b, off, none⟩) 2 (xs.take 2) := by
    have := hA1.part 0 2 (by omega) (by omega)
    exact this
  have hdec : decide (xs.take 2 = [165, 90]) = headOk xs := by
    unfold headOk
    rw [hl, show min 3 2 = 2 from rfl]
    rw [show xs.take 2 = xs.take 2 from rfl]
    rfl
  have s1 : (2 : Int) ≤ (c : Int) := by omega
  have s4 : 2 ≤ c := by omega
  have s9 : (c = 2) = False := eq_false (by omega)
  have s10 : (3 : Int) ≤ (c : Int) := by omega
  have s11 : 3 ≤ c := by omega
  have hN : frameN xs = (xs.getD 2 0).toNat * 256 := by
    unfold frameN
    rw [hl]
    rw [if_pos (by omega), if_neg (by omega)]; exact Nat.add_zero _
  cases hh : headOk xs with
  | false =>
    rw [hh] at hdec
    have hR : lookB xs = .nothing := by unfold lookB; rw [if_pos hh]
    have HR := Lib.hid hR
    clear hR hh hl hN
    go_enter Try.func28, Try.ntmps28
    go_wp2_with (fail)
    generalize (w.alloc (.cells #[.int .u8 165, .int .u8 90] 5)) = w1 at *
    refine reg_begin (Pure') (by kernel_rfl) ?_
    refine reg_take 0 (v := ?_) rfl (by kernel_rfl) (by kernel_rfl) (by kernel_rfl) (fun _ _ _ h => h) (by kernel_rfl) ?_ ?_
    rotate_left
    · (intro w' hS; go_simp; (try go_bits); (try with_reducible rfl))
    try simp only [Act.put, List.getElem_toArray, List.getElem_cons_zero, List.getElem_cons_succ, List.setIfInBounds_toArray, List.set_cons_zero, List.set_cons_succ]
    refine reg_take 1 (v := ?_) rfl (by kernel_rfl) (by kernel_rfl) (by kernel_rfl) (fun _ _ _ h => h) (by kernel_rfl) ?_ ?_
    rotate_left
    · (intro w' hS; go_simp; (try go_bits); (try with_reducible rfl))
    try simp only [Act.put, List.getElem_toArray, List.getElem_cons_zero, List.getElem_cons_succ, List.setIfInBounds_toArray, List.set_cons_zero, List.set_cons_succ]
    refine reg_take 2 (v := ?_) rfl (by kernel_rfl) (by kernel_rfl) (by kernel_rfl) (fun _ _ _ h => h) (by kernel_rfl) ?_ ?_
    rotate_left
    · (intro w' hS; go_simp; (try go_bits); (try with_reducible rfl))
    try simp only [Act.put, List.getElem_toArray, List.getElem_cons_zero, List.getElem_cons_succ, List.setIfInBounds_toArray, List.set_cons_zero, List.set_cons_succ]
    refine reg_take 3 (v := ?_) rfl (by kernel_rfl) (by kernel_rfl) (by kernel_rfl) (fun _ _ _ h => h) (by kernel_rfl) ?_ ?_
    rotate_left
    · (intro w' hS; go_simp; (try go_bits); (try with_reducible rfl))
    try simp only [Act.put, List.getElem_toArray, List.getElem_cons_zero, List.getElem_cons_succ, List.setIfInBounds_toArray, List.set_cons_zero, List.set_cons_succ]
    refine reg_take 4 (v := ?_) rfl (by kernel_rfl) (by kernel_rfl) (by kernel_rfl) (fun _ _ _ h => h) (by kernel_rfl) ?_ ?_
    rotate_left
    · (intro w' hS; go_simp; (try go_bits); (try with_reducible rfl))
    try simp only [Act.put, List.getElem_toArray, List.getElem_cons_zero, List.getElem_cons_succ, List.setIfInBounds_toArray, List.set_cons_zero, List.set_cons_succ]
    refine reg_take 5 (v := ?_) rfl (by kernel_rfl) (by kernel_rfl) (by kernel_rfl) (fun _ _ _ h => h) (by kernel_rfl) ?_ ?_
    rotate_left
    · (intro w' hS; go_simp; (try go_bits); (try with_reducible rfl))
    try simp only [Act.put, List.getElem_toArray, List.getElem_cons_zero, List.getElem_cons_succ, List.setIfInBounds_toArray, List.set_cons_zero, List.set_cons_succ]
    refine reg_do 6 rfl (by kernel_rfl) (by kernel_rfl) ?_
    intro K hK
    go_simp
    refine (eqb_any _ _ _ _ _ _ _ _ _ hp.drew hH.drew false hdec).mono ?_
    rintro e w2 ⟨rfl, rfl⟩
    go_simp
    refine hK _ _ (Chg.refl _ _) ?_
    clear hK K
    try simp only [Act.put, List.getElem_toArray, List.getElem_cons_zero, List.getElem_cons_succ, List.setIfInBounds_toArray, List.set_cons_zero, List.set_cons_succ]
    refine reg_take 7 (v := ?_) rfl (by kernel_rfl) (by kernel_rfl) (by kernel_rfl) (fun _ _ _ h => h) (by kernel_rfl) ?_ ?_
    rotate_left
    · (intro w' hS; go_simp; (try go_bits); (try with_reducible rfl))
    try simp only [Act.put, List.getElem_toArray, List.getElem_cons_zero, List.getElem_cons_succ, List.setIfInBounds_toArray, List.set_cons_zero, List.set_cons_succ]
    refine wpAnyH_done (by kernel_rfl) ?_ _
    go_wp2
    go_ret2
    refine ⟨ca.drew, ?_⟩
    rw [HR.out]
    rfl
  | true =>
    rw [hh] at hdec
    have hR : lookB xs = if 1200 < frameN xs then .nothing else .few := by
      unfold lookB; rw [if_neg (by rw [hh]; simp)]
      split
      · rfl
      · rw [if_pos (.inl (by omega))]
    rw [hN] at hR
    have HR := Lib.hid hR
    have q2 : (w.alloc (.cells #[.int .u8 165, .int .u8 90] 5)).cell? ⟨b, off + 2, none⟩ = some (.int .u8 ((xs.getD 2 0).toNat : Int)) := by
      obtain ⟨b', off', e, hcl⟩ := hA1.cells (by omega)
      cases e
      rw [List.getD_eq_getElem?_getD, List.getElem?_eq_getElem (by omega)]
      exact hcl 2 (by omega)
    have hb2 := (xs.getD 2 0).toNat_lt
    clear hR hh hl hN
    generalize xs.getD 2 0 = y2 at *
    go_enter Try.func28, Try.ntmps28
    go_wp2_with (fail)
    generalize (w.alloc (.cells #[.int .u8 165, .int .u8 90] 5)) = w1 at *
    refine reg_begin (Pure') (by kernel_rfl) ?_
    refine reg_take 0 (v := ?_) rfl (by kernel_rfl) (by kernel_rfl) (by kernel_rfl) (fun _ _ _ h => h) (by kernel_rfl) ?_ ?_
    rotate_left
    · (intro w' hS; go_simp; (try go_bits); (try with_reducible rfl))
    try simp only [Act.put, List.getElem_toArray, List.getElem_cons_zero, List.getElem_cons_succ, List.setIfInBounds_toArray, List.set_cons_zero, List.set_cons_succ]
    refine reg_take 1 (v := ?_) rfl (by kernel_rfl) (by kernel_rfl) (by kernel_rfl) (fun _ _ _ h => h) (by kernel_rfl) ?_ ?_
    rotate_left
    · (intro w' hS; go_simp; (try go_bits); (try with_reducible rfl))
    try simp only [Act.put, List.getElem_toArray, List.getElem_cons_zero, List.getElem_cons_succ, List.setIfInBounds_toArray, List.set_cons_zero, List.set_cons_succ]
    refine reg_take 2 (v := ?_) rfl (by kernel_rfl) (by kernel_rfl) (by kernel_rfl) (fun _ _ _ h => h) (by kernel_rfl) ?_ ?_
    rotate_left
    · (intro w' hS; go_simp; (try go_bits); (try with_reducible rfl))
    try simp only [Act.put, List.getElem_toArray, List.getElem_cons_zero, List.getElem_cons_succ, List.setIfInBounds_toArray, List.set_cons_zero, List.set_cons_succ]
    refine reg_take 3 (v := ?_) rfl (by kernel_rfl) (by kernel_rfl) (by kernel_rfl) (fun _ _ _ h => h) (by kernel_rfl) ?_ ?_
    rotate_left
    · (intro w' hS; go_simp; (try go_bits); (try with_reducible rfl))
    try simp only [Act.put, List.getElem_toArray, List.getElem_cons_zero, List.getElem_cons_succ, List.setIfInBounds_toArray, List.set_cons_zero, List.set_cons_succ]
    refine reg_take 4 (v := ?_) rfl (by kernel_rfl) (by kernel_rfl) (by kernel_rfl) (fun _ _ _ h => h) (by kernel_rfl) ?_ ?_
    rotate_left
    · (intro w' hS; go_simp; (try go_bits); (try with_reducible rfl))
    try simp only [Act.put, List.getElem_toArray, List.getElem_cons_zero, List.getElem_cons_succ, List.setIfInBounds_toArray, List.set_cons_zero, List.set_cons_succ]
    refine reg_take 5 (v := ?_) rfl (by kernel_rfl) (by kernel_rfl) (by kernel_rfl) (fun _ _ _ h => h) (by kernel_rfl) ?_ ?_
    rotate_left
    · (intro w' hS; go_simp; (try go_bits); (try with_reducible rfl))
    try simp only [Act.put, List.getElem_toArray, List.getElem_cons_zero, List.getElem_cons_succ, List.setIfInBounds_toArray, List.set_cons_zero, List.set_cons_succ]
    refine reg_do 6 rfl (by kernel_rfl) (by kernel_rfl) ?_
    intro K hK
    go_simp
    refine (eqb_any _ _ _ _ _ _ _ _ _ hp.drew hH.drew true hdec).mono ?_
    rintro e w2 ⟨rfl, rfl⟩
    go_simp
    refine hK _ _ (Chg.refl _ _) ?_
    clear hK K
    try simp only [Act.put, List.getElem_toArray, List.getElem_cons_zero, List.getElem_cons_succ, List.setIfInBounds_toArray, List.set_cons_zero, List.set_cons_succ]
    refine reg_take 7 (v := ?_) rfl (by kernel_rfl) (by kernel_rfl) (by kernel_rfl) (fun _ _ _ h => h) (by kernel_rfl) ?_ ?_
    rotate_left
    · (intro w' hS; go_simp; (try go_bits); (try with_reducible rfl))
    try simp only [Act.put, List.getElem_toArray, List.getElem_cons_zero, List.getElem_cons_succ, List.setIfInBounds_toArray, List.set_cons_zero, List.set_cons_succ]
    refine wpAnyH_done (by kernel_rfl) ?_ _
    have q2 : w1.drew.cell? ⟨b, off + 2, none⟩ = some (.int .u8 (y2.toNat : Int)) := q2
    have ca := ca.drew
    generalize w1.drew = w2 at *
    go_wp2_with (fail)
    go_loop [6, 34] (fun s i => ∃ k : Nat, i = .int .i64 k ∧ ((k = 0 ∧ s = .int .i64 0) ∨ (k = 1 ∧ s = .int .i64 ((y2.toNat : Int) * 256)))) (fun _ i => 1 - (intOf i).toNat)
    case atStart => exact ⟨0, rfl, .inl ⟨rfl, rfl⟩⟩
    case round =>
      obtain ⟨k, rfl, hk⟩ := hrel
      rcases hk with ⟨rfl, rfl⟩ | ⟨rfl, rfl⟩
      · go_wp2
        go_round
        case rel => exact ⟨1, by go_num, .inr ⟨rfl, by go_num⟩⟩
        case measure => simp [intOf]
      · clear q2
        by_cases hbig : 1200 < y2.toNat * 256
        · have u1 : (1200 : Int) < (y2.toNat : Int) * 256 := by omega
          go_wp2
          go_ret2
          refine ⟨ca, ?_⟩
          rw [HR.out, if_pos hbig]
          rfl
        · have u1 : (y2.toNat : Int) * 256 ≤ (1200 : Int) := by omega
          go_wp2
          go_ret2
          refine ⟨ca, ?_⟩
          rw [HR.out, if_neg hbig]
          rfl
/-- What stands at the beginning of some bytes. -/
theorem look_all (b off n c : Nat) (xs : List UInt8) (w : World) (hA : Bytes w (some ⟨b, off, none⟩) n xs) (hc : n ≤ c) (hn : n ≤ 140737488351232) (h1 : 1 ≤ n) :
    Calls Try.prog 28 #[.slice (some ⟨b, off, none⟩) n c] w (lookPost w xs) := by
  rcases (show n = 1 ∨ n = 2 ∨ n = 3 ∨ 4 ≤ n from by omega) with rfl | rfl | rfl | h4
  · exact look_1 b off c xs w hA hc
  · exact look_2 b off c xs w hA hc
  · exact look_3 b off c xs w hA hc
  · exact look_any b off n c xs w hA hc hn h4
end Go.Proofs.Ytemofjaonoofhaa
