/- Messages as values; what may be told. -/
import Derived.Test.YtnpkpfcljkekfaaKC
import Derived.Test.YtnpkpfcljkekfaaReg
namespace Go.Proofs.Ytnpkpfcljkekfaa
open Go Go.RowKit
set_option linter.unusedVariables false
set_option maxRecDepth 100000
set_option linter.unusedSimpArgs false

/-- A message's values: its load lies at A. -/
def Ms.cells (m : Ms) (A : Option Addr) (n c : Nat) : Array Value := #[.int .i64 m.kind, .int .u64 (m.token.toNat : Int), .int .i64 m.epoch, .int .i64 m.seq, .int .i64 m.ack, .int .u64 (m.bits.toNat : Int), .int .i64 m.credit, .int .i64 m.format, .slice A n c]
def Ms.val (m : Ms) (A : Option Addr) (n c : Nat) : Value := .agg (m.cells A n c)
/-- The numbers that a message may have, all of them ints. -/
structure Ms.Wf (m : Ms) : Prop where
  kind : -9223372036854775808 ≤ m.kind ∧ m.kind ≤ 9223372036854775807
  epoch : -9223372036854775808 ≤ m.epoch ∧ m.epoch ≤ 9223372036854775807
  seq : -9223372036854775808 ≤ m.seq ∧ m.seq ≤ 9223372036854775807
  ack : -9223372036854775808 ≤ m.ack ∧ m.ack ≤ 9223372036854775807
  credit : -9223372036854775808 ≤ m.credit ∧ m.credit ≤ 9223372036854775807
  format : -9223372036854775808 ≤ m.format ∧ m.format ≤ 9223372036854775807
set_option maxHeartbeats 4000000 in
theorem rmay_any (m : Ms) (A : Option Addr) (n c : Nat) (w : World) :
    Calls Try.prog 32 #[m.val A n c] w fun e w' => e = .returned (.bool m.may) ∧ Chg Pure' w w' := by
  unfold Ms.val Ms.cells
  by_cases h0 : 1 ≤ m.kind
  · by_cases h1 : m.kind ≤ 7
    · by_cases h2 : 0 ≤ m.epoch
      · by_cases h3 : m.epoch ≤ 4611686018427387904
        · by_cases h4 : 0 ≤ m.seq
          · by_cases h5 : m.seq ≤ 4611686018427387904
            · by_cases h6 : 0 ≤ m.ack
              · by_cases h7 : m.ack ≤ 4611686018427387904
                · by_cases h8 : 0 ≤ m.credit
                  · by_cases h9 : m.credit ≤ 4611686018427387904
                    · by_cases h10 : 0 ≤ m.format
                      · by_cases h11 : m.format ≤ 2
                        · have hr : m.may = true := by unfold Ms.may; simp only [Bool.and_eq_true, decide_eq_true_eq]; omega
                          go_enter Try.func32, Try.ntmps32
                          go_wp2
                          go_ret
                          exact ⟨ret_bool (by first | rfl | rw [hr] | (simp [hr]; done) | (simp [hr]; omega)), (Chg.refl _ w).alloc _⟩
                        · have hr : m.may = false := by
                            cases hm : m.may with
                            | false => rfl
                            | true =>
                              unfold Ms.may at hm
                              simp only [Bool.and_eq_true, decide_eq_true_eq] at hm
                              omega
                          go_enter Try.func32, Try.ntmps32
                          go_wp2
                          go_ret
                          exact ⟨ret_bool (by first | rfl | rw [hr] | (simp [hr]; done) | (simp [hr]; omega)), (Chg.refl _ w).alloc _⟩
                      · have hr : m.may = false := by
                          cases hm : m.may with
                          | false => rfl
                          | true =>
                            unfold Ms.may at hm
                            simp only [Bool.and_eq_true, decide_eq_true_eq] at hm
                            omega
                        go_enter Try.func32, Try.ntmps32
                        go_wp2
                        go_ret
                        exact ⟨ret_bool (by first | rfl | rw [hr] | (simp [hr]; done) | (simp [hr]; omega)), (Chg.refl _ w).alloc _⟩
                    · have hr : m.may = false := by
                        cases hm : m.may with
                        | false => rfl
                        | true =>
                          unfold Ms.may at hm
                          simp only [Bool.and_eq_true, decide_eq_true_eq] at hm
                          omega
                      go_enter Try.func32, Try.ntmps32
                      go_wp2
                      go_ret
                      exact ⟨ret_bool (by first | rfl | rw [hr] | (simp [hr]; done) | (simp [hr]; omega)), (Chg.refl _ w).alloc _⟩
                  · have hr : m.may = false := by
                      cases hm : m.may with
                      | false => rfl
                      | true =>
                        unfold Ms.may at hm
                        simp only [Bool.and_eq_true, decide_eq_true_eq] at hm
                        omega
                    go_enter Try.func32, Try.ntmps32
                    go_wp2
                    go_ret
                    exact ⟨ret_bool (by first | rfl | rw [hr] | (simp [hr]; done) | (simp [hr]; omega)), (Chg.refl _ w).alloc _⟩
                · have hr : m.may = false := by
                    cases hm : m.may with
                    | false => rfl
                    | true =>
                      unfold Ms.may at hm
                      simp only [Bool.and_eq_true, decide_eq_true_eq] at hm
                      omega
                  go_enter Try.func32, Try.ntmps32
                  go_wp2
                  go_ret
                  exact ⟨ret_bool (by first | rfl | rw [hr] | (simp [hr]; done) | (simp [hr]; omega)), (Chg.refl _ w).alloc _⟩
              · have hr : m.may = false := by
                  cases hm : m.may with
                  | false => rfl
                  | true =>
                    unfold Ms.may at hm
                    simp only [Bool.and_eq_true, decide_eq_true_eq] at hm
                    omega
                go_enter Try.func32, Try.ntmps32
                go_wp2
                go_ret
                exact ⟨ret_bool (by first | rfl | rw [hr] | (simp [hr]; done) | (simp [hr]; omega)), (Chg.refl _ w).alloc _⟩
            · have hr : m.may = false := by
                cases hm : m.may with
                | false => rfl
                | true =>
                  unfold Ms.may at hm
                  simp only [Bool.and_eq_true, decide_eq_true_eq] at hm
                  omega
              go_enter Try.func32, Try.ntmps32
              go_wp2
              go_ret
              exact ⟨ret_bool (by first | rfl | rw [hr] | (simp [hr]; done) | (simp [hr]; omega)), (Chg.refl _ w).alloc _⟩
          · have hr : m.may = false := by
              cases hm : m.may with
              | false => rfl
              | true =>
                unfold Ms.may at hm
                simp only [Bool.and_eq_true, decide_eq_true_eq] at hm
                omega
            go_enter Try.func32, Try.ntmps32
            go_wp2
            go_ret
            exact ⟨ret_bool (by first | rfl | rw [hr] | (simp [hr]; done) | (simp [hr]; omega)), (Chg.refl _ w).alloc _⟩
        · have hr : m.may = false := by
            cases hm : m.may with
            | false => rfl
            | true =>
              unfold Ms.may at hm
              simp only [Bool.and_eq_true, decide_eq_true_eq] at hm
              omega
          go_enter Try.func32, Try.ntmps32
          go_wp2
          go_ret
          exact ⟨ret_bool (by first | rfl | rw [hr] | (simp [hr]; done) | (simp [hr]; omega)), (Chg.refl _ w).alloc _⟩
      · have hr : m.may = false := by
          cases hm : m.may with
          | false => rfl
          | true =>
            unfold Ms.may at hm
            simp only [Bool.and_eq_true, decide_eq_true_eq] at hm
            omega
        go_enter Try.func32, Try.ntmps32
        go_wp2
        go_ret
        exact ⟨ret_bool (by first | rfl | rw [hr] | (simp [hr]; done) | (simp [hr]; omega)), (Chg.refl _ w).alloc _⟩
    · have hr : m.may = false := by
        cases hm : m.may with
        | false => rfl
        | true =>
          unfold Ms.may at hm
          simp only [Bool.and_eq_true, decide_eq_true_eq] at hm
          omega
      go_enter Try.func32, Try.ntmps32
      go_wp2
      go_ret
      exact ⟨ret_bool (by first | rfl | rw [hr] | (simp [hr]; done) | (simp [hr]; omega)), (Chg.refl _ w).alloc _⟩
  · have hr : m.may = false := by
      cases hm : m.may with
      | false => rfl
      | true =>
        unfold Ms.may at hm
        simp only [Bool.and_eq_true, decide_eq_true_eq] at hm
        omega
    go_enter Try.func32, Try.ntmps32
    go_wp2
    go_ret
    exact ⟨ret_bool (by first | rfl | rw [hr] | (simp [hr]; done) | (simp [hr]; omega)), (Chg.refl _ w).alloc _⟩
theorem chgDD {S : Nat → Prop} {a b : World} (h : Chg S a b) : Chg S a.drew b.drew := ⟨h.os, h.tape, h.output, h.size, h.block⟩
/-- Where a message's ints lie, and what they are. -/
def msOfs (k : Nat) : Nat := [0, 2, 3, 4, 6, 7].getD k 0
def Ms.int (m : Ms) (k : Nat) : Int := [m.kind, m.epoch, m.seq, m.ack, m.credit, m.format].getD k 0
theorem numbers_any (b : Nat) (w : World) :
    Calls Try.prog 66 #[.pointer (some ⟨b, 0, none⟩)] w fun e w' => e = .returned (.slice (some ⟨w.heap.size, 0, none⟩) 6 6) ∧ (∀ k, k < 6 → w'.cell? ⟨w.heap.size, k, none⟩ = some (.pointer (some ⟨b, msOfs k, none⟩))) ∧ Chg Pure' w w' := by
  have ca : Chg Pure' w.drew (w.drew.alloc (.cells #[.pointer (some ⟨b, 0, none⟩), .pointer (some ⟨b, 2, none⟩), .pointer (some ⟨b, 3, none⟩), .pointer (some ⟨b, 4, none⟩), .pointer (some ⟨b, 6, none⟩), .pointer (some ⟨b, 7, none⟩)] 114)) := (Chg.refl _ _).alloc _
  go_enter Try.func66, Try.ntmps66
  go_wp2_with (fail)
  refine reg_begin (Pure') (by kernel_rfl) ?_
  refine reg_take 0 (v := ?_) rfl (by kernel_rfl) (by kernel_rfl) (by kernel_rfl) (fun _ _ _ h => h) (by kernel_rfl) ?_ ?_
  rotate_left
  · (intro w' hS; go_simp; (try go_bits); (try with_reducible rfl))
  try simp only [Act.put, List.getElem_toArray, List.getElem_cons_zero, List.getElem_cons_succ, List.setIfInBounds_toArray, List.set_cons_zero, List.set_cons_succ]
  refine reg_take 1 (v := ?_) rfl (by kernel_rfl) (by kernel_rfl) (by kernel_rfl) (fun _ _ _ h => h) (by kernel_rfl) ?_ ?_
  rotate_left
  · (intro w' hS; go_simp; (try go_bits); (try with_reducible rfl))
  try simp only [Act.put, List.getElem_toArray, List.getElem_cons_zero, List.getElem_cons_succ, List.setIfInBounds_toArray, List.set_cons_zero, List.set_cons_succ]
  refine reg_take 2 (v := ?_) rfl (by kernel_rfl) (by kernel_rfl) (by kernel_rfl) (fun _ _ _ h => h) (by kernel_rfl) ?_ ?_
  rotate_left
  · (intro w' hS; go_simp; (try go_bits); (try with_reducible rfl))
  try simp only [Act.put, List.getElem_toArray, List.getElem_cons_zero, List.getElem_cons_succ, List.setIfInBounds_toArray, List.set_cons_zero, List.set_cons_succ]
  refine reg_take 3 (v := ?_) rfl (by kernel_rfl) (by kernel_rfl) (by kernel_rfl) (fun _ _ _ h => h) (by kernel_rfl) ?_ ?_
  rotate_left
  · (intro w' hS; go_simp; (try go_bits); (try with_reducible rfl))
  try simp only [Act.put, List.getElem_toArray, List.getElem_cons_zero, List.getElem_cons_succ, List.setIfInBounds_toArray, List.set_cons_zero, List.set_cons_succ]
  refine reg_take 4 (v := ?_) rfl (by kernel_rfl) (by kernel_rfl) (by kernel_rfl) (fun _ _ _ h => h) (by kernel_rfl) ?_ ?_
  rotate_left
  · (intro w' hS; go_simp; (try go_bits); (try with_reducible rfl))
  try simp only [Act.put, List.getElem_toArray, List.getElem_cons_zero, List.getElem_cons_succ, List.setIfInBounds_toArray, List.set_cons_zero, List.set_cons_succ]
  refine reg_take 5 (v := ?_) rfl (by kernel_rfl) (by kernel_rfl) (by kernel_rfl) (fun _ _ _ h => h) (by kernel_rfl) ?_ ?_
  rotate_left
  · (intro w' hS; go_simp; (try go_bits); (try with_reducible rfl))
  try simp only [Act.put, List.getElem_toArray, List.getElem_cons_zero, List.getElem_cons_succ, List.setIfInBounds_toArray, List.set_cons_zero, List.set_cons_succ]
  refine reg_take 6 (v := ?_) rfl (by kernel_rfl) (by kernel_rfl) (by kernel_rfl) (fun _ _ _ h => h) (by kernel_rfl) ?_ ?_
  rotate_left
  · (intro w' hS; go_simp; (try go_bits); (try with_reducible rfl))
  try simp only [Act.put, List.getElem_toArray, List.getElem_cons_zero, List.getElem_cons_succ, List.setIfInBounds_toArray, List.set_cons_zero, List.set_cons_succ]
  refine reg_take 7 (v := ?_) rfl (by kernel_rfl) (by kernel_rfl) (by kernel_rfl) (fun _ _ _ h => h) (by kernel_rfl) ?_ ?_
  rotate_left
  · (intro w' hS; go_simp; (try go_bits); (try with_reducible rfl))
  try simp only [Act.put, List.getElem_toArray, List.getElem_cons_zero, List.getElem_cons_succ, List.setIfInBounds_toArray, List.set_cons_zero, List.set_cons_succ]
  refine reg_take 8 (v := ?_) rfl (by kernel_rfl) (by kernel_rfl) (by kernel_rfl) (fun _ _ _ h => h) (by kernel_rfl) ?_ ?_
  rotate_left
  · (intro w' hS; go_simp; (try go_bits); (try with_reducible rfl))
  try simp only [Act.put, List.getElem_toArray, List.getElem_cons_zero, List.getElem_cons_succ, List.setIfInBounds_toArray, List.set_cons_zero, List.set_cons_succ]
  refine reg_take 9 (v := ?_) rfl (by kernel_rfl) (by kernel_rfl) (by kernel_rfl) (fun _ _ _ h => h) (by kernel_rfl) ?_ ?_
  rotate_left
  · (intro w' hS; go_simp; (try go_bits); (try with_reducible rfl))
  try simp only [Act.put, List.getElem_toArray, List.getElem_cons_zero, List.getElem_cons_succ, List.setIfInBounds_toArray, List.set_cons_zero, List.set_cons_succ]
  refine reg_take 10 (v := ?_) rfl (by kernel_rfl) (by kernel_rfl) (by kernel_rfl) (fun _ _ _ h => h) (by kernel_rfl) ?_ ?_
  rotate_left
  · (intro w' hS; go_simp; (try go_bits); (try with_reducible rfl))
  try simp only [Act.put, List.getElem_toArray, List.getElem_cons_zero, List.getElem_cons_succ, List.setIfInBounds_toArray, List.set_cons_zero, List.set_cons_succ]
  refine reg_take 11 (v := ?_) rfl (by kernel_rfl) (by kernel_rfl) (by kernel_rfl) (fun _ _ _ h => h) (by kernel_rfl) ?_ ?_
  rotate_left
  · (intro w' hS; go_simp; (try go_bits); (try with_reducible rfl))
  try simp only [Act.put, List.getElem_toArray, List.getElem_cons_zero, List.getElem_cons_succ, List.setIfInBounds_toArray, List.set_cons_zero, List.set_cons_succ]
  refine reg_take 12 (v := ?_) rfl (by kernel_rfl) (by kernel_rfl) (by kernel_rfl) (fun _ _ _ h => h) (by kernel_rfl) ?_ ?_
  rotate_left
  · (intro w' hS; go_simp; (try go_bits); (try with_reducible rfl))
  try simp only [Act.put, List.getElem_toArray, List.getElem_cons_zero, List.getElem_cons_succ, List.setIfInBounds_toArray, List.set_cons_zero, List.set_cons_succ]
  refine reg_take 13 (v := ?_) rfl (by kernel_rfl) (by kernel_rfl) (by kernel_rfl) (fun _ _ _ h => h) (by kernel_rfl) ?_ ?_
  rotate_left
  · (intro w' hS; go_simp; (try go_bits); (try with_reducible rfl))
  try simp only [Act.put, List.getElem_toArray, List.getElem_cons_zero, List.getElem_cons_succ, List.setIfInBounds_toArray, List.set_cons_zero, List.set_cons_succ]
  refine reg_take 14 (v := ?_) rfl (by kernel_rfl) (by kernel_rfl) (by kernel_rfl) (fun _ _ _ h => h) (by kernel_rfl) ?_ ?_
  rotate_left
  · (intro w' hS; go_simp; (try go_bits); (try with_reducible rfl))
  try simp only [Act.put, List.getElem_toArray, List.getElem_cons_zero, List.getElem_cons_succ, List.setIfInBounds_toArray, List.set_cons_zero, List.set_cons_succ]
  refine reg_take 15 (v := ?_) rfl (by kernel_rfl) (by kernel_rfl) (by kernel_rfl) (fun _ _ _ h => h) (by kernel_rfl) ?_ ?_
  rotate_left
  · (intro w' hS; go_simp; (try go_bits); (try with_reducible rfl))
  try simp only [Act.put, List.getElem_toArray, List.getElem_cons_zero, List.getElem_cons_succ, List.setIfInBounds_toArray, List.set_cons_zero, List.set_cons_succ]
  refine reg_take 16 (v := ?_) rfl (by kernel_rfl) (by kernel_rfl) (by kernel_rfl) (fun _ _ _ h => h) (by kernel_rfl) ?_ ?_
  rotate_left
  · (intro w' hS; go_simp; (try go_bits); (try with_reducible rfl))
  try simp only [Act.put, List.getElem_toArray, List.getElem_cons_zero, List.getElem_cons_succ, List.setIfInBounds_toArray, List.set_cons_zero, List.set_cons_succ]
  refine reg_take 17 (v := ?_) rfl (by kernel_rfl) (by kernel_rfl) (by kernel_rfl) (fun _ _ _ h => h) (by kernel_rfl) ?_ ?_
  rotate_left
  · (intro w' hS; go_simp; (try go_bits); (try with_reducible rfl))
  try simp only [Act.put, List.getElem_toArray, List.getElem_cons_zero, List.getElem_cons_succ, List.setIfInBounds_toArray, List.set_cons_zero, List.set_cons_succ]
  refine reg_do 18 rfl (by kernel_rfl) (by kernel_rfl) ?_
  intro K hK
  go_simp
  refine hK _ _ (chgDD ((Chg.refl _ w).alloc _)) ?_
  clear hK K
  try simp only [Act.put, List.getElem_toArray, List.getElem_cons_zero, List.getElem_cons_succ, List.setIfInBounds_toArray, List.set_cons_zero, List.set_cons_succ]
  refine reg_take 19 (v := ?_) rfl (by kernel_rfl) (by kernel_rfl) (by kernel_rfl) (fun _ _ _ h => h) (by kernel_rfl) ?_ ?_
  rotate_left
  · (intro w' hS; go_simp; (try go_bits); (try with_reducible rfl))
  try simp only [Act.put, List.getElem_toArray, List.getElem_cons_zero, List.getElem_cons_succ, List.setIfInBounds_toArray, List.set_cons_zero, List.set_cons_succ]
  refine wpAnyH_done (by kernel_rfl) ?_ _
  have lit := fun j => cellAt_alloc_lit w #[.pointer (some ⟨b, 0, none⟩), .pointer (some ⟨b, 2, none⟩), .pointer (some ⟨b, 3, none⟩), .pointer (some ⟨b, 4, none⟩), .pointer (some ⟨b, 6, none⟩), .pointer (some ⟨b, 7, none⟩)] 114 j
  have hl : ∀ k, k < 6 → (w.alloc (.cells #[.pointer (some ⟨b, 0, none⟩), .pointer (some ⟨b, 2, none⟩), .pointer (some ⟨b, 3, none⟩), .pointer (some ⟨b, 4, none⟩), .pointer (some ⟨b, 6, none⟩), .pointer (some ⟨b, 7, none⟩)] 114)).drew.cell? ⟨w.heap.size, k, none⟩ = some (.pointer (some ⟨b, msOfs k, none⟩)) := by
    intro k hk
    match k, hk with
    | 0, _ => exact lit 0
    | 1, _ => exact lit 1
    | 2, _ => exact lit 2
    | 3, _ => exact lit 3
    | 4, _ => exact lit 4
    | 5, _ => exact lit 5
  have HL := Lib.hid hl
  have c2 : Chg Pure' w (w.alloc (.cells #[.pointer (some ⟨b, 0, none⟩), .pointer (some ⟨b, 2, none⟩), .pointer (some ⟨b, 3, none⟩), .pointer (some ⟨b, 4, none⟩), .pointer (some ⟨b, 6, none⟩), .pointer (some ⟨b, 7, none⟩)] 114)).drew := ((Chg.refl _ w).alloc _).drew
  clear hl lit ca
  generalize (w.alloc (.cells #[.pointer (some ⟨b, 0, none⟩), .pointer (some ⟨b, 2, none⟩), .pointer (some ⟨b, 3, none⟩), .pointer (some ⟨b, 4, none⟩), .pointer (some ⟨b, 6, none⟩), .pointer (some ⟨b, 7, none⟩)] 114)).drew = w9 at *
  go_wp2
  go_ret
  exact ⟨rfl, HL.out, c2⟩
theorem Ms.may_iff (m : Ms) : m.may = true ↔ (∀ k, k < 6 → 0 ≤ m.int k ∧ m.int k ≤ 4611686018427387904) ∧ 1 ≤ m.kind ∧ m.kind ≤ 7 ∧ m.format ≤ 2 := by
  unfold Ms.may
  simp only [Bool.and_eq_true, decide_eq_true_eq]
  constructor
  · rintro ⟨⟨⟨⟨⟨h1, h2⟩, h3⟩, h4⟩, h5⟩, h6⟩
    refine ⟨fun k hk => ?_, h1.1, h1.2, h6.2⟩
    match k, hk with
    | 0, _ => show 0 ≤ m.kind ∧ m.kind ≤ _; omega
    | 1, _ => exact h2
    | 2, _ => exact h3
    | 3, _ => exact h4
    | 4, _ => exact h5
    | 5, _ => show 0 ≤ m.format ∧ m.format ≤ _; omega
  · rintro ⟨h, h1, h2, h3⟩
    have g5 : 0 ≤ m.format ∧ m.format ≤ _ := h 5 (by decide)
    exact ⟨⟨⟨⟨⟨⟨h1, h2⟩, h 1 (by decide)⟩, h 2 (by decide)⟩, h 3 (by decide)⟩, h 4 (by decide)⟩, g5.1, h3⟩
set_option maxHeartbeats 4000000 in
theorem lmay_any (m : Ms) (A : Option Addr) (n c : Nat) (w : World) :
    Calls Try.prog 28 #[m.val A n c] w fun e w' => e = .returned (.bool m.may) ∧ Chg Pure' w w' := by
  have lit := fun j => cellAt_alloc_lit w (m.cells A n c) 25 j
  have hl : ∀ k, k < 6 → (w.alloc (.cells (m.cells A n c) 25)).cell? ⟨w.heap.size, msOfs k, none⟩ = some (.int .i64 (m.int k)) := by
    intro k hk
    match k, hk with
    | 0, _ => exact lit 0
    | 1, _ => exact lit 2
    | 2, _ => exact lit 3
    | 3, _ => exact lit 4
    | 4, _ => exact lit 6
    | 5, _ => exact lit 7
  have hmi := m.may_iff
  have hmk : m.int 0 = m.kind := rfl
  have hmf : m.int 5 = m.format := rfl
  have ho0 : msOfs 0 = 0 := rfl
  have ho5 : msOfs 5 = 7 := rfl
  obtain ⟨f, hf⟩ : ∃ f : Nat → Int, m.int = f := ⟨_, rfl⟩
  obtain ⟨r, hr⟩ : ∃ r, m.may = r := ⟨_, rfl⟩
  obtain ⟨o, hof⟩ : ∃ o : Nat → Nat, msOfs = o := ⟨_, rfl⟩
  have HN := fun w1 => numbers_any w.heap.size w1
  rw [hr]
  rw [hf, ← hmk, ← hmf, hr] at hmi
  rw [hof] at ho0 ho5 HN
  rw [hf] at hmi
  have HL : Hid (∀ k, k < 6 → (w.alloc (.cells (m.cells A n c) 25)).cell? ⟨w.heap.size, o k, none⟩ = some (.int .i64 (f k))) := Lib.hid (by rw [← hof, ← hf]; exact hl)
  have HM := Lib.hid hmi
  have HNN := Lib.hid HN
  have ca : Chg Pure' w (w.alloc (.cells (m.cells A n c) 25)) := (Chg.refl _ w).alloc _
  unfold Ms.val
  clear lit hl hmk hmf hr hf hof hmi HN
  unfold Ms.cells at HL ca ⊢
  go_enter Try.func28, Try.ntmps28
  go_wp2_with (fail)
  generalize (w.alloc (.cells _ 25)) = w1 at *
  refine (HNN.out w1).mono ?_
  rintro e w2 ⟨rfl, hp, c2⟩
  have HP := Lib.hid hp
  have HL2 : Hid (∀ k, k < 6 → w2.cell? ⟨w.heap.size, o k, none⟩ = some (.int .i64 (f k))) := Lib.hid (fun k hk => c2.cell (HL.out k hk) (fun h => h))
  have C2 := ca.pure c2
  clear hp HNN HL c2 ca
  generalize w1.heap.size = pb at *
  generalize w.heap.size = mb at *
  go_wp2_with (fail)
  go_loopw [7] (fun i wr => ∃ k : Nat, k ≤ 6 ∧ i = .int .i64 k ∧ wr = w2 ∧ Hid (∀ j, j < k → 0 ≤ f j ∧ f j ≤ 4611686018427387904)) (fun i _ => 6 - (intOf i).toNat)
  case atStart => exact ⟨0, by omega, rfl, rfl, Lib.hid (fun j h => absurd h (by omega))⟩
  case round =>
    obtain ⟨k, hk, rfl, rfl, HJ⟩ := hrel
    by_cases hlt : k < 6
    · have i1 : (k : Int) < 6 := by omega
      have x1 := HP.out k hlt
      have x2 := HL2.out k hlt
      by_cases hneg : f k < 0
      · have hrf : r = false := by
          cases r with
          | false => rfl
          | true => have := ((HM.out.1 rfl).1 k hlt).1; omega
        subst hrf
        clear HM HJ
        go_wp2
        go_ret
        exact ⟨rfl, C2⟩
      · by_cases hbig : 4611686018427387904 < f k
        · have hrf : r = false := by
            cases r with
            | false => rfl
            | true => have := ((HM.out.1 rfl).1 k hlt).2; omega
          subst hrf
          clear HM HJ
          go_wp2
          go_ret
          exact ⟨rfl, C2⟩
        · have HJ2 : Hid (∀ j, j < k + 1 → 0 ≤ f j ∧ f j ≤ 4611686018427387904) := Lib.hid (fun j hj => by
            by_cases e : j = k
            · subst e; omega
            · exact HJ.out j (by omega))
          go_wp2
          go_roundw
          case rel => exact ⟨k + 1, by omega, by go_num, (by first | rfl | trivial), HJ2⟩
          case measure => simp [intOf]; omega
    · have hk6 : k = 6 := by omega
      subst hk6
      have x0 := HL2.out 0 (by omega)
      have x5 := HL2.out 5 (by omega)
      rw [ho0] at x0
      rw [ho5] at x5
      have HMM := HM.out
      by_cases h1 : 1 ≤ f 0
      · by_cases h2 : f 0 ≤ 7
        · by_cases h3 : f 5 ≤ 2
          · obtain rfl : r = true := HMM.2 ⟨HJ.out, h1, h2, h3⟩
            clear HMM HM
            go_wp2
            go_ret
            exact ⟨rfl, C2⟩
          · have hrf : r = false := by
              cases r with
              | false => rfl
              | true => exact absurd (HMM.1 rfl).2.2.2 h3
            subst hrf
            clear HMM HM
            go_wp2
            go_ret
            exact ⟨ret_bool (by simp [h3] <;> omega), C2⟩
        · have hrf : r = false := by
            cases r with
            | false => rfl
            | true => exact absurd (HMM.1 rfl).2.2.1 h2
          subst hrf
          clear HMM HM
          go_wp2
          go_ret
          exact ⟨ret_bool (by simp [h2] <;> omega), C2⟩
      · have hrf : r = false := by
          cases r with
          | false => rfl
          | true => exact absurd (HMM.1 rfl).2.1 h1
        subst hrf
        clear HMM HM
        go_wp2
        go_ret
        exact ⟨ret_bool (by simp [h1] <;> omega), C2⟩
end Go.Proofs.Ytnpkpfcljkekfaa
namespace Go.Proofs.Ytnpkpfcljkekfaa
open Go Go.RowKit
set_option linter.unusedVariables false
set_option maxRecDepth 100000
set_option linter.unusedSimpArgs false

/-- What Pack leaves. -/
def packPost (w : World) (m : Ms) (e : Ending) (w' : World) : Prop :=
  Chg Pure' w w' ∧ ((m.may = false ∧ e = .returned (.tuple #[.slice none 0 0, .int .i64 1])) ∨ (m.may = true ∧ 1200 < m.bytes.length ∧ e = .returned (.tuple #[.slice none 0 0, .int .i64 8])) ∨
    (m.may = true ∧ m.bytes.length ≤ 1200 ∧ ∃ v, e = .returned (.tuple #[v, .int .i64 0]) ∧ w'.ownsRow w.heap.size 5 1 v (m.bytes.length + 8) (enc (frameB m.bytes))))
/-- The eight numbers. -/
def Ms.u64s (m : Ms) : List UInt64 := [UInt64.ofNat m.kind.toNat, m.token, UInt64.ofNat m.epoch.toNat, UInt64.ofNat m.seq.toNat, UInt64.ofNat m.ack.toNat, m.bits, UInt64.ofNat m.credit.toNat, UInt64.ofNat m.format.toNat]
theorem toNat_small {a : Int} (h1 : a ≤ 4611686018427387904) : (UInt64.ofNat a.toNat).toNat = a.toNat := by
  rw [UInt64.toNat_ofNat']
  omega
theorem Ms.u64s_nums (m : Ms) (h : m.may = true) : m.u64s.map UInt64.toNat = m.nums := by
  obtain ⟨h1, h2, h3, h4⟩ := m.may_iff.1 h
  have g1 : m.epoch ≤ 4611686018427387904 := (h1 1 (by decide)).2
  have g2 : m.seq ≤ 4611686018427387904 := (h1 2 (by decide)).2
  have g3 : m.ack ≤ 4611686018427387904 := (h1 3 (by decide)).2
  have g4 : m.credit ≤ 4611686018427387904 := (h1 4 (by decide)).2
  unfold Ms.u64s Ms.nums
  simp only [List.map_cons, List.map_nil]
  rw [toNat_small (by omega), toNat_small g1, toNat_small g2, toNat_small g3, toNat_small g4, toNat_small (by omega)]
/-- The bytes of the first numbers. -/
def Ms.head (m : Ms) (k : Nat) : List UInt8 := shorts ((m.u64s.take k).map UInt64.toNat)
theorem Ms.head_zero (m : Ms) : m.head 0 = [] := rfl
theorem Ms.head_succ (m : Ms) (k : Nat) (hk : k < 8) : m.head (k + 1) = m.head k ++ shortB (m.u64s.getD k 0).toNat := by
  have hl : k < m.u64s.length := hk
  unfold Ms.head shorts
  rw [← List.take_append_getElem hl, List.map_append, List.map_append, List.flatten_append, List.getD_eq_getElem?_getD, List.getElem?_eq_getElem hl]
  simp
theorem Ms.head_len (m : Ms) : ∀ k, k ≤ 8 → (m.head k).length ≤ 10 * k
  | 0, _ => by rw [Ms.head_zero]; simp
  | k + 1, h => by
    rw [m.head_succ k (by omega), List.length_append]
    have := Ms.head_len m k (by omega)
    have := shortB_len (m.u64s.getD k 0).toNat_lt
    omega
theorem Ms.head_all (m : Ms) (h : m.may = true) : m.head 8 ++ m.load = m.bytes := by
  unfold Ms.head Ms.bytes
  rw [← m.u64s_nums h]
  rfl
theorem fenc_wide (A : Option Addr) (n c : Nat) (xs : List UInt8) (w : World) (hA : Bytes w A n xs) (hc : n ≤ c) (hn : n ≤ 140737488355328) :
    Calls Try.prog 30 #[.slice A n c] w fun e w' => Chg Pure' w w' ∧ ((1200 < n ∧ e = .returned (.tuple #[.slice none 0 0, .int .i64 8])) ∨ (n ≤ 1200 ∧ ∃ v, e = .returned (.tuple #[v, .int .i64 0]) ∧ w'.ownsRow w.heap.size 5 1 v (n + 8) (enc (frameB xs)))) := by
  by_cases hbig : 1200 < n
  · have h1 : (1200 : Int) < (n : Int) := by omega
    clear hA
    go_enter Try.func30, Try.ntmps30
    go_wp2
    go_ret2
    exact ⟨Chg.refl _ _, .inl ⟨hbig, rfl⟩⟩
  · exact fenc_any A n c xs w hA hc (by omega)
set_option maxHeartbeats 4000000 in
theorem lpack_any (m : Ms) (A : Option Addr) (c : Nat) (w : World) (hA : Bytes w A m.load.length m.load) (hc : m.load.length ≤ c) (hn : m.load.length ≤ 140737488351232) :
    Calls Try.prog 9 #[m.val A m.load.length c] w (packPost w m) := by
  have lit := fun j => cellAt_alloc_lit w (m.cells A m.load.length c) 25 j
  have ca : Chg Pure' w (w.alloc (.cells (m.cells A m.load.length c) 25)) := (Chg.refl _ w).alloc _
  have hlm := lmay_any m A m.load.length c (w.alloc (.cells (m.cells A m.load.length c) 25))
  cases hmay : m.may with
  | false =>
    rw [hmay] at hlm
    have HM := Lib.hid hlm
    have HMY := Lib.hid hmay
    clear lit hlm hmay
    unfold Ms.val Ms.cells at *
    go_enter Try.func9, Try.ntmps9
    go_wp2_with (fail)
    refine HM.out.mono ?_
    rintro e w1 ⟨rfl, c1⟩
    go_wp2
    go_ret2
    exact ⟨ca.pure c1, .inl ⟨HMY.out, rfl⟩⟩
  | true =>
    rw [hmay] at hlm
    have HM := Lib.hid hlm
    have HMY := Lib.hid hmay
    obtain ⟨h1, h2, h3, h4⟩ := m.may_iff.1 hmay
    have g0 : 0 ≤ m.kind ∧ m.kind ≤ 4611686018427387904 := h1 0 (by decide)
    have g1 : 0 ≤ m.epoch ∧ m.epoch ≤ 4611686018427387904 := h1 1 (by decide)
    have g2 : 0 ≤ m.seq ∧ m.seq ≤ 4611686018427387904 := h1 2 (by decide)
    have g3 : 0 ≤ m.ack ∧ m.ack ≤ 4611686018427387904 := h1 3 (by decide)
    have g4 : 0 ≤ m.credit ∧ m.credit ≤ 4611686018427387904 := h1 4 (by decide)
    have g5 : 0 ≤ m.format ∧ m.format ≤ 4611686018427387904 := h1 5 (by decide)
    have y0 := lit 0
    have y1 := lit 1
    have y2 := lit 2
    have y3 := lit 3
    have y4 := lit 4
    have y5 := lit 5
    have y6 := lit 6
    have y7 := lit 7
    have y8 := lit 8
    clear lit hlm hmay h1 h2 h3 h4
    unfold Ms.val Ms.cells at *
    go_enter Try.func9, Try.ntmps9
    go_wp2_with (fail)
    refine HM.out.mono ?_
    rintro e w1 ⟨rfl, c1⟩
    have x0 := c1.cell y0 (fun h => h)
    have x1 := c1.cell y1 (fun h => h)
    have x2 := c1.cell y2 (fun h => h)
    have x3 := c1.cell y3 (fun h => h)
    have x4 := c1.cell y4 (fun h => h)
    have x5 := c1.cell y5 (fun h => h)
    have x6 := c1.cell y6 (fun h => h)
    have x7 := c1.cell y7 (fun h => h)
    have x8 := c1.cell y8 (fun h => h)
    have C1 := ca.pure c1
    clear y0 y1 y2 y3 y4 y5 y6 y7 y8 c1 ca HM
    go_wp2_with (fail)
    have lit2 := fun j => cellAt_alloc_lit w1 #[.int .u64 m.kind, .int .u64 (m.token.toNat : Int), .int .u64 m.epoch, .int .u64 m.seq, .int .u64 m.ack, .int .u64 (m.bits.toNat : Int), .int .u64 m.credit, .int .u64 m.format] 22 j
    have HU : Hid (∀ k, k < 8 → (w1.alloc (.cells #[.int .u64 m.kind, .int .u64 (m.token.toNat : Int), .int .u64 m.epoch, .int .u64 m.seq, .int .u64 m.ack, .int .u64 (m.bits.toNat : Int), .int .u64 m.credit, .int .u64 m.format] 22)).cell? ⟨w1.heap.size, k, none⟩ = some (.int .u64 ((m.u64s.getD k 0).toNat : Int))) := Lib.hid (by
      intro k hk
      have e := fun (a : Int) (h1 : 0 ≤ a ∧ a ≤ 4611686018427387904) => show (((UInt64.ofNat a.toNat).toNat : Nat) : Int) = a by rw [toNat_small h1.2]; omega
      match k, hk with
      | 0, _ => refine (lit2 0).trans ?_; show some (Value.int .u64 m.kind) = some (.int .u64 ((UInt64.ofNat m.kind.toNat).toNat : Int)); rw [e _ g0]
      | 1, _ => exact lit2 1
      | 2, _ => refine (lit2 2).trans ?_; show some (Value.int .u64 m.epoch) = some (.int .u64 ((UInt64.ofNat m.epoch.toNat).toNat : Int)); rw [e _ g1]
      | 3, _ => refine (lit2 3).trans ?_; show some (Value.int .u64 m.seq) = some (.int .u64 ((UInt64.ofNat m.seq.toNat).toNat : Int)); rw [e _ g2]
      | 4, _ => refine (lit2 4).trans ?_; show some (Value.int .u64 m.ack) = some (.int .u64 ((UInt64.ofNat m.ack.toNat).toNat : Int)); rw [e _ g3]
      | 5, _ => exact lit2 5
      | 6, _ => refine (lit2 6).trans ?_; show some (Value.int .u64 m.credit) = some (.int .u64 ((UInt64.ofNat m.credit.toNat).toNat : Int)); rw [e _ g4]
      | 7, _ => refine (lit2 7).trans ?_; show some (Value.int .u64 m.format) = some (.int .u64 ((UInt64.ofNat m.format.toNat).toNat : Int)); rw [e _ g5])
    have ca2 : Chg Pure' w1 (w1.alloc (.cells #[.int .u64 m.kind, .int .u64 (m.token.toNat : Int), .int .u64 m.epoch, .int .u64 m.seq, .int .u64 m.ack, .int .u64 (m.bits.toNat : Int), .int .u64 m.credit, .int .u64 m.format] 22)) := (Chg.refl _ w1).alloc _
    have X8 := ca2.cell x8 (fun h => h)
    have C2 := C1.pure ca2
    clear lit2 x0 x1 x2 x3 x4 x5 x6 x7 x8 C1 ca2
    generalize (w1.alloc (.cells _ 22)) = w2 at *
    generalize w1.heap.size = nb at *
    generalize m.kind = z0 at g0 ⊢
    generalize m.epoch = z1 at g1 ⊢
    generalize m.seq = z2 at g2 ⊢
    generalize m.ack = z3 at g3 ⊢
    generalize m.credit = z4 at g4 ⊢
    generalize m.format = z5 at g5 ⊢
    go_loopw [4, 34] (fun v i wr => ∃ k : Nat, k ≤ 8 ∧ i = .int .i64 k ∧ Hid (wr.ownsRow w.heap.size 5 1 v (m.head k).length (enc (m.head k))) ∧ Hid (Chg Pure' w2 wr)) (fun _ i _ => 8 - (intOf i).toNat)
    case atStart => exact ⟨0, by omega, rfl, Lib.hid (World.ownsRow_nil _ _ _ _), Lib.hid (Chg.refl _ _)⟩
    case round =>
      obtain ⟨k, hk, rfl, HO, HC⟩ := hrel
      obtain ⟨B, q, rfl, hBq, hBb, -⟩ := Bytes.of_own HO.out
      have hhl := m.head_len k hk
      by_cases hlt : k < 8
      · have i1 : (k : Int) < 8 := by omega
        have xk := HC.out.cell (HU.out k hlt) (fun h => h)
        have HPS := Lib.hid (putshort_any B _ q _ (m.u64s.getD k 0) wr hBb hBq (by omega))
        have hsuc := m.head_succ k hlt
        have HSC := Lib.hid hsuc
        have hsz : w.heap.size ≤ wr.heap.size := by have := C2.size; have := HC.out.size; omega
        have HSZ := Lib.hid hsz
        clear hsuc hBb hsz HO
        generalize (m.head k).length = hl at *
        go_wp2_with (fail)
        refine HPS.out.mono ?_
        rintro e w3 ⟨v3, rfl, ho3, c3⟩
        have HO3 : Hid (w3.ownsRow w.heap.size 5 1 v3 (m.head (k + 1)).length (enc (m.head (k + 1)))) := Lib.hid (by
          have := ho3.low HSZ.out
          rw [← HSC.out] at this
          have hl2 := this.1
          rw [enc_length, Nat.mul_one] at hl2
          rwa [hl2])
        have HC3 := Lib.hid (HC.out.pure c3)
        clear ho3 c3 HPS HC
        go_wp2
        go_roundw
        case rel => exact ⟨k + 1, by omega, by go_num, HO3, HC3⟩
        case measure => simp [intOf]; omega
      · have hk8 : k = 8 := by omega
        subst hk8
        have x8 := HC.out.cell X8 (fun h => h)
        have CR := C2.pure HC.out
        have hBL := two_lists hBb (hA.pure CR) hBq hc rfl
        have hml : [m.head 8, m.load].flatten = m.bytes := by simp; exact m.head_all HMY.out
        have hcat := concat_any _ 2 2 _ _ hBL (by decide) (by simp; omega)
        rw [hml] at hcat
        have c4 : Chg Pure' wr (wr.alloc (.cells #[.slice B (m.head 8).length q, .slice A m.load.length c] 23)) := (Chg.refl _ _).alloc _
        have C4 := CR.pure c4
        have hbl : m.bytes.length ≤ 140737488355328 := by rw [← m.head_all HMY.out]; simp; omega
        have HCC := Lib.hid hcat
        clear hcat hBL hml HU X8 C2 HO HC
        generalize (m.head 8).length = hl at *
        go_wp2_with (fail)
        refine HCC.out.mono ?_
        rintro e w5 ⟨v5, rfl, ho5, c5⟩
        have C5 := C4.pure c5
        obtain ⟨A5, q5, rfl, hq5, hb5, -⟩ := Bytes.of_own ho5
        have HE := Lib.hid (fenc_wide A5 _ q5 _ w5 hb5 hq5 hbl)
        clear ho5 hb5 c5 C4 c4 CR HCC
        generalize hL : m.bytes.length = L at *
        go_wp2_with (fail)
        refine HE.out.mono ?_
        rintro e w6 ⟨c6, ⟨hbig, rfl⟩ | ⟨hsm, v6, rfl, ho6⟩⟩
        · have C6 := C5.pure c6
          clear HE
          go_wp2
          go_ret2
          exact ⟨C6, .inr (.inl ⟨HMY.out, by omega, rfl⟩)⟩
        · have C6 := C5.pure c6
          have hsz := C5.size
          have HO6 := Lib.hid (ho6.low hsz)
          clear HE ho6
          go_wp2
          go_ret2
          exact ⟨C6, .inr (.inr ⟨HMY.out, by omega, v6, rfl, by rw [hL]; exact HO6.out⟩)⟩
end Go.Proofs.Ytnpkpfcljkekfaa
namespace Go.Proofs.Ytnpkpfcljkekfaa
open Go Go.RowKit
set_option linter.unusedVariables false
set_option maxRecDepth 100000
set_option linter.unusedSimpArgs false

set_option maxHeartbeats 4000000 in
theorem rpack_any (m : Ms) (A : Option Addr) (c : Nat) (w : World) (hA : Bytes w A m.load.length m.load) (hc : m.load.length ≤ c) (hn : m.load.length ≤ 140737488351232) :
    Calls Try.prog 10 #[m.val A m.load.length c] w (packPost w m) := by
  have lit := fun j => cellAt_alloc_lit w (m.cells A m.load.length c) 25 j
  have ca : Chg Pure' w (w.alloc (.cells (m.cells A m.load.length c) 25)) := (Chg.refl _ w).alloc _
  have hlm := rmay_any m A m.load.length c (w.alloc (.cells (m.cells A m.load.length c) 25))
  cases hmay : m.may with
  | false =>
    rw [hmay] at hlm
    have HM := Lib.hid hlm
    have HMY := Lib.hid hmay
    clear lit hlm hmay
    unfold Ms.val Ms.cells at *
    go_enter Try.func10, Try.ntmps10
    go_wp2_with (fail)
    refine HM.out.mono ?_
    rintro e w1 ⟨rfl, c1⟩
    go_wp2
    go_ret2
    exact ⟨ca.pure c1, .inl ⟨HMY.out, rfl⟩⟩
  | true =>
    rw [hmay] at hlm
    have HM := Lib.hid hlm
    have HMY := Lib.hid hmay
    obtain ⟨h1, h2, h3, h4⟩ := m.may_iff.1 hmay
    have g0 : 0 ≤ m.kind ∧ m.kind ≤ 4611686018427387904 := h1 0 (by decide)
    have g1 : 0 ≤ m.epoch ∧ m.epoch ≤ 4611686018427387904 := h1 1 (by decide)
    have g2 : 0 ≤ m.seq ∧ m.seq ≤ 4611686018427387904 := h1 2 (by decide)
    have g3 : 0 ≤ m.ack ∧ m.ack ≤ 4611686018427387904 := h1 3 (by decide)
    have g4 : 0 ≤ m.credit ∧ m.credit ≤ 4611686018427387904 := h1 4 (by decide)
    have g5 : 0 ≤ m.format ∧ m.format ≤ 4611686018427387904 := h1 5 (by decide)
    have y0 := lit 0
    have y1 := lit 1
    have y2 := lit 2
    have y3 := lit 3
    have y4 := lit 4
    have y5 := lit 5
    have y6 := lit 6
    have y7 := lit 7
    have y8 := lit 8
    clear lit hlm hmay h1 h2 h3 h4
    unfold Ms.val Ms.cells at *
    go_enter Try.func10, Try.ntmps10
    go_wp2_with (fail)
    refine HM.out.mono ?_
    rintro e w1 ⟨rfl, c1⟩
    have x0 := c1.cell y0 (fun h => h)
    have x1 := c1.cell y1 (fun h => h)
    have x2 := c1.cell y2 (fun h => h)
    have x3 := c1.cell y3 (fun h => h)
    have x4 := c1.cell y4 (fun h => h)
    have x5 := c1.cell y5 (fun h => h)
    have x6 := c1.cell y6 (fun h => h)
    have x7 := c1.cell y7 (fun h => h)
    have x8 := c1.cell y8 (fun h => h)
    have C1 := ca.pure c1
    clear y0 y1 y2 y3 y4 y5 y6 y7 y8 c1 ca HM
    go_wp2_with (fail)
    have lit2 := fun j => cellAt_alloc_lit w1 #[.int .u64 m.kind, .int .u64 (m.token.toNat : Int), .int .u64 m.epoch, .int .u64 m.seq, .int .u64 m.ack, .int .u64 (m.bits.toNat : Int), .int .u64 m.credit, .int .u64 m.format] 22 j
    have HU : Hid (∀ k, k < 8 → (w1.alloc (.cells #[.int .u64 m.kind, .int .u64 (m.token.toNat : Int), .int .u64 m.epoch, .int .u64 m.seq, .int .u64 m.ack, .int .u64 (m.bits.toNat : Int), .int .u64 m.credit, .int .u64 m.format] 22)).cell? ⟨w1.heap.size, k, none⟩ = some (.int .u64 ((m.u64s.getD k 0).toNat : Int))) := Lib.hid (by
      intro k hk
      have e := fun (a : Int) (h1 : 0 ≤ a ∧ a ≤ 4611686018427387904) => show (((UInt64.ofNat a.toNat).toNat : Nat) : Int) = a by rw [toNat_small h1.2]; omega
      match k, hk with
      | 0, _ => refine (lit2 0).trans ?_; show some (Value.int .u64 m.kind) = some (.int .u64 ((UInt64.ofNat m.kind.toNat).toNat : Int)); rw [e _ g0]
      | 1, _ => exact lit2 1
      | 2, _ => refine (lit2 2).trans ?_; show some (Value.int .u64 m.epoch) = some (.int .u64 ((UInt64.ofNat m.epoch.toNat).toNat : Int)); rw [e _ g1]
      | 3, _ => refine (lit2 3).trans ?_; show some (Value.int .u64 m.seq) = some (.int .u64 ((UInt64.ofNat m.seq.toNat).toNat : Int)); rw [e _ g2]
      | 4, _ => refine (lit2 4).trans ?_; show some (Value.int .u64 m.ack) = some (.int .u64 ((UInt64.ofNat m.ack.toNat).toNat : Int)); rw [e _ g3]
      | 5, _ => exact lit2 5
      | 6, _ => refine (lit2 6).trans ?_; show some (Value.int .u64 m.credit) = some (.int .u64 ((UInt64.ofNat m.credit.toNat).toNat : Int)); rw [e _ g4]
      | 7, _ => refine (lit2 7).trans ?_; show some (Value.int .u64 m.format) = some (.int .u64 ((UInt64.ofNat m.format.toNat).toNat : Int)); rw [e _ g5])
    have ca2 : Chg Pure' w1 (w1.alloc (.cells #[.int .u64 m.kind, .int .u64 (m.token.toNat : Int), .int .u64 m.epoch, .int .u64 m.seq, .int .u64 m.ack, .int .u64 (m.bits.toNat : Int), .int .u64 m.credit, .int .u64 m.format] 22)) := (Chg.refl _ w1).alloc _
    have X8 := ca2.cell x8 (fun h => h)
    have C2 := C1.pure ca2
    clear lit2 x0 x1 x2 x3 x4 x5 x6 x7 x8 C1 ca2
    generalize (w1.alloc (.cells _ 22)) = w2 at *
    generalize w1.heap.size = nb at *
    generalize m.kind = z0 at g0 ⊢
    generalize m.epoch = z1 at g1 ⊢
    generalize m.seq = z2 at g2 ⊢
    generalize m.ack = z3 at g3 ⊢
    generalize m.credit = z4 at g4 ⊢
    generalize m.format = z5 at g5 ⊢
    go_loopw [5, 6] (fun v i wr => ∃ k : Nat, k ≤ 8 ∧ i = .int .i64 k ∧ Hid (wr.ownsRow w.heap.size 5 1 v (m.head k).length (enc (m.head k))) ∧ Hid (Chg Pure' w2 wr)) (fun _ i _ => 8 - (intOf i).toNat)
    case atStart => exact ⟨0, by omega, rfl, Lib.hid (World.ownsRow_nil _ _ _ _), Lib.hid (Chg.refl _ _)⟩
    case round =>
      obtain ⟨k, hk, rfl, HO, HC⟩ := hrel
      obtain ⟨B, q, rfl, hBq, hBb, -⟩ := Bytes.of_own HO.out
      have hhl := m.head_len k hk
      by_cases hlt : k < 8
      · have i1 : (k : Int) < 8 := by omega
        have xk := HC.out.cell (HU.out k hlt) (fun h => h)
        have HPS := Lib.hid (rputshort_any B _ q _ (m.u64s.getD k 0) wr hBb (by omega))
        have hsuc := m.head_succ k hlt
        have HSC := Lib.hid hsuc
        have hsz : w.heap.size ≤ wr.heap.size := by have := C2.size; have := HC.out.size; omega
        have HSZ := Lib.hid hsz
        clear hsuc hBb hsz HO
        generalize (m.head k).length = hl at *
        go_wp2_with (fail)
        refine HPS.out.mono ?_
        rintro e w3 ⟨v3, rfl, ho3, c3⟩
        have HO3 : Hid (w3.ownsRow w.heap.size 5 1 v3 (m.head (k + 1)).length (enc (m.head (k + 1)))) := Lib.hid (by
          have := ho3.low HSZ.out
          rw [← HSC.out] at this
          have hl2 := this.1
          rw [enc_length, Nat.mul_one] at hl2
          rwa [hl2])
        have HC3 := Lib.hid (HC.out.pure c3)
        clear ho3 c3 HPS HC
        go_wp2
        go_roundw
        case rel => exact ⟨k + 1, by omega, by go_num, HO3, HC3⟩
        case measure => simp [intOf]; omega
      · have hk8 : k = 8 := by omega
        subst hk8
        have x8 := HC.out.cell X8 (fun h => h)
        have CR := C2.pure HC.out
        have hml := m.head_all HMY.out
        have hmlen : m.bytes.length = (m.head 8).length + m.load.length := by rw [← hml]; simp
        by_cases hbigl : 1200 < m.load.length
        · have i2 : (1200 : Int) < (m.load.length : Int) := by omega
          clear HU X8 C2 HO HC
          generalize (m.head 8).length = hl at *
          go_wp2
          go_ret2
          exact ⟨CR, .inr (.inl ⟨HMY.out, by omega, rfl⟩)⟩
        · have i2 : ((1200 : Int) < (m.load.length : Int)) = False := eq_false (by omega)
          have hsz : w.heap.size ≤ wr.heap.size := CR.size
          obtain ⟨v4, w4, hr4, ho4, c4⟩ := own_cat8 (c := c) HO.out (hA.pure CR) hsz (by omega)
          rw [hml, ← hmlen] at ho4
          have c4 : Chg Pure' w w4 := CR.trans c4 (fun i hi e => by have := (HO.out.lt i e).1; omega)
          have C4 := Lib.hid c4
          have HO4 := Lib.hid ho4
          have HML := Lib.hid hmlen
          clear HU X8 C2 HO HC hml ho4 c4 hsz hBb CR hmlen
          generalize (m.head 8).length = hl at *
          go_wp2_with (at_builtin; refine Lib.wpList_append_run _ rfl _ _ _ _ rfl _ _ rfl rfl _ _ hr4 ?_; clear hr4)
          obtain ⟨A5, q5, rfl, hq5, hb5, -⟩ := Bytes.of_own HO4.out
          have HE := Lib.hid (rencode_any A5 _ q5 _ w4 hb5 hq5 (by have := HML.out; omega))
          clear hb5 HO4
          generalize hL : m.bytes.length = L at *
          go_wp2_with (fail)
          refine HE.out.mono ?_
          rintro e w6 ⟨c6, ⟨hbig, rfl⟩ | ⟨hsm, v6, rfl, ho6⟩⟩
          · have C6 := C4.out.pure c6
            clear HE
            go_wp2
            go_ret2
            exact ⟨C6, .inr (.inl ⟨HMY.out, by omega, rfl⟩)⟩
          · have C6 := C4.out.pure c6
            have hsz := C4.out.size
            have HO6 := Lib.hid (ho6.low hsz)
            obtain ⟨B6, q6, rfl, -⟩ := own_slice ho6
            clear HE ho6
            go_wp2
            go_ret2
            exact ⟨C6, .inr (.inr ⟨HMY.out, by omega, _, rfl, by rw [hL]; exact HO6.out⟩)⟩
end Go.Proofs.Ytnpkpfcljkekfaa
