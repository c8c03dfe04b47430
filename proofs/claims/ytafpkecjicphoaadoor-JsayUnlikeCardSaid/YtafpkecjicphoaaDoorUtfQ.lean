/- Plainly: a character that is read of bytes is written as these bytes. -/
import Derived.Test.YtafpkecjicphoaaDoorUtfP
import Derived.Lib.RuneBytes
namespace Go.Proofs.YtafpkecjicphoaaDoor
open Go Go.RowKit
set_option linter.unusedVariables false
set_option linter.unusedSimpArgs false

theorem toU8 {x : Int} {b : UInt8} (h : x = (b.toNat : Int)) : x.toNat.toUInt8 = b := by
  subst h
  simp [Nat.toUInt8]
/-- A character that stands there: its bytes, and that it is the same with anything behind. -/
theorem utf_char (c : UInt8) (l : List UInt8) (h : decL (c :: l) ≠ (65533, 1)) :
    Lib.encodeRune ((decL (c :: l)).1 : Int) = (c :: l).take (decL (c :: l)).2 ∧ ∀ rest, decL ((c :: l).take (decL (c :: l)).2 ++ rest) = decL (c :: l) := by
  have hc := c.toNat_lt
  by_cases c1 : c.toNat < 128
  · rw [dec_one c l c1]
    refine ⟨?_, fun rest => ?_⟩
    · unfold Lib.encodeRune
      rw [Lib.encodeRuneZ_one (by simp only; omega) (by simp only; omega)]
      simp only [List.map_cons, List.map_nil, List.take_succ_cons, List.take_zero]
      rw [toU8 rfl]
    · exact dec_one c _ c1
  by_cases c2 : c.toNat < 194 ∨ 244 < c.toNat
  · exact absurd (dec_bad c l (by omega) c2) h
  by_cases c3 : c.toNat < 224
  · have e := dec_two c l (by omega) c3
    match l, e, h with
    | [], e, h => exact absurd e h
    | b1 :: t, e, h =>
      by_cases g : 128 ≤ b1.toNat ∧ b1.toNat ≤ 191
      · simp only [if_pos g] at e
        rw [e]
        refine ⟨?_, fun rest => ?_⟩
        · unfold Lib.encodeRune
          rw [Lib.encodeRuneZ_two (by simp only; omega) (by simp only; omega)]
          simp only [List.map_cons, List.map_nil, List.take_succ_cons, List.take_zero]
          rw [toU8 (b := c) (by omega), toU8 (b := b1) (by omega)]
        · show decL (c :: b1 :: rest) = _
          rw [dec_two c _ (by omega) c3]
          simp only [if_pos g]
      · simp only [if_neg g] at e
        exact absurd e h
  by_cases c4 : c.toNat < 240
  · have e := dec_three c l (by omega) c4
    match l, e, h with
    | [], e, h => exact absurd e h
    | [b1], e, h => exact absurd e h
    | b1 :: b2 :: t, e, h =>
      by_cases g : (128 ≤ b1.toNat ∧ b1.toNat ≤ 191) ∧ (128 ≤ b2.toNat ∧ b2.toNat ≤ 191) ∧ 2048 ≤ c.toNat % 16 * 4096 + b1.toNat % 64 * 64 + b2.toNat % 64 ∧ ¬ (c.toNat = 237 ∧ 160 ≤ b1.toNat)
      · simp only [if_pos g] at e
        rw [e]
        refine ⟨?_, fun rest => ?_⟩
        · unfold Lib.encodeRune
          rw [Lib.encodeRuneZ_three (by simp only; omega)]
          simp only [List.map_cons, List.map_nil, List.take_succ_cons, List.take_zero]
          rw [toU8 (b := c) (by omega), toU8 (b := b1) (by omega), toU8 (b := b2) (by omega)]
        · show decL (c :: b1 :: b2 :: rest) = _
          rw [dec_three c _ (by omega) c4]
          simp only [if_pos g]
      · simp only [if_neg g] at e
        exact absurd e h
  · have e := dec_four c l (by omega) (by omega)
    match l, e, h with
    | [], e, h => exact absurd e h
    | [b1], e, h => exact absurd e h
    | [b1, b2], e, h => exact absurd e h
    | b1 :: b2 :: b3 :: t, e, h =>
      by_cases g : (128 ≤ b1.toNat ∧ b1.toNat ≤ 191) ∧ (128 ≤ b2.toNat ∧ b2.toNat ≤ 191) ∧ (128 ≤ b3.toNat ∧ b3.toNat ≤ 191) ∧ ¬ (c.toNat = 240 ∧ b1.toNat < 144) ∧ ¬ (c.toNat = 244 ∧ 144 ≤ b1.toNat)
      · simp only [if_pos g] at e
        rw [e]
        refine ⟨?_, fun rest => ?_⟩
        · unfold Lib.encodeRune
          rw [Lib.encodeRuneZ_four (by simp only; omega) (by simp only; omega)]
          simp only [List.map_cons, List.map_nil, List.take_succ_cons, List.take_zero]
          rw [toU8 (b := c) (by omega), toU8 (b := b1) (by omega), toU8 (b := b2) (by omega), toU8 (b := b3) (by omega)]
        · show decL (c :: b1 :: b2 :: b3 :: rest) = _
          rw [dec_four c _ (by omega) (by omega)]
          simp only [if_pos g]
      · simp only [if_neg g] at e
        exact absurd e h
end Go.Proofs.YtafpkecjicphoaaDoor
