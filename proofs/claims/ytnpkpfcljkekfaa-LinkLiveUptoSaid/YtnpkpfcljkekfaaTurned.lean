/- Four bytes of a list turned, in plain Lean. -/
import Derived.Test.YtnpkpfcljkekfaaBurst
namespace Go.Proofs.Ytnpkpfcljkekfaa
open Go Go.RowKit
set_option linter.unusedVariables false
set_option linter.unusedSimpArgs false
set_option maxRecDepth 100000

/-- A byte of four. -/
def byteK (b : UInt32) (k : Nat) : UInt8 := UInt8.ofNat (b.toNat / 2 ^ (8 * k) % 256)
/-- The first k of four bytes from a on are turned. -/
def xorAt (xs : List UInt8) (a : Nat) (b : UInt32) : Nat → List UInt8
  | 0 => xs
  | k + 1 => (xorAt xs a b k).set (a + k) ((xorAt xs a b k).getD (a + k) 0 ^^^ byteK b k)
theorem xorAt_length (xs : List UInt8) (a : Nat) (b : UInt32) : ∀ k, (xorAt xs a b k).length = xs.length
  | 0 => rfl
  | k + 1 => by simp [xorAt, xorAt_length xs a b k]
/-- Where the turn begins. -/
def turnAt (n : Nat) (at_ : Int) : Nat := ((at_.tmod ((n - 3 : Nat) : Int) + ((n - 3 : Nat) : Int)).tmod ((n - 3 : Nat) : Int)).toNat
def turnB (xs : List UInt8) (at_ : Int) (b : UInt32) : List UInt8 := xorAt xs (turnAt xs.length at_) b 4
theorem turnAt_lt (n : Nat) (at_ : Int) (h : 4 ≤ n) : turnAt n at_ + 4 ≤ n := by
  unfold turnAt
  have h1 := Int.tmod_nonneg (a := at_.tmod ((n - 3 : Nat) : Int) + ((n - 3 : Nat) : Int)) ((n - 3 : Nat) : Int) (by have := Int.lt_tmod_of_pos at_ (b := ((n - 3 : Nat) : Int)) (by omega); omega)
  have h2 := Int.tmod_lt_of_pos (at_.tmod ((n - 3 : Nat) : Int) + ((n - 3 : Nat) : Int)) (b := ((n - 3 : Nat) : Int)) (by omega)
  omega
theorem xorAt_get (xs : List UInt8) (a : Nat) (b : UInt32) : ∀ k, a + k ≤ xs.length → ∀ j, (xorAt xs a b k)[j]? = if a ≤ j ∧ j < a + k then (xs[j]?).map (· ^^^ byteK b (j - a)) else xs[j]?
  | 0, _, j => by rw [if_neg (by omega)]; rfl
  | k + 1, hk, j => by
    have ih := xorAt_get xs a b k (by omega)
    rw [xorAt, List.getElem?_set]
    by_cases hj : a + k = j
    · rw [if_pos hj, if_pos (by rw [xorAt_length]; omega), if_pos (by omega), ← hj, List.getD_eq_getElem?_getD, ih, if_neg (by omega), List.getElem?_eq_getElem (by omega)]
      show some _ = some _
      rw [show a + k - a = k from by omega]
      rfl
    · rw [if_neg hj, ih]
      by_cases hc : a ≤ j ∧ j < a + k
      · rw [if_pos hc, if_pos (by omega)]
      · rw [if_neg hc, if_neg (by omega)]
theorem turnB_len (xs : List UInt8) (at_ : Int) (b : UInt32) : (turnB xs at_ b).length = xs.length := xorAt_length _ _ _ _
theorem turnB_take (xs : List UInt8) (at_ : Int) (b : UInt32) (h : 4 ≤ xs.length) : (turnB xs at_ b).take (turnAt xs.length at_) = xs.take (turnAt xs.length at_) := by
  have hl := turnAt_lt xs.length at_ h
  apply List.ext_getElem?
  intro j
  rw [List.getElem?_take, List.getElem?_take]
  split
  · unfold turnB
    rw [xorAt_get _ _ _ 4 hl, if_neg (by omega)]
  · rfl
theorem turnB_drop (xs : List UInt8) (at_ : Int) (b : UInt32) (h : 4 ≤ xs.length) : (turnB xs at_ b).drop (turnAt xs.length at_ + 4) = xs.drop (turnAt xs.length at_ + 4) := by
  have hl := turnAt_lt xs.length at_ h
  apply List.ext_getElem?
  intro j
  rw [List.getElem?_drop, List.getElem?_drop]
  unfold turnB
  rw [xorAt_get _ _ _ 4 hl, if_neg (by omega)]
theorem byteK_zero (b : UInt32) (h : ∀ k, k < 4 → byteK b k = 0) : b = 0 := by
  have key : ∀ k, k < 4 → b.toNat / 2 ^ (8 * k) % 256 = 0 := by
    intro k hk
    have := congrArg UInt8.toNat (h k hk)
    unfold byteK at this
    rw [UInt8.toNat_ofNat'] at this
    have h0 : (0 : UInt8).toNat = 0 := rfl
    omega
  have k0 := key 0 (by decide)
  have k1 := key 1 (by decide)
  have k2 := key 2 (by decide)
  have k3 := key 3 (by decide)
  have hb := b.toNat_lt
  apply UInt32.toNat_inj.1
  have h0 : (0 : UInt32).toNat = 0 := rfl
  simp only [Nat.mul_zero, Nat.pow_zero, Nat.div_one, Nat.mul_one] at k0 k1
  omega
theorem turnB_ne (xs : List UInt8) (at_ : Int) (b : UInt32) (h : 4 ≤ xs.length) (hb : b ≠ 0) : turnB xs at_ b ≠ xs := by
  have hl := turnAt_lt xs.length at_ h
  intro he
  apply hb
  apply byteK_zero
  intro k hk
  have h1 := congrArg (fun l : List UInt8 => l[turnAt xs.length at_ + k]?) he
  unfold turnB at h1
  try simp only at h1
  rw [xorAt_get _ _ _ 4 hl, if_pos (by omega), List.getElem?_eq_getElem (by omega), show turnAt xs.length at_ + k - turnAt xs.length at_ = k from by omega] at h1
  simp only [Option.map_some, Option.some.injEq] at h1
  generalize xs[turnAt xs.length at_ + k] = x at h1
  have h2 := congrArg (x ^^^ ·) h1
  simp only [← UInt8.xor_assoc, UInt8.xor_self, UInt8.zero_xor] at h2
  exact h2
theorem turnB_zero (xs : List UInt8) (at_ : Int) (h : 4 ≤ xs.length) : turnB xs at_ 0 = xs := by
  have hl := turnAt_lt xs.length at_ h
  apply List.ext_getElem?
  intro j
  unfold turnB
  rw [xorAt_get _ _ _ 4 hl]
  split
  · cases hx : xs[j]? with
    | none => rfl
    | some x =>
      have e : byteK 0 (j - turnAt xs.length at_) = 0 := by
        unfold byteK
        rw [show (0 : UInt32).toNat = 0 from rfl, Nat.zero_div]
        rfl
      simp [e]
  · rfl
/-- A frame that is turned tells nothing. -/
theorem turned_none2 (l : List UInt8) (at_ : Int) (b : UInt32) (hb : b ≠ 0) : ∃ k, unpackB (turnB (frameB l) at_ b) = .error k ∧ k ≠ 0 := by
  have hl : (frameB l).length = l.length + 8 := frameB_len l
  have h4 : 4 ≤ (frameB l).length := by omega
  have hp := turnAt_lt (frameB l).length at_ h4
  exact burst_none l _ (by rw [turnB_len, hl]) (turnAt (frameB l).length at_) (turnB_take _ _ _ h4) (turnB_drop _ _ _ h4) (by omega) (turnB_ne _ _ _ h4 hb)
end Go.Proofs.Ytnpkpfcljkekfaa
