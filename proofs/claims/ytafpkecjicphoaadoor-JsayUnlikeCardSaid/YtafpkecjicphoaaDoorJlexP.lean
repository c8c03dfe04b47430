/- jlex.Escape, plainly: a text between quotes, with escapes. -/
import Derived.Test.YtafpkecjicphoaaDoorUtfP
import Derived.Lib.RuneBytes
import Derived.Lib.Bytealg
namespace Go.Proofs.YtafpkecjicphoaaDoor
open Go Go.RowKit
set_option linter.unusedVariables false
set_option linter.unusedSimpArgs false

def hexD (n : Nat) : UInt8 := [48, 49, 50, 51, 52, 53, 54, 55, 56, 57, 97, 98, 99, 100, 101, 102].getD n 0
/-- What follows a backslash; 0: nothing. -/
def shortE (r : Nat) : UInt8 := if r = 34 then 34 else if r = 92 then 92 else if r = 8 then 98 else if r = 9 then 116 else if r = 10 then 110 else if r = 12 then 102 else if r = 13 then 114 else 0
/-- A character, as it is told. -/
def esc1 (r : Nat) : List UInt8 :=
  if shortE r ≠ 0 then [92, shortE r]
  else if r < 32 then [92, 117, 48, 48, hexD (r / 16), hexD (r % 16)]
  else Lib.encodeRune r
def escR : Nat → List UInt8 → List UInt8
  | 0, _ => []
  | _ + 1, [] => []
  | f + 1, c :: l => esc1 (decL (c :: l)).1 ++ escR f ((c :: l).drop (decL (c :: l)).2)
/-- A text between quotes. -/
def escT (l : List UInt8) : List UInt8 := if utfOk l then 34 :: (escR l.length l ++ [34]) else []
def escFrom : List UInt8 := [34, 92, 8, 9, 10, 12, 13]
def escTo : List UInt8 := [34, 92, 98, 116, 110, 102, 114]
theorem esc_index (r : Nat) (h : r < 128) : (shortE r ≠ 0 ↔ 0 ≤ Lib.indexByte escFrom (UInt8.ofNat r)) ∧ Lib.indexByte escFrom (UInt8.ofNat r) < 7 ∧ (shortE r ≠ 0 → escTo.getD (Lib.indexByte escFrom (UInt8.ofNat r)).toNat 0 = shortE r) := by
  have : ∀ n : Fin 128, (shortE n.val ≠ 0 ↔ 0 ≤ Lib.indexByte escFrom (UInt8.ofNat n.val)) ∧ Lib.indexByte escFrom (UInt8.ofNat n.val) < 7 ∧ (shortE n.val ≠ 0 → escTo.getD (Lib.indexByte escFrom (UInt8.ofNat n.val)).toNat 0 = shortE n.val) := by decide +kernel
  exact this ⟨r, h⟩
theorem shortE_low {r : Nat} (h : 128 ≤ r) : shortE r = 0 := by
  unfold shortE
  repeat rw [if_neg (by omega)]
end Go.Proofs.YtafpkecjicphoaaDoor
