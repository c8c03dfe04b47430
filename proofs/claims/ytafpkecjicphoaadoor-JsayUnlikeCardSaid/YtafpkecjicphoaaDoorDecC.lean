/- dec: isDigit, step, exponent, b2i. -/
import Derived.Test.YtafpkecjicphoaaDoorDecA
namespace Go.Proofs.YtafpkecjicphoaaDoor
open Go Go.RowKit
set_option linter.unusedVariables false
set_option maxRecDepth 100000
set_option linter.unusedSimpArgs false

theorem isDig_t (c : UInt8) : isDig c = true ↔ 48 ≤ c.toNat ∧ c.toNat ≤ 57 := by simp [isDig]
theorem isDig_f (c : UInt8) : isDig c = false ↔ ¬ (48 ≤ c.toNat ∧ c.toNat ≤ 57) := by rw [← Bool.not_eq_true, isDig_t]
theorem e45 (c : UInt8) : c = 45 ↔ (c.toNat : Int) = 45 := (u8_eq c 45 (by decide)).symm
theorem e48 (c : UInt8) : c = 48 ↔ (c.toNat : Int) = 48 := (u8_eq c 48 (by decide)).symm
theorem e46 (c : UInt8) : c = 46 ↔ (c.toNat : Int) = 46 := (u8_eq c 46 (by decide)).symm
theorem e101 (c : UInt8) : c = 101 ↔ (c.toNat : Int) = 101 := (u8_eq c 101 (by decide)).symm
theorem e69 (c : UInt8) : c = 69 ↔ (c.toNat : Int) = 69 := (u8_eq c 69 (by decide)).symm
theorem e43 (c : UInt8) : c = 43 ↔ (c.toNat : Int) = 43 := (u8_eq c 43 (by decide)).symm
end Go.Proofs.YtafpkecjicphoaaDoor
