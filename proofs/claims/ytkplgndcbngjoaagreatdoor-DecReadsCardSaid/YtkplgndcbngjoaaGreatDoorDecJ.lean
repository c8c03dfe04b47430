/- gantlineref06: Right, digit, Make. -/
import Derived.Test.YtkplgndcbngjoaaGreatDoorDecI
namespace Go.Proofs.YtkplgndcbngjoaaGreatDoor
open Go Go.RowKit
set_option linter.unusedVariables false
set_option maxRecDepth 100000
set_option linter.unusedSimpArgs false

theorem last_at {l : List UInt8} (h0 : 0 < l.length) (h : l.length - 1 < (⟨l.toArray⟩ : ByteArray).size) : ((((⟨l.toArray⟩ : ByteArray)[l.length - 1]'h).toNat : Nat) : Int) = 48 ↔ l.getLast? = some 48 := by
  have e : (⟨l.toArray⟩ : ByteArray)[l.length - 1]'h = l[l.length - 1] := rfl
  rw [e]
  refine (u8_eq _ 48 (by decide)).trans ?_
  rw [List.getLast?_eq_getElem?, List.getElem?_eq_getElem (by omega)]
  simp
theorem last_bne {l : List UInt8} (h0 : 0 < l.length) (h : l.length - 1 < (⟨l.toArray⟩ : ByteArray).size) : ((((⟨l.toArray⟩ : ByteArray)[l.length - 1]'h).toNat : Int) != 48) = !(l.getLast? == some 48) := by
  have := last_at h0 h
  rw [Bool.eq_iff_iff]
  simp [this]
set_option maxHeartbeats 2000000 in
theorem rright06_of (neg : Bool) (l : List UInt8) (x : Int) (w : World) (hl : l.length ≤ 9223372036854775807) :
    Calls Tryz.prog 14 #[.agg #[.bool neg, .string ⟨l.toArray⟩, .int .i64 x]] w fun e w' => e = .returned (.bool (Num.right ⟨neg, l, x⟩)) ∧ Chg Pure' w w' := by
  obtain ⟨R, hR⟩ : ∃ R, R = Num.right ⟨neg, l, x⟩ := ⟨_, rfl⟩
  rw [← hR]
  have HR := Lib.hid hR
  clear hR
  obtain ⟨r, hr⟩ : ∃ r, r = natR l := ⟨_, rfl⟩
  have hpos : r = true → 0 < l.length := fun h => List.length_pos_iff.2 (natR_pos (by rw [← hr]; exact h))
  have HH := Lib.hid hr
  clear hr
  cases r with
  | false =>
    go_enter Tryz.func14, Tryz.ntmps14
    go_wp2_with (first
      | (go_at_call 38; refine (rright05_of l _ hl).mono ?_; rintro e w1 ⟨rfl, rfl⟩; rw [← HH.out]))
    go_ret
    exact ⟨by rw [HR.out, Num.right, ← HH.out]; rfl, Chg.alloc (Chg.refl _ _) _⟩
  | true =>
    have h0 := hpos rfl
    go_enter Tryz.func14, Tryz.ntmps14
    go_wp2_with (first
      | (go_at_call 38; refine (rright05_of l _ hl).mono ?_; rintro e w1 ⟨rfl, rfl⟩; rw [← HH.out]))
    all_goals go_ret
    all_goals refine ⟨?_, Chg.alloc (Chg.refl _ _) _⟩
    all_goals go_simp
    all_goals rw [HR.out, Num.right, ← HH.out]
    all_goals clear HR HH
    all_goals (try simp only [last_at h0] at *)
    all_goals simp_all
    all_goals (try simp only [last_bne hpos])
    all_goals (try (rw [Bool.eq_iff_iff]; simp; done))
    all_goals (try (intros; omega))
end Go.Proofs.YtkplgndcbngjoaaGreatDoor
