/- gantlineref06: exponent. -/
import Derived.Test.YtkplgndcbngjoaaGreatDoorDecW
namespace Go.Proofs.YtkplgndcbngjoaaGreatDoor
open Go Go.RowKit
set_option linter.unusedVariables false
set_option maxRecDepth 100000
set_option linter.unusedSimpArgs false

set_option maxHeartbeats 1000000 in
theorem rexp_of (l : List UInt8) (w : World) (hl : l.length ≤ 4096) (hd : l.all isDig = true) :
    Calls Tryz.prog 26 #[.string ⟨l.toArray⟩] w fun e w' => e = .returned (.int .i64 (satD 0 l)) ∧ w = w' := by
  have HD := Lib.hid hd
  clear hd
  go_enter Tryz.func26, Tryz.ntmps26
  go_wp2
  go_loop [3, 4] (fun n i => ∃ (j : Nat) (v : Int), j ≤ l.length ∧ n = .int .i64 v ∧ i = .int .i64 j ∧ 0 ≤ v ∧ v ≤ 1000000 ∧ Hid (satD v (l.drop j) = satD 0 l)) (fun _ i => l.length - (intOf i).toNat)
  case atStart => exact ⟨0, 0, Nat.zero_le _, rfl, rfl, by omega, by omega, Lib.hid rfl⟩
  case round =>
    obtain ⟨j, v, hj, rfl, rfl, hv0, hv1, HV⟩ := hrel
    rcases Nat.lt_or_ge j l.length with hlt | hge
    · have hg : ∀ h, (⟨l.toArray⟩ : ByteArray)[j]'h = l[j] := fun h => rfl
      have hdj : 48 ≤ l[j].toNat ∧ l[j].toNat ≤ 57 := (isDig_t _).1 (List.all_eq_true.1 HD.out _ (List.getElem_mem _))
      have hs := HV.out
      rw [List.drop_eq_getElem_cons hlt, satD] at hs
      have HS := Lib.hid hs
      clear hs
      go_wp2
      exact ⟨⟨j + 1, _, hlt, rfl, rfl, by omega, by omega, HS⟩, by simp only [intOf]; omega⟩
    · obtain rfl : j = l.length := by omega
      have hs := HV.out
      rw [List.drop_length] at hs
      have hs2 : v = satD 0 l := hs
      have HS := Lib.hid hs2
      clear hs hs2
      go_wp2
      go_ret
      exact ⟨by rw [← HS.out]; rfl, rfl⟩
end Go.Proofs.YtkplgndcbngjoaaGreatDoor
