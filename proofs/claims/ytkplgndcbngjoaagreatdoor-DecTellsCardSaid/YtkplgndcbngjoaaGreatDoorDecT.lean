/- gantlineref05.FromWord; gantlineref06: Text, Whole; the law DecTells. -/
import Derived.Test.YtkplgndcbngjoaaGreatDoorDecG
import Derived.Test.YtkplgndcbngjoaaGreatDoorDecM
import Derived.Test.YtkplgndcbngjoaaGreatDoorDecS
namespace Go.Proofs.YtkplgndcbngjoaaGreatDoor
open Go Go.RowKit
set_option linter.unusedVariables false
set_option maxRecDepth 100000
set_option linter.unusedSimpArgs false

theorem decDigits_step (u : Nat) (h : 10 ≤ u) (l : List UInt8) : Lib.decDigits u ++ l = Lib.decDigits (u / 10) ++ (UInt8.ofNat (48 + u % 10) :: l) := by
  rw [Lib.decDigits, dif_neg (by omega), List.append_assoc]; rfl
theorem one_cat (d : UInt8) (l : List UInt8) : (⟨[d].toArray⟩ : ByteArray) ++ ⟨l.toArray⟩ = ⟨(d :: l).toArray⟩ := by rw [cat_str]; rfl
def boolN : Value → Nat
  | .bool true => 1
  | _ => 0
/-- What is still to come: the digits of m, those of l behind them. -/
def restD (b : Bool) (m : Nat) (l : List UInt8) : List UInt8 := if b = false ∧ m = 0 then l else Lib.decDigits m ++ l
theorem restD_step {b : Bool} {m : Nat} {l : List UInt8} (h : ¬ (b = false ∧ m = 0)) : restD b m l = restD false (m / 10) (UInt8.ofNat (48 + m % 10) :: l) := by
  unfold restD
  rw [if_neg h]
  by_cases hm : m < 10
  · rw [Lib.decDigits_one hm, if_pos ⟨rfl, by omega⟩, Nat.mod_eq_of_lt hm]; rfl
  · rw [if_neg (by rintro ⟨-, h⟩; omega), decDigits_step m (by omega)]
set_option maxHeartbeats 2000000 in
theorem fromWord_of (u : Nat) (w : World) (hu : u ≤ 1000000) :
    Calls Tryz.prog 40 #[.int .u64 (u : Int)] w fun e w' => e = .returned (.string ⟨(Lib.decDigits u).toArray⟩) ∧ Chg Pure' w w' := by
  obtain ⟨R, hR⟩ : ∃ R, R = Lib.decDigits u := ⟨_, rfl⟩
  rw [← hR]
  have HR := Lib.hid hR
  clear hR
  go_enter Tryz.func40, Tryz.ntmps40
  go_wp2
  go_loopw [0, 3, 4] (fun nv s f wr => ∃ (m : Nat) (l : List UInt8) (b : Bool), m ≤ 1000000 ∧ nv = .int .u64 (m : Int) ∧ s = .string ⟨l.toArray⟩ ∧ f = .bool b ∧ l.length + m ≤ 1000001 ∧ (b = true → l = []) ∧ Hid (R = restD b m l) ∧ Chg Pure' w wr) (fun nv _ f _ => (intOf nv).toNat + boolN f)
  case atStart => exact ⟨u, [], true, hu, rfl, rfl, rfl, by simp; omega, fun _ => rfl, Lib.hid (by rw [HR.out]; simp [restD]), Chg.refl _ _⟩
  case round =>
    obtain ⟨m, l, b, hm, rfl, rfl, rfl, hlm, hb, HL, hc⟩ := hrel
    by_cases hx : b = false ∧ m = 0
    · obtain ⟨rfl, rfl⟩ := hx
      go_wp2
      go_ret
      exact ⟨by rw [HL.out]; rfl, hc⟩
    · have hx2 : b = true ∨ 0 < m := by cases b <;> simp_all <;> omega
      have HS := Lib.hid (restD_step (l := l) hx)
      have hm10 : m % 10 < 10 := Nat.mod_lt _ (by decide)
      have hdt := dig_of hm10
      have HS := HS.out
      generalize UInt8.ofNat (48 + m % 10) = d at HS hdt
      have HS := Lib.hid HS
      have hstr : (convert 77 9 (.slice (some ⟨wr.heap.size, 0, none⟩) 1 1)).run Tryz.prog (wr.alloc (.cells #[.int .u8 (48 + (m : Int) % 10)] 5)) = .ok (.string ⟨[d].toArray⟩) (wr.alloc (.cells #[.int .u8 (48 + (m : Int) % 10)] 5)) :=
        (Bytes.alloc_lit wr #[.int .u8 (48 + (m : Int) % 10)] 5 [d] (by
          simp only [enc, List.map_cons, List.map_nil, hdt]
          simp) 1 rfl).run_string 77 9 5 Tryz.underlying77 Tryz.underlying5 Tryz.underlying9 1
      clear hdt
      cases b
      · have hm0 : 0 < m := by simpa using hx2
        go_wp2
        refine ⟨⟨m / 10, d :: l, false, by omega, ?_, ?_, rfl, by simp only [List.length_cons]; omega, by simp, Lib.hid (by rw [HL.out, HS.out]), hc.alloc _⟩, ?_⟩
        · simp
        · exact congrArg Value.string (one_cat _ l)
        · simp only [intOf, boolN]; omega
      · have hl0 := hb rfl
        subst hl0
        go_wp2
        refine ⟨⟨m / 10, [d], false, by omega, ?_, ?_, rfl, by simp only [List.length_cons, List.length_nil]; omega, by simp, Lib.hid (by rw [HL.out, HS.out]), hc.alloc _⟩, ?_⟩
        · simp
        · exact congrArg Value.string (one_cat _ [])
        · simp only [intOf, boolN]; omega
end Go.Proofs.YtkplgndcbngjoaaGreatDoor
