/- The law DecMakes. -/
import Derived.Test.YtkplgndcbngjoaaDoorDecG
import Derived.Test.YtkplgndcbngjoaaDoorDecK
namespace Go.Proofs.YtkplgndcbngjoaaDoor
open Go Go.RowKit
set_option linter.unusedVariables false
set_option maxRecDepth 100000
set_option linter.unusedSimpArgs false

set_option maxHeartbeats 2000000 in
theorem law_DecMakes (neg : Bool) (l : List UInt8) (x : Int) (w : World) (hl : l.length ≤ 9223372036854775807) (hx : -9223372036854775808 ≤ x ∧ x ≤ 9223372036854775807) (he : Env w) :
    Calls Tryd.prog 3 #[.bool neg, .string ⟨l.toArray⟩, .int .i64 x] w fun e w' => e = .returned (.bool true) ∧ Chg Pure' w w' := by
  have hM := decMake_of neg l x
  have hR := rmake_of neg l x
  rw [makeR_eq] at hR
  generalize makeA neg l x = P at *
  obtain ⟨⟨pn, pd, px⟩, pe⟩ := P
  have HM := Lib.hid hM
  have HR := Lib.hid hR
  clear hM hR
  dsimp only [Num.val] at HM HR
  have tk := Tryd.underlying3
  go_enter Tryd.func3, Tryd.ntmps3
  go_wp2_with (first
    | (go_at_call 7; refine (HM.out _ hl hx).mono ?_; rintro e w1 ⟨rfl, z1⟩)
    | (go_at_call 8; refine (HR.out _ hl hx).mono ?_; rintro e w2 ⟨rfl, z2⟩
       obtain ⟨n0, n1, n2⟩ := num_cells z2
       have N0 : ∀ o, (w2.alloc o).cell? ⟨w1.heap.size, 0, none⟩ = some (.bool pn) := fun o => ((Chg.refl Pure' w2).alloc o).cell n0 (fun h => h)
       have N1 : ∀ o, (w2.alloc o).cell? ⟨w1.heap.size, 1, none⟩ = some (.string ⟨pd.toArray⟩) := fun o => ((Chg.refl Pure' w2).alloc o).cell n1 (fun h => h)
       have N2 : ∀ o, (w2.alloc o).cell? ⟨w1.heap.size, 2, none⟩ = some (.int .i64 px) := fun o => ((Chg.refl Pure' w2).alloc o).cell n2 (fun h => h)
       clear n0 n1 n2)
    | (go_at_call 9; refine (alive06 _ (he.pure (((z1.alloc _).trans' z2).alloc _))).mono ?_; rintro e w3 ⟨rfl, z3⟩))
  go_ret
  exact ⟨rfl, (((z1.alloc _).trans' z2).alloc _).trans' z3⟩
end Go.Proofs.YtkplgndcbngjoaaDoor
