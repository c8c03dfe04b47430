/- The law DecOrders; gantlineref05.FromWord; gantlineref06: Text, Whole; the law DecTells. -/
import Derived.Test.YtkplgndcbngjoaaGreatDoorDecG
import Derived.Test.YtkplgndcbngjoaaGreatDoorDecM
namespace Go.Proofs.YtkplgndcbngjoaaGreatDoor
open Go Go.RowKit
set_option linter.unusedVariables false
set_option maxRecDepth 100000
set_option linter.unusedSimpArgs false

set_option maxHeartbeats 2000000 in
theorem law_DecOrders (a b : Num) (w : World) (hla : a.dig.length ≤ 9223372036854775807) (hlb : b.dig.length ≤ 9223372036854775807) (he : Env w) :
    Calls Tryz.prog 4 #[a.val, b.val] w fun e w' => e = .returned (.bool true) ∧ Chg Pure' w w' := by
  have hO := order_of a b
  have hR := rorder_of a b
  rw [orderR_eq] at hR
  generalize orderA a b = P at *
  obtain ⟨x, y⟩ := P
  have HO := Lib.hid hO
  have HR := Lib.hid hR
  clear hO hR
  obtain ⟨an, al, ax⟩ := a
  obtain ⟨bn, bl, bx⟩ := b
  dsimp only [Num.val] at HO HR ⊢
  have y0 : Chg Pure' w ((w.alloc (.cells #[.bool an, .string ⟨al.toArray⟩, .int .i64 ax] 23)).alloc (.cells #[.bool bn, .string ⟨bl.toArray⟩, .int .i64 bx] 23)) := (Chg.alloc (Chg.refl _ _) _).alloc _
  go_enter Tryz.func4, Tryz.ntmps4
  go_wp2_with (first
    | (go_at_call 9; refine (HO.out _ hla hlb).mono ?_; rintro e w1 ⟨rfl, z1⟩
       obtain ⟨k1, k2⟩ := two_cells z1; obtain ⟨a0, a1, a2, -⟩ := blk_cells k1; obtain ⟨b0, b1, b2, -⟩ := blk_cells k2; clear k1 k2)
    | (go_at_call 10; refine (HR.out _ hla hlb).mono ?_; rintro e w2 ⟨rfl, z2⟩)
    | (go_at_call 8; refine (alive06 _ (he.pure (y0.trans' (z1.trans' z2)))).mono ?_; rintro e w3 ⟨rfl, z3⟩))
  go_ret
  exact ⟨rfl, (y0.trans' (z1.trans' z2)).trans' z3⟩
end Go.Proofs.YtkplgndcbngjoaaGreatDoor
