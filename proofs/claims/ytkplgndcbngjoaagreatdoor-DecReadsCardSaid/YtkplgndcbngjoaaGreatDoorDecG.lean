/- The probe of chapter 06's laws; the laws of the program alone: DecBack, DecSame, DecGoes. -/
import Derived.Test.YtkplgndcbngjoaaGreatDoorDecS
import Derived.Test.YtkplgndcbngjoaaGreatDoorDecF
namespace Go.Proofs.YtkplgndcbngjoaaGreatDoor
open Go Go.RowKit
set_option linter.unusedVariables false
set_option maxRecDepth 100000
set_option linter.unusedSimpArgs false

theorem parse_probe (w : World) (he : Env w) : Calls Tryz.prog 6 #[.string ⟨#[45, 49, 46, 53, 48, 101, 51]⟩] w fun e w' =>
    e = .returned (.tuple #[.agg #[.bool true, .string ⟨#[49, 53]⟩, .int .i64 2], .agg #[.int .i64 0, .int .i64 0]]) ∧ Chg Pure' w w' := by
  refine (parse_of [45, 49, 46, 53, 48, 101, 51] w (by decide) he).mono ?_
  rintro e w' ⟨rfl, hc⟩
  exact ⟨by rw [probe_parse]; rfl, hc⟩
theorem text_probe (w : World) (he : Env w) : Calls Tryz.prog 15 #[.agg #[.bool true, .string ⟨#[49, 53]⟩, .int .i64 2]] w fun e w' =>
    e = .returned (.string ⟨#[45, 49, 53, 101, 50]⟩) ∧ Chg Pure' w w' := by
  refine (text_of one5 w (by decide) he).mono ?_
  rintro e w' ⟨rfl, hc⟩
  exact ⟨by rw [probe_text], hc⟩
theorem right_probe (w : World) : Calls Tryz.prog 13 #[.agg #[.bool true, .string ⟨#[49, 53]⟩, .int .i64 2]] w fun e w' =>
    e = .returned (.bool true) ∧ Chg Pure' w w' := by
  refine (decRight_of one5 w (by decide)).mono ?_
  rintro e w' ⟨rfl, hc⟩
  exact ⟨by rw [probe_right], hc⟩
set_option maxHeartbeats 2000000 in
theorem alive06 (w : World) (he : Env w) : Calls Tryz.prog 8 #[] w fun e w' => e = .returned (.bool true) ∧ Chg Pure' w w' := by
  go_enter Tryz.func8, Tryz.ntmps8
  go_wp2_with (first
    | (go_at_call 6; refine (parse_probe _ he).mono ?_; rintro e w1 ⟨rfl, z1⟩)
    | (go_at_call 15; refine (text_probe _ (he.pure (z1.trans' (((Chg.refl Pure' w1).alloc _).alloc _)))).mono ?_; rintro e w2 ⟨rfl, z2⟩
       obtain ⟨k1, k2⟩ := two_cells z2; obtain ⟨c0, c1, c2, -⟩ := blk_cells k1; clear k1 k2)
    | (go_at_call 13; refine (right_probe _).mono ?_; rintro e w3 ⟨rfl, z3⟩))
  go_ret
  exact ⟨rfl, ((z1.trans' (((Chg.refl Pure' w1).alloc _).alloc _)).trans' z2).trans' z3⟩
theorem same_law : ∀ (a b : Num), ((orderA a b).2 ≠ 0 → a.right = true → b.right = true → False) ∧ ((orderA a b).2 = 0 → ((orderA a b).1 = 0 ↔ (a.neg = b.neg ∧ a.dig = b.dig ∧ a.exp = b.exp))) := by
  intro a b
  constructor
  · intro h ha hb; exact h (orderA_ok.2 ⟨ha, hb⟩)
  · intro h
    obtain ⟨ha, hb⟩ := orderA_ok.1 h
    rw [orderA_one ha hb]
    simp only
    rw [ordB_zero ha hb]
    obtain ⟨_, _, _⟩ := a
    obtain ⟨_, _, _⟩ := b
    simp
end Go.Proofs.YtkplgndcbngjoaaGreatDoor
