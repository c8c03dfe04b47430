/- The probe of chapter 06's laws; the laws of the program alone: DecBack, DecSame, DecGoes. -/
import Derived.Test.YtkplgndcbngjoaaDoorDecS
import Derived.Test.YtkplgndcbngjoaaDoorDecF
namespace Go.Proofs.YtkplgndcbngjoaaDoor
open Go Go.RowKit
set_option linter.unusedVariables false
set_option maxRecDepth 100000
set_option linter.unusedSimpArgs false

theorem parse_probe (w : World) (he : Env w) : Calls Tryd.prog 10 #[.string ⟨#[45, 49, 46, 53, 48, 101, 51]⟩] w fun e w' =>
    e = .returned (.tuple #[.agg #[.bool true, .string ⟨#[49, 53]⟩, .int .i64 2], .agg #[.int .i64 0, .int .i64 0]]) ∧ Chg Pure' w w' := by
  refine (parse_of [45, 49, 46, 53, 48, 101, 51] w (by decide) he).mono ?_
  rintro e w' ⟨rfl, hc⟩
  exact ⟨by rw [probe_parse]; rfl, hc⟩
theorem text_probe (w : World) (he : Env w) : Calls Tryd.prog 11 #[.agg #[.bool true, .string ⟨#[49, 53]⟩, .int .i64 2]] w fun e w' =>
    e = .returned (.string ⟨#[45, 49, 53, 101, 50]⟩) ∧ Chg Pure' w w' := by
  refine (text_of one5 w (by decide) he).mono ?_
  rintro e w' ⟨rfl, hc⟩
  exact ⟨by rw [probe_text], hc⟩
theorem right_probe (w : World) : Calls Tryd.prog 12 #[.agg #[.bool true, .string ⟨#[49, 53]⟩, .int .i64 2]] w fun e w' =>
    e = .returned (.bool true) ∧ Chg Pure' w w' := by
  refine (decRight_of one5 w (by decide)).mono ?_
  rintro e w' ⟨rfl, hc⟩
  exact ⟨by rw [probe_right], hc⟩
set_option maxHeartbeats 2000000 in
theorem alive06 (w : World) (he : Env w) : Calls Tryd.prog 9 #[] w fun e w' => e = .returned (.bool true) ∧ Chg Pure' w w' := by
  go_enter Tryd.func9, Tryd.ntmps9
  go_wp2_with (first
    | (go_at_call 10; refine (parse_probe _ he).mono ?_; rintro e w1 ⟨rfl, z1⟩)
    | (go_at_call 11; refine (text_probe _ (he.pure (z1.trans' (((Chg.refl Pure' w1).alloc _).alloc _)))).mono ?_; rintro e w2 ⟨rfl, z2⟩
       obtain ⟨k1, k2⟩ := two_cells z2; obtain ⟨c0, c1, c2, -⟩ := blk_cells k1; clear k1 k2)
    | (go_at_call 12; refine (right_probe _).mono ?_; rintro e w3 ⟨rfl, z3⟩))
  go_ret
  exact ⟨rfl, ((z1.trans' (((Chg.refl Pure' w1).alloc _).alloc _)).trans' z2).trans' z3⟩
theorem same_law : ∀ (a b : Num), ((orderA a b).2 ≠ 0 → a.right = true → b.right = true → False) ∧ ((orderA a b).2 = 0 → ((orderA a b).1 = 0 ↔ (a.neg = b.neg ∧ a.dig = b.dig ∧ a.exp = b.exp))) := by
  intro a b
  constructor
  · intro h ha hb; exact h (orderA_ok.2 ⟨ha, hb⟩)
  · intro h
    obtain ⟨ha, hb⟩ := orderA_ok.1 h
    rw [orderA_one ha hb]
    simp only
    rw [ordB_zero ha hb]
    obtain ⟨_, _, _⟩ := a
    obtain ⟨_, _, _⟩ := b
    simp
set_option maxHeartbeats 2000000 in
theorem law_DecSame (a b : Num) (w : World) (hla : a.dig.length ≤ 9223372036854775807) (hlb : b.dig.length ≤ 9223372036854775807) (he : Env w) :
    Calls Tryd.prog 5 #[a.val, b.val] w fun e w' => e = .returned (.bool true) ∧ Chg Pure' w w' := by
  obtain ⟨x, hx⟩ : ∃ x, x = (orderA a b).1 := ⟨_, rfl⟩
  obtain ⟨y, hy⟩ : ∃ y, y = (orderA a b).2 := ⟨_, rfl⟩
  have hO := order_of a b
  rw [← hx, ← hy] at hO
  have HX := Lib.hid hx
  have HY := Lib.hid hy
  have hsame := same_law a b
  rw [← hx, ← hy] at hsame
  clear hx hy
  have HO := Lib.hid hO
  clear hO
  obtain ⟨an, al, ax⟩ := a
  obtain ⟨bn, bl, bx⟩ := b
  dsimp only [Num.val] at HO ⊢
  have HS := Lib.hid hsame
  clear hsame
  go_enter Tryd.func5, Tryd.ntmps5
  have y0 : Chg Pure' w ((w.alloc (.cells #[.bool an, .string ⟨al.toArray⟩, .int .i64 ax] 23)).alloc (.cells #[.bool bn, .string ⟨bl.toArray⟩, .int .i64 bx] 23)) := (Chg.alloc (Chg.refl _ _) _).alloc _
  have tk := Tryd.underlying3
  go_wp2_with (first
    | (go_at_call 13; refine (HO.out _ hla hlb).mono ?_; rintro e w1 ⟨rfl, z1⟩
       obtain ⟨k1, k2⟩ := two_cells z1; obtain ⟨a0, a1, a2, -⟩ := blk_cells k1; obtain ⟨b0, b1, b2, -⟩ := blk_cells k2; clear k1 k2)
    | (go_at_call 12; first
        | (clear tk; refine (decRight_any _ _ _ _ hla).mono ?_; rintro e w2 ⟨rfl, z2⟩
           obtain ⟨k1, k2⟩ := two_cells (z1.trans' z2); clear a0 a1 a2 b0 b1 b2; obtain ⟨b0, b1, b2, -⟩ := blk_cells k2; clear k1 k2)
        | (refine (decRight_any _ _ _ _ hlb).mono ?_; rintro e w3 ⟨rfl, z3⟩))
    | (go_at_call 9; refine (alive06 _ (he.pure (by first | exact y0.trans' z1 | exact y0.trans' (z1.trans' z2) | exact y0.trans' ((z1.trans' z2).trans' z3)))).mono ?_; rintro e w4 ⟨rfl, z4⟩))
  all_goals first
    | (go_ret
       exact ⟨rfl, by first | exact y0.trans' z1 | exact (y0.trans' z1).trans' z4 | exact (y0.trans' ((z1.trans' z2).trans' z3)).trans' z4 | exact (y0.trans' (z1.trans' z2)).trans' z4⟩)
    | (exfalso
       have hs := HS.out
       clear HO HX HY he y0
       simp_all
       done)
    | (go_ret
       refine ⟨?_, (y0.trans' z1).trans' z4⟩
       have hx0 := (by assumption : ¬ x = 0)
       change Ending.returned (.bool (!(x == 0))) = _
       simp [hx0])
end Go.Proofs.YtkplgndcbngjoaaDoor
