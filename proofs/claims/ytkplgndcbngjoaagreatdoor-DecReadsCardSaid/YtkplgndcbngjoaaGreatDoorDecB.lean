/- dec: Make. -/
import Derived.Test.YtkplgndcbngjoaaGreatDoorDecA
namespace Go.Proofs.YtkplgndcbngjoaaGreatDoor
open Go Go.RowKit
set_option linter.unusedVariables false
set_option maxRecDepth 100000
set_option linter.unusedSimpArgs false

/-- The end of a function whose first result is a number in a cell. -/
theorem num_end {w w' : World} {R r : Num × Int} (h : r = R) (hc : Chg Pure' w w') : (fun e w' => e = Ending.returned (.tuple #[R.1.val, .int .i64 R.2]) ∧ Chg Pure' w w') (Ending.returned (.tuple #[.agg #[.bool r.1.neg, .string ⟨r.1.dig.toArray⟩, .int .i64 r.1.exp], .int .i64 r.2])) w' := ⟨by rw [h]; rfl, hc⟩

set_option maxHeartbeats 4000000 in
theorem decMake_of (neg : Bool) (l : List UInt8) (x : Int) (w : World) (hl : l.length ≤ 9223372036854775807) (hx : -9223372036854775808 ≤ x ∧ x ≤ 9223372036854775807) :
    Calls Tryz.prog 21 #[.bool neg, .string ⟨l.toArray⟩, .int .i64 x] w fun e w' => e = .returned (.tuple #[(makeA neg l x).1.val, .int .i64 (makeA neg l x).2]) ∧ Chg Pure' w w' := by
  have hs : (⟨l.toArray⟩ : ByteArray).size ≤ 9223372036854775807 := by simpa [ByteArray.size] using hl
  have hT : (Lib.trimS l tenDigits).isEmpty = l.all isDig := by
    rw [Bool.eq_iff_iff, List.isEmpty_iff]; exact trimS_digits l
  have hsl : (Lib.trimRightB l 48).length ≤ l.length := trimRight_len l 48
  have hnl : (Lib.trimLeftB (Lib.trimRightB l 48) 48).length ≤ 9223372036854775807 := by have := trimLeft_len (Lib.trimRightB l 48) 48; omega
  obtain ⟨R, hR⟩ : ∃ R, R = makeA neg l x := ⟨_, rfl⟩
  rw [← hR]
  have HR := Lib.hid hR
  clear hR
  rcases Nat.lt_or_ge 4096 l.length with hb | hb
  · have hne : l ≠ [] := by rintro rfl; simp at hb
    go_enter Tryz.func21, Tryz.ntmps21
    go_wp2
    refine bodyPost_ret (v := .tuple #[.agg #[.bool false, .string ⟨#[]⟩, .int .i64 0], .int .i64 1]) ?_ rfl (num_end (r := (Num.none, 1)) (by rw [HR.out, makeA, if_pos (.inr (.inl hb))]) (Chg.alloc (Chg.refl _ _) _))
    unfold results
    go_simp
  go_enter Tryz.func21, Tryz.ntmps21
  go_wp2_with (first
    | (go_at_call 45
       have hcon := fun w1 => Any.strings_Trim_laid Tryz.lays160 (by kernel_rfl) ⟨l.toArray⟩ ⟨tenDigits.toArray⟩ w1 hs (by decide) (ascii_of_all (by decide))
       change ∀ w1, Calls Tryz.prog 45 #[.string ⟨l.toArray⟩, .string ⟨tenDigits.toArray⟩] w1 (fun e w' => e = .returned (.string ⟨(Lib.trimS l tenDigits).toArray⟩) ∧ Below w1.heap.size w1 w') at hcon
       refine (hcon _).mono ?_; clear hcon; rintro e w1 ⟨rfl, y1⟩; have z1 := Below.chg y1; clear y1; obtain ⟨c0, c1, c2⟩ := num_cells z1; obtain ⟨f0, f1, f2⟩ := num_frozen z1)
    | (go_at_call 46; refine (Tryz.strings_TrimRight_one _ 48 (by decide) _ hs).mono ?_; rintro e w2 ⟨rfl, rfl⟩)
    | (go_at_call 47; refine (Tryz.strings_TrimLeft_one _ 48 (by decide) _).mono ?_; rintro e w3 ⟨rfl, rfl⟩)
    | (go_at_call 13
       refine (decRight_of ⟨neg, Lib.trimLeftB (Lib.trimRightB l 48) 48, _⟩ _ hnl).mono ?_; rintro e w4 ⟨rfl, z4⟩
       obtain ⟨d0, d1, d2⟩ := num_cells z4
       have y4 := (Chg.alloc (Chg.refl Pure' _) _).trans' z4
       have g0 := (y4.frozen c0 (fun h => h)).trans f0
       have g1 := (y4.frozen c1 (fun h => h)).trans f1
       have g2 := (y4.frozen c2 (fun h => h)).trans f2
       replace c0 := y4.cell c0 (fun h => h); replace c1 := y4.cell c1 (fun h => h); replace c2 := y4.cell c2 (fun h => h); replace z1 := z1.trans' y4; clear f0 f1 f2))
  · have hn := ‹l = []›
    refine bodyPost_ret (v := .tuple #[.agg #[.bool false, .string ⟨#[]⟩, .int .i64 0], .int .i64 1]) ?_ rfl (num_end (r := (Num.none, 1)) (by rw [HR.out, makeA, if_pos (.inl hn)]) (Chg.alloc (Chg.refl _ _) _))
    unfold results
    go_simp
  · rename_i hq
    have hd : l.all isDig = false := by
      rcases hq with (h | h) | h
      · exact absurd (List.isEmpty_iff.1 h) ‹_›
      · omega
      · simpa using h
    refine bodyPost_ret (v := .tuple #[.agg #[.bool false, .string ⟨#[]⟩, .int .i64 0], .int .i64 1]) ?_ rfl (num_end (r := (Num.none, 1)) (by rw [HR.out, makeA, if_pos (.inr (.inr hd))]) (((((Chg.alloc (Chg.refl Pure' w) _).trans' z1).setCell (.inl (Nat.le_refl _)) _).setCell (.inl (Nat.le_refl _)) _).setCell (.inl (Nat.le_refl _)) _))
    unfold results
    go_simp
  all_goals
    have hd : ¬ (l = [] ∨ 4096 < l.length ∨ l.all isDig = false) := by
      rintro (h | h | h)
      · exact absurd h ‹_›
      · omega
      · have h1 := (by assumption : (l.isEmpty = false ∧ (l.length : Int) ≤ 4096) ∧ (!l.all isDig) = false).2
        rw [h] at h1; cases h1
  · have hq := List.isEmpty_iff.1 (by assumption : (Lib.trimRightB l 48).isEmpty = true)
    refine bodyPost_ret (v := .tuple #[.agg #[.bool false, .string ⟨#[48]⟩, .int .i64 0], .int .i64 0]) ?_ rfl (num_end (r := (Num.nought, 0)) (by rw [HR.out, makeA, if_neg hd, if_pos hq]) (((((Chg.alloc (Chg.refl Pure' w) _).trans' z1).setCell (.inl (Nat.le_refl _)) _).setCell (.inl (Nat.le_refl _)) _).setCell (.inl (Nat.le_refl _)) _))
    unfold results
    go_simp
  all_goals
    have hq : ¬ Lib.trimRightB l 48 = [] := fun h => by have h1 := (by assumption : (Lib.trimRightB l 48).isEmpty = false); rw [h] at h1; cases h1
    rename_i hr
  · refine bodyPost_ret (v := .tuple #[.agg #[.bool false, .string ⟨#[]⟩, .int .i64 0], .int .i64 11]) ?_ rfl (num_end (r := (Num.none, 11)) (by rw [HR.out, makeA, if_neg hd, if_neg hq]; exact (if_neg (by simpa using hr)).symm) (((((Chg.alloc (Chg.refl Pure' w) _).trans' z1).setCell (.inl (Nat.le_refl _)) _).setCell (.inl (Nat.le_refl _)) _).setCell (.inl (Nat.le_refl _)) _))
    unfold results
    go_simp
  · refine bodyPost_ret (v := .tuple #[.agg #[.bool neg, .string ⟨(Lib.trimLeftB (Lib.trimRightB l 48) 48).toArray⟩, .int .i64 (min (max x (-1048576)) 1048576 + l.length - (Lib.trimRightB l 48).length)], .int .i64 0]) ?_ rfl (num_end (r := (⟨neg, Lib.trimLeftB (Lib.trimRightB l 48) 48, min (max x (-1048576)) 1048576 + l.length - (Lib.trimRightB l 48).length⟩, 0)) (by rw [HR.out, makeA, if_neg hd, if_neg hq]; exact (if_pos (by simpa using hr)).symm) (((((Chg.alloc (Chg.refl Pure' w) _).trans' z1).setCell (.inl (Nat.le_refl _)) _).setCell (.inl (Nat.le_refl _)) _).setCell (.inl (Nat.le_refl _)) _))
    unfold results
    go_simp
end Go.Proofs.YtkplgndcbngjoaaGreatDoor
