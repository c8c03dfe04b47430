/- dec: Text. -/
import Derived.Test.YtafpkecjicphoaaDoorDecC
import Derived.Lib.AppendIntMem
namespace Go.Proofs.YtafpkecjicphoaaDoor
open Go Go.RowKit
set_option linter.unusedVariables false
set_option maxRecDepth 100000
set_option linter.unusedSimpArgs false

/-- What of the library's own variables a walk may lean on. -/
structure Env (w : World) : Prop where
  tab : Lib.TabBelow Tryd.prog w.heap.size w "internal/strconv.uint64pow10" .u64 Lib.pow10Tab
  max : ∃ m, w.cell? ⟨0, 0, none⟩ = some (.int .i64 m)
theorem Env.pure {w w' : World} (h : Env w) (hc : Chg Pure' w w') : Env w' :=
  ⟨fun w2 hb => h.tab w2 (hc.below.trans (hb.mono hc.size)), by obtain ⟨m, hm⟩ := h.max; exact ⟨m, hc.cell hm (fun h => h)⟩⟩
theorem itoa_of (n : Int) (h : -9223372036854775808 ≤ n ∧ n ≤ 9223372036854775807) (w : World) (he : Env w) :
    Calls Tryd.prog 42 #[.int .i64 n] w fun e w' => e = .returned (.string ⟨(Lib.itoa n).toArray⟩) ∧ Chg Pure' w w' := by
  refine (Tryd.strconv_Itoa n h.1 h.2 w he.tab.here).mono ?_
  rintro e w' ⟨rfl, k, os, rfl⟩
  exact ⟨rfl, Below.chg (Lib.below_grow _ _ (Nat.le_refl _) _ _)⟩
theorem nDigits_le : ∀ (k u : Nat), u < 10 ^ (k + 1) → Lib.nDigits u ≤ k + 1
  | 0, u, h => by rw [Lib.nDigits_small (by simpa using h)]; exact Nat.le_refl _
  | k + 1, u, h => by
    by_cases hu : u < 10
    · rw [Lib.nDigits_small hu]; omega
    · rw [Lib.nDigits_big hu]
      have := nDigits_le k (u / 10) (by rw [Nat.pow_succ] at h; omega)
      omega
theorem itoa_len {x : Int} (h : -2000 ≤ x ∧ x ≤ 2000) : (Lib.itoa x).length ≤ 5 := by
  unfold Lib.itoa
  split
  · rw [List.length_cons, Lib.decDigits_length]
    have := nDigits_le 3 x.natAbs (by omega)
    omega
  · rw [Lib.decDigits_length]
    have := nDigits_le 3 x.toNat (by omega)
    omega
set_option maxHeartbeats 2000000 in
theorem text_of (n : Num) (w : World) (hl : n.dig.length ≤ 9223372036854775807) (he : Env w) :
    Calls Tryd.prog 30 #[n.val] w fun e w' => e = .returned (.string ⟨(textA n).toArray⟩) ∧ Chg Pure' w w' := by
  obtain ⟨R, hR⟩ : ∃ R, R = textA n := ⟨_, rfl⟩
  rw [← hR]
  obtain ⟨neg, l, x⟩ := n
  have HR := Lib.hid hR
  clear hR
  obtain ⟨r, hr⟩ : ∃ r, r = (⟨neg, l, x⟩ : Num).right := ⟨_, rfl⟩
  have hlen : r = true → l.length ≤ 800 := fun h => Num.right_len (n := ⟨neg, l, x⟩) (by rw [← hr]; exact h)
  have hexp : r = true → -2000 ≤ x ∧ x ≤ 2000 := fun h => Num.right_exp (n := ⟨neg, l, x⟩) (by rw [← hr]; exact h)
  have HH := Lib.hid hr
  clear hr
  unfold Num.val
  cases r with
  | false =>
    go_enter Tryd.func30, Tryd.ntmps30
    go_wp2_with (first
      | (go_at_call 38; refine (decRight_of ⟨neg, l, x⟩ _ hl).mono ?_; rintro e w1 ⟨rfl, z1⟩; rw [← HH.out]; obtain ⟨c0, c1, c2⟩ := num_cells z1))
    go_ret
    exact ⟨by rw [HR.out, textA, ← HH.out]; rfl, (Chg.alloc (Chg.refl _ _) _).trans' z1⟩
  | true =>
    replace hlen := hlen rfl
    replace hexp := hexp rfl
    have il := itoa_len hexp
    have HT : R = (if neg = true then [45] else []) ++ l ++ (if x = 0 then [] else 101 :: Lib.itoa x) := by rw [HR.out, textA, ← HH.out, if_pos rfl]
    have HT := Lib.hid HT
    clear HR
    go_enter Tryd.func30, Tryd.ntmps30
    go_wp2_with (first
      | (go_at_call 38; refine (decRight_of ⟨neg, l, x⟩ _ hl).mono ?_; rintro e w1 ⟨rfl, z1⟩; rw [← HH.out]; obtain ⟨c0, c1, c2⟩ := num_cells z1; have e1 := he.pure ((Chg.alloc (Chg.refl _ _) _).trans' z1))
      | (go_at_call 42; refine (itoa_of x (by omega) _ e1).mono ?_; rintro e w2 ⟨rfl, z2⟩))
    all_goals go_ret
    all_goals refine ⟨?_, by first | exact (Chg.alloc (Chg.refl _ _) _).trans' z1 | exact ((Chg.alloc (Chg.refl _ _) _).trans' z1).trans' z2⟩
    all_goals rw [HT.out]
    all_goals clear HT HH
    all_goals go_simp
    all_goals simp_all
    all_goals (apply ByteArray.ext; simp [ByteArray.data_append])
end Go.Proofs.YtafpkecjicphoaaDoor
