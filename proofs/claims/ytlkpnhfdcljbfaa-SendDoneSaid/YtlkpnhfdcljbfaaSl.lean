/- Contracts of slices.Concat, Grow, Equal and Clone at slices of bytes. -/
import Derived.Test.YtlkpnhfdcljbfaaProg
import Derived.Test.YtlkpnhfdcljbfaaBase
namespace Go.Proofs.Ytlkpnhfdcljbfaa
open Go Go.RowKit
set_option linter.unusedVariables false
set_option linter.unusedSimpArgs false
theorem infoU8 : (Try.prog.info? 5).map (fun i => (i.zero, i.size, i.bytes)) = some (some (.int .u8 0), 1, 1) := by kernel_rfl
theorem clone_own (A : Option Addr) (c m : Nat) (xs : List UInt8) (w : World) (hA : Bytes w A m xs) (hm : m ≤ 140737488355328) :
    Calls Try.prog 24 #[.slice A m c] w fun e w' => ∃ v, e = .returned v ∧ w'.ownsRow w.heap.size 5 1 v m (enc xs) ∧ Chg Pure' w w' := by
  cases A with
  | none =>
    have h0 : m = 0 := by
      rcases Nat.eq_zero_or_pos m with h | h
      · exact h
      · obtain ⟨_, _, e, _⟩ := hA.cells h; cases e
    subst h0
    obtain rfl : xs = [] := List.eq_nil_of_length_eq_zero hA.len
    have hn := Lib.run_eql_slice_nil (P := Try.prog) w 22 5 none 0 c 0 0 Try.underlying22
    go_enter Try.func24, Try.ntmps24
    go_wp2
    go_ret
    exact ⟨_, rfl, World.ownsRow_nil _ _ _ _, Chg.refl _ _⟩
  | some a =>
    have hn := Lib.run_eql_slice_nil (P := Try.prog) w 22 5 (some a) m c 0 0 Try.underlying22
    have ho := World.ownsRow_lit (base := w.heap.size) (e := 5) (size := 1) w #[] 0 (Nat.le_refl _) (by decide) rfl
    have hc1 : Chg Pure' w (w.alloc (.cells #[] 5)) := (Chg.refl _ w).alloc _
    have hA1 := hA.pure hc1
    obtain ⟨v', w', hr, ho', hg, -⟩ := app_own (P := Try.prog) (w.alloc (.cells #[] 5)) w.heap.size 22 22 5 Try.underlying22 infoU8 rfl (by decide) _ _ _ ho (some a) m c (enc xs) hA1.row (by rw [enc_length, hA.len, Nat.mul_one]) (enc_one _) (by decide) (by omega) (by simp)
    have ho2 : w'.ownsRow w.heap.size 5 1 v' m (enc xs) := by simpa using ho'
    have hc2 : Chg Pure' w w' := hc1.grown hg (fun k hk => .inl (ho.lt k hk).1)
    clear ho ho' hc1 hA1 hg hA
    go_enter Try.func24, Try.ntmps24
    go_wp2_with (at_builtin; refine Lib.wpList_append_run _ rfl _ _ _ _ rfl _ _ rfl rfl _ _ hr ?_)
    go_ret
    exact ⟨_, rfl, ho2, hc2⟩
theorem clone_any (A : Option Addr) (c m : Nat) (xs : List UInt8) (w : World) (hA : Bytes w A m xs) (hm : m ≤ 140737488355328) :
    Calls Try.prog 24 #[.slice A m c] w fun e w' => ∃ A' c', e = .returned (.slice A' m c') ∧ m ≤ c' ∧ Bytes w' A' m xs ∧ From A' w.heap.size ∧ Chg Pure' w w' := by
  refine (clone_own A c m xs w hA hm).mono ?_
  rintro e w' ⟨v, rfl, ho, hc⟩
  obtain ⟨A', c', rfl, hle, hb, hf⟩ := Bytes.of_own ho
  exact ⟨A', c', rfl, hle, hb, hf, hc⟩
end Go.Proofs.Ytlkpnhfdcljbfaa
