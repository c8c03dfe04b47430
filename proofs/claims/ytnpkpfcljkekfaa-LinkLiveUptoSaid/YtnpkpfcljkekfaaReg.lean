/- A step of a drawn region where two operations may come up. -/
import Derived.Test.YtnpkpfcljkekfaaBase
namespace Go.Proofs.Ytnpkpfcljkekfaa
open Go Go.RowKit
section
variable {P : Program} {md : Region.Mode} {ops : Array Oper} {Q : Exit → Act → World → Prop}
theorem reg_do2 {T : Nat → Prop} (i j : Nat) {oi oj : Oper} {fuel : Nat} {listed : Array Bool} {a : Act} {w : World} (hi : ops[i]? = some oi) (hj : ops[j]? = some oj) (hr : Region.ready md ops listed = [i, j])
    (hwi : Region.wanted oi (yielded ops a.tmps) = true) (hwj : Region.wanted oj (yielded ops a.tmps) = true)
    (h1 : ∀ K : Act → World → Prop, (∀ a' w', Chg T w w' → wpAnyH P md ops Q (Chg T w') fuel (listed.setIfInBounds i true) a' w' → K a' w') → oi.wp P a w K Q)
    (h2 : ∀ K : Act → World → Prop, (∀ a' w', Chg T w w' → wpAnyH P md ops Q (Chg T w') fuel (listed.setIfInBounds j true) a' w' → K a' w') → oj.wp P a w K Q) : wpAnyH P md ops Q (Chg T w) (fuel + 1) listed a w :=
  wpAnyH_all hr (by simp) (fun k hk => by
    rcases List.mem_cons.1 hk with rfl | hk
    · unfold wpOp
      rw [hi]
      simp only [hwi, if_true]
      exact .inl (h1 _ fun a' w' hc hh => ⟨hc, wpAnyH_chg hc hh⟩)
    · obtain rfl : k = j := by simpa using hk
      unfold wpOp
      rw [hj]
      simp only [hwj, if_true]
      exact .inl (h2 _ fun a' w' hc hh => ⟨hc, wpAnyH_chg hc hh⟩))
end
end Go.Proofs.Ytnpkpfcljkekfaa
