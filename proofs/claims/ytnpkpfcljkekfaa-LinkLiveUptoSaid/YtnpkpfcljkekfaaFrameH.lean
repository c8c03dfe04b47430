/- Package frame: Same over rows of loads. -/
import Derived.Test.YtnpkpfcljkekfaaFrameG
namespace Go.Proofs.Ytnpkpfcljkekfaa
open Go Go.RowKit
set_option linter.unusedVariables false
set_option linter.unusedSimpArgs false

theorem Loads.bl {w : World} {B : Nat} {A : Option Addr} {n c : Nat} {ls : List (List UInt8)} (h : Loads w B (.slice A n c) ls) : BytesL w A ls.length ls := by
  obtain ⟨us, ho, hu⟩ := h
  refine ⟨rfl, fun hp => ?_⟩
  rcases ho.2 with ⟨h', h0⟩ | ⟨g, cap, cur, h', hb, hg, hnc, hcm, hcs, htake⟩
  · omega
  · injection h' with h1 h2 h3
    subst h1
    subst h2
    refine ⟨g, 0, rfl, fun j hj => ?_⟩
    obtain ⟨A1, c1, h1, h2, h3⟩ := hu j hj
    have := World.ownsRow.cells ho (g := g) rfl j _ h1
    have e : (⟨g, 0, none⟩ : Addr).add j = ⟨g, 0 + j, none⟩ := by unfold Addr.add; split <;> simp_all
    rw [e] at this
    exact ⟨A1, _, c1, this, h2, h3.bytes⟩
theorem BytesL.pure {w w' : World} {A : Option Addr} {n : Nat} {xss : List (List UInt8)} (h : BytesL w A n xss) (hc : Chg Pure' w w') : BytesL w' A n xss := by
  refine ⟨h.len, fun hp => ?_⟩
  obtain ⟨b, off, e, hj⟩ := h.cells hp
  refine ⟨b, off, e, fun j hjj => ?_⟩
  obtain ⟨A1, n1, c1, h1, h2, h3⟩ := hj j hjj
  exact ⟨A1, n1, c1, hc.cell h1 (fun h => h), h2, h3.pure hc⟩
theorem eq_upto {xss yss : List (List UInt8)} (hl : xss.length = yss.length) : ∀ k (hk : k ≤ xss.length), (∀ i (hi : i < k), xss[i]'(by omega) = yss[i]'(by omega)) → k = xss.length → xss = yss := by
  intro k hk h e
  subst e
  exact List.ext_getElem hl (fun i h1 h2 => h i h1)
theorem Bytes.sliced {w : World} {A : Option Addr} {n c lo hi : Nat} {xs : List UInt8} (h : Bytes w A n xs) (h1 : lo ≤ hi) (h2 : hi ≤ n) (h3 : n ≤ c) (A' : Option Addr) (e : (if c = lo then A else A.map fun x => x.add lo) = A') : Bytes w A' (hi - lo) ((xs.take hi).drop lo) := by
  have hl := h.len
  by_cases hz : lo = hi
  · subst hz
    rw [Nat.sub_self, List.drop_eq_nil_of_le (by simp; omega)]
    exact Bytes.nil _ _
  · obtain ⟨b, off, rfl, -⟩ := h.cells (by omega)
    rw [if_neg (by omega)] at e
    subst e
    have e1 : (⟨b, off, none⟩ : Addr).add lo = ⟨b, off + lo, none⟩ := by unfold Addr.add; split <;> simp_all
    rw [Option.map_some, e1]
    exact h.part lo hi h1 h2
end Go.Proofs.Ytnpkpfcljkekfaa
