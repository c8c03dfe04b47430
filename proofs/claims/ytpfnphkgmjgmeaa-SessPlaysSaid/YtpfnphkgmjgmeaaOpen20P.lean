/- What a row tells of a script of layer 20, with the tighter bound. -/
import Derived.Test.YtpfnphkgmjgmeaaOpen20B
namespace Go.Proofs.Ytpfnphkgmjgmeaa
open Go Go.RowKit Go.ChangeShapes Go.WideShapes
set_option linter.unusedVariables false
set_option linter.unusedSimpArgs false

theorem open_acts20b {H : Type} {en : TypeId × Value → H} {W : World} {base r : Nat} {spare : Nat → Bool} {held : Bool} {v : Value} {d : DataW H} {ps : List MemPlace} {ts : List TypeId} {ds : List (DataW H)} {j : Nat} {t : TypeId} {reach : Reach}
    (hsz : (DataW.weightsEach Try.prog ts ds).all (· ≤ reachBytes) = true) (ht : ts[j]? = some t) (hd : ds[j]? = some d)
    (hval : Value.okWide Try.prog W reach r t v) (h : DataW.Trod en Try.prog W base spare held t v d ps) (et : t = 39 := by rfl) : ∃ A n c acts, v = .slice A n c ∧ n ≤ 1256584717422 ∧ Acts20 W A n acts := by
  subst et
  have ue := Try.underlying39
  obtain ⟨A0, n0, c0, rfl⟩ := okWide_slice ue hval
  obtain ⟨fuel, hf⟩ := h
  have hk : Try.prog.cellsOf 46 = 12 := by kernel_rfl
  have hB : Try.prog.bytesOf 46 = 112 := by kernel_rfl
  obtain ⟨A, n, c, ys, hcs, hl, hle, -, hn, hb, hlight, hcell⟩ := trod_elems ue hk (by rw [hB]; decide) (by decide) (light_of_each hsz ht hd) hf
  rw [hB] at hn
  simp [Value.cells] at hcs
  obtain ⟨rfl, rfl, rfl⟩ := hcs
  refine ⟨A0, n0, c0, ?_⟩
  by_cases h0 : 0 < n0
  · obtain ⟨b, off, rfl, hlt, hrow⟩ := hcell h0
    have hq : ∀ j, j < n0 → ∃ x : Act20, ∀ c u, x.cells[c]? = some u → W.cell? ⟨b, off + j * 12 + c, none⟩ = some u := by
      intro j hj
      obtain ⟨m, cs', htr, hlc, hci⟩ := hrow j (by omega)
      obtain ⟨a, rfl⟩ := act20_of hlc (hlight _ (List.getElem_mem (by omega))) htr
      refine ⟨a, fun c u hu => ?_⟩
      obtain ⟨hc, e⟩ := List.getElem?_eq_some_iff.1 hu
      rw [hci c hc, e]
    obtain ⟨acts, hal, hp⟩ := pick hq
    exact ⟨acts, rfl, by omega, hal, fun _ => ⟨b, off, rfl, hlt, fun j hj => hp j hj⟩⟩
  · exact ⟨[], rfl, by omega, by simp; omega, fun h => absurd h h0⟩
end Go.Proofs.Ytpfnphkgmjgmeaa
