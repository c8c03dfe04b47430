/- What a row tells of a slice of words. -/
import Derived.Test.YtpfnphkgmjgmeaaOpenM
import Derived.Test.YtpfnphkgmjgmeaaL20A
namespace Go.Proofs.Ytpfnphkgmjgmeaa
open Go Go.RowKit Go.ChangeShapes Go.WideShapes
set_option linter.unusedVariables false
set_option linter.unusedSimpArgs false

theorem open_words {H : Type} {en : TypeId × Value → H} {W : World} {base r : Nat} {spare : Nat → Bool} {held : Bool} {v : Value} {d : DataW H} {ps : List MemPlace} {ts : List TypeId} {ds : List (DataW H)} {j : Nat} {t : TypeId} {reach : Reach}
    (hsz : (DataW.weightsEach Try.prog ts ds).all (· ≤ reachBytes) = true) (ht : ts[j]? = some t) (hd : ds[j]? = some d)
    (hval : Value.okWide Try.prog W reach r t v) (h : DataW.Trod en Try.prog W base spare held t v d ps) (et : t = 22 := by rfl) : ∃ A n c xs, v = .slice A n c ∧ n ≤ 140737488351232 ∧ Words W A n xs := by
  subst et
  have ue := Try.underlying22
  obtain ⟨A0, n0, c0, rfl⟩ := okWide_slice ue hval
  obtain ⟨fuel, hf⟩ := h
  have hk : Try.prog.cellsOf 29 = 1 := by kernel_rfl
  have hB : Try.prog.bytesOf 29 = 8 := by kernel_rfl
  obtain ⟨A, n, c, ys, hcs, hl, hle, -, hn, hb, hlight, hcell⟩ := trod_elems ue hk (by rw [hB]; decide) (by decide) (light_of_each hsz ht hd) hf
  rw [hB] at hn
  simp [Value.cells] at hcs
  obtain ⟨rfl, rfl, rfl⟩ := hcs
  refine ⟨A0, n0, c0, ?_⟩
  by_cases h0 : 0 < n0
  · obtain ⟨b, off, rfl, hlt, hrow⟩ := hcell h0
    have hq : ∀ j, j < n0 → ∃ x : UInt64, W.cell? ⟨b, off + j, none⟩ = some (.int .u64 (x.toNat : Int)) := by
      intro j hj
      obtain ⟨m, cs', htr, hlc, hci⟩ := hrow j (by omega)
      obtain ⟨u0, rfl⟩ : ∃ u0, cs' = [u0] := by
        match cs', hlc with
        | [u0], _ => exact ⟨u0, rfl⟩
      obtain ⟨a4, h4', _, w4⟩ := DataW.trod_int Try.underlying29 htr
      obtain ⟨m4, rfl⟩ := u64_of_wf w4
      cases h4'
      have := hci 0 (by simp)
      exact ⟨m4, by simpa using this⟩
    obtain ⟨xs, hal, hp⟩ := pick hq
    exact ⟨xs, rfl, by omega, hal, fun _ => ⟨b, off, rfl, fun j hj => hp j hj⟩⟩
  · exact ⟨[], rfl, by omega, by simp; omega, fun h => absurd h h0⟩
end Go.Proofs.Ytpfnphkgmjgmeaa
