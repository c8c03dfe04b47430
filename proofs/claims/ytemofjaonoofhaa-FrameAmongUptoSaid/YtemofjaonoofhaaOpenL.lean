/- What a row tells of slices of slices of bytes, by their bulk. -/
import Derived.Test.YtemofjaonoofhaaOpenM
import Derived.ChangeSame
namespace Go.Proofs.Ytemofjaonoofhaa
open Go Go.RowKit Go.ChangeShapes Go.WideShapes
set_option linter.unusedVariables false
set_option linter.unusedSimpArgs false

/-- A slice of slices of bytes, out of a row: no part holds more than all. -/
theorem open_byteses2 {H : Type} {en : TypeId × Value → H} {P : Program} {W : World} {base r : Nat} {spare : Nat → Bool} {held : Bool} {v : Value} {d : DataW H} {ps : List MemPlace} {ts : List TypeId} {ds : List (DataW H)} {j : Nat} {t e u : TypeId} {reach : Reach}
    (hsz : (DataW.weightsEach P ts ds).all (· ≤ reachBytes) = true) (ht : ts[j]? = some t) (hd : ds[j]? = some d) (hval : Value.okWide P W reach r t v) (h : DataW.Trod en P W base spare held t v d ps)
    (hu : P.underlying t = some (.slice e)) (he : P.underlying e = some (.slice u)) (hb : P.underlying u = some (.int .u8)) (hce : P.cellsOf e = 1) (hcu : P.cellsOf u = 1) (hBe : P.bytesOf e = 24) (hBu : P.bytesOf u = 1) :
    ∃ A n c xss, v = .slice A n c ∧ n ≤ c ∧ (A = none → c = 0) ∧ n ≤ 140737488351232 ∧ n ≤ Rows.uptoBulk d ∧ BytesL W A n xss ∧ (∀ x ∈ xss, x.length ≤ 140737488351232 ∧ x.length ≤ Rows.uptoBulk d) := by
  obtain ⟨A0, n0, c0, rfl⟩ := okWide_slice hu hval
  obtain ⟨fuel, hf⟩ := h
  obtain ⟨A, n, c, ys, hcs, hl, hle, hc0, hn, hbk, hlight, hcell⟩ := trod_elems hu hce (by rw [hBe]; decide) (by decide) (light_of_each hsz ht hd) hf
  rw [hBe] at hn
  simp [Value.cells] at hcs
  obtain ⟨rfl, rfl, rfl⟩ := hcs
  have hb' : Rows.uptoBulkAll (ys.map (·.1)) ≤ Rows.uptoBulk d := hbk
  have hbl := bulk_length (ys.map (·.1))
  rw [List.length_map, hl] at hbl
  refine ⟨A0, n0, c0, ?_⟩
  by_cases h0 : 0 < n0
  · obtain ⟨b, off, rfl, hlt, hrow⟩ := hcell h0
    have hq : ∀ j, j < n0 → ∃ x : List UInt8, (x.length ≤ 140737488351232 ∧ x.length ≤ Rows.uptoBulk d) ∧ ∃ Aj nj cj, W.cell? ⟨b, off + j, none⟩ = some (.slice Aj nj cj) ∧ nj ≤ cj ∧ Bytes W Aj nj x := by
      intro j hj
      obtain ⟨m, cs', htr, hlc, hci⟩ := hrow j (by omega)
      have hmem := List.getElem_mem (l := ys) (n := j) (by omega)
      have hli := hlight _ hmem
      have hbm : Rows.uptoBulk (ys[j]'(by omega)).1 ≤ Rows.uptoBulkAll (ys.map (·.1)) := bulk_all_mem (List.mem_map_of_mem hmem)
      generalize ys[j]'(by omega) = y at htr hli hbm
      obtain ⟨u0, rfl⟩ : ∃ u0, cs' = [u0] := by
        match cs', hlc with
        | [u0], _ => exact ⟨u0, rfl⟩
      obtain ⟨Aj, nj, cj, xs, h2, h3, h4, h5, h6⟩ := trod_bytes he hb hcu hBu hli htr
      cases h2
      have h7 := hci 0 (by simp)
      exact ⟨xs, ⟨by rw [h6.len]; exact h4, by rw [h6.len]; omega⟩, Aj, nj, cj, by simpa using h7, h3, h6⟩
    obtain ⟨xss, hal, hp⟩ := pick hq
    refine ⟨xss, rfl, hle, hc0, by omega, by omega, ⟨hal, fun _ => ⟨b, off, rfl, fun j hj => (hp j hj).2⟩⟩, fun x hx => ?_⟩
    obtain ⟨i, hi, rfl⟩ := List.getElem_of_mem hx
    exact (hp i hi).1
  · exact ⟨[], rfl, hle, hc0, by omega, by omega, ⟨by simp; omega, fun h => absurd h h0⟩, fun x hx => by simp at hx⟩
end Go.Proofs.Ytemofjaonoofhaa
