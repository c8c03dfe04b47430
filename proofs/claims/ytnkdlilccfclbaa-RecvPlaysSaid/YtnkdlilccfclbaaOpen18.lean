/- What a row tells of a script of layer 18. -/
import Derived.Test.YtnkdlilccfclbaaOpenM
import Derived.Test.YtnkdlilccfclbaaL18
import Derived.ChangeMaps
namespace Go.Proofs.Ytnkdlilccfclbaa
open Go Go.RowKit Go.ChangeShapes Go.WideShapes
set_option linter.unusedVariables false
set_option linter.unusedSimpArgs false

theorem open_acts {H : Type} {en : TypeId × Value → H} {W : World} {base r : Nat} {spare : Nat → Bool} {held : Bool} {v : Value} {d : DataW H} {ps : List MemPlace} {ts : List TypeId} {ds : List (DataW H)} {j : Nat} {t : TypeId} {reach : Reach}
    (hsz : (DataW.weightsEach Try.prog ts ds).all (· ≤ reachBytes) = true) (ht : ts[j]? = some t) (hd : ds[j]? = some d)
    (hval : Value.okWide Try.prog W reach r t v) (h : DataW.Trod en Try.prog W base spare held t v d ps) (et : t = 22 := by rfl) : ∃ A n c acts, v = .slice A n c ∧ n ≤ 140737488351232 ∧ n ≤ Rows.uptoBulk d ∧ ActsAt W A n acts := by
  subst et
  have ue := Try.underlying22
  obtain ⟨A0, n0, c0, rfl⟩ := okWide_slice ue hval
  obtain ⟨fuel, hf⟩ := h
  have hk : Try.prog.cellsOf 31 = 2 := by kernel_rfl
  have hB : Try.prog.bytesOf 31 = 32 := by kernel_rfl
  obtain ⟨A, n, c, ys, hcs, hl, hle, -, hn, hb, hlight, hcell⟩ := trod_elems ue hk (by rw [hB]; decide) (by decide) (light_of_each hsz ht hd) hf
  rw [hB] at hn
  simp [Value.cells] at hcs
  obtain ⟨rfl, rfl, rfl⟩ := hcs
  have hb' : Rows.uptoBulkAll (ys.map (·.1)) ≤ Rows.uptoBulk d := hb
  have hbl := bulk_length (ys.map (·.1))
  rw [List.length_map, hl] at hbl
  refine ⟨A0, n0, c0, ?_⟩
  by_cases h0 : 0 < n0
  · obtain ⟨b, off, rfl, hlt, hrow⟩ := hcell h0
    have hq : ∀ j, j < n0 → ∃ x : Int × List UInt8, (-9223372036854775808 ≤ x.1 ∧ x.1 ≤ 9223372036854775807) ∧ W.cell? ⟨b, off + j * 2, none⟩ = some (.int .i64 x.1) ∧
        ∃ Aj nj cj, W.cell? ⟨b, off + j * 2 + 1, none⟩ = some (.slice Aj nj cj) ∧ nj ≤ cj ∧ nj ≤ 140737488351232 ∧ Bytes W Aj nj x.2 := by
      intro j hj
      obtain ⟨m, cs', htr, hlc, hci⟩ := hrow j (by omega)
      have hmem := List.getElem_mem (l := ys) (n := j) (by omega)
      have hli := hlight _ hmem
      generalize ys[j]'(by omega) = y at htr hli
      obtain ⟨u0, u1, rfl⟩ : ∃ u0 u1, cs' = [u0, u1] := by
        match cs', hlc with
        | [u0, u1], _ => exact ⟨u0, u1, rfl⟩
      obtain ⟨y0, y1, m2, hy, _, f0, f1⟩ := trod_struct2 Try.underlying31 htr
      have hy1 := congrArg Prod.fst hy
      simp only at hy1
      rw [hy1] at hli
      simp only [show Try.prog.cellsOf 3 = 1 from by kernel_rfl, show Try.prog.cellsOf 29 = 1 from by kernel_rfl] at f0 f1
      simp at f0 f1
      obtain ⟨a, h1, _, hw⟩ := DataW.trod_int Try.underlying3 f0
      have hl1 := hli.parts Try.underlying31 (j := 1) rfl rfl
      obtain ⟨Aj, nj, cj, xs, h2, h3, h4, _, h6⟩ := trod_bytes Try.underlying29 Try.underlying5 (by kernel_rfl) (by kernel_rfl) hl1 f1
      cases h1
      cases h2
      exact ⟨(a, xs), i64_of_wf hw, hci 0 (by simp), Aj, nj, cj, hci 1 (by simp), h3, h4, h6⟩
    obtain ⟨acts, hal, hp⟩ := pick hq
    refine ⟨acts, rfl, by omega, by omega, hal, fun x hx => ?_, fun _ => ⟨b, off, rfl, hlt, fun j hj => ⟨(hp j hj).2.1, (hp j hj).2.2⟩⟩⟩
    obtain ⟨i, hi, rfl⟩ := List.getElem_of_mem hx
    exact (hp i hi).1
  · refine ⟨[], rfl, by omega, by omega, by simp; omega, fun x hx => by simp at hx, fun h => absurd h h0⟩
end Go.Proofs.Ytnkdlilccfclbaa
