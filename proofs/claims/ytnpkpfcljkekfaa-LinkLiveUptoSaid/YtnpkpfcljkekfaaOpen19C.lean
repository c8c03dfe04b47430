/- What a row tells of a script of layer 19, by its bytes. -/
import Derived.Test.YtnpkpfcljkekfaaOpenM
import Derived.Test.YtnpkpfcljkekfaaOpen
import Derived.Test.YtnpkpfcljkekfaaL19C
namespace Go.Proofs.Ytnpkpfcljkekfaa
open Go Go.RowKit Go.ChangeShapes Go.WideShapes
set_option linter.unusedVariables false
set_option maxRecDepth 100000
set_option linter.unusedSimpArgs false

theorem open_acts19 {H : Type} {en : TypeId × Value → H} {W : World} {base r : Nat} {spare : Nat → Bool} {held : Bool} {v : Value} {d : DataW H} {ps : List MemPlace} {ts : List TypeId} {ds : List (DataW H)} {j : Nat} {t : TypeId} {reach : Reach}
    (hsz : (DataW.weightsEach Try.prog ts ds).all (· ≤ reachBytes) = true) (ht : ts[j]? = some t) (hd : ds[j]? = some d)
    (hval : Value.okWide Try.prog W reach r t v) (h : DataW.Trod en Try.prog W base spare held t v d ps) (et : t = 40 := by rfl) : ∃ A n c acts, v = .slice A n c ∧ n * 64 ≤ 140737488351232 ∧ n ≤ Rows.uptoBulk d ∧ Acts19 W A n acts := by
  subst et
  have ue := Try.underlying40
  obtain ⟨A0, n0, c0, rfl⟩ := okWide_slice ue hval
  obtain ⟨fuel, hf⟩ := h
  have hk : Try.prog.cellsOf 49 = 6 := by kernel_rfl
  have hB : Try.prog.bytesOf 49 = 64 := by kernel_rfl
  obtain ⟨A, n, c, ys, hcs, hl, hle, -, hn, hb, hlight, hcell⟩ := trod_elems ue hk (by rw [hB]; decide) (by decide) (light_of_each hsz ht hd) hf
  rw [hB] at hn
  simp [Value.cells] at hcs
  obtain ⟨rfl, rfl, rfl⟩ := hcs
  have hb' : Rows.uptoBulkAll (ys.map (·.1)) ≤ Rows.uptoBulk d := hb
  have hbl := bulk_length (ys.map (·.1))
  rw [List.length_map, hl] at hbl
  refine ⟨A0, n0, c0, ?_⟩
  by_cases h0 : 0 < n0
  · obtain ⟨b, off, rfl, hlt, hrow⟩ := hcell h0
    have hq : ∀ j, j < n0 → ∃ x : Act19, ActAt W b (off + j * 6) x := by
      intro j hj
      obtain ⟨m, cs', htr, hlc, hci⟩ := hrow j (by omega)
      have hmem := List.getElem_mem (l := ys) (n := j) (by omega)
      have hli := hlight _ hmem
      generalize ys[j]'(by omega) = y at htr hli
      obtain ⟨u0, u1, u2, u3, u4, u5, rfl⟩ : ∃ u0 u1 u2 u3 u4 u5, cs' = [u0, u1, u2, u3, u4, u5] := by
        match cs', hlc with
        | [u0, u1, u2, u3, u4, u5], _ => exact ⟨u0, u1, u2, u3, u4, u5, rfl⟩
      obtain ⟨zs, m2, _, hy, _, hzl, hz⟩ := DataW.trod_struct Try.underlying49 htr
      subst hy
      have hzl6 : zs.length = 6 := hzl
      obtain ⟨z0, z1, z2, z3, z4, z5, rfl⟩ : ∃ z0 z1 z2 z3 z4 z5, zs = [z0, z1, z2, z3, z4, z5] := by
        match zs, hzl6 with
        | [z0, z1, z2, z3, z4, z5], _ => exact ⟨z0, z1, z2, z3, z4, z5, rfl⟩
      have f0 := hz 0 _ rfl
      have f1 := hz 1 _ rfl
      have f2 := hz 2 _ rfl
      have f3 := hz 3 _ rfl
      have f4 := hz 4 _ rfl
      have f5 := hz 5 _ rfl
      (try simp only [show Try.prog.cellsOf 3 = 1 from by kernel_rfl, show Try.prog.cellsOf 47 = 1 from by kernel_rfl, show Try.prog.cellsOf 23 = 1 from by kernel_rfl] at f0); (try simp at f0)
      (try simp only [show Try.prog.cellsOf 3 = 1 from by kernel_rfl, show Try.prog.cellsOf 47 = 1 from by kernel_rfl, show Try.prog.cellsOf 23 = 1 from by kernel_rfl] at f1); (try simp at f1)
      (try simp only [show Try.prog.cellsOf 3 = 1 from by kernel_rfl, show Try.prog.cellsOf 47 = 1 from by kernel_rfl, show Try.prog.cellsOf 23 = 1 from by kernel_rfl] at f2); (try simp at f2)
      (try simp only [show Try.prog.cellsOf 3 = 1 from by kernel_rfl, show Try.prog.cellsOf 47 = 1 from by kernel_rfl, show Try.prog.cellsOf 23 = 1 from by kernel_rfl] at f3); (try simp at f3)
      (try simp only [show Try.prog.cellsOf 3 = 1 from by kernel_rfl, show Try.prog.cellsOf 47 = 1 from by kernel_rfl, show Try.prog.cellsOf 23 = 1 from by kernel_rfl] at f4); (try simp at f4)
      (try simp only [show Try.prog.cellsOf 3 = 1 from by kernel_rfl, show Try.prog.cellsOf 47 = 1 from by kernel_rfl, show Try.prog.cellsOf 23 = 1 from by kernel_rfl] at f5); (try simp at f5)
      obtain ⟨a0, h0', _, _⟩ := DataW.trod_int Try.underlying3 f0
      obtain ⟨a1, h1', _, _⟩ := DataW.trod_int Try.underlying3 f1
      obtain ⟨a2, h2', _, _⟩ := DataW.trod_int Try.underlying3 f2
      obtain ⟨a3, h3', _, w3⟩ := DataW.trod_int Try.underlying3 f3
      obtain ⟨a4, h4', _, w4⟩ := DataW.trod_int Try.underlying47 f4
      obtain ⟨m4, rfl⟩ := u32_of_wf w4
      have hl5 := hli.parts Try.underlying49 (j := 5) rfl rfl
      obtain ⟨Aj, nj, cj, xs, h5', h6, h7, _, h9⟩ := trod_bytes Try.underlying23 Try.underlying5 (by kernel_rfl) (by kernel_rfl) hl5 f5
      cases h0'
      cases h1'
      cases h2'
      cases h3'
      cases h4'
      cases h5'
      exact ⟨⟨a0, a1, a2, a3, m4, xs⟩, hci 0 (by simp), hci 1 (by simp), hci 2 (by simp), hci 3 (by simp), hci 4 (by simp), ⟨Aj, nj, cj, hci 5 (by simp), h6, h7, h9⟩, i64_of_wf w3⟩
    obtain ⟨acts, hal, hp⟩ := pick hq
    exact ⟨acts, rfl, by omega, by omega, hal, fun _ => ⟨b, off, rfl, hlt, fun j hj => hp j hj⟩⟩
  · exact ⟨[], rfl, by omega, by omega, by simp; omega, fun h => absurd h h0⟩
end Go.Proofs.Ytnpkpfcljkekfaa
