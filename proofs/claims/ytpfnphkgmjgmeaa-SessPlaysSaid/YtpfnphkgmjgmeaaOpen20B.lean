/- What a row tells of a script of layer 20, and of one call. -/
import Derived.Test.YtpfnphkgmjgmeaaOpen20
import Derived.Test.YtpfnphkgmjgmeaaL20B
namespace Go.Proofs.Ytpfnphkgmjgmeaa
open Go Go.RowKit Go.ChangeShapes Go.WideShapes
set_option linter.unusedVariables false
set_option linter.unusedSimpArgs false

theorem act20_of {H : Type} {en : TypeId × Value → H} {W : World} {base fuel : Nat} {spare : Nat → Bool} {held : Bool} {cs : List Value} {y : DataW H × List MemPlace} (hlc : cs.length = 12) (hli : Light Try.prog 46 y.1)
    (htr : DataW.trod en Try.prog W base spare held fuel 46 cs = some y) : ∃ a : Act20, cs = a.cells := by
  have ki : Try.prog.cellsOf 3 = 1 := by kernel_rfl
  have ku : Try.prog.cellsOf 29 = 1 := by kernel_rfl
  have kb : Try.prog.cellsOf 30 = 1 := by kernel_rfl
  have km : Try.prog.cellsOf 32 = 9 := by kernel_rfl
  obtain ⟨u0, u1, u2, u3, u4, u5, u6, u7, u8, u9, u10, u11, rfl⟩ : ∃ u0 u1 u2 u3 u4 u5 u6 u7 u8 u9 u10 u11, cs = [u0, u1, u2, u3, u4, u5, u6, u7, u8, u9, u10, u11] := by
    match cs, hlc with
    | [u0, u1, u2, u3, u4, u5, u6, u7, u8, u9, u10, u11], _ => exact ⟨u0, u1, u2, u3, u4, u5, u6, u7, u8, u9, u10, u11, rfl⟩
  obtain ⟨zs, m2, _, hy, _, hzl, hz⟩ := DataW.trod_struct Try.underlying46 htr
  have hzl4 : zs.length = 4 := hzl
  obtain ⟨z0, z1, z2, z3, rfl⟩ : ∃ z0 z1 z2 z3, zs = [z0, z1, z2, z3] := by
    match zs, hzl4 with
    | [z0, z1, z2, z3], _ => exact ⟨z0, z1, z2, z3, rfl⟩
  have hy1 := congrArg Prod.fst hy
  simp only at hy1
  rw [hy1] at hli
  have f0 := hz 0 _ rfl
  have f1 := hz 1 _ rfl
  have f2 := hz 2 _ rfl
  have f3 := hz 3 _ rfl
  simp [ki] at f0
  simp [ki] at f1
  simp [km] at f2
  simp [ku] at f3
  have hl2 : Light Try.prog 32 z2.1 := hli.parts Try.underlying46 (j := 2) rfl rfl
  obtain ⟨ys, m3, _, hw, _, hyl, hh⟩ := DataW.trod_struct Try.underlying32 f2
  have hyl9 : ys.length = 9 := hyl
  obtain ⟨y0, y1, y2, y3, y4, y5, y6, y7, y8, rfl⟩ : ∃ y0 y1 y2 y3 y4 y5 y6 y7 y8, ys = [y0, y1, y2, y3, y4, y5, y6, y7, y8] := by
    match ys, hyl9 with
    | [y0, y1, y2, y3, y4, y5, y6, y7, y8], _ => exact ⟨y0, y1, y2, y3, y4, y5, y6, y7, y8, rfl⟩
  have hw1 := congrArg Prod.fst hw
  simp only at hw1
  rw [hw1] at hl2
  have g0 := hh 0 _ rfl
  have g1 := hh 1 _ rfl
  have g2 := hh 2 _ rfl
  have g3 := hh 3 _ rfl
  have g4 := hh 4 _ rfl
  have g5 := hh 5 _ rfl
  have g6 := hh 6 _ rfl
  have g7 := hh 7 _ rfl
  have g8 := hh 8 _ rfl
  simp [ki] at g0
  simp [ku] at g1
  simp [ki] at g2
  simp [ki] at g3
  simp [ki] at g4
  simp [ku] at g5
  simp [ki] at g6
  simp [ki] at g7
  simp [kb] at g8
  obtain ⟨a0, h0, _, _⟩ := DataW.trod_int Try.underlying3 f0
  obtain ⟨a1, h1, _, _⟩ := DataW.trod_int Try.underlying3 f1
  obtain ⟨b0, k0, _, _⟩ := DataW.trod_int Try.underlying3 g0
  obtain ⟨b1, k1, _, w1⟩ := DataW.trod_int Try.underlying29 g1
  obtain ⟨b2, k2, _, _⟩ := DataW.trod_int Try.underlying3 g2
  obtain ⟨b3, k3, _, _⟩ := DataW.trod_int Try.underlying3 g3
  obtain ⟨b4, k4, _, _⟩ := DataW.trod_int Try.underlying3 g4
  obtain ⟨b5, k5, _, w5⟩ := DataW.trod_int Try.underlying29 g5
  obtain ⟨b6, k6, _, _⟩ := DataW.trod_int Try.underlying3 g6
  obtain ⟨b7, k7, _, _⟩ := DataW.trod_int Try.underlying3 g7
  have hl8 := hl2.parts Try.underlying32 (j := 8) rfl rfl
  obtain ⟨Aj, nj, cj, xs, k8, _, _, _, _⟩ := trod_bytes Try.underlying30 Try.underlying5 (by kernel_rfl) (by kernel_rfl) hl8 g8
  obtain ⟨a3, h3, _, w3⟩ := DataW.trod_int Try.underlying29 f3
  obtain ⟨t1, rfl⟩ := u64_of_wf w1
  obtain ⟨t5, rfl⟩ := u64_of_wf w5
  obtain ⟨t3, rfl⟩ := u64_of_wf w3
  cases h0; cases h1; cases h3; cases k0; cases k1; cases k2; cases k3; cases k4; cases k5; cases k6; cases k7; cases k8
  exact ⟨⟨a0, a1, ⟨b0, t1, b2, b3, b4, t5, b6, b7, Aj, nj, cj⟩, t3⟩, rfl⟩
theorem open_acts20 {H : Type} {en : TypeId × Value → H} {W : World} {base r : Nat} {spare : Nat → Bool} {held : Bool} {v : Value} {d : DataW H} {ps : List MemPlace} {ts : List TypeId} {ds : List (DataW H)} {j : Nat} {t : TypeId} {reach : Reach}
    (hsz : (DataW.weightsEach Try.prog ts ds).all (· ≤ reachBytes) = true) (ht : ts[j]? = some t) (hd : ds[j]? = some d)
    (hval : Value.okWide Try.prog W reach r t v) (h : DataW.Trod en Try.prog W base spare held t v d ps) (et : t = 39 := by rfl) : ∃ A n c acts, v = .slice A n c ∧ n ≤ 140737488351232 ∧ Acts20 W A n acts := by
  subst et
  have ue := Try.underlying39
  obtain ⟨A0, n0, c0, rfl⟩ := okWide_slice ue hval
  obtain ⟨fuel, hf⟩ := h
  have hk : Try.prog.cellsOf 46 = 12 := by kernel_rfl
  have hB : Try.prog.bytesOf 46 = 112 := by kernel_rfl
  obtain ⟨A, n, c, ys, hcs, hl, hle, -, hn, hb, hlight, hcell⟩ := trod_elems ue hk (by rw [hB]; decide) (by decide) (light_of_each hsz ht hd) hf
  rw [hB] at hn
  simp [Value.cells] at hcs
  obtain ⟨rfl, rfl, rfl⟩ := hcs
  refine ⟨A0, n0, c0, ?_⟩
  by_cases h0 : 0 < n0
  · obtain ⟨b, off, rfl, hlt, hrow⟩ := hcell h0
    have hq : ∀ j, j < n0 → ∃ x : Act20, ∀ c u, x.cells[c]? = some u → W.cell? ⟨b, off + j * 12 + c, none⟩ = some u := by
      intro j hj
      obtain ⟨m, cs', htr, hlc, hci⟩ := hrow j (by omega)
      obtain ⟨a, rfl⟩ := act20_of hlc (hlight _ (List.getElem_mem (by omega))) htr
      refine ⟨a, fun c u hu => ?_⟩
      obtain ⟨hc, e⟩ := List.getElem?_eq_some_iff.1 hu
      rw [hci c hc, e]
    obtain ⟨acts, hal, hp⟩ := pick hq
    exact ⟨acts, rfl, by omega, hal, fun _ => ⟨b, off, rfl, hlt, fun j hj => hp j hj⟩⟩
  · exact ⟨[], rfl, by omega, by simp; omega, fun h => absurd h h0⟩
theorem open_act20 {H : Type} {en : TypeId × Value → H} {W : World} {base r : Nat} {spare : Nat → Bool} {held : Bool} {v : Value} {d : DataW H} {ps : List MemPlace} {ts : List TypeId} {ds : List (DataW H)} {j : Nat} {t : TypeId} {reach : Reach}
    (hsz : (DataW.weightsEach Try.prog ts ds).all (· ≤ reachBytes) = true) (ht : ts[j]? = some t) (hd : ds[j]? = some d)
    (hval : Value.okWide Try.prog W reach r t v) (h : DataW.Trod en Try.prog W base spare held t v d ps) (et : t = 46 := by rfl) : ∃ a : Act20, v = .agg a.cells.toArray := by
  subst et
  have ue := Try.underlying46
  obtain ⟨cs, rfl, hcs⟩ := okWide_struct ue hval
  have hk : Try.prog.cellsOf 46 = 12 := by kernel_rfl
  rw [hk] at hcs
  obtain ⟨fuel, hf⟩ := h
  obtain ⟨a, ha⟩ := act20_of (by simpa [Value.cells] using hcs) (light_of_each hsz ht hd) hf
  refine ⟨a, ?_⟩
  have : cs.toList = a.cells := by simpa [Value.cells] using ha
  rw [← this]
end Go.Proofs.Ytpfnphkgmjgmeaa
