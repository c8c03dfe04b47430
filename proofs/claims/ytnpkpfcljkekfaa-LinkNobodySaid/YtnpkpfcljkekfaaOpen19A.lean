/- What a row tells of one call of layer 19. -/
import Derived.Test.YtnpkpfcljkekfaaOpenM
import Derived.Test.YtnpkpfcljkekfaaOpen
namespace Go.Proofs.Ytnpkpfcljkekfaa
open Go Go.RowKit Go.ChangeShapes Go.WideShapes
set_option linter.unusedVariables false
set_option maxRecDepth 100000
set_option linter.unusedSimpArgs false

theorem open_act19 {H : Type} {en : TypeId × Value → H} {W : World} {base r : Nat} {spare : Nat → Bool} {held : Bool} {v : Value} {d : DataW H} {ps : List MemPlace} {ts : List TypeId} {ds : List (DataW H)} {j : Nat} {t : TypeId} {reach : Reach}
    (hsz : (DataW.weightsEach Try.prog ts ds).all (· ≤ reachBytes) = true) (ht : ts[j]? = some t) (hd : ds[j]? = some d)
    (hval : Value.okWide Try.prog W reach r t v) (h : DataW.Trod en Try.prog W base spare held t v d ps) (et : t = 49 := by rfl) :
    ∃ kind net i at_ b A n c xs, v = .agg #[.int .i64 kind, .int .i64 net, .int .i64 i, .int .i64 at_, .int .u32 ((b : UInt32).toNat : Int), .slice A n c] ∧ n ≤ c ∧ n ≤ 140737488351232 ∧ Bytes W A n xs := by
  subst et
  have ue := Try.underlying49
  obtain ⟨cs, rfl, hcs⟩ := okWide_struct ue hval
  have hk : Try.prog.cellsOf 49 = 6 := by kernel_rfl
  rw [hk] at hcs
  obtain ⟨fuel, hf⟩ := h
  have hli := light_of_each hsz ht hd
  obtain ⟨u0, u1, u2, u3, u4, u5, rfl⟩ : ∃ u0 u1 u2 u3 u4 u5, cs = #[u0, u1, u2, u3, u4, u5] := by
    obtain ⟨l⟩ := cs
    match l, hcs with
    | [u0, u1, u2, u3, u4, u5], _ => exact ⟨u0, u1, u2, u3, u4, u5, rfl⟩
  obtain ⟨zs, m2, _, hy, _, hzl, hz⟩ := DataW.trod_struct ue hf
  have hzl6 : zs.length = 6 := hzl
  obtain ⟨z0, z1, z2, z3, z4, z5, rfl⟩ : ∃ z0 z1 z2 z3 z4 z5, zs = [z0, z1, z2, z3, z4, z5] := by
    match zs, hzl6 with
    | [z0, z1, z2, z3, z4, z5], _ => exact ⟨z0, z1, z2, z3, z4, z5, rfl⟩
  have hy1 := congrArg Prod.fst hy
  simp only at hy1
  rw [hy1] at hli
  have f0 := hz 0 _ rfl
  have f1 := hz 1 _ rfl
  have f2 := hz 2 _ rfl
  have f3 := hz 3 _ rfl
  have f4 := hz 4 _ rfl
  have f5 := hz 5 _ rfl
  have ki : Try.prog.cellsOf 3 = 1 := by kernel_rfl
  have ku : Try.prog.cellsOf 47 = 1 := by kernel_rfl
  have kb : Try.prog.cellsOf 23 = 1 := by kernel_rfl
  simp [Value.cells, ki] at f0
  simp [Value.cells, ki] at f1
  simp [Value.cells, ki] at f2
  simp [Value.cells, ki] at f3
  simp [Value.cells, ku] at f4
  simp [Value.cells, kb] at f5
  obtain ⟨a0, h0', _, _⟩ := DataW.trod_int Try.underlying3 f0
  obtain ⟨a1, h1', _, _⟩ := DataW.trod_int Try.underlying3 f1
  obtain ⟨a2, h2', _, _⟩ := DataW.trod_int Try.underlying3 f2
  obtain ⟨a3, h3', _, _⟩ := DataW.trod_int Try.underlying3 f3
  obtain ⟨a4, h4', _, w4⟩ := DataW.trod_int Try.underlying47 f4
  obtain ⟨m4, rfl⟩ := u32_of_wf w4
  have hl5 := hli.parts ue (j := 5) rfl rfl
  obtain ⟨Aj, nj, cj, xs, h5', h6, h7, _, h9⟩ := trod_bytes Try.underlying23 Try.underlying5 (by kernel_rfl) (by kernel_rfl) hl5 f5
  cases h0'
  cases h1'
  cases h2'
  cases h3'
  cases h4'
  cases h5'
  exact ⟨a0, a1, a2, a3, m4, Aj, nj, cj, xs, rfl, h6, h7, h9⟩
end Go.Proofs.Ytnpkpfcljkekfaa
