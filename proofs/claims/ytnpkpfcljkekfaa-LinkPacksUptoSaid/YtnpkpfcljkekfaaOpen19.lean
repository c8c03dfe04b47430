/- What a row tells of a message that came in. -/
import Derived.Test.YtnpkpfcljkekfaaOpenM
import Derived.Test.YtnpkpfcljkekfaaOpen
namespace Go.Proofs.Ytnpkpfcljkekfaa
open Go Go.RowKit Go.ChangeShapes Go.WideShapes
set_option linter.unusedVariables false
set_option maxRecDepth 100000
set_option linter.unusedSimpArgs false

theorem open_msg {H : Type} {en : TypeId × Value → H} {W : World} {base r : Nat} {spare : Nat → Bool} {held : Bool} {v : Value} {d : DataW H} {ps : List MemPlace} {ts : List TypeId} {ds : List (DataW H)} {j : Nat} {t : TypeId} {reach : Reach}
    (hsz : (DataW.weightsEach Try.prog ts ds).all (· ≤ reachBytes) = true) (ht : ts[j]? = some t) (hd : ds[j]? = some d)
    (hval : Value.okWide Try.prog W reach r t v) (h : DataW.Trod en Try.prog W base spare held t v d ps) (et : t = 25 := by rfl) :
    ∃ (kind : Int) (token : UInt64) (epoch seq ack : Int) (bits : UInt64) (credit format : Int) (A : Option Addr) (n c : Nat) (xs : List UInt8), v = .agg #[.int .i64 kind, .int .u64 (token.toNat : Int), .int .i64 epoch, .int .i64 seq, .int .i64 ack, .int .u64 (bits.toNat : Int), .int .i64 credit, .int .i64 format, .slice A n c] ∧ n ≤ c ∧ n ≤ 140737488351232 ∧ Bytes W A n xs := by
  subst et
  have ue := Try.underlying25
  obtain ⟨cs, rfl, hcs⟩ := okWide_struct ue hval
  have hk : Try.prog.cellsOf 25 = 9 := by kernel_rfl
  rw [hk] at hcs
  obtain ⟨fuel, hf⟩ := h
  have hli := light_of_each hsz ht hd
  obtain ⟨u0, u1, u2, u3, u4, u5, u6, u7, u8, rfl⟩ : ∃ u0 u1 u2 u3 u4 u5 u6 u7 u8, cs = #[u0, u1, u2, u3, u4, u5, u6, u7, u8] := by
    obtain ⟨l⟩ := cs
    match l, hcs with
    | [u0, u1, u2, u3, u4, u5, u6, u7, u8], _ => exact ⟨u0, u1, u2, u3, u4, u5, u6, u7, u8, rfl⟩
  obtain ⟨zs, m2, _, hy, _, hzl, hz⟩ := DataW.trod_struct ue hf
  have hzl9 : zs.length = 9 := hzl
  obtain ⟨z0, z1, z2, z3, z4, z5, z6, z7, z8, rfl⟩ : ∃ z0 z1 z2 z3 z4 z5 z6 z7 z8, zs = [z0, z1, z2, z3, z4, z5, z6, z7, z8] := by
    match zs, hzl9 with
    | [z0, z1, z2, z3, z4, z5, z6, z7, z8], _ => exact ⟨z0, z1, z2, z3, z4, z5, z6, z7, z8, rfl⟩
  have hy1 := congrArg Prod.fst hy
  simp only at hy1
  rw [hy1] at hli
  have f0 := hz 0 _ rfl
  have f1 := hz 1 _ rfl
  have f2 := hz 2 _ rfl
  have f3 := hz 3 _ rfl
  have f4 := hz 4 _ rfl
  have f5 := hz 5 _ rfl
  have f6 := hz 6 _ rfl
  have f7 := hz 7 _ rfl
  have f8 := hz 8 _ rfl
  have ki : Try.prog.cellsOf 3 = 1 := by kernel_rfl
  have ku : Try.prog.cellsOf 22 = 1 := by kernel_rfl
  have kb : Try.prog.cellsOf 23 = 1 := by kernel_rfl
  simp [Value.cells, ki] at f0
  simp [Value.cells, ku] at f1
  simp [Value.cells, ki] at f2
  simp [Value.cells, ki] at f3
  simp [Value.cells, ki] at f4
  simp [Value.cells, ku] at f5
  simp [Value.cells, ki] at f6
  simp [Value.cells, ki] at f7
  simp [Value.cells, kb] at f8
  obtain ⟨a0, h0', _, _⟩ := DataW.trod_int Try.underlying3 f0
  obtain ⟨a1, h1', _, w1⟩ := DataW.trod_int Try.underlying22 f1
  obtain ⟨a2, h2', _, _⟩ := DataW.trod_int Try.underlying3 f2
  obtain ⟨a3, h3', _, _⟩ := DataW.trod_int Try.underlying3 f3
  obtain ⟨a4, h4', _, _⟩ := DataW.trod_int Try.underlying3 f4
  obtain ⟨a5, h5', _, w5⟩ := DataW.trod_int Try.underlying22 f5
  obtain ⟨a6, h6', _, _⟩ := DataW.trod_int Try.underlying3 f6
  obtain ⟨a7, h7', _, _⟩ := DataW.trod_int Try.underlying3 f7
  obtain ⟨m1, rfl⟩ := u64_of_wf w1
  obtain ⟨m5, rfl⟩ := u64_of_wf w5
  have hl8 := hli.parts ue (j := 8) rfl rfl
  obtain ⟨Aj, nj, cj, xs, h8', h6, h7, _, h9⟩ := trod_bytes Try.underlying23 Try.underlying5 (by kernel_rfl) (by kernel_rfl) hl8 f8
  cases h0'
  cases h1'
  cases h2'
  cases h3'
  cases h4'
  cases h5'
  cases h6'
  cases h7'
  cases h8'
  exact ⟨a0, m1, a2, a3, a4, m5, a6, a7, Aj, nj, cj, xs, rfl, h6, h7, h9⟩
end Go.Proofs.Ytnpkpfcljkekfaa
