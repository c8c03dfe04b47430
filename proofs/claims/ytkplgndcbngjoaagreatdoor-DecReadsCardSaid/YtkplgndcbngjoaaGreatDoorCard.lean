/- What a row with listed variables gives the walks; a world for the witness; a number among the arguments. -/
import Derived.Test.YtkplgndcbngjoaaGreatDoorDecD
import Derived.Test.YtkplgndcbngjoaaGreatDoorOpen
import Derived.Test.YtkplgndcbngjoaaGreatDoorOpenM
import Derived.Lib.LaidTab
import Derived.LaidMore
import Derived.MakeChecks
import Derived.Stop.LaidErr
import Derived.Shelf.Vars
namespace Go.Proofs.YtkplgndcbngjoaaGreatDoor
open Go Go.RowKit Go.ChangeShapes Go.WideShapes Go.ChangeAt
set_option linter.unusedVariables false
set_option linter.unusedSimpArgs false
set_option maxRecDepth 100000

/-- The heap that the door's own run leaves, the pinned table laid besides. -/
noncomputable def doorW (os : Os) : World :=
  { World.doorLaid Tryz.prog 80 os with heap := (World.doorLaid Tryz.prog 80 os).heap.modify 1 fun
      | .cells _ t frozen => .cells ((Pinned.utf8FirstZ : List Nat).map fun (z : Nat) => Value.int .u8 ((z : Nat) : Int)).toArray t frozen
      | o => o }
/-- The row's list (the same for all laws of chapter 06). -/
def laid06 : List (String × DataW Unit) := [("math/bits.deBruijn32tab", Rows.laid_math_bits_deBruijn32tab), ("math/bits.deBruijn64tab", Rows.laid_math_bits_deBruijn64tab), ("internal/strconv.uint64pow10", Rows.laid_internal_strconv_uint64pow10), ("unicode/utf8.acceptRanges", Rows.laid_unicode_utf8_acceptRanges), ("strconv.ErrRange", Rows.laid_strconv_ErrRange), ("strconv.ErrSyntax", Rows.laid_strconv_ErrSyntax), ("unicode/utf8.first", Rows.laid_unicode_utf8_first)]
theorem env_of {W : World} (h : laidMetH Tryz.prog laid06 W) (hs : W.ShapedOpen Tryz.prog) : Env W := by
  rw [MakeChecks.laidMetH_plain _ _ _ (by kernel_rfl)] at h
  have ht : Lib.TabIs Tryz.prog W "internal/strconv.uint64pow10" .u64 Lib.pow10Tab :=
    Lib.tabIs_of_head (g := 5) (t := 128) (e := 63) (n := 20) (by kernel_rfl) (by kernel_rfl) Tryz.underlying128 Tryz.underlying63 (by kernel_rfl) (by kernel_rfl) (h.tail).tail
  exact ⟨Lib.tabBelow_of_tabIs ht, cell_of_shapedOpen_int (t := 3) (zero := #[.int .i64 0]) hs (of_decide_eq_true (by kernel_rfl)) (by kernel_rfl) rfl (by kernel_rfl) (by kernel_rfl) Tryz.underlying3⟩
theorem open_num {H : Type} {en : TypeId × Value → H} {W : World} {base r : Nat} {spare : Nat → Bool} {held : Bool} {v : Value} {d : DataW H} {ps : List MemPlace} {t : TypeId} {reach : Reach}
    (hval : Value.okWide Tryz.prog W reach r t v) (h : DataW.Trod en Tryz.prog W base spare held t v d ps) (et : t = 23 := by rfl) :
    ∃ n : Num, v = n.val ∧ n.dig.length ≤ 9223372036854775807 := by
  subst et
  have ue := Tryz.underlying23
  obtain ⟨cs, rfl, hcs⟩ := okWide_struct ue hval
  have hk : Tryz.prog.cellsOf 23 = 3 := by kernel_rfl
  rw [hk] at hcs
  obtain ⟨fuel, hf⟩ := h
  obtain ⟨u0, u1, u2, rfl⟩ : ∃ u0 u1 u2, cs = #[u0, u1, u2] := by
    obtain ⟨l⟩ := cs
    match l, hcs with
    | [u0, u1, u2], _ => exact ⟨u0, u1, u2, rfl⟩
  obtain ⟨zs, m2, _, hy, _, hzl, hz⟩ := DataW.trod_struct ue hf
  have hzl3 : zs.length = 3 := hzl
  obtain ⟨z0, z1, z2, rfl⟩ : ∃ z0 z1 z2, zs = [z0, z1, z2] := by
    match zs, hzl3 with
    | [z0, z1, z2], _ => exact ⟨z0, z1, z2, rfl⟩
  have f0 := hz 0 _ rfl
  have f1 := hz 1 _ rfl
  have f2 := hz 2 _ rfl
  have ki : Tryz.prog.cellsOf 3 = 1 := by kernel_rfl
  have kb : Tryz.prog.cellsOf 4 = 1 := by kernel_rfl
  have ks : Tryz.prog.cellsOf 9 = 1 := by kernel_rfl
  simp [Value.cells, kb] at f0
  simp [Value.cells, kb, ks] at f1
  simp [Value.cells, ki, kb, ks] at f2
  obtain ⟨a0, h0', _⟩ := DataW.trod_bool Tryz.underlying4 f0
  obtain ⟨a1, h1', _, hs1⟩ := DataW.trod_string Tryz.underlying9 f1
  obtain ⟨a2, h2', _, _⟩ := DataW.trod_int Tryz.underlying3 f2
  cases h0'
  cases h1'
  cases h2'
  obtain ⟨⟨l⟩⟩ := a1
  exact ⟨⟨a0, l, a2⟩, rfl, hs1⟩
end Go.Proofs.YtkplgndcbngjoaaGreatDoor
