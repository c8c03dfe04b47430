/- What a row with listed variables gives the walks; a world for the witness; a number among the arguments. -/
import Derived.Test.YtafpkecjicphoaaDoorDecD
import Derived.Test.YtafpkecjicphoaaDoorOpen
import Derived.Test.YtafpkecjicphoaaDoorOpenM
import Derived.Test.YtafpkecjicphoaaDoorTreeM
import Derived.Lib.LaidTab
import Derived.LaidMore
import Derived.MakeChecks
import Derived.Stop.LaidErr
import Derived.Shelf.Vars
namespace Go.Proofs.YtafpkecjicphoaaDoor
open Go Go.RowKit Go.ChangeShapes Go.WideShapes Go.ChangeAt
set_option linter.unusedVariables false
set_option linter.unusedSimpArgs false
set_option maxRecDepth 100000

/-- The heap that the door's own run leaves, the pinned table laid besides. -/
noncomputable def doorW (os : Os) : World :=
  { World.doorLaid Tryd.prog 80 os with heap := (World.doorLaid Tryd.prog 80 os).heap.modify 2 fun
      | .cells _ t frozen => .cells ((Pinned.utf8FirstZ : List Nat).map fun (z : Nat) => Value.int .u8 ((z : Nat) : Int)).toArray t frozen
      | o => o }
/-- The rows' list. -/
def laid06 : List (String × DataW Unit) := [("math/bits.deBruijn32tab", Rows.laid_math_bits_deBruijn32tab), ("math/bits.deBruijn64tab", Rows.laid_math_bits_deBruijn64tab), ("internal/strconv.uint64pow10", Rows.laid_internal_strconv_uint64pow10), ("unicode/utf8.acceptRanges", Rows.laid_unicode_utf8_acceptRanges), ("unicode/utf8.first", Rows.laid_unicode_utf8_first)]
theorem env_of {W : World} (h : laidMetH Tryd.prog laid06 W) (hs : W.ShapedOpen Tryd.prog) : Env W := by
  rw [MakeChecks.laidMetH_plain _ _ _ (by kernel_rfl)] at h
  have ht : Lib.TabIs Tryd.prog W "internal/strconv.uint64pow10" .u64 Lib.pow10Tab :=
    Lib.tabIs_of_head (g := 1) (t := 122) (e := 22) (n := 20) (by kernel_rfl) (by kernel_rfl) Tryd.underlying122 Tryd.underlying22 (by kernel_rfl) (by kernel_rfl) h.tail.tail
  exact ⟨Lib.tabBelow_of_tabIs ht, cell_of_shapedOpen_int (t := 3) (zero := #[.int .i64 0]) hs (of_decide_eq_true (by kernel_rfl)) (by kernel_rfl) rfl (by kernel_rfl) (by kernel_rfl) Tryd.underlying3⟩
theorem open_num {H : Type} {en : TypeId × Value → H} {W : World} {base r : Nat} {spare : Nat → Bool} {held : Bool} {v : Value} {d : DataW H} {ps : List MemPlace} {t : TypeId} {reach : Reach}
    (hval : Value.okWide Tryd.prog W reach r t v) (h : DataW.Trod en Tryd.prog W base spare held t v d ps) (et : t = 54 := by rfl) :
    ∃ n : Num, v = n.val ∧ n.dig.length ≤ 9223372036854775807 := by
  subst et
  have ue := Tryd.underlying54
  obtain ⟨cs, rfl, hcs⟩ := okWide_struct ue hval
  have hk : Tryd.prog.cellsOf 54 = 3 := by kernel_rfl
  rw [hk] at hcs
  obtain ⟨fuel, hf⟩ := h
  obtain ⟨u0, u1, u2, rfl⟩ : ∃ u0 u1 u2, cs = #[u0, u1, u2] := by
    obtain ⟨l⟩ := cs
    match l, hcs with
    | [u0, u1, u2], _ => exact ⟨u0, u1, u2, rfl⟩
  obtain ⟨zs, m2, _, hy, _, hzl, hz⟩ := DataW.trod_struct ue hf
  have hzl3 : zs.length = 3 := hzl
  obtain ⟨z0, z1, z2, rfl⟩ : ∃ z0 z1 z2, zs = [z0, z1, z2] := by
    match zs, hzl3 with
    | [z0, z1, z2], _ => exact ⟨z0, z1, z2, rfl⟩
  have f0 := hz 0 _ rfl
  have f1 := hz 1 _ rfl
  have f2 := hz 2 _ rfl
  have ki : Tryd.prog.cellsOf 3 = 1 := by kernel_rfl
  have kb : Tryd.prog.cellsOf 4 = 1 := by kernel_rfl
  have ks : Tryd.prog.cellsOf 9 = 1 := by kernel_rfl
  simp [Value.cells, kb] at f0
  simp [Value.cells, kb, ks] at f1
  simp [Value.cells, ki, kb, ks] at f2
  obtain ⟨a0, h0', _⟩ := DataW.trod_bool Tryd.underlying4 f0
  obtain ⟨a1, h1', _, hs1⟩ := DataW.trod_string Tryd.underlying9 f1
  obtain ⟨a2, h2', _, _⟩ := DataW.trod_int Tryd.underlying3 f2
  cases h0'
  cases h1'
  cases h2'
  obtain ⟨⟨l⟩⟩ := a1
  exact ⟨⟨a0, l, a2⟩, rfl, hs1⟩
theorem open_node {H : Type} {en : TypeId × Value → H} {W : World} {base r : Nat} {spare : Nat → Bool} {held : Bool} {v : Value} {d : DataW H} {ps : List MemPlace} {t : TypeId} {reach : Reach}
    (hval : Value.okWide Tryd.prog W reach r t v) (h : DataW.Trod en Tryd.prog W base spare held t v d ps) (hl : Light Tryd.prog t d) (et : t = 26 := by rfl) :
    ∃ cs n, v = .agg cs ∧ NodeAt W cs n := by
  subst et
  obtain ⟨cs, rfl, hcs⟩ := okWide_struct Tryd.underlying26 hval
  obtain ⟨fuel, hf⟩ := h
  have e : (Value.agg cs).cells.toList = cs.toList := rfl
  obtain ⟨n, hn⟩ := trod_node fuel _ _ hl hf
  exact ⟨cs, n, rfl, by simpa [Value.cells] using hn⟩
end Go.Proofs.YtafpkecjicphoaaDoor
