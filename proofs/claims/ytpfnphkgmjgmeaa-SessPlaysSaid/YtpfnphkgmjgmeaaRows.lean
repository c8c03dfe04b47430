/-
  No cell of these rows narrows 'for every input' (looked for: loops, veiled, ifaces, maps, wideKeys, modest, calm, conditions, laid).
  DERIVED. THE GIVEN ROWS OF THIS SEAT. 6 by the template 'for every input the law returns true; each argument reads behind the call as it read before'; 0 by the template 'total and deterministic' (their statements: YtpfnphkgmjgmeaaTotals.lean).
  GIVEN WITH THE SEED: the statements are not yours to turn. If you find one false, say at which input.
  Laid BY PROGRAM, IN A SANDBOX (cutbox-rows.mjs): the forced cells as the released guide's own fill.sh prints them over the translation 9c970e871181d9a0… (all of the seat's roots in one cut). By AI agents, Wed Nov 11 2026. No macro, syntax, notation, axiom, sorry.
-/
import Derived.Test.YtpfnphkgmjgmeaaChecked
import GoSem.Claim
import GoSem.ClaimJoined
import GoSem.ClaimMapViews
import Derived.JoinedTies
import Derived.KernelRfl
namespace Go.Proofs.Ytpfnphkgmjgmeaa
/- THE CELL 'sum', in the pinned program and in every row, IS THE sha256 OF THE DUMP (.gsa) THAT YtpfnphkgmjgmeaaProg.lean LOADS. Nothing in Lean hashes anything: it is a label: what it is worth is what the hold of that sum in a sandbox is worth. -/
noncomputable def Try.pinned : Pinned := { name := "ytpfnphkgmjgmeaa", sum := "9c970e871181d9a0e62f8d8dab26df28f3d06e1791c6a5165cfc36d0e237db24", checked := Try.checked }
namespace Rows
def none {H : Type} : Left H := { results := [], args := [] }

/-- 'gantlinelaw20.SessOnce': WHATEVER THE INPUT: true; the input reads as it did. -/
def sessOnceSpec : ChangeSpec := { name := "sessOnce", fn := fun _ => fun
  | [d1, d2] => { results := [.lit (.bool true)], args := [d1, d2] }
  | _ => none }
def sessOnceRow : OpenClaim := { program := "ytpfnphkgmjgmeaa", sum := "9c970e871181d9a0e62f8d8dab26df28f3d06e1791c6a5165cfc36d0e237db24", func := "gantline/gantlinelaw20.SessOnce", spec := "sessOnce", unfollowed := true, recurses := true, apart := false }
def SessOnceSaid : Prop := sessOnceRow.holds Try.pinned (OpenSpec.ofChange sessOnceSpec)

/-- ITS FALSE NEIGHBOUR: 'it returns false'. Refute it at one input. -/
def sessOnceWrong : ChangeSpec := { name := "sessOnce", fn := fun _ => fun
  | [d1, d2] => { results := [.lit (.bool false)], args := [d1, d2] }
  | _ => none }
def SessOnceWrongFalsely : Prop := sessOnceRow.holds Try.pinned (OpenSpec.ofChange sessOnceWrong)

/-- 'gantlinelaw20.SessPlays': WHATEVER THE INPUT: true; the input reads as it did. -/
def sessPlaysSpec : ChangeSpec := { name := "sessPlays", fn := fun _ => fun
  | [d1, d2, d3] => { results := [.lit (.bool true)], args := [d1, d2, d3] }
  | _ => none }
def sessPlaysRow : OpenClaim := { program := "ytpfnphkgmjgmeaa", sum := "9c970e871181d9a0e62f8d8dab26df28f3d06e1791c6a5165cfc36d0e237db24", func := "gantline/gantlinelaw20.SessPlays", spec := "sessPlays", unfollowed := true, recurses := true, apart := false }
def SessPlaysSaid : Prop := sessPlaysRow.holds Try.pinned (OpenSpec.ofChange sessPlaysSpec)

/-- ITS FALSE NEIGHBOUR: 'it returns false'. Refute it at one input. -/
def sessPlaysWrong : ChangeSpec := { name := "sessPlays", fn := fun _ => fun
  | [d1, d2, d3] => { results := [.lit (.bool false)], args := [d1, d2, d3] }
  | _ => none }
def SessPlaysWrongFalsely : Prop := sessPlaysRow.holds Try.pinned (OpenSpec.ofChange sessPlaysWrong)

/-- 'gantlinelaw20.SessBounds': WHATEVER THE INPUT: true; the input reads as it did. -/
def sessBoundsSpec : ChangeSpec := { name := "sessBounds", fn := fun _ => fun
  | [d1, d2, d3] => { results := [.lit (.bool true)], args := [d1, d2, d3] }
  | _ => none }
def sessBoundsRow : OpenClaim := { program := "ytpfnphkgmjgmeaa", sum := "9c970e871181d9a0e62f8d8dab26df28f3d06e1791c6a5165cfc36d0e237db24", func := "gantline/gantlinelaw20.SessBounds", spec := "sessBounds", unfollowed := true, recurses := true, apart := false }
def SessBoundsSaid : Prop := sessBoundsRow.holds Try.pinned (OpenSpec.ofChange sessBoundsSpec)

/-- ITS FALSE NEIGHBOUR: 'it returns false'. Refute it at one input. -/
def sessBoundsWrong : ChangeSpec := { name := "sessBounds", fn := fun _ => fun
  | [d1, d2, d3] => { results := [.lit (.bool false)], args := [d1, d2, d3] }
  | _ => none }
def SessBoundsWrongFalsely : Prop := sessBoundsRow.holds Try.pinned (OpenSpec.ofChange sessBoundsWrong)

/-- 'gantlinelaw20.SessStays': WHATEVER THE INPUT: true; the input reads as it did. -/
def sessStaysSpec : ChangeSpec := { name := "sessStays", fn := fun _ => fun
  | [d1, d2, d3] => { results := [.lit (.bool true)], args := [d1, d2, d3] }
  | _ => none }
def sessStaysRow : OpenClaim := { program := "ytpfnphkgmjgmeaa", sum := "9c970e871181d9a0e62f8d8dab26df28f3d06e1791c6a5165cfc36d0e237db24", func := "gantline/gantlinelaw20.SessStays", spec := "sessStays", unfollowed := true, recurses := true, apart := false }
def SessStaysSaid : Prop := sessStaysRow.holds Try.pinned (OpenSpec.ofChange sessStaysSpec)

/-- ITS FALSE NEIGHBOUR: 'it returns false'. Refute it at one input. -/
def sessStaysWrong : ChangeSpec := { name := "sessStays", fn := fun _ => fun
  | [d1, d2, d3] => { results := [.lit (.bool false)], args := [d1, d2, d3] }
  | _ => none }
def SessStaysWrongFalsely : Prop := sessStaysRow.holds Try.pinned (OpenSpec.ofChange sessStaysWrong)

/-- 'gantlinelaw20.SessRefused': WHATEVER THE INPUT: true; the input reads as it did. -/
def sessRefusedSpec : ChangeSpec := { name := "sessRefused", fn := fun _ => fun
  | [d1, d2] => { results := [.lit (.bool true)], args := [d1, d2] }
  | _ => none }
def sessRefusedRow : OpenClaim := { program := "ytpfnphkgmjgmeaa", sum := "9c970e871181d9a0e62f8d8dab26df28f3d06e1791c6a5165cfc36d0e237db24", func := "gantline/gantlinelaw20.SessRefused", spec := "sessRefused", unfollowed := true, recurses := true, apart := false }
def SessRefusedSaid : Prop := sessRefusedRow.holds Try.pinned (OpenSpec.ofChange sessRefusedSpec)

/-- ITS FALSE NEIGHBOUR: 'it returns false'. Refute it at one input. -/
def sessRefusedWrong : ChangeSpec := { name := "sessRefused", fn := fun _ => fun
  | [d1, d2] => { results := [.lit (.bool false)], args := [d1, d2] }
  | _ => none }
def SessRefusedWrongFalsely : Prop := sessRefusedRow.holds Try.pinned (OpenSpec.ofChange sessRefusedWrong)

/-- 'gantlinelaw20.SessNobody': WHATEVER THE INPUT: true; the input reads as it did. -/
def sessNobodySpec : ChangeSpec := { name := "sessNobody", fn := fun _ => fun
  | [d] => { results := [.lit (.bool true)], args := [d] }
  | _ => none }
def sessNobodyRow : OpenClaim := { program := "ytpfnphkgmjgmeaa", sum := "9c970e871181d9a0e62f8d8dab26df28f3d06e1791c6a5165cfc36d0e237db24", func := "gantline/gantlinelaw20.SessNobody", spec := "sessNobody", unfollowed := true, recurses := true, apart := false }
def SessNobodySaid : Prop := sessNobodyRow.holds Try.pinned (OpenSpec.ofChange sessNobodySpec)

/-- ITS FALSE NEIGHBOUR: 'it returns false'. Refute it at one input. -/
def sessNobodyWrong : ChangeSpec := { name := "sessNobody", fn := fun _ => fun
  | [d] => { results := [.lit (.bool false)], args := [d] }
  | _ => none }
def SessNobodyWrongFalsely : Prop := sessNobodyRow.holds Try.pinned (OpenSpec.ofChange sessNobodyWrong)

/- THE SECOND FORM. 'bulk': how many values and letters a reading holds, each counted each time it is reached (what is shared counts as often as it is met; a slice's spare places count too). A statement '..UptoSaid' is the law's where the arguments, and the package variables that the reading takes, are together of bulk at most 1048576: NARROWER than '..Said'. Prove '..Said' where nothing that the law and all that it calls make is longer than what came in: it says more and counts as full. Else prove '..UptoSaid'. A law counts once. -/
mutual
def uptoBulk {H : Type} : DataW H → Nat
  | .lit (.string bytes) => bytes.length + 1
  | .lit _ => 1
  | .nil => 1
  | .ptr d => uptoBulk d + 1
  | .slice elems spare => uptoBulkAll elems + uptoBulkAll spare + 1
  | .agg parts => uptoBulkAll parts + 1
  | .iface _ d => uptoBulk d + 1
  | .map entries => uptoBulkEntries entries + 1
  | .held _ => 1
def uptoBulkAll {H : Type} : List (DataW H) → Nat
  | [] => 0
  | d :: r => uptoBulk d + uptoBulkAll r
def uptoBulkEntries {H : Type} : List (Lit × DataW H) → Nat
  | [] => 0
  | x :: r => uptoBulkEntry x + uptoBulkEntries r
def uptoBulkEntry {H : Type} : Lit × DataW H → Nat
  | (.string bytes, d) => bytes.length + uptoBulk d + 1
  | (_, d) => uptoBulk d + 1
 end
def uptoSmall : (H : Type) → List (DataW H) → Bool := fun _ ds => decide (uptoBulkAll ds ≤ 1048576)
def OpenSpec.upto (s : _root_.Go.ChangeSpec) : _root_.Go.OpenSpec := { _root_.Go.OpenSpec.ofChange s with cond := some uptoSmall }

/-- 'gantlinelaw20.SessOnce', WHERE WHAT IT READS IS OF BULK AT MOST 1048576: true; the input reads as it did. -/
def sessOnceUptoRow : OpenClaim := { program := "ytpfnphkgmjgmeaa", sum := "9c970e871181d9a0e62f8d8dab26df28f3d06e1791c6a5165cfc36d0e237db24", func := "gantline/gantlinelaw20.SessOnce", spec := "sessOnce", unfollowed := true, recurses := true, apart := false, narrowed := true }
def SessOnceUptoSaid : Prop := sessOnceUptoRow.holds Try.pinned (OpenSpec.upto sessOnceSpec)

/-- 'gantlinelaw20.SessPlays', WHERE WHAT IT READS IS OF BULK AT MOST 1048576: true; the input reads as it did. -/
def sessPlaysUptoRow : OpenClaim := { program := "ytpfnphkgmjgmeaa", sum := "9c970e871181d9a0e62f8d8dab26df28f3d06e1791c6a5165cfc36d0e237db24", func := "gantline/gantlinelaw20.SessPlays", spec := "sessPlays", unfollowed := true, recurses := true, apart := false, narrowed := true }
def SessPlaysUptoSaid : Prop := sessPlaysUptoRow.holds Try.pinned (OpenSpec.upto sessPlaysSpec)

/-- 'gantlinelaw20.SessBounds', WHERE WHAT IT READS IS OF BULK AT MOST 1048576: true; the input reads as it did. -/
def sessBoundsUptoRow : OpenClaim := { program := "ytpfnphkgmjgmeaa", sum := "9c970e871181d9a0e62f8d8dab26df28f3d06e1791c6a5165cfc36d0e237db24", func := "gantline/gantlinelaw20.SessBounds", spec := "sessBounds", unfollowed := true, recurses := true, apart := false, narrowed := true }
def SessBoundsUptoSaid : Prop := sessBoundsUptoRow.holds Try.pinned (OpenSpec.upto sessBoundsSpec)

/-- 'gantlinelaw20.SessStays', WHERE WHAT IT READS IS OF BULK AT MOST 1048576: true; the input reads as it did. -/
def sessStaysUptoRow : OpenClaim := { program := "ytpfnphkgmjgmeaa", sum := "9c970e871181d9a0e62f8d8dab26df28f3d06e1791c6a5165cfc36d0e237db24", func := "gantline/gantlinelaw20.SessStays", spec := "sessStays", unfollowed := true, recurses := true, apart := false, narrowed := true }
def SessStaysUptoSaid : Prop := sessStaysUptoRow.holds Try.pinned (OpenSpec.upto sessStaysSpec)

/-- 'gantlinelaw20.SessRefused', WHERE WHAT IT READS IS OF BULK AT MOST 1048576: true; the input reads as it did. -/
def sessRefusedUptoRow : OpenClaim := { program := "ytpfnphkgmjgmeaa", sum := "9c970e871181d9a0e62f8d8dab26df28f3d06e1791c6a5165cfc36d0e237db24", func := "gantline/gantlinelaw20.SessRefused", spec := "sessRefused", unfollowed := true, recurses := true, apart := false, narrowed := true }
def SessRefusedUptoSaid : Prop := sessRefusedUptoRow.holds Try.pinned (OpenSpec.upto sessRefusedSpec)

/-- 'gantlinelaw20.SessNobody', WHERE WHAT IT READS IS OF BULK AT MOST 1048576: true; the input reads as it did. -/
def sessNobodyUptoRow : OpenClaim := { program := "ytpfnphkgmjgmeaa", sum := "9c970e871181d9a0e62f8d8dab26df28f3d06e1791c6a5165cfc36d0e237db24", func := "gantline/gantlinelaw20.SessNobody", spec := "sessNobody", unfollowed := true, recurses := true, apart := false, narrowed := true }
def SessNobodyUptoSaid : Prop := sessNobodyUptoRow.holds Try.pinned (OpenSpec.upto sessNobodySpec)

end Rows
end Go.Proofs.Ytpfnphkgmjgmeaa
