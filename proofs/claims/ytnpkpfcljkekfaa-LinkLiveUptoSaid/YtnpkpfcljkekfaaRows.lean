/-
  No cell of these rows narrows 'for every input' (looked for: loops, veiled, ifaces, maps, wideKeys, modest, calm, conditions, laid).
  DERIVED. THE GIVEN ROWS OF THIS SEAT. 6 by the template 'for every input the law returns true; each argument reads behind the call as it read before'; 0 by the template 'total and deterministic' (their statements: YtnpkpfcljkekfaaTotals.lean).
  GIVEN WITH THE SEED: the statements are not yours to turn. If you find one false, say at which input.
  Laid BY PROGRAM, IN A SANDBOX (cutbox-rows.mjs): the forced cells as the released guide's own fill.sh prints them over the translation f647adec62fefef3… (all of the seat's roots in one cut). By AI agents, Wed Nov 11 2026. No macro, syntax, notation, axiom, sorry.
-/
import Derived.Test.YtnpkpfcljkekfaaChecked
import GoSem.Claim
import GoSem.ClaimJoined
import GoSem.ClaimMapViews
import Derived.JoinedTies
import Derived.KernelRfl
namespace Go.Proofs.Ytnpkpfcljkekfaa
/- THE CELL 'sum', in the pinned program and in every row, IS THE sha256 OF THE DUMP (.gsa) THAT YtnpkpfcljkekfaaProg.lean LOADS. Nothing in Lean hashes anything: it is a label: what it is worth is what the hold of that sum in a sandbox is worth. -/
noncomputable def Try.pinned : Pinned := { name := "ytnpkpfcljkekfaa", sum := "f647adec62fefef398de78ea0bb8d9aa10a1fee991872d557c87dd0d475a5504", checked := Try.checked }
namespace Rows
def none {H : Type} : Left H := { results := [], args := [] }

/-- 'gantlinelaw19.LinkPacks': WHATEVER THE INPUT: true; the input reads as it did. -/
def linkPacksSpec : ChangeSpec := { name := "linkPacks", fn := fun _ => fun
  | [d1, d2] => { results := [.lit (.bool true)], args := [d1, d2] }
  | _ => none }
def linkPacksRow : OpenClaim := { program := "ytnpkpfcljkekfaa", sum := "f647adec62fefef398de78ea0bb8d9aa10a1fee991872d557c87dd0d475a5504", func := "gantline/gantlinelaw19.LinkPacks", spec := "linkPacks", unfollowed := true, recurses := true, apart := false }
def LinkPacksSaid : Prop := linkPacksRow.holds Try.pinned (OpenSpec.ofChange linkPacksSpec)

/-- ITS FALSE NEIGHBOUR: 'it returns false'. Refute it at one input. -/
def linkPacksWrong : ChangeSpec := { name := "linkPacks", fn := fun _ => fun
  | [d1, d2] => { results := [.lit (.bool false)], args := [d1, d2] }
  | _ => none }
def LinkPacksWrongFalsely : Prop := linkPacksRow.holds Try.pinned (OpenSpec.ofChange linkPacksWrong)

/-- 'gantlinelaw19.LinkTells': WHATEVER THE INPUT: true; the input reads as it did. -/
def linkTellsSpec : ChangeSpec := { name := "linkTells", fn := fun _ => fun
  | [d] => { results := [.lit (.bool true)], args := [d] }
  | _ => none }
def linkTellsRow : OpenClaim := { program := "ytnpkpfcljkekfaa", sum := "f647adec62fefef398de78ea0bb8d9aa10a1fee991872d557c87dd0d475a5504", func := "gantline/gantlinelaw19.LinkTells", spec := "linkTells", unfollowed := true, recurses := true, apart := false }
def LinkTellsSaid : Prop := linkTellsRow.holds Try.pinned (OpenSpec.ofChange linkTellsSpec)

/-- ITS FALSE NEIGHBOUR: 'it returns false'. Refute it at one input. -/
def linkTellsWrong : ChangeSpec := { name := "linkTells", fn := fun _ => fun
  | [d] => { results := [.lit (.bool false)], args := [d] }
  | _ => none }
def LinkTellsWrongFalsely : Prop := linkTellsRow.holds Try.pinned (OpenSpec.ofChange linkTellsWrong)

/-- 'gantlinelaw19.LinkPrefix': WHATEVER THE INPUT: true; the input reads as it did. -/
def linkPrefixSpec : ChangeSpec := { name := "linkPrefix", fn := fun _ => fun
  | [d1, d2, d3] => { results := [.lit (.bool true)], args := [d1, d2, d3] }
  | _ => none }
def linkPrefixRow : OpenClaim := { program := "ytnpkpfcljkekfaa", sum := "f647adec62fefef398de78ea0bb8d9aa10a1fee991872d557c87dd0d475a5504", func := "gantline/gantlinelaw19.LinkPrefix", spec := "linkPrefix", unfollowed := true, recurses := true, apart := false }
def LinkPrefixSaid : Prop := linkPrefixRow.holds Try.pinned (OpenSpec.ofChange linkPrefixSpec)

/-- ITS FALSE NEIGHBOUR: 'it returns false'. Refute it at one input. -/
def linkPrefixWrong : ChangeSpec := { name := "linkPrefix", fn := fun _ => fun
  | [d1, d2, d3] => { results := [.lit (.bool false)], args := [d1, d2, d3] }
  | _ => none }
def LinkPrefixWrongFalsely : Prop := linkPrefixRow.holds Try.pinned (OpenSpec.ofChange linkPrefixWrong)

/-- 'gantlinelaw19.LinkLive': WHATEVER THE INPUT: true; the input reads as it did. -/
def linkLiveSpec : ChangeSpec := { name := "linkLive", fn := fun _ => fun
  | [d1, d2, d3] => { results := [.lit (.bool true)], args := [d1, d2, d3] }
  | _ => none }
def linkLiveRow : OpenClaim := { program := "ytnpkpfcljkekfaa", sum := "f647adec62fefef398de78ea0bb8d9aa10a1fee991872d557c87dd0d475a5504", func := "gantline/gantlinelaw19.LinkLive", spec := "linkLive", unfollowed := true, recurses := true, apart := false }
def LinkLiveSaid : Prop := linkLiveRow.holds Try.pinned (OpenSpec.ofChange linkLiveSpec)

/-- ITS FALSE NEIGHBOUR: 'it returns false'. Refute it at one input. -/
def linkLiveWrong : ChangeSpec := { name := "linkLive", fn := fun _ => fun
  | [d1, d2, d3] => { results := [.lit (.bool false)], args := [d1, d2, d3] }
  | _ => none }
def LinkLiveWrongFalsely : Prop := linkLiveRow.holds Try.pinned (OpenSpec.ofChange linkLiveWrong)

/-- 'gantlinelaw19.LinkBounds': WHATEVER THE INPUT: true; the input reads as it did. -/
def linkBoundsSpec : ChangeSpec := { name := "linkBounds", fn := fun _ => fun
  | [d1, d2, d3] => { results := [.lit (.bool true)], args := [d1, d2, d3] }
  | _ => none }
def linkBoundsRow : OpenClaim := { program := "ytnpkpfcljkekfaa", sum := "f647adec62fefef398de78ea0bb8d9aa10a1fee991872d557c87dd0d475a5504", func := "gantline/gantlinelaw19.LinkBounds", spec := "linkBounds", unfollowed := true, recurses := true, apart := false }
def LinkBoundsSaid : Prop := linkBoundsRow.holds Try.pinned (OpenSpec.ofChange linkBoundsSpec)

/-- ITS FALSE NEIGHBOUR: 'it returns false'. Refute it at one input. -/
def linkBoundsWrong : ChangeSpec := { name := "linkBounds", fn := fun _ => fun
  | [d1, d2, d3] => { results := [.lit (.bool false)], args := [d1, d2, d3] }
  | _ => none }
def LinkBoundsWrongFalsely : Prop := linkBoundsRow.holds Try.pinned (OpenSpec.ofChange linkBoundsWrong)

/-- 'gantlinelaw19.LinkNobody': WHATEVER THE INPUT: true; the input reads as it did. -/
def linkNobodySpec : ChangeSpec := { name := "linkNobody", fn := fun _ => fun
  | [d1, d2] => { results := [.lit (.bool true)], args := [d1, d2] }
  | _ => none }
def linkNobodyRow : OpenClaim := { program := "ytnpkpfcljkekfaa", sum := "f647adec62fefef398de78ea0bb8d9aa10a1fee991872d557c87dd0d475a5504", func := "gantline/gantlinelaw19.LinkNobody", spec := "linkNobody", unfollowed := true, recurses := true, apart := false }
def LinkNobodySaid : Prop := linkNobodyRow.holds Try.pinned (OpenSpec.ofChange linkNobodySpec)

/-- ITS FALSE NEIGHBOUR: 'it returns false'. Refute it at one input. -/
def linkNobodyWrong : ChangeSpec := { name := "linkNobody", fn := fun _ => fun
  | [d1, d2] => { results := [.lit (.bool false)], args := [d1, d2] }
  | _ => none }
def LinkNobodyWrongFalsely : Prop := linkNobodyRow.holds Try.pinned (OpenSpec.ofChange linkNobodyWrong)

/- THE SECOND FORM. 'bulk': how many values and letters a reading holds, each counted each time it is reached (what is shared counts as often as it is met; a slice's spare places count too). A statement '..UptoSaid' is the law's where the arguments, and the package variables that the reading takes, are together of bulk at most 1048576: NARROWER than '..Said'. Prove '..Said' where nothing that the law and all that it calls make is longer than what came in: it says more and counts as full. Else prove '..UptoSaid'. A law counts once. -/
mutual
def uptoBulk {H : Type} : DataW H → Nat
  | .lit (.string bytes) => bytes.length + 1
  | .lit _ => 1
  | .nil => 1
  | .ptr d => uptoBulk d + 1
  | .slice elems spare => uptoBulkAll elems + uptoBulkAll spare + 1
  | .agg parts => uptoBulkAll parts + 1
  | .iface _ d => uptoBulk d + 1
  | .map entries => uptoBulkEntries entries + 1
  | .held _ => 1
def uptoBulkAll {H : Type} : List (DataW H) → Nat
  | [] => 0
  | d :: r => uptoBulk d + uptoBulkAll r
def uptoBulkEntries {H : Type} : List (Lit × DataW H) → Nat
  | [] => 0
  | x :: r => uptoBulkEntry x + uptoBulkEntries r
def uptoBulkEntry {H : Type} : Lit × DataW H → Nat
  | (.string bytes, d) => bytes.length + uptoBulk d + 1
  | (_, d) => uptoBulk d + 1
 end
def uptoSmall : (H : Type) → List (DataW H) → Bool := fun _ ds => decide (uptoBulkAll ds ≤ 1048576)
def OpenSpec.upto (s : _root_.Go.ChangeSpec) : _root_.Go.OpenSpec := { _root_.Go.OpenSpec.ofChange s with cond := some uptoSmall }

/-- 'gantlinelaw19.LinkPacks', WHERE WHAT IT READS IS OF BULK AT MOST 1048576: true; the input reads as it did. -/
def linkPacksUptoRow : OpenClaim := { program := "ytnpkpfcljkekfaa", sum := "f647adec62fefef398de78ea0bb8d9aa10a1fee991872d557c87dd0d475a5504", func := "gantline/gantlinelaw19.LinkPacks", spec := "linkPacks", unfollowed := true, recurses := true, apart := false, narrowed := true }
def LinkPacksUptoSaid : Prop := linkPacksUptoRow.holds Try.pinned (OpenSpec.upto linkPacksSpec)

/-- 'gantlinelaw19.LinkTells', WHERE WHAT IT READS IS OF BULK AT MOST 1048576: true; the input reads as it did. -/
def linkTellsUptoRow : OpenClaim := { program := "ytnpkpfcljkekfaa", sum := "f647adec62fefef398de78ea0bb8d9aa10a1fee991872d557c87dd0d475a5504", func := "gantline/gantlinelaw19.LinkTells", spec := "linkTells", unfollowed := true, recurses := true, apart := false, narrowed := true }
def LinkTellsUptoSaid : Prop := linkTellsUptoRow.holds Try.pinned (OpenSpec.upto linkTellsSpec)

/-- 'gantlinelaw19.LinkPrefix', WHERE WHAT IT READS IS OF BULK AT MOST 1048576: true; the input reads as it did. -/
def linkPrefixUptoRow : OpenClaim := { program := "ytnpkpfcljkekfaa", sum := "f647adec62fefef398de78ea0bb8d9aa10a1fee991872d557c87dd0d475a5504", func := "gantline/gantlinelaw19.LinkPrefix", spec := "linkPrefix", unfollowed := true, recurses := true, apart := false, narrowed := true }
def LinkPrefixUptoSaid : Prop := linkPrefixUptoRow.holds Try.pinned (OpenSpec.upto linkPrefixSpec)

/-- 'gantlinelaw19.LinkLive', WHERE WHAT IT READS IS OF BULK AT MOST 1048576: true; the input reads as it did. -/
def linkLiveUptoRow : OpenClaim := { program := "ytnpkpfcljkekfaa", sum := "f647adec62fefef398de78ea0bb8d9aa10a1fee991872d557c87dd0d475a5504", func := "gantline/gantlinelaw19.LinkLive", spec := "linkLive", unfollowed := true, recurses := true, apart := false, narrowed := true }
def LinkLiveUptoSaid : Prop := linkLiveUptoRow.holds Try.pinned (OpenSpec.upto linkLiveSpec)

/-- 'gantlinelaw19.LinkBounds', WHERE WHAT IT READS IS OF BULK AT MOST 1048576: true; the input reads as it did. -/
def linkBoundsUptoRow : OpenClaim := { program := "ytnpkpfcljkekfaa", sum := "f647adec62fefef398de78ea0bb8d9aa10a1fee991872d557c87dd0d475a5504", func := "gantline/gantlinelaw19.LinkBounds", spec := "linkBounds", unfollowed := true, recurses := true, apart := false, narrowed := true }
def LinkBoundsUptoSaid : Prop := linkBoundsUptoRow.holds Try.pinned (OpenSpec.upto linkBoundsSpec)

/-- 'gantlinelaw19.LinkNobody', WHERE WHAT IT READS IS OF BULK AT MOST 1048576: true; the input reads as it did. -/
def linkNobodyUptoRow : OpenClaim := { program := "ytnpkpfcljkekfaa", sum := "f647adec62fefef398de78ea0bb8d9aa10a1fee991872d557c87dd0d475a5504", func := "gantline/gantlinelaw19.LinkNobody", spec := "linkNobody", unfollowed := true, recurses := true, apart := false, narrowed := true }
def LinkNobodyUptoSaid : Prop := linkNobodyUptoRow.holds Try.pinned (OpenSpec.upto linkNobodySpec)

end Rows
end Go.Proofs.Ytnpkpfcljkekfaa
