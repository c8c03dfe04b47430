/-
  No cell of these rows narrows 'for every input' (looked for: loops, veiled, ifaces, maps, wideKeys, modest, calm, conditions, laid).
  DERIVED. THE GIVEN ROWS OF THIS SEAT. 8 by the template 'for every input the law returns true; each argument reads behind the call as it read before'; 0 by the template 'total and deterministic' (their statements: YtemofjaonoofhaaTotals.lean).
  GIVEN WITH THE SEED: the statements are not yours to turn. If you find one false, say at which input.
  Laid BY PROGRAM, IN A SANDBOX (cutbox-rows.mjs): the forced cells as the released guide's own fill.sh prints them over the translation 2eee906a19cf62ee… (all of the seat's roots in one cut). By AI agents, Wed Nov 11 2026. No macro, syntax, notation, axiom, sorry.
-/
import Derived.Test.YtemofjaonoofhaaChecked
import GoSem.Claim
import GoSem.ClaimJoined
import GoSem.ClaimMapViews
import Derived.JoinedTies
import Derived.KernelRfl
namespace Go.Proofs.Ytemofjaonoofhaa
/- THE CELL 'sum', in the pinned program and in every row, IS THE sha256 OF THE DUMP (.gsa) THAT YtemofjaonoofhaaProg.lean LOADS. Nothing in Lean hashes anything: it is a label: what it is worth is what the hold of that sum in a sandbox is worth. -/
noncomputable def Try.pinned : Pinned := { name := "ytemofjaonoofhaa", sum := "2eee906a19cf62ee5cb1b3ec4d1000bfa593750adcd975e918b8fa2a73b86244", checked := Try.checked }
namespace Rows
def none {H : Type} : Left H := { results := [], args := [] }

/-- 'gantlinelaw03.FrameEncodes': WHATEVER THE INPUT: true; the input reads as it did. -/
def frameEncodesSpec : ChangeSpec := { name := "frameEncodes", fn := fun _ => fun
  | [d] => { results := [.lit (.bool true)], args := [d] }
  | _ => none }
def frameEncodesRow : OpenClaim := { program := "ytemofjaonoofhaa", sum := "2eee906a19cf62ee5cb1b3ec4d1000bfa593750adcd975e918b8fa2a73b86244", func := "gantline/gantlinelaw03.FrameEncodes", spec := "frameEncodes", apart := false }
def FrameEncodesSaid : Prop := frameEncodesRow.holds Try.pinned (OpenSpec.ofChange frameEncodesSpec)

/-- ITS FALSE NEIGHBOUR: 'it returns false'. Refute it at one input. -/
def frameEncodesWrong : ChangeSpec := { name := "frameEncodes", fn := fun _ => fun
  | [d] => { results := [.lit (.bool false)], args := [d] }
  | _ => none }
def FrameEncodesWrongFalsely : Prop := frameEncodesRow.holds Try.pinned (OpenSpec.ofChange frameEncodesWrong)

/-- 'gantlinelaw03.FrameScans': WHATEVER THE INPUT: true; the input reads as it did. -/
def frameScansSpec : ChangeSpec := { name := "frameScans", fn := fun _ => fun
  | [d] => { results := [.lit (.bool true)], args := [d] }
  | _ => none }
def frameScansRow : OpenClaim := { program := "ytemofjaonoofhaa", sum := "2eee906a19cf62ee5cb1b3ec4d1000bfa593750adcd975e918b8fa2a73b86244", func := "gantline/gantlinelaw03.FrameScans", spec := "frameScans", apart := false }
def FrameScansSaid : Prop := frameScansRow.holds Try.pinned (OpenSpec.ofChange frameScansSpec)

/-- ITS FALSE NEIGHBOUR: 'it returns false'. Refute it at one input. -/
def frameScansWrong : ChangeSpec := { name := "frameScans", fn := fun _ => fun
  | [d] => { results := [.lit (.bool false)], args := [d] }
  | _ => none }
def FrameScansWrongFalsely : Prop := frameScansRow.holds Try.pinned (OpenSpec.ofChange frameScansWrong)

/-- 'gantlinelaw03.FrameCuts': WHATEVER THE INPUT: true; the input reads as it did. -/
def frameCutsSpec : ChangeSpec := { name := "frameCuts", fn := fun _ => fun
  | [d1, d2] => { results := [.lit (.bool true)], args := [d1, d2] }
  | _ => none }
def frameCutsRow : OpenClaim := { program := "ytemofjaonoofhaa", sum := "2eee906a19cf62ee5cb1b3ec4d1000bfa593750adcd975e918b8fa2a73b86244", func := "gantline/gantlinelaw03.FrameCuts", spec := "frameCuts", apart := false }
def FrameCutsSaid : Prop := frameCutsRow.holds Try.pinned (OpenSpec.ofChange frameCutsSpec)

/-- ITS FALSE NEIGHBOUR: 'it returns false'. Refute it at one input. -/
def frameCutsWrong : ChangeSpec := { name := "frameCuts", fn := fun _ => fun
  | [d1, d2] => { results := [.lit (.bool false)], args := [d1, d2] }
  | _ => none }
def FrameCutsWrongFalsely : Prop := frameCutsRow.holds Try.pinned (OpenSpec.ofChange frameCutsWrong)

/-- 'gantlinelaw03.FrameAmong': WHATEVER THE INPUT: true; the input reads as it did. -/
def frameAmongSpec : ChangeSpec := { name := "frameAmong", fn := fun _ => fun
  | [d1, d2] => { results := [.lit (.bool true)], args := [d1, d2] }
  | _ => none }
def frameAmongRow : OpenClaim := { program := "ytemofjaonoofhaa", sum := "2eee906a19cf62ee5cb1b3ec4d1000bfa593750adcd975e918b8fa2a73b86244", func := "gantline/gantlinelaw03.FrameAmong", spec := "frameAmong", apart := false }
def FrameAmongSaid : Prop := frameAmongRow.holds Try.pinned (OpenSpec.ofChange frameAmongSpec)

/-- ITS FALSE NEIGHBOUR: 'it returns false'. Refute it at one input. -/
def frameAmongWrong : ChangeSpec := { name := "frameAmong", fn := fun _ => fun
  | [d1, d2] => { results := [.lit (.bool false)], args := [d1, d2] }
  | _ => none }
def FrameAmongWrongFalsely : Prop := frameAmongRow.holds Try.pinned (OpenSpec.ofChange frameAmongWrong)

/-- 'gantlinelaw03.FrameFew': WHATEVER THE INPUT: true; the input reads as it did. -/
def frameFewSpec : ChangeSpec := { name := "frameFew", fn := fun _ => fun
  | [d] => { results := [.lit (.bool true)], args := [d] }
  | _ => none }
def frameFewRow : OpenClaim := { program := "ytemofjaonoofhaa", sum := "2eee906a19cf62ee5cb1b3ec4d1000bfa593750adcd975e918b8fa2a73b86244", func := "gantline/gantlinelaw03.FrameFew", spec := "frameFew", apart := false }
def FrameFewSaid : Prop := frameFewRow.holds Try.pinned (OpenSpec.ofChange frameFewSpec)

/-- ITS FALSE NEIGHBOUR: 'it returns false'. Refute it at one input. -/
def frameFewWrong : ChangeSpec := { name := "frameFew", fn := fun _ => fun
  | [d] => { results := [.lit (.bool false)], args := [d] }
  | _ => none }
def FrameFewWrongFalsely : Prop := frameFewRow.holds Try.pinned (OpenSpec.ofChange frameFewWrong)

/-- 'gantlinelaw03.FrameFeeds': WHATEVER THE INPUT: true; the input reads as it did. -/
def frameFeedsSpec : ChangeSpec := { name := "frameFeeds", fn := fun _ => fun
  | [d1, d2] => { results := [.lit (.bool true)], args := [d1, d2] }
  | _ => none }
def frameFeedsRow : OpenClaim := { program := "ytemofjaonoofhaa", sum := "2eee906a19cf62ee5cb1b3ec4d1000bfa593750adcd975e918b8fa2a73b86244", func := "gantline/gantlinelaw03.FrameFeeds", spec := "frameFeeds", apart := false }
def FrameFeedsSaid : Prop := frameFeedsRow.holds Try.pinned (OpenSpec.ofChange frameFeedsSpec)

/-- ITS FALSE NEIGHBOUR: 'it returns false'. Refute it at one input. -/
def frameFeedsWrong : ChangeSpec := { name := "frameFeeds", fn := fun _ => fun
  | [d1, d2] => { results := [.lit (.bool false)], args := [d1, d2] }
  | _ => none }
def FrameFeedsWrongFalsely : Prop := frameFeedsRow.holds Try.pinned (OpenSpec.ofChange frameFeedsWrong)

/-- 'gantlinelaw03.FrameTurned': WHATEVER THE INPUT: true; the input reads as it did. -/
def frameTurnedSpec : ChangeSpec := { name := "frameTurned", fn := fun _ => fun
  | [d1, d2, d3] => { results := [.lit (.bool true)], args := [d1, d2, d3] }
  | _ => none }
def frameTurnedRow : OpenClaim := { program := "ytemofjaonoofhaa", sum := "2eee906a19cf62ee5cb1b3ec4d1000bfa593750adcd975e918b8fa2a73b86244", func := "gantline/gantlinelaw03.FrameTurned", spec := "frameTurned", apart := false }
def FrameTurnedSaid : Prop := frameTurnedRow.holds Try.pinned (OpenSpec.ofChange frameTurnedSpec)

/-- ITS FALSE NEIGHBOUR: 'it returns false'. Refute it at one input. -/
def frameTurnedWrong : ChangeSpec := { name := "frameTurned", fn := fun _ => fun
  | [d1, d2, d3] => { results := [.lit (.bool false)], args := [d1, d2, d3] }
  | _ => none }
def FrameTurnedWrongFalsely : Prop := frameTurnedRow.holds Try.pinned (OpenSpec.ofChange frameTurnedWrong)

/-- 'gantlinelaw03.FrameNobody': WHATEVER THE INPUT: true; the input reads as it did. -/
def frameNobodySpec : ChangeSpec := { name := "frameNobody", fn := fun _ => fun
  | [d] => { results := [.lit (.bool true)], args := [d] }
  | _ => none }
def frameNobodyRow : OpenClaim := { program := "ytemofjaonoofhaa", sum := "2eee906a19cf62ee5cb1b3ec4d1000bfa593750adcd975e918b8fa2a73b86244", func := "gantline/gantlinelaw03.FrameNobody", spec := "frameNobody", apart := false }
def FrameNobodySaid : Prop := frameNobodyRow.holds Try.pinned (OpenSpec.ofChange frameNobodySpec)

/-- ITS FALSE NEIGHBOUR: 'it returns false'. Refute it at one input. -/
def frameNobodyWrong : ChangeSpec := { name := "frameNobody", fn := fun _ => fun
  | [d] => { results := [.lit (.bool false)], args := [d] }
  | _ => none }
def FrameNobodyWrongFalsely : Prop := frameNobodyRow.holds Try.pinned (OpenSpec.ofChange frameNobodyWrong)

/- THE SECOND FORM. 'bulk': how many values and letters a reading holds, each counted each time it is reached (what is shared counts as often as it is met; a slice's spare places count too). A statement '..UptoSaid' is the law's where the arguments, and the package variables that the reading takes, are together of bulk at most 1048576: NARROWER than '..Said'. Prove '..Said' where nothing that the law and all that it calls make is longer than what came in: it says more and counts as full. Else prove '..UptoSaid'. A law counts once. -/
mutual
def uptoBulk {H : Type} : DataW H → Nat
  | .lit (.string bytes) => bytes.length + 1
  | .lit _ => 1
  | .nil => 1
  | .ptr d => uptoBulk d + 1
  | .slice elems spare => uptoBulkAll elems + uptoBulkAll spare + 1
  | .agg parts => uptoBulkAll parts + 1
  | .iface _ d => uptoBulk d + 1
  | .map entries => uptoBulkEntries entries + 1
  | .held _ => 1
def uptoBulkAll {H : Type} : List (DataW H) → Nat
  | [] => 0
  | d :: r => uptoBulk d + uptoBulkAll r
def uptoBulkEntries {H : Type} : List (Lit × DataW H) → Nat
  | [] => 0
  | x :: r => uptoBulkEntry x + uptoBulkEntries r
def uptoBulkEntry {H : Type} : Lit × DataW H → Nat
  | (.string bytes, d) => bytes.length + uptoBulk d + 1
  | (_, d) => uptoBulk d + 1
 end
def uptoSmall : (H : Type) → List (DataW H) → Bool := fun _ ds => decide (uptoBulkAll ds ≤ 1048576)
def OpenSpec.upto (s : _root_.Go.ChangeSpec) : _root_.Go.OpenSpec := { _root_.Go.OpenSpec.ofChange s with cond := some uptoSmall }

/-- 'gantlinelaw03.FrameEncodes', WHERE WHAT IT READS IS OF BULK AT MOST 1048576: true; the input reads as it did. -/
def frameEncodesUptoRow : OpenClaim := { program := "ytemofjaonoofhaa", sum := "2eee906a19cf62ee5cb1b3ec4d1000bfa593750adcd975e918b8fa2a73b86244", func := "gantline/gantlinelaw03.FrameEncodes", spec := "frameEncodes", apart := false, narrowed := true }
def FrameEncodesUptoSaid : Prop := frameEncodesUptoRow.holds Try.pinned (OpenSpec.upto frameEncodesSpec)

/-- 'gantlinelaw03.FrameScans', WHERE WHAT IT READS IS OF BULK AT MOST 1048576: true; the input reads as it did. -/
def frameScansUptoRow : OpenClaim := { program := "ytemofjaonoofhaa", sum := "2eee906a19cf62ee5cb1b3ec4d1000bfa593750adcd975e918b8fa2a73b86244", func := "gantline/gantlinelaw03.FrameScans", spec := "frameScans", apart := false, narrowed := true }
def FrameScansUptoSaid : Prop := frameScansUptoRow.holds Try.pinned (OpenSpec.upto frameScansSpec)

/-- 'gantlinelaw03.FrameCuts', WHERE WHAT IT READS IS OF BULK AT MOST 1048576: true; the input reads as it did. -/
def frameCutsUptoRow : OpenClaim := { program := "ytemofjaonoofhaa", sum := "2eee906a19cf62ee5cb1b3ec4d1000bfa593750adcd975e918b8fa2a73b86244", func := "gantline/gantlinelaw03.FrameCuts", spec := "frameCuts", apart := false, narrowed := true }
def FrameCutsUptoSaid : Prop := frameCutsUptoRow.holds Try.pinned (OpenSpec.upto frameCutsSpec)

/-- 'gantlinelaw03.FrameAmong', WHERE WHAT IT READS IS OF BULK AT MOST 1048576: true; the input reads as it did. -/
def frameAmongUptoRow : OpenClaim := { program := "ytemofjaonoofhaa", sum := "2eee906a19cf62ee5cb1b3ec4d1000bfa593750adcd975e918b8fa2a73b86244", func := "gantline/gantlinelaw03.FrameAmong", spec := "frameAmong", apart := false, narrowed := true }
def FrameAmongUptoSaid : Prop := frameAmongUptoRow.holds Try.pinned (OpenSpec.upto frameAmongSpec)

/-- 'gantlinelaw03.FrameFew', WHERE WHAT IT READS IS OF BULK AT MOST 1048576: true; the input reads as it did. -/
def frameFewUptoRow : OpenClaim := { program := "ytemofjaonoofhaa", sum := "2eee906a19cf62ee5cb1b3ec4d1000bfa593750adcd975e918b8fa2a73b86244", func := "gantline/gantlinelaw03.FrameFew", spec := "frameFew", apart := false, narrowed := true }
def FrameFewUptoSaid : Prop := frameFewUptoRow.holds Try.pinned (OpenSpec.upto frameFewSpec)

/-- 'gantlinelaw03.FrameFeeds', WHERE WHAT IT READS IS OF BULK AT MOST 1048576: true; the input reads as it did. -/
def frameFeedsUptoRow : OpenClaim := { program := "ytemofjaonoofhaa", sum := "2eee906a19cf62ee5cb1b3ec4d1000bfa593750adcd975e918b8fa2a73b86244", func := "gantline/gantlinelaw03.FrameFeeds", spec := "frameFeeds", apart := false, narrowed := true }
def FrameFeedsUptoSaid : Prop := frameFeedsUptoRow.holds Try.pinned (OpenSpec.upto frameFeedsSpec)

/-- 'gantlinelaw03.FrameTurned', WHERE WHAT IT READS IS OF BULK AT MOST 1048576: true; the input reads as it did. -/
def frameTurnedUptoRow : OpenClaim := { program := "ytemofjaonoofhaa", sum := "2eee906a19cf62ee5cb1b3ec4d1000bfa593750adcd975e918b8fa2a73b86244", func := "gantline/gantlinelaw03.FrameTurned", spec := "frameTurned", apart := false, narrowed := true }
def FrameTurnedUptoSaid : Prop := frameTurnedUptoRow.holds Try.pinned (OpenSpec.upto frameTurnedSpec)

/-- 'gantlinelaw03.FrameNobody', WHERE WHAT IT READS IS OF BULK AT MOST 1048576: true; the input reads as it did. -/
def frameNobodyUptoRow : OpenClaim := { program := "ytemofjaonoofhaa", sum := "2eee906a19cf62ee5cb1b3ec4d1000bfa593750adcd975e918b8fa2a73b86244", func := "gantline/gantlinelaw03.FrameNobody", spec := "frameNobody", apart := false, narrowed := true }
def FrameNobodyUptoSaid : Prop := frameNobodyUptoRow.holds Try.pinned (OpenSpec.upto frameNobodySpec)

end Rows
end Go.Proofs.Ytemofjaonoofhaa
