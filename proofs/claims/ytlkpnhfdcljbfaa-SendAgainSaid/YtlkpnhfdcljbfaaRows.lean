/-
  No cell of these rows narrows 'for every input' (looked for: loops, veiled, ifaces, maps, wideKeys, modest, calm, conditions, laid).
  DERIVED. THE GIVEN ROWS OF THIS SEAT. 5 by the template 'for every input the law returns true; each argument reads behind the call as it read before'; 0 by the template 'total and deterministic' (their statements: YtlkpnhfdcljbfaaTotals.lean).
  GIVEN WITH THE SEED: the statements are not yours to turn. If you find one false, say at which input.
  Laid BY PROGRAM, IN A SANDBOX (cutbox-rows.mjs): the forced cells as the released guide's own fill.sh prints them over the translation ded58e7c83b4eb23… (all of the seat's roots in one cut). By AI agents, Wed Nov 11 2026. No macro, syntax, notation, axiom, sorry.
-/
import Derived.Test.YtlkpnhfdcljbfaaChecked
import GoSem.Claim
import GoSem.ClaimJoined
import GoSem.ClaimMapViews
import Derived.JoinedTies
import Derived.KernelRfl
namespace Go.Proofs.Ytlkpnhfdcljbfaa
/- THE CELL 'sum', in the pinned program and in every row, IS THE sha256 OF THE DUMP (.gsa) THAT YtlkpnhfdcljbfaaProg.lean LOADS. Nothing in Lean hashes anything: it is a label: what it is worth is what the hold of that sum in a sandbox is worth. -/
noncomputable def Try.pinned : Pinned := { name := "ytlkpnhfdcljbfaa", sum := "ded58e7c83b4eb23383641e0ff0d39d14e619a9b35248472eca24138659a1e5b", checked := Try.checked }
namespace Rows
def none {H : Type} : Left H := { results := [], args := [] }

/-- 'gantlinelaw17.SendAgain': WHATEVER THE INPUT: true; the input reads as it did. -/
def sendAgainSpec : ChangeSpec := { name := "sendAgain", fn := fun _ => fun
  | [d1, d2, d3] => { results := [.lit (.bool true)], args := [d1, d2, d3] }
  | _ => none }
def sendAgainRow : OpenClaim := { program := "ytlkpnhfdcljbfaa", sum := "ded58e7c83b4eb23383641e0ff0d39d14e619a9b35248472eca24138659a1e5b", func := "gantline/gantlinelaw17.SendAgain", spec := "sendAgain", apart := false }
def SendAgainSaid : Prop := sendAgainRow.holds Try.pinned (OpenSpec.ofChange sendAgainSpec)

/-- ITS FALSE NEIGHBOUR: 'it returns false'. Refute it at one input. -/
def sendAgainWrong : ChangeSpec := { name := "sendAgain", fn := fun _ => fun
  | [d1, d2, d3] => { results := [.lit (.bool false)], args := [d1, d2, d3] }
  | _ => none }
def SendAgainWrongFalsely : Prop := sendAgainRow.holds Try.pinned (OpenSpec.ofChange sendAgainWrong)

/-- 'gantlinelaw17.SendLoads': WHATEVER THE INPUT: true; the input reads as it did. -/
def sendLoadsSpec : ChangeSpec := { name := "sendLoads", fn := fun _ => fun
  | [d1, d2] => { results := [.lit (.bool true)], args := [d1, d2] }
  | _ => none }
def sendLoadsRow : OpenClaim := { program := "ytlkpnhfdcljbfaa", sum := "ded58e7c83b4eb23383641e0ff0d39d14e619a9b35248472eca24138659a1e5b", func := "gantline/gantlinelaw17.SendLoads", spec := "sendLoads", apart := false }
def SendLoadsSaid : Prop := sendLoadsRow.holds Try.pinned (OpenSpec.ofChange sendLoadsSpec)

/-- ITS FALSE NEIGHBOUR: 'it returns false'. Refute it at one input. -/
def sendLoadsWrong : ChangeSpec := { name := "sendLoads", fn := fun _ => fun
  | [d1, d2] => { results := [.lit (.bool false)], args := [d1, d2] }
  | _ => none }
def SendLoadsWrongFalsely : Prop := sendLoadsRow.holds Try.pinned (OpenSpec.ofChange sendLoadsWrong)

/-- 'gantlinelaw17.SendDone': WHATEVER THE INPUT: true; the input reads as it did. -/
def sendDoneSpec : ChangeSpec := { name := "sendDone", fn := fun _ => fun
  | [d1, d2, d3] => { results := [.lit (.bool true)], args := [d1, d2, d3] }
  | _ => none }
def sendDoneRow : OpenClaim := { program := "ytlkpnhfdcljbfaa", sum := "ded58e7c83b4eb23383641e0ff0d39d14e619a9b35248472eca24138659a1e5b", func := "gantline/gantlinelaw17.SendDone", spec := "sendDone", apart := false }
def SendDoneSaid : Prop := sendDoneRow.holds Try.pinned (OpenSpec.ofChange sendDoneSpec)

/-- ITS FALSE NEIGHBOUR: 'it returns false'. Refute it at one input. -/
def sendDoneWrong : ChangeSpec := { name := "sendDone", fn := fun _ => fun
  | [d1, d2, d3] => { results := [.lit (.bool false)], args := [d1, d2, d3] }
  | _ => none }
def SendDoneWrongFalsely : Prop := sendDoneRow.holds Try.pinned (OpenSpec.ofChange sendDoneWrong)

/-- 'gantlinelaw17.SendBounds': WHATEVER THE INPUT: true; the input reads as it did. -/
def sendBoundsSpec : ChangeSpec := { name := "sendBounds", fn := fun _ => fun
  | [d1, d2] => { results := [.lit (.bool true)], args := [d1, d2] }
  | _ => none }
def sendBoundsRow : OpenClaim := { program := "ytlkpnhfdcljbfaa", sum := "ded58e7c83b4eb23383641e0ff0d39d14e619a9b35248472eca24138659a1e5b", func := "gantline/gantlinelaw17.SendBounds", spec := "sendBounds", apart := false }
def SendBoundsSaid : Prop := sendBoundsRow.holds Try.pinned (OpenSpec.ofChange sendBoundsSpec)

/-- ITS FALSE NEIGHBOUR: 'it returns false'. Refute it at one input. -/
def sendBoundsWrong : ChangeSpec := { name := "sendBounds", fn := fun _ => fun
  | [d1, d2] => { results := [.lit (.bool false)], args := [d1, d2] }
  | _ => none }
def SendBoundsWrongFalsely : Prop := sendBoundsRow.holds Try.pinned (OpenSpec.ofChange sendBoundsWrong)

/-- 'gantlinelaw17.SendNobody': WHATEVER THE INPUT: true; the input reads as it did. -/
def sendNobodySpec : ChangeSpec := { name := "sendNobody", fn := fun _ => fun
  | [d] => { results := [.lit (.bool true)], args := [d] }
  | _ => none }
def sendNobodyRow : OpenClaim := { program := "ytlkpnhfdcljbfaa", sum := "ded58e7c83b4eb23383641e0ff0d39d14e619a9b35248472eca24138659a1e5b", func := "gantline/gantlinelaw17.SendNobody", spec := "sendNobody", apart := false }
def SendNobodySaid : Prop := sendNobodyRow.holds Try.pinned (OpenSpec.ofChange sendNobodySpec)

/-- ITS FALSE NEIGHBOUR: 'it returns false'. Refute it at one input. -/
def sendNobodyWrong : ChangeSpec := { name := "sendNobody", fn := fun _ => fun
  | [d] => { results := [.lit (.bool false)], args := [d] }
  | _ => none }
def SendNobodyWrongFalsely : Prop := sendNobodyRow.holds Try.pinned (OpenSpec.ofChange sendNobodyWrong)

/- THE SECOND FORM. 'bulk': how many values and letters a reading holds, each counted each time it is reached (what is shared counts as often as it is met; a slice's spare places count too). A statement '..UptoSaid' is the law's where the arguments, and the package variables that the reading takes, are together of bulk at most 1048576: NARROWER than '..Said'. Prove '..Said' where nothing that the law and all that it calls make is longer than what came in: it says more and counts as full. Else prove '..UptoSaid'. A law counts once. -/
mutual
def uptoBulk {H : Type} : DataW H → Nat
  | .lit (.string bytes) => bytes.length + 1
  | .lit _ => 1
  | .nil => 1
  | .ptr d => uptoBulk d + 1
  | .slice elems spare => uptoBulkAll elems + uptoBulkAll spare + 1
  | .agg parts => uptoBulkAll parts + 1
  | .iface _ d => uptoBulk d + 1
  | .map entries => uptoBulkEntries entries + 1
  | .held _ => 1
def uptoBulkAll {H : Type} : List (DataW H) → Nat
  | [] => 0
  | d :: r => uptoBulk d + uptoBulkAll r
def uptoBulkEntries {H : Type} : List (Lit × DataW H) → Nat
  | [] => 0
  | x :: r => uptoBulkEntry x + uptoBulkEntries r
def uptoBulkEntry {H : Type} : Lit × DataW H → Nat
  | (.string bytes, d) => bytes.length + uptoBulk d + 1
  | (_, d) => uptoBulk d + 1
 end
def uptoSmall : (H : Type) → List (DataW H) → Bool := fun _ ds => decide (uptoBulkAll ds ≤ 1048576)
def OpenSpec.upto (s : _root_.Go.ChangeSpec) : _root_.Go.OpenSpec := { _root_.Go.OpenSpec.ofChange s with cond := some uptoSmall }

/-- 'gantlinelaw17.SendAgain', WHERE WHAT IT READS IS OF BULK AT MOST 1048576: true; the input reads as it did. -/
def sendAgainUptoRow : OpenClaim := { program := "ytlkpnhfdcljbfaa", sum := "ded58e7c83b4eb23383641e0ff0d39d14e619a9b35248472eca24138659a1e5b", func := "gantline/gantlinelaw17.SendAgain", spec := "sendAgain", apart := false, narrowed := true }
def SendAgainUptoSaid : Prop := sendAgainUptoRow.holds Try.pinned (OpenSpec.upto sendAgainSpec)

/-- 'gantlinelaw17.SendLoads', WHERE WHAT IT READS IS OF BULK AT MOST 1048576: true; the input reads as it did. -/
def sendLoadsUptoRow : OpenClaim := { program := "ytlkpnhfdcljbfaa", sum := "ded58e7c83b4eb23383641e0ff0d39d14e619a9b35248472eca24138659a1e5b", func := "gantline/gantlinelaw17.SendLoads", spec := "sendLoads", apart := false, narrowed := true }
def SendLoadsUptoSaid : Prop := sendLoadsUptoRow.holds Try.pinned (OpenSpec.upto sendLoadsSpec)

/-- 'gantlinelaw17.SendDone', WHERE WHAT IT READS IS OF BULK AT MOST 1048576: true; the input reads as it did. -/
def sendDoneUptoRow : OpenClaim := { program := "ytlkpnhfdcljbfaa", sum := "ded58e7c83b4eb23383641e0ff0d39d14e619a9b35248472eca24138659a1e5b", func := "gantline/gantlinelaw17.SendDone", spec := "sendDone", apart := false, narrowed := true }
def SendDoneUptoSaid : Prop := sendDoneUptoRow.holds Try.pinned (OpenSpec.upto sendDoneSpec)

/-- 'gantlinelaw17.SendBounds', WHERE WHAT IT READS IS OF BULK AT MOST 1048576: true; the input reads as it did. -/
def sendBoundsUptoRow : OpenClaim := { program := "ytlkpnhfdcljbfaa", sum := "ded58e7c83b4eb23383641e0ff0d39d14e619a9b35248472eca24138659a1e5b", func := "gantline/gantlinelaw17.SendBounds", spec := "sendBounds", apart := false, narrowed := true }
def SendBoundsUptoSaid : Prop := sendBoundsUptoRow.holds Try.pinned (OpenSpec.upto sendBoundsSpec)

/-- 'gantlinelaw17.SendNobody', WHERE WHAT IT READS IS OF BULK AT MOST 1048576: true; the input reads as it did. -/
def sendNobodyUptoRow : OpenClaim := { program := "ytlkpnhfdcljbfaa", sum := "ded58e7c83b4eb23383641e0ff0d39d14e619a9b35248472eca24138659a1e5b", func := "gantline/gantlinelaw17.SendNobody", spec := "sendNobody", apart := false, narrowed := true }
def SendNobodyUptoSaid : Prop := sendNobodyUptoRow.holds Try.pinned (OpenSpec.upto sendNobodySpec)

end Rows
end Go.Proofs.Ytlkpnhfdcljbfaa
