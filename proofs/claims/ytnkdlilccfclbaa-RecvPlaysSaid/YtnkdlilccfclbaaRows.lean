/-
  No cell of these rows narrows 'for every input' (looked for: loops, veiled, ifaces, maps, wideKeys, modest, calm, conditions, laid).
  DERIVED. THE GIVEN ROWS OF THIS SEAT. 6 by the template 'for every input the law returns true; each argument reads behind the call as it read before'; 0 by the template 'total and deterministic' (their statements: YtnkdlilccfclbaaTotals.lean).
  GIVEN WITH THE SEED: the statements are not yours to turn. If you find one false, say at which input.
  Laid BY PROGRAM, IN A SANDBOX (cutbox-rows.mjs): the forced cells as the released guide's own fill.sh prints them over the translation b1d83252fdb6ea75… (all of the seat's roots in one cut). By AI agents, Wed Nov 11 2026. No macro, syntax, notation, axiom, sorry.
-/
import Derived.Test.YtnkdlilccfclbaaChecked
import GoSem.Claim
import GoSem.ClaimJoined
import GoSem.ClaimMapViews
import Derived.JoinedTies
import Derived.KernelRfl
namespace Go.Proofs.Ytnkdlilccfclbaa
/- THE CELL 'sum', in the pinned program and in every row, IS THE sha256 OF THE DUMP (.gsa) THAT YtnkdlilccfclbaaProg.lean LOADS. Nothing in Lean hashes anything: it is a label: what it is worth is what the hold of that sum in a sandbox is worth. -/
noncomputable def Try.pinned : Pinned := { name := "ytnkdlilccfclbaa", sum := "b1d83252fdb6ea758159b04bfad8ee14430df34ee7c396426249faa4caa1a318", checked := Try.checked }
namespace Rows
def none {H : Type} : Left H := { results := [], args := [] }

/-- 'gantlinelaw18.RecvOrders': WHATEVER THE INPUT: true; the input reads as it did. -/
def recvOrdersSpec : ChangeSpec := { name := "recvOrders", fn := fun _ => fun
  | [d1, d2] => { results := [.lit (.bool true)], args := [d1, d2] }
  | _ => none }
def recvOrdersRow : OpenClaim := { program := "ytnkdlilccfclbaa", sum := "b1d83252fdb6ea758159b04bfad8ee14430df34ee7c396426249faa4caa1a318", func := "gantline/gantlinelaw18.RecvOrders", spec := "recvOrders", apart := false }
def RecvOrdersSaid : Prop := recvOrdersRow.holds Try.pinned (OpenSpec.ofChange recvOrdersSpec)

/-- ITS FALSE NEIGHBOUR: 'it returns false'. Refute it at one input. -/
def recvOrdersWrong : ChangeSpec := { name := "recvOrders", fn := fun _ => fun
  | [d1, d2] => { results := [.lit (.bool false)], args := [d1, d2] }
  | _ => none }
def RecvOrdersWrongFalsely : Prop := recvOrdersRow.holds Try.pinned (OpenSpec.ofChange recvOrdersWrong)

/-- 'gantlinelaw18.RecvAnyhow': WHATEVER THE INPUT: true; the input reads as it did. -/
def recvAnyhowSpec : ChangeSpec := { name := "recvAnyhow", fn := fun _ => fun
  | [d1, d2] => { results := [.lit (.bool true)], args := [d1, d2] }
  | _ => none }
def recvAnyhowRow : OpenClaim := { program := "ytnkdlilccfclbaa", sum := "b1d83252fdb6ea758159b04bfad8ee14430df34ee7c396426249faa4caa1a318", func := "gantline/gantlinelaw18.RecvAnyhow", spec := "recvAnyhow", apart := false }
def RecvAnyhowSaid : Prop := recvAnyhowRow.holds Try.pinned (OpenSpec.ofChange recvAnyhowSpec)

/-- ITS FALSE NEIGHBOUR: 'it returns false'. Refute it at one input. -/
def recvAnyhowWrong : ChangeSpec := { name := "recvAnyhow", fn := fun _ => fun
  | [d1, d2] => { results := [.lit (.bool false)], args := [d1, d2] }
  | _ => none }
def RecvAnyhowWrongFalsely : Prop := recvAnyhowRow.holds Try.pinned (OpenSpec.ofChange recvAnyhowWrong)

/-- 'gantlinelaw18.RecvTwice': WHATEVER THE INPUT: true; the input reads as it did. -/
def recvTwiceSpec : ChangeSpec := { name := "recvTwice", fn := fun _ => fun
  | [d1, d2] => { results := [.lit (.bool true)], args := [d1, d2] }
  | _ => none }
def recvTwiceRow : OpenClaim := { program := "ytnkdlilccfclbaa", sum := "b1d83252fdb6ea758159b04bfad8ee14430df34ee7c396426249faa4caa1a318", func := "gantline/gantlinelaw18.RecvTwice", spec := "recvTwice", apart := false }
def RecvTwiceSaid : Prop := recvTwiceRow.holds Try.pinned (OpenSpec.ofChange recvTwiceSpec)

/-- ITS FALSE NEIGHBOUR: 'it returns false'. Refute it at one input. -/
def recvTwiceWrong : ChangeSpec := { name := "recvTwice", fn := fun _ => fun
  | [d1, d2] => { results := [.lit (.bool false)], args := [d1, d2] }
  | _ => none }
def RecvTwiceWrongFalsely : Prop := recvTwiceRow.holds Try.pinned (OpenSpec.ofChange recvTwiceWrong)

/-- 'gantlinelaw18.RecvPlays': WHATEVER THE INPUT: true; the input reads as it did. -/
def recvPlaysSpec : ChangeSpec := { name := "recvPlays", fn := fun _ => fun
  | [d1, d2] => { results := [.lit (.bool true)], args := [d1, d2] }
  | _ => none }
def recvPlaysRow : OpenClaim := { program := "ytnkdlilccfclbaa", sum := "b1d83252fdb6ea758159b04bfad8ee14430df34ee7c396426249faa4caa1a318", func := "gantline/gantlinelaw18.RecvPlays", spec := "recvPlays", apart := false }
def RecvPlaysSaid : Prop := recvPlaysRow.holds Try.pinned (OpenSpec.ofChange recvPlaysSpec)

/-- ITS FALSE NEIGHBOUR: 'it returns false'. Refute it at one input. -/
def recvPlaysWrong : ChangeSpec := { name := "recvPlays", fn := fun _ => fun
  | [d1, d2] => { results := [.lit (.bool false)], args := [d1, d2] }
  | _ => none }
def RecvPlaysWrongFalsely : Prop := recvPlaysRow.holds Try.pinned (OpenSpec.ofChange recvPlaysWrong)

/-- 'gantlinelaw18.RecvBounds': WHATEVER THE INPUT: true; the input reads as it did. -/
def recvBoundsSpec : ChangeSpec := { name := "recvBounds", fn := fun _ => fun
  | [d1, d2] => { results := [.lit (.bool true)], args := [d1, d2] }
  | _ => none }
def recvBoundsRow : OpenClaim := { program := "ytnkdlilccfclbaa", sum := "b1d83252fdb6ea758159b04bfad8ee14430df34ee7c396426249faa4caa1a318", func := "gantline/gantlinelaw18.RecvBounds", spec := "recvBounds", apart := false }
def RecvBoundsSaid : Prop := recvBoundsRow.holds Try.pinned (OpenSpec.ofChange recvBoundsSpec)

/-- ITS FALSE NEIGHBOUR: 'it returns false'. Refute it at one input. -/
def recvBoundsWrong : ChangeSpec := { name := "recvBounds", fn := fun _ => fun
  | [d1, d2] => { results := [.lit (.bool false)], args := [d1, d2] }
  | _ => none }
def RecvBoundsWrongFalsely : Prop := recvBoundsRow.holds Try.pinned (OpenSpec.ofChange recvBoundsWrong)

/-- 'gantlinelaw18.RecvNobody': WHATEVER THE INPUT: true; the input reads as it did. -/
def recvNobodySpec : ChangeSpec := { name := "recvNobody", fn := fun _ => fun
  | [d1, d2] => { results := [.lit (.bool true)], args := [d1, d2] }
  | _ => none }
def recvNobodyRow : OpenClaim := { program := "ytnkdlilccfclbaa", sum := "b1d83252fdb6ea758159b04bfad8ee14430df34ee7c396426249faa4caa1a318", func := "gantline/gantlinelaw18.RecvNobody", spec := "recvNobody", apart := false }
def RecvNobodySaid : Prop := recvNobodyRow.holds Try.pinned (OpenSpec.ofChange recvNobodySpec)

/-- ITS FALSE NEIGHBOUR: 'it returns false'. Refute it at one input. -/
def recvNobodyWrong : ChangeSpec := { name := "recvNobody", fn := fun _ => fun
  | [d1, d2] => { results := [.lit (.bool false)], args := [d1, d2] }
  | _ => none }
def RecvNobodyWrongFalsely : Prop := recvNobodyRow.holds Try.pinned (OpenSpec.ofChange recvNobodyWrong)

/- THE SECOND FORM. 'bulk': how many values and letters a reading holds, each counted each time it is reached (what is shared counts as often as it is met; a slice's spare places count too). A statement '..UptoSaid' is the law's where the arguments, and the package variables that the reading takes, are together of bulk at most 1048576: NARROWER than '..Said'. Prove '..Said' where nothing that the law and all that it calls make is longer than what came in: it says more and counts as full. Else prove '..UptoSaid'. A law counts once. -/
mutual
def uptoBulk {H : Type} : DataW H → Nat
  | .lit (.string bytes) => bytes.length + 1
  | .lit _ => 1
  | .nil => 1
  | .ptr d => uptoBulk d + 1
  | .slice elems spare => uptoBulkAll elems + uptoBulkAll spare + 1
  | .agg parts => uptoBulkAll parts + 1
  | .iface _ d => uptoBulk d + 1
  | .map entries => uptoBulkEntries entries + 1
  | .held _ => 1
def uptoBulkAll {H : Type} : List (DataW H) → Nat
  | [] => 0
  | d :: r => uptoBulk d + uptoBulkAll r
def uptoBulkEntries {H : Type} : List (Lit × DataW H) → Nat
  | [] => 0
  | x :: r => uptoBulkEntry x + uptoBulkEntries r
def uptoBulkEntry {H : Type} : Lit × DataW H → Nat
  | (.string bytes, d) => bytes.length + uptoBulk d + 1
  | (_, d) => uptoBulk d + 1
 end
def uptoSmall : (H : Type) → List (DataW H) → Bool := fun _ ds => decide (uptoBulkAll ds ≤ 1048576)
def OpenSpec.upto (s : _root_.Go.ChangeSpec) : _root_.Go.OpenSpec := { _root_.Go.OpenSpec.ofChange s with cond := some uptoSmall }

/-- 'gantlinelaw18.RecvOrders', WHERE WHAT IT READS IS OF BULK AT MOST 1048576: true; the input reads as it did. -/
def recvOrdersUptoRow : OpenClaim := { program := "ytnkdlilccfclbaa", sum := "b1d83252fdb6ea758159b04bfad8ee14430df34ee7c396426249faa4caa1a318", func := "gantline/gantlinelaw18.RecvOrders", spec := "recvOrders", apart := false, narrowed := true }
def RecvOrdersUptoSaid : Prop := recvOrdersUptoRow.holds Try.pinned (OpenSpec.upto recvOrdersSpec)

/-- 'gantlinelaw18.RecvAnyhow', WHERE WHAT IT READS IS OF BULK AT MOST 1048576: true; the input reads as it did. -/
def recvAnyhowUptoRow : OpenClaim := { program := "ytnkdlilccfclbaa", sum := "b1d83252fdb6ea758159b04bfad8ee14430df34ee7c396426249faa4caa1a318", func := "gantline/gantlinelaw18.RecvAnyhow", spec := "recvAnyhow", apart := false, narrowed := true }
def RecvAnyhowUptoSaid : Prop := recvAnyhowUptoRow.holds Try.pinned (OpenSpec.upto recvAnyhowSpec)

/-- 'gantlinelaw18.RecvTwice', WHERE WHAT IT READS IS OF BULK AT MOST 1048576: true; the input reads as it did. -/
def recvTwiceUptoRow : OpenClaim := { program := "ytnkdlilccfclbaa", sum := "b1d83252fdb6ea758159b04bfad8ee14430df34ee7c396426249faa4caa1a318", func := "gantline/gantlinelaw18.RecvTwice", spec := "recvTwice", apart := false, narrowed := true }
def RecvTwiceUptoSaid : Prop := recvTwiceUptoRow.holds Try.pinned (OpenSpec.upto recvTwiceSpec)

/-- 'gantlinelaw18.RecvPlays', WHERE WHAT IT READS IS OF BULK AT MOST 1048576: true; the input reads as it did. -/
def recvPlaysUptoRow : OpenClaim := { program := "ytnkdlilccfclbaa", sum := "b1d83252fdb6ea758159b04bfad8ee14430df34ee7c396426249faa4caa1a318", func := "gantline/gantlinelaw18.RecvPlays", spec := "recvPlays", apart := false, narrowed := true }
def RecvPlaysUptoSaid : Prop := recvPlaysUptoRow.holds Try.pinned (OpenSpec.upto recvPlaysSpec)

/-- 'gantlinelaw18.RecvBounds', WHERE WHAT IT READS IS OF BULK AT MOST 1048576: true; the input reads as it did. -/
def recvBoundsUptoRow : OpenClaim := { program := "ytnkdlilccfclbaa", sum := "b1d83252fdb6ea758159b04bfad8ee14430df34ee7c396426249faa4caa1a318", func := "gantline/gantlinelaw18.RecvBounds", spec := "recvBounds", apart := false, narrowed := true }
def RecvBoundsUptoSaid : Prop := recvBoundsUptoRow.holds Try.pinned (OpenSpec.upto recvBoundsSpec)

/-- 'gantlinelaw18.RecvNobody', WHERE WHAT IT READS IS OF BULK AT MOST 1048576: true; the input reads as it did. -/
def recvNobodyUptoRow : OpenClaim := { program := "ytnkdlilccfclbaa", sum := "b1d83252fdb6ea758159b04bfad8ee14430df34ee7c396426249faa4caa1a318", func := "gantline/gantlinelaw18.RecvNobody", spec := "recvNobody", apart := false, narrowed := true }
def RecvNobodyUptoSaid : Prop := recvNobodyUptoRow.holds Try.pinned (OpenSpec.upto recvNobodySpec)

end Rows
end Go.Proofs.Ytnkdlilccfclbaa
