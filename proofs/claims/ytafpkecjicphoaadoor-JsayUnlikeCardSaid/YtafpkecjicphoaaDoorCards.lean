/-
  DERIVED. GIVEN WITH THE SEED: THE CARDS: each row of YtafpkecjicphoaaDoorRows.lean that lists a variable, with what it lists TIED to the program's text (the seventh form; the later family's looks); each row that meets fmt, with fmt's text TOLD by the authors' own Lean function (tested against real Go, not proved from fmt's source: count such statements apart). THE CARD IS WHAT COUNTS. Prove the row's statement (the work); the ties are given (YtafpkecjicphoaaDoorTie.lean); close each card by the builder's one call (the guide's Derived/Test/ToyasCard.lean, 'card_holds'). Laid BY PROGRAM, IN A SANDBOX (cutbox-door.mjs). By AI agents, Wed Nov 11 2026. No macro, syntax, notation, axiom, sorry.
-/
import Derived.Test.YtafpkecjicphoaaDoorRows
import GoSem.ClaimSeven
namespace Go.Proofs.YtafpkecjicphoaaDoor
namespace Rows

/-- THE TIED CARD OF 'gantlinelaw11.JsayUnlike'. -/
def jsayUnlikeCard : Claim7 := { stood := { row := jsayUnlikeRow, standIns := [], harness := (true, "d058e5aaa679c84361874dbb064fa8d1977e8841a197eab5b831bb0da2a8e4c2"), looks := false }, kinds := [], alts := [], laidByText := true, laidKinds := [.data, .data, .data, .data, .pinned], laidTests := true, laidLooks := .later }
def JsayUnlikeCardSaid : Prop := Claim7.holds Tryd.pinned (.plain (OpenSpec.ofChange jsayUnlikeSpec)) jsayUnlikeCard

/-- THE TIED CARD OF 'gantlinelaw11.JsayTight'. -/
def jsayTightCard : Claim7 := { stood := { row := jsayTightRow, standIns := [], harness := (true, "d058e5aaa679c84361874dbb064fa8d1977e8841a197eab5b831bb0da2a8e4c2"), looks := false }, kinds := [], alts := [], laidByText := true, laidKinds := [.data, .data, .data, .data, .pinned], laidTests := true, laidLooks := .later }
def JsayTightCardSaid : Prop := Claim7.holds Tryd.pinned (.plain (OpenSpec.ofChange jsayTightSpec)) jsayTightCard

/-- THE SECOND FORM's CARD OF 'gantlinelaw11.JsayUnlike'. -/
def jsayUnlikeUptoCard : Claim7 := { stood := { row := jsayUnlikeUptoRow, standIns := [], harness := (true, "d058e5aaa679c84361874dbb064fa8d1977e8841a197eab5b831bb0da2a8e4c2"), looks := false }, kinds := [], alts := [], laidByText := true, laidKinds := [.data, .data, .data, .data, .pinned], laidTests := true, laidLooks := .later }
def JsayUnlikeUptoCardSaid : Prop := Claim7.holds Tryd.pinned (.plain (OpenSpec.upto jsayUnlikeSpec)) jsayUnlikeUptoCard

/-- THE SECOND FORM's CARD OF 'gantlinelaw11.JsayTight'. -/
def jsayTightUptoCard : Claim7 := { stood := { row := jsayTightUptoRow, standIns := [], harness := (true, "d058e5aaa679c84361874dbb064fa8d1977e8841a197eab5b831bb0da2a8e4c2"), looks := false }, kinds := [], alts := [], laidByText := true, laidKinds := [.data, .data, .data, .data, .pinned], laidTests := true, laidLooks := .later }
def JsayTightUptoCardSaid : Prop := Claim7.holds Tryd.pinned (.plain (OpenSpec.upto jsayTightSpec)) jsayTightUptoCard
end Rows
end Go.Proofs.YtafpkecjicphoaaDoor
