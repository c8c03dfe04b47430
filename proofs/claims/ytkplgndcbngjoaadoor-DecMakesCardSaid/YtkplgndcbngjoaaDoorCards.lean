/-
  DERIVED. GIVEN WITH THE SEED: THE CARDS: each row of YtkplgndcbngjoaaDoorRows.lean that lists a variable, with what it lists TIED to the program's text (the seventh form; the later family's looks); each row that meets fmt, with fmt's text TOLD by the authors' own Lean function (tested against real Go, not proved from fmt's source: count such statements apart). THE CARD IS WHAT COUNTS. Prove the row's statement (the work); the ties are given (YtkplgndcbngjoaaDoorTie.lean); close each card by the builder's one call (the guide's Derived/Test/ToyasCard.lean, 'card_holds'). Laid BY PROGRAM, IN A SANDBOX (cutbox-door.mjs). By AI agents, Wed Nov 11 2026. No macro, syntax, notation, axiom, sorry.
-/
import Derived.Test.YtkplgndcbngjoaaDoorRows
import GoSem.ClaimSeven
namespace Go.Proofs.YtkplgndcbngjoaaDoor
namespace Rows

/-- THE TIED CARD OF 'gantlinelaw06.DecMakes'. -/
def decMakesCard : Claim7 := { stood := { row := decMakesRow, standIns := [], harness := (true, "0dc09d877fec20f829fe1c9b52bafcd5178d89ad7536f05edf66aec809feb010"), looks := true }, kinds := [], alts := [], laidByText := true, laidKinds := [.data, .data, .data, .data, .sentinel, .sentinel, .pinned], laidTests := true, laidLooks := .later }
def DecMakesCardSaid : Prop := Claim7.holds Tryd.pinned (.plain (OpenSpec.ofChange decMakesSpec)) decMakesCard

/-- THE TIED CARD OF 'gantlinelaw06.DecBack'. -/
def decBackCard : Claim7 := { stood := { row := decBackRow, standIns := [], harness := (true, "0dc09d877fec20f829fe1c9b52bafcd5178d89ad7536f05edf66aec809feb010"), looks := true }, kinds := [], alts := [], laidByText := true, laidKinds := [.data, .data, .data, .data, .sentinel, .sentinel, .pinned], laidTests := true, laidLooks := .later }
def DecBackCardSaid : Prop := Claim7.holds Tryd.pinned (.plain (OpenSpec.ofChange decBackSpec)) decBackCard

/-- THE TIED CARD OF 'gantlinelaw06.DecSame'. -/
def decSameCard : Claim7 := { stood := { row := decSameRow, standIns := [], harness := (true, "0dc09d877fec20f829fe1c9b52bafcd5178d89ad7536f05edf66aec809feb010"), looks := true }, kinds := [], alts := [], laidByText := true, laidKinds := [.data, .data, .data, .data, .sentinel, .sentinel, .pinned], laidTests := true, laidLooks := .later }
def DecSameCardSaid : Prop := Claim7.holds Tryd.pinned (.plain (OpenSpec.ofChange decSameSpec)) decSameCard

/-- THE TIED CARD OF 'gantlinelaw06.DecGoes'. -/
def decGoesCard : Claim7 := { stood := { row := decGoesRow, standIns := [], harness := (true, "0dc09d877fec20f829fe1c9b52bafcd5178d89ad7536f05edf66aec809feb010"), looks := true }, kinds := [], alts := [], laidByText := true, laidKinds := [.data, .data, .data, .data, .sentinel, .sentinel, .pinned], laidTests := true, laidLooks := .later }
def DecGoesCardSaid : Prop := Claim7.holds Tryd.pinned (.plain (OpenSpec.ofChange decGoesSpec)) decGoesCard

/-- THE SECOND FORM's CARD OF 'gantlinelaw06.DecMakes'. -/
def decMakesUptoCard : Claim7 := { stood := { row := decMakesUptoRow, standIns := [], harness := (true, "0dc09d877fec20f829fe1c9b52bafcd5178d89ad7536f05edf66aec809feb010"), looks := true }, kinds := [], alts := [], laidByText := true, laidKinds := [.data, .data, .data, .data, .sentinel, .sentinel, .pinned], laidTests := true, laidLooks := .later }
def DecMakesUptoCardSaid : Prop := Claim7.holds Tryd.pinned (.plain (OpenSpec.upto decMakesSpec)) decMakesUptoCard

/-- THE SECOND FORM's CARD OF 'gantlinelaw06.DecBack'. -/
def decBackUptoCard : Claim7 := { stood := { row := decBackUptoRow, standIns := [], harness := (true, "0dc09d877fec20f829fe1c9b52bafcd5178d89ad7536f05edf66aec809feb010"), looks := true }, kinds := [], alts := [], laidByText := true, laidKinds := [.data, .data, .data, .data, .sentinel, .sentinel, .pinned], laidTests := true, laidLooks := .later }
def DecBackUptoCardSaid : Prop := Claim7.holds Tryd.pinned (.plain (OpenSpec.upto decBackSpec)) decBackUptoCard

/-- THE SECOND FORM's CARD OF 'gantlinelaw06.DecSame'. -/
def decSameUptoCard : Claim7 := { stood := { row := decSameUptoRow, standIns := [], harness := (true, "0dc09d877fec20f829fe1c9b52bafcd5178d89ad7536f05edf66aec809feb010"), looks := true }, kinds := [], alts := [], laidByText := true, laidKinds := [.data, .data, .data, .data, .sentinel, .sentinel, .pinned], laidTests := true, laidLooks := .later }
def DecSameUptoCardSaid : Prop := Claim7.holds Tryd.pinned (.plain (OpenSpec.upto decSameSpec)) decSameUptoCard

/-- THE SECOND FORM's CARD OF 'gantlinelaw06.DecGoes'. -/
def decGoesUptoCard : Claim7 := { stood := { row := decGoesUptoRow, standIns := [], harness := (true, "0dc09d877fec20f829fe1c9b52bafcd5178d89ad7536f05edf66aec809feb010"), looks := true }, kinds := [], alts := [], laidByText := true, laidKinds := [.data, .data, .data, .data, .sentinel, .sentinel, .pinned], laidTests := true, laidLooks := .later }
def DecGoesUptoCardSaid : Prop := Claim7.holds Tryd.pinned (.plain (OpenSpec.upto decGoesSpec)) decGoesUptoCard
end Rows
end Go.Proofs.YtkplgndcbngjoaaDoor
