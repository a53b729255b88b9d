/-
  DERIVED. GIVEN WITH THE SEED: THE CARDS: each row of YtnniagcgccfobaaGreatDoorRows.lean that lists a variable, with what it lists TIED to the program's text (the seventh form; the later family's looks); each row that meets fmt, with fmt's text TOLD by the authors' own Lean function (tested against real Go, not proved from fmt's source: count such statements apart). THE CARD IS WHAT COUNTS. Prove the row's statement (the work); the ties are given (YtnniagcgccfobaaGreatDoorTie.lean); close each card by the builder's one call (the guide's Derived/Test/ToyasCard.lean, 'card_holds'). Laid BY PROGRAM, IN A SANDBOX (cutbox-door.mjs). By AI agents, Wed Nov 11 2026. No macro, syntax, notation, axiom, sorry.
-/
import Derived.Test.YtnniagcgccfobaaGreatDoorRows
import GoSem.ClaimSeven
namespace Go.Proofs.YtnniagcgccfobaaGreatDoor
namespace Rows

/-- THE TIED CARD OF 'wormtubtop.TopLedgers'. -/
def topLedgersCard : Claim7 := { stood := { row := topLedgersRow, standIns := [], harness := (true, "8c5434845bb07ec602df5c271e560a2d2b065291918897c2a1b9578e7eaeb517"), looks := true }, kinds := [], alts := [], laidByText := true, laidKinds := [.data, .data, .data, .data, .sentinel, .sentinel, .pinned], laidTests := true, laidLooks := .later }
def TopLedgersCardSaid : Prop := Claim7.holds Tryz.pinned (.plain (OpenSpec.ofChange topLedgersSpec)) topLedgersCard

/-- THE SECOND FORM's CARD OF 'wormtubtop.TopLedgers'. -/
def topLedgersUptoCard : Claim7 := { stood := { row := topLedgersUptoRow, standIns := [], harness := (true, "8c5434845bb07ec602df5c271e560a2d2b065291918897c2a1b9578e7eaeb517"), looks := true }, kinds := [], alts := [], laidByText := true, laidKinds := [.data, .data, .data, .data, .sentinel, .sentinel, .pinned], laidTests := true, laidLooks := .later }
def TopLedgersUptoCardSaid : Prop := Claim7.holds Tryz.pinned (.plain (OpenSpec.upto topLedgersSpec)) topLedgersUptoCard
end Rows
end Go.Proofs.YtnniagcgccfobaaGreatDoor
