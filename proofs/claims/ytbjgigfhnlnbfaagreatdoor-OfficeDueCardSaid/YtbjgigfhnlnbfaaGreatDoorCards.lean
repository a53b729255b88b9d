/-
  DERIVED. GIVEN WITH THE SEED: THE CARDS: each row of YtbjgigfhnlnbfaaGreatDoorRows.lean that lists a variable, with what it lists TIED to the program's text (the seventh form; the later family's looks); each row that meets fmt, with fmt's text TOLD by the authors' own Lean function (tested against real Go, not proved from fmt's source: count such statements apart). THE CARD IS WHAT COUNTS. Prove the row's statement (the work); the ties are given (YtbjgigfhnlnbfaaGreatDoorTie.lean); close each card by the builder's one call (the guide's Derived/Test/ToyasCard.lean, 'card_holds'). Laid BY PROGRAM, IN A SANDBOX (cutbox-door.mjs). By AI agents, Wed Nov 11 2026. No macro, syntax, notation, axiom, sorry.
-/
import Derived.Test.YtbjgigfhnlnbfaaGreatDoorRows
import GoSem.ClaimSeven
namespace Go.Proofs.YtbjgigfhnlnbfaaGreatDoor
namespace Rows

/-- THE TIED CARD OF 'wormtublaw15.OfficeBonds'. -/
def officeBondsCard : Claim7 := { stood := { row := officeBondsRow, standIns := [], harness := (true, "deaf544e630a44e551739120c978b8740a1d5a7896cd59f4940acf0dc5c8cd72"), looks := true }, kinds := [], alts := [], laidByText := true, laidKinds := [.data, .data, .data], laidTests := true, laidLooks := .later }
def OfficeBondsCardSaid : Prop := Claim7.holds Tryz.pinned (.plain (OpenSpec.ofChange officeBondsSpec)) officeBondsCard

/-- THE TIED CARD OF 'wormtublaw15.OfficeDue'. -/
def officeDueCard : Claim7 := { stood := { row := officeDueRow, standIns := [], harness := (true, "deaf544e630a44e551739120c978b8740a1d5a7896cd59f4940acf0dc5c8cd72"), looks := true }, kinds := [], alts := [], laidByText := true, laidKinds := [.data, .data, .data], laidTests := true, laidLooks := .later }
def OfficeDueCardSaid : Prop := Claim7.holds Tryz.pinned (.plain (OpenSpec.ofChange officeDueSpec)) officeDueCard

/-- THE SECOND FORM's CARD OF 'wormtublaw15.OfficeBonds'. -/
def officeBondsUptoCard : Claim7 := { stood := { row := officeBondsUptoRow, standIns := [], harness := (true, "deaf544e630a44e551739120c978b8740a1d5a7896cd59f4940acf0dc5c8cd72"), looks := true }, kinds := [], alts := [], laidByText := true, laidKinds := [.data, .data, .data], laidTests := true, laidLooks := .later }
def OfficeBondsUptoCardSaid : Prop := Claim7.holds Tryz.pinned (.plain (OpenSpec.upto officeBondsSpec)) officeBondsUptoCard

/-- THE SECOND FORM's CARD OF 'wormtublaw15.OfficeDue'. -/
def officeDueUptoCard : Claim7 := { stood := { row := officeDueUptoRow, standIns := [], harness := (true, "deaf544e630a44e551739120c978b8740a1d5a7896cd59f4940acf0dc5c8cd72"), looks := true }, kinds := [], alts := [], laidByText := true, laidKinds := [.data, .data, .data], laidTests := true, laidLooks := .later }
def OfficeDueUptoCardSaid : Prop := Claim7.holds Tryz.pinned (.plain (OpenSpec.upto officeDueSpec)) officeDueUptoCard
end Rows
end Go.Proofs.YtbjgigfhnlnbfaaGreatDoor
