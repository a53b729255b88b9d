/-
  DERIVED. GIVEN WITH THE SEED: THE CARDS: each row of YtogaibncbkhjlaaGreatDoorRows.lean that lists a variable, with what it lists TIED to the program's text (the seventh form; the later family's looks); each row that meets fmt, with fmt's text TOLD by the authors' own Lean function (tested against real Go, not proved from fmt's source: count such statements apart). THE CARD IS WHAT COUNTS. Prove the row's statement (the work); the ties are given (YtogaibncbkhjlaaGreatDoorTie.lean); close each card by the builder's one call (the guide's Derived/Test/ToyasCard.lean, 'card_holds'). Laid BY PROGRAM, IN A SANDBOX (cutbox-door.mjs). By AI agents, Wed Nov 11 2026. No macro, syntax, notation, axiom, sorry.
-/
import Derived.Test.YtogaibncbkhjlaaGreatDoorRows
import GoSem.ClaimSeven
namespace Go.Proofs.YtogaibncbkhjlaaGreatDoor
namespace Rows

/-- THE TIED CARD OF 'wormtublaw15.OfficeNone'. -/
def officeNoneCard : Claim7 := { stood := { row := officeNoneRow, standIns := [], harness := (true, "d6acd565708a5f63fe3ed9dd72fa465112a6d7a0e6cf52382aae00ea6cc630e8"), looks := true }, kinds := [], alts := [], laidByText := true, laidKinds := [.data, .data, .data], laidTests := true, laidLooks := .later }
def OfficeNoneCardSaid : Prop := Claim7.holds Tryz.pinned (.plain (OpenSpec.ofChange officeNoneSpec)) officeNoneCard

/-- THE SECOND FORM's CARD OF 'wormtublaw15.OfficeNone'. -/
def officeNoneUptoCard : Claim7 := { stood := { row := officeNoneUptoRow, standIns := [], harness := (true, "d6acd565708a5f63fe3ed9dd72fa465112a6d7a0e6cf52382aae00ea6cc630e8"), looks := true }, kinds := [], alts := [], laidByText := true, laidKinds := [.data, .data, .data], laidTests := true, laidLooks := .later }
def OfficeNoneUptoCardSaid : Prop := Claim7.holds Tryz.pinned (.plain (OpenSpec.upto officeNoneSpec)) officeNoneUptoCard
end Rows
end Go.Proofs.YtogaibncbkhjlaaGreatDoor
