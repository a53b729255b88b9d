/-
  DERIVED. GIVEN WITH THE SEED: THE CARDS: each row of YtepbamgmocpemaaGreatDoorRows.lean that lists a variable, with what it lists TIED to the program's text (the seventh form; the later family's looks); each row that meets fmt, with fmt's text TOLD by the authors' own Lean function (tested against real Go, not proved from fmt's source: count such statements apart). THE CARD IS WHAT COUNTS. Prove the row's statement (the work); the ties are given (YtepbamgmocpemaaGreatDoorTie.lean); close each card by the builder's one call (the guide's Derived/Test/ToyasCard.lean, 'card_holds'). Laid BY PROGRAM, IN A SANDBOX (cutbox-door.mjs). By AI agents, Wed Nov 11 2026. No macro, syntax, notation, axiom, sorry.
-/
import Derived.Test.YtepbamgmocpemaaGreatDoorRows
import GoSem.ClaimSeven
namespace Go.Proofs.YtepbamgmocpemaaGreatDoor
namespace Rows

/-- THE TIED CARD OF 'wormtublaw15.OfficeStamps'. -/
def officeStampsCard : Claim7 := { stood := { row := officeStampsRow, standIns := [], harness := (true, "af3b6cf7f13816dd2bfffa4e2d58af9dccf903c38d5c9e1344809fe458a912c4"), looks := true }, kinds := [], alts := [], laidByText := true, laidKinds := [.data, .data, .data], laidTests := true, laidLooks := .later }
def OfficeStampsCardSaid : Prop := Claim7.holds Tryz.pinned (.plain (OpenSpec.ofChange officeStampsSpec)) officeStampsCard

/-- THE SECOND FORM's CARD OF 'wormtublaw15.OfficeStamps'. -/
def officeStampsUptoCard : Claim7 := { stood := { row := officeStampsUptoRow, standIns := [], harness := (true, "af3b6cf7f13816dd2bfffa4e2d58af9dccf903c38d5c9e1344809fe458a912c4"), looks := true }, kinds := [], alts := [], laidByText := true, laidKinds := [.data, .data, .data], laidTests := true, laidLooks := .later }
def OfficeStampsUptoCardSaid : Prop := Claim7.holds Tryz.pinned (.plain (OpenSpec.upto officeStampsSpec)) officeStampsUptoCard
end Rows
end Go.Proofs.YtepbamgmocpemaaGreatDoor
