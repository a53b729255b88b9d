/-
  DERIVED. GIVEN WITH THE SEED: THE CARDS: each row of YtijhfeohbhedkaaGreatDoorRows.lean that lists a variable, with what it lists TIED to the program's text (the seventh form; the later family's looks); each row that meets fmt, with fmt's text TOLD by the authors' own Lean function (tested against real Go, not proved from fmt's source: count such statements apart). THE CARD IS WHAT COUNTS. Prove the row's statement (the work); the ties are given (YtijhfeohbhedkaaGreatDoorTie.lean); close each card by the builder's one call (the guide's Derived/Test/ToyasCard.lean, 'card_holds'). Laid BY PROGRAM, IN A SANDBOX (cutbox-door.mjs). By AI agents, Wed Nov 11 2026. No macro, syntax, notation, axiom, sorry.
-/
import Derived.Test.YtijhfeohbhedkaaGreatDoorRows
import GoSem.ClaimSeven
namespace Go.Proofs.YtijhfeohbhedkaaGreatDoor
namespace Rows

/-- THE TIED CARD OF 'wormtublaw15.OfficeAgain'. -/
def officeAgainCard : Claim7 := { stood := { row := officeAgainRow, standIns := [], harness := (true, "c3690034eadd7a36c941eea13291f4061a7740d19768c65b3e27dc31bc54f328"), looks := true }, kinds := [], alts := [], laidByText := true, laidKinds := [.data, .data, .data], laidTests := true, laidLooks := .later }
def OfficeAgainCardSaid : Prop := Claim7.holds Tryz.pinned (.plain (OpenSpec.ofChange officeAgainSpec)) officeAgainCard

/-- THE TIED CARD OF 'wormtublaw15.OfficeStamps'. -/
def officeStampsCard : Claim7 := { stood := { row := officeStampsRow, standIns := [], harness := (true, "c3690034eadd7a36c941eea13291f4061a7740d19768c65b3e27dc31bc54f328"), looks := true }, kinds := [], alts := [], laidByText := true, laidKinds := [.data, .data, .data], laidTests := true, laidLooks := .later }
def OfficeStampsCardSaid : Prop := Claim7.holds Tryz.pinned (.plain (OpenSpec.ofChange officeStampsSpec)) officeStampsCard

/-- THE TIED CARD OF 'wormtublaw15.OfficeRefused'. -/
def officeRefusedCard : Claim7 := { stood := { row := officeRefusedRow, standIns := [], harness := (true, "c3690034eadd7a36c941eea13291f4061a7740d19768c65b3e27dc31bc54f328"), looks := true }, kinds := [], alts := [], laidByText := true, laidKinds := [.data, .data, .data], laidTests := true, laidLooks := .later }
def OfficeRefusedCardSaid : Prop := Claim7.holds Tryz.pinned (.plain (OpenSpec.ofChange officeRefusedSpec)) officeRefusedCard

/-- THE SECOND FORM's CARD OF 'wormtublaw15.OfficeAgain'. -/
def officeAgainUptoCard : Claim7 := { stood := { row := officeAgainUptoRow, standIns := [], harness := (true, "c3690034eadd7a36c941eea13291f4061a7740d19768c65b3e27dc31bc54f328"), looks := true }, kinds := [], alts := [], laidByText := true, laidKinds := [.data, .data, .data], laidTests := true, laidLooks := .later }
def OfficeAgainUptoCardSaid : Prop := Claim7.holds Tryz.pinned (.plain (OpenSpec.upto officeAgainSpec)) officeAgainUptoCard

/-- THE SECOND FORM's CARD OF 'wormtublaw15.OfficeStamps'. -/
def officeStampsUptoCard : Claim7 := { stood := { row := officeStampsUptoRow, standIns := [], harness := (true, "c3690034eadd7a36c941eea13291f4061a7740d19768c65b3e27dc31bc54f328"), looks := true }, kinds := [], alts := [], laidByText := true, laidKinds := [.data, .data, .data], laidTests := true, laidLooks := .later }
def OfficeStampsUptoCardSaid : Prop := Claim7.holds Tryz.pinned (.plain (OpenSpec.upto officeStampsSpec)) officeStampsUptoCard

/-- THE SECOND FORM's CARD OF 'wormtublaw15.OfficeRefused'. -/
def officeRefusedUptoCard : Claim7 := { stood := { row := officeRefusedUptoRow, standIns := [], harness := (true, "c3690034eadd7a36c941eea13291f4061a7740d19768c65b3e27dc31bc54f328"), looks := true }, kinds := [], alts := [], laidByText := true, laidKinds := [.data, .data, .data], laidTests := true, laidLooks := .later }
def OfficeRefusedUptoCardSaid : Prop := Claim7.holds Tryz.pinned (.plain (OpenSpec.upto officeRefusedSpec)) officeRefusedUptoCard
end Rows
end Go.Proofs.YtijhfeohbhedkaaGreatDoor
