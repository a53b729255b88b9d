/-
  DERIVED. GIVEN WITH THE SEED: THE CARDS: each row of YthfjpbooaofjcaaGreatDoorRows.lean that lists a variable, with what it lists TIED to the program's text (the seventh form; the later family's looks); each row that meets fmt, with fmt's text TOLD by the authors' own Lean function (tested against real Go, not proved from fmt's source: count such statements apart). THE CARD IS WHAT COUNTS. Prove the row's statement (the work); the ties are given (YthfjpbooaofjcaaGreatDoorTie.lean); close each card by the builder's one call (the guide's Derived/Test/ToyasCard.lean, 'card_holds'). Laid BY PROGRAM, IN A SANDBOX (cutbox-door.mjs). By AI agents, Wed Nov 11 2026. No macro, syntax, notation, axiom, sorry.
-/
import Derived.Test.YthfjpbooaofjcaaGreatDoorRows
import GoSem.ClaimSeven
namespace Go.Proofs.YthfjpbooaofjcaaGreatDoor
namespace Rows

/-- THE TIED CARD OF 'wormtublaw15.OfficeClaims'. -/
def officeClaimsCard : Claim7 := { stood := { row := officeClaimsRow, standIns := [], harness := (true, "e5f8d4bb1947f2f68355482ed978175ca9a8c431729344c68c8a4ab338145a2e"), looks := true }, kinds := [], alts := [], laidByText := true, laidKinds := [.data, .data, .data], laidTests := true, laidLooks := .later }
def OfficeClaimsCardSaid : Prop := Claim7.holds Tryz.pinned (.plain (OpenSpec.ofChange officeClaimsSpec)) officeClaimsCard

/-- THE SECOND FORM's CARD OF 'wormtublaw15.OfficeClaims'. -/
def officeClaimsUptoCard : Claim7 := { stood := { row := officeClaimsUptoRow, standIns := [], harness := (true, "e5f8d4bb1947f2f68355482ed978175ca9a8c431729344c68c8a4ab338145a2e"), looks := true }, kinds := [], alts := [], laidByText := true, laidKinds := [.data, .data, .data], laidTests := true, laidLooks := .later }
def OfficeClaimsUptoCardSaid : Prop := Claim7.holds Tryz.pinned (.plain (OpenSpec.upto officeClaimsSpec)) officeClaimsUptoCard
end Rows
end Go.Proofs.YthfjpbooaofjcaaGreatDoor
