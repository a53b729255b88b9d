/-
  DERIVED. GIVEN WITH THE SEED: THE CARDS: each row of YtdoocboganbagaaGreatDoorRows.lean that lists a variable, with what it lists TIED to the program's text (the seventh form; the later family's looks); each row that meets fmt, with fmt's text TOLD by the authors' own Lean function (tested against real Go, not proved from fmt's source: count such statements apart). THE CARD IS WHAT COUNTS. Prove the row's statement (the work); the ties are given (YtdoocboganbagaaGreatDoorTie.lean); close each card by the builder's one call (the guide's Derived/Test/ToyasCard.lean, 'card_holds'). Laid BY PROGRAM, IN A SANDBOX (cutbox-door.mjs). By AI agents, Wed Nov 11 2026. No macro, syntax, notation, axiom, sorry.
-/
import Derived.Test.YtdoocboganbagaaGreatDoorRows
import GoSem.ClaimSeven
namespace Go.Proofs.YtdoocboganbagaaGreatDoor
namespace Rows

/-- THE TIED CARD OF 'wormtublaw15.OfficeBonds'. -/
def officeBondsCard : Claim7 := { stood := { row := officeBondsRow, standIns := [], harness := (true, "623388f38323a74ee661a591b8d8693cc91cb054a151b6868d1bd7abfbefcfbe"), looks := true }, kinds := [], alts := [], laidByText := true, laidKinds := [.data, .data, .data], laidTests := true, laidLooks := .later }
def OfficeBondsCardSaid : Prop := Claim7.holds Tryz.pinned (.plain (OpenSpec.ofChange officeBondsSpec)) officeBondsCard

/-- THE SECOND FORM's CARD OF 'wormtublaw15.OfficeBonds'. -/
def officeBondsUptoCard : Claim7 := { stood := { row := officeBondsUptoRow, standIns := [], harness := (true, "623388f38323a74ee661a591b8d8693cc91cb054a151b6868d1bd7abfbefcfbe"), looks := true }, kinds := [], alts := [], laidByText := true, laidKinds := [.data, .data, .data], laidTests := true, laidLooks := .later }
def OfficeBondsUptoCardSaid : Prop := Claim7.holds Tryz.pinned (.plain (OpenSpec.upto officeBondsSpec)) officeBondsUptoCard
end Rows
end Go.Proofs.YtdoocboganbagaaGreatDoor
