/-
  DERIVED. GIVEN WITH THE SEED: THE CARDS: each row of YthnlglmjffdpfaaGreatDoorRows.lean that lists a variable, with what it lists TIED to the program's text (the seventh form; the later family's looks); each row that meets fmt, with fmt's text TOLD by the authors' own Lean function (tested against real Go, not proved from fmt's source: count such statements apart). THE CARD IS WHAT COUNTS. Prove the row's statement (the work); the ties are given (YthnlglmjffdpfaaGreatDoorTie.lean); close each card by the builder's one call (the guide's Derived/Test/ToyasCard.lean, 'card_holds'). Laid BY PROGRAM, IN A SANDBOX (cutbox-door.mjs). By AI agents, Wed Nov 11 2026. No macro, syntax, notation, axiom, sorry.
-/
import Derived.Test.YthnlglmjffdpfaaGreatDoorRows
import GoSem.ClaimSeven
namespace Go.Proofs.YthnlglmjffdpfaaGreatDoor
namespace Rows

/-- THE TIED CARD OF 'wormtublaw14.FileWrites'. -/
def fileWritesCard : Claim7 := { stood := { row := fileWritesRow, standIns := [], harness := (true, "3bd84bf44a97e49b979e061ef005845ecf1aa6bc424530e46bde597d8668a3f8"), looks := true }, kinds := [], alts := [], laidByText := true, laidKinds := [.data, .data, .data, .data, .sentinel, .sentinel, .pinned], laidTests := true, laidLooks := .later }
def FileWritesCardSaid : Prop := Claim7.holds Tryz.pinned (.plain (OpenSpec.ofChange fileWritesSpec)) fileWritesCard

/-- THE TIED CARD OF 'wormtublaw14.FileReads'. -/
def fileReadsCard : Claim7 := { stood := { row := fileReadsRow, standIns := [], harness := (true, "3bd84bf44a97e49b979e061ef005845ecf1aa6bc424530e46bde597d8668a3f8"), looks := true }, kinds := [], alts := [], laidByText := true, laidKinds := [.data, .data, .data, .data, .sentinel, .sentinel, .pinned], laidTests := true, laidLooks := .later }
def FileReadsCardSaid : Prop := Claim7.holds Tryz.pinned (.plain (OpenSpec.ofChange fileReadsSpec)) fileReadsCard

/-- THE TIED CARD OF 'wormtublaw14.FileBack'. -/
def fileBackCard : Claim7 := { stood := { row := fileBackRow, standIns := [], harness := (true, "3bd84bf44a97e49b979e061ef005845ecf1aa6bc424530e46bde597d8668a3f8"), looks := true }, kinds := [], alts := [], laidByText := true, laidKinds := [.data, .data, .data, .data, .sentinel, .sentinel, .pinned], laidTests := true, laidLooks := .later }
def FileBackCardSaid : Prop := Claim7.holds Tryz.pinned (.plain (OpenSpec.ofChange fileBackSpec)) fileBackCard

/-- THE TIED CARD OF 'wormtublaw14.FileOne'. -/
def fileOneCard : Claim7 := { stood := { row := fileOneRow, standIns := [], harness := (true, "3bd84bf44a97e49b979e061ef005845ecf1aa6bc424530e46bde597d8668a3f8"), looks := true }, kinds := [], alts := [], laidByText := true, laidKinds := [.data, .data, .data, .data, .sentinel, .sentinel, .pinned], laidTests := true, laidLooks := .later }
def FileOneCardSaid : Prop := Claim7.holds Tryz.pinned (.plain (OpenSpec.ofChange fileOneSpec)) fileOneCard

/-- THE TIED CARD OF 'wormtublaw14.FileGroups'. -/
def fileGroupsCard : Claim7 := { stood := { row := fileGroupsRow, standIns := [], harness := (true, "3bd84bf44a97e49b979e061ef005845ecf1aa6bc424530e46bde597d8668a3f8"), looks := true }, kinds := [], alts := [], laidByText := true, laidKinds := [.data, .data, .data, .data, .sentinel, .sentinel, .pinned], laidTests := true, laidLooks := .later }
def FileGroupsCardSaid : Prop := Claim7.holds Tryz.pinned (.plain (OpenSpec.ofChange fileGroupsSpec)) fileGroupsCard

/-- THE TIED CARD OF 'wormtublaw14.FileSure'. -/
def fileSureCard : Claim7 := { stood := { row := fileSureRow, standIns := [], harness := (true, "3bd84bf44a97e49b979e061ef005845ecf1aa6bc424530e46bde597d8668a3f8"), looks := true }, kinds := [], alts := [], laidByText := true, laidKinds := [.data, .data, .data, .data, .sentinel, .sentinel, .pinned], laidTests := true, laidLooks := .later }
def FileSureCardSaid : Prop := Claim7.holds Tryz.pinned (.plain (OpenSpec.ofChange fileSureSpec)) fileSureCard

/-- THE TIED CARD OF 'wormtublaw14.FileFirst'. -/
def fileFirstCard : Claim7 := { stood := { row := fileFirstRow, standIns := [], harness := (true, "3bd84bf44a97e49b979e061ef005845ecf1aa6bc424530e46bde597d8668a3f8"), looks := true }, kinds := [], alts := [], laidByText := true, laidKinds := [.data, .data, .data, .data, .sentinel, .sentinel, .pinned], laidTests := true, laidLooks := .later }
def FileFirstCardSaid : Prop := Claim7.holds Tryz.pinned (.plain (OpenSpec.ofChange fileFirstSpec)) fileFirstCard

/-- THE TIED CARD OF 'wormtublaw14.FileOwns'. -/
def fileOwnsCard : Claim7 := { stood := { row := fileOwnsRow, standIns := [], harness := (true, "3bd84bf44a97e49b979e061ef005845ecf1aa6bc424530e46bde597d8668a3f8"), looks := true }, kinds := [], alts := [], laidByText := true, laidKinds := [.data, .data, .data, .data, .sentinel, .sentinel, .pinned], laidTests := true, laidLooks := .later }
def FileOwnsCardSaid : Prop := Claim7.holds Tryz.pinned (.plain (OpenSpec.ofChange fileOwnsSpec)) fileOwnsCard

/-- THE TIED CARD OF 'wormtublaw14.FileNames'. -/
def fileNamesCard : Claim7 := { stood := { row := fileNamesRow, standIns := [], harness := (true, "3bd84bf44a97e49b979e061ef005845ecf1aa6bc424530e46bde597d8668a3f8"), looks := true }, kinds := [], alts := [], laidByText := true, laidKinds := [.data, .data, .data, .data, .sentinel, .sentinel, .pinned], laidTests := true, laidLooks := .later }
def FileNamesCardSaid : Prop := Claim7.holds Tryz.pinned (.plain (OpenSpec.ofChange fileNamesSpec)) fileNamesCard

/-- THE TIED CARD OF 'wormtublaw14.FileLong'. -/
def fileLongCard : Claim7 := { stood := { row := fileLongRow, standIns := [], harness := (true, "3bd84bf44a97e49b979e061ef005845ecf1aa6bc424530e46bde597d8668a3f8"), looks := true }, kinds := [], alts := [], laidByText := true, laidKinds := [.data, .data, .data, .data, .sentinel, .sentinel, .pinned], laidTests := true, laidLooks := .later }
def FileLongCardSaid : Prop := Claim7.holds Tryz.pinned (.plain (OpenSpec.ofChange fileLongSpec)) fileLongCard

/-- THE TIED CARD OF 'wormtublaw14.FileLists'. -/
def fileListsCard : Claim7 := { stood := { row := fileListsRow, standIns := [], harness := (true, "3bd84bf44a97e49b979e061ef005845ecf1aa6bc424530e46bde597d8668a3f8"), looks := true }, kinds := [], alts := [], laidByText := true, laidKinds := [.data, .data, .data, .data, .sentinel, .sentinel, .pinned], laidTests := true, laidLooks := .later }
def FileListsCardSaid : Prop := Claim7.holds Tryz.pinned (.plain (OpenSpec.ofChange fileListsSpec)) fileListsCard

/-- THE TIED CARD OF 'wormtublaw14.FileEvents'. -/
def fileEventsCard : Claim7 := { stood := { row := fileEventsRow, standIns := [], harness := (true, "3bd84bf44a97e49b979e061ef005845ecf1aa6bc424530e46bde597d8668a3f8"), looks := true }, kinds := [], alts := [], laidByText := true, laidKinds := [.data, .data, .data, .data, .sentinel, .sentinel, .pinned], laidTests := true, laidLooks := .later }
def FileEventsCardSaid : Prop := Claim7.holds Tryz.pinned (.plain (OpenSpec.ofChange fileEventsSpec)) fileEventsCard

/-- THE SECOND FORM's CARD OF 'wormtublaw14.FileWrites'. -/
def fileWritesUptoCard : Claim7 := { stood := { row := fileWritesUptoRow, standIns := [], harness := (true, "3bd84bf44a97e49b979e061ef005845ecf1aa6bc424530e46bde597d8668a3f8"), looks := true }, kinds := [], alts := [], laidByText := true, laidKinds := [.data, .data, .data, .data, .sentinel, .sentinel, .pinned], laidTests := true, laidLooks := .later }
def FileWritesUptoCardSaid : Prop := Claim7.holds Tryz.pinned (.plain (OpenSpec.upto fileWritesSpec)) fileWritesUptoCard

/-- THE SECOND FORM's CARD OF 'wormtublaw14.FileReads'. -/
def fileReadsUptoCard : Claim7 := { stood := { row := fileReadsUptoRow, standIns := [], harness := (true, "3bd84bf44a97e49b979e061ef005845ecf1aa6bc424530e46bde597d8668a3f8"), looks := true }, kinds := [], alts := [], laidByText := true, laidKinds := [.data, .data, .data, .data, .sentinel, .sentinel, .pinned], laidTests := true, laidLooks := .later }
def FileReadsUptoCardSaid : Prop := Claim7.holds Tryz.pinned (.plain (OpenSpec.upto fileReadsSpec)) fileReadsUptoCard

/-- THE SECOND FORM's CARD OF 'wormtublaw14.FileBack'. -/
def fileBackUptoCard : Claim7 := { stood := { row := fileBackUptoRow, standIns := [], harness := (true, "3bd84bf44a97e49b979e061ef005845ecf1aa6bc424530e46bde597d8668a3f8"), looks := true }, kinds := [], alts := [], laidByText := true, laidKinds := [.data, .data, .data, .data, .sentinel, .sentinel, .pinned], laidTests := true, laidLooks := .later }
def FileBackUptoCardSaid : Prop := Claim7.holds Tryz.pinned (.plain (OpenSpec.upto fileBackSpec)) fileBackUptoCard

/-- THE SECOND FORM's CARD OF 'wormtublaw14.FileOne'. -/
def fileOneUptoCard : Claim7 := { stood := { row := fileOneUptoRow, standIns := [], harness := (true, "3bd84bf44a97e49b979e061ef005845ecf1aa6bc424530e46bde597d8668a3f8"), looks := true }, kinds := [], alts := [], laidByText := true, laidKinds := [.data, .data, .data, .data, .sentinel, .sentinel, .pinned], laidTests := true, laidLooks := .later }
def FileOneUptoCardSaid : Prop := Claim7.holds Tryz.pinned (.plain (OpenSpec.upto fileOneSpec)) fileOneUptoCard

/-- THE SECOND FORM's CARD OF 'wormtublaw14.FileGroups'. -/
def fileGroupsUptoCard : Claim7 := { stood := { row := fileGroupsUptoRow, standIns := [], harness := (true, "3bd84bf44a97e49b979e061ef005845ecf1aa6bc424530e46bde597d8668a3f8"), looks := true }, kinds := [], alts := [], laidByText := true, laidKinds := [.data, .data, .data, .data, .sentinel, .sentinel, .pinned], laidTests := true, laidLooks := .later }
def FileGroupsUptoCardSaid : Prop := Claim7.holds Tryz.pinned (.plain (OpenSpec.upto fileGroupsSpec)) fileGroupsUptoCard

/-- THE SECOND FORM's CARD OF 'wormtublaw14.FileSure'. -/
def fileSureUptoCard : Claim7 := { stood := { row := fileSureUptoRow, standIns := [], harness := (true, "3bd84bf44a97e49b979e061ef005845ecf1aa6bc424530e46bde597d8668a3f8"), looks := true }, kinds := [], alts := [], laidByText := true, laidKinds := [.data, .data, .data, .data, .sentinel, .sentinel, .pinned], laidTests := true, laidLooks := .later }
def FileSureUptoCardSaid : Prop := Claim7.holds Tryz.pinned (.plain (OpenSpec.upto fileSureSpec)) fileSureUptoCard

/-- THE SECOND FORM's CARD OF 'wormtublaw14.FileFirst'. -/
def fileFirstUptoCard : Claim7 := { stood := { row := fileFirstUptoRow, standIns := [], harness := (true, "3bd84bf44a97e49b979e061ef005845ecf1aa6bc424530e46bde597d8668a3f8"), looks := true }, kinds := [], alts := [], laidByText := true, laidKinds := [.data, .data, .data, .data, .sentinel, .sentinel, .pinned], laidTests := true, laidLooks := .later }
def FileFirstUptoCardSaid : Prop := Claim7.holds Tryz.pinned (.plain (OpenSpec.upto fileFirstSpec)) fileFirstUptoCard

/-- THE SECOND FORM's CARD OF 'wormtublaw14.FileOwns'. -/
def fileOwnsUptoCard : Claim7 := { stood := { row := fileOwnsUptoRow, standIns := [], harness := (true, "3bd84bf44a97e49b979e061ef005845ecf1aa6bc424530e46bde597d8668a3f8"), looks := true }, kinds := [], alts := [], laidByText := true, laidKinds := [.data, .data, .data, .data, .sentinel, .sentinel, .pinned], laidTests := true, laidLooks := .later }
def FileOwnsUptoCardSaid : Prop := Claim7.holds Tryz.pinned (.plain (OpenSpec.upto fileOwnsSpec)) fileOwnsUptoCard

/-- THE SECOND FORM's CARD OF 'wormtublaw14.FileNames'. -/
def fileNamesUptoCard : Claim7 := { stood := { row := fileNamesUptoRow, standIns := [], harness := (true, "3bd84bf44a97e49b979e061ef005845ecf1aa6bc424530e46bde597d8668a3f8"), looks := true }, kinds := [], alts := [], laidByText := true, laidKinds := [.data, .data, .data, .data, .sentinel, .sentinel, .pinned], laidTests := true, laidLooks := .later }
def FileNamesUptoCardSaid : Prop := Claim7.holds Tryz.pinned (.plain (OpenSpec.upto fileNamesSpec)) fileNamesUptoCard

/-- THE SECOND FORM's CARD OF 'wormtublaw14.FileLong'. -/
def fileLongUptoCard : Claim7 := { stood := { row := fileLongUptoRow, standIns := [], harness := (true, "3bd84bf44a97e49b979e061ef005845ecf1aa6bc424530e46bde597d8668a3f8"), looks := true }, kinds := [], alts := [], laidByText := true, laidKinds := [.data, .data, .data, .data, .sentinel, .sentinel, .pinned], laidTests := true, laidLooks := .later }
def FileLongUptoCardSaid : Prop := Claim7.holds Tryz.pinned (.plain (OpenSpec.upto fileLongSpec)) fileLongUptoCard

/-- THE SECOND FORM's CARD OF 'wormtublaw14.FileLists'. -/
def fileListsUptoCard : Claim7 := { stood := { row := fileListsUptoRow, standIns := [], harness := (true, "3bd84bf44a97e49b979e061ef005845ecf1aa6bc424530e46bde597d8668a3f8"), looks := true }, kinds := [], alts := [], laidByText := true, laidKinds := [.data, .data, .data, .data, .sentinel, .sentinel, .pinned], laidTests := true, laidLooks := .later }
def FileListsUptoCardSaid : Prop := Claim7.holds Tryz.pinned (.plain (OpenSpec.upto fileListsSpec)) fileListsUptoCard

/-- THE SECOND FORM's CARD OF 'wormtublaw14.FileEvents'. -/
def fileEventsUptoCard : Claim7 := { stood := { row := fileEventsUptoRow, standIns := [], harness := (true, "3bd84bf44a97e49b979e061ef005845ecf1aa6bc424530e46bde597d8668a3f8"), looks := true }, kinds := [], alts := [], laidByText := true, laidKinds := [.data, .data, .data, .data, .sentinel, .sentinel, .pinned], laidTests := true, laidLooks := .later }
def FileEventsUptoCardSaid : Prop := Claim7.holds Tryz.pinned (.plain (OpenSpec.upto fileEventsSpec)) fileEventsUptoCard
end Rows
end Go.Proofs.YthnlglmjffdpfaaGreatDoor
