/-
  DERIVED. GIVEN WITH THE SEED: THE CARDS: each row of YtaffgndickdbiaaGreatDoorRows.lean that lists a variable, with what it lists TIED to the program's text (the seventh form; the later family's looks); each row that meets fmt, with fmt's text TOLD by the authors' own Lean function (tested against real Go, not proved from fmt's source: count such statements apart). THE CARD IS WHAT COUNTS. Prove the row's statement (the work); the ties are given (YtaffgndickdbiaaGreatDoorTie.lean); close each card by the builder's one call (the guide's Derived/Test/ToyasCard.lean, 'card_holds'). Laid BY PROGRAM, IN A SANDBOX (cutbox-door.mjs). By AI agents, Wed Nov 11 2026. No macro, syntax, notation, axiom, sorry.
-/
import Derived.Test.YtaffgndickdbiaaGreatDoorRows
import GoSem.ClaimSeven
namespace Go.Proofs.YtaffgndickdbiaaGreatDoor
namespace Rows

/-- THE TIED CARD OF 'creellaw.MemberWrites'. -/
def memberWritesCard : Claim7 := { stood := { row := memberWritesRow, standIns := [], harness := (true, "cc1975efb2c42b257e62c72aa7f5e65613dd34a6cbcd12a13de0fa895aeba220"), looks := true }, kinds := [], alts := [], laidByText := true, laidKinds := [.data, .data, .data, .data, .pinned], laidTests := true, laidLooks := .later }
def MemberWritesCardSaid : Prop := Claim7.holds Tryz.pinned (.plain (OpenSpec.ofChange memberWritesSpec)) memberWritesCard

/-- THE TIED CARD OF 'creellaw.WriteArchives'. -/
def writeArchivesCard : Claim7 := { stood := { row := writeArchivesRow, standIns := [], harness := (true, "cc1975efb2c42b257e62c72aa7f5e65613dd34a6cbcd12a13de0fa895aeba220"), looks := true }, kinds := [], alts := [], laidByText := true, laidKinds := [.data, .data, .data, .data, .pinned], laidTests := true, laidLooks := .later }
def WriteArchivesCardSaid : Prop := Claim7.holds Tryz.pinned (.plain (OpenSpec.ofChange writeArchivesSpec)) writeArchivesCard

/-- THE TIED CARD OF 'creellaw.MemberReads'. -/
def memberReadsCard : Claim7 := { stood := { row := memberReadsRow, standIns := [], harness := (true, "cc1975efb2c42b257e62c72aa7f5e65613dd34a6cbcd12a13de0fa895aeba220"), looks := true }, kinds := [], alts := [], laidByText := true, laidKinds := [.data, .data, .data, .data, .sentinel, .sentinel, .pinned], laidTests := true, laidLooks := .later }
def MemberReadsCardSaid : Prop := Claim7.holds Tryz.pinned (.plain (OpenSpec.ofChange memberReadsSpec)) memberReadsCard

/-- THE TIED CARD OF 'creellaw.ReadArchives'. -/
def readArchivesCard : Claim7 := { stood := { row := readArchivesRow, standIns := [], harness := (true, "cc1975efb2c42b257e62c72aa7f5e65613dd34a6cbcd12a13de0fa895aeba220"), looks := true }, kinds := [], alts := [], laidByText := true, laidKinds := [.data, .data, .data, .data, .sentinel, .sentinel, .pinned], laidTests := true, laidLooks := .later }
def ReadArchivesCardSaid : Prop := Claim7.holds Tryz.pinned (.plain (OpenSpec.ofChange readArchivesSpec)) readArchivesCard

/-- THE TIED CARD OF 'creellaw.ReadSomes'. -/
def readSomesCard : Claim7 := { stood := { row := readSomesRow, standIns := [], harness := (true, "cc1975efb2c42b257e62c72aa7f5e65613dd34a6cbcd12a13de0fa895aeba220"), looks := true }, kinds := [], alts := [], laidByText := true, laidKinds := [.data, .data, .data, .data, .sentinel, .sentinel, .pinned], laidTests := true, laidLooks := .later }
def ReadSomesCardSaid : Prop := Claim7.holds Tryz.pinned (.plain (OpenSpec.ofChange readSomesSpec)) readSomesCard

/-- THE TIED CARD OF 'creellaw.RestoreTrees'. -/
def restoreTreesCard : Claim7 := { stood := { row := restoreTreesRow, standIns := [], harness := (true, "cc1975efb2c42b257e62c72aa7f5e65613dd34a6cbcd12a13de0fa895aeba220"), looks := true }, kinds := [], alts := [], laidByText := true, laidKinds := [.data, .data, .data, .data, .sentinel, .sentinel, .pinned], laidTests := true, laidLooks := .later }
def RestoreTreesCardSaid : Prop := Claim7.holds Tryz.pinned (.plain (OpenSpec.ofChange restoreTreesSpec)) restoreTreesCard

/-- THE TIED CARD OF 'creellaw.RestoreSomes'. -/
def restoreSomesCard : Claim7 := { stood := { row := restoreSomesRow, standIns := [], harness := (true, "cc1975efb2c42b257e62c72aa7f5e65613dd34a6cbcd12a13de0fa895aeba220"), looks := true }, kinds := [], alts := [], laidByText := true, laidKinds := [.data, .data, .data, .data, .sentinel, .sentinel, .pinned], laidTests := true, laidLooks := .later }
def RestoreSomesCardSaid : Prop := Claim7.holds Tryz.pinned (.plain (OpenSpec.ofChange restoreSomesSpec)) restoreSomesCard

/-- THE TIED CARD OF 'creellaw.RestoreUnders'. -/
def restoreUndersCard : Claim7 := { stood := { row := restoreUndersRow, standIns := [], harness := (true, "cc1975efb2c42b257e62c72aa7f5e65613dd34a6cbcd12a13de0fa895aeba220"), looks := true }, kinds := [], alts := [], laidByText := true, laidKinds := [.data, .data, .data, .data, .sentinel, .sentinel, .pinned], laidTests := true, laidLooks := .later }
def RestoreUndersCardSaid : Prop := Claim7.holds Tryz.pinned (.plain (OpenSpec.ofChange restoreUndersSpec)) restoreUndersCard

/-- THE SECOND FORM's CARD OF 'creellaw.MemberWrites'. -/
def memberWritesUptoCard : Claim7 := { stood := { row := memberWritesUptoRow, standIns := [], harness := (true, "cc1975efb2c42b257e62c72aa7f5e65613dd34a6cbcd12a13de0fa895aeba220"), looks := true }, kinds := [], alts := [], laidByText := true, laidKinds := [.data, .data, .data, .data, .pinned], laidTests := true, laidLooks := .later }
def MemberWritesUptoCardSaid : Prop := Claim7.holds Tryz.pinned (.plain (OpenSpec.upto memberWritesSpec)) memberWritesUptoCard

/-- THE SECOND FORM's CARD OF 'creellaw.WriteArchives'. -/
def writeArchivesUptoCard : Claim7 := { stood := { row := writeArchivesUptoRow, standIns := [], harness := (true, "cc1975efb2c42b257e62c72aa7f5e65613dd34a6cbcd12a13de0fa895aeba220"), looks := true }, kinds := [], alts := [], laidByText := true, laidKinds := [.data, .data, .data, .data, .pinned], laidTests := true, laidLooks := .later }
def WriteArchivesUptoCardSaid : Prop := Claim7.holds Tryz.pinned (.plain (OpenSpec.upto writeArchivesSpec)) writeArchivesUptoCard

/-- THE SECOND FORM's CARD OF 'creellaw.MemberReads'. -/
def memberReadsUptoCard : Claim7 := { stood := { row := memberReadsUptoRow, standIns := [], harness := (true, "cc1975efb2c42b257e62c72aa7f5e65613dd34a6cbcd12a13de0fa895aeba220"), looks := true }, kinds := [], alts := [], laidByText := true, laidKinds := [.data, .data, .data, .data, .sentinel, .sentinel, .pinned], laidTests := true, laidLooks := .later }
def MemberReadsUptoCardSaid : Prop := Claim7.holds Tryz.pinned (.plain (OpenSpec.upto memberReadsSpec)) memberReadsUptoCard

/-- THE SECOND FORM's CARD OF 'creellaw.ReadArchives'. -/
def readArchivesUptoCard : Claim7 := { stood := { row := readArchivesUptoRow, standIns := [], harness := (true, "cc1975efb2c42b257e62c72aa7f5e65613dd34a6cbcd12a13de0fa895aeba220"), looks := true }, kinds := [], alts := [], laidByText := true, laidKinds := [.data, .data, .data, .data, .sentinel, .sentinel, .pinned], laidTests := true, laidLooks := .later }
def ReadArchivesUptoCardSaid : Prop := Claim7.holds Tryz.pinned (.plain (OpenSpec.upto readArchivesSpec)) readArchivesUptoCard

/-- THE SECOND FORM's CARD OF 'creellaw.ReadSomes'. -/
def readSomesUptoCard : Claim7 := { stood := { row := readSomesUptoRow, standIns := [], harness := (true, "cc1975efb2c42b257e62c72aa7f5e65613dd34a6cbcd12a13de0fa895aeba220"), looks := true }, kinds := [], alts := [], laidByText := true, laidKinds := [.data, .data, .data, .data, .sentinel, .sentinel, .pinned], laidTests := true, laidLooks := .later }
def ReadSomesUptoCardSaid : Prop := Claim7.holds Tryz.pinned (.plain (OpenSpec.upto readSomesSpec)) readSomesUptoCard

/-- THE SECOND FORM's CARD OF 'creellaw.RestoreTrees'. -/
def restoreTreesUptoCard : Claim7 := { stood := { row := restoreTreesUptoRow, standIns := [], harness := (true, "cc1975efb2c42b257e62c72aa7f5e65613dd34a6cbcd12a13de0fa895aeba220"), looks := true }, kinds := [], alts := [], laidByText := true, laidKinds := [.data, .data, .data, .data, .sentinel, .sentinel, .pinned], laidTests := true, laidLooks := .later }
def RestoreTreesUptoCardSaid : Prop := Claim7.holds Tryz.pinned (.plain (OpenSpec.upto restoreTreesSpec)) restoreTreesUptoCard

/-- THE SECOND FORM's CARD OF 'creellaw.RestoreSomes'. -/
def restoreSomesUptoCard : Claim7 := { stood := { row := restoreSomesUptoRow, standIns := [], harness := (true, "cc1975efb2c42b257e62c72aa7f5e65613dd34a6cbcd12a13de0fa895aeba220"), looks := true }, kinds := [], alts := [], laidByText := true, laidKinds := [.data, .data, .data, .data, .sentinel, .sentinel, .pinned], laidTests := true, laidLooks := .later }
def RestoreSomesUptoCardSaid : Prop := Claim7.holds Tryz.pinned (.plain (OpenSpec.upto restoreSomesSpec)) restoreSomesUptoCard

/-- THE SECOND FORM's CARD OF 'creellaw.RestoreUnders'. -/
def restoreUndersUptoCard : Claim7 := { stood := { row := restoreUndersUptoRow, standIns := [], harness := (true, "cc1975efb2c42b257e62c72aa7f5e65613dd34a6cbcd12a13de0fa895aeba220"), looks := true }, kinds := [], alts := [], laidByText := true, laidKinds := [.data, .data, .data, .data, .sentinel, .sentinel, .pinned], laidTests := true, laidLooks := .later }
def RestoreUndersUptoCardSaid : Prop := Claim7.holds Tryz.pinned (.plain (OpenSpec.upto restoreUndersSpec)) restoreUndersUptoCard
end Rows
end Go.Proofs.YtaffgndickdbiaaGreatDoor
