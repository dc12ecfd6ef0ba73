/-
  DERIVED. GIVEN WITH THE SEED: THE CARDS: each row of YtbnimegflfilbaaDoorRows.lean that lists a variable, with what it lists TIED to the program's text (the seventh form; the later family's looks); each row that meets fmt, with fmt's text TOLD by the authors' own Lean function (tested against real Go, not proved from fmt's source: count such statements apart). THE CARD IS WHAT COUNTS. Prove the row's statement (the work); the ties are given (YtbnimegflfilbaaDoorTie.lean); close each card by the builder's one call (the guide's Derived/Test/ToyasCard.lean, 'card_holds'). Laid BY PROGRAM, IN A SANDBOX (cutbox-door.mjs). By AI agents, Wed Nov 11 2026. No macro, syntax, notation, axiom, sorry.
-/
import Derived.Test.YtbnimegflfilbaaDoorRows
import GoSem.ClaimSeven
namespace Go.Proofs.YtbnimegflfilbaaDoor
namespace Rows

/-- THE TIED CARD OF 'creellaw.GlobChecks'. -/
def globChecksCard : Claim7 := { stood := { row := globChecksRow, standIns := [], harness := (true, "61c574c8db92541783efc732a02d0a860f8f553252f35b850b92ddff1ac53d3e"), looks := false }, kinds := [], alts := [], laidByText := true, laidKinds := [.data, .pinned], laidTests := true, laidLooks := .later }
def GlobChecksCardSaid : Prop := Claim7.holds Tryd.pinned (.plain (OpenSpec.ofChange globChecksSpec)) globChecksCard

/-- THE TIED CARD OF 'creellaw.FieldReads'. -/
def fieldReadsCard : Claim7 := { stood := { row := fieldReadsRow, standIns := [], harness := (true, "61c574c8db92541783efc732a02d0a860f8f553252f35b850b92ddff1ac53d3e"), looks := false }, kinds := [], alts := [], laidByText := true, laidKinds := [.data, .pinned], laidTests := true, laidLooks := .later }
def FieldReadsCardSaid : Prop := Claim7.holds Tryd.pinned (.plain (OpenSpec.ofChange fieldReadsSpec)) fieldReadsCard

/-- THE TIED CARD OF 'creellaw.PathChecks'. -/
def pathChecksCard : Claim7 := { stood := { row := pathChecksRow, standIns := [], harness := (true, "61c574c8db92541783efc732a02d0a860f8f553252f35b850b92ddff1ac53d3e"), looks := false }, kinds := [], alts := [], laidByText := true, laidKinds := [.data, .pinned], laidTests := true, laidLooks := .later }
def PathChecksCardSaid : Prop := Claim7.holds Tryd.pinned (.plain (OpenSpec.ofChange pathChecksSpec)) pathChecksCard

/-- THE TIED CARD OF 'creellaw.PathCompares'. -/
def pathComparesCard : Claim7 := { stood := { row := pathComparesRow, standIns := [], harness := (true, "61c574c8db92541783efc732a02d0a860f8f553252f35b850b92ddff1ac53d3e"), looks := false }, kinds := [], alts := [], laidByText := true, laidKinds := [.data, .pinned], laidTests := true, laidLooks := .later }
def PathComparesCardSaid : Prop := Claim7.holds Tryd.pinned (.plain (OpenSpec.ofChange pathComparesSpec)) pathComparesCard

/-- THE TIED CARD OF 'creellaw.PadCuts'. -/
def padCutsCard : Claim7 := { stood := { row := padCutsRow, standIns := [], harness := (true, "61c574c8db92541783efc732a02d0a860f8f553252f35b850b92ddff1ac53d3e"), looks := false }, kinds := [], alts := [], laidByText := true, laidKinds := [.data, .pinned], laidTests := true, laidLooks := .later }
def PadCutsCardSaid : Prop := Claim7.holds Tryd.pinned (.plain (OpenSpec.ofChange padCutsSpec)) padCutsCard

/-- THE TIED CARD OF 'creellaw.PlanRights'. -/
def planRightsCard : Claim7 := { stood := { row := planRightsRow, standIns := [], harness := (true, "61c574c8db92541783efc732a02d0a860f8f553252f35b850b92ddff1ac53d3e"), looks := false }, kinds := [], alts := [], laidByText := true, laidKinds := [.data, .pinned], laidTests := true, laidLooks := .later }
def PlanRightsCardSaid : Prop := Claim7.holds Tryd.pinned (.plain (OpenSpec.ofChange planRightsSpec)) planRightsCard

/-- THE TIED CARD OF 'creellaw.TreeRights'. -/
def treeRightsCard : Claim7 := { stood := { row := treeRightsRow, standIns := [], harness := (true, "61c574c8db92541783efc732a02d0a860f8f553252f35b850b92ddff1ac53d3e"), looks := false }, kinds := [], alts := [], laidByText := true, laidKinds := [.data, .pinned], laidTests := true, laidLooks := .later }
def TreeRightsCardSaid : Prop := Claim7.holds Tryd.pinned (.plain (OpenSpec.ofChange treeRightsSpec)) treeRightsCard

/-- THE TIED CARD OF 'creellaw.PipeChecks'. -/
def pipeChecksCard : Claim7 := { stood := { row := pipeChecksRow, standIns := [], harness := (true, "61c574c8db92541783efc732a02d0a860f8f553252f35b850b92ddff1ac53d3e"), looks := false }, kinds := [], alts := [], laidByText := true, laidKinds := [.data, .pinned], laidTests := true, laidLooks := .later }
def PipeChecksCardSaid : Prop := Claim7.holds Tryd.pinned (.plain (OpenSpec.ofChange pipeChecksSpec)) pipeChecksCard

/-- THE TIED CARD OF 'creellaw.RecordWrites'. -/
def recordWritesCard : Claim7 := { stood := { row := recordWritesRow, standIns := [], harness := (true, "61c574c8db92541783efc732a02d0a860f8f553252f35b850b92ddff1ac53d3e"), looks := false }, kinds := [], alts := [], laidByText := true, laidKinds := [.data, .data, .data], laidTests := true, laidLooks := .later }
def RecordWritesCardSaid : Prop := Claim7.holds Tryd.pinned (.plain (OpenSpec.ofChange recordWritesSpec)) recordWritesCard

/-- THE SECOND FORM's CARD OF 'creellaw.GlobChecks'. -/
def globChecksUptoCard : Claim7 := { stood := { row := globChecksUptoRow, standIns := [], harness := (true, "61c574c8db92541783efc732a02d0a860f8f553252f35b850b92ddff1ac53d3e"), looks := false }, kinds := [], alts := [], laidByText := true, laidKinds := [.data, .pinned], laidTests := true, laidLooks := .later }
def GlobChecksUptoCardSaid : Prop := Claim7.holds Tryd.pinned (.plain (OpenSpec.upto globChecksSpec)) globChecksUptoCard

/-- THE SECOND FORM's CARD OF 'creellaw.FieldReads'. -/
def fieldReadsUptoCard : Claim7 := { stood := { row := fieldReadsUptoRow, standIns := [], harness := (true, "61c574c8db92541783efc732a02d0a860f8f553252f35b850b92ddff1ac53d3e"), looks := false }, kinds := [], alts := [], laidByText := true, laidKinds := [.data, .pinned], laidTests := true, laidLooks := .later }
def FieldReadsUptoCardSaid : Prop := Claim7.holds Tryd.pinned (.plain (OpenSpec.upto fieldReadsSpec)) fieldReadsUptoCard

/-- THE SECOND FORM's CARD OF 'creellaw.PathChecks'. -/
def pathChecksUptoCard : Claim7 := { stood := { row := pathChecksUptoRow, standIns := [], harness := (true, "61c574c8db92541783efc732a02d0a860f8f553252f35b850b92ddff1ac53d3e"), looks := false }, kinds := [], alts := [], laidByText := true, laidKinds := [.data, .pinned], laidTests := true, laidLooks := .later }
def PathChecksUptoCardSaid : Prop := Claim7.holds Tryd.pinned (.plain (OpenSpec.upto pathChecksSpec)) pathChecksUptoCard

/-- THE SECOND FORM's CARD OF 'creellaw.PathCompares'. -/
def pathComparesUptoCard : Claim7 := { stood := { row := pathComparesUptoRow, standIns := [], harness := (true, "61c574c8db92541783efc732a02d0a860f8f553252f35b850b92ddff1ac53d3e"), looks := false }, kinds := [], alts := [], laidByText := true, laidKinds := [.data, .pinned], laidTests := true, laidLooks := .later }
def PathComparesUptoCardSaid : Prop := Claim7.holds Tryd.pinned (.plain (OpenSpec.upto pathComparesSpec)) pathComparesUptoCard

/-- THE SECOND FORM's CARD OF 'creellaw.PadCuts'. -/
def padCutsUptoCard : Claim7 := { stood := { row := padCutsUptoRow, standIns := [], harness := (true, "61c574c8db92541783efc732a02d0a860f8f553252f35b850b92ddff1ac53d3e"), looks := false }, kinds := [], alts := [], laidByText := true, laidKinds := [.data, .pinned], laidTests := true, laidLooks := .later }
def PadCutsUptoCardSaid : Prop := Claim7.holds Tryd.pinned (.plain (OpenSpec.upto padCutsSpec)) padCutsUptoCard

/-- THE SECOND FORM's CARD OF 'creellaw.PlanRights'. -/
def planRightsUptoCard : Claim7 := { stood := { row := planRightsUptoRow, standIns := [], harness := (true, "61c574c8db92541783efc732a02d0a860f8f553252f35b850b92ddff1ac53d3e"), looks := false }, kinds := [], alts := [], laidByText := true, laidKinds := [.data, .pinned], laidTests := true, laidLooks := .later }
def PlanRightsUptoCardSaid : Prop := Claim7.holds Tryd.pinned (.plain (OpenSpec.upto planRightsSpec)) planRightsUptoCard

/-- THE SECOND FORM's CARD OF 'creellaw.TreeRights'. -/
def treeRightsUptoCard : Claim7 := { stood := { row := treeRightsUptoRow, standIns := [], harness := (true, "61c574c8db92541783efc732a02d0a860f8f553252f35b850b92ddff1ac53d3e"), looks := false }, kinds := [], alts := [], laidByText := true, laidKinds := [.data, .pinned], laidTests := true, laidLooks := .later }
def TreeRightsUptoCardSaid : Prop := Claim7.holds Tryd.pinned (.plain (OpenSpec.upto treeRightsSpec)) treeRightsUptoCard

/-- THE SECOND FORM's CARD OF 'creellaw.PipeChecks'. -/
def pipeChecksUptoCard : Claim7 := { stood := { row := pipeChecksUptoRow, standIns := [], harness := (true, "61c574c8db92541783efc732a02d0a860f8f553252f35b850b92ddff1ac53d3e"), looks := false }, kinds := [], alts := [], laidByText := true, laidKinds := [.data, .pinned], laidTests := true, laidLooks := .later }
def PipeChecksUptoCardSaid : Prop := Claim7.holds Tryd.pinned (.plain (OpenSpec.upto pipeChecksSpec)) pipeChecksUptoCard

/-- THE SECOND FORM's CARD OF 'creellaw.RecordWrites'. -/
def recordWritesUptoCard : Claim7 := { stood := { row := recordWritesUptoRow, standIns := [], harness := (true, "61c574c8db92541783efc732a02d0a860f8f553252f35b850b92ddff1ac53d3e"), looks := false }, kinds := [], alts := [], laidByText := true, laidKinds := [.data, .data, .data], laidTests := true, laidLooks := .later }
def RecordWritesUptoCardSaid : Prop := Claim7.holds Tryd.pinned (.plain (OpenSpec.upto recordWritesSpec)) recordWritesUptoCard
end Rows
end Go.Proofs.YtbnimegflfilbaaDoor
