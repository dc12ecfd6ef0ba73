/-
  DERIVED. GIVEN WITH THE SEED: THE CARDS: each row of YtllocidmpdpmlaaDoorRows.lean that lists a variable, with what it lists TIED to the program's text (the seventh form; the later family's looks); each row that meets fmt, with fmt's text TOLD by the authors' own Lean function (tested against real Go, not proved from fmt's source: count such statements apart). THE CARD IS WHAT COUNTS. Prove the row's statement (the work); the ties are given (YtllocidmpdpmlaaDoorTie.lean); close each card by the builder's one call (the guide's Derived/Test/ToyasCard.lean, 'card_holds'). Laid BY PROGRAM, IN A SANDBOX (cutbox-door.mjs). By AI agents, Wed Nov 11 2026. No macro, syntax, notation, axiom, sorry.
-/
import Derived.Test.YtllocidmpdpmlaaDoorRows
import GoSem.ClaimSeven
namespace Go.Proofs.YtllocidmpdpmlaaDoor
namespace Rows

/-- THE TIED CARD OF 'creellaw.GlobChecks'. -/
def globChecksCard : Claim7 := { stood := { row := globChecksRow, standIns := [], harness := (true, "a1b053ef981bf2fa9b7d82dc985b9d0fbaa591069753dc6093df3c0ba727231d"), looks := false }, kinds := [], alts := [], laidByText := true, laidKinds := [.data, .pinned], laidTests := true, laidLooks := .later }
def GlobChecksCardSaid : Prop := Claim7.holds Tryd.pinned (.plain (OpenSpec.ofChange globChecksSpec)) globChecksCard

/-- THE TIED CARD OF 'creellaw.PadCuts'. -/
def padCutsCard : Claim7 := { stood := { row := padCutsRow, standIns := [], harness := (true, "a1b053ef981bf2fa9b7d82dc985b9d0fbaa591069753dc6093df3c0ba727231d"), looks := false }, kinds := [], alts := [], laidByText := true, laidKinds := [.data, .pinned], laidTests := true, laidLooks := .later }
def PadCutsCardSaid : Prop := Claim7.holds Tryd.pinned (.plain (OpenSpec.ofChange padCutsSpec)) padCutsCard

/-- THE TIED CARD OF 'creellaw.PlanRights'. -/
def planRightsCard : Claim7 := { stood := { row := planRightsRow, standIns := [], harness := (true, "a1b053ef981bf2fa9b7d82dc985b9d0fbaa591069753dc6093df3c0ba727231d"), looks := false }, kinds := [], alts := [], laidByText := true, laidKinds := [.data, .pinned], laidTests := true, laidLooks := .later }
def PlanRightsCardSaid : Prop := Claim7.holds Tryd.pinned (.plain (OpenSpec.ofChange planRightsSpec)) planRightsCard

/-- THE TIED CARD OF 'creellaw.TreeRights'. -/
def treeRightsCard : Claim7 := { stood := { row := treeRightsRow, standIns := [], harness := (true, "a1b053ef981bf2fa9b7d82dc985b9d0fbaa591069753dc6093df3c0ba727231d"), looks := false }, kinds := [], alts := [], laidByText := true, laidKinds := [.data, .pinned], laidTests := true, laidLooks := .later }
def TreeRightsCardSaid : Prop := Claim7.holds Tryd.pinned (.plain (OpenSpec.ofChange treeRightsSpec)) treeRightsCard

/-- THE TIED CARD OF 'creellaw.PipeChecks'. -/
def pipeChecksCard : Claim7 := { stood := { row := pipeChecksRow, standIns := [], harness := (true, "a1b053ef981bf2fa9b7d82dc985b9d0fbaa591069753dc6093df3c0ba727231d"), looks := false }, kinds := [], alts := [], laidByText := true, laidKinds := [.data, .pinned], laidTests := true, laidLooks := .later }
def PipeChecksCardSaid : Prop := Claim7.holds Tryd.pinned (.plain (OpenSpec.ofChange pipeChecksSpec)) pipeChecksCard

/-- THE TIED CARD OF 'creellaw.RecordWrites'. -/
def recordWritesCard : Claim7 := { stood := { row := recordWritesRow, standIns := [], harness := (true, "a1b053ef981bf2fa9b7d82dc985b9d0fbaa591069753dc6093df3c0ba727231d"), looks := false }, kinds := [], alts := [], laidByText := true, laidKinds := [.data, .data, .data], laidTests := true, laidLooks := .later }
def RecordWritesCardSaid : Prop := Claim7.holds Tryd.pinned (.plain (OpenSpec.ofChange recordWritesSpec)) recordWritesCard

/-- THE TIED CARD OF 'creellaw.PlanChecks'. -/
def planChecksCard : Claim7 := { stood := { row := planChecksRow, standIns := [], harness := (true, "a1b053ef981bf2fa9b7d82dc985b9d0fbaa591069753dc6093df3c0ba727231d"), looks := false }, kinds := [], alts := [], laidByText := true, laidKinds := [.data, .pinned], laidTests := true, laidLooks := .later }
def PlanChecksCardSaid : Prop := Claim7.holds Tryd.pinned (.plain (OpenSpec.ofChange planChecksSpec)) planChecksCard

/-- THE TIED CARD OF 'creellaw.GlobFits'. -/
def globFitsCard : Claim7 := { stood := { row := globFitsRow, standIns := [], harness := (true, "a1b053ef981bf2fa9b7d82dc985b9d0fbaa591069753dc6093df3c0ba727231d"), looks := false }, kinds := [], alts := [], laidByText := true, laidKinds := [.data, .pinned], laidTests := true, laidLooks := .later }
def GlobFitsCardSaid : Prop := Claim7.holds Tryd.pinned (.plain (OpenSpec.ofChange globFitsSpec)) globFitsCard

/-- THE SECOND FORM's CARD OF 'creellaw.GlobChecks'. -/
def globChecksUptoCard : Claim7 := { stood := { row := globChecksUptoRow, standIns := [], harness := (true, "a1b053ef981bf2fa9b7d82dc985b9d0fbaa591069753dc6093df3c0ba727231d"), looks := false }, kinds := [], alts := [], laidByText := true, laidKinds := [.data, .pinned], laidTests := true, laidLooks := .later }
def GlobChecksUptoCardSaid : Prop := Claim7.holds Tryd.pinned (.plain (OpenSpec.upto globChecksSpec)) globChecksUptoCard

/-- THE SECOND FORM's CARD OF 'creellaw.PadCuts'. -/
def padCutsUptoCard : Claim7 := { stood := { row := padCutsUptoRow, standIns := [], harness := (true, "a1b053ef981bf2fa9b7d82dc985b9d0fbaa591069753dc6093df3c0ba727231d"), looks := false }, kinds := [], alts := [], laidByText := true, laidKinds := [.data, .pinned], laidTests := true, laidLooks := .later }
def PadCutsUptoCardSaid : Prop := Claim7.holds Tryd.pinned (.plain (OpenSpec.upto padCutsSpec)) padCutsUptoCard

/-- THE SECOND FORM's CARD OF 'creellaw.PlanRights'. -/
def planRightsUptoCard : Claim7 := { stood := { row := planRightsUptoRow, standIns := [], harness := (true, "a1b053ef981bf2fa9b7d82dc985b9d0fbaa591069753dc6093df3c0ba727231d"), looks := false }, kinds := [], alts := [], laidByText := true, laidKinds := [.data, .pinned], laidTests := true, laidLooks := .later }
def PlanRightsUptoCardSaid : Prop := Claim7.holds Tryd.pinned (.plain (OpenSpec.upto planRightsSpec)) planRightsUptoCard

/-- THE SECOND FORM's CARD OF 'creellaw.TreeRights'. -/
def treeRightsUptoCard : Claim7 := { stood := { row := treeRightsUptoRow, standIns := [], harness := (true, "a1b053ef981bf2fa9b7d82dc985b9d0fbaa591069753dc6093df3c0ba727231d"), looks := false }, kinds := [], alts := [], laidByText := true, laidKinds := [.data, .pinned], laidTests := true, laidLooks := .later }
def TreeRightsUptoCardSaid : Prop := Claim7.holds Tryd.pinned (.plain (OpenSpec.upto treeRightsSpec)) treeRightsUptoCard

/-- THE SECOND FORM's CARD OF 'creellaw.PipeChecks'. -/
def pipeChecksUptoCard : Claim7 := { stood := { row := pipeChecksUptoRow, standIns := [], harness := (true, "a1b053ef981bf2fa9b7d82dc985b9d0fbaa591069753dc6093df3c0ba727231d"), looks := false }, kinds := [], alts := [], laidByText := true, laidKinds := [.data, .pinned], laidTests := true, laidLooks := .later }
def PipeChecksUptoCardSaid : Prop := Claim7.holds Tryd.pinned (.plain (OpenSpec.upto pipeChecksSpec)) pipeChecksUptoCard

/-- THE SECOND FORM's CARD OF 'creellaw.RecordWrites'. -/
def recordWritesUptoCard : Claim7 := { stood := { row := recordWritesUptoRow, standIns := [], harness := (true, "a1b053ef981bf2fa9b7d82dc985b9d0fbaa591069753dc6093df3c0ba727231d"), looks := false }, kinds := [], alts := [], laidByText := true, laidKinds := [.data, .data, .data], laidTests := true, laidLooks := .later }
def RecordWritesUptoCardSaid : Prop := Claim7.holds Tryd.pinned (.plain (OpenSpec.upto recordWritesSpec)) recordWritesUptoCard

/-- THE SECOND FORM's CARD OF 'creellaw.PlanChecks'. -/
def planChecksUptoCard : Claim7 := { stood := { row := planChecksUptoRow, standIns := [], harness := (true, "a1b053ef981bf2fa9b7d82dc985b9d0fbaa591069753dc6093df3c0ba727231d"), looks := false }, kinds := [], alts := [], laidByText := true, laidKinds := [.data, .pinned], laidTests := true, laidLooks := .later }
def PlanChecksUptoCardSaid : Prop := Claim7.holds Tryd.pinned (.plain (OpenSpec.upto planChecksSpec)) planChecksUptoCard

/-- THE SECOND FORM's CARD OF 'creellaw.GlobFits'. -/
def globFitsUptoCard : Claim7 := { stood := { row := globFitsUptoRow, standIns := [], harness := (true, "a1b053ef981bf2fa9b7d82dc985b9d0fbaa591069753dc6093df3c0ba727231d"), looks := false }, kinds := [], alts := [], laidByText := true, laidKinds := [.data, .pinned], laidTests := true, laidLooks := .later }
def GlobFitsUptoCardSaid : Prop := Claim7.holds Tryd.pinned (.plain (OpenSpec.upto globFitsSpec)) globFitsUptoCard
end Rows
end Go.Proofs.YtllocidmpdpmlaaDoor
