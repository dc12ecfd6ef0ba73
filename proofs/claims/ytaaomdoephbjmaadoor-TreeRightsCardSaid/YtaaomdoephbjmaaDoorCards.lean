/-
  DERIVED. GIVEN WITH THE SEED: THE CARDS: each row of YtaaomdoephbjmaaDoorRows.lean that lists a variable, with what it lists TIED to the program's text (the seventh form; the later family's looks); each row that meets fmt, with fmt's text TOLD by the authors' own Lean function (tested against real Go, not proved from fmt's source: count such statements apart). THE CARD IS WHAT COUNTS. Prove the row's statement (the work); the ties are given (YtaaomdoephbjmaaDoorTie.lean); close each card by the builder's one call (the guide's Derived/Test/ToyasCard.lean, 'card_holds'). Laid BY PROGRAM, IN A SANDBOX (cutbox-door.mjs). By AI agents, Wed Nov 11 2026. No macro, syntax, notation, axiom, sorry.
-/
import Derived.Test.YtaaomdoephbjmaaDoorRows
import GoSem.ClaimSeven
namespace Go.Proofs.YtaaomdoephbjmaaDoor
namespace Rows

/-- THE TIED CARD OF 'creellaw.GlobChecks'. -/
def globChecksCard : Claim7 := { stood := { row := globChecksRow, standIns := [], harness := (true, "2dc464545ea77b0c3b249c2c38dc9cbe37d27b2ceeabd1e9f45136ee297fc69b"), looks := false }, kinds := [], alts := [], laidByText := true, laidKinds := [.data, .pinned], laidTests := true, laidLooks := .later }
def GlobChecksCardSaid : Prop := Claim7.holds Tryd.pinned (.plain (OpenSpec.ofChange globChecksSpec)) globChecksCard

/-- THE TIED CARD OF 'creellaw.PadCuts'. -/
def padCutsCard : Claim7 := { stood := { row := padCutsRow, standIns := [], harness := (true, "2dc464545ea77b0c3b249c2c38dc9cbe37d27b2ceeabd1e9f45136ee297fc69b"), looks := false }, kinds := [], alts := [], laidByText := true, laidKinds := [.data, .pinned], laidTests := true, laidLooks := .later }
def PadCutsCardSaid : Prop := Claim7.holds Tryd.pinned (.plain (OpenSpec.ofChange padCutsSpec)) padCutsCard

/-- THE TIED CARD OF 'creellaw.PlanRights'. -/
def planRightsCard : Claim7 := { stood := { row := planRightsRow, standIns := [], harness := (true, "2dc464545ea77b0c3b249c2c38dc9cbe37d27b2ceeabd1e9f45136ee297fc69b"), looks := false }, kinds := [], alts := [], laidByText := true, laidKinds := [.data, .pinned], laidTests := true, laidLooks := .later }
def PlanRightsCardSaid : Prop := Claim7.holds Tryd.pinned (.plain (OpenSpec.ofChange planRightsSpec)) planRightsCard

/-- THE TIED CARD OF 'creellaw.TreeRights'. -/
def treeRightsCard : Claim7 := { stood := { row := treeRightsRow, standIns := [], harness := (true, "2dc464545ea77b0c3b249c2c38dc9cbe37d27b2ceeabd1e9f45136ee297fc69b"), looks := false }, kinds := [], alts := [], laidByText := true, laidKinds := [.data, .pinned], laidTests := true, laidLooks := .later }
def TreeRightsCardSaid : Prop := Claim7.holds Tryd.pinned (.plain (OpenSpec.ofChange treeRightsSpec)) treeRightsCard

/-- THE TIED CARD OF 'creellaw.PipeChecks'. -/
def pipeChecksCard : Claim7 := { stood := { row := pipeChecksRow, standIns := [], harness := (true, "2dc464545ea77b0c3b249c2c38dc9cbe37d27b2ceeabd1e9f45136ee297fc69b"), looks := false }, kinds := [], alts := [], laidByText := true, laidKinds := [.data, .pinned], laidTests := true, laidLooks := .later }
def PipeChecksCardSaid : Prop := Claim7.holds Tryd.pinned (.plain (OpenSpec.ofChange pipeChecksSpec)) pipeChecksCard

/-- THE TIED CARD OF 'creellaw.RecordWrites'. -/
def recordWritesCard : Claim7 := { stood := { row := recordWritesRow, standIns := [], harness := (true, "2dc464545ea77b0c3b249c2c38dc9cbe37d27b2ceeabd1e9f45136ee297fc69b"), looks := false }, kinds := [], alts := [], laidByText := true, laidKinds := [.data, .data, .data], laidTests := true, laidLooks := .later }
def RecordWritesCardSaid : Prop := Claim7.holds Tryd.pinned (.plain (OpenSpec.ofChange recordWritesSpec)) recordWritesCard

/-- THE TIED CARD OF 'creellaw.PlanChecks'. -/
def planChecksCard : Claim7 := { stood := { row := planChecksRow, standIns := [], harness := (true, "2dc464545ea77b0c3b249c2c38dc9cbe37d27b2ceeabd1e9f45136ee297fc69b"), looks := false }, kinds := [], alts := [], laidByText := true, laidKinds := [.data, .pinned], laidTests := true, laidLooks := .later }
def PlanChecksCardSaid : Prop := Claim7.holds Tryd.pinned (.plain (OpenSpec.ofChange planChecksSpec)) planChecksCard

/-- THE TIED CARD OF 'creellaw.GlobFits'. -/
def globFitsCard : Claim7 := { stood := { row := globFitsRow, standIns := [], harness := (true, "2dc464545ea77b0c3b249c2c38dc9cbe37d27b2ceeabd1e9f45136ee297fc69b"), looks := false }, kinds := [], alts := [], laidByText := true, laidKinds := [.data, .pinned], laidTests := true, laidLooks := .later }
def GlobFitsCardSaid : Prop := Claim7.holds Tryd.pinned (.plain (OpenSpec.ofChange globFitsSpec)) globFitsCard

/-- THE TIED CARD OF 'creellaw.TreeChecks'. -/
def treeChecksCard : Claim7 := { stood := { row := treeChecksRow, standIns := [], harness := (true, "2dc464545ea77b0c3b249c2c38dc9cbe37d27b2ceeabd1e9f45136ee297fc69b"), looks := false }, kinds := [], alts := [], laidByText := true, laidKinds := [.data, .pinned], laidTests := true, laidLooks := .later }
def TreeChecksCardSaid : Prop := Claim7.holds Tryd.pinned (.plain (OpenSpec.ofChange treeChecksSpec)) treeChecksCard

/-- THE TIED CARD OF 'creellaw.FilterTakes'. -/
def filterTakesCard : Claim7 := { stood := { row := filterTakesRow, standIns := [], harness := (true, "2dc464545ea77b0c3b249c2c38dc9cbe37d27b2ceeabd1e9f45136ee297fc69b"), looks := false }, kinds := [], alts := [], laidByText := true, laidKinds := [.data, .pinned], laidTests := true, laidLooks := .later }
def FilterTakesCardSaid : Prop := Claim7.holds Tryd.pinned (.plain (OpenSpec.ofChange filterTakesSpec)) filterTakesCard

/-- THE TIED CARD OF 'creellaw.PaxWrites'. -/
def paxWritesCard : Claim7 := { stood := { row := paxWritesRow, standIns := [], harness := (true, "2dc464545ea77b0c3b249c2c38dc9cbe37d27b2ceeabd1e9f45136ee297fc69b"), looks := false }, kinds := [], alts := [], laidByText := true, laidKinds := [.data, .data, .data], laidTests := true, laidLooks := .later }
def PaxWritesCardSaid : Prop := Claim7.holds Tryd.pinned (.plain (OpenSpec.ofChange paxWritesSpec)) paxWritesCard

/-- THE TIED CARD OF 'creellaw.PlanGrows'. -/
def planGrowsCard : Claim7 := { stood := { row := planGrowsRow, standIns := [], harness := (true, "2dc464545ea77b0c3b249c2c38dc9cbe37d27b2ceeabd1e9f45136ee297fc69b"), looks := false }, kinds := [], alts := [], laidByText := true, laidKinds := [.data, .pinned], laidTests := true, laidLooks := .later }
def PlanGrowsCardSaid : Prop := Claim7.holds Tryd.pinned (.plain (OpenSpec.ofChange planGrowsSpec)) planGrowsCard

/-- THE TIED CARD OF 'creellaw.FaultFirsts'. -/
def faultFirstsCard : Claim7 := { stood := { row := faultFirstsRow, standIns := [], harness := (true, "2dc464545ea77b0c3b249c2c38dc9cbe37d27b2ceeabd1e9f45136ee297fc69b"), looks := false }, kinds := [], alts := [], laidByText := true, laidKinds := [.data, .pinned], laidTests := true, laidLooks := .later }
def FaultFirstsCardSaid : Prop := Claim7.holds Tryd.pinned (.plain (OpenSpec.ofChange faultFirstsSpec)) faultFirstsCard

/-- THE TIED CARD OF 'creellaw.OrderSorts'. -/
def orderSortsCard : Claim7 := { stood := { row := orderSortsRow, standIns := [], harness := (true, "2dc464545ea77b0c3b249c2c38dc9cbe37d27b2ceeabd1e9f45136ee297fc69b"), looks := false }, kinds := [], alts := [], laidByText := true, laidKinds := [.data, .pinned], laidTests := true, laidLooks := .later }
def OrderSortsCardSaid : Prop := Claim7.holds Tryd.pinned (.plain (OpenSpec.ofChange orderSortsSpec)) orderSortsCard

/-- THE TIED CARD OF 'creellaw.OrderNames'. -/
def orderNamesCard : Claim7 := { stood := { row := orderNamesRow, standIns := [], harness := (true, "2dc464545ea77b0c3b249c2c38dc9cbe37d27b2ceeabd1e9f45136ee297fc69b"), looks := false }, kinds := [], alts := [], laidByText := true, laidKinds := [.data, .pinned], laidTests := true, laidLooks := .later }
def OrderNamesCardSaid : Prop := Claim7.holds Tryd.pinned (.plain (OpenSpec.ofChange orderNamesSpec)) orderNamesCard

/-- THE TIED CARD OF 'creellaw.LinkFirsts'. -/
def linkFirstsCard : Claim7 := { stood := { row := linkFirstsRow, standIns := [], harness := (true, "2dc464545ea77b0c3b249c2c38dc9cbe37d27b2ceeabd1e9f45136ee297fc69b"), looks := false }, kinds := [], alts := [], laidByText := true, laidKinds := [.data, .pinned], laidTests := true, laidLooks := .later }
def LinkFirstsCardSaid : Prop := Claim7.holds Tryd.pinned (.plain (OpenSpec.ofChange linkFirstsSpec)) linkFirstsCard

/-- THE TIED CARD OF 'creellaw.TreePuts'. -/
def treePutsCard : Claim7 := { stood := { row := treePutsRow, standIns := [], harness := (true, "2dc464545ea77b0c3b249c2c38dc9cbe37d27b2ceeabd1e9f45136ee297fc69b"), looks := false }, kinds := [], alts := [], laidByText := true, laidKinds := [.data, .pinned], laidTests := true, laidLooks := .later }
def TreePutsCardSaid : Prop := Claim7.holds Tryd.pinned (.plain (OpenSpec.ofChange treePutsSpec)) treePutsCard

/-- THE TIED CARD OF 'creellaw.TreeRemoves'. -/
def treeRemovesCard : Claim7 := { stood := { row := treeRemovesRow, standIns := [], harness := (true, "2dc464545ea77b0c3b249c2c38dc9cbe37d27b2ceeabd1e9f45136ee297fc69b"), looks := false }, kinds := [], alts := [], laidByText := true, laidKinds := [.data, .pinned], laidTests := true, laidLooks := .later }
def TreeRemovesCardSaid : Prop := Claim7.holds Tryd.pinned (.plain (OpenSpec.ofChange treeRemovesSpec)) treeRemovesCard

/-- THE TIED CARD OF 'creellaw.DiffTells'. -/
def diffTellsCard : Claim7 := { stood := { row := diffTellsRow, standIns := [], harness := (true, "2dc464545ea77b0c3b249c2c38dc9cbe37d27b2ceeabd1e9f45136ee297fc69b"), looks := false }, kinds := [], alts := [], laidByText := true, laidKinds := [.data, .pinned], laidTests := true, laidLooks := .later }
def DiffTellsCardSaid : Prop := Claim7.holds Tryd.pinned (.plain (OpenSpec.ofChange diffTellsSpec)) diffTellsCard

/-- THE TIED CARD OF 'creellaw.OrderWalks'. -/
def orderWalksCard : Claim7 := { stood := { row := orderWalksRow, standIns := [], harness := (true, "2dc464545ea77b0c3b249c2c38dc9cbe37d27b2ceeabd1e9f45136ee297fc69b"), looks := false }, kinds := [], alts := [], laidByText := true, laidKinds := [.data, .pinned], laidTests := true, laidLooks := .later }
def OrderWalksCardSaid : Prop := Claim7.holds Tryd.pinned (.plain (OpenSpec.ofChange orderWalksSpec)) orderWalksCard

/-- THE SECOND FORM's CARD OF 'creellaw.GlobChecks'. -/
def globChecksUptoCard : Claim7 := { stood := { row := globChecksUptoRow, standIns := [], harness := (true, "2dc464545ea77b0c3b249c2c38dc9cbe37d27b2ceeabd1e9f45136ee297fc69b"), looks := false }, kinds := [], alts := [], laidByText := true, laidKinds := [.data, .pinned], laidTests := true, laidLooks := .later }
def GlobChecksUptoCardSaid : Prop := Claim7.holds Tryd.pinned (.plain (OpenSpec.upto globChecksSpec)) globChecksUptoCard

/-- THE SECOND FORM's CARD OF 'creellaw.PadCuts'. -/
def padCutsUptoCard : Claim7 := { stood := { row := padCutsUptoRow, standIns := [], harness := (true, "2dc464545ea77b0c3b249c2c38dc9cbe37d27b2ceeabd1e9f45136ee297fc69b"), looks := false }, kinds := [], alts := [], laidByText := true, laidKinds := [.data, .pinned], laidTests := true, laidLooks := .later }
def PadCutsUptoCardSaid : Prop := Claim7.holds Tryd.pinned (.plain (OpenSpec.upto padCutsSpec)) padCutsUptoCard

/-- THE SECOND FORM's CARD OF 'creellaw.PlanRights'. -/
def planRightsUptoCard : Claim7 := { stood := { row := planRightsUptoRow, standIns := [], harness := (true, "2dc464545ea77b0c3b249c2c38dc9cbe37d27b2ceeabd1e9f45136ee297fc69b"), looks := false }, kinds := [], alts := [], laidByText := true, laidKinds := [.data, .pinned], laidTests := true, laidLooks := .later }
def PlanRightsUptoCardSaid : Prop := Claim7.holds Tryd.pinned (.plain (OpenSpec.upto planRightsSpec)) planRightsUptoCard

/-- THE SECOND FORM's CARD OF 'creellaw.TreeRights'. -/
def treeRightsUptoCard : Claim7 := { stood := { row := treeRightsUptoRow, standIns := [], harness := (true, "2dc464545ea77b0c3b249c2c38dc9cbe37d27b2ceeabd1e9f45136ee297fc69b"), looks := false }, kinds := [], alts := [], laidByText := true, laidKinds := [.data, .pinned], laidTests := true, laidLooks := .later }
def TreeRightsUptoCardSaid : Prop := Claim7.holds Tryd.pinned (.plain (OpenSpec.upto treeRightsSpec)) treeRightsUptoCard

/-- THE SECOND FORM's CARD OF 'creellaw.PipeChecks'. -/
def pipeChecksUptoCard : Claim7 := { stood := { row := pipeChecksUptoRow, standIns := [], harness := (true, "2dc464545ea77b0c3b249c2c38dc9cbe37d27b2ceeabd1e9f45136ee297fc69b"), looks := false }, kinds := [], alts := [], laidByText := true, laidKinds := [.data, .pinned], laidTests := true, laidLooks := .later }
def PipeChecksUptoCardSaid : Prop := Claim7.holds Tryd.pinned (.plain (OpenSpec.upto pipeChecksSpec)) pipeChecksUptoCard

/-- THE SECOND FORM's CARD OF 'creellaw.RecordWrites'. -/
def recordWritesUptoCard : Claim7 := { stood := { row := recordWritesUptoRow, standIns := [], harness := (true, "2dc464545ea77b0c3b249c2c38dc9cbe37d27b2ceeabd1e9f45136ee297fc69b"), looks := false }, kinds := [], alts := [], laidByText := true, laidKinds := [.data, .data, .data], laidTests := true, laidLooks := .later }
def RecordWritesUptoCardSaid : Prop := Claim7.holds Tryd.pinned (.plain (OpenSpec.upto recordWritesSpec)) recordWritesUptoCard

/-- THE SECOND FORM's CARD OF 'creellaw.PlanChecks'. -/
def planChecksUptoCard : Claim7 := { stood := { row := planChecksUptoRow, standIns := [], harness := (true, "2dc464545ea77b0c3b249c2c38dc9cbe37d27b2ceeabd1e9f45136ee297fc69b"), looks := false }, kinds := [], alts := [], laidByText := true, laidKinds := [.data, .pinned], laidTests := true, laidLooks := .later }
def PlanChecksUptoCardSaid : Prop := Claim7.holds Tryd.pinned (.plain (OpenSpec.upto planChecksSpec)) planChecksUptoCard

/-- THE SECOND FORM's CARD OF 'creellaw.GlobFits'. -/
def globFitsUptoCard : Claim7 := { stood := { row := globFitsUptoRow, standIns := [], harness := (true, "2dc464545ea77b0c3b249c2c38dc9cbe37d27b2ceeabd1e9f45136ee297fc69b"), looks := false }, kinds := [], alts := [], laidByText := true, laidKinds := [.data, .pinned], laidTests := true, laidLooks := .later }
def GlobFitsUptoCardSaid : Prop := Claim7.holds Tryd.pinned (.plain (OpenSpec.upto globFitsSpec)) globFitsUptoCard

/-- THE SECOND FORM's CARD OF 'creellaw.TreeChecks'. -/
def treeChecksUptoCard : Claim7 := { stood := { row := treeChecksUptoRow, standIns := [], harness := (true, "2dc464545ea77b0c3b249c2c38dc9cbe37d27b2ceeabd1e9f45136ee297fc69b"), looks := false }, kinds := [], alts := [], laidByText := true, laidKinds := [.data, .pinned], laidTests := true, laidLooks := .later }
def TreeChecksUptoCardSaid : Prop := Claim7.holds Tryd.pinned (.plain (OpenSpec.upto treeChecksSpec)) treeChecksUptoCard

/-- THE SECOND FORM's CARD OF 'creellaw.FilterTakes'. -/
def filterTakesUptoCard : Claim7 := { stood := { row := filterTakesUptoRow, standIns := [], harness := (true, "2dc464545ea77b0c3b249c2c38dc9cbe37d27b2ceeabd1e9f45136ee297fc69b"), looks := false }, kinds := [], alts := [], laidByText := true, laidKinds := [.data, .pinned], laidTests := true, laidLooks := .later }
def FilterTakesUptoCardSaid : Prop := Claim7.holds Tryd.pinned (.plain (OpenSpec.upto filterTakesSpec)) filterTakesUptoCard

/-- THE SECOND FORM's CARD OF 'creellaw.PaxWrites'. -/
def paxWritesUptoCard : Claim7 := { stood := { row := paxWritesUptoRow, standIns := [], harness := (true, "2dc464545ea77b0c3b249c2c38dc9cbe37d27b2ceeabd1e9f45136ee297fc69b"), looks := false }, kinds := [], alts := [], laidByText := true, laidKinds := [.data, .data, .data], laidTests := true, laidLooks := .later }
def PaxWritesUptoCardSaid : Prop := Claim7.holds Tryd.pinned (.plain (OpenSpec.upto paxWritesSpec)) paxWritesUptoCard

/-- THE SECOND FORM's CARD OF 'creellaw.PlanGrows'. -/
def planGrowsUptoCard : Claim7 := { stood := { row := planGrowsUptoRow, standIns := [], harness := (true, "2dc464545ea77b0c3b249c2c38dc9cbe37d27b2ceeabd1e9f45136ee297fc69b"), looks := false }, kinds := [], alts := [], laidByText := true, laidKinds := [.data, .pinned], laidTests := true, laidLooks := .later }
def PlanGrowsUptoCardSaid : Prop := Claim7.holds Tryd.pinned (.plain (OpenSpec.upto planGrowsSpec)) planGrowsUptoCard

/-- THE SECOND FORM's CARD OF 'creellaw.FaultFirsts'. -/
def faultFirstsUptoCard : Claim7 := { stood := { row := faultFirstsUptoRow, standIns := [], harness := (true, "2dc464545ea77b0c3b249c2c38dc9cbe37d27b2ceeabd1e9f45136ee297fc69b"), looks := false }, kinds := [], alts := [], laidByText := true, laidKinds := [.data, .pinned], laidTests := true, laidLooks := .later }
def FaultFirstsUptoCardSaid : Prop := Claim7.holds Tryd.pinned (.plain (OpenSpec.upto faultFirstsSpec)) faultFirstsUptoCard

/-- THE SECOND FORM's CARD OF 'creellaw.OrderSorts'. -/
def orderSortsUptoCard : Claim7 := { stood := { row := orderSortsUptoRow, standIns := [], harness := (true, "2dc464545ea77b0c3b249c2c38dc9cbe37d27b2ceeabd1e9f45136ee297fc69b"), looks := false }, kinds := [], alts := [], laidByText := true, laidKinds := [.data, .pinned], laidTests := true, laidLooks := .later }
def OrderSortsUptoCardSaid : Prop := Claim7.holds Tryd.pinned (.plain (OpenSpec.upto orderSortsSpec)) orderSortsUptoCard

/-- THE SECOND FORM's CARD OF 'creellaw.OrderNames'. -/
def orderNamesUptoCard : Claim7 := { stood := { row := orderNamesUptoRow, standIns := [], harness := (true, "2dc464545ea77b0c3b249c2c38dc9cbe37d27b2ceeabd1e9f45136ee297fc69b"), looks := false }, kinds := [], alts := [], laidByText := true, laidKinds := [.data, .pinned], laidTests := true, laidLooks := .later }
def OrderNamesUptoCardSaid : Prop := Claim7.holds Tryd.pinned (.plain (OpenSpec.upto orderNamesSpec)) orderNamesUptoCard

/-- THE SECOND FORM's CARD OF 'creellaw.LinkFirsts'. -/
def linkFirstsUptoCard : Claim7 := { stood := { row := linkFirstsUptoRow, standIns := [], harness := (true, "2dc464545ea77b0c3b249c2c38dc9cbe37d27b2ceeabd1e9f45136ee297fc69b"), looks := false }, kinds := [], alts := [], laidByText := true, laidKinds := [.data, .pinned], laidTests := true, laidLooks := .later }
def LinkFirstsUptoCardSaid : Prop := Claim7.holds Tryd.pinned (.plain (OpenSpec.upto linkFirstsSpec)) linkFirstsUptoCard

/-- THE SECOND FORM's CARD OF 'creellaw.TreePuts'. -/
def treePutsUptoCard : Claim7 := { stood := { row := treePutsUptoRow, standIns := [], harness := (true, "2dc464545ea77b0c3b249c2c38dc9cbe37d27b2ceeabd1e9f45136ee297fc69b"), looks := false }, kinds := [], alts := [], laidByText := true, laidKinds := [.data, .pinned], laidTests := true, laidLooks := .later }
def TreePutsUptoCardSaid : Prop := Claim7.holds Tryd.pinned (.plain (OpenSpec.upto treePutsSpec)) treePutsUptoCard

/-- THE SECOND FORM's CARD OF 'creellaw.TreeRemoves'. -/
def treeRemovesUptoCard : Claim7 := { stood := { row := treeRemovesUptoRow, standIns := [], harness := (true, "2dc464545ea77b0c3b249c2c38dc9cbe37d27b2ceeabd1e9f45136ee297fc69b"), looks := false }, kinds := [], alts := [], laidByText := true, laidKinds := [.data, .pinned], laidTests := true, laidLooks := .later }
def TreeRemovesUptoCardSaid : Prop := Claim7.holds Tryd.pinned (.plain (OpenSpec.upto treeRemovesSpec)) treeRemovesUptoCard

/-- THE SECOND FORM's CARD OF 'creellaw.DiffTells'. -/
def diffTellsUptoCard : Claim7 := { stood := { row := diffTellsUptoRow, standIns := [], harness := (true, "2dc464545ea77b0c3b249c2c38dc9cbe37d27b2ceeabd1e9f45136ee297fc69b"), looks := false }, kinds := [], alts := [], laidByText := true, laidKinds := [.data, .pinned], laidTests := true, laidLooks := .later }
def DiffTellsUptoCardSaid : Prop := Claim7.holds Tryd.pinned (.plain (OpenSpec.upto diffTellsSpec)) diffTellsUptoCard

/-- THE SECOND FORM's CARD OF 'creellaw.OrderWalks'. -/
def orderWalksUptoCard : Claim7 := { stood := { row := orderWalksUptoRow, standIns := [], harness := (true, "2dc464545ea77b0c3b249c2c38dc9cbe37d27b2ceeabd1e9f45136ee297fc69b"), looks := false }, kinds := [], alts := [], laidByText := true, laidKinds := [.data, .pinned], laidTests := true, laidLooks := .later }
def OrderWalksUptoCardSaid : Prop := Claim7.holds Tryd.pinned (.plain (OpenSpec.upto orderWalksSpec)) orderWalksUptoCard
end Rows
end Go.Proofs.YtaaomdoephbjmaaDoor
