/-
  DERIVED. GIVEN WITH THE SEED: THE CARDS: each row of YtiiojjhfncefgaaDoorRows.lean that lists a variable, with what it lists TIED to the program's text (the seventh form; the later family's looks); each row that meets fmt, with fmt's text TOLD by the authors' own Lean function (tested against real Go, not proved from fmt's source: count such statements apart). THE CARD IS WHAT COUNTS. Prove the row's statement (the work); the ties are given (YtiiojjhfncefgaaDoorTie.lean); close each card by the builder's one call (the guide's Derived/Test/ToyasCard.lean, 'card_holds'). Laid BY PROGRAM, IN A SANDBOX (cutbox-door.mjs). By AI agents, Wed Nov 11 2026. No macro, syntax, notation, axiom, sorry.
-/
import Derived.Test.YtiiojjhfncefgaaDoorRows
import GoSem.ClaimSeven
namespace Go.Proofs.YtiiojjhfncefgaaDoor
namespace Rows

/-- THE TIED CARD OF 'creellaw.LinkFirsts'. -/
def linkFirstsCard : Claim7 := { stood := { row := linkFirstsRow, standIns := [], harness := (true, "3c17c44e3eed6ceab98d82ef234a78afad1795e6a767e8ea8de478ea85665ae0"), looks := false }, kinds := [], alts := [], laidByText := true, laidKinds := [.data, .pinned], laidTests := true, laidLooks := .later }
def LinkFirstsCardSaid : Prop := Claim7.holds Tryd.pinned (.plain (OpenSpec.ofChange linkFirstsSpec)) linkFirstsCard

/-- THE TIED CARD OF 'creellaw.LinkAnews'. -/
def linkAnewsCard : Claim7 := { stood := { row := linkAnewsRow, standIns := [], harness := (true, "3c17c44e3eed6ceab98d82ef234a78afad1795e6a767e8ea8de478ea85665ae0"), looks := false }, kinds := [], alts := [], laidByText := true, laidKinds := [.data, .pinned], laidTests := true, laidLooks := .later }
def LinkAnewsCardSaid : Prop := Claim7.holds Tryd.pinned (.plain (OpenSpec.ofChange linkAnewsSpec)) linkAnewsCard

/-- THE TIED CARD OF 'creellaw.TreePuts'. -/
def treePutsCard : Claim7 := { stood := { row := treePutsRow, standIns := [], harness := (true, "3c17c44e3eed6ceab98d82ef234a78afad1795e6a767e8ea8de478ea85665ae0"), looks := false }, kinds := [], alts := [], laidByText := true, laidKinds := [.data, .pinned], laidTests := true, laidLooks := .later }
def TreePutsCardSaid : Prop := Claim7.holds Tryd.pinned (.plain (OpenSpec.ofChange treePutsSpec)) treePutsCard

/-- THE TIED CARD OF 'creellaw.TreeRemoves'. -/
def treeRemovesCard : Claim7 := { stood := { row := treeRemovesRow, standIns := [], harness := (true, "3c17c44e3eed6ceab98d82ef234a78afad1795e6a767e8ea8de478ea85665ae0"), looks := false }, kinds := [], alts := [], laidByText := true, laidKinds := [.data, .pinned], laidTests := true, laidLooks := .later }
def TreeRemovesCardSaid : Prop := Claim7.holds Tryd.pinned (.plain (OpenSpec.ofChange treeRemovesSpec)) treeRemovesCard

/-- THE TIED CARD OF 'creellaw.PlanGrows'. -/
def planGrowsCard : Claim7 := { stood := { row := planGrowsRow, standIns := [], harness := (true, "3c17c44e3eed6ceab98d82ef234a78afad1795e6a767e8ea8de478ea85665ae0"), looks := false }, kinds := [], alts := [], laidByText := true, laidKinds := [.data, .pinned], laidTests := true, laidLooks := .later }
def PlanGrowsCardSaid : Prop := Claim7.holds Tryd.pinned (.plain (OpenSpec.ofChange planGrowsSpec)) planGrowsCard

/-- THE TIED CARD OF 'creellaw.DiffTells'. -/
def diffTellsCard : Claim7 := { stood := { row := diffTellsRow, standIns := [], harness := (true, "3c17c44e3eed6ceab98d82ef234a78afad1795e6a767e8ea8de478ea85665ae0"), looks := false }, kinds := [], alts := [], laidByText := true, laidKinds := [.data, .pinned], laidTests := true, laidLooks := .later }
def DiffTellsCardSaid : Prop := Claim7.holds Tryd.pinned (.plain (OpenSpec.ofChange diffTellsSpec)) diffTellsCard

/-- THE TIED CARD OF 'creellaw.DiffAlikes'. -/
def diffAlikesCard : Claim7 := { stood := { row := diffAlikesRow, standIns := [], harness := (true, "3c17c44e3eed6ceab98d82ef234a78afad1795e6a767e8ea8de478ea85665ae0"), looks := false }, kinds := [], alts := [], laidByText := true, laidKinds := [.data, .pinned], laidTests := true, laidLooks := .later }
def DiffAlikesCardSaid : Prop := Claim7.holds Tryd.pinned (.plain (OpenSpec.ofChange diffAlikesSpec)) diffAlikesCard

/-- THE TIED CARD OF 'creellaw.OrderWalks'. -/
def orderWalksCard : Claim7 := { stood := { row := orderWalksRow, standIns := [], harness := (true, "3c17c44e3eed6ceab98d82ef234a78afad1795e6a767e8ea8de478ea85665ae0"), looks := false }, kinds := [], alts := [], laidByText := true, laidKinds := [.data, .pinned], laidTests := true, laidLooks := .later }
def OrderWalksCardSaid : Prop := Claim7.holds Tryd.pinned (.plain (OpenSpec.ofChange orderWalksSpec)) orderWalksCard

/-- THE TIED CARD OF 'creellaw.OrderSorts'. -/
def orderSortsCard : Claim7 := { stood := { row := orderSortsRow, standIns := [], harness := (true, "3c17c44e3eed6ceab98d82ef234a78afad1795e6a767e8ea8de478ea85665ae0"), looks := false }, kinds := [], alts := [], laidByText := true, laidKinds := [.data, .pinned], laidTests := true, laidLooks := .later }
def OrderSortsCardSaid : Prop := Claim7.holds Tryd.pinned (.plain (OpenSpec.ofChange orderSortsSpec)) orderSortsCard

/-- THE TIED CARD OF 'creellaw.GlobChecks'. -/
def globChecksCard : Claim7 := { stood := { row := globChecksRow, standIns := [], harness := (true, "3c17c44e3eed6ceab98d82ef234a78afad1795e6a767e8ea8de478ea85665ae0"), looks := false }, kinds := [], alts := [], laidByText := true, laidKinds := [.data, .pinned], laidTests := true, laidLooks := .later }
def GlobChecksCardSaid : Prop := Claim7.holds Tryd.pinned (.plain (OpenSpec.ofChange globChecksSpec)) globChecksCard

/-- THE TIED CARD OF 'creellaw.PipeChecks'. -/
def pipeChecksCard : Claim7 := { stood := { row := pipeChecksRow, standIns := [], harness := (true, "3c17c44e3eed6ceab98d82ef234a78afad1795e6a767e8ea8de478ea85665ae0"), looks := false }, kinds := [], alts := [], laidByText := true, laidKinds := [.data, .pinned], laidTests := true, laidLooks := .later }
def PipeChecksCardSaid : Prop := Claim7.holds Tryd.pinned (.plain (OpenSpec.ofChange pipeChecksSpec)) pipeChecksCard

/-- THE TIED CARD OF 'creellaw.FilterTakes'. -/
def filterTakesCard : Claim7 := { stood := { row := filterTakesRow, standIns := [], harness := (true, "3c17c44e3eed6ceab98d82ef234a78afad1795e6a767e8ea8de478ea85665ae0"), looks := false }, kinds := [], alts := [], laidByText := true, laidKinds := [.data, .pinned], laidTests := true, laidLooks := .later }
def FilterTakesCardSaid : Prop := Claim7.holds Tryd.pinned (.plain (OpenSpec.ofChange filterTakesSpec)) filterTakesCard

/-- THE SECOND FORM's CARD OF 'creellaw.LinkFirsts'. -/
def linkFirstsUptoCard : Claim7 := { stood := { row := linkFirstsUptoRow, standIns := [], harness := (true, "3c17c44e3eed6ceab98d82ef234a78afad1795e6a767e8ea8de478ea85665ae0"), looks := false }, kinds := [], alts := [], laidByText := true, laidKinds := [.data, .pinned], laidTests := true, laidLooks := .later }
def LinkFirstsUptoCardSaid : Prop := Claim7.holds Tryd.pinned (.plain (OpenSpec.upto linkFirstsSpec)) linkFirstsUptoCard

/-- THE SECOND FORM's CARD OF 'creellaw.LinkAnews'. -/
def linkAnewsUptoCard : Claim7 := { stood := { row := linkAnewsUptoRow, standIns := [], harness := (true, "3c17c44e3eed6ceab98d82ef234a78afad1795e6a767e8ea8de478ea85665ae0"), looks := false }, kinds := [], alts := [], laidByText := true, laidKinds := [.data, .pinned], laidTests := true, laidLooks := .later }
def LinkAnewsUptoCardSaid : Prop := Claim7.holds Tryd.pinned (.plain (OpenSpec.upto linkAnewsSpec)) linkAnewsUptoCard

/-- THE SECOND FORM's CARD OF 'creellaw.TreePuts'. -/
def treePutsUptoCard : Claim7 := { stood := { row := treePutsUptoRow, standIns := [], harness := (true, "3c17c44e3eed6ceab98d82ef234a78afad1795e6a767e8ea8de478ea85665ae0"), looks := false }, kinds := [], alts := [], laidByText := true, laidKinds := [.data, .pinned], laidTests := true, laidLooks := .later }
def TreePutsUptoCardSaid : Prop := Claim7.holds Tryd.pinned (.plain (OpenSpec.upto treePutsSpec)) treePutsUptoCard

/-- THE SECOND FORM's CARD OF 'creellaw.TreeRemoves'. -/
def treeRemovesUptoCard : Claim7 := { stood := { row := treeRemovesUptoRow, standIns := [], harness := (true, "3c17c44e3eed6ceab98d82ef234a78afad1795e6a767e8ea8de478ea85665ae0"), looks := false }, kinds := [], alts := [], laidByText := true, laidKinds := [.data, .pinned], laidTests := true, laidLooks := .later }
def TreeRemovesUptoCardSaid : Prop := Claim7.holds Tryd.pinned (.plain (OpenSpec.upto treeRemovesSpec)) treeRemovesUptoCard

/-- THE SECOND FORM's CARD OF 'creellaw.PlanGrows'. -/
def planGrowsUptoCard : Claim7 := { stood := { row := planGrowsUptoRow, standIns := [], harness := (true, "3c17c44e3eed6ceab98d82ef234a78afad1795e6a767e8ea8de478ea85665ae0"), looks := false }, kinds := [], alts := [], laidByText := true, laidKinds := [.data, .pinned], laidTests := true, laidLooks := .later }
def PlanGrowsUptoCardSaid : Prop := Claim7.holds Tryd.pinned (.plain (OpenSpec.upto planGrowsSpec)) planGrowsUptoCard

/-- THE SECOND FORM's CARD OF 'creellaw.DiffTells'. -/
def diffTellsUptoCard : Claim7 := { stood := { row := diffTellsUptoRow, standIns := [], harness := (true, "3c17c44e3eed6ceab98d82ef234a78afad1795e6a767e8ea8de478ea85665ae0"), looks := false }, kinds := [], alts := [], laidByText := true, laidKinds := [.data, .pinned], laidTests := true, laidLooks := .later }
def DiffTellsUptoCardSaid : Prop := Claim7.holds Tryd.pinned (.plain (OpenSpec.upto diffTellsSpec)) diffTellsUptoCard

/-- THE SECOND FORM's CARD OF 'creellaw.DiffAlikes'. -/
def diffAlikesUptoCard : Claim7 := { stood := { row := diffAlikesUptoRow, standIns := [], harness := (true, "3c17c44e3eed6ceab98d82ef234a78afad1795e6a767e8ea8de478ea85665ae0"), looks := false }, kinds := [], alts := [], laidByText := true, laidKinds := [.data, .pinned], laidTests := true, laidLooks := .later }
def DiffAlikesUptoCardSaid : Prop := Claim7.holds Tryd.pinned (.plain (OpenSpec.upto diffAlikesSpec)) diffAlikesUptoCard

/-- THE SECOND FORM's CARD OF 'creellaw.OrderWalks'. -/
def orderWalksUptoCard : Claim7 := { stood := { row := orderWalksUptoRow, standIns := [], harness := (true, "3c17c44e3eed6ceab98d82ef234a78afad1795e6a767e8ea8de478ea85665ae0"), looks := false }, kinds := [], alts := [], laidByText := true, laidKinds := [.data, .pinned], laidTests := true, laidLooks := .later }
def OrderWalksUptoCardSaid : Prop := Claim7.holds Tryd.pinned (.plain (OpenSpec.upto orderWalksSpec)) orderWalksUptoCard

/-- THE SECOND FORM's CARD OF 'creellaw.OrderSorts'. -/
def orderSortsUptoCard : Claim7 := { stood := { row := orderSortsUptoRow, standIns := [], harness := (true, "3c17c44e3eed6ceab98d82ef234a78afad1795e6a767e8ea8de478ea85665ae0"), looks := false }, kinds := [], alts := [], laidByText := true, laidKinds := [.data, .pinned], laidTests := true, laidLooks := .later }
def OrderSortsUptoCardSaid : Prop := Claim7.holds Tryd.pinned (.plain (OpenSpec.upto orderSortsSpec)) orderSortsUptoCard

/-- THE SECOND FORM's CARD OF 'creellaw.GlobChecks'. -/
def globChecksUptoCard : Claim7 := { stood := { row := globChecksUptoRow, standIns := [], harness := (true, "3c17c44e3eed6ceab98d82ef234a78afad1795e6a767e8ea8de478ea85665ae0"), looks := false }, kinds := [], alts := [], laidByText := true, laidKinds := [.data, .pinned], laidTests := true, laidLooks := .later }
def GlobChecksUptoCardSaid : Prop := Claim7.holds Tryd.pinned (.plain (OpenSpec.upto globChecksSpec)) globChecksUptoCard

/-- THE SECOND FORM's CARD OF 'creellaw.PipeChecks'. -/
def pipeChecksUptoCard : Claim7 := { stood := { row := pipeChecksUptoRow, standIns := [], harness := (true, "3c17c44e3eed6ceab98d82ef234a78afad1795e6a767e8ea8de478ea85665ae0"), looks := false }, kinds := [], alts := [], laidByText := true, laidKinds := [.data, .pinned], laidTests := true, laidLooks := .later }
def PipeChecksUptoCardSaid : Prop := Claim7.holds Tryd.pinned (.plain (OpenSpec.upto pipeChecksSpec)) pipeChecksUptoCard

/-- THE SECOND FORM's CARD OF 'creellaw.FilterTakes'. -/
def filterTakesUptoCard : Claim7 := { stood := { row := filterTakesUptoRow, standIns := [], harness := (true, "3c17c44e3eed6ceab98d82ef234a78afad1795e6a767e8ea8de478ea85665ae0"), looks := false }, kinds := [], alts := [], laidByText := true, laidKinds := [.data, .pinned], laidTests := true, laidLooks := .later }
def FilterTakesUptoCardSaid : Prop := Claim7.holds Tryd.pinned (.plain (OpenSpec.upto filterTakesSpec)) filterTakesUptoCard
end Rows
end Go.Proofs.YtiiojjhfncefgaaDoor
