/-
  DERIVED. GIVEN WITH THE SEED: THE CARDS: each row of YtllocidmpdpmlabDoorRows.lean that lists a variable, with what it lists TIED to the program's text (the seventh form; the later family's looks); each row that meets fmt, with fmt's text TOLD by the authors' own Lean function (tested against real Go, not proved from fmt's source: count such statements apart). THE CARD IS WHAT COUNTS. Prove the row's statement (the work); the ties are given (YtllocidmpdpmlabDoorTie.lean); close each card by the builder's one call (the guide's Derived/Test/ToyasCard.lean, 'card_holds'). Laid BY PROGRAM, IN A SANDBOX (cutbox-door.mjs). By AI agents, Wed Nov 11 2026. No macro, syntax, notation, axiom, sorry.
-/
import Derived.Test.YtllocidmpdpmlabDoorRows
import GoSem.ClaimSeven
namespace Go.Proofs.YtllocidmpdpmlabDoor
namespace Rows

/-- THE TIED CARD OF 'creellaw.TreeChecks'. -/
def treeChecksCard : Claim7 := { stood := { row := treeChecksRow, standIns := [], harness := (true, "08ae21a0bc1e0ed62d82fdb689b3792ed67cd1ad3258d98d933685ce781570d0"), looks := false }, kinds := [], alts := [], laidByText := true, laidKinds := [.data, .pinned], laidTests := true, laidLooks := .later }
def TreeChecksCardSaid : Prop := Claim7.holds Tryd.pinned (.plain (OpenSpec.ofChange treeChecksSpec)) treeChecksCard

/-- THE TIED CARD OF 'creellaw.FilterTakes'. -/
def filterTakesCard : Claim7 := { stood := { row := filterTakesRow, standIns := [], harness := (true, "08ae21a0bc1e0ed62d82fdb689b3792ed67cd1ad3258d98d933685ce781570d0"), looks := false }, kinds := [], alts := [], laidByText := true, laidKinds := [.data, .pinned], laidTests := true, laidLooks := .later }
def FilterTakesCardSaid : Prop := Claim7.holds Tryd.pinned (.plain (OpenSpec.ofChange filterTakesSpec)) filterTakesCard

/-- THE TIED CARD OF 'creellaw.PaxWrites'. -/
def paxWritesCard : Claim7 := { stood := { row := paxWritesRow, standIns := [], harness := (true, "08ae21a0bc1e0ed62d82fdb689b3792ed67cd1ad3258d98d933685ce781570d0"), looks := false }, kinds := [], alts := [], laidByText := true, laidKinds := [.data, .data, .data], laidTests := true, laidLooks := .later }
def PaxWritesCardSaid : Prop := Claim7.holds Tryd.pinned (.plain (OpenSpec.ofChange paxWritesSpec)) paxWritesCard

/-- THE TIED CARD OF 'creellaw.PlanGrows'. -/
def planGrowsCard : Claim7 := { stood := { row := planGrowsRow, standIns := [], harness := (true, "08ae21a0bc1e0ed62d82fdb689b3792ed67cd1ad3258d98d933685ce781570d0"), looks := false }, kinds := [], alts := [], laidByText := true, laidKinds := [.data, .pinned], laidTests := true, laidLooks := .later }
def PlanGrowsCardSaid : Prop := Claim7.holds Tryd.pinned (.plain (OpenSpec.ofChange planGrowsSpec)) planGrowsCard

/-- THE TIED CARD OF 'creellaw.FaultFirsts'. -/
def faultFirstsCard : Claim7 := { stood := { row := faultFirstsRow, standIns := [], harness := (true, "08ae21a0bc1e0ed62d82fdb689b3792ed67cd1ad3258d98d933685ce781570d0"), looks := false }, kinds := [], alts := [], laidByText := true, laidKinds := [.data, .pinned], laidTests := true, laidLooks := .later }
def FaultFirstsCardSaid : Prop := Claim7.holds Tryd.pinned (.plain (OpenSpec.ofChange faultFirstsSpec)) faultFirstsCard

/-- THE TIED CARD OF 'creellaw.OrderSorts'. -/
def orderSortsCard : Claim7 := { stood := { row := orderSortsRow, standIns := [], harness := (true, "08ae21a0bc1e0ed62d82fdb689b3792ed67cd1ad3258d98d933685ce781570d0"), looks := false }, kinds := [], alts := [], laidByText := true, laidKinds := [.data, .pinned], laidTests := true, laidLooks := .later }
def OrderSortsCardSaid : Prop := Claim7.holds Tryd.pinned (.plain (OpenSpec.ofChange orderSortsSpec)) orderSortsCard

/-- THE TIED CARD OF 'creellaw.OrderNames'. -/
def orderNamesCard : Claim7 := { stood := { row := orderNamesRow, standIns := [], harness := (true, "08ae21a0bc1e0ed62d82fdb689b3792ed67cd1ad3258d98d933685ce781570d0"), looks := false }, kinds := [], alts := [], laidByText := true, laidKinds := [.data, .pinned], laidTests := true, laidLooks := .later }
def OrderNamesCardSaid : Prop := Claim7.holds Tryd.pinned (.plain (OpenSpec.ofChange orderNamesSpec)) orderNamesCard

/-- THE TIED CARD OF 'creellaw.LinkFirsts'. -/
def linkFirstsCard : Claim7 := { stood := { row := linkFirstsRow, standIns := [], harness := (true, "08ae21a0bc1e0ed62d82fdb689b3792ed67cd1ad3258d98d933685ce781570d0"), looks := false }, kinds := [], alts := [], laidByText := true, laidKinds := [.data, .pinned], laidTests := true, laidLooks := .later }
def LinkFirstsCardSaid : Prop := Claim7.holds Tryd.pinned (.plain (OpenSpec.ofChange linkFirstsSpec)) linkFirstsCard

/-- THE TIED CARD OF 'creellaw.TreePuts'. -/
def treePutsCard : Claim7 := { stood := { row := treePutsRow, standIns := [], harness := (true, "08ae21a0bc1e0ed62d82fdb689b3792ed67cd1ad3258d98d933685ce781570d0"), looks := false }, kinds := [], alts := [], laidByText := true, laidKinds := [.data, .pinned], laidTests := true, laidLooks := .later }
def TreePutsCardSaid : Prop := Claim7.holds Tryd.pinned (.plain (OpenSpec.ofChange treePutsSpec)) treePutsCard

/-- THE TIED CARD OF 'creellaw.TreeRemoves'. -/
def treeRemovesCard : Claim7 := { stood := { row := treeRemovesRow, standIns := [], harness := (true, "08ae21a0bc1e0ed62d82fdb689b3792ed67cd1ad3258d98d933685ce781570d0"), looks := false }, kinds := [], alts := [], laidByText := true, laidKinds := [.data, .pinned], laidTests := true, laidLooks := .later }
def TreeRemovesCardSaid : Prop := Claim7.holds Tryd.pinned (.plain (OpenSpec.ofChange treeRemovesSpec)) treeRemovesCard

/-- THE TIED CARD OF 'creellaw.DiffTells'. -/
def diffTellsCard : Claim7 := { stood := { row := diffTellsRow, standIns := [], harness := (true, "08ae21a0bc1e0ed62d82fdb689b3792ed67cd1ad3258d98d933685ce781570d0"), looks := false }, kinds := [], alts := [], laidByText := true, laidKinds := [.data, .pinned], laidTests := true, laidLooks := .later }
def DiffTellsCardSaid : Prop := Claim7.holds Tryd.pinned (.plain (OpenSpec.ofChange diffTellsSpec)) diffTellsCard

/-- THE TIED CARD OF 'creellaw.OrderWalks'. -/
def orderWalksCard : Claim7 := { stood := { row := orderWalksRow, standIns := [], harness := (true, "08ae21a0bc1e0ed62d82fdb689b3792ed67cd1ad3258d98d933685ce781570d0"), looks := false }, kinds := [], alts := [], laidByText := true, laidKinds := [.data, .pinned], laidTests := true, laidLooks := .later }
def OrderWalksCardSaid : Prop := Claim7.holds Tryd.pinned (.plain (OpenSpec.ofChange orderWalksSpec)) orderWalksCard

/-- THE SECOND FORM's CARD OF 'creellaw.TreeChecks'. -/
def treeChecksUptoCard : Claim7 := { stood := { row := treeChecksUptoRow, standIns := [], harness := (true, "08ae21a0bc1e0ed62d82fdb689b3792ed67cd1ad3258d98d933685ce781570d0"), looks := false }, kinds := [], alts := [], laidByText := true, laidKinds := [.data, .pinned], laidTests := true, laidLooks := .later }
def TreeChecksUptoCardSaid : Prop := Claim7.holds Tryd.pinned (.plain (OpenSpec.upto treeChecksSpec)) treeChecksUptoCard

/-- THE SECOND FORM's CARD OF 'creellaw.FilterTakes'. -/
def filterTakesUptoCard : Claim7 := { stood := { row := filterTakesUptoRow, standIns := [], harness := (true, "08ae21a0bc1e0ed62d82fdb689b3792ed67cd1ad3258d98d933685ce781570d0"), looks := false }, kinds := [], alts := [], laidByText := true, laidKinds := [.data, .pinned], laidTests := true, laidLooks := .later }
def FilterTakesUptoCardSaid : Prop := Claim7.holds Tryd.pinned (.plain (OpenSpec.upto filterTakesSpec)) filterTakesUptoCard

/-- THE SECOND FORM's CARD OF 'creellaw.PaxWrites'. -/
def paxWritesUptoCard : Claim7 := { stood := { row := paxWritesUptoRow, standIns := [], harness := (true, "08ae21a0bc1e0ed62d82fdb689b3792ed67cd1ad3258d98d933685ce781570d0"), looks := false }, kinds := [], alts := [], laidByText := true, laidKinds := [.data, .data, .data], laidTests := true, laidLooks := .later }
def PaxWritesUptoCardSaid : Prop := Claim7.holds Tryd.pinned (.plain (OpenSpec.upto paxWritesSpec)) paxWritesUptoCard

/-- THE SECOND FORM's CARD OF 'creellaw.PlanGrows'. -/
def planGrowsUptoCard : Claim7 := { stood := { row := planGrowsUptoRow, standIns := [], harness := (true, "08ae21a0bc1e0ed62d82fdb689b3792ed67cd1ad3258d98d933685ce781570d0"), looks := false }, kinds := [], alts := [], laidByText := true, laidKinds := [.data, .pinned], laidTests := true, laidLooks := .later }
def PlanGrowsUptoCardSaid : Prop := Claim7.holds Tryd.pinned (.plain (OpenSpec.upto planGrowsSpec)) planGrowsUptoCard

/-- THE SECOND FORM's CARD OF 'creellaw.FaultFirsts'. -/
def faultFirstsUptoCard : Claim7 := { stood := { row := faultFirstsUptoRow, standIns := [], harness := (true, "08ae21a0bc1e0ed62d82fdb689b3792ed67cd1ad3258d98d933685ce781570d0"), looks := false }, kinds := [], alts := [], laidByText := true, laidKinds := [.data, .pinned], laidTests := true, laidLooks := .later }
def FaultFirstsUptoCardSaid : Prop := Claim7.holds Tryd.pinned (.plain (OpenSpec.upto faultFirstsSpec)) faultFirstsUptoCard

/-- THE SECOND FORM's CARD OF 'creellaw.OrderSorts'. -/
def orderSortsUptoCard : Claim7 := { stood := { row := orderSortsUptoRow, standIns := [], harness := (true, "08ae21a0bc1e0ed62d82fdb689b3792ed67cd1ad3258d98d933685ce781570d0"), looks := false }, kinds := [], alts := [], laidByText := true, laidKinds := [.data, .pinned], laidTests := true, laidLooks := .later }
def OrderSortsUptoCardSaid : Prop := Claim7.holds Tryd.pinned (.plain (OpenSpec.upto orderSortsSpec)) orderSortsUptoCard

/-- THE SECOND FORM's CARD OF 'creellaw.OrderNames'. -/
def orderNamesUptoCard : Claim7 := { stood := { row := orderNamesUptoRow, standIns := [], harness := (true, "08ae21a0bc1e0ed62d82fdb689b3792ed67cd1ad3258d98d933685ce781570d0"), looks := false }, kinds := [], alts := [], laidByText := true, laidKinds := [.data, .pinned], laidTests := true, laidLooks := .later }
def OrderNamesUptoCardSaid : Prop := Claim7.holds Tryd.pinned (.plain (OpenSpec.upto orderNamesSpec)) orderNamesUptoCard

/-- THE SECOND FORM's CARD OF 'creellaw.LinkFirsts'. -/
def linkFirstsUptoCard : Claim7 := { stood := { row := linkFirstsUptoRow, standIns := [], harness := (true, "08ae21a0bc1e0ed62d82fdb689b3792ed67cd1ad3258d98d933685ce781570d0"), looks := false }, kinds := [], alts := [], laidByText := true, laidKinds := [.data, .pinned], laidTests := true, laidLooks := .later }
def LinkFirstsUptoCardSaid : Prop := Claim7.holds Tryd.pinned (.plain (OpenSpec.upto linkFirstsSpec)) linkFirstsUptoCard

/-- THE SECOND FORM's CARD OF 'creellaw.TreePuts'. -/
def treePutsUptoCard : Claim7 := { stood := { row := treePutsUptoRow, standIns := [], harness := (true, "08ae21a0bc1e0ed62d82fdb689b3792ed67cd1ad3258d98d933685ce781570d0"), looks := false }, kinds := [], alts := [], laidByText := true, laidKinds := [.data, .pinned], laidTests := true, laidLooks := .later }
def TreePutsUptoCardSaid : Prop := Claim7.holds Tryd.pinned (.plain (OpenSpec.upto treePutsSpec)) treePutsUptoCard

/-- THE SECOND FORM's CARD OF 'creellaw.TreeRemoves'. -/
def treeRemovesUptoCard : Claim7 := { stood := { row := treeRemovesUptoRow, standIns := [], harness := (true, "08ae21a0bc1e0ed62d82fdb689b3792ed67cd1ad3258d98d933685ce781570d0"), looks := false }, kinds := [], alts := [], laidByText := true, laidKinds := [.data, .pinned], laidTests := true, laidLooks := .later }
def TreeRemovesUptoCardSaid : Prop := Claim7.holds Tryd.pinned (.plain (OpenSpec.upto treeRemovesSpec)) treeRemovesUptoCard

/-- THE SECOND FORM's CARD OF 'creellaw.DiffTells'. -/
def diffTellsUptoCard : Claim7 := { stood := { row := diffTellsUptoRow, standIns := [], harness := (true, "08ae21a0bc1e0ed62d82fdb689b3792ed67cd1ad3258d98d933685ce781570d0"), looks := false }, kinds := [], alts := [], laidByText := true, laidKinds := [.data, .pinned], laidTests := true, laidLooks := .later }
def DiffTellsUptoCardSaid : Prop := Claim7.holds Tryd.pinned (.plain (OpenSpec.upto diffTellsSpec)) diffTellsUptoCard

/-- THE SECOND FORM's CARD OF 'creellaw.OrderWalks'. -/
def orderWalksUptoCard : Claim7 := { stood := { row := orderWalksUptoRow, standIns := [], harness := (true, "08ae21a0bc1e0ed62d82fdb689b3792ed67cd1ad3258d98d933685ce781570d0"), looks := false }, kinds := [], alts := [], laidByText := true, laidKinds := [.data, .pinned], laidTests := true, laidLooks := .later }
def OrderWalksUptoCardSaid : Prop := Claim7.holds Tryd.pinned (.plain (OpenSpec.upto orderWalksSpec)) orderWalksUptoCard
end Rows
end Go.Proofs.YtllocidmpdpmlabDoor
