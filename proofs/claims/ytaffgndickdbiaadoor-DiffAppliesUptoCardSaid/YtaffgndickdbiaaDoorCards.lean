/-
  DERIVED. GIVEN WITH THE SEED: THE CARDS: each row of YtaffgndickdbiaaDoorRows.lean that lists a variable, with what it lists TIED to the program's text (the seventh form; the later family's looks); each row that meets fmt, with fmt's text TOLD by the authors' own Lean function (tested against real Go, not proved from fmt's source: count such statements apart). THE CARD IS WHAT COUNTS. Prove the row's statement (the work); the ties are given (YtaffgndickdbiaaDoorTie.lean); close each card by the builder's one call (the guide's Derived/Test/ToyasCard.lean, 'card_holds'). Laid BY PROGRAM, IN A SANDBOX (cutbox-door.mjs). By AI agents, Wed Nov 11 2026. No macro, syntax, notation, axiom, sorry.
-/
import Derived.Test.YtaffgndickdbiaaDoorRows
import GoSem.ClaimSeven
namespace Go.Proofs.YtaffgndickdbiaaDoor
namespace Rows

/-- THE TIED CARD OF 'creellaw.DiffTells'. -/
def diffTellsCard : Claim7 := { stood := { row := diffTellsRow, standIns := [], harness := (true, "451f1718be8ede4c6bf5d5df334d511045e96a7a6c3eaae3b0ec3c3f9395e8f5"), looks := false }, kinds := [], alts := [], laidByText := true, laidKinds := [.data, .pinned], laidTests := true, laidLooks := .later }
def DiffTellsCardSaid : Prop := Claim7.holds Tryd.pinned (.plain (OpenSpec.ofChange diffTellsSpec)) diffTellsCard

/-- THE TIED CARD OF 'creellaw.DiffAlikes'. -/
def diffAlikesCard : Claim7 := { stood := { row := diffAlikesRow, standIns := [], harness := (true, "451f1718be8ede4c6bf5d5df334d511045e96a7a6c3eaae3b0ec3c3f9395e8f5"), looks := false }, kinds := [], alts := [], laidByText := true, laidKinds := [.data, .pinned], laidTests := true, laidLooks := .later }
def DiffAlikesCardSaid : Prop := Claim7.holds Tryd.pinned (.plain (OpenSpec.ofChange diffAlikesSpec)) diffAlikesCard

/-- THE TIED CARD OF 'creellaw.OrderSorts'. -/
def orderSortsCard : Claim7 := { stood := { row := orderSortsRow, standIns := [], harness := (true, "451f1718be8ede4c6bf5d5df334d511045e96a7a6c3eaae3b0ec3c3f9395e8f5"), looks := false }, kinds := [], alts := [], laidByText := true, laidKinds := [.data, .pinned], laidTests := true, laidLooks := .later }
def OrderSortsCardSaid : Prop := Claim7.holds Tryd.pinned (.plain (OpenSpec.ofChange orderSortsSpec)) orderSortsCard

/-- THE TIED CARD OF 'creellaw.DiffApplies'. -/
def diffAppliesCard : Claim7 := { stood := { row := diffAppliesRow, standIns := [], harness := (true, "451f1718be8ede4c6bf5d5df334d511045e96a7a6c3eaae3b0ec3c3f9395e8f5"), looks := false }, kinds := [], alts := [], laidByText := true, laidKinds := [.data, .pinned], laidTests := true, laidLooks := .later }
def DiffAppliesCardSaid : Prop := Claim7.holds Tryd.pinned (.plain (OpenSpec.ofChange diffAppliesSpec)) diffAppliesCard

/-- THE TIED CARD OF 'creellaw.ListLines'. -/
def listLinesCard : Claim7 := { stood := { row := listLinesRow, standIns := [], harness := (true, "451f1718be8ede4c6bf5d5df334d511045e96a7a6c3eaae3b0ec3c3f9395e8f5"), looks := false }, kinds := [], alts := [], laidByText := true, laidKinds := [.data, .data, .data, .data, .pinned], laidTests := true, laidLooks := .later }
def ListLinesCardSaid : Prop := Claim7.holds Tryd.pinned (.plain (OpenSpec.ofChange listLinesSpec)) listLinesCard

/-- THE TIED CARD OF 'creellaw.MemberPacks'. -/
def memberPacksCard : Claim7 := { stood := { row := memberPacksRow, standIns := [], harness := (true, "451f1718be8ede4c6bf5d5df334d511045e96a7a6c3eaae3b0ec3c3f9395e8f5"), looks := false }, kinds := [], alts := [], laidByText := true, laidKinds := [.data, .data, .data, .data, .pinned], laidTests := true, laidLooks := .later }
def MemberPacksCardSaid : Prop := Claim7.holds Tryd.pinned (.plain (OpenSpec.ofChange memberPacksSpec)) memberPacksCard

/-- THE SECOND FORM's CARD OF 'creellaw.DiffTells'. -/
def diffTellsUptoCard : Claim7 := { stood := { row := diffTellsUptoRow, standIns := [], harness := (true, "451f1718be8ede4c6bf5d5df334d511045e96a7a6c3eaae3b0ec3c3f9395e8f5"), looks := false }, kinds := [], alts := [], laidByText := true, laidKinds := [.data, .pinned], laidTests := true, laidLooks := .later }
def DiffTellsUptoCardSaid : Prop := Claim7.holds Tryd.pinned (.plain (OpenSpec.upto diffTellsSpec)) diffTellsUptoCard

/-- THE SECOND FORM's CARD OF 'creellaw.DiffAlikes'. -/
def diffAlikesUptoCard : Claim7 := { stood := { row := diffAlikesUptoRow, standIns := [], harness := (true, "451f1718be8ede4c6bf5d5df334d511045e96a7a6c3eaae3b0ec3c3f9395e8f5"), looks := false }, kinds := [], alts := [], laidByText := true, laidKinds := [.data, .pinned], laidTests := true, laidLooks := .later }
def DiffAlikesUptoCardSaid : Prop := Claim7.holds Tryd.pinned (.plain (OpenSpec.upto diffAlikesSpec)) diffAlikesUptoCard

/-- THE SECOND FORM's CARD OF 'creellaw.OrderSorts'. -/
def orderSortsUptoCard : Claim7 := { stood := { row := orderSortsUptoRow, standIns := [], harness := (true, "451f1718be8ede4c6bf5d5df334d511045e96a7a6c3eaae3b0ec3c3f9395e8f5"), looks := false }, kinds := [], alts := [], laidByText := true, laidKinds := [.data, .pinned], laidTests := true, laidLooks := .later }
def OrderSortsUptoCardSaid : Prop := Claim7.holds Tryd.pinned (.plain (OpenSpec.upto orderSortsSpec)) orderSortsUptoCard

/-- THE SECOND FORM's CARD OF 'creellaw.DiffApplies'. -/
def diffAppliesUptoCard : Claim7 := { stood := { row := diffAppliesUptoRow, standIns := [], harness := (true, "451f1718be8ede4c6bf5d5df334d511045e96a7a6c3eaae3b0ec3c3f9395e8f5"), looks := false }, kinds := [], alts := [], laidByText := true, laidKinds := [.data, .pinned], laidTests := true, laidLooks := .later }
def DiffAppliesUptoCardSaid : Prop := Claim7.holds Tryd.pinned (.plain (OpenSpec.upto diffAppliesSpec)) diffAppliesUptoCard

/-- THE SECOND FORM's CARD OF 'creellaw.ListLines'. -/
def listLinesUptoCard : Claim7 := { stood := { row := listLinesUptoRow, standIns := [], harness := (true, "451f1718be8ede4c6bf5d5df334d511045e96a7a6c3eaae3b0ec3c3f9395e8f5"), looks := false }, kinds := [], alts := [], laidByText := true, laidKinds := [.data, .data, .data, .data, .pinned], laidTests := true, laidLooks := .later }
def ListLinesUptoCardSaid : Prop := Claim7.holds Tryd.pinned (.plain (OpenSpec.upto listLinesSpec)) listLinesUptoCard

/-- THE SECOND FORM's CARD OF 'creellaw.MemberPacks'. -/
def memberPacksUptoCard : Claim7 := { stood := { row := memberPacksUptoRow, standIns := [], harness := (true, "451f1718be8ede4c6bf5d5df334d511045e96a7a6c3eaae3b0ec3c3f9395e8f5"), looks := false }, kinds := [], alts := [], laidByText := true, laidKinds := [.data, .data, .data, .data, .pinned], laidTests := true, laidLooks := .later }
def MemberPacksUptoCardSaid : Prop := Claim7.holds Tryd.pinned (.plain (OpenSpec.upto memberPacksSpec)) memberPacksUptoCard
end Rows
end Go.Proofs.YtaffgndickdbiaaDoor
