/-
  DERIVED. GIVEN WITH THE SEED: THE CARDS: each row of YtafokokmkbgcjaaDoorRows.lean that lists a variable, with what it lists TIED to the program's text (the seventh form; the later family's looks); each row that meets fmt, with fmt's text TOLD by the authors' own Lean function (tested against real Go, not proved from fmt's source: count such statements apart). THE CARD IS WHAT COUNTS. Prove the row's statement (the work); the ties are given (YtafokokmkbgcjaaDoorTie.lean); close each card by the builder's one call (the guide's Derived/Test/ToyasCard.lean, 'card_holds'). Laid BY PROGRAM, IN A SANDBOX (cutbox-door.mjs). By AI agents, Wed Nov 11 2026. No macro, syntax, notation, axiom, sorry.
-/
import Derived.Test.YtafokokmkbgcjaaDoorRows
import GoSem.ClaimSeven
namespace Go.Proofs.YtafokokmkbgcjaaDoor
namespace Rows

/-- THE TIED CARD OF 'creellaw.ListLines'. -/
def listLinesCard : Claim7 := { stood := { row := listLinesRow, standIns := [], harness := (true, "e5d4d7b7dc6c72c411612c12e518fe2977acdea80b594f43ad234368176f248a"), looks := true }, kinds := [], alts := [], laidByText := true, laidKinds := [.data, .data, .data, .data, .pinned], laidTests := true, laidLooks := .later }
def ListLinesCardSaid : Prop := Claim7.holds Tryd.pinned (.plain (OpenSpec.ofChange listLinesSpec)) listLinesCard

/-- THE TIED CARD OF 'creellaw.MemberPacks'. -/
def memberPacksCard : Claim7 := { stood := { row := memberPacksRow, standIns := [], harness := (true, "e5d4d7b7dc6c72c411612c12e518fe2977acdea80b594f43ad234368176f248a"), looks := true }, kinds := [], alts := [], laidByText := true, laidKinds := [.data, .data, .data, .data, .pinned], laidTests := true, laidLooks := .later }
def MemberPacksCardSaid : Prop := Claim7.holds Tryd.pinned (.plain (OpenSpec.ofChange memberPacksSpec)) memberPacksCard

/-- THE TIED CARD OF 'creellaw.RecordReads'. -/
def recordReadsCard : Claim7 := { stood := { row := recordReadsRow, standIns := [], harness := (true, "e5d4d7b7dc6c72c411612c12e518fe2977acdea80b594f43ad234368176f248a"), looks := true }, kinds := [], alts := [], laidByText := true, laidKinds := [.data, .data, .data, .data, .sentinel, .sentinel, .pinned], laidTests := true, laidLooks := .later }
def RecordReadsCardSaid : Prop := Claim7.holds Tryd.pinned (.plain (OpenSpec.ofChange recordReadsSpec)) recordReadsCard

/-- THE TIED CARD OF 'creellaw.PaxReads'. -/
def paxReadsCard : Claim7 := { stood := { row := paxReadsRow, standIns := [], harness := (true, "e5d4d7b7dc6c72c411612c12e518fe2977acdea80b594f43ad234368176f248a"), looks := true }, kinds := [], alts := [], laidByText := true, laidKinds := [.data, .data, .data, .data, .sentinel, .sentinel, .pinned], laidTests := true, laidLooks := .later }
def PaxReadsCardSaid : Prop := Claim7.holds Tryd.pinned (.plain (OpenSpec.ofChange paxReadsSpec)) paxReadsCard

/-- THE SECOND FORM's CARD OF 'creellaw.ListLines'. -/
def listLinesUptoCard : Claim7 := { stood := { row := listLinesUptoRow, standIns := [], harness := (true, "e5d4d7b7dc6c72c411612c12e518fe2977acdea80b594f43ad234368176f248a"), looks := true }, kinds := [], alts := [], laidByText := true, laidKinds := [.data, .data, .data, .data, .pinned], laidTests := true, laidLooks := .later }
def ListLinesUptoCardSaid : Prop := Claim7.holds Tryd.pinned (.plain (OpenSpec.upto listLinesSpec)) listLinesUptoCard

/-- THE SECOND FORM's CARD OF 'creellaw.MemberPacks'. -/
def memberPacksUptoCard : Claim7 := { stood := { row := memberPacksUptoRow, standIns := [], harness := (true, "e5d4d7b7dc6c72c411612c12e518fe2977acdea80b594f43ad234368176f248a"), looks := true }, kinds := [], alts := [], laidByText := true, laidKinds := [.data, .data, .data, .data, .pinned], laidTests := true, laidLooks := .later }
def MemberPacksUptoCardSaid : Prop := Claim7.holds Tryd.pinned (.plain (OpenSpec.upto memberPacksSpec)) memberPacksUptoCard

/-- THE SECOND FORM's CARD OF 'creellaw.RecordReads'. -/
def recordReadsUptoCard : Claim7 := { stood := { row := recordReadsUptoRow, standIns := [], harness := (true, "e5d4d7b7dc6c72c411612c12e518fe2977acdea80b594f43ad234368176f248a"), looks := true }, kinds := [], alts := [], laidByText := true, laidKinds := [.data, .data, .data, .data, .sentinel, .sentinel, .pinned], laidTests := true, laidLooks := .later }
def RecordReadsUptoCardSaid : Prop := Claim7.holds Tryd.pinned (.plain (OpenSpec.upto recordReadsSpec)) recordReadsUptoCard

/-- THE SECOND FORM's CARD OF 'creellaw.PaxReads'. -/
def paxReadsUptoCard : Claim7 := { stood := { row := paxReadsUptoRow, standIns := [], harness := (true, "e5d4d7b7dc6c72c411612c12e518fe2977acdea80b594f43ad234368176f248a"), looks := true }, kinds := [], alts := [], laidByText := true, laidKinds := [.data, .data, .data, .data, .sentinel, .sentinel, .pinned], laidTests := true, laidLooks := .later }
def PaxReadsUptoCardSaid : Prop := Claim7.holds Tryd.pinned (.plain (OpenSpec.upto paxReadsSpec)) paxReadsUptoCard
end Rows
end Go.Proofs.YtafokokmkbgcjaaDoor
