/-
  DERIVED. GIVEN WITH THE SEED: THE CARDS: each row of YtfdcdeahjejlmaaGreatDoorRows.lean that lists a variable, with what it lists TIED to the program's text (the seventh form; the later family's looks); each row that meets fmt, with fmt's text TOLD by the authors' own Lean function (tested against real Go, not proved from fmt's source: count such statements apart). THE CARD IS WHAT COUNTS. Prove the row's statement (the work); the ties are given (YtfdcdeahjejlmaaGreatDoorTie.lean); close each card by the builder's one call (the guide's Derived/Test/ToyasCard.lean, 'card_holds'). Laid BY PROGRAM, IN A SANDBOX (cutbox-door.mjs). By AI agents, Wed Nov 11 2026. No macro, syntax, notation, axiom, sorry.
-/
import Derived.Test.YtfdcdeahjejlmaaGreatDoorRows
import GoSem.ClaimSeven
namespace Go.Proofs.YtfdcdeahjejlmaaGreatDoor
namespace Rows

/-- THE TIED CARD OF 'laws.FnExactLargestFile'. -/
def fnExactLargestFileCard : Claim7 := { stood := { row := fnExactLargestFileRow, standIns := [], harness := (true, "6b13e5de6b97f8d8bfe929ffd305bc5fb0d111aa6adac5e78c405f1331c2cdae"), looks := true }, kinds := [], alts := [], laidByText := true, laidKinds := [.handle], laidTests := true, laidLooks := .later }
def FnExactLargestFileCardSaid : Prop := Claim7.holds Tryz.pinned (.plain (OpenSpec.ofChange fnExactLargestFileSpec)) fnExactLargestFileCard

/-- THE TIED CARD OF 'laws.FnExactFilesOfVersion'. -/
def fnExactFilesOfVersionCard : Claim7 := { stood := { row := fnExactFilesOfVersionRow, standIns := [], harness := (true, "6b13e5de6b97f8d8bfe929ffd305bc5fb0d111aa6adac5e78c405f1331c2cdae"), looks := true }, kinds := [], alts := [], laidByText := true, laidKinds := [.handle], laidTests := true, laidLooks := .later }
def FnExactFilesOfVersionCardSaid : Prop := Claim7.holds Tryz.pinned (.plain (OpenSpec.ofChange fnExactFilesOfVersionSpec)) fnExactFilesOfVersionCard

/-- THE TIED CARD OF 'laws.FnExactCompactArchive'. -/
def fnExactCompactArchiveCard : Claim7 := { stood := { row := fnExactCompactArchiveRow, standIns := [], harness := (true, "6b13e5de6b97f8d8bfe929ffd305bc5fb0d111aa6adac5e78c405f1331c2cdae"), looks := true }, kinds := [], alts := [], laidByText := true, laidKinds := [.handle], laidTests := true, laidLooks := .later }
def FnExactCompactArchiveCardSaid : Prop := Claim7.holds Tryz.pinned (.plain (OpenSpec.ofChange fnExactCompactArchiveSpec)) fnExactCompactArchiveCard

/-- THE TIED CARD OF 'laws.FnExactStoreFile'. -/
def fnExactStoreFileCard : Claim7 := { stood := { row := fnExactStoreFileRow, standIns := [], harness := (true, "6b13e5de6b97f8d8bfe929ffd305bc5fb0d111aa6adac5e78c405f1331c2cdae"), looks := true }, kinds := [], alts := [], laidByText := true, laidKinds := [.handle], laidTests := true, laidLooks := .later }
def FnExactStoreFileCardSaid : Prop := Claim7.holds Tryz.pinned (.plain (OpenSpec.ofChange fnExactStoreFileSpec)) fnExactStoreFileCard

/-- THE TIED CARD OF 'laws.FnExactDeleteFile'. -/
def fnExactDeleteFileCard : Claim7 := { stood := { row := fnExactDeleteFileRow, standIns := [], harness := (true, "6b13e5de6b97f8d8bfe929ffd305bc5fb0d111aa6adac5e78c405f1331c2cdae"), looks := true }, kinds := [], alts := [], laidByText := true, laidKinds := [.handle], laidTests := true, laidLooks := .later }
def FnExactDeleteFileCardSaid : Prop := Claim7.holds Tryz.pinned (.plain (OpenSpec.ofChange fnExactDeleteFileSpec)) fnExactDeleteFileCard

/-- THE TIED CARD OF 'laws.FnExactDescribeArchive'. -/
def fnExactDescribeArchiveCard : Claim7 := { stood := { row := fnExactDescribeArchiveRow, standIns := [], harness := (true, "6b13e5de6b97f8d8bfe929ffd305bc5fb0d111aa6adac5e78c405f1331c2cdae"), looks := true }, kinds := [], alts := [], laidByText := true, laidKinds := [.data, .data, .data, .handle], laidTests := true, laidLooks := .later }
def FnExactDescribeArchiveCardSaid : Prop := Claim7.holds Tryz.pinned (.plain (OpenSpec.ofChange fnExactDescribeArchiveSpec)) fnExactDescribeArchiveCard

/-- THE SECOND FORM's CARD OF 'laws.FnExactLargestFile'. -/
def fnExactLargestFileUptoCard : Claim7 := { stood := { row := fnExactLargestFileUptoRow, standIns := [], harness := (true, "6b13e5de6b97f8d8bfe929ffd305bc5fb0d111aa6adac5e78c405f1331c2cdae"), looks := true }, kinds := [], alts := [], laidByText := true, laidKinds := [.handle], laidTests := true, laidLooks := .later }
def FnExactLargestFileUptoCardSaid : Prop := Claim7.holds Tryz.pinned (.plain (OpenSpec.upto fnExactLargestFileSpec)) fnExactLargestFileUptoCard

/-- THE SECOND FORM's CARD OF 'laws.FnExactFilesOfVersion'. -/
def fnExactFilesOfVersionUptoCard : Claim7 := { stood := { row := fnExactFilesOfVersionUptoRow, standIns := [], harness := (true, "6b13e5de6b97f8d8bfe929ffd305bc5fb0d111aa6adac5e78c405f1331c2cdae"), looks := true }, kinds := [], alts := [], laidByText := true, laidKinds := [.handle], laidTests := true, laidLooks := .later }
def FnExactFilesOfVersionUptoCardSaid : Prop := Claim7.holds Tryz.pinned (.plain (OpenSpec.upto fnExactFilesOfVersionSpec)) fnExactFilesOfVersionUptoCard

/-- THE SECOND FORM's CARD OF 'laws.FnExactCompactArchive'. -/
def fnExactCompactArchiveUptoCard : Claim7 := { stood := { row := fnExactCompactArchiveUptoRow, standIns := [], harness := (true, "6b13e5de6b97f8d8bfe929ffd305bc5fb0d111aa6adac5e78c405f1331c2cdae"), looks := true }, kinds := [], alts := [], laidByText := true, laidKinds := [.handle], laidTests := true, laidLooks := .later }
def FnExactCompactArchiveUptoCardSaid : Prop := Claim7.holds Tryz.pinned (.plain (OpenSpec.upto fnExactCompactArchiveSpec)) fnExactCompactArchiveUptoCard

/-- THE SECOND FORM's CARD OF 'laws.FnExactStoreFile'. -/
def fnExactStoreFileUptoCard : Claim7 := { stood := { row := fnExactStoreFileUptoRow, standIns := [], harness := (true, "6b13e5de6b97f8d8bfe929ffd305bc5fb0d111aa6adac5e78c405f1331c2cdae"), looks := true }, kinds := [], alts := [], laidByText := true, laidKinds := [.handle], laidTests := true, laidLooks := .later }
def FnExactStoreFileUptoCardSaid : Prop := Claim7.holds Tryz.pinned (.plain (OpenSpec.upto fnExactStoreFileSpec)) fnExactStoreFileUptoCard

/-- THE SECOND FORM's CARD OF 'laws.FnExactDeleteFile'. -/
def fnExactDeleteFileUptoCard : Claim7 := { stood := { row := fnExactDeleteFileUptoRow, standIns := [], harness := (true, "6b13e5de6b97f8d8bfe929ffd305bc5fb0d111aa6adac5e78c405f1331c2cdae"), looks := true }, kinds := [], alts := [], laidByText := true, laidKinds := [.handle], laidTests := true, laidLooks := .later }
def FnExactDeleteFileUptoCardSaid : Prop := Claim7.holds Tryz.pinned (.plain (OpenSpec.upto fnExactDeleteFileSpec)) fnExactDeleteFileUptoCard

/-- THE SECOND FORM's CARD OF 'laws.FnExactDescribeArchive'. -/
def fnExactDescribeArchiveUptoCard : Claim7 := { stood := { row := fnExactDescribeArchiveUptoRow, standIns := [], harness := (true, "6b13e5de6b97f8d8bfe929ffd305bc5fb0d111aa6adac5e78c405f1331c2cdae"), looks := true }, kinds := [], alts := [], laidByText := true, laidKinds := [.data, .data, .data, .handle], laidTests := true, laidLooks := .later }
def FnExactDescribeArchiveUptoCardSaid : Prop := Claim7.holds Tryz.pinned (.plain (OpenSpec.upto fnExactDescribeArchiveSpec)) fnExactDescribeArchiveUptoCard
end Rows
end Go.Proofs.YtfdcdeahjejlmaaGreatDoor
