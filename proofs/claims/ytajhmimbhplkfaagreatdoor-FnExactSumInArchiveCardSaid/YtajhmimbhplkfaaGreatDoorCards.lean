/-
  DERIVED. GIVEN WITH THE SEED: THE CARDS: each row of YtajhmimbhplkfaaGreatDoorRows.lean that lists a variable, with what it lists TIED to the program's text (the seventh form; the later family's looks); each row that meets fmt, with fmt's text TOLD by the authors' own Lean function (tested against real Go, not proved from fmt's source: count such statements apart). THE CARD IS WHAT COUNTS. Prove the row's statement (the work); the ties are given (YtajhmimbhplkfaaGreatDoorTie.lean); close each card by the builder's one call (the guide's Derived/Test/ToyasCard.lean, 'card_holds'). Laid BY PROGRAM, IN A SANDBOX (cutbox-door.mjs). By AI agents, Wed Nov 11 2026. No macro, syntax, notation, axiom, sorry.
-/
import Derived.Test.YtajhmimbhplkfaaGreatDoorRows
import GoSem.ClaimSeven
namespace Go.Proofs.YtajhmimbhplkfaaGreatDoor
namespace Rows

/-- THE TIED CARD OF 'laws.FnLocalEdits'. -/
def fnLocalEditsCard : Claim7 := { stood := { row := fnLocalEditsRow, standIns := [], harness := (true, "794beac2865fbfb5ef7d629164a485ef2ff906c7a55ff82648576e8a2d522c11"), looks := true }, kinds := [], alts := [], laidByText := true, laidKinds := [.handle], laidTests := true, laidLooks := .later }
def FnLocalEditsCardSaid : Prop := Claim7.holds Tryz.pinned (.plain (OpenSpec.ofChange fnLocalEditsSpec)) fnLocalEditsCard

/-- THE TIED CARD OF 'laws.FnQueries'. -/
def fnQueriesCard : Claim7 := { stood := { row := fnQueriesRow, standIns := [], harness := (true, "794beac2865fbfb5ef7d629164a485ef2ff906c7a55ff82648576e8a2d522c11"), looks := true }, kinds := [], alts := [], laidByText := true, laidKinds := [.data, .data, .data, .handle], laidTests := true, laidLooks := .later }
def FnQueriesCardSaid : Prop := Claim7.holds Tryz.pinned (.plain (OpenSpec.ofChange fnQueriesSpec)) fnQueriesCard

/-- THE TIED CARD OF 'laws.FnExactSumInArchive'. -/
def fnExactSumInArchiveCard : Claim7 := { stood := { row := fnExactSumInArchiveRow, standIns := [], harness := (true, "794beac2865fbfb5ef7d629164a485ef2ff906c7a55ff82648576e8a2d522c11"), looks := true }, kinds := [], alts := [], laidByText := true, laidKinds := [.data, .data, .data, .handle], laidTests := true, laidLooks := .later }
def FnExactSumInArchiveCardSaid : Prop := Claim7.holds Tryz.pinned (.plain (OpenSpec.ofChange fnExactSumInArchiveSpec)) fnExactSumInArchiveCard

/-- THE TIED CARD OF 'laws.FnExactFileParts'. -/
def fnExactFilePartsCard : Claim7 := { stood := { row := fnExactFilePartsRow, standIns := [], harness := (true, "794beac2865fbfb5ef7d629164a485ef2ff906c7a55ff82648576e8a2d522c11"), looks := true }, kinds := [], alts := [], laidByText := true, laidKinds := [.data, .data, .data, .handle], laidTests := true, laidLooks := .later }
def FnExactFilePartsCardSaid : Prop := Claim7.holds Tryz.pinned (.plain (OpenSpec.ofChange fnExactFilePartsSpec)) fnExactFilePartsCard

/-- THE TIED CARD OF 'laws.FnIndex'. -/
def fnIndexCard : Claim7 := { stood := { row := fnIndexRow, standIns := [], harness := (true, "794beac2865fbfb5ef7d629164a485ef2ff906c7a55ff82648576e8a2d522c11"), looks := true }, kinds := [], alts := [], laidByText := true, laidKinds := [.data, .data, .data, .handle], laidTests := true, laidLooks := .later }
def FnIndexCardSaid : Prop := Claim7.holds Tryz.pinned (.plain (OpenSpec.ofChange fnIndexSpec)) fnIndexCard

/-- THE TIED CARD OF 'laws.FnReindexing'. -/
def fnReindexingCard : Claim7 := { stood := { row := fnReindexingRow, standIns := [], harness := (true, "794beac2865fbfb5ef7d629164a485ef2ff906c7a55ff82648576e8a2d522c11"), looks := true }, kinds := [], alts := [], laidByText := true, laidKinds := [.data, .data, .data, .handle], laidTests := true, laidLooks := .later }
def FnReindexingCardSaid : Prop := Claim7.holds Tryz.pinned (.plain (OpenSpec.ofChange fnReindexingSpec)) fnReindexingCard

/-- THE SECOND FORM's CARD OF 'laws.FnLocalEdits'. -/
def fnLocalEditsUptoCard : Claim7 := { stood := { row := fnLocalEditsUptoRow, standIns := [], harness := (true, "794beac2865fbfb5ef7d629164a485ef2ff906c7a55ff82648576e8a2d522c11"), looks := true }, kinds := [], alts := [], laidByText := true, laidKinds := [.handle], laidTests := true, laidLooks := .later }
def FnLocalEditsUptoCardSaid : Prop := Claim7.holds Tryz.pinned (.plain (OpenSpec.upto fnLocalEditsSpec)) fnLocalEditsUptoCard

/-- THE SECOND FORM's CARD OF 'laws.FnQueries'. -/
def fnQueriesUptoCard : Claim7 := { stood := { row := fnQueriesUptoRow, standIns := [], harness := (true, "794beac2865fbfb5ef7d629164a485ef2ff906c7a55ff82648576e8a2d522c11"), looks := true }, kinds := [], alts := [], laidByText := true, laidKinds := [.data, .data, .data, .handle], laidTests := true, laidLooks := .later }
def FnQueriesUptoCardSaid : Prop := Claim7.holds Tryz.pinned (.plain (OpenSpec.upto fnQueriesSpec)) fnQueriesUptoCard

/-- THE SECOND FORM's CARD OF 'laws.FnExactSumInArchive'. -/
def fnExactSumInArchiveUptoCard : Claim7 := { stood := { row := fnExactSumInArchiveUptoRow, standIns := [], harness := (true, "794beac2865fbfb5ef7d629164a485ef2ff906c7a55ff82648576e8a2d522c11"), looks := true }, kinds := [], alts := [], laidByText := true, laidKinds := [.data, .data, .data, .handle], laidTests := true, laidLooks := .later }
def FnExactSumInArchiveUptoCardSaid : Prop := Claim7.holds Tryz.pinned (.plain (OpenSpec.upto fnExactSumInArchiveSpec)) fnExactSumInArchiveUptoCard

/-- THE SECOND FORM's CARD OF 'laws.FnExactFileParts'. -/
def fnExactFilePartsUptoCard : Claim7 := { stood := { row := fnExactFilePartsUptoRow, standIns := [], harness := (true, "794beac2865fbfb5ef7d629164a485ef2ff906c7a55ff82648576e8a2d522c11"), looks := true }, kinds := [], alts := [], laidByText := true, laidKinds := [.data, .data, .data, .handle], laidTests := true, laidLooks := .later }
def FnExactFilePartsUptoCardSaid : Prop := Claim7.holds Tryz.pinned (.plain (OpenSpec.upto fnExactFilePartsSpec)) fnExactFilePartsUptoCard

/-- THE SECOND FORM's CARD OF 'laws.FnIndex'. -/
def fnIndexUptoCard : Claim7 := { stood := { row := fnIndexUptoRow, standIns := [], harness := (true, "794beac2865fbfb5ef7d629164a485ef2ff906c7a55ff82648576e8a2d522c11"), looks := true }, kinds := [], alts := [], laidByText := true, laidKinds := [.data, .data, .data, .handle], laidTests := true, laidLooks := .later }
def FnIndexUptoCardSaid : Prop := Claim7.holds Tryz.pinned (.plain (OpenSpec.upto fnIndexSpec)) fnIndexUptoCard

/-- THE SECOND FORM's CARD OF 'laws.FnReindexing'. -/
def fnReindexingUptoCard : Claim7 := { stood := { row := fnReindexingUptoRow, standIns := [], harness := (true, "794beac2865fbfb5ef7d629164a485ef2ff906c7a55ff82648576e8a2d522c11"), looks := true }, kinds := [], alts := [], laidByText := true, laidKinds := [.data, .data, .data, .handle], laidTests := true, laidLooks := .later }
def FnReindexingUptoCardSaid : Prop := Claim7.holds Tryz.pinned (.plain (OpenSpec.upto fnReindexingSpec)) fnReindexingUptoCard
end Rows
end Go.Proofs.YtajhmimbhplkfaaGreatDoor
