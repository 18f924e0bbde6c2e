/-
  DERIVED. GIVEN WITH THE SEED: THE CARDS: each row of YtdcjkhfonojjiaaGreatDoorRows.lean that lists a variable, with what it lists TIED to the program's text (the seventh form; the later family's looks); each row that meets fmt, with fmt's text TOLD by the authors' own Lean function (tested against real Go, not proved from fmt's source: count such statements apart). THE CARD IS WHAT COUNTS. Prove the row's statement (the work); the ties are given (YtdcjkhfonojjiaaGreatDoorTie.lean); close each card by the builder's one call (the guide's Derived/Test/ToyasCard.lean, 'card_holds'). Laid BY PROGRAM, IN A SANDBOX (cutbox-door.mjs). By AI agents, Wed Nov 11 2026. No macro, syntax, notation, axiom, sorry.
-/
import Derived.Test.YtdcjkhfonojjiaaGreatDoorRows
import GoSem.ClaimSeven
namespace Go.Proofs.YtdcjkhfonojjiaaGreatDoor
namespace Rows

/-- THE TIED CARD OF 'laws.FnExactDescribeChanges'. -/
def fnExactDescribeChangesCard : Claim7 := { stood := { row := fnExactDescribeChangesRow, standIns := [], harness := (true, "74b874dc52cb80b57f4463e06ed442d6d37bb73b8845fb9ad3e43197912a8313"), looks := true }, kinds := [], alts := [], laidByText := true, laidKinds := [.data, .data, .data, .handle], laidTests := true, laidLooks := .later }
def FnExactDescribeChangesCardSaid : Prop := Claim7.holds Tryz.pinned (.plain (OpenSpec.ofChange fnExactDescribeChangesSpec)) fnExactDescribeChangesCard

/-- THE SECOND FORM's CARD OF 'laws.FnExactDescribeChanges'. -/
def fnExactDescribeChangesUptoCard : Claim7 := { stood := { row := fnExactDescribeChangesUptoRow, standIns := [], harness := (true, "74b874dc52cb80b57f4463e06ed442d6d37bb73b8845fb9ad3e43197912a8313"), looks := true }, kinds := [], alts := [], laidByText := true, laidKinds := [.data, .data, .data, .handle], laidTests := true, laidLooks := .later }
def FnExactDescribeChangesUptoCardSaid : Prop := Claim7.holds Tryz.pinned (.plain (OpenSpec.upto fnExactDescribeChangesSpec)) fnExactDescribeChangesUptoCard
end Rows
end Go.Proofs.YtdcjkhfonojjiaaGreatDoor
