/-
  DERIVED. GIVEN WITH THE SEED: THE CARDS: each row of YtjdphpimefbinaaGreatDoorRows.lean that lists a variable, with what it lists TIED to the program's text (the seventh form; the later family's looks); each row that meets fmt, with fmt's text TOLD by the authors' own Lean function (tested against real Go, not proved from fmt's source: count such statements apart). THE CARD IS WHAT COUNTS. Prove the row's statement (the work); the ties are given (YtjdphpimefbinaaGreatDoorTie.lean); close each card by the builder's one call (the guide's Derived/Test/ToyasCard.lean, 'card_holds'). Laid BY PROGRAM, IN A SANDBOX (cutbox-door.mjs). By AI agents, Wed Nov 11 2026. No macro, syntax, notation, axiom, sorry.
-/
import Derived.Test.YtjdphpimefbinaaGreatDoorRows
import GoSem.ClaimSeven
namespace Go.Proofs.YtjdphpimefbinaaGreatDoor
namespace Rows

/-- THE TIED CARD OF 'laws.FnExactDescribeFile'. -/
def fnExactDescribeFileCard : Claim7 := { stood := { row := fnExactDescribeFileRow, standIns := [], harness := (true, "b44dc9e8111a58830d0f2b8b5c5cdd63bae23a6b77cdbd74922076996cf673d0"), looks := true }, kinds := [], alts := [], laidByText := true, laidKinds := [.data, .data, .data, .handle], laidTests := true, laidLooks := .later }
def FnExactDescribeFileCardSaid : Prop := Claim7.holds Tryz.pinned (.plain (OpenSpec.ofChange fnExactDescribeFileSpec)) fnExactDescribeFileCard

/-- THE SECOND FORM's CARD OF 'laws.FnExactDescribeFile'. -/
def fnExactDescribeFileUptoCard : Claim7 := { stood := { row := fnExactDescribeFileUptoRow, standIns := [], harness := (true, "b44dc9e8111a58830d0f2b8b5c5cdd63bae23a6b77cdbd74922076996cf673d0"), looks := true }, kinds := [], alts := [], laidByText := true, laidKinds := [.data, .data, .data, .handle], laidTests := true, laidLooks := .later }
def FnExactDescribeFileUptoCardSaid : Prop := Claim7.holds Tryz.pinned (.plain (OpenSpec.upto fnExactDescribeFileSpec)) fnExactDescribeFileUptoCard
end Rows
end Go.Proofs.YtjdphpimefbinaaGreatDoor
