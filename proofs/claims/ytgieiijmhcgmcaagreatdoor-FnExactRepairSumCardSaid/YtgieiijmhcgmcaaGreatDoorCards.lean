/-
  DERIVED. GIVEN WITH THE SEED: THE CARDS: each row of YtgieiijmhcgmcaaGreatDoorRows.lean that lists a variable, with what it lists TIED to the program's text (the seventh form; the later family's looks); each row that meets fmt, with fmt's text TOLD by the authors' own Lean function (tested against real Go, not proved from fmt's source: count such statements apart). THE CARD IS WHAT COUNTS. Prove the row's statement (the work); the ties are given (YtgieiijmhcgmcaaGreatDoorTie.lean); close each card by the builder's one call (the guide's Derived/Test/ToyasCard.lean, 'card_holds'). Laid BY PROGRAM, IN A SANDBOX (cutbox-door.mjs). By AI agents, Wed Nov 11 2026. No macro, syntax, notation, axiom, sorry.
-/
import Derived.Test.YtgieiijmhcgmcaaGreatDoorRows
import GoSem.ClaimSeven
namespace Go.Proofs.YtgieiijmhcgmcaaGreatDoor
namespace Rows

/-- THE TIED CARD OF 'laws.FnExactRepairSum'. -/
def fnExactRepairSumCard : Claim7 := { stood := { row := fnExactRepairSumRow, standIns := [], harness := (true, "a3f5cb21391f2c0ae7e1a1e74edb826db3e0bcc1711cd9a0ef4e5fb6e2787a63"), looks := true }, kinds := [], alts := [], laidByText := true, laidKinds := [.data, .data, .data, .handle], laidTests := true, laidLooks := .later }
def FnExactRepairSumCardSaid : Prop := Claim7.holds Tryz.pinned (.plain (OpenSpec.ofChange fnExactRepairSumSpec)) fnExactRepairSumCard

/-- THE SECOND FORM's CARD OF 'laws.FnExactRepairSum'. -/
def fnExactRepairSumUptoCard : Claim7 := { stood := { row := fnExactRepairSumUptoRow, standIns := [], harness := (true, "a3f5cb21391f2c0ae7e1a1e74edb826db3e0bcc1711cd9a0ef4e5fb6e2787a63"), looks := true }, kinds := [], alts := [], laidByText := true, laidKinds := [.data, .data, .data, .handle], laidTests := true, laidLooks := .later }
def FnExactRepairSumUptoCardSaid : Prop := Claim7.holds Tryz.pinned (.plain (OpenSpec.upto fnExactRepairSumSpec)) fnExactRepairSumUptoCard
end Rows
end Go.Proofs.YtgieiijmhcgmcaaGreatDoor
