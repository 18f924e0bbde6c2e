/-
  DERIVED. GIVEN WITH THE SEED: THE CARDS: each row of YtllmonllbkaflaaGreatDoorRows.lean that lists a variable, with what it lists TIED to the program's text (the seventh form; the later family's looks); each row that meets fmt, with fmt's text TOLD by the authors' own Lean function (tested against real Go, not proved from fmt's source: count such statements apart). THE CARD IS WHAT COUNTS. Prove the row's statement (the work); the ties are given (YtllmonllbkaflaaGreatDoorTie.lean); close each card by the builder's one call (the guide's Derived/Test/ToyasCard.lean, 'card_holds'). Laid BY PROGRAM, IN A SANDBOX (cutbox-door.mjs). By AI agents, Wed Nov 11 2026. No macro, syntax, notation, axiom, sorry.
-/
import Derived.Test.YtllmonllbkaflaaGreatDoorRows
import GoSem.ClaimSeven
namespace Go.Proofs.YtllmonllbkaflaaGreatDoor
namespace Rows

/-- THE TIED CARD OF 'laws.FnWhere'. -/
def fnWhereCard : Claim7 := { stood := { row := fnWhereRow, standIns := [], harness := (true, "71d298cac434bb63f7fb4dbcb87147eba365e9e0b98b5c2a6b19c1d8d3d30a17"), looks := true }, kinds := [], alts := [], laidByText := true, laidKinds := [.data, .data, .data, .handle], laidTests := true, laidLooks := .later }
def FnWhereCardSaid : Prop := Claim7.holds Tryz.pinned (.plain (OpenSpec.ofChange fnWhereSpec)) fnWhereCard

/-- THE SECOND FORM's CARD OF 'laws.FnWhere'. -/
def fnWhereUptoCard : Claim7 := { stood := { row := fnWhereUptoRow, standIns := [], harness := (true, "71d298cac434bb63f7fb4dbcb87147eba365e9e0b98b5c2a6b19c1d8d3d30a17"), looks := true }, kinds := [], alts := [], laidByText := true, laidKinds := [.data, .data, .data, .handle], laidTests := true, laidLooks := .later }
def FnWhereUptoCardSaid : Prop := Claim7.holds Tryz.pinned (.plain (OpenSpec.upto fnWhereSpec)) fnWhereUptoCard
end Rows
end Go.Proofs.YtllmonllbkaflaaGreatDoor
