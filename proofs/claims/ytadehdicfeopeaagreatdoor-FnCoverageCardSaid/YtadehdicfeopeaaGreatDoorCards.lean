/-
  DERIVED. GIVEN WITH THE SEED: THE CARDS: each row of YtadehdicfeopeaaGreatDoorRows.lean that lists a variable, with what it lists TIED to the program's text (the seventh form; the later family's looks); each row that meets fmt, with fmt's text TOLD by the authors' own Lean function (tested against real Go, not proved from fmt's source: count such statements apart). THE CARD IS WHAT COUNTS. Prove the row's statement (the work); the ties are given (YtadehdicfeopeaaGreatDoorTie.lean); close each card by the builder's one call (the guide's Derived/Test/ToyasCard.lean, 'card_holds'). Laid BY PROGRAM, IN A SANDBOX (cutbox-door.mjs). By AI agents, Wed Nov 11 2026. No macro, syntax, notation, axiom, sorry.
-/
import Derived.Test.YtadehdicfeopeaaGreatDoorRows
import GoSem.ClaimSeven
namespace Go.Proofs.YtadehdicfeopeaaGreatDoor
namespace Rows

/-- THE TIED CARD OF 'laws.FnCoverage'. -/
def fnCoverageCard : Claim7 := { stood := { row := fnCoverageRow, standIns := [], harness := (true, "16626e2c341398e8582ff31b2bdf5ab5c36d1dba439465337b4b60dc6b3efbba"), looks := true }, kinds := [], alts := [], laidByText := true, laidKinds := [.data, .data, .data, .handle], laidTests := true, laidLooks := .later }
def FnCoverageCardSaid : Prop := Claim7.holds Tryz.pinned (.plain (OpenSpec.ofChange fnCoverageSpec)) fnCoverageCard

/-- THE SECOND FORM's CARD OF 'laws.FnCoverage'. -/
def fnCoverageUptoCard : Claim7 := { stood := { row := fnCoverageUptoRow, standIns := [], harness := (true, "16626e2c341398e8582ff31b2bdf5ab5c36d1dba439465337b4b60dc6b3efbba"), looks := true }, kinds := [], alts := [], laidByText := true, laidKinds := [.data, .data, .data, .handle], laidTests := true, laidLooks := .later }
def FnCoverageUptoCardSaid : Prop := Claim7.holds Tryz.pinned (.plain (OpenSpec.upto fnCoverageSpec)) fnCoverageUptoCard
end Rows
end Go.Proofs.YtadehdicfeopeaaGreatDoor
