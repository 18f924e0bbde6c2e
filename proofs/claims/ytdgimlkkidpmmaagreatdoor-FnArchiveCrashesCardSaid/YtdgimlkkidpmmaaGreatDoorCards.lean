/-
  DERIVED. GIVEN WITH THE SEED: THE CARDS: each row of YtdgimlkkidpmmaaGreatDoorRows.lean that lists a variable, with what it lists TIED to the program's text (the seventh form; the later family's looks); each row that meets fmt, with fmt's text TOLD by the authors' own Lean function (tested against real Go, not proved from fmt's source: count such statements apart). THE CARD IS WHAT COUNTS. Prove the row's statement (the work); the ties are given (YtdgimlkkidpmmaaGreatDoorTie.lean); close each card by the builder's one call (the guide's Derived/Test/ToyasCard.lean, 'card_holds'). Laid BY PROGRAM, IN A SANDBOX (cutbox-door.mjs). By AI agents, Wed Nov 11 2026. No macro, syntax, notation, axiom, sorry.
-/
import Derived.Test.YtdgimlkkidpmmaaGreatDoorRows
import GoSem.ClaimSeven
namespace Go.Proofs.YtdgimlkkidpmmaaGreatDoor
namespace Rows

/-- THE TIED CARD OF 'laws.FnArchiveCrashes'. -/
def fnArchiveCrashesCard : Claim7 := { stood := { row := fnArchiveCrashesRow, standIns := [], harness := (true, "2c1ed816e01d25d6cb584baa74c366581fa690a4c5bb219ae429062498e5723f"), looks := true }, kinds := [], alts := [], laidByText := true, laidKinds := [.handle], laidTests := true, laidLooks := .later }
def FnArchiveCrashesCardSaid : Prop := Claim7.holds Tryz.pinned (.plain (OpenSpec.ofChange fnArchiveCrashesSpec)) fnArchiveCrashesCard

/-- THE SECOND FORM's CARD OF 'laws.FnArchiveCrashes'. -/
def fnArchiveCrashesUptoCard : Claim7 := { stood := { row := fnArchiveCrashesUptoRow, standIns := [], harness := (true, "2c1ed816e01d25d6cb584baa74c366581fa690a4c5bb219ae429062498e5723f"), looks := true }, kinds := [], alts := [], laidByText := true, laidKinds := [.handle], laidTests := true, laidLooks := .later }
def FnArchiveCrashesUptoCardSaid : Prop := Claim7.holds Tryz.pinned (.plain (OpenSpec.upto fnArchiveCrashesSpec)) fnArchiveCrashesUptoCard
end Rows
end Go.Proofs.YtdgimlkkidpmmaaGreatDoor
