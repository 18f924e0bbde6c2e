/-
  DERIVED. GIVEN WITH THE SEED: THE CARDS: each row of YtgpgenigfncgeaaGreatDoorRows.lean that lists a variable, with what it lists TIED to the program's text (the seventh form; the later family's looks); each row that meets fmt, with fmt's text TOLD by the authors' own Lean function (tested against real Go, not proved from fmt's source: count such statements apart). THE CARD IS WHAT COUNTS. Prove the row's statement (the work); the ties are given (YtgpgenigfncgeaaGreatDoorTie.lean); close each card by the builder's one call (the guide's Derived/Test/ToyasCard.lean, 'card_holds'). Laid BY PROGRAM, IN A SANDBOX (cutbox-door.mjs). By AI agents, Wed Nov 11 2026. No macro, syntax, notation, axiom, sorry.
-/
import Derived.Test.YtgpgenigfncgeaaGreatDoorRows
import GoSem.ClaimSeven
namespace Go.Proofs.YtgpgenigfncgeaaGreatDoor
namespace Rows

/-- THE TIED CARD OF 'laws.FnExactFileParts'. -/
def fnExactFilePartsCard : Claim7 := { stood := { row := fnExactFilePartsRow, standIns := [], harness := (true, "9f152ca445abc3e3a157d1eb4a37b0c20ccd2199fd9d2c4f625894c9fb54cf87"), looks := true }, kinds := [], alts := [], laidByText := true, laidKinds := [.data, .data, .data, .handle], laidTests := true, laidLooks := .later }
def FnExactFilePartsCardSaid : Prop := Claim7.holds Tryz.pinned (.plain (OpenSpec.ofChange fnExactFilePartsSpec)) fnExactFilePartsCard

/-- THE SECOND FORM's CARD OF 'laws.FnExactFileParts'. -/
def fnExactFilePartsUptoCard : Claim7 := { stood := { row := fnExactFilePartsUptoRow, standIns := [], harness := (true, "9f152ca445abc3e3a157d1eb4a37b0c20ccd2199fd9d2c4f625894c9fb54cf87"), looks := true }, kinds := [], alts := [], laidByText := true, laidKinds := [.data, .data, .data, .handle], laidTests := true, laidLooks := .later }
def FnExactFilePartsUptoCardSaid : Prop := Claim7.holds Tryz.pinned (.plain (OpenSpec.upto fnExactFilePartsSpec)) fnExactFilePartsUptoCard
end Rows
end Go.Proofs.YtgpgenigfncgeaaGreatDoor
