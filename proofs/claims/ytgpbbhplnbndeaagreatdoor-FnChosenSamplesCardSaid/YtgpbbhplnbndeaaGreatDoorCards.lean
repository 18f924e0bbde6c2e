/-
  DERIVED. GIVEN WITH THE SEED: THE CARDS: each row of YtgpbbhplnbndeaaGreatDoorRows.lean that lists a variable, with what it lists TIED to the program's text (the seventh form; the later family's looks); each row that meets fmt, with fmt's text TOLD by the authors' own Lean function (tested against real Go, not proved from fmt's source: count such statements apart). THE CARD IS WHAT COUNTS. Prove the row's statement (the work); the ties are given (YtgpbbhplnbndeaaGreatDoorTie.lean); close each card by the builder's one call (the guide's Derived/Test/ToyasCard.lean, 'card_holds'). Laid BY PROGRAM, IN A SANDBOX (cutbox-door.mjs). By AI agents, Wed Nov 11 2026. No macro, syntax, notation, axiom, sorry.
-/
import Derived.Test.YtgpbbhplnbndeaaGreatDoorRows
import GoSem.ClaimSeven
namespace Go.Proofs.YtgpbbhplnbndeaaGreatDoor
namespace Rows

/-- THE TIED CARD OF 'laws.FnChosenSamples'. -/
def fnChosenSamplesCard : Claim7 := { stood := { row := fnChosenSamplesRow, standIns := [], harness := (true, "17212bef0b66481ac3c8ee0d9bda99428baaeeef870ec9d10cf4b9695da3af55"), looks := true }, kinds := [], alts := [], laidByText := true, laidKinds := [.data, .data, .data, .handle], laidTests := true, laidLooks := .later }
def FnChosenSamplesCardSaid : Prop := Claim7.holds Tryz.pinned (.plain (OpenSpec.ofChange fnChosenSamplesSpec)) fnChosenSamplesCard

/-- THE SECOND FORM's CARD OF 'laws.FnChosenSamples'. -/
def fnChosenSamplesUptoCard : Claim7 := { stood := { row := fnChosenSamplesUptoRow, standIns := [], harness := (true, "17212bef0b66481ac3c8ee0d9bda99428baaeeef870ec9d10cf4b9695da3af55"), looks := true }, kinds := [], alts := [], laidByText := true, laidKinds := [.data, .data, .data, .handle], laidTests := true, laidLooks := .later }
def FnChosenSamplesUptoCardSaid : Prop := Claim7.holds Tryz.pinned (.plain (OpenSpec.upto fnChosenSamplesSpec)) fnChosenSamplesUptoCard
end Rows
end Go.Proofs.YtgpbbhplnbndeaaGreatDoor
