/-
  DERIVED. GIVEN WITH THE SEED: THE CARDS: each row of YtlmdniepgikmaaaGreatDoorRows.lean that lists a variable, with what it lists TIED to the program's text (the seventh form; the later family's looks); each row that meets fmt, with fmt's text TOLD by the authors' own Lean function (tested against real Go, not proved from fmt's source: count such statements apart). THE CARD IS WHAT COUNTS. Prove the row's statement (the work); the ties are given (YtlmdniepgikmaaaGreatDoorTie.lean); close each card by the builder's one call (the guide's Derived/Test/ToyasCard.lean, 'card_holds'). Laid BY PROGRAM, IN A SANDBOX (cutbox-door.mjs). By AI agents, Wed Nov 11 2026. No macro, syntax, notation, axiom, sorry.
-/
import Derived.Test.YtlmdniepgikmaaaGreatDoorRows
import GoSem.ClaimSeven
namespace Go.Proofs.YtlmdniepgikmaaaGreatDoor
namespace Rows

/-- THE TIED CARD OF 'laws.FnLazyErrors'. -/
def fnLazyErrorsCard : Claim7 := { stood := { row := fnLazyErrorsRow, standIns := [], harness := (true, "8571df8c326a1e36af0240e6cf547aad643911b0c92fe9aafc56ddbd846812ff"), looks := true }, kinds := [], alts := [], laidByText := true, laidKinds := [.data, .data, .data, .handle], laidTests := true, laidLooks := .later }
def FnLazyErrorsCardSaid : Prop := Claim7.holds Tryz.pinned (.plain (OpenSpec.ofChange fnLazyErrorsSpec)) fnLazyErrorsCard

/-- THE SECOND FORM's CARD OF 'laws.FnLazyErrors'. -/
def fnLazyErrorsUptoCard : Claim7 := { stood := { row := fnLazyErrorsUptoRow, standIns := [], harness := (true, "8571df8c326a1e36af0240e6cf547aad643911b0c92fe9aafc56ddbd846812ff"), looks := true }, kinds := [], alts := [], laidByText := true, laidKinds := [.data, .data, .data, .handle], laidTests := true, laidLooks := .later }
def FnLazyErrorsUptoCardSaid : Prop := Claim7.holds Tryz.pinned (.plain (OpenSpec.upto fnLazyErrorsSpec)) fnLazyErrorsUptoCard
end Rows
end Go.Proofs.YtlmdniepgikmaaaGreatDoor
