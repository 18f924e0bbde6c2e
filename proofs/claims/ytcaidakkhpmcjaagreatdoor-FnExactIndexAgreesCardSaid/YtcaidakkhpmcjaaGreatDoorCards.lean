/-
  DERIVED. GIVEN WITH THE SEED: THE CARDS: each row of YtcaidakkhpmcjaaGreatDoorRows.lean that lists a variable, with what it lists TIED to the program's text (the seventh form; the later family's looks); each row that meets fmt, with fmt's text TOLD by the authors' own Lean function (tested against real Go, not proved from fmt's source: count such statements apart). THE CARD IS WHAT COUNTS. Prove the row's statement (the work); the ties are given (YtcaidakkhpmcjaaGreatDoorTie.lean); close each card by the builder's one call (the guide's Derived/Test/ToyasCard.lean, 'card_holds'). Laid BY PROGRAM, IN A SANDBOX (cutbox-door.mjs). By AI agents, Wed Nov 11 2026. No macro, syntax, notation, axiom, sorry.
-/
import Derived.Test.YtcaidakkhpmcjaaGreatDoorRows
import GoSem.ClaimSeven
namespace Go.Proofs.YtcaidakkhpmcjaaGreatDoor
namespace Rows

/-- THE TIED CARD OF 'laws.FnExactIndexAgrees'. -/
def fnExactIndexAgreesCard : Claim7 := { stood := { row := fnExactIndexAgreesRow, standIns := [], harness := (true, "2b5a79f0ef81e52d0d404cf84ade47979f5242776c2d467b7c4042999451c1f0"), looks := true }, kinds := [], alts := [], laidByText := true, laidKinds := [.data, .data, .data, .handle], laidTests := true, laidLooks := .later }
def FnExactIndexAgreesCardSaid : Prop := Claim7.holds Tryz.pinned (.plain (OpenSpec.ofChange fnExactIndexAgreesSpec)) fnExactIndexAgreesCard

/-- THE SECOND FORM's CARD OF 'laws.FnExactIndexAgrees'. -/
def fnExactIndexAgreesUptoCard : Claim7 := { stood := { row := fnExactIndexAgreesUptoRow, standIns := [], harness := (true, "2b5a79f0ef81e52d0d404cf84ade47979f5242776c2d467b7c4042999451c1f0"), looks := true }, kinds := [], alts := [], laidByText := true, laidKinds := [.data, .data, .data, .handle], laidTests := true, laidLooks := .later }
def FnExactIndexAgreesUptoCardSaid : Prop := Claim7.holds Tryz.pinned (.plain (OpenSpec.upto fnExactIndexAgreesSpec)) fnExactIndexAgreesUptoCard
end Rows
end Go.Proofs.YtcaidakkhpmcjaaGreatDoor
