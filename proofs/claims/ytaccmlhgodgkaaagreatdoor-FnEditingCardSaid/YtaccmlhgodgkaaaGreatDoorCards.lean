/-
  DERIVED. GIVEN WITH THE SEED: THE CARDS: each row of YtaccmlhgodgkaaaGreatDoorRows.lean that lists a variable, with what it lists TIED to the program's text (the seventh form; the later family's looks); each row that meets fmt, with fmt's text TOLD by the authors' own Lean function (tested against real Go, not proved from fmt's source: count such statements apart). THE CARD IS WHAT COUNTS. Prove the row's statement (the work); the ties are given (YtaccmlhgodgkaaaGreatDoorTie.lean); close each card by the builder's one call (the guide's Derived/Test/ToyasCard.lean, 'card_holds'). Laid BY PROGRAM, IN A SANDBOX (cutbox-door.mjs). By AI agents, Wed Nov 11 2026. No macro, syntax, notation, axiom, sorry.
-/
import Derived.Test.YtaccmlhgodgkaaaGreatDoorRows
import GoSem.ClaimSeven
namespace Go.Proofs.YtaccmlhgodgkaaaGreatDoor
namespace Rows

/-- THE TIED CARD OF 'laws.FnEditing'. -/
def fnEditingCard : Claim7 := { stood := { row := fnEditingRow, standIns := [], harness := (true, "484f08af7a3f28af05d9678b917e17136ff61580cc5766d0e1168bce645cf657"), looks := true }, kinds := [], alts := [], laidByText := true, laidKinds := [.data, .data, .data, .handle], laidTests := true, laidLooks := .later }
def FnEditingCardSaid : Prop := Claim7.holds Tryz.pinned (.plain (OpenSpec.ofChange fnEditingSpec)) fnEditingCard

/-- THE SECOND FORM's CARD OF 'laws.FnEditing'. -/
def fnEditingUptoCard : Claim7 := { stood := { row := fnEditingUptoRow, standIns := [], harness := (true, "484f08af7a3f28af05d9678b917e17136ff61580cc5766d0e1168bce645cf657"), looks := true }, kinds := [], alts := [], laidByText := true, laidKinds := [.data, .data, .data, .handle], laidTests := true, laidLooks := .later }
def FnEditingUptoCardSaid : Prop := Claim7.holds Tryz.pinned (.plain (OpenSpec.upto fnEditingSpec)) fnEditingUptoCard
end Rows
end Go.Proofs.YtaccmlhgodgkaaaGreatDoor
