/-
  DERIVED. GIVEN WITH THE SEED: THE CARDS: each row of YteocmnebeeammaaGreatDoorRows.lean that lists a variable, with what it lists TIED to the program's text (the seventh form; the later family's looks); each row that meets fmt, with fmt's text TOLD by the authors' own Lean function (tested against real Go, not proved from fmt's source: count such statements apart). THE CARD IS WHAT COUNTS. Prove the row's statement (the work); the ties are given (YteocmnebeeammaaGreatDoorTie.lean); close each card by the builder's one call (the guide's Derived/Test/ToyasCard.lean, 'card_holds'). Laid BY PROGRAM, IN A SANDBOX (cutbox-door.mjs). By AI agents, Wed Nov 11 2026. No macro, syntax, notation, axiom, sorry.
-/
import Derived.Test.YteocmnebeeammaaGreatDoorRows
import GoSem.ClaimSeven
namespace Go.Proofs.YteocmnebeeammaaGreatDoor
namespace Rows

/-- THE TIED CARD OF 'laws.FnExactWherePart'. -/
def fnExactWherePartCard : Claim7 := { stood := { row := fnExactWherePartRow, standIns := [], harness := (true, "c50aa12b39e56ff8fa9c0a3f4d77998dc463410cccbae0fdb85136bad3cead82"), looks := true }, kinds := [], alts := [], laidByText := true, laidKinds := [.data, .data, .data, .handle], laidTests := true, laidLooks := .later }
def FnExactWherePartCardSaid : Prop := Claim7.holds Tryz.pinned (.plain (OpenSpec.ofChange fnExactWherePartSpec)) fnExactWherePartCard

/-- THE SECOND FORM's CARD OF 'laws.FnExactWherePart'. -/
def fnExactWherePartUptoCard : Claim7 := { stood := { row := fnExactWherePartUptoRow, standIns := [], harness := (true, "c50aa12b39e56ff8fa9c0a3f4d77998dc463410cccbae0fdb85136bad3cead82"), looks := true }, kinds := [], alts := [], laidByText := true, laidKinds := [.data, .data, .data, .handle], laidTests := true, laidLooks := .later }
def FnExactWherePartUptoCardSaid : Prop := Claim7.holds Tryz.pinned (.plain (OpenSpec.upto fnExactWherePartSpec)) fnExactWherePartUptoCard
end Rows
end Go.Proofs.YteocmnebeeammaaGreatDoor
