/-
  DERIVED. GIVEN WITH THE SEED: THE CARDS: each row of YthlifogbkgdggaaGreatDoorRows.lean that lists a variable, with what it lists TIED to the program's text (the seventh form; the later family's looks); each row that meets fmt, with fmt's text TOLD by the authors' own Lean function (tested against real Go, not proved from fmt's source: count such statements apart). THE CARD IS WHAT COUNTS. Prove the row's statement (the work); the ties are given (YthlifogbkgdggaaGreatDoorTie.lean); close each card by the builder's one call (the guide's Derived/Test/ToyasCard.lean, 'card_holds'). Laid BY PROGRAM, IN A SANDBOX (cutbox-door.mjs). By AI agents, Wed Nov 11 2026. No macro, syntax, notation, axiom, sorry.
-/
import Derived.Test.YthlifogbkgdggaaGreatDoorRows
import GoSem.ClaimSeven
namespace Go.Proofs.YthlifogbkgdggaaGreatDoor
namespace Rows

/-- THE TIED CARD OF 'laws.FnDiagnosis'. -/
def fnDiagnosisCard : Claim7 := { stood := { row := fnDiagnosisRow, standIns := [], harness := (true, "f8ee9c62ed2826e80310fb85dbe5d51c24d3f06cf875d26e27f4337c31a18203"), looks := true }, kinds := [], alts := [], laidByText := true, laidKinds := [.data, .data, .data, .sentinel], laidTests := true, laidLooks := .later }
def FnDiagnosisCardSaid : Prop := Claim7.holds Tryz.pinned (.plain (OpenSpec.ofChange fnDiagnosisSpec)) fnDiagnosisCard

/-- THE SECOND FORM's CARD OF 'laws.FnDiagnosis'. -/
def fnDiagnosisUptoCard : Claim7 := { stood := { row := fnDiagnosisUptoRow, standIns := [], harness := (true, "f8ee9c62ed2826e80310fb85dbe5d51c24d3f06cf875d26e27f4337c31a18203"), looks := true }, kinds := [], alts := [], laidByText := true, laidKinds := [.data, .data, .data, .sentinel], laidTests := true, laidLooks := .later }
def FnDiagnosisUptoCardSaid : Prop := Claim7.holds Tryz.pinned (.plain (OpenSpec.upto fnDiagnosisSpec)) fnDiagnosisUptoCard
end Rows
end Go.Proofs.YthlifogbkgdggaaGreatDoor
