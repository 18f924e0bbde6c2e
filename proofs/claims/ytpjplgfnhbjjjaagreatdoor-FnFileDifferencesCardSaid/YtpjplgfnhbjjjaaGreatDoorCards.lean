/-
  DERIVED. GIVEN WITH THE SEED: THE CARDS: each row of YtpjplgfnhbjjjaaGreatDoorRows.lean that lists a variable, with what it lists TIED to the program's text (the seventh form; the later family's looks); each row that meets fmt, with fmt's text TOLD by the authors' own Lean function (tested against real Go, not proved from fmt's source: count such statements apart). THE CARD IS WHAT COUNTS. Prove the row's statement (the work); the ties are given (YtpjplgfnhbjjjaaGreatDoorTie.lean); close each card by the builder's one call (the guide's Derived/Test/ToyasCard.lean, 'card_holds'). Laid BY PROGRAM, IN A SANDBOX (cutbox-door.mjs). By AI agents, Wed Nov 11 2026. No macro, syntax, notation, axiom, sorry.
-/
import Derived.Test.YtpjplgfnhbjjjaaGreatDoorRows
import GoSem.ClaimSeven
namespace Go.Proofs.YtpjplgfnhbjjjaaGreatDoor
namespace Rows

/-- THE TIED CARD OF 'laws.FnFileDifferences'. -/
def fnFileDifferencesCard : Claim7 := { stood := { row := fnFileDifferencesRow, standIns := [], harness := (true, "c25f83e26346c058818ad957e940c13bca066d87d9fcbe5aab937967f07baed6"), looks := true }, kinds := [], alts := [], laidByText := true, laidKinds := [.data, .data, .data, .handle], laidTests := true, laidLooks := .later }
def FnFileDifferencesCardSaid : Prop := Claim7.holds Tryz.pinned (.plain (OpenSpec.ofChange fnFileDifferencesSpec)) fnFileDifferencesCard

/-- THE SECOND FORM's CARD OF 'laws.FnFileDifferences'. -/
def fnFileDifferencesUptoCard : Claim7 := { stood := { row := fnFileDifferencesUptoRow, standIns := [], harness := (true, "c25f83e26346c058818ad957e940c13bca066d87d9fcbe5aab937967f07baed6"), looks := true }, kinds := [], alts := [], laidByText := true, laidKinds := [.data, .data, .data, .handle], laidTests := true, laidLooks := .later }
def FnFileDifferencesUptoCardSaid : Prop := Claim7.holds Tryz.pinned (.plain (OpenSpec.upto fnFileDifferencesSpec)) fnFileDifferencesUptoCard
end Rows
end Go.Proofs.YtpjplgfnhbjjjaaGreatDoor
