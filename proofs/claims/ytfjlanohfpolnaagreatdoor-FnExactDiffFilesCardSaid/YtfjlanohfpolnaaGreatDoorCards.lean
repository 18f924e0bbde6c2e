/-
  DERIVED. GIVEN WITH THE SEED: THE CARDS: each row of YtfjlanohfpolnaaGreatDoorRows.lean that lists a variable, with what it lists TIED to the program's text (the seventh form; the later family's looks); each row that meets fmt, with fmt's text TOLD by the authors' own Lean function (tested against real Go, not proved from fmt's source: count such statements apart). THE CARD IS WHAT COUNTS. Prove the row's statement (the work); the ties are given (YtfjlanohfpolnaaGreatDoorTie.lean); close each card by the builder's one call (the guide's Derived/Test/ToyasCard.lean, 'card_holds'). Laid BY PROGRAM, IN A SANDBOX (cutbox-door.mjs). By AI agents, Wed Nov 11 2026. No macro, syntax, notation, axiom, sorry.
-/
import Derived.Test.YtfjlanohfpolnaaGreatDoorRows
import GoSem.ClaimSeven
namespace Go.Proofs.YtfjlanohfpolnaaGreatDoor
namespace Rows

/-- THE TIED CARD OF 'laws.FnExactDiffFiles'. -/
def fnExactDiffFilesCard : Claim7 := { stood := { row := fnExactDiffFilesRow, standIns := [], harness := (true, "918bb6c38606297d3020997c49003abc84b00b6b3b8e86658abdfeeef8aa6341"), looks := true }, kinds := [], alts := [], laidByText := true, laidKinds := [.data, .data, .data, .handle], laidTests := true, laidLooks := .later }
def FnExactDiffFilesCardSaid : Prop := Claim7.holds Tryz.pinned (.plain (OpenSpec.ofChange fnExactDiffFilesSpec)) fnExactDiffFilesCard

/-- THE SECOND FORM's CARD OF 'laws.FnExactDiffFiles'. -/
def fnExactDiffFilesUptoCard : Claim7 := { stood := { row := fnExactDiffFilesUptoRow, standIns := [], harness := (true, "918bb6c38606297d3020997c49003abc84b00b6b3b8e86658abdfeeef8aa6341"), looks := true }, kinds := [], alts := [], laidByText := true, laidKinds := [.data, .data, .data, .handle], laidTests := true, laidLooks := .later }
def FnExactDiffFilesUptoCardSaid : Prop := Claim7.holds Tryz.pinned (.plain (OpenSpec.upto fnExactDiffFilesSpec)) fnExactDiffFilesUptoCard
end Rows
end Go.Proofs.YtfjlanohfpolnaaGreatDoor
