/-
  DERIVED. GIVEN WITH THE SEED: THE CARDS: each row of YtbihpjgldkojoaaGreatDoorRows.lean that lists a variable, with what it lists TIED to the program's text (the seventh form; the later family's looks); each row that meets fmt, with fmt's text TOLD by the authors' own Lean function (tested against real Go, not proved from fmt's source: count such statements apart). THE CARD IS WHAT COUNTS. Prove the row's statement (the work); the ties are given (YtbihpjgldkojoaaGreatDoorTie.lean); close each card by the builder's one call (the guide's Derived/Test/ToyasCard.lean, 'card_holds'). Laid BY PROGRAM, IN A SANDBOX (cutbox-door.mjs). By AI agents, Wed Nov 11 2026. No macro, syntax, notation, axiom, sorry.
-/
import Derived.Test.YtbihpjgldkojoaaGreatDoorRows
import GoSem.ClaimSeven
namespace Go.Proofs.YtbihpjgldkojoaaGreatDoor
namespace Rows

/-- THE TIED CARD OF 'laws.FnSumRepairs'. -/
def fnSumRepairsCard : Claim7 := { stood := { row := fnSumRepairsRow, standIns := [], harness := (true, "b3871804709f4b5993639682cc8d54f03123e558aeb6ea84e0cc107933c61c1a"), looks := true }, kinds := [], alts := [], laidByText := true, laidKinds := [.data, .data, .data, .handle], laidTests := true, laidLooks := .later }
def FnSumRepairsCardSaid : Prop := Claim7.holds Tryz.pinned (.plain (OpenSpec.ofChange fnSumRepairsSpec)) fnSumRepairsCard

/-- THE SECOND FORM's CARD OF 'laws.FnSumRepairs'. -/
def fnSumRepairsUptoCard : Claim7 := { stood := { row := fnSumRepairsUptoRow, standIns := [], harness := (true, "b3871804709f4b5993639682cc8d54f03123e558aeb6ea84e0cc107933c61c1a"), looks := true }, kinds := [], alts := [], laidByText := true, laidKinds := [.data, .data, .data, .handle], laidTests := true, laidLooks := .later }
def FnSumRepairsUptoCardSaid : Prop := Claim7.holds Tryz.pinned (.plain (OpenSpec.upto fnSumRepairsSpec)) fnSumRepairsUptoCard
end Rows
end Go.Proofs.YtbihpjgldkojoaaGreatDoor
