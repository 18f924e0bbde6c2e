/-
  DERIVED. GIVEN WITH THE SEED: THE CARDS: each row of YtnncfaaebnkcbaaGreatDoorRows.lean that lists a variable, with what it lists TIED to the program's text (the seventh form; the later family's looks); each row that meets fmt, with fmt's text TOLD by the authors' own Lean function (tested against real Go, not proved from fmt's source: count such statements apart). THE CARD IS WHAT COUNTS. Prove the row's statement (the work); the ties are given (YtnncfaaebnkcbaaGreatDoorTie.lean); close each card by the builder's one call (the guide's Derived/Test/ToyasCard.lean, 'card_holds'). Laid BY PROGRAM, IN A SANDBOX (cutbox-door.mjs). By AI agents, Wed Nov 11 2026. No macro, syntax, notation, axiom, sorry.
-/
import Derived.Test.YtnncfaaebnkcbaaGreatDoorRows
import GoSem.ClaimSeven
namespace Go.Proofs.YtnncfaaebnkcbaaGreatDoor
namespace Rows

/-- THE TIED CARD OF 'laws.FnExactEditFile'. -/
def fnExactEditFileCard : Claim7 := { stood := { row := fnExactEditFileRow, standIns := [], harness := (true, "0f5c875c51b9fd4d32f0faa41d9178dc22f5d599c6baaa5843b764eff274957c"), looks := true }, kinds := [], alts := [], laidByText := true, laidKinds := [.data, .data, .data, .handle], laidTests := true, laidLooks := .later }
def FnExactEditFileCardSaid : Prop := Claim7.holds Tryz.pinned (.plain (OpenSpec.ofChange fnExactEditFileSpec)) fnExactEditFileCard

/-- THE SECOND FORM's CARD OF 'laws.FnExactEditFile'. -/
def fnExactEditFileUptoCard : Claim7 := { stood := { row := fnExactEditFileUptoRow, standIns := [], harness := (true, "0f5c875c51b9fd4d32f0faa41d9178dc22f5d599c6baaa5843b764eff274957c"), looks := true }, kinds := [], alts := [], laidByText := true, laidKinds := [.data, .data, .data, .handle], laidTests := true, laidLooks := .later }
def FnExactEditFileUptoCardSaid : Prop := Claim7.holds Tryz.pinned (.plain (OpenSpec.upto fnExactEditFileSpec)) fnExactEditFileUptoCard
end Rows
end Go.Proofs.YtnncfaaebnkcbaaGreatDoor
