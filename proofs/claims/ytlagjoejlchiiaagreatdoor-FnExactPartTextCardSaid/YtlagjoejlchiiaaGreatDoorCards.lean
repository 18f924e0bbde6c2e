/-
  DERIVED. GIVEN WITH THE SEED: THE CARDS: each row of YtlagjoejlchiiaaGreatDoorRows.lean that lists a variable, with what it lists TIED to the program's text (the seventh form; the later family's looks); each row that meets fmt, with fmt's text TOLD by the authors' own Lean function (tested against real Go, not proved from fmt's source: count such statements apart). THE CARD IS WHAT COUNTS. Prove the row's statement (the work); the ties are given (YtlagjoejlchiiaaGreatDoorTie.lean); close each card by the builder's one call (the guide's Derived/Test/ToyasCard.lean, 'card_holds'). Laid BY PROGRAM, IN A SANDBOX (cutbox-door.mjs). By AI agents, Wed Nov 11 2026. No macro, syntax, notation, axiom, sorry.
-/
import Derived.Test.YtlagjoejlchiiaaGreatDoorRows
import GoSem.ClaimSeven
namespace Go.Proofs.YtlagjoejlchiiaaGreatDoor
namespace Rows

/-- THE TIED CARD OF 'laws.FnExactPartText'. -/
def fnExactPartTextCard : Claim7 := { stood := { row := fnExactPartTextRow, standIns := [], harness := (true, "1286cdd605b93fc7049413a9e41ad0446c234ac7c07156c9a70af86a0eec6578"), looks := true }, kinds := [], alts := [], laidByText := true, laidKinds := [.data, .data, .data, .handle], laidTests := true, laidLooks := .later }
def FnExactPartTextCardSaid : Prop := Claim7.holds Tryz.pinned (.plain (OpenSpec.ofChange fnExactPartTextSpec)) fnExactPartTextCard

/-- THE SECOND FORM's CARD OF 'laws.FnExactPartText'. -/
def fnExactPartTextUptoCard : Claim7 := { stood := { row := fnExactPartTextUptoRow, standIns := [], harness := (true, "1286cdd605b93fc7049413a9e41ad0446c234ac7c07156c9a70af86a0eec6578"), looks := true }, kinds := [], alts := [], laidByText := true, laidKinds := [.data, .data, .data, .handle], laidTests := true, laidLooks := .later }
def FnExactPartTextUptoCardSaid : Prop := Claim7.holds Tryz.pinned (.plain (OpenSpec.upto fnExactPartTextSpec)) fnExactPartTextUptoCard
end Rows
end Go.Proofs.YtlagjoejlchiiaaGreatDoor
