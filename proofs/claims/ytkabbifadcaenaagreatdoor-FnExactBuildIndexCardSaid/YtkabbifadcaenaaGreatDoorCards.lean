/-
  DERIVED. GIVEN WITH THE SEED: THE CARDS: each row of YtkabbifadcaenaaGreatDoorRows.lean that lists a variable, with what it lists TIED to the program's text (the seventh form; the later family's looks); each row that meets fmt, with fmt's text TOLD by the authors' own Lean function (tested against real Go, not proved from fmt's source: count such statements apart). THE CARD IS WHAT COUNTS. Prove the row's statement (the work); the ties are given (YtkabbifadcaenaaGreatDoorTie.lean); close each card by the builder's one call (the guide's Derived/Test/ToyasCard.lean, 'card_holds'). Laid BY PROGRAM, IN A SANDBOX (cutbox-door.mjs). By AI agents, Wed Nov 11 2026. No macro, syntax, notation, axiom, sorry.
-/
import Derived.Test.YtkabbifadcaenaaGreatDoorRows
import GoSem.ClaimSeven
namespace Go.Proofs.YtkabbifadcaenaaGreatDoor
namespace Rows

/-- THE TIED CARD OF 'laws.FnExactLocalEdit'. -/
def fnExactLocalEditCard : Claim7 := { stood := { row := fnExactLocalEditRow, standIns := [], harness := (true, "ca5bf340e8f27c4eafaa23c1a75af71a7f20ced28874eaf071ebe851f37e1ca2"), looks := true }, kinds := [], alts := [], laidByText := true, laidKinds := [.handle], laidTests := true, laidLooks := .later }
def FnExactLocalEditCardSaid : Prop := Claim7.holds Tryz.pinned (.plain (OpenSpec.ofChange fnExactLocalEditSpec)) fnExactLocalEditCard

/-- THE TIED CARD OF 'laws.FnExactBuildIndex'. -/
def fnExactBuildIndexCard : Claim7 := { stood := { row := fnExactBuildIndexRow, standIns := [], harness := (true, "ca5bf340e8f27c4eafaa23c1a75af71a7f20ced28874eaf071ebe851f37e1ca2"), looks := true }, kinds := [], alts := [], laidByText := true, laidKinds := [.data, .data, .data, .handle], laidTests := true, laidLooks := .later }
def FnExactBuildIndexCardSaid : Prop := Claim7.holds Tryz.pinned (.plain (OpenSpec.ofChange fnExactBuildIndexSpec)) fnExactBuildIndexCard

/-- THE SECOND FORM's CARD OF 'laws.FnExactLocalEdit'. -/
def fnExactLocalEditUptoCard : Claim7 := { stood := { row := fnExactLocalEditUptoRow, standIns := [], harness := (true, "ca5bf340e8f27c4eafaa23c1a75af71a7f20ced28874eaf071ebe851f37e1ca2"), looks := true }, kinds := [], alts := [], laidByText := true, laidKinds := [.handle], laidTests := true, laidLooks := .later }
def FnExactLocalEditUptoCardSaid : Prop := Claim7.holds Tryz.pinned (.plain (OpenSpec.upto fnExactLocalEditSpec)) fnExactLocalEditUptoCard

/-- THE SECOND FORM's CARD OF 'laws.FnExactBuildIndex'. -/
def fnExactBuildIndexUptoCard : Claim7 := { stood := { row := fnExactBuildIndexUptoRow, standIns := [], harness := (true, "ca5bf340e8f27c4eafaa23c1a75af71a7f20ced28874eaf071ebe851f37e1ca2"), looks := true }, kinds := [], alts := [], laidByText := true, laidKinds := [.data, .data, .data, .handle], laidTests := true, laidLooks := .later }
def FnExactBuildIndexUptoCardSaid : Prop := Claim7.holds Tryz.pinned (.plain (OpenSpec.upto fnExactBuildIndexSpec)) fnExactBuildIndexUptoCard
end Rows
end Go.Proofs.YtkabbifadcaenaaGreatDoor
