/-
  DERIVED. GIVEN WITH THE SEED: THE CARDS: each row of YtmgibobcjlaonaaGreatDoorRows.lean that lists a variable, with what it lists TIED to the program's text (the seventh form; the later family's looks); each row that meets fmt, with fmt's text TOLD by the authors' own Lean function (tested against real Go, not proved from fmt's source: count such statements apart). THE CARD IS WHAT COUNTS. Prove the row's statement (the work); the ties are given (YtmgibobcjlaonaaGreatDoorTie.lean); close each card by the builder's one call (the guide's Derived/Test/ToyasCard.lean, 'card_holds'). Laid BY PROGRAM, IN A SANDBOX (cutbox-door.mjs). By AI agents, Wed Nov 11 2026. No macro, syntax, notation, axiom, sorry.
-/
import Derived.Test.YtmgibobcjlaonaaGreatDoorRows
import GoSem.ClaimSeven
namespace Go.Proofs.YtmgibobcjlaonaaGreatDoor
namespace Rows

/-- THE TIED CARD OF 'laws.FnExactCoverageOf'. -/
def fnExactCoverageOfCard : Claim7 := { stood := { row := fnExactCoverageOfRow, standIns := [], harness := (true, "01b2a74f01bd703a0f57aea5c995c37f76a1c1899f8f96b33a9fa617435eeab5"), looks := true }, kinds := [], alts := [], laidByText := true, laidKinds := [.data, .data, .data, .handle], laidTests := true, laidLooks := .later }
def FnExactCoverageOfCardSaid : Prop := Claim7.holds Tryz.pinned (.plain (OpenSpec.ofChange fnExactCoverageOfSpec)) fnExactCoverageOfCard

/-- THE SECOND FORM's CARD OF 'laws.FnExactCoverageOf'. -/
def fnExactCoverageOfUptoCard : Claim7 := { stood := { row := fnExactCoverageOfUptoRow, standIns := [], harness := (true, "01b2a74f01bd703a0f57aea5c995c37f76a1c1899f8f96b33a9fa617435eeab5"), looks := true }, kinds := [], alts := [], laidByText := true, laidKinds := [.data, .data, .data, .handle], laidTests := true, laidLooks := .later }
def FnExactCoverageOfUptoCardSaid : Prop := Claim7.holds Tryz.pinned (.plain (OpenSpec.upto fnExactCoverageOfSpec)) fnExactCoverageOfUptoCard
end Rows
end Go.Proofs.YtmgibobcjlaonaaGreatDoor
