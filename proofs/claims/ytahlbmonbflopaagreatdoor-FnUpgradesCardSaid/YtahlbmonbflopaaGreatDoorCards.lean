/-
  DERIVED. GIVEN WITH THE SEED: THE CARDS: each row of YtahlbmonbflopaaGreatDoorRows.lean that lists a variable, with what it lists TIED to the program's text (the seventh form; the later family's looks); each row that meets fmt, with fmt's text TOLD by the authors' own Lean function (tested against real Go, not proved from fmt's source: count such statements apart). THE CARD IS WHAT COUNTS. Prove the row's statement (the work); the ties are given (YtahlbmonbflopaaGreatDoorTie.lean); close each card by the builder's one call (the guide's Derived/Test/ToyasCard.lean, 'card_holds'). Laid BY PROGRAM, IN A SANDBOX (cutbox-door.mjs). By AI agents, Wed Nov 11 2026. No macro, syntax, notation, axiom, sorry.
-/
import Derived.Test.YtahlbmonbflopaaGreatDoorRows
import GoSem.ClaimSeven
namespace Go.Proofs.YtahlbmonbflopaaGreatDoor
namespace Rows

/-- THE TIED CARD OF 'laws.FnUpgrades'. -/
def fnUpgradesCard : Claim7 := { stood := { row := fnUpgradesRow, standIns := [], harness := (true, "f758b1237beddf147013379c3b038bd263da512a875ced9878f39cbf68e69cf8"), looks := true }, kinds := [], alts := [], laidByText := true, laidKinds := [.handle], laidTests := true, laidLooks := .later }
def FnUpgradesCardSaid : Prop := Claim7.holds Tryz.pinned (.plain (OpenSpec.ofChange fnUpgradesSpec)) fnUpgradesCard

/-- THE SECOND FORM's CARD OF 'laws.FnUpgrades'. -/
def fnUpgradesUptoCard : Claim7 := { stood := { row := fnUpgradesUptoRow, standIns := [], harness := (true, "f758b1237beddf147013379c3b038bd263da512a875ced9878f39cbf68e69cf8"), looks := true }, kinds := [], alts := [], laidByText := true, laidKinds := [.handle], laidTests := true, laidLooks := .later }
def FnUpgradesUptoCardSaid : Prop := Claim7.holds Tryz.pinned (.plain (OpenSpec.upto fnUpgradesSpec)) fnUpgradesUptoCard
end Rows
end Go.Proofs.YtahlbmonbflopaaGreatDoor
