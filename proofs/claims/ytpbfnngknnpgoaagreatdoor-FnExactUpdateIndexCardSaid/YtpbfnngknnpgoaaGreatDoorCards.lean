/-
  DERIVED. GIVEN WITH THE SEED: THE CARDS: each row of YtpbfnngknnpgoaaGreatDoorRows.lean that lists a variable, with what it lists TIED to the program's text (the seventh form; the later family's looks); each row that meets fmt, with fmt's text TOLD by the authors' own Lean function (tested against real Go, not proved from fmt's source: count such statements apart). THE CARD IS WHAT COUNTS. Prove the row's statement (the work); the ties are given (YtpbfnngknnpgoaaGreatDoorTie.lean); close each card by the builder's one call (the guide's Derived/Test/ToyasCard.lean, 'card_holds'). Laid BY PROGRAM, IN A SANDBOX (cutbox-door.mjs). By AI agents, Wed Nov 11 2026. No macro, syntax, notation, axiom, sorry.
-/
import Derived.Test.YtpbfnngknnpgoaaGreatDoorRows
import GoSem.ClaimSeven
namespace Go.Proofs.YtpbfnngknnpgoaaGreatDoor
namespace Rows

/-- THE TIED CARD OF 'laws.FnExactUpdateIndex'. -/
def fnExactUpdateIndexCard : Claim7 := { stood := { row := fnExactUpdateIndexRow, standIns := [], harness := (true, "7acef71de9dbed56dd506bf5ca5eca3c4f0e0e85501b408343d59f9ba2eeffdc"), looks := true }, kinds := [], alts := [], laidByText := true, laidKinds := [.data, .data, .data, .handle], laidTests := true, laidLooks := .later }
def FnExactUpdateIndexCardSaid : Prop := Claim7.holds Tryz.pinned (.plain (OpenSpec.ofChange fnExactUpdateIndexSpec)) fnExactUpdateIndexCard

/-- THE SECOND FORM's CARD OF 'laws.FnExactUpdateIndex'. -/
def fnExactUpdateIndexUptoCard : Claim7 := { stood := { row := fnExactUpdateIndexUptoRow, standIns := [], harness := (true, "7acef71de9dbed56dd506bf5ca5eca3c4f0e0e85501b408343d59f9ba2eeffdc"), looks := true }, kinds := [], alts := [], laidByText := true, laidKinds := [.data, .data, .data, .handle], laidTests := true, laidLooks := .later }
def FnExactUpdateIndexUptoCardSaid : Prop := Claim7.holds Tryz.pinned (.plain (OpenSpec.upto fnExactUpdateIndexSpec)) fnExactUpdateIndexUptoCard
end Rows
end Go.Proofs.YtpbfnngknnpgoaaGreatDoor
