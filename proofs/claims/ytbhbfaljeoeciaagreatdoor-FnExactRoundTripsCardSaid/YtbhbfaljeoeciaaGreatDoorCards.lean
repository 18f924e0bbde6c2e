/-
  DERIVED. GIVEN WITH THE SEED: THE CARDS: each row of YtbhbfaljeoeciaaGreatDoorRows.lean that lists a variable, with what it lists TIED to the program's text (the seventh form; the later family's looks); each row that meets fmt, with fmt's text TOLD by the authors' own Lean function (tested against real Go, not proved from fmt's source: count such statements apart). THE CARD IS WHAT COUNTS. Prove the row's statement (the work); the ties are given (YtbhbfaljeoeciaaGreatDoorTie.lean); close each card by the builder's one call (the guide's Derived/Test/ToyasCard.lean, 'card_holds'). Laid BY PROGRAM, IN A SANDBOX (cutbox-door.mjs). By AI agents, Wed Nov 11 2026. No macro, syntax, notation, axiom, sorry.
-/
import Derived.Test.YtbhbfaljeoeciaaGreatDoorRows
import GoSem.ClaimSeven
namespace Go.Proofs.YtbhbfaljeoeciaaGreatDoor
namespace Rows

/-- THE TIED CARD OF 'laws.FnExactRoundTrips'. -/
def fnExactRoundTripsCard : Claim7 := { stood := { row := fnExactRoundTripsRow, standIns := [], harness := (true, "69d0de3016e10a94db2c2f41dddbe8d17bd4bcf15dfb9f710153926663e71a77"), looks := true }, kinds := [], alts := [], laidByText := true, laidKinds := [.data, .data, .data, .handle], laidTests := true, laidLooks := .later }
def FnExactRoundTripsCardSaid : Prop := Claim7.holds Tryz.pinned (.plain (OpenSpec.ofChange fnExactRoundTripsSpec)) fnExactRoundTripsCard

/-- THE SECOND FORM's CARD OF 'laws.FnExactRoundTrips'. -/
def fnExactRoundTripsUptoCard : Claim7 := { stood := { row := fnExactRoundTripsUptoRow, standIns := [], harness := (true, "69d0de3016e10a94db2c2f41dddbe8d17bd4bcf15dfb9f710153926663e71a77"), looks := true }, kinds := [], alts := [], laidByText := true, laidKinds := [.data, .data, .data, .handle], laidTests := true, laidLooks := .later }
def FnExactRoundTripsUptoCardSaid : Prop := Claim7.holds Tryz.pinned (.plain (OpenSpec.upto fnExactRoundTripsSpec)) fnExactRoundTripsUptoCard
end Rows
end Go.Proofs.YtbhbfaljeoeciaaGreatDoor
