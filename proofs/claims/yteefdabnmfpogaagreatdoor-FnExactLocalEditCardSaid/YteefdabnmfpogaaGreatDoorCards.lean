/-
  DERIVED. GIVEN WITH THE SEED: THE CARDS: each row of YteefdabnmfpogaaGreatDoorRows.lean that lists a variable, with what it lists TIED to the program's text (the seventh form; the later family's looks); each row that meets fmt, with fmt's text TOLD by the authors' own Lean function (tested against real Go, not proved from fmt's source: count such statements apart). THE CARD IS WHAT COUNTS. Prove the row's statement (the work); the ties are given (YteefdabnmfpogaaGreatDoorTie.lean); close each card by the builder's one call (the guide's Derived/Test/ToyasCard.lean, 'card_holds'). Laid BY PROGRAM, IN A SANDBOX (cutbox-door.mjs). By AI agents, Wed Nov 11 2026. No macro, syntax, notation, axiom, sorry.
-/
import Derived.Test.YteefdabnmfpogaaGreatDoorRows
import GoSem.ClaimSeven
namespace Go.Proofs.YteefdabnmfpogaaGreatDoor
namespace Rows

/-- THE TIED CARD OF 'laws.FnExactLocalEdit'. -/
def fnExactLocalEditCard : Claim7 := { stood := { row := fnExactLocalEditRow, standIns := [], harness := (true, "a728f83afe70751e3a613a7ed507cf2190fa69dcbdec3a9dac64b09f357499b1"), looks := true }, kinds := [], alts := [], laidByText := true, laidKinds := [.handle], laidTests := true, laidLooks := .later }
def FnExactLocalEditCardSaid : Prop := Claim7.holds Tryz.pinned (.plain (OpenSpec.ofChange fnExactLocalEditSpec)) fnExactLocalEditCard

/-- THE TIED CARD OF 'laws.FnExactReadPart'. -/
def fnExactReadPartCard : Claim7 := { stood := { row := fnExactReadPartRow, standIns := [], harness := (true, "a728f83afe70751e3a613a7ed507cf2190fa69dcbdec3a9dac64b09f357499b1"), looks := true }, kinds := [], alts := [], laidByText := true, laidKinds := [.handle], laidTests := true, laidLooks := .later }
def FnExactReadPartCardSaid : Prop := Claim7.holds Tryz.pinned (.plain (OpenSpec.ofChange fnExactReadPartSpec)) fnExactReadPartCard

/-- THE TIED CARD OF 'laws.FnExactCoveredTags'. -/
def fnExactCoveredTagsCard : Claim7 := { stood := { row := fnExactCoveredTagsRow, standIns := [], harness := (true, "a728f83afe70751e3a613a7ed507cf2190fa69dcbdec3a9dac64b09f357499b1"), looks := true }, kinds := [], alts := [], laidByText := true, laidKinds := [.data, .data, .data, .handle], laidTests := true, laidLooks := .later }
def FnExactCoveredTagsCardSaid : Prop := Claim7.holds Tryz.pinned (.plain (OpenSpec.ofChange fnExactCoveredTagsSpec)) fnExactCoveredTagsCard

/-- THE SECOND FORM's CARD OF 'laws.FnExactLocalEdit'. -/
def fnExactLocalEditUptoCard : Claim7 := { stood := { row := fnExactLocalEditUptoRow, standIns := [], harness := (true, "a728f83afe70751e3a613a7ed507cf2190fa69dcbdec3a9dac64b09f357499b1"), looks := true }, kinds := [], alts := [], laidByText := true, laidKinds := [.handle], laidTests := true, laidLooks := .later }
def FnExactLocalEditUptoCardSaid : Prop := Claim7.holds Tryz.pinned (.plain (OpenSpec.upto fnExactLocalEditSpec)) fnExactLocalEditUptoCard

/-- THE SECOND FORM's CARD OF 'laws.FnExactReadPart'. -/
def fnExactReadPartUptoCard : Claim7 := { stood := { row := fnExactReadPartUptoRow, standIns := [], harness := (true, "a728f83afe70751e3a613a7ed507cf2190fa69dcbdec3a9dac64b09f357499b1"), looks := true }, kinds := [], alts := [], laidByText := true, laidKinds := [.handle], laidTests := true, laidLooks := .later }
def FnExactReadPartUptoCardSaid : Prop := Claim7.holds Tryz.pinned (.plain (OpenSpec.upto fnExactReadPartSpec)) fnExactReadPartUptoCard

/-- THE SECOND FORM's CARD OF 'laws.FnExactCoveredTags'. -/
def fnExactCoveredTagsUptoCard : Claim7 := { stood := { row := fnExactCoveredTagsUptoRow, standIns := [], harness := (true, "a728f83afe70751e3a613a7ed507cf2190fa69dcbdec3a9dac64b09f357499b1"), looks := true }, kinds := [], alts := [], laidByText := true, laidKinds := [.data, .data, .data, .handle], laidTests := true, laidLooks := .later }
def FnExactCoveredTagsUptoCardSaid : Prop := Claim7.holds Tryz.pinned (.plain (OpenSpec.upto fnExactCoveredTagsSpec)) fnExactCoveredTagsUptoCard
end Rows
end Go.Proofs.YteefdabnmfpogaaGreatDoor
