/-
  DERIVED. GIVEN WITH THE SEED: THE CARDS: each row of YtlbigkipbbhhmaaGreatDoorRows.lean that lists a variable, with what it lists TIED to the program's text (the seventh form; the later family's looks); each row that meets fmt, with fmt's text TOLD by the authors' own Lean function (tested against real Go, not proved from fmt's source: count such statements apart). THE CARD IS WHAT COUNTS. Prove the row's statement (the work); the ties are given (YtlbigkipbbhhmaaGreatDoorTie.lean); close each card by the builder's one call (the guide's Derived/Test/ToyasCard.lean, 'card_holds'). Laid BY PROGRAM, IN A SANDBOX (cutbox-door.mjs). By AI agents, Wed Nov 11 2026. No macro, syntax, notation, axiom, sorry.
-/
import Derived.Test.YtlbigkipbbhhmaaGreatDoorRows
import GoSem.ClaimSeven
namespace Go.Proofs.YtlbigkipbbhhmaaGreatDoor
namespace Rows

/-- THE TIED CARD OF 'laws.FnExactSumOfParts'. -/
def fnExactSumOfPartsCard : Claim7 := { stood := { row := fnExactSumOfPartsRow, standIns := [], harness := (true, "640e06e8214f38f7758082e2e1b816fc54c821b9aa12d5ca9d354e40918c6105"), looks := true }, kinds := [], alts := [], laidByText := true, laidKinds := [.data, .data, .data, .handle], laidTests := true, laidLooks := .later }
def FnExactSumOfPartsCardSaid : Prop := Claim7.holds Tryz.pinned (.plain (OpenSpec.ofChange fnExactSumOfPartsSpec)) fnExactSumOfPartsCard

/-- THE TIED CARD OF 'laws.FnExactSelectParts'. -/
def fnExactSelectPartsCard : Claim7 := { stood := { row := fnExactSelectPartsRow, standIns := [], harness := (true, "640e06e8214f38f7758082e2e1b816fc54c821b9aa12d5ca9d354e40918c6105"), looks := true }, kinds := [], alts := [], laidByText := true, laidKinds := [.data, .data, .data, .handle], laidTests := true, laidLooks := .later }
def FnExactSelectPartsCardSaid : Prop := Claim7.holds Tryz.pinned (.plain (OpenSpec.ofChange fnExactSelectPartsSpec)) fnExactSelectPartsCard

/-- THE TIED CARD OF 'laws.FnExactRepairSum'. -/
def fnExactRepairSumCard : Claim7 := { stood := { row := fnExactRepairSumRow, standIns := [], harness := (true, "640e06e8214f38f7758082e2e1b816fc54c821b9aa12d5ca9d354e40918c6105"), looks := true }, kinds := [], alts := [], laidByText := true, laidKinds := [.data, .data, .data, .handle], laidTests := true, laidLooks := .later }
def FnExactRepairSumCardSaid : Prop := Claim7.holds Tryz.pinned (.plain (OpenSpec.ofChange fnExactRepairSumSpec)) fnExactRepairSumCard

/-- THE TIED CARD OF 'laws.FnIndex'. -/
def fnIndexCard : Claim7 := { stood := { row := fnIndexRow, standIns := [], harness := (true, "640e06e8214f38f7758082e2e1b816fc54c821b9aa12d5ca9d354e40918c6105"), looks := true }, kinds := [], alts := [], laidByText := true, laidKinds := [.data, .data, .data, .handle], laidTests := true, laidLooks := .later }
def FnIndexCardSaid : Prop := Claim7.holds Tryz.pinned (.plain (OpenSpec.ofChange fnIndexSpec)) fnIndexCard

/-- THE TIED CARD OF 'laws.FnReindexing'. -/
def fnReindexingCard : Claim7 := { stood := { row := fnReindexingRow, standIns := [], harness := (true, "640e06e8214f38f7758082e2e1b816fc54c821b9aa12d5ca9d354e40918c6105"), looks := true }, kinds := [], alts := [], laidByText := true, laidKinds := [.data, .data, .data, .handle], laidTests := true, laidLooks := .later }
def FnReindexingCardSaid : Prop := Claim7.holds Tryz.pinned (.plain (OpenSpec.ofChange fnReindexingSpec)) fnReindexingCard

/-- THE TIED CARD OF 'laws.FnLocalEdits'. -/
def fnLocalEditsCard : Claim7 := { stood := { row := fnLocalEditsRow, standIns := [], harness := (true, "640e06e8214f38f7758082e2e1b816fc54c821b9aa12d5ca9d354e40918c6105"), looks := true }, kinds := [], alts := [], laidByText := true, laidKinds := [.handle], laidTests := true, laidLooks := .later }
def FnLocalEditsCardSaid : Prop := Claim7.holds Tryz.pinned (.plain (OpenSpec.ofChange fnLocalEditsSpec)) fnLocalEditsCard

/-- THE SECOND FORM's CARD OF 'laws.FnExactSumOfParts'. -/
def fnExactSumOfPartsUptoCard : Claim7 := { stood := { row := fnExactSumOfPartsUptoRow, standIns := [], harness := (true, "640e06e8214f38f7758082e2e1b816fc54c821b9aa12d5ca9d354e40918c6105"), looks := true }, kinds := [], alts := [], laidByText := true, laidKinds := [.data, .data, .data, .handle], laidTests := true, laidLooks := .later }
def FnExactSumOfPartsUptoCardSaid : Prop := Claim7.holds Tryz.pinned (.plain (OpenSpec.upto fnExactSumOfPartsSpec)) fnExactSumOfPartsUptoCard

/-- THE SECOND FORM's CARD OF 'laws.FnExactSelectParts'. -/
def fnExactSelectPartsUptoCard : Claim7 := { stood := { row := fnExactSelectPartsUptoRow, standIns := [], harness := (true, "640e06e8214f38f7758082e2e1b816fc54c821b9aa12d5ca9d354e40918c6105"), looks := true }, kinds := [], alts := [], laidByText := true, laidKinds := [.data, .data, .data, .handle], laidTests := true, laidLooks := .later }
def FnExactSelectPartsUptoCardSaid : Prop := Claim7.holds Tryz.pinned (.plain (OpenSpec.upto fnExactSelectPartsSpec)) fnExactSelectPartsUptoCard

/-- THE SECOND FORM's CARD OF 'laws.FnExactRepairSum'. -/
def fnExactRepairSumUptoCard : Claim7 := { stood := { row := fnExactRepairSumUptoRow, standIns := [], harness := (true, "640e06e8214f38f7758082e2e1b816fc54c821b9aa12d5ca9d354e40918c6105"), looks := true }, kinds := [], alts := [], laidByText := true, laidKinds := [.data, .data, .data, .handle], laidTests := true, laidLooks := .later }
def FnExactRepairSumUptoCardSaid : Prop := Claim7.holds Tryz.pinned (.plain (OpenSpec.upto fnExactRepairSumSpec)) fnExactRepairSumUptoCard

/-- THE SECOND FORM's CARD OF 'laws.FnIndex'. -/
def fnIndexUptoCard : Claim7 := { stood := { row := fnIndexUptoRow, standIns := [], harness := (true, "640e06e8214f38f7758082e2e1b816fc54c821b9aa12d5ca9d354e40918c6105"), looks := true }, kinds := [], alts := [], laidByText := true, laidKinds := [.data, .data, .data, .handle], laidTests := true, laidLooks := .later }
def FnIndexUptoCardSaid : Prop := Claim7.holds Tryz.pinned (.plain (OpenSpec.upto fnIndexSpec)) fnIndexUptoCard

/-- THE SECOND FORM's CARD OF 'laws.FnReindexing'. -/
def fnReindexingUptoCard : Claim7 := { stood := { row := fnReindexingUptoRow, standIns := [], harness := (true, "640e06e8214f38f7758082e2e1b816fc54c821b9aa12d5ca9d354e40918c6105"), looks := true }, kinds := [], alts := [], laidByText := true, laidKinds := [.data, .data, .data, .handle], laidTests := true, laidLooks := .later }
def FnReindexingUptoCardSaid : Prop := Claim7.holds Tryz.pinned (.plain (OpenSpec.upto fnReindexingSpec)) fnReindexingUptoCard

/-- THE SECOND FORM's CARD OF 'laws.FnLocalEdits'. -/
def fnLocalEditsUptoCard : Claim7 := { stood := { row := fnLocalEditsUptoRow, standIns := [], harness := (true, "640e06e8214f38f7758082e2e1b816fc54c821b9aa12d5ca9d354e40918c6105"), looks := true }, kinds := [], alts := [], laidByText := true, laidKinds := [.handle], laidTests := true, laidLooks := .later }
def FnLocalEditsUptoCardSaid : Prop := Claim7.holds Tryz.pinned (.plain (OpenSpec.upto fnLocalEditsSpec)) fnLocalEditsUptoCard
end Rows
end Go.Proofs.YtlbigkipbbhhmaaGreatDoor
