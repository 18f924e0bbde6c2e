/-
  DERIVED. GIVEN WITH THE SEED: THE CARDS: each row of YtefljifhihogoaaGreatDoorRows.lean that lists a variable, with what it lists TIED to the program's text (the seventh form; the later family's looks); each row that meets fmt, with fmt's text TOLD by the authors' own Lean function (tested against real Go, not proved from fmt's source: count such statements apart). THE CARD IS WHAT COUNTS. Prove the row's statement (the work); the ties are given (YtefljifhihogoaaGreatDoorTie.lean); close each card by the builder's one call (the guide's Derived/Test/ToyasCard.lean, 'card_holds'). Laid BY PROGRAM, IN A SANDBOX (cutbox-door.mjs). By AI agents, Wed Nov 11 2026. No macro, syntax, notation, axiom, sorry.
-/
import Derived.Test.YtefljifhihogoaaGreatDoorRows
import GoSem.ClaimSeven
namespace Go.Proofs.YtefljifhihogoaaGreatDoor
namespace Rows

/-- THE TIED CARD OF 'laws.FnExactFilesWhere'. -/
def fnExactFilesWhereCard : Claim7 := { stood := { row := fnExactFilesWhereRow, standIns := [], harness := (true, "6b059069eb58dc1081b2cb452787a103b8622b4d1d0d6da78fc624d532a209ae"), looks := true }, kinds := [], alts := [], laidByText := true, laidKinds := [.data, .data, .data, .handle], laidTests := true, laidLooks := .later }
def FnExactFilesWhereCardSaid : Prop := Claim7.holds Tryz.pinned (.plain (OpenSpec.ofChange fnExactFilesWhereSpec)) fnExactFilesWhereCard

/-- THE SECOND FORM's CARD OF 'laws.FnExactFilesWhere'. -/
def fnExactFilesWhereUptoCard : Claim7 := { stood := { row := fnExactFilesWhereUptoRow, standIns := [], harness := (true, "6b059069eb58dc1081b2cb452787a103b8622b4d1d0d6da78fc624d532a209ae"), looks := true }, kinds := [], alts := [], laidByText := true, laidKinds := [.data, .data, .data, .handle], laidTests := true, laidLooks := .later }
def FnExactFilesWhereUptoCardSaid : Prop := Claim7.holds Tryz.pinned (.plain (OpenSpec.upto fnExactFilesWhereSpec)) fnExactFilesWhereUptoCard
end Rows
end Go.Proofs.YtefljifhihogoaaGreatDoor
