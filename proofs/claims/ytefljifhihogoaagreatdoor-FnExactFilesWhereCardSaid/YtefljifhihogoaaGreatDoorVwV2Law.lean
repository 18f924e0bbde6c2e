/- FnExactFilesWhere: for every input the call returns true, and each argument reads behind it as it read before. Conditions: the listed package-level variables hold what the program's text lays (tied by the card). -/
import Derived.Test.YtefljifhihogoaaGreatDoorVbd
set_option linter.unusedVariables false
namespace Go.Proofs.YtefljifhihogoaaGreatDoor.fnExactFilesWhere
open Go.ChangeShapes Go.WideShapes Go.ChangeAt Go.RowKit Go.Vw Go.Vw.Dat Go.Proofs
set_option maxRecDepth 100000 in
theorem lifted (os : Os) (started : os.Started) (H : Type) (enc : TypeId × Value → H) (F : Stop.Interp) :
    ReturnsInHanded {} Tryz.checked os 3 .any ((OpenSpec.ofChange Rows.fnExactFilesWhereSpec).preRow enc Tryz.prog Tryz.f3 Rows.fnExactFilesWhereRow.domain false Rows.fnExactFilesWhereRow.laid) (((OpenSpec.ofChange Rows.fnExactFilesWhereSpec).at F).post enc Tryz.prog Tryz.f3 false true false false) := by
  obtain ⟨places, hx⟩ := reads os enc
  refine returnsInHanded_of_row (C := Tryz.checked) (s := OpenSpec.ofChange Rows.fnExactFilesWhereSpec) own started (by kernel_rfl) Tryz.func3
    (witness_row_at (enc := enc) (C := Tryz.checked) false (o_R os) #[.agg #[.slice none 0 0, .slice none 0 0, .int .i64 0], .string .empty, .string .empty] rfl (by kernel_rfl) (by kernel_rfl) (by kernel_rfl)
      (OpenSpec.preRow_of_cond 8 hx (by kernel_rfl) (fun k hk => by cases hk) (by kernel_rfl) (z_G os))) ?_
  intro W base args ds gs before hval hW _ _ hw hL hsh _
  exact contract H enc W base args ds gs before ⟨hval⟩ hW hw hL (z_H hsh)
theorem y_laid : laidOutB Tryz.prog = true := by kernel_rfl
theorem y_rowed : mapsRowed Tryz.prog = true := by kernel_rfl
theorem y_inPlace : (Rows.fnExactFilesWhereRow.inPlace == Tryz.prog.inPlace 3) = true := by kernel_rfl
theorem y_unf : (Rows.fnExactFilesWhereRow.unfollowed == Tryz.prog.unfollowed 3) = true := by kernel_rfl
theorem y_rec : (Rows.fnExactFilesWhereRow.recurses == Tryz.prog.recurses 3) = true := by kernel_rfl
theorem y_nam : (Rows.fnExactFilesWhereRow.named == Tryz.prog.varsNamed 3) = true := by kernel_rfl
theorem y_lifts : (Rows.fnExactFilesWhereRow.lifted == Tryz.prog.liftsFinal) = true := by kernel_rfl
theorem y_heard : Tryz.prog.stopsHeard = true := by kernel_rfl
theorem y_enter : Tryz.prog.mayEnter = true := by kernel_rfl
theorem closed : joinedFacts Tryz.prog 3 Tryz.f3 (OpenSpec.ofChange Rows.fnExactFilesWhereSpec).bare Rows.fnExactFilesWhereRow = true := by
  unfold joinedFacts
  rw [y_laid, y_rowed, y_inPlace, y_unf, y_rec, y_nam, y_lifts, y_heard, y_enter]
  kernel_rfl
theorem said : Rows.FnExactFilesWhereSaid :=
  OpenClaim.holds_of_cond 3 Tryz.f3 rfl rfl rfl rfl rfl rfl rfl ⟨rfl, rfl, rfl, rfl, rfl⟩ rfl rfl rfl rfl rfl (by kernel_rfl) Tryz.func3 closed
    (of_decide_eq_true (by kernel_rfl)) (by unfold Func.isWrapper; first | (rw [if_pos (by decide +kernel)]; kernel_rfl) | (rw [if_neg (by decide +kernel)]; exact ⟨rfl, rfl⟩))
    (fun os started H enc _ F => by rw [OpenClaim.pre_eq_preRow]; exact lifted os started H enc F)
theorem ws_29 : Tryz.prog.wantsStandIn 29 = false := by kernel_rfl
theorem ws_9 : Tryz.prog.wantsStandIn 9 = false := by kernel_rfl
theorem plainF (f : FuncId) (fn : Func) (hf : Tryz.pinned.checked.prog.funcNamed "loop.example/g00518/laws.FnExactFilesWhere" = some f) (hfn : Tryz.pinned.checked.prog.funcs[f]? = some fn) :
    true = Tryz.pinned.checked.prog.looks [] ∧ ∀ (j : Nat) t, fn.params[j]? = some t → Tryz.pinned.checked.prog.wantsStandIn t = false := by
  obtain rfl : f = 3 := Option.some.inj ((show Tryz.prog.funcNamed "loop.example/g00518/laws.FnExactFilesWhere" = some 3 by kernel_rfl).symm.trans hf) |>.symm
  obtain rfl : fn = Tryz.f3 := (Option.some.inj (Tryz.func3.symm.trans hfn)).symm
  refine ⟨by kernel_rfl, fun j t ht => ?_⟩
  rw [Tryz.params3] at ht
  have ht' : t = 29 ∨ t = 9 ∨ t = 9 := by simpa using Array.mem_of_getElem? ht
  rcases ht' with rfl | rfl | rfl
  · exact ws_29
  · exact ws_9
  · exact ws_9
theorem card : Rows.FnExactFilesWhereCardSaid :=
  Claim7.holds_tied_plain_at .later [] _ _ _ _ said (fun _ h => by cases h) (by kernel_rfl) (fun _ h => by cases h) fnExactFilesWhere_row_tie rfl ⟨rfl, rfl⟩ (by kernel_rfl) rfl plainF (by kernel_rfl)
end Go.Proofs.YtefljifhihogoaaGreatDoor.fnExactFilesWhere
