/- What the last text needs. -/
import Derived.Test.YtajhmimbhplkfaaGreatDoorVwLW4
import Derived.Test.YtajhmimbhplkfaaGreatDoorVwP54
import Derived.Test.YtajhmimbhplkfaaGreatDoorCards
import Derived.Test.YtajhmimbhplkfaaGreatDoorTie
import Derived.SevenTiedAt
import Derived.Deep.DeepHandedRow
import Derived.LaidLaws
import Derived.LaidHandle
import Derived.LaidSub
import Derived.Stop.LaidErr
import Derived.ProofKit
import Derived.OpenShut
set_option linter.unusedVariables false
namespace Go.Proofs.YtajhmimbhplkfaaGreatDoor.fnLocalEdits
open Go.ChangeShapes Go.WideShapes Go.ChangeAt Go.RowKit Go.Vw Go.Vw.Dat Go.Proofs
theorem cl_5 : Tryz.prog.cellsOf 5 = 1 := by kernel_rfl
theorem it_5 : IsT Tryz.prog 5 UInt8 (fun _ => True) := o_k Tryz.underlying5
theorem cl_22 : Tryz.prog.cellsOf 22 = 1 := by kernel_rfl
theorem it_22 : IsT Tryz.prog 22 (List UInt8) (fun l => l.length ≤ LEN ∧ ∀ y ∈ l, True) := o_m Tryz.underlying22 it_5 cl_5 (of_decide_eq_true (by kernel_rfl))
theorem own : ownKnob Tryz.prog.godebug = none := by kernel_rfl
theorem o_a : laidOutB Tryz.prog = true := by kernel_rfl
theorem et : Tryz.prog.globalNamed "errors.errorType" = some 0 := by kernel_rfl
theorem rt : (Tryz.prog.cutTypes.find? (·.1 == "internal/reflectlite.rtype")).map (·.2) = some 292 := by kernel_rfl
theorem oneRow : ((List.range 357).filter fun t => Tryz.prog.rowNamed t [101, 114, 114, 111, 114]) = [223] := by kernel_rfl
theorem tsize : Tryz.prog.types.size = 357 := by kernel_rfl
theorem o_b {W : World} (h : handlesMet Tryz.prog [("errors.errorType", Rows.laid_errors_errorType)] W) : W.cell? ⟨0, 0, none⟩ = some (.iface 292 (.agg #[.pointer (some ⟨4, 223, none⟩)])) := by
  obtain ⟨name, u, ty, e1, e2, e3, e4, e5⟩ := h _ List.mem_cons_self
  have en : name = [101, 114, 114, 111, 114] := (Option.some.inj e1).symm
  subst en
  obtain rfl := Option.some.inj (rt.symm.trans e2)
  have hm : ty ∈ (List.range 357).filter fun t => Tryz.prog.rowNamed t [101, 114, 114, 111, 114] := List.mem_filter.2 ⟨List.mem_range.2 (by rw [← tsize]; exact e3), e4⟩
  rw [oneRow] at hm
  obtain rfl := List.mem_singleton.1 hm
  have hh : typeHandle Tryz.prog 223 = .pointer (some ⟨4, 223, none⟩) := by kernel_rfl
  rw [hh] at e5
  simpa using World.var?_cell et e5 0
theorem gd_of {W : World} (h : laidMetH Tryz.prog Rows.fnLocalEditsRow.laid W) : GD W := o_b h.2
theorem o_c {n : Nat} (hn : 4000000 ≤ n) {x0 : List UInt8} (l0 : x0.length ≤ LEN ∧ ∀ y ∈ x0, True) : f_L n x0 = some true := p_Y hn x0
theorem pm_0 : Tryz.f3.params[0]? = some 22 := by kernel_rfl
theorem contract (H : Type) (enc : TypeId × Value → H) (W : World) (base : Nat) (args : Array Value) (ds gs : List (DataW H)) (before : List MemPlace)
    (hvs : OkWs Tryz.prog W base Tryz.f3.params args)
    (hW : DataW.Whole enc Tryz.prog Tryz.f3.params.toList Rows.fnLocalEditsSpec.vars false W args.toList ds gs before)
    (hw : (DataW.weightsEach Tryz.prog (Tryz.f3.params.toList ++ (OpenSpec.ofChange Rows.fnLocalEditsSpec).bare.plain.varTypes Tryz.prog) (ds ++ gs)).all (· ≤ reachBytes) = true) (hL : laidMetH Tryz.prog Rows.fnLocalEditsRow.laid W) (hsz : 4 ≤ W.heap.size) :
    Calls Tryz.prog 3 args W fun e W' => ∃ v, e = .returned v ∧ Rows.fnLocalEditsSpec.post enc Tryz.prog Tryz.f3 false true false false W args v W' := by
  have hW' := hW
  obtain ⟨p, q, hA0, hV, rfl, hfz, hnd⟩ := hW
  have hA : DataW.TrodAll enc Tryz.prog W 0 (fun _ => true) true Tryz.f3.params.toList args.toList ds p := hA0
  rw [Tryz.params3] at hA hw
  obtain ⟨rfl, rfl⟩ := trodVars_none hV
  obtain ⟨w0, vs0, d0, ds0, p0, q0, ha, rfl, rfl, h0, k0⟩ := trodAll_cons hA
  obtain ⟨rfl, rfl, rfl⟩ := trodAll_nil k0
  obtain rfl : args = #[w0] := by cases args; simp_all
  have hv0 := hvs.at 0 22 w0 pm_0 rfl
  obtain ⟨fu0, hf0⟩ := h0
  have hw0 := l_6 (i := 0) hw rfl rfl
  obtain ⟨x0, r0, l0⟩ := it_22.rd enc W fu0 _ _ hf0 hw0
  obtain ⟨a0, n0, c0, rfl⟩ := o_n Tryz.underlying22 hv0
  obtain ⟨a0', n0', c0', hc0, e0⟩ := f_W (show rep W W.heap.size [.slice a0 n0 c0] x0 from r0)
  cases hc0
  have hM := o_c (n := 4000000) (Nat.le_refl _) (x0 := x0) l0
  have hrun := o_j (B := W.heap.size) hM zr (GlW.mk0 (gd_of hL) (a_V hsz) hsz) e0
  refine hrun.run.mono fun e W' ⟨v, he, hb, hv⟩ => ?_
  subst he
  have hv' : vB true = v := hv
  subst hv'
  refine ⟨_, rfl, o_o o_a (fun t ht => ?_) hb hW' (by kernel_rfl) Tryz.underlying4 rfl (by simp [Rows.fnLocalEditsSpec])⟩
  rw [Tryz.params3] at ht
  have ht' : t = 22 := by simpa using ht
  rcases ht' with rfl
  all_goals exact ⟨by kernel_rfl, of_decide_eq_true (by kernel_rfl)⟩
noncomputable def j_4 (os : Os) : World := { World.holding Tryz.prog os ⟨#[], #[], []⟩ with heap := ((World.holding Tryz.prog os ⟨#[], #[], []⟩).heap.modify 0 fun | .cells _ t frozen => .cells #[.iface 292 (.agg #[.pointer (some ⟨4, 223, none⟩)])] t frozen | o => o) }
theorem o_d (os : Os) : laidMetH Tryz.prog Rows.fnLocalEditsRow.laid ((j_4 os).forCall (fun _ _ => 0) ⟨#[], #[.slice none 0 0], []⟩).memory :=
  laidMetH_of_parts (laidMet_of_run' 8 (by kernel_rfl) (by kernel_rfl)) (by kernel_rfl)
theorem reads (os : Os) {H : Type} (enc : TypeId × Value → H) : ∃ places, DataW.whole enc Tryz.prog ((j_4 os).forCall (fun _ _ => 0) ⟨#[], #[.slice none 0 0], []⟩).memory Tryz.f3.params.toList Rows.fnLocalEditsSpec.vars false (#[.slice none 0 0] : Array Value).toList 8 = some ([.nil], [], places) :=
  ⟨[], by kernel_rfl⟩
theorem begun : (((begin Tryz.prog (fun _ _ => 0) default).world.heap[3]?).bind Obj.row?).isSome = true := by kernel_rfl
theorem o_e {W : World} (h : W.ShapedOpen Tryz.prog) : 4 ≤ W.heap.size := by
  obtain ⟨⟨z, t⟩, e⟩ := Option.isSome_iff_exists.1 begun
  obtain ⟨cs, h1, _⟩ := h.1 3 z t (of_decide_eq_true (by kernel_rfl)) e
  have := (Array.getElem?_eq_some_iff.1 h1).1
  omega
end Go.Proofs.YtajhmimbhplkfaaGreatDoor.fnLocalEdits
