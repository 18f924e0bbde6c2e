/- FnExactDescribeArchive: for every input the call returns true, and each argument reads behind it as it read before. Conditions: the listed package-level variables hold what the program's text lays (tied by the card). -/
import Derived.Test.YtfdcdeahjejlmaaGreatDoorVqAW3
import Derived.Test.YtfdcdeahjejlmaaGreatDoorVqLaw
import Derived.Test.YtfdcdeahjejlmaaGreatDoorVqP43
import Derived.Test.YtfdcdeahjejlmaaGreatDoorCards
import Derived.Test.YtfdcdeahjejlmaaGreatDoorTie
import Derived.SevenTiedAt
import Derived.Deep.DeepHandedRow
import Derived.LaidLaws
import Derived.LaidHandle
import Derived.LaidSub
import Derived.Stop.LaidErr
import Derived.ProofKit
import Derived.OpenShut
set_option linter.unusedVariables false
namespace Go.Proofs.YtfdcdeahjejlmaaGreatDoor.fnExactDescribeArchive
open Go.ChangeShapes Go.WideShapes Go.ChangeAt Go.RowKit Go.Vw Go.Vw.Dat Go.Proofs
theorem cl_9 : Tryz.prog.cellsOf 9 = 1 := by kernel_rfl
theorem it_9 : IsT Tryz.prog 9 Str (fun s => s.b.length ≤ LEN) := p_3 Tryz.underlying9
theorem cl_3 : Tryz.prog.cellsOf 3 = 1 := by kernel_rfl
theorem it_3 : IsT Tryz.prog 3 Int (fun _ => True) := p_0 Tryz.underlying3
theorem cl_4 : Tryz.prog.cellsOf 4 = 1 := by kernel_rfl
theorem it_4 : IsT Tryz.prog 4 Bool (fun _ => True) := p_2 Tryz.underlying4
theorem cl_5 : Tryz.prog.cellsOf 5 = 1 := by kernel_rfl
theorem it_5 : IsT Tryz.prog 5 UInt8 (fun _ => True) := p_1 Tryz.underlying5
theorem cl_25 : Tryz.prog.cellsOf 25 = 1 := by kernel_rfl
theorem it_25 : IsT Tryz.prog 25 (List UInt8) (fun l => l.length ≤ LEN ∧ ∀ y ∈ l, True) := f_n Tryz.underlying25 it_5 cl_5 (of_decide_eq_true (by kernel_rfl))
theorem cl_41 : Tryz.prog.cellsOf 41 = 1 := by kernel_rfl
theorem it_41 : IsT Tryz.prog 41 (List Str) (fun l => l.length ≤ LEN ∧ ∀ y ∈ l, y.b.length ≤ LEN) := f_n Tryz.underlying41 it_9 cl_9 (of_decide_eq_true (by kernel_rfl))
theorem cl_142 : Tryz.prog.cellsOf 142 = 1 := by kernel_rfl
theorem it_142 : IsT Tryz.prog 142 (List Int) (fun l => l.length ≤ LEN ∧ ∀ y ∈ l, True) := f_n Tryz.underlying142 it_3 cl_3 (of_decide_eq_true (by kernel_rfl))
theorem cl_151 : Tryz.prog.cellsOf 151 = 8 := by kernel_rfl
def Ln_Rule (x : e_) : Prop := x.name.b.length ≤ LEN ∧ True ∧ True ∧ True ∧ (x.bytes.length ≤ LEN ∧ ∀ y ∈ x.bytes, True) ∧ (x.names.length ≤ LEN ∧ ∀ y ∈ x.names, y.b.length ≤ LEN) ∧ (x.tags.length ≤ LEN ∧ ∀ y ∈ x.tags, True) ∧ (x.kids.length ≤ LEN ∧ ∀ y ∈ x.kids, True)
theorem it_151 : IsT Tryz.prog 151 e_ Ln_Rule := ⟨fun enc W fuel cs x h hw => by
  obtain ⟨hl, hf⟩ := f_o Tryz.underlying151 h hw
  obtain ⟨v0, r0, l0⟩ := hf 0 _ rfl _ _ _ it_9
  have r0 : rep W W.heap.size ((cs.drop 0).take (Tryz.prog.cellsOf 9)) v0 := r0
  rw [cl_9] at r0
  obtain ⟨v1, r1, l1⟩ := hf 1 _ rfl _ _ _ it_3
  have r1 : rep W W.heap.size ((cs.drop 1).take (Tryz.prog.cellsOf 3)) v1 := r1
  rw [cl_3] at r1
  obtain ⟨v2, r2, l2⟩ := hf 2 _ rfl _ _ _ it_3
  have r2 : rep W W.heap.size ((cs.drop 2).take (Tryz.prog.cellsOf 3)) v2 := r2
  rw [cl_3] at r2
  obtain ⟨v3, r3, l3⟩ := hf 3 _ rfl _ _ _ it_4
  have r3 : rep W W.heap.size ((cs.drop 3).take (Tryz.prog.cellsOf 4)) v3 := r3
  rw [cl_4] at r3
  obtain ⟨v4, r4, l4⟩ := hf 4 _ rfl _ _ _ it_25
  have r4 : rep W W.heap.size ((cs.drop 4).take (Tryz.prog.cellsOf 25)) v4 := r4
  rw [cl_25] at r4
  obtain ⟨v5, r5, l5⟩ := hf 5 _ rfl _ _ _ it_41
  have r5 : rep W W.heap.size ((cs.drop 5).take (Tryz.prog.cellsOf 41)) v5 := r5
  rw [cl_41] at r5
  obtain ⟨v6, r6, l6⟩ := hf 6 _ rfl _ _ _ it_142
  have r6 : rep W W.heap.size ((cs.drop 6).take (Tryz.prog.cellsOf 142)) v6 := r6
  rw [cl_142] at r6
  obtain ⟨v7, r7, l7⟩ := hf 7 _ rfl _ _ _ it_142
  have r7 : rep W W.heap.size ((cs.drop 7).take (Tryz.prog.cellsOf 142)) v7 := r7
  rw [cl_142] at r7
  have hc := e_s [1, 1, 1, 1, 1, 1, 1, 1] 0 cs (by simp) (by rw [hl, cl_151]; rfl)
  rw [List.drop_zero] at hc
  refine ⟨⟨v0, v1, v2, v3, v4, v5, v6, v7⟩, ?_, ⟨l0, l1, l2, l3, l4, l5, l6, l7⟩⟩
  rw [← hc]
  exact (c_8 r0 (c_8 r1 (c_8 r2 (c_8 r3 (c_8 r4 (c_8 r5 (c_8 r6 r7)))))))⟩
theorem cl_108 : Tryz.prog.cellsOf 108 = 1 := by kernel_rfl
theorem it_108 : IsT Tryz.prog 108 (List e_) (fun l => l.length ≤ LEN ∧ ∀ y ∈ l, Ln_Rule y) := f_n Tryz.underlying108 it_151 cl_151 (of_decide_eq_true (by kernel_rfl))
theorem cl_110 : Tryz.prog.cellsOf 110 = 1 := by kernel_rfl
def Ln_Desc (x : g_) : Prop := (x.rules.length ≤ LEN ∧ ∀ y ∈ x.rules, Ln_Rule y)
theorem it_110 : IsT Tryz.prog 110 g_ Ln_Desc := ⟨fun enc W fuel cs x h hw => by
  obtain ⟨hl, hf⟩ := f_o Tryz.underlying110 h hw
  obtain ⟨v0, r0, l0⟩ := hf 0 _ rfl _ _ _ it_108
  have r0 : rep W W.heap.size ((cs.drop 0).take (Tryz.prog.cellsOf 108)) v0 := r0
  rw [cl_108] at r0
  have hc := e_s [1] 0 cs (by simp) (by rw [hl, cl_110]; rfl)
  rw [List.drop_zero] at hc
  refine ⟨⟨v0⟩, ?_, l0⟩
  rw [← hc]
  exact r0⟩
theorem cl_22 : Tryz.prog.cellsOf 22 = 1 := by kernel_rfl
theorem it_22 : IsT Tryz.prog 22 (List g_) (fun l => l.length ≤ LEN ∧ ∀ y ∈ l, Ln_Desc y) := f_n Tryz.underlying22 it_110 cl_110 (of_decide_eq_true (by kernel_rfl))
theorem cl_24 : Tryz.prog.cellsOf 24 = 1 := by kernel_rfl
def Ln_Registry (x : V_) : Prop := (x.versions.length ≤ LEN ∧ ∀ y ∈ x.versions, Ln_Desc y)
theorem it_24 : IsT Tryz.prog 24 V_ Ln_Registry := ⟨fun enc W fuel cs x h hw => by
  obtain ⟨hl, hf⟩ := f_o Tryz.underlying24 h hw
  obtain ⟨v0, r0, l0⟩ := hf 0 _ rfl _ _ _ it_22
  have r0 : rep W W.heap.size ((cs.drop 0).take (Tryz.prog.cellsOf 22)) v0 := r0
  rw [cl_22] at r0
  have hc := e_s [1] 0 cs (by simp) (by rw [hl, cl_24]; rfl)
  rw [List.drop_zero] at hc
  refine ⟨⟨v0⟩, ?_, l0⟩
  rw [← hc]
  exact r0⟩
theorem cl_27 : Tryz.prog.cellsOf 27 = 2 := by kernel_rfl
def Ln_Log (x : Log) : Prop := (x.bytes.length ≤ LEN ∧ ∀ y ∈ x.bytes, True) ∧ True
theorem it_27 : IsT Tryz.prog 27 Log Ln_Log := ⟨fun enc W fuel cs x h hw => by
  obtain ⟨hl, hf⟩ := f_o Tryz.underlying27 h hw
  obtain ⟨v0, r0, l0⟩ := hf 0 _ rfl _ _ _ it_25
  have r0 : rep W W.heap.size ((cs.drop 0).take (Tryz.prog.cellsOf 25)) v0 := r0
  rw [cl_25] at r0
  obtain ⟨v1, r1, l1⟩ := hf 1 _ rfl _ _ _ it_3
  have r1 : rep W W.heap.size ((cs.drop 1).take (Tryz.prog.cellsOf 3)) v1 := r1
  rw [cl_3] at r1
  have hc := e_s [1, 1] 0 cs (by simp) (by rw [hl, cl_27]; rfl)
  rw [List.drop_zero] at hc
  refine ⟨⟨v0, v1⟩, ?_, ⟨l0, l1⟩⟩
  rw [← hc]
  exact (c_8 r0 r1)⟩
theorem cl_29 : Tryz.prog.cellsOf 29 = 3 := by kernel_rfl
def Ln_Archive (x : C_) : Prop := Ln_Registry x.registry ∧ Ln_Log x.log
theorem it_29 : IsT Tryz.prog 29 C_ Ln_Archive := ⟨fun enc W fuel cs x h hw => by
  obtain ⟨hl, hf⟩ := f_o Tryz.underlying29 h hw
  obtain ⟨v0, r0, l0⟩ := hf 0 _ rfl _ _ _ it_24
  have r0 : rep W W.heap.size ((cs.drop 0).take (Tryz.prog.cellsOf 24)) v0 := r0
  rw [cl_24] at r0
  obtain ⟨v1, r1, l1⟩ := hf 1 _ rfl _ _ _ it_27
  have r1 : rep W W.heap.size ((cs.drop 1).take (Tryz.prog.cellsOf 27)) v1 := r1
  rw [cl_27] at r1
  have hc := e_s [1, 2] 0 cs (by simp) (by rw [hl, cl_29]; rfl)
  rw [List.drop_zero] at hc
  refine ⟨⟨v0, v1⟩, ?_, ⟨l0, l1⟩⟩
  rw [← hc]
  exact (c_8 r0 r1)⟩
theorem own : ownKnob Tryz.prog.godebug = none := by kernel_rfl
theorem laidOut : laidOutB Tryz.prog = true := by kernel_rfl
theorem c_209 : Tryz.prog.cellsOf 209 = 20 := by kernel_rfl
theorem c_168 : Tryz.prog.cellsOf 168 = 1 := by kernel_rfl
theorem pow_datum : (Rows.laid_internal_strconv_uint64pow10 : DataW Unit) = Lib.tabData .u64 Lib.pow10Tab := by kernel_rfl
theorem pow_of {W : World} (h : laidMet Tryz.prog [("math/bits.deBruijn32tab", Rows.laid_math_bits_deBruijn32tab), ("math/bits.deBruijn64tab", Rows.laid_math_bits_deBruijn64tab), ("internal/strconv.uint64pow10", Rows.laid_internal_strconv_uint64pow10)] W) : Lib.TabIs Tryz.prog W "internal/strconv.uint64pow10" .u64 Lib.pow10Tab := by
  have h2 := (laidMet.tail (laidMet.tail h))
  rw [pow_datum] at h2
  exact Lib.tabIs_of_head (by kernel_rfl : Tryz.prog.globalNamed "internal/strconv.uint64pow10" = some 1) (by kernel_rfl) Tryz.underlying209 Tryz.underlying168 c_168 c_209 h2
theorem et : Tryz.prog.globalNamed "errors.errorType" = some 0 := by kernel_rfl
theorem rt : (Tryz.prog.cutTypes.find? (·.1 == "internal/reflectlite.rtype")).map (·.2) = some 219 := by kernel_rfl
theorem oneRow : ((List.range 264).filter fun t => Tryz.prog.rowNamed t [101, 114, 114, 111, 114]) = [159] := by kernel_rfl
theorem tsize : Tryz.prog.types.size = 264 := by kernel_rfl
theorem handle_of {W : World} (h : handlesMet Tryz.prog [("errors.errorType", Rows.laid_errors_errorType)] W) : W.cell? ⟨0, 0, none⟩ = some (.iface 219 (.agg #[.pointer (some ⟨4, 159, none⟩)])) := by
  obtain ⟨name, u, ty, e1, e2, e3, e4, e5⟩ := h _ List.mem_cons_self
  have en : name = [101, 114, 114, 111, 114] := (Option.some.inj e1).symm
  subst en
  obtain rfl := Option.some.inj (rt.symm.trans e2)
  have hm : ty ∈ (List.range 264).filter fun t => Tryz.prog.rowNamed t [101, 114, 114, 111, 114] := List.mem_filter.2 ⟨List.mem_range.2 (by rw [← tsize]; exact e3), e4⟩
  rw [oneRow] at hm
  obtain rfl := List.mem_singleton.1 hm
  have hh : typeHandle Tryz.prog 159 = .pointer (some ⟨4, 159, none⟩) := by kernel_rfl
  rw [hh] at e5
  simpa using World.var?_cell et e5 0
theorem gd_of {W : World} (h : laidMetH Tryz.prog Rows.fnExactDescribeArchiveRow.laid W) : GD W := ⟨pow_of h.1, handle_of h.2⟩
theorem lnR_of {r : e_} (h : Ln_Rule r) : LnR r := ⟨h.1, h.2.2.2.2.1.1, h.2.2.2.2.2.1.1, h.2.2.2.2.2.2.1.1, h.2.2.2.2.2.2.2.1, h.2.2.2.2.2.1.2⟩
theorem lnD_of {d : g_} (h : Ln_Desc d) : LnD d := ⟨h.1, fun r hr => lnR_of (h.2 r hr)⟩
theorem law_DescribeArchive_ {n : Nat} (hn : 4000000 ≤ n) {x0 : C_} (l0 : Ln_Archive x0) : g_U n x0 = some true :=
  q_Z hn ⟨l0.1.1, fun d hd => lnD_of (l0.1.2 d hd), l0.2.1.1⟩
theorem pm_0 : Tryz.f8.params[0]? = some 29 := by kernel_rfl
theorem contract (H : Type) (enc : TypeId × Value → H) (W : World) (base : Nat) (args : Array Value) (ds gs : List (DataW H)) (before : List MemPlace)
    (hvs : OkWs Tryz.prog W base Tryz.f8.params args)
    (hW : DataW.Whole enc Tryz.prog Tryz.f8.params.toList Rows.fnExactDescribeArchiveSpec.vars false W args.toList ds gs before)
    (hw : (DataW.weightsEach Tryz.prog (Tryz.f8.params.toList ++ (OpenSpec.ofChange Rows.fnExactDescribeArchiveSpec).bare.plain.varTypes Tryz.prog) (ds ++ gs)).all (· ≤ reachBytes) = true) (hL : laidMetH Tryz.prog Rows.fnExactDescribeArchiveRow.laid W) (hsz : 4 ≤ W.heap.size) :
    Calls Tryz.prog 8 args W fun e W' => ∃ v, e = .returned v ∧ Rows.fnExactDescribeArchiveSpec.post enc Tryz.prog Tryz.f8 false true false false W args v W' := by
  have hW' := hW
  obtain ⟨p, q, hA0, hV, rfl, hfz, hnd⟩ := hW
  have hA : DataW.TrodAll enc Tryz.prog W 0 (fun _ => true) true Tryz.f8.params.toList args.toList ds p := hA0
  rw [Tryz.params8] at hA hw
  obtain ⟨rfl, rfl⟩ := trodVars_none hV
  obtain ⟨w0, vs0, d0, ds0, p0, q0, ha, rfl, rfl, h0, k0⟩ := trodAll_cons hA
  obtain ⟨rfl, rfl, rfl⟩ := trodAll_nil k0
  obtain rfl : args = #[w0] := by cases args; simp_all
  have hv0 := hvs.at 0 29 w0 pm_0 rfl
  obtain ⟨fu0, hf0⟩ := h0
  have hw0 := j_r (i := 0) hw rfl rfl
  obtain ⟨x0, r0, l0⟩ := it_29.rd enc W fu0 _ _ hf0 hw0
  obtain ⟨cs0, rfl, _⟩ := p_5 Tryz.underlying29 hv0
  obtain ⟨a0_0, n0_0, c0_0, a0_1, n0_1, c0_1, hc0, e0_0, e0_1, e0_2⟩ := o_t (show rep W W.heap.size cs0.toList x0 from r0)
  obtain rfl : cs0 = #[.slice a0_0 n0_0 c0_0, .slice a0_1 n0_1 c0_1, vI x0.log.stored] := by simpa using congrArg List.toArray hc0
  have hM := law_DescribeArchive_ (n := 4000000) (Nat.le_refl _) (x0 := x0) l0
  have hrun := n_T (B := W.heap.size) hM zr (GlW.mk0 (gd_of hL) (b_5 hsz) hsz) e0_0 e0_1 e0_2
  refine hrun.run.mono fun e W' ⟨v, he, hb, hv⟩ => ?_
  subst he
  have hv' : vB true = v := hv
  subst hv'
  refine ⟨_, rfl, p_6 laidOut (fun t ht => ?_) hb hW' (by kernel_rfl) Tryz.underlying4 rfl (by simp [Rows.fnExactDescribeArchiveSpec])⟩
  rw [Tryz.params8] at ht
  have ht' : t = 29 := by simpa using ht
  rcases ht' with rfl
  all_goals exact ⟨by kernel_rfl, of_decide_eq_true (by kernel_rfl)⟩
noncomputable def laidWorld (os : Os) : World := { World.holding Tryz.prog os ⟨#[], #[], []⟩ with heap := (((((World.holding Tryz.prog os ⟨#[], #[], []⟩).heap.modify 2 fun | .cells _ t frozen => .cells #[.int .u8 0, .int .u8 1, .int .u8 28, .int .u8 2, .int .u8 29, .int .u8 14, .int .u8 24, .int .u8 3, .int .u8 30, .int .u8 22, .int .u8 20, .int .u8 15, .int .u8 25, .int .u8 17, .int .u8 4, .int .u8 8, .int .u8 31, .int .u8 27, .int .u8 13, .int .u8 23, .int .u8 21, .int .u8 19, .int .u8 16, .int .u8 7, .int .u8 26, .int .u8 12, .int .u8 18, .int .u8 6, .int .u8 11, .int .u8 5, .int .u8 10, .int .u8 9] t frozen | o => o).modify 3 fun | .cells _ t frozen => .cells #[.int .u8 0, .int .u8 1, .int .u8 56, .int .u8 2, .int .u8 57, .int .u8 49, .int .u8 28, .int .u8 3, .int .u8 61, .int .u8 58, .int .u8 42, .int .u8 50, .int .u8 38, .int .u8 29, .int .u8 17, .int .u8 4, .int .u8 62, .int .u8 47, .int .u8 59, .int .u8 36, .int .u8 45, .int .u8 43, .int .u8 51, .int .u8 22, .int .u8 53, .int .u8 39, .int .u8 33, .int .u8 30, .int .u8 24, .int .u8 18, .int .u8 12, .int .u8 5, .int .u8 63, .int .u8 55, .int .u8 48, .int .u8 27, .int .u8 60, .int .u8 41, .int .u8 37, .int .u8 16, .int .u8 46, .int .u8 35, .int .u8 44, .int .u8 21, .int .u8 52, .int .u8 32, .int .u8 23, .int .u8 11, .int .u8 54, .int .u8 26, .int .u8 40, .int .u8 15, .int .u8 34, .int .u8 20, .int .u8 31, .int .u8 10, .int .u8 25, .int .u8 14, .int .u8 19, .int .u8 9, .int .u8 13, .int .u8 8, .int .u8 7, .int .u8 6] t frozen | o => o).modify 1 fun | .cells _ t frozen => .cells #[.int .u64 1, .int .u64 10, .int .u64 100, .int .u64 1000, .int .u64 10000, .int .u64 100000, .int .u64 1000000, .int .u64 10000000, .int .u64 100000000, .int .u64 1000000000, .int .u64 10000000000, .int .u64 100000000000, .int .u64 1000000000000, .int .u64 10000000000000, .int .u64 100000000000000, .int .u64 1000000000000000, .int .u64 10000000000000000, .int .u64 100000000000000000, .int .u64 1000000000000000000, .int .u64 10000000000000000000] t frozen | o => o).modify 0 fun | .cells _ t frozen => .cells #[.iface 219 (.agg #[.pointer (some ⟨4, 159, none⟩)])] t frozen | o => o) }
theorem laid_met (os : Os) : laidMetH Tryz.prog Rows.fnExactDescribeArchiveRow.laid ((laidWorld os).forCall (fun _ _ => 0) ⟨#[], #[.agg #[.slice none 0 0, .slice none 0 0, .int .i64 0]], []⟩).memory :=
  laidMetH_of_parts (laidMet_of_run' 8 (by kernel_rfl) (by kernel_rfl)) (by kernel_rfl)
theorem reads (os : Os) {H : Type} (enc : TypeId × Value → H) : ∃ places, DataW.whole enc Tryz.prog ((laidWorld os).forCall (fun _ _ => 0) ⟨#[], #[.agg #[.slice none 0 0, .slice none 0 0, .int .i64 0]], []⟩).memory Tryz.f8.params.toList Rows.fnExactDescribeArchiveSpec.vars false (#[.agg #[.slice none 0 0, .slice none 0 0, .int .i64 0]] : Array Value).toList 8 = some ([.agg [.agg [.nil], .agg [.nil, .lit (.int .i64 0)]]], [], places) :=
  ⟨[], by kernel_rfl⟩
theorem begun : (((begin Tryz.prog (fun _ _ => 0) default).world.heap[3]?).bind Obj.row?).isSome = true := by kernel_rfl
theorem heap_ge {W : World} (h : W.ShapedOpen Tryz.prog) : 4 ≤ W.heap.size := by
  obtain ⟨⟨z, t⟩, e⟩ := Option.isSome_iff_exists.1 begun
  obtain ⟨cs, h1, _⟩ := h.1 3 z t (of_decide_eq_true (by kernel_rfl)) e
  have := (Array.getElem?_eq_some_iff.1 h1).1
  omega
set_option maxRecDepth 100000 in
theorem lifted (os : Os) (started : os.Started) (H : Type) (enc : TypeId × Value → H) (F : Stop.Interp) :
    ReturnsInHanded {} Tryz.checked os 8 .any ((OpenSpec.ofChange Rows.fnExactDescribeArchiveSpec).preRow enc Tryz.prog Tryz.f8 Rows.fnExactDescribeArchiveRow.domain false Rows.fnExactDescribeArchiveRow.laid) (((OpenSpec.ofChange Rows.fnExactDescribeArchiveSpec).at F).post enc Tryz.prog Tryz.f8 false true false false) := by
  obtain ⟨places, hx⟩ := reads os enc
  refine returnsInHanded_of_row (C := Tryz.checked) (s := OpenSpec.ofChange Rows.fnExactDescribeArchiveSpec) own started (by kernel_rfl) Tryz.func8
    (witness_row_at (enc := enc) (C := Tryz.checked) false (laidWorld os) #[.agg #[.slice none 0 0, .slice none 0 0, .int .i64 0]] rfl (by kernel_rfl) (by kernel_rfl) (by kernel_rfl)
      (OpenSpec.preRow_of_cond 8 hx (by kernel_rfl) (fun k hk => by cases hk) (by kernel_rfl) (laid_met os))) ?_
  intro W base args ds gs before hval hW _ _ hw hL hsh _
  exact contract H enc W base args ds gs before ⟨hval⟩ hW hw hL (heap_ge hsh)
theorem said : Rows.FnExactDescribeArchiveSaid :=
  OpenClaim.holds_of_cond 8 Tryz.f8 rfl rfl rfl rfl rfl rfl rfl ⟨rfl, rfl, rfl, rfl, rfl⟩ rfl rfl rfl rfl rfl (by kernel_rfl) Tryz.func8 (by kernel_rfl)
    (of_decide_eq_true (by kernel_rfl)) (by unfold Func.isWrapper; first | (rw [if_pos (by decide +kernel)]; kernel_rfl) | (rw [if_neg (by decide +kernel)]; exact ⟨rfl, rfl⟩))
    (fun os started H enc _ F => by rw [OpenClaim.pre_eq_preRow]; exact lifted os started H enc F)
theorem ws_29 : Tryz.prog.wantsStandIn 29 = false := by kernel_rfl
theorem plainF (f : FuncId) (fn : Func) (hf : Tryz.pinned.checked.prog.funcNamed "loop.example/g00518/laws.FnExactDescribeArchive" = some f) (hfn : Tryz.pinned.checked.prog.funcs[f]? = some fn) :
    true = Tryz.pinned.checked.prog.looks [] ∧ ∀ (j : Nat) t, fn.params[j]? = some t → Tryz.pinned.checked.prog.wantsStandIn t = false := by
  obtain rfl : f = 8 := Option.some.inj ((show Tryz.prog.funcNamed "loop.example/g00518/laws.FnExactDescribeArchive" = some 8 by kernel_rfl).symm.trans hf) |>.symm
  obtain rfl : fn = Tryz.f8 := (Option.some.inj (Tryz.func8.symm.trans hfn)).symm
  refine ⟨by kernel_rfl, fun j t ht => ?_⟩
  rw [Tryz.params8] at ht
  have ht' : t = 29 := by simpa using Array.mem_of_getElem? ht
  rcases ht' with rfl
  · exact ws_29
theorem card : Rows.FnExactDescribeArchiveCardSaid :=
  Claim7.holds_tied_plain_at .later [] _ _ _ _ said (fun _ h => by cases h) (by kernel_rfl) (fun _ h => by cases h) fnExactDescribeArchive_row_tie rfl ⟨rfl, rfl⟩ (by kernel_rfl) rfl plainF (by kernel_rfl)
end Go.Proofs.YtfdcdeahjejlmaaGreatDoor.fnExactDescribeArchive
