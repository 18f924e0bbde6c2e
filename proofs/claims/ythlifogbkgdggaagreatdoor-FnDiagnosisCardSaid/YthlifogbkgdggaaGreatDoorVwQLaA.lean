/- What the last text needs. -/
import Derived.Test.YthlifogbkgdggaaGreatDoorVwQW3
import Derived.Test.YthlifogbkgdggaaGreatDoorVwP97
import Derived.Test.YthlifogbkgdggaaGreatDoorCards
import Derived.Test.YthlifogbkgdggaaGreatDoorTie
import Derived.SevenTiedAt
import Derived.Deep.DeepHandedRow
import Derived.LaidLaws
import Derived.LaidHandle
import Derived.LaidSub
import Derived.Stop.LaidErr
import Derived.ProofKit
import Derived.OpenShut
set_option linter.unusedVariables false
namespace Go.Proofs.YthlifogbkgdggaaGreatDoor.fnDiagnosis
open Go.ChangeShapes Go.WideShapes Go.ChangeAt Go.RowKit Go.Vw Go.Vw.Dat Go.Proofs
theorem cl_5:Tryz.prog.cellsOf 5=1:=by kernel_rfl
theorem it_5:IsT Tryz.prog 5 UInt8 (fun _=>True):=l_O Tryz.underlying5
theorem cl_22:Tryz.prog.cellsOf 22=1:=by kernel_rfl
theorem it_22:IsT Tryz.prog 22 (List UInt8) (fun l=>l.length<=LEN/\∀y∈l,True):=l_Q Tryz.underlying22 it_5 cl_5<|of_decide_eq_true (by kernel_rfl)
theorem own:ownKnob Tryz.prog.godebug=none:=by kernel_rfl
theorem n_Y:laidOutB Tryz.prog=true:=by kernel_rfl
theorem c_167:Tryz.prog.cellsOf 167=20:=by kernel_rfl
theorem c_156:Tryz.prog.cellsOf 156=1:=by kernel_rfl
theorem n_Z:(Rows.laid_internal_strconv_uint64pow10:DataW Unit)=Lib.tabData .u64 Lib.pow10Tab:=by kernel_rfl
theorem pow_of {W:World}(h:laidMet Tryz.prog [("math/bits.deBruijn32tab", Rows.laid_math_bits_deBruijn32tab),("math/bits.deBruijn64tab", Rows.laid_math_bits_deBruijn64tab),("internal/strconv.uint64pow10", Rows.laid_internal_strconv_uint64pow10),("loop.example/g00518/impl.errTruncated", Rows.laid_loop_example_g00518_impl_errTruncated)] W):Lib.TabIs Tryz.prog W "internal/strconv.uint64pow10" .u64 Lib.pow10Tab:=by
  have h2:=(laidMet.tail<|laidMet.tail h)
  rw [n_Z] at h2
  exact Lib.tabIs_of_head (by kernel_rfl:Tryz.prog.globalNamed "internal/strconv.uint64pow10" = some 1) (by kernel_rfl) Tryz.underlying167 Tryz.underlying156 c_156 c_167 h2
theorem i_t:Tryz.prog.globalNamed "loop.example/g00518/impl.errTruncated" = some 0:=by kernel_rfl
theorem k_A:(Tryz.prog.globals[0]?).map (·.type)=some 68:=by kernel_rfl
theorem o_0:Tryz.prog.cellsOf 201=1:=by kernel_rfl
theorem o_1:Tryz.prog.cellsOf 9=1:=by kernel_rfl
theorem k_B : "*" ++ "errors.errorString" = "*errors.errorString" := by decide
theorem row_e (u:TypeId)(h:Tryz.prog.typeName? 3 u=some "*errors.errorString"):u=178 :=
  typeName_ptr_named (nm := "errors.errorString") (by rw [k_B];kernel_rfl) (by kernel_rfl) (by decide) u (by rw [k_B];exact h)
theorem k_C {W:World}(h:laidMet Tryz.prog [("math/bits.deBruijn32tab", Rows.laid_math_bits_deBruijn32tab),("math/bits.deBruijn64tab", Rows.laid_math_bits_deBruijn64tab),("internal/strconv.uint64pow10", Rows.laid_internal_strconv_uint64pow10),("loop.example/g00518/impl.errTruncated", Rows.laid_loop_example_g00518_impl_errTruncated)] W):∃a:Addr,W.var? Tryz.prog "loop.example/g00518/impl.errTruncated" = some #[.iface 178 (.pointer (some a))]:=by
  have h2:=laidMet.tail<|laidMet.tail<|laidMet.tail h;obtain ⟨a,_,h3,_⟩:=laid_sentinel h2 i_t k_A Tryz.underlying68 row_e Tryz.underlying178 Tryz.underlying201 rfl rfl Tryz.underlying9 o_0 o_1;exact ⟨a,h3⟩
theorem o_2 {W:World}{a:Addr}(h:W.var? Tryz.prog "loop.example/g00518/impl.errTruncated" = some #[.iface 178 (.pointer (some a))]):W.cell? ⟨0,0,none⟩=some (.iface 178 (.pointer (some a))):=by simpa using World.var?_cell i_t h 0
theorem i_u {H:Type}(enc:TypeId×Value->H){X:World}{a:Addr}(h:X.var? Tryz.prog "loop.example/g00518/impl.errTruncated" = some #[.iface 178 (.pointer (some a))]) (sp:Nat->Bool) :
    DataW.TrodVars enc Tryz.prog X sp ["loop.example/g00518/impl.errTruncated"] [tok enc (.iface 178 (.pointer (some a)))] [.cell 0 0]:=vars_read1 enc i_t k_A Tryz.underlying68 h trivial sp
theorem gd_of {W:World}(h:laidMetH Tryz.prog Rows.fnDiagnosisRow.laid W):GD W:=⟨pow_of h,⟨_,o_2 (k_C h).choose_spec⟩⟩
theorem o_3 {n:Nat}(hn:4000000<=n){x0:List UInt8}(l0:x0.length<=LEN/\∀y∈x0,True):f_0 n x0=some true:=n_w hn x0
theorem pm_0:Tryz.f3.params[0]? = some 22:=by kernel_rfl
theorem contract (H:Type)(enc:TypeId×Value->H)(W:World)(base:Nat)(args:Array Value)(ds gs:List (DataW H))(before:List MemPlace)
    (hvs:OkWs Tryz.prog W base Tryz.f3.params args)
    (hW:DataW.Whole enc Tryz.prog Tryz.f3.params.toList Rows.fnDiagnosisSpec.vars false W args.toList ds gs before)
    (hw:(DataW.weightsEach Tryz.prog (Tryz.f3.params.toList++(OpenSpec.ofChange Rows.fnDiagnosisSpec).bare.plain.varTypes Tryz.prog)<|ds++gs).all (· <= reachBytes)=true) (hL:laidMetH Tryz.prog Rows.fnDiagnosisRow.laid W) (hsz:5<=W.heap.size) :
    Calls Tryz.prog 3 args W fun e W'=>∃v,e = .returned v/\Rows.fnDiagnosisSpec.post enc Tryz.prog Tryz.f3 false true false false W args v W':=by
  have hW':=hW;obtain ⟨p,q,G,hV,rfl,hfz,hnd⟩:=hW;have hA:DataW.TrodAll enc Tryz.prog W 0 (fun _=>true) true Tryz.f3.params.toList args.toList ds p:=G
  rw [Tryz.params3] at hA hw
  obtain ⟨aV,hVv⟩:=k_C (show laidMet _ _ _ from hL);obtain ⟨rfl,rfl⟩:=hV.unique<|i_u enc hVv _;obtain ⟨w0,a1,d0,a2,p0,q0,ha,rfl,rfl,Y,k0⟩:=trodAll_cons hA;obtain ⟨rfl,rfl,rfl⟩:=trodAll_nil k0;obtain rfl:args = #[w0]:=by cases args;simp_all
  have I:=hvs.at 0 22 w0 pm_0 rfl
  obtain ⟨J,L⟩:=Y;have O:=j_v (i:=0) hw rfl rfl;obtain ⟨x0,r0,l0⟩:=it_22.rd enc W J _ _ L O;obtain ⟨a0,n0,c0,rfl⟩:=l_R Tryz.underlying22 I;obtain ⟨a0',n0',c0',V,e0⟩:=e_1 (show rep W W.heap.size [.slice a0 n0 c0] x0 from r0)
  cases V
  have hM:=o_3 (n:=4000000) (Nat.le_refl _) (x0:=x0) l0;have hrun:=o_8 (B:=W.heap.size) hM zr (GlW.mk0 (gd_of hL) (a_I hsz) hsz) e0;refine hrun.run.mono fun e W' ⟨v,he,hb,hv⟩=>?_
  subst he;have hv':vB true=v:=hv;subst hv';refine ⟨_,rfl,l_T n_Y (fun t ht=>?_) hb hW' (by kernel_rfl) Tryz.underlying4 (i_u enc hVv) (i_u enc<|l_S hVv hb) rfl⟩
  rw [Tryz.params3] at ht
  have ht':t=22:=by simpa using ht
  rcases ht' with rfl
  all_goals exact ⟨by kernel_rfl,of_decide_eq_true (by kernel_rfl)⟩
noncomputable def low:Nat:=(World.holding Tryz.prog default ⟨#[],#[],[]⟩).heap.size
noncomputable def i_v (os:Os):World:={ World.holding Tryz.prog os ⟨#[.cells #[.string { data:=#[116,114,117,110,99,97,116,101,100] }] 201],#[],[]⟩ with heap:=(((((World.holding Tryz.prog os ⟨#[.cells #[.string { data:=#[116,114,117,110,99,97,116,101,100] }] 201],#[],[]⟩).heap.modify 3 fun | .cells _ t frozen=>.cells #[.int .u8 0,.int .u8 1,.int .u8 28,.int .u8 2,.int .u8 29,.int .u8 14,.int .u8 24,.int .u8 3,.int .u8 30,.int .u8 22,.int .u8 20,.int .u8 15,.int .u8 25,.int .u8 17,.int .u8 4,.int .u8 8,.int .u8 31,.int .u8 27,.int .u8 13,.int .u8 23,.int .u8 21,.int .u8 19,.int .u8 16,.int .u8 7,.int .u8 26,.int .u8 12,.int .u8 18,.int .u8 6,.int .u8 11,.int .u8 5,.int .u8 10,.int .u8 9] t frozen | o=>o).modify 4 fun | .cells _ t frozen=>.cells #[.int .u8 0,.int .u8 1,.int .u8 56,.int .u8 2,.int .u8 57,.int .u8 49,.int .u8 28,.int .u8 3,.int .u8 61,.int .u8 58,.int .u8 42,.int .u8 50,.int .u8 38,.int .u8 29,.int .u8 17,.int .u8 4,.int .u8 62,.int .u8 47,.int .u8 59,.int .u8 36,.int .u8 45,.int .u8 43,.int .u8 51,.int .u8 22,.int .u8 53,.int .u8 39,.int .u8 33,.int .u8 30,.int .u8 24,.int .u8 18,.int .u8 12,.int .u8 5,.int .u8 63,.int .u8 55,.int .u8 48,.int .u8 27,.int .u8 60,.int .u8 41,.int .u8 37,.int .u8 16,.int .u8 46,.int .u8 35,.int .u8 44,.int .u8 21,.int .u8 52,.int .u8 32,.int .u8 23,.int .u8 11,.int .u8 54,.int .u8 26,.int .u8 40,.int .u8 15,.int .u8 34,.int .u8 20,.int .u8 31,.int .u8 10,.int .u8 25,.int .u8 14,.int .u8 19,.int .u8 9,.int .u8 13,.int .u8 8,.int .u8 7,.int .u8 6] t frozen | o=>o).modify 1 fun | .cells _ t frozen=>.cells #[.int .u64 1,.int .u64 10,.int .u64 100,.int .u64 1000,.int .u64 10000,.int .u64 100000,.int .u64 1000000,.int .u64 10000000,.int .u64 100000000,.int .u64 1000000000,.int .u64 10000000000,.int .u64 100000000000,.int .u64 1000000000000,.int .u64 10000000000000,.int .u64 100000000000000,.int .u64 1000000000000000,.int .u64 10000000000000000,.int .u64 100000000000000000,.int .u64 1000000000000000000,.int .u64 10000000000000000000] t frozen | o=>o).modify 0 fun | .cells _ t frozen=>.cells #[.iface 178 (.pointer<|some ⟨low,0,none⟩)] t frozen | o=>o) }
theorem o_4 (os:Os):laidMetH Tryz.prog Rows.fnDiagnosisRow.laid ((i_v os).forCall (fun _ _=>0) ⟨#[],#[.slice none 0 0],[]⟩).memory :=
  laidMet_of_run' 8 (by kernel_rfl) (by kernel_rfl)
theorem reads (os:Os){H:Type}(enc:TypeId×Value->H):∃places,DataW.whole enc Tryz.prog ((i_v os).forCall (fun _ _=>0) ⟨#[],#[.slice none 0 0],[]⟩).memory Tryz.f3.params.toList Rows.fnDiagnosisSpec.vars false (#[.slice none 0 0]:Array Value).toList 8=some ([.nil],[tok enc (.iface 178<|.pointer<|some ⟨low,0,none⟩)],places) :=
  ⟨[.cell 0 0],by kernel_rfl⟩
theorem begun:(((begin Tryz.prog (fun _ _=>0) default).world.heap[4]?).bind Obj.row?).isSome=true:=by kernel_rfl
theorem o_5 {W:World}(h:W.ShapedOpen Tryz.prog):5<=W.heap.size:=by
  obtain ⟨⟨z,t⟩,e⟩:=Option.isSome_iff_exists.1 begun;obtain ⟨cs,h1,_⟩:=h.1 4 z t (of_decide_eq_true (by kernel_rfl)) e;have:=(Array.getElem?_eq_some_iff.1 h1).1
  omega
end Go.Proofs.YthlifogbkgdggaaGreatDoor.fnDiagnosis
