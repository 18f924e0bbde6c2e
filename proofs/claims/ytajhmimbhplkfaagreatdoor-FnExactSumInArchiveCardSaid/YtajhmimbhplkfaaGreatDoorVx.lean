import Derived.Test.YtajhmimbhplkfaaGreatDoorVw
import Derived.Test.YtajhmimbhplkfaaGreatDoorVq
import Derived.Test.YtajhmimbhplkfaaGreatDoorCards
import Derived.Test.YtajhmimbhplkfaaGreatDoorTie
import Derived.SevenTiedAt
import Derived.Deep.DeepHandedRow
import Derived.LaidLaws
import Derived.LaidHandle
import Derived.LaidSub
import Derived.Stop.LaidErr
import Derived.ProofKit
import Derived.OpenShut
set_option linter.unusedVariables false
namespace Go.Proofs.YtajhmimbhplkfaaGreatDoor.fnExactSumInArchive
open Go.ChangeShapes Go.WideShapes Go.ChangeAt Go.RowKit Go.Vw Go.Vw.Dat Go.Proofs
theorem cl_9:Tryz.prog.cellsOf 9=1:=by kernel_rfl
theorem it_9:IsT Tryz.prog 9 Str (fun s=>s.b.length<=LEN):=r_q Tryz.underlying9
theorem cl_3:Tryz.prog.cellsOf 3=1:=by kernel_rfl
theorem it_3:IsT Tryz.prog 3 Int (fun _=>True):=r_n Tryz.underlying3
theorem cl_4:Tryz.prog.cellsOf 4=1:=by kernel_rfl
theorem it_4:IsT Tryz.prog 4 Bool (fun _=>True):=r_p Tryz.underlying4
theorem cl_5:Tryz.prog.cellsOf 5=1:=by kernel_rfl
theorem it_5:IsT Tryz.prog 5 UInt8 (fun _=>True):=r_o Tryz.underlying5
theorem cl_22:Tryz.prog.cellsOf 22=1:=by kernel_rfl
theorem it_22:IsT Tryz.prog 22 (List UInt8) (fun l=>l.length<=LEN/\∀y∈l,True):=h_e Tryz.underlying22 it_5 cl_5<|of_decide_eq_true (by kernel_rfl)
theorem cl_51:Tryz.prog.cellsOf 51=1:=by kernel_rfl
theorem it_51:IsT Tryz.prog 51 (List Str) (fun l=>l.length<=LEN/\∀y∈l,y.b.length<=LEN):=h_e Tryz.underlying51 it_9 cl_9<|of_decide_eq_true (by kernel_rfl)
theorem cl_52:Tryz.prog.cellsOf 52=1:=by kernel_rfl
theorem it_52:IsT Tryz.prog 52 (List Int) (fun l=>l.length<=LEN/\∀y∈l,True):=h_e Tryz.underlying52 it_3 cl_3<|of_decide_eq_true (by kernel_rfl)
theorem p_V:Tryz.prog.cellsOf 285=8:=by kernel_rfl
def k_u (x:g_):Prop:=x.name.b.length<=LEN/\True/\True/\True/\(x.bytes.length<=LEN/\∀y∈x.bytes,True)/\(x.names.length<=LEN/\∀y∈x.names,y.b.length<=LEN)/\(x.tags.length<=LEN/\∀y∈x.tags,True)/\(x.kids.length<=LEN/\∀y∈x.kids,True)
theorem it_285:IsT Tryz.prog 285 g_ k_u:=⟨fun enc W fuel cs x h hw=>by
  obtain ⟨hl,hf⟩:=h_f Tryz.underlying285 h hw;obtain ⟨v0,G,l0⟩:=hf 0 _ rfl _ _ _ it_9;have G:rep W W.heap.size ((cs.drop 0).take (Tryz.prog.cellsOf 9)) v0:=G
  rw [cl_9] at G
  obtain ⟨v1,H,l1⟩:=hf 1 _ rfl _ _ _ it_3;have H:rep W W.heap.size ((cs.drop 1).take (Tryz.prog.cellsOf 3)) v1:=H
  rw [cl_3] at H
  obtain ⟨v2,I,l2⟩:=hf 2 _ rfl _ _ _ it_3;have I:rep W W.heap.size ((cs.drop 2).take (Tryz.prog.cellsOf 3)) v2:=I
  rw [cl_3] at I
  obtain ⟨v3,J,l3⟩:=hf 3 _ rfl _ _ _ it_4;have J:rep W W.heap.size ((cs.drop 3).take (Tryz.prog.cellsOf 4)) v3:=J
  rw [cl_4] at J
  obtain ⟨v4,L,l4⟩:=hf 4 _ rfl _ _ _ it_22;have L:rep W W.heap.size ((cs.drop 4).take (Tryz.prog.cellsOf 22)) v4:=L
  rw [cl_22] at L
  obtain ⟨v5,O,l5⟩:=hf 5 _ rfl _ _ _ it_51;have O:rep W W.heap.size ((cs.drop 5).take (Tryz.prog.cellsOf 51)) v5:=O
  rw [cl_51] at O
  obtain ⟨v6,V,l6⟩:=hf 6 _ rfl _ _ _ it_52;have V:rep W W.heap.size ((cs.drop 6).take (Tryz.prog.cellsOf 52)) v6:=V
  rw [cl_52] at V
  obtain ⟨v7,Y,l7⟩:=hf 7 _ rfl _ _ _ it_52;have Y:rep W W.heap.size ((cs.drop 7).take (Tryz.prog.cellsOf 52)) v7:=Y
  rw [cl_52] at Y
  have hc:=g_1 [1,1,1,1,1,1,1,1] 0 cs (by simp) (by rw [hl,p_V];rfl)
  rw [List.drop_zero] at hc
  refine ⟨⟨v0,v1,v2,v3,v4,v5,v6,v7⟩,?_,⟨l0,l1,l2,l3,l4,l5,l6,l7⟩⟩
  rw [← hc]
  exact (d_i G (d_i H (d_i I (d_i J (d_i L (d_i O (d_i V Y)))))))⟩
theorem cl_206:Tryz.prog.cellsOf 206=1:=by kernel_rfl
theorem it_206:IsT Tryz.prog 206 (List g_) (fun l=>l.length<=LEN/\∀y∈l,k_u y):=h_e Tryz.underlying206 it_285 p_V<|of_decide_eq_true (by kernel_rfl)
theorem p_W:Tryz.prog.cellsOf 208=1:=by kernel_rfl
def k_v (x:e_):Prop:=(x.rules.length<=LEN/\∀y∈x.rules,k_u y)
theorem it_208:IsT Tryz.prog 208 e_ k_v:=⟨fun enc W fuel cs x h hw=>by
  obtain ⟨hl,hf⟩:=h_f Tryz.underlying208 h hw;obtain ⟨H,G,l0⟩:=hf 0 _ rfl _ _ _ it_206;have G:rep W W.heap.size ((cs.drop 0).take (Tryz.prog.cellsOf 206)) H:=G
  rw [cl_206] at G
  have hc:=g_1 [1] 0 cs (by simp) (by rw [hl,p_W];rfl)
  rw [List.drop_zero] at hc
  refine ⟨⟨H⟩,?_,l0⟩
  rw [← hc]
  exact G⟩
theorem cl_56:Tryz.prog.cellsOf 56=1:=by kernel_rfl
theorem it_56:IsT Tryz.prog 56 (List e_) (fun l=>l.length<=LEN/\∀y∈l,k_v y):=h_e Tryz.underlying56 it_208 p_W<|of_decide_eq_true (by kernel_rfl)
theorem cl_58:Tryz.prog.cellsOf 58=1:=by kernel_rfl
def p_X (x:a_j):Prop:=(x.versions.length<=LEN/\∀y∈x.versions,k_v y)
theorem it_58:IsT Tryz.prog 58 a_j p_X:=⟨fun enc W fuel cs x h hw=>by
  obtain ⟨hl,hf⟩:=h_f Tryz.underlying58 h hw;obtain ⟨H,G,l0⟩:=hf 0 _ rfl _ _ _ it_56;have G:rep W W.heap.size ((cs.drop 0).take (Tryz.prog.cellsOf 56)) H:=G
  rw [cl_56] at G
  have hc:=g_1 [1] 0 cs (by simp) (by rw [hl,cl_58];rfl)
  rw [List.drop_zero] at hc
  refine ⟨⟨H⟩,?_,l0⟩
  rw [← hc]
  exact G⟩
theorem cl_60:Tryz.prog.cellsOf 60=2:=by kernel_rfl
def p_Y (x:Log):Prop:=(x.bytes.length<=LEN/\∀y∈x.bytes,True)/\True
theorem it_60:IsT Tryz.prog 60 Log p_Y:=⟨fun enc W fuel cs x h hw=>by
  obtain ⟨hl,hf⟩:=h_f Tryz.underlying60 h hw;obtain ⟨I,G,l0⟩:=hf 0 _ rfl _ _ _ it_22;have G:rep W W.heap.size ((cs.drop 0).take (Tryz.prog.cellsOf 22)) I:=G
  rw [cl_22] at G
  obtain ⟨v1,H,l1⟩:=hf 1 _ rfl _ _ _ it_3;have H:rep W W.heap.size ((cs.drop 1).take (Tryz.prog.cellsOf 3)) v1:=H
  rw [cl_3] at H
  have hc:=g_1 [1,1] 0 cs (by simp) (by rw [hl,cl_60];rfl)
  rw [List.drop_zero] at hc
  refine ⟨⟨I,v1⟩,?_,⟨l0,l1⟩⟩
  rw [← hc]
  exact (d_i G H)⟩
theorem cl_62:Tryz.prog.cellsOf 62=3:=by kernel_rfl
def p_Z (x:L_):Prop:=p_X x.registry/\p_Y x.log
theorem it_62:IsT Tryz.prog 62 L_ p_Z:=⟨fun enc W fuel cs x h hw=>by
  obtain ⟨hl,hf⟩:=h_f Tryz.underlying62 h hw;obtain ⟨I,G,l0⟩:=hf 0 _ rfl _ _ _ it_58;have G:rep W W.heap.size ((cs.drop 0).take (Tryz.prog.cellsOf 58)) I:=G
  rw [cl_58] at G
  obtain ⟨v1,H,l1⟩:=hf 1 _ rfl _ _ _ it_60;have H:rep W W.heap.size ((cs.drop 1).take (Tryz.prog.cellsOf 60)) v1:=H
  rw [cl_60] at H
  have hc:=g_1 [1,2] 0 cs (by simp) (by rw [hl,cl_62];rfl)
  rw [List.drop_zero] at hc
  refine ⟨⟨I,v1⟩,?_,⟨l0,l1⟩⟩
  rw [← hc]
  exact (d_i G H)⟩
theorem own:ownKnob Tryz.prog.godebug=none:=by kernel_rfl
theorem u_P:laidOutB Tryz.prog=true:=by kernel_rfl
theorem c_320:Tryz.prog.cellsOf 320=20:=by kernel_rfl
theorem c_312:Tryz.prog.cellsOf 312=1:=by kernel_rfl
theorem u_Q:(Rows.laid_internal_strconv_uint64pow10:DataW Unit)=Lib.tabData .u64 Lib.pow10Tab:=by kernel_rfl
theorem pow_of {W:World}(h:laidMet Tryz.prog [("math/bits.deBruijn32tab", Rows.laid_math_bits_deBruijn32tab),("math/bits.deBruijn64tab", Rows.laid_math_bits_deBruijn64tab),("internal/strconv.uint64pow10", Rows.laid_internal_strconv_uint64pow10)] W):Lib.TabIs Tryz.prog W "internal/strconv.uint64pow10" .u64 Lib.pow10Tab:=by
  have h2:=(laidMet.tail<|laidMet.tail h)
  rw [u_Q] at h2
  exact Lib.tabIs_of_head (by kernel_rfl:Tryz.prog.globalNamed "internal/strconv.uint64pow10" = some 1) (by kernel_rfl) Tryz.underlying320 Tryz.underlying312 c_312 c_320 h2
theorem et:Tryz.prog.globalNamed "errors.errorType" = some 0:=by kernel_rfl
theorem rt:(Tryz.prog.cutTypes.find? (·.1 == "internal/reflectlite.rtype")).map (·.2)=some 292:=by kernel_rfl
theorem oneRow:((List.range 357).filter fun t=>Tryz.prog.rowNamed t [101,114,114,111,114])=[223]:=by kernel_rfl
theorem tsize:Tryz.prog.types.size=357:=by kernel_rfl
theorem u_R {W:World}(h:handlesMet Tryz.prog [("errors.errorType", Rows.laid_errors_errorType)] W):W.cell? ⟨0,0,none⟩=some (.iface 292 (.agg #[.pointer (some ⟨4,223,none⟩)])):=by
  obtain ⟨name,u,ty,H,I,J,L,G⟩:=h _ List.mem_cons_self;have en:name=[101,114,114,111,114]:=(Option.some.inj H).symm;subst en;obtain rfl:=Option.some.inj<|rt.symm.trans I;have hm:ty∈(List.range 357).filter fun t=>Tryz.prog.rowNamed t [101,114,114,111,114]:=List.mem_filter.2 ⟨List.mem_range.2 (by rw [← tsize];exact J),L⟩
  rw [oneRow] at hm
  obtain rfl:=List.mem_singleton.1 hm;have hh:typeHandle Tryz.prog 223 = .pointer (some ⟨4,223,none⟩):=by kernel_rfl
  rw [hh] at G
  simpa using World.var?_cell et G 0
theorem gd_of {W:World}(h:laidMetH Tryz.prog Rows.fnExactSumInArchiveRow.laid W):GD W:=⟨pow_of h.1,u_R h.2⟩
theorem lnR_of {r:g_}(h:k_u r):LnR r:=⟨h.1,h.2.2.2.2.1.1,h.2.2.2.2.2.1.1,h.2.2.2.2.2.2.1.1,h.2.2.2.2.2.2.2.1,h.2.2.2.2.2.1.2⟩
theorem lnD_of {d:e_}(h:k_v d):LnD d:=⟨h.1,fun r hr=>lnR_of<|h.2 r hr⟩
theorem u_S {n:Nat}(hn:4000000<=n){x0:L_}{x1:Str}(l0:p_Z x0)(l1:x1.b.length<=LEN):h_F n x0 x1=some true :=
  t_L hn ⟨l0.1.1,fun d hd=>lnD_of<|l0.1.2 d hd,l0.2.1.1⟩ l1
theorem pm_0:Tryz.f5.params[0]? = some 62:=by kernel_rfl
theorem pm_1:Tryz.f5.params[1]? = some 9:=by kernel_rfl
theorem contract (H:Type)(enc:TypeId×Value->H)(W:World)(base:Nat)(args:Array Value)(ds gs:List (DataW H))(before:List MemPlace)
    (hvs:OkWs Tryz.prog W base Tryz.f5.params args)
    (hW:DataW.Whole enc Tryz.prog Tryz.f5.params.toList Rows.fnExactSumInArchiveSpec.vars false W args.toList ds gs before)
    (hw:(DataW.weightsEach Tryz.prog (Tryz.f5.params.toList++(OpenSpec.ofChange Rows.fnExactSumInArchiveSpec).bare.plain.varTypes Tryz.prog)<|ds++gs).all (· <= reachBytes)=true) (hL:laidMetH Tryz.prog Rows.fnExactSumInArchiveRow.laid W) (hsz:4<=W.heap.size) :
    Calls Tryz.prog 5 args W fun e W'=>∃v,e = .returned v/\Rows.fnExactSumInArchiveSpec.post enc Tryz.prog Tryz.f5 false true false false W args v W':=by
  have hW':=hW;obtain ⟨p,q,I,hV,rfl,hfz,hnd⟩:=hW;have hA:DataW.TrodAll enc Tryz.prog W 0 (fun _=>true) true Tryz.f5.params.toList args.toList ds p:=I
  rw [Tryz.params5] at hA hw
  obtain ⟨rfl,rfl⟩:=trodVars_none hV;obtain ⟨w0,a5,d0,a6,p0,q0,ha,rfl,rfl,h0,k0⟩:=trodAll_cons hA;obtain ⟨G,a7,d1,a8,p1,q1,rfl,rfl,rfl,h1,k1⟩:=trodAll_cons k0;obtain ⟨rfl,rfl,rfl⟩:=trodAll_nil k1;obtain rfl:args = #[w0,G]:=by cases args;simp_all
  have J:=hvs.at 0 62 w0 pm_0 rfl
  obtain ⟨L,O⟩:=h0;have V:=j_C (i:=0) hw rfl rfl;obtain ⟨x0,r0,l0⟩:=it_62.rd enc W L _ _ O V;obtain ⟨h,rfl,_⟩:=r_s Tryz.underlying62 J;obtain ⟨a0_0,n0_0,c0_0,a0_1,n0_1,c0_1,Y,e0_0,e0_1,e0_2⟩:=q_U (show rep W W.heap.size h.toList x0 from r0);obtain rfl:h = #[.slice a0_0 n0_0 c0_0,.slice a0_1 n0_1 c0_1,vI x0.log.stored]:=by simpa using congrArg List.toArray Y
  have a0:=hvs.at 1 9 G pm_1 rfl
  obtain ⟨a1,a2⟩:=h1;have a3:=j_C (i:=1) hw rfl rfl;obtain ⟨x1,r1,l1⟩:=it_9.rd enc W a1 _ _ a2 a3;obtain ⟨z1,rfl⟩:=r_t Tryz.underlying9 a0;obtain ⟨a4,e1⟩:=a_r (show rep W W.heap.size [.string z1] x1 from r1)
  cases a4
  have hM:=u_S (n:=4000000) (Nat.le_refl _) (x0:=x0) (x1:=x1) l0 l1;have hrun:=v_7 (B:=W.heap.size) hM zr (GlW.mk0 (gd_of hL) (a_T hsz) hsz) e0_0 e0_1 e0_2 e1;refine hrun.run.mono fun e W' ⟨v,he,hb,hv⟩=>?_
  subst he;have hv':vB true=v:=hv;subst hv';refine ⟨_,rfl,r_u u_P (fun t ht=>?_) hb hW' (by kernel_rfl) Tryz.underlying4 rfl (by simp [Rows.fnExactSumInArchiveSpec])⟩
  rw [Tryz.params5] at ht
  have ht':t=62∨t=9:=by simpa using ht
  rcases ht' with rfl | rfl
  all_goals exact ⟨by kernel_rfl,of_decide_eq_true (by kernel_rfl)⟩
noncomputable def m_j (os:Os):World:={ World.holding Tryz.prog os ⟨#[],#[],[]⟩ with heap:=(((((World.holding Tryz.prog os ⟨#[],#[],[]⟩).heap.modify 2 fun | .cells _ t frozen=>.cells #[.int .u8 0,.int .u8 1,.int .u8 28,.int .u8 2,.int .u8 29,.int .u8 14,.int .u8 24,.int .u8 3,.int .u8 30,.int .u8 22,.int .u8 20,.int .u8 15,.int .u8 25,.int .u8 17,.int .u8 4,.int .u8 8,.int .u8 31,.int .u8 27,.int .u8 13,.int .u8 23,.int .u8 21,.int .u8 19,.int .u8 16,.int .u8 7,.int .u8 26,.int .u8 12,.int .u8 18,.int .u8 6,.int .u8 11,.int .u8 5,.int .u8 10,.int .u8 9] t frozen | o=>o).modify 3 fun | .cells _ t frozen=>.cells #[.int .u8 0,.int .u8 1,.int .u8 56,.int .u8 2,.int .u8 57,.int .u8 49,.int .u8 28,.int .u8 3,.int .u8 61,.int .u8 58,.int .u8 42,.int .u8 50,.int .u8 38,.int .u8 29,.int .u8 17,.int .u8 4,.int .u8 62,.int .u8 47,.int .u8 59,.int .u8 36,.int .u8 45,.int .u8 43,.int .u8 51,.int .u8 22,.int .u8 53,.int .u8 39,.int .u8 33,.int .u8 30,.int .u8 24,.int .u8 18,.int .u8 12,.int .u8 5,.int .u8 63,.int .u8 55,.int .u8 48,.int .u8 27,.int .u8 60,.int .u8 41,.int .u8 37,.int .u8 16,.int .u8 46,.int .u8 35,.int .u8 44,.int .u8 21,.int .u8 52,.int .u8 32,.int .u8 23,.int .u8 11,.int .u8 54,.int .u8 26,.int .u8 40,.int .u8 15,.int .u8 34,.int .u8 20,.int .u8 31,.int .u8 10,.int .u8 25,.int .u8 14,.int .u8 19,.int .u8 9,.int .u8 13,.int .u8 8,.int .u8 7,.int .u8 6] t frozen | o=>o).modify 1 fun | .cells _ t frozen=>.cells #[.int .u64 1,.int .u64 10,.int .u64 100,.int .u64 1000,.int .u64 10000,.int .u64 100000,.int .u64 1000000,.int .u64 10000000,.int .u64 100000000,.int .u64 1000000000,.int .u64 10000000000,.int .u64 100000000000,.int .u64 1000000000000,.int .u64 10000000000000,.int .u64 100000000000000,.int .u64 1000000000000000,.int .u64 10000000000000000,.int .u64 100000000000000000,.int .u64 1000000000000000000,.int .u64 10000000000000000000] t frozen | o=>o).modify 0 fun | .cells _ t frozen=>.cells #[.iface 292 (.agg #[.pointer (some ⟨4,223,none⟩)])] t frozen | o=>o) }
theorem u_T (os:Os):laidMetH Tryz.prog Rows.fnExactSumInArchiveRow.laid ((m_j os).forCall (fun _ _=>0) ⟨#[],#[.agg #[.slice none 0 0,.slice none 0 0,.int .i64 0],.string .empty],[]⟩).memory :=
  laidMetH_of_parts (laidMet_of_run' 8 (by kernel_rfl) (by kernel_rfl)) (by kernel_rfl)
theorem reads (os:Os){H:Type}(enc:TypeId×Value->H):∃places,DataW.whole enc Tryz.prog ((m_j os).forCall (fun _ _=>0) ⟨#[],#[.agg #[.slice none 0 0,.slice none 0 0,.int .i64 0],.string .empty],[]⟩).memory Tryz.f5.params.toList Rows.fnExactSumInArchiveSpec.vars false (#[.agg #[.slice none 0 0,.slice none 0 0,.int .i64 0],.string .empty]:Array Value).toList 8=some ([.agg [.agg [.nil],.agg [.nil,.lit<|.int .i64 0]],.lit<|.string []],[],places) :=
  ⟨[],by kernel_rfl⟩
theorem begun:(((begin Tryz.prog (fun _ _=>0) default).world.heap[3]?).bind Obj.row?).isSome=true:=by kernel_rfl
theorem u_U {W:World}(h:W.ShapedOpen Tryz.prog):4<=W.heap.size:=by
  obtain ⟨⟨z,t⟩,e⟩:=Option.isSome_iff_exists.1 begun;obtain ⟨cs,h1,_⟩:=h.1 3 z t (of_decide_eq_true (by kernel_rfl)) e;have:=(Array.getElem?_eq_some_iff.1 h1).1
  omega
end Go.Proofs.YtajhmimbhplkfaaGreatDoor.fnExactSumInArchive
