import Derived.Test.YtgpgenigfncgeaaGreatDoorVy
import Derived.Test.YtgpgenigfncgeaaGreatDoorVr
import Derived.Test.YtgpgenigfncgeaaGreatDoorCards
import Derived.Test.YtgpgenigfncgeaaGreatDoorTie
import Derived.SevenTiedAt
import Derived.Deep.DeepHandedRow
import Derived.LaidLaws
import Derived.LaidHandle
import Derived.LaidSub
import Derived.Stop.LaidErr
import Derived.ProofKit
import Derived.OpenShut
set_option linter.unusedVariables false
namespace Go.Proofs.YtgpgenigfncgeaaGreatDoor.fnExactFileParts
open Go.ChangeShapes Go.WideShapes Go.ChangeAt Go.RowKit Go.Vw Go.Vw.Dat Go.Proofs
theorem cl_9:Tryz.prog.cellsOf 9=1:=by kernel_rfl
theorem it_9:IsT Tryz.prog 9 Str (λs=>s.b.length<=LEN):=s_S Tryz.underlying9
theorem cl_3:Tryz.prog.cellsOf 3=1:=by kernel_rfl
theorem it_3:IsT Tryz.prog 3 Int (λ_=>True):=s_P Tryz.underlying3
theorem cl_4:Tryz.prog.cellsOf 4=1:=by kernel_rfl
theorem it_4:IsT Tryz.prog 4 Bool (λ_=>True):=s_R Tryz.underlying4
theorem cl_5:Tryz.prog.cellsOf 5=1:=by kernel_rfl
theorem it_5:IsT Tryz.prog 5 UInt8 (λ_=>True):=s_Q Tryz.underlying5
theorem cl_25:Tryz.prog.cellsOf 25=1:=by kernel_rfl
theorem it_25:IsT Tryz.prog 25 Bt (λl=>l.length<=LEN/\∀y∈l,True):=h_z Tryz.underlying25 it_5 cl_5<|of_decide_eq_true (by kernel_rfl)
theorem cl_105:Tryz.prog.cellsOf 105=1:=by kernel_rfl
theorem it_105:IsT Tryz.prog 105 (List Str) (λl=>l.length<=LEN/\∀y∈l,y.b.length<=LEN):=h_z Tryz.underlying105 it_9 cl_9<|of_decide_eq_true (by kernel_rfl)
theorem n_U:Tryz.prog.cellsOf 127=1:=by kernel_rfl
theorem n_V:IsT Tryz.prog 127 (List Int) (λl=>l.length<=LEN/\∀y∈l,True):=h_z Tryz.underlying127 it_3 cl_3<|of_decide_eq_true (by kernel_rfl)
theorem n_W:Tryz.prog.cellsOf 157=8:=by kernel_rfl
def j_Q (x:d_):Prop:=x.name.b.length<=LEN/\True/\True/\True/\(x.bytes.length<=LEN/\∀y∈x.bytes,True)/\(x.names.length<=LEN/\∀y∈x.names,y.b.length<=LEN)/\(x.tags.length<=LEN/\∀y∈x.tags,True)/\(x.kids.length<=LEN/\∀y∈x.kids,True)
theorem it_157:IsT Tryz.prog 157 d_ j_Q:=⟨λenc W fuel cs x h hw=>by
  obtain ⟨hl,hf⟩:=h_A Tryz.underlying157 h hw;obtain ⟨v0,G,l0⟩:=hf 0 _ rfl _ _ _ it_9;have G:rep W W.heap.size ((cs.drop 0).take (Tryz.prog.cellsOf 9)) v0:=G
  rw [cl_9] at G
  obtain ⟨v1,H,l1⟩:=hf 1 _ rfl _ _ _ it_3;have H:rep W W.heap.size ((cs.drop 1).take (Tryz.prog.cellsOf 3)) v1:=H
  rw [cl_3] at H
  obtain ⟨v2,I,l2⟩:=hf 2 _ rfl _ _ _ it_3;have I:rep W W.heap.size ((cs.drop 2).take (Tryz.prog.cellsOf 3)) v2:=I
  rw [cl_3] at I
  obtain ⟨v3,J,l3⟩:=hf 3 _ rfl _ _ _ it_4;have J:rep W W.heap.size ((cs.drop 3).take (Tryz.prog.cellsOf 4)) v3:=J
  rw [cl_4] at J
  obtain ⟨v4,L,l4⟩:=hf 4 _ rfl _ _ _ it_25;have L:rep W W.heap.size ((cs.drop 4).take (Tryz.prog.cellsOf 25)) v4:=L
  rw [cl_25] at L
  obtain ⟨v5,O,l5⟩:=hf 5 _ rfl _ _ _ it_105;have O:rep W W.heap.size ((cs.drop 5).take (Tryz.prog.cellsOf 105)) v5:=O
  rw [cl_105] at O
  obtain ⟨v6,V,l6⟩:=hf 6 _ rfl _ _ _ n_V;have V:rep W W.heap.size ((cs.drop 6).take (Tryz.prog.cellsOf 127)) v6:=V
  rw [n_U] at V
  obtain ⟨v7,Y,l7⟩:=hf 7 _ rfl _ _ _ n_V;have Y:rep W W.heap.size ((cs.drop 7).take (Tryz.prog.cellsOf 127)) v7:=Y
  rw [n_U] at Y
  have hc:=g_k [1,1,1,1,1,1,1,1] 0 cs (by simp) (by rw [hl,n_W];rfl)
  rw [List.drop_zero] at hc
  refine ⟨⟨v0,v1,v2,v3,v4,v5,v6,v7⟩,?_,⟨l0,l1,l2,l3,l4,l5,l6,l7⟩⟩
  rw [← hc]
  exact (d_m G (d_m H (d_m I (d_m J (d_m L (d_m O (d_m V Y)))))))⟩
theorem cl_89:Tryz.prog.cellsOf 89=1:=by kernel_rfl
theorem it_89:IsT Tryz.prog 89 (List d_) (λl=>l.length<=LEN/\∀y∈l,j_Q y):=h_z Tryz.underlying89 it_157 n_W<|of_decide_eq_true (by kernel_rfl)
theorem cl_91:Tryz.prog.cellsOf 91=1:=by kernel_rfl
def j_R (x:f_):Prop:=(x.rules.length<=LEN/\∀y∈x.rules,j_Q y)
theorem it_91:IsT Tryz.prog 91 f_ j_R:=⟨λenc W fuel cs x h hw=>by
  obtain ⟨hl,hf⟩:=h_A Tryz.underlying91 h hw;obtain ⟨H,G,l0⟩:=hf 0 _ rfl _ _ _ it_89;have G:rep W W.heap.size ((cs.drop 0).take (Tryz.prog.cellsOf 89)) H:=G
  rw [cl_89] at G
  have hc:=g_k [1] 0 cs (by simp) (by rw [hl,cl_91];rfl)
  rw [List.drop_zero] at hc
  refine ⟨⟨H⟩,?_,l0⟩
  rw [← hc]
  exact G⟩
theorem cl_22:Tryz.prog.cellsOf 22=1:=by kernel_rfl
theorem it_22:IsT Tryz.prog 22 (List f_) (λl=>l.length<=LEN/\∀y∈l,j_R y):=h_z Tryz.underlying22 it_91 cl_91<|of_decide_eq_true (by kernel_rfl)
theorem cl_24:Tryz.prog.cellsOf 24=1:=by kernel_rfl
def n_X (x:a_c):Prop:=(x.versions.length<=LEN/\∀y∈x.versions,j_R y)
theorem it_24:IsT Tryz.prog 24 a_c n_X:=⟨λenc W fuel cs x h hw=>by
  obtain ⟨hl,hf⟩:=h_A Tryz.underlying24 h hw;obtain ⟨H,G,l0⟩:=hf 0 _ rfl _ _ _ it_22;have G:rep W W.heap.size ((cs.drop 0).take (Tryz.prog.cellsOf 22)) H:=G
  rw [cl_22] at G
  have hc:=g_k [1] 0 cs (by simp) (by rw [hl,cl_24];rfl)
  rw [List.drop_zero] at hc
  refine ⟨⟨H⟩,?_,l0⟩
  rw [← hc]
  exact G⟩
theorem cl_27:Tryz.prog.cellsOf 27=2:=by kernel_rfl
def n_Y (x:Log):Prop:=(x.bytes.length<=LEN/\∀y∈x.bytes,True)/\True
theorem it_27:IsT Tryz.prog 27 Log n_Y:=⟨λenc W fuel cs x h hw=>by
  obtain ⟨hl,hf⟩:=h_A Tryz.underlying27 h hw;obtain ⟨I,G,l0⟩:=hf 0 _ rfl _ _ _ it_25;have G:rep W W.heap.size ((cs.drop 0).take (Tryz.prog.cellsOf 25)) I:=G
  rw [cl_25] at G
  obtain ⟨v1,H,l1⟩:=hf 1 _ rfl _ _ _ it_3;have H:rep W W.heap.size ((cs.drop 1).take (Tryz.prog.cellsOf 3)) v1:=H
  rw [cl_3] at H
  have hc:=g_k [1,1] 0 cs (by simp) (by rw [hl,cl_27];rfl)
  rw [List.drop_zero] at hc
  refine ⟨⟨I,v1⟩,?_,⟨l0,l1⟩⟩
  rw [← hc]
  exact (d_m G H)⟩
theorem cl_29:Tryz.prog.cellsOf 29=3:=by kernel_rfl
def n_Z (x:J_):Prop:=n_X x.registry/\n_Y x.log
theorem it_29:IsT Tryz.prog 29 J_ n_Z:=⟨λenc W fuel cs x h hw=>by
  obtain ⟨hl,hf⟩:=h_A Tryz.underlying29 h hw;obtain ⟨I,G,l0⟩:=hf 0 _ rfl _ _ _ it_24;have G:rep W W.heap.size ((cs.drop 0).take (Tryz.prog.cellsOf 24)) I:=G
  rw [cl_24] at G
  obtain ⟨v1,H,l1⟩:=hf 1 _ rfl _ _ _ it_27;have H:rep W W.heap.size ((cs.drop 1).take (Tryz.prog.cellsOf 27)) v1:=H
  rw [cl_27] at H
  have hc:=g_k [1,2] 0 cs (by simp) (by rw [hl,cl_29];rfl)
  rw [List.drop_zero] at hc
  refine ⟨⟨I,v1⟩,?_,⟨l0,l1⟩⟩
  rw [← hc]
  exact (d_m G H)⟩
theorem own:ownKnob Tryz.prog.godebug=none:=by kernel_rfl
theorem s_8:laidOutB Tryz.prog=true:=by kernel_rfl
theorem c_253:Tryz.prog.cellsOf 253=20:=by kernel_rfl
theorem c_247:Tryz.prog.cellsOf 247=1:=by kernel_rfl
theorem s_9:(Rows.laid_internal_strconv_uint64pow10:DataW Unit)=Lib.tabData .u64 Lib.pow10Tab:=by kernel_rfl
theorem pow_of {W:World}(h:laidMet Tryz.prog [("math/bits.deBruijn32tab", Rows.laid_math_bits_deBruijn32tab),("math/bits.deBruijn64tab", Rows.laid_math_bits_deBruijn64tab),("internal/strconv.uint64pow10", Rows.laid_internal_strconv_uint64pow10)] W):Lib.TabIs Tryz.prog W "internal/strconv.uint64pow10" .u64 Lib.pow10Tab:=by
  have h2:=(laidMet.tail<|laidMet.tail h)
  rw [s_9] at h2
  exact Lib.tabIs_of_head (by kernel_rfl:Tryz.prog.globalNamed "internal/strconv.uint64pow10" = some 1) (by kernel_rfl) Tryz.underlying253 Tryz.underlying247 c_247 c_253 h2
theorem et:Tryz.prog.globalNamed "errors.errorType" = some 0:=by kernel_rfl
theorem rt:(Tryz.prog.cutTypes.find? (·.1 == "internal/reflectlite.rtype")).map (·.2)=some 230:=by kernel_rfl
theorem oneRow:((List.range 291).filter λt=>Tryz.prog.rowNamed t [101,114,114,111,114])=[174]:=by kernel_rfl
theorem tsize:Tryz.prog.types.size=291:=by kernel_rfl
theorem s_a {W:World}(h:handlesMet Tryz.prog [("errors.errorType", Rows.laid_errors_errorType)] W):W.cell? ⟨0,0,none⟩=some (.iface 230 (.agg #[.pointer (some ⟨4,174,none⟩)])):=by
  obtain ⟨name,u,ty,H,I,J,L,G⟩:=h _ List.mem_cons_self;have en:name=[101,114,114,111,114]:=(Option.some.inj H).symm;subst en;obtain rfl:=Option.some.inj<|rt.symm.trans I;have hm:ty∈(List.range 291).filter λt=>Tryz.prog.rowNamed t [101,114,114,111,114]:=List.mem_filter.2 ⟨List.mem_range.2 (by rw [← tsize];exact J),L⟩
  rw [oneRow] at hm
  obtain rfl:=List.mem_singleton.1 hm;have hh:typeHandle Tryz.prog 174 = .pointer (some ⟨4,174,none⟩):=by kernel_rfl
  rw [hh] at G
  simpa using World.var?_cell et G 0
theorem gd_of {W:World}(h:laidMetH Tryz.prog Rows.fnExactFilePartsRow.laid W):GD W:=⟨pow_of h.1,s_a h.2⟩
theorem lnR_of {r:d_}(h:j_Q r):LnR r:=⟨h.1,h.2.2.2.2.1.1,h.2.2.2.2.2.1.1,h.2.2.2.2.2.2.1.1,h.2.2.2.2.2.2.2.1,h.2.2.2.2.2.1.2⟩
theorem lnD_of {d:f_}(h:j_R d):LnD d:=⟨h.1,λr hr=>lnR_of<|h.2 r hr⟩
theorem s_b {n:Nat}(hn:4000000<=n){x0:J_}{x1 x2:Str}(l0:n_Z x0)(l1:x1.b.length<=LEN)(h:x2.b.length<=LEN):i_4 n x0 x1 x2=some true :=
  v_l hn ⟨l0.1.1,λd hd=>lnD_of<|l0.1.2 d hd,l0.2.1.1⟩ l1 h
theorem pm_0:Tryz.f3.params[0]? = some 29:=by kernel_rfl
theorem pm_1:Tryz.f3.params[1]? = some 9:=by kernel_rfl
theorem pm_2:Tryz.f3.params[2]? = some 9:=by kernel_rfl
theorem contract (H:Type)(enc:TypeId×Value->H)(W:World)(base:Nat)(args:Array Value)(ds gs:List (DataW H))(before:List MemPlace)
    (hvs:OkWs Tryz.prog W base Tryz.f3.params args)
    (hW:DataW.Whole enc Tryz.prog Tryz.f3.params.toList Rows.fnExactFilePartsSpec.vars false W args.toList ds gs before)
    (hw:(DataW.weightsEach Tryz.prog (Tryz.f3.params.toList++(OpenSpec.ofChange Rows.fnExactFilePartsSpec).bare.plain.varTypes Tryz.prog)<|ds++gs).all (· <= reachBytes)=true) (hL:laidMetH Tryz.prog Rows.fnExactFilePartsRow.laid W) (hsz:4<=W.heap.size) :
    Calls Tryz.prog 3 args W λe W'=>∃v,e = .returned v/\Rows.fnExactFilePartsSpec.post enc Tryz.prog Tryz.f3 false true false false W args v W':=by
  have hW':=hW;obtain ⟨p,q,J,hV,rfl,hfz,hnd⟩:=hW;have hA:DataW.TrodAll enc Tryz.prog W 0 (λ_=>true) true Tryz.f3.params.toList args.toList ds p:=J
  rw [Tryz.params3] at hA hw
  obtain ⟨rfl,rfl⟩:=trodVars_none hV;obtain ⟨w0,ab,d0,ad,p0,q0,ha,rfl,rfl,h0,k0⟩:=trodAll_cons hA;obtain ⟨G,ae,d1,af,p1,q1,rfl,rfl,rfl,h1,k1⟩:=trodAll_cons k0;obtain ⟨I,ah,d2,ai,p2,q2,rfl,rfl,rfl,h2,k2⟩:=trodAll_cons k1;obtain ⟨rfl,rfl,rfl⟩:=trodAll_nil k2;obtain rfl:args = #[w0,G,I]:=by cases args;simp_all
  have L:=hvs.at 0 29 w0 pm_0 rfl
  obtain ⟨O,V⟩:=h0;have Y:=h_y (i:=0) hw rfl rfl;obtain ⟨x0,r0,l0⟩:=it_29.rd enc W O _ _ V Y;obtain ⟨h,rfl,_⟩:=s_U Tryz.underlying29 L;obtain ⟨a0_0,n0_0,c0_0,a0_1,n0_1,c0_1,a0,e0_0,e0_1,e0_2⟩:=r_t (show rep W W.heap.size h.toList x0 from r0);obtain rfl:h = #[.slice a0_0 n0_0 c0_0,.slice a0_1 n0_1 c0_1,vI x0.log.stored]:=by simpa using congrArg List.toArray a0
  have a1:=hvs.at 1 9 G pm_1 rfl
  obtain ⟨a2,a3⟩:=h1;have a4:=h_y (i:=1) hw rfl rfl;obtain ⟨x1,r1,l1⟩:=it_9.rd enc W a2 _ _ a3 a4;obtain ⟨z1,rfl⟩:=o_b Tryz.underlying9 a1;obtain ⟨a5,e1⟩:=a_n (show rep W W.heap.size [.string z1] x1 from r1)
  cases a5
  have a6:=hvs.at 2 9 I pm_2 rfl
  obtain ⟨a7,a8⟩:=h2;have a9:=h_y (i:=2) hw rfl rfl;obtain ⟨x2,r2,l2⟩:=it_9.rd enc W a7 _ _ a8 a9;obtain ⟨z2,rfl⟩:=o_b Tryz.underlying9 a6;obtain ⟨aa,e2⟩:=a_n (show rep W W.heap.size [.string z2] x2 from r2)
  cases aa
  have hM:=s_b (n:=4000000) (Nat.le_refl _) (x0:=x0) (x1:=x1) (x2:=x2) l0 l1 l2;have hrun:=s_q (B:=W.heap.size) hM zr (GlW.mk0 (gd_of hL) (a_K hsz) hsz) e0_0 e0_1 e0_2 e1 e2;refine hrun.run.mono λe W' ⟨v,he,hb,hv⟩=>?_
  subst he;have hv':vB true=v:=hv;subst hv';refine ⟨_,rfl,s_V s_8 (λt ht=>?_) hb hW' (by kernel_rfl) Tryz.underlying4 rfl (by simp [Rows.fnExactFilePartsSpec])⟩
  rw [Tryz.params3] at ht
  have ht':t=29∨t=9∨t=9:=by simpa using ht
  rcases ht' with rfl | rfl | rfl
  all_goals exact ⟨by kernel_rfl,of_decide_eq_true (by kernel_rfl)⟩
noncomputable def l_N (os:Os):World:={ World.holding Tryz.prog os ⟨#[],#[],[]⟩ with heap:=(((((World.holding Tryz.prog os ⟨#[],#[],[]⟩).heap.modify 2 λ| .cells _ t frozen=>.cells #[.int .u8 0,.int .u8 1,.int .u8 28,.int .u8 2,.int .u8 29,.int .u8 14,.int .u8 24,.int .u8 3,.int .u8 30,.int .u8 22,.int .u8 20,.int .u8 15,.int .u8 25,.int .u8 17,.int .u8 4,.int .u8 8,.int .u8 31,.int .u8 27,.int .u8 13,.int .u8 23,.int .u8 21,.int .u8 19,.int .u8 16,.int .u8 7,.int .u8 26,.int .u8 12,.int .u8 18,.int .u8 6,.int .u8 11,.int .u8 5,.int .u8 10,.int .u8 9] t frozen | o=>o).modify 3 λ| .cells _ t frozen=>.cells #[.int .u8 0,.int .u8 1,.int .u8 56,.int .u8 2,.int .u8 57,.int .u8 49,.int .u8 28,.int .u8 3,.int .u8 61,.int .u8 58,.int .u8 42,.int .u8 50,.int .u8 38,.int .u8 29,.int .u8 17,.int .u8 4,.int .u8 62,.int .u8 47,.int .u8 59,.int .u8 36,.int .u8 45,.int .u8 43,.int .u8 51,.int .u8 22,.int .u8 53,.int .u8 39,.int .u8 33,.int .u8 30,.int .u8 24,.int .u8 18,.int .u8 12,.int .u8 5,.int .u8 63,.int .u8 55,.int .u8 48,.int .u8 27,.int .u8 60,.int .u8 41,.int .u8 37,.int .u8 16,.int .u8 46,.int .u8 35,.int .u8 44,.int .u8 21,.int .u8 52,.int .u8 32,.int .u8 23,.int .u8 11,.int .u8 54,.int .u8 26,.int .u8 40,.int .u8 15,.int .u8 34,.int .u8 20,.int .u8 31,.int .u8 10,.int .u8 25,.int .u8 14,.int .u8 19,.int .u8 9,.int .u8 13,.int .u8 8,.int .u8 7,.int .u8 6] t frozen | o=>o).modify 1 λ| .cells _ t frozen=>.cells #[.int .u64 1,.int .u64 10,.int .u64 100,.int .u64 1000,.int .u64 10000,.int .u64 100000,.int .u64 1000000,.int .u64 10000000,.int .u64 100000000,.int .u64 1000000000,.int .u64 10000000000,.int .u64 100000000000,.int .u64 1000000000000,.int .u64 10000000000000,.int .u64 100000000000000,.int .u64 1000000000000000,.int .u64 10000000000000000,.int .u64 100000000000000000,.int .u64 1000000000000000000,.int .u64 10000000000000000000] t frozen | o=>o).modify 0 λ| .cells _ t frozen=>.cells #[.iface 230 (.agg #[.pointer (some ⟨4,174,none⟩)])] t frozen | o=>o) }
theorem s_c (os:Os):laidMetH Tryz.prog Rows.fnExactFilePartsRow.laid ((l_N os).forCall (λ_ _=>0) ⟨#[],#[.agg #[.slice none 0 0,.slice none 0 0,.int .i64 0],.string .empty,.string .empty],[]⟩).memory :=
  laidMetH_of_parts (laidMet_of_run' 8 (by kernel_rfl) (by kernel_rfl)) (by kernel_rfl)
theorem reads (os:Os){H:Type}(enc:TypeId×Value->H):∃places,DataW.whole enc Tryz.prog ((l_N os).forCall (λ_ _=>0) ⟨#[],#[.agg #[.slice none 0 0,.slice none 0 0,.int .i64 0],.string .empty,.string .empty],[]⟩).memory Tryz.f3.params.toList Rows.fnExactFilePartsSpec.vars false (#[.agg #[.slice none 0 0,.slice none 0 0,.int .i64 0],.string .empty,.string .empty]:Array Value).toList 8=some ([.agg [.agg [.nil],.agg [.nil,.lit<|.int .i64 0]],.lit<|.string [],.lit<|.string []],[],places) :=
  ⟨[],by kernel_rfl⟩
theorem begun:(((begin Tryz.prog (λ_ _=>0) default).world.heap[3]?).bind Obj.row?).isSome=true:=by kernel_rfl
theorem s_d {W:World}(h:W.ShapedOpen Tryz.prog):4<=W.heap.size:=by
  obtain ⟨⟨z,t⟩,e⟩:=Option.isSome_iff_exists.1 begun;obtain ⟨cs,h1,_⟩:=h.1 3 z t (of_decide_eq_true (by kernel_rfl)) e;have:=(Array.getElem?_eq_some_iff.1 h1).1
  omega
end Go.Proofs.YtgpgenigfncgeaaGreatDoor.fnExactFileParts
