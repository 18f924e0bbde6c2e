/- What the last text needs. -/
import Derived.Test.YtnncfaaebnkcbaaGreatDoorVwRW3
import Derived.Test.YtnncfaaebnkcbaaGreatDoorVwP104
import Derived.Test.YtnncfaaebnkcbaaGreatDoorCards
import Derived.Test.YtnncfaaebnkcbaaGreatDoorTie
import Derived.SevenTiedAt
import Derived.Deep.DeepHandedRow
import Derived.LaidLaws
import Derived.LaidHandle
import Derived.LaidSub
import Derived.Stop.LaidErr
import Derived.ProofKit
import Derived.OpenShut
set_option linter.unusedVariables false
namespace Go.Proofs.YtnncfaaebnkcbaaGreatDoor.fnExactEditFile
open Go.ChangeShapes Go.WideShapes Go.ChangeAt Go.RowKit Go.Vw Go.Vw.Dat Go.Proofs
theorem cl_9:Tryz.prog.cellsOf 9=1:=by kernel_rfl
theorem it_9:IsT Tryz.prog 9 Str (fun s=>s.b.length<=LEN):=o_B Tryz.underlying9
theorem cl_3:Tryz.prog.cellsOf 3=1:=by kernel_rfl
theorem it_3:IsT Tryz.prog 3 Int (fun _=>True):=o_y Tryz.underlying3
theorem cl_4:Tryz.prog.cellsOf 4=1:=by kernel_rfl
theorem it_4:IsT Tryz.prog 4 Bool (fun _=>True):=o_A Tryz.underlying4
theorem cl_5:Tryz.prog.cellsOf 5=1:=by kernel_rfl
theorem it_5:IsT Tryz.prog 5 UInt8 (fun _=>True):=o_z Tryz.underlying5
theorem cl_25:Tryz.prog.cellsOf 25=1:=by kernel_rfl
theorem k_e:IsT Tryz.prog 25 (List UInt8) (fun l=>l.length<=LEN/\∀y∈l,True):=i_4 Tryz.underlying25 it_5 cl_5<|of_decide_eq_true (by kernel_rfl)
theorem cl_63:Tryz.prog.cellsOf 63=1:=by kernel_rfl
theorem it_63:IsT Tryz.prog 63 (List Str) (fun l=>l.length<=LEN/\∀y∈l,y.b.length<=LEN):=i_4 Tryz.underlying63 it_9 cl_9<|of_decide_eq_true (by kernel_rfl)
theorem cl_64:Tryz.prog.cellsOf 64=1:=by kernel_rfl
theorem it_64:IsT Tryz.prog 64 (List Int) (fun l=>l.length<=LEN/\∀y∈l,True):=i_4 Tryz.underlying64 it_3 cl_3<|of_decide_eq_true (by kernel_rfl)
theorem cl_66:Tryz.prog.cellsOf 66=8:=by kernel_rfl
def i_C (x:b_):Prop:=x.name.b.length<=LEN/\True/\True/\True/\(x.bytes.length<=LEN/\∀y∈x.bytes,True)/\(x.names.length<=LEN/\∀y∈x.names,y.b.length<=LEN)/\(x.tags.length<=LEN/\∀y∈x.tags,True)/\(x.kids.length<=LEN/\∀y∈x.kids,True)
theorem it_66:IsT Tryz.prog 66 b_ i_C:=⟨fun enc W fuel cs x h hw=>by
  obtain ⟨hl,hf⟩:=l_E Tryz.underlying66 h hw;obtain ⟨v0,G,l0⟩:=hf 0 _ rfl _ _ _ it_9;have G:rep W W.heap.size ((cs.drop 0).take (Tryz.prog.cellsOf 9)) v0:=G
  rw [cl_9] at G
  obtain ⟨v1,H,l1⟩:=hf 1 _ rfl _ _ _ it_3;have H:rep W W.heap.size ((cs.drop 1).take (Tryz.prog.cellsOf 3)) v1:=H
  rw [cl_3] at H
  obtain ⟨v2,I,l2⟩:=hf 2 _ rfl _ _ _ it_3;have I:rep W W.heap.size ((cs.drop 2).take (Tryz.prog.cellsOf 3)) v2:=I
  rw [cl_3] at I
  obtain ⟨v3,J,l3⟩:=hf 3 _ rfl _ _ _ it_4;have J:rep W W.heap.size ((cs.drop 3).take (Tryz.prog.cellsOf 4)) v3:=J
  rw [cl_4] at J
  obtain ⟨v4,L,l4⟩:=hf 4 _ rfl _ _ _ k_e;have L:rep W W.heap.size ((cs.drop 4).take (Tryz.prog.cellsOf 25)) v4:=L
  rw [cl_25] at L
  obtain ⟨v5,O,l5⟩:=hf 5 _ rfl _ _ _ it_63;have O:rep W W.heap.size ((cs.drop 5).take (Tryz.prog.cellsOf 63)) v5:=O
  rw [cl_63] at O
  obtain ⟨v6,V,l6⟩:=hf 6 _ rfl _ _ _ it_64;have V:rep W W.heap.size ((cs.drop 6).take (Tryz.prog.cellsOf 64)) v6:=V
  rw [cl_64] at V
  obtain ⟨v7,Y,l7⟩:=hf 7 _ rfl _ _ _ it_64;have Y:rep W W.heap.size ((cs.drop 7).take (Tryz.prog.cellsOf 64)) v7:=Y
  rw [cl_64] at Y
  have hc:=i_5 [1,1,1,1,1,1,1,1] 0 cs (by simp) (by rw [hl,cl_66];rfl)
  rw [List.drop_zero] at hc
  refine ⟨⟨v0,v1,v2,v3,v4,v5,v6,v7⟩,?_,⟨l0,l1,l2,l3,l4,l5,l6,l7⟩⟩
  rw [← hc]
  exact (e_x G (e_x H (e_x I (e_x J (e_x L (e_x O (e_x V Y)))))))⟩
theorem cl_22:Tryz.prog.cellsOf 22=1:=by kernel_rfl
theorem it_22:IsT Tryz.prog 22 (List b_) (fun l=>l.length<=LEN/\∀y∈l,i_C y):=i_4 Tryz.underlying22 it_66 cl_66<|of_decide_eq_true (by kernel_rfl)
theorem cl_24:Tryz.prog.cellsOf 24=1:=by kernel_rfl
def n_7 (x:f_):Prop:=(x.rules.length<=LEN/\∀y∈x.rules,i_C y)
theorem it_24:IsT Tryz.prog 24 f_ n_7:=⟨fun enc W fuel cs x h hw=>by
  obtain ⟨hl,hf⟩:=l_E Tryz.underlying24 h hw;obtain ⟨H,G,l0⟩:=hf 0 _ rfl _ _ _ it_22;have G:rep W W.heap.size ((cs.drop 0).take (Tryz.prog.cellsOf 22)) H:=G
  rw [cl_22] at G
  have hc:=i_5 [1] 0 cs (by simp) (by rw [hl,cl_24];rfl)
  rw [List.drop_zero] at hc
  refine ⟨⟨H⟩,?_,l0⟩
  rw [← hc]
  exact G⟩
theorem cl_26:Tryz.prog.cellsOf 26=1:=by kernel_rfl
theorem cl_28:Tryz.prog.cellsOf 28=3:=by kernel_rfl
theorem i_D:∀F,d_U Tryz.prog 28 Val LnV F/\d_U Tryz.prog 26 (List Val) (fun l=>l.length<=LEN/\∀y∈l,LnV y) F
  | 0=>⟨l_I,l_I⟩
  | F+1=>⟨⟨fun enc W fuel cs x hF h hw=>by
    obtain ⟨hl,hf⟩:=o_G Tryz.underlying28 hF h hw;obtain ⟨J,G,l0⟩:=hf 0 _ rfl _ _ _<|it_3.f F;obtain ⟨v1,H,l1⟩:=hf 1 _ rfl _ _ _<|k_e.f F;obtain ⟨v2,I,L⟩:=hf 2 _ rfl _ _ _ (i_D F).2;have G:rep W W.heap.size ((cs.drop 0).take (Tryz.prog.cellsOf 3)) J:=G;have H:rep W W.heap.size ((cs.drop 1).take (Tryz.prog.cellsOf 25)) v1:=H;have I:rep W W.heap.size ((cs.drop 2).take (Tryz.prog.cellsOf 26)) v2:=I
    rw [cl_3] at G
    rw [cl_25] at H
    rw [cl_26] at I
    have hc:=i_5 [1,1,1] 0 cs (by simp) (by rw [hl,cl_28];rfl)
    rw [List.drop_zero] at hc
    obtain ⟨O,V⟩:=a_1 G;obtain ⟨a1,n1,c1,Y,p1⟩:=d_P H;obtain ⟨a2,n2,c2,e2,p2⟩:=d_P I;refine ⟨.mk J v1 v2,?_,.mk l1.1 L.1 L.2⟩
    rw [← hc]
    unfold e_I e_I e_I e_I f_o f_o f_o
    rw [O,Y,e2]
    exact Val_mk (x:=.mk J v1 v2) V p1 p2⟩,
    o_F Tryz.underlying26 (i_D F).1 cl_28 (of_decide_eq_true (by kernel_rfl))⟩
theorem it_28:IsT Tryz.prog 28 Val LnV:=l_H fun F=>(i_D F).1
theorem it_26:IsT Tryz.prog 26 (List Val) (fun l=>l.length<=LEN/\∀y∈l,LnV y):=l_H fun F=>(i_D F).2
theorem own:ownKnob Tryz.prog.godebug=none:=by kernel_rfl
theorem r_v:laidOutB Tryz.prog=true:=by kernel_rfl
theorem c_198:Tryz.prog.cellsOf 198=20:=by kernel_rfl
theorem c_192:Tryz.prog.cellsOf 192=1:=by kernel_rfl
theorem r_w:(Rows.laid_internal_strconv_uint64pow10:DataW Unit)=Lib.tabData .u64 Lib.pow10Tab:=by kernel_rfl
theorem pow_of {W:World}(h:laidMet Tryz.prog [("math/bits.deBruijn32tab", Rows.laid_math_bits_deBruijn32tab),("math/bits.deBruijn64tab", Rows.laid_math_bits_deBruijn64tab),("internal/strconv.uint64pow10", Rows.laid_internal_strconv_uint64pow10)] W):Lib.TabIs Tryz.prog W "internal/strconv.uint64pow10" .u64 Lib.pow10Tab:=by
  have h2:=(laidMet.tail<|laidMet.tail h)
  rw [r_w] at h2
  exact Lib.tabIs_of_head (by kernel_rfl:Tryz.prog.globalNamed "internal/strconv.uint64pow10" = some 1) (by kernel_rfl) Tryz.underlying198 Tryz.underlying192 c_192 c_198 h2
theorem et:Tryz.prog.globalNamed "errors.errorType" = some 0:=by kernel_rfl
theorem rt:(Tryz.prog.cutTypes.find? (·.1 == "internal/reflectlite.rtype")).map (·.2)=some 163:=by kernel_rfl
theorem oneRow:((List.range 235).filter fun t=>Tryz.prog.rowNamed t [101,114,114,111,114])=[99]:=by kernel_rfl
theorem tsize:Tryz.prog.types.size=235:=by kernel_rfl
theorem r_x {W:World}(h:handlesMet Tryz.prog [("errors.errorType", Rows.laid_errors_errorType)] W):W.cell? ⟨0,0,none⟩=some (.iface 163 (.agg #[.pointer (some ⟨4,99,none⟩)])):=by
  obtain ⟨name,u,ty,H,I,J,L,G⟩:=h _ List.mem_cons_self;have en:name=[101,114,114,111,114]:=(Option.some.inj H).symm;subst en;obtain rfl:=Option.some.inj<|rt.symm.trans I;have hm:ty∈(List.range 235).filter fun t=>Tryz.prog.rowNamed t [101,114,114,111,114]:=List.mem_filter.2 ⟨List.mem_range.2 (by rw [← tsize];exact J),L⟩
  rw [oneRow] at hm
  obtain rfl:=List.mem_singleton.1 hm;have hh:typeHandle Tryz.prog 99 = .pointer (some ⟨4,99,none⟩):=by kernel_rfl
  rw [hh] at G
  simpa using World.var?_cell et G 0
theorem gd_of {W:World}(h:laidMetH Tryz.prog Rows.fnExactEditFileRow.laid W):GD W:=⟨pow_of h.1,r_x h.2⟩
theorem lnR_of {r:b_}(h:i_C r):LnR r:=⟨h.1,h.2.2.2.2.1.1,h.2.2.2.2.2.1.1,h.2.2.2.2.2.2.1.1,h.2.2.2.2.2.2.2.1,h.2.2.2.2.2.1.2⟩
theorem r_y {n:Nat}(hn:4000000<=n){x0:f_}{x1:List UInt8}{x2:Str}{x3:Val}(l0:n_7 x0)(l1:x1.length<=LEN/\∀y∈x1,True)(G:x2.b.length<=LEN)(H:LnV x3):g_p n x0 x1 x2 x3=some true :=
  p_x hn ⟨l0.1,fun r hr=>lnR_of<|l0.2 r hr⟩ l1.1 G H
theorem pm_0:Tryz.f3.params[0]? = some 24:=by kernel_rfl
theorem pm_1:Tryz.f3.params[1]? = some 25:=by kernel_rfl
theorem pm_2:Tryz.f3.params[2]? = some 9:=by kernel_rfl
theorem pm_3:Tryz.f3.params[3]? = some 28:=by kernel_rfl
theorem contract (H:Type)(enc:TypeId×Value->H)(W:World)(base:Nat)(args:Array Value)(ds gs:List (DataW H))(before:List MemPlace)
    (hvs:OkWs Tryz.prog W base Tryz.f3.params args)
    (hW:DataW.Whole enc Tryz.prog Tryz.f3.params.toList Rows.fnExactEditFileSpec.vars false W args.toList ds gs before)
    (hw:(DataW.weightsEach Tryz.prog (Tryz.f3.params.toList++(OpenSpec.ofChange Rows.fnExactEditFileSpec).bare.plain.varTypes Tryz.prog)<|ds++gs).all (· <= reachBytes)=true) (hL:laidMetH Tryz.prog Rows.fnExactEditFileRow.laid W) (hsz:4<=W.heap.size) :
    Calls Tryz.prog 3 args W fun e W'=>∃v,e = .returned v/\Rows.fnExactEditFileSpec.post enc Tryz.prog Tryz.f3 false true false false W args v W':=by
  have hW':=hW;obtain ⟨p,q,V,hV,rfl,hfz,hnd⟩:=hW;have hA:DataW.TrodAll enc Tryz.prog W 0 (fun _=>true) true Tryz.f3.params.toList args.toList ds p:=V
  rw [Tryz.params3] at hA hw
  obtain ⟨rfl,rfl⟩:=trodVars_none hV;obtain ⟨w0,am,d0,an,p0,q0,ha,rfl,rfl,h0,k0⟩:=trodAll_cons hA;obtain ⟨J,ao,d1,ap,p1,q1,rfl,rfl,rfl,h1,k1⟩:=trodAll_cons k0;obtain ⟨L,aq,d2,ar,p2,q2,rfl,rfl,rfl,h2,k2⟩:=trodAll_cons k1;obtain ⟨O,au,d3,av,p3,q3,rfl,rfl,rfl,h3,k3⟩:=trodAll_cons k2;obtain ⟨rfl,rfl,rfl⟩:=trodAll_nil k3;obtain rfl:args = #[w0,J,L,O]:=by cases args;simp_all
  have Y:=hvs.at 0 24 w0 pm_0 rfl
  obtain ⟨a0,a2⟩:=h0;have a3:=e_H (i:=0) hw rfl rfl;obtain ⟨x0,r0,l0⟩:=it_24.rd enc W a0 _ _ a2 a3;obtain ⟨G,rfl,_⟩:=l_F Tryz.underlying24 Y;obtain ⟨a0_0,n0_0,c0_0,a4,e0_0⟩:=n_X (show rep W W.heap.size G.toList x0 from r0);obtain rfl:G = #[.slice a0_0 n0_0 c0_0]:=by simpa using congrArg List.toArray a4
  have a5:=hvs.at 1 25 J pm_1 rfl
  obtain ⟨a6,a7⟩:=h1;have a8:=e_H (i:=1) hw rfl rfl;obtain ⟨x1,r1,l1⟩:=k_e.rd enc W a6 _ _ a7 a8;obtain ⟨a1,n1,c1,rfl⟩:=o_C Tryz.underlying25 a5;obtain ⟨a1',n1',c1',a9,e1⟩:=d_P (show rep W W.heap.size [.slice a1 n1 c1] x1 from r1)
  cases a9
  have aa:=hvs.at 2 9 L pm_2 rfl
  obtain ⟨ab,ad⟩:=h2;have ae:=e_H (i:=2) hw rfl rfl;obtain ⟨x2,r2,l2⟩:=it_9.rd enc W ab _ _ ad ae;obtain ⟨z2,rfl⟩:=o_D Tryz.underlying9 aa;obtain ⟨af,e2⟩:=b_9 (show rep W W.heap.size [.string z2] x2 from r2)
  cases af
  have ah:=hvs.at 3 28 O pm_3 rfl
  obtain ⟨ai,aj⟩:=h3;have ak:=e_H (i:=3) hw rfl rfl;obtain ⟨x3,r3,l3⟩:=it_28.rd enc W ai _ _ aj ak;obtain ⟨I,rfl,_⟩:=l_F Tryz.underlying28 ah;obtain ⟨a3_1,n3_1,c3_1,a3_2,n3_2,c3_2,al,e3_0,e3_1,e3_2⟩:=c_a (show rep W W.heap.size I.toList x3 from r3);obtain rfl:I = #[vI x3.number,.slice a3_1 n3_1 c3_1,.slice a3_2 n3_2 c3_2]:=by simpa using congrArg List.toArray al
  have hM:=r_y (n:=4000000) (Nat.le_refl _) (x0:=x0) (x1:=x1) (x2:=x2) (x3:=x3) l0 l1 l2 l3;have hrun:=r_G (B:=W.heap.size) hM zr (GlW.mk0 (gd_of hL) (a_I hsz) hsz) e0_0 e1 e2 e3_0 e3_1 e3_2;refine hrun.run.mono fun e W' ⟨v,he,hb,hv⟩=>?_
  subst he;have hv':vB true=v:=hv;subst hv';refine ⟨_,rfl,o_E r_v (fun t ht=>?_) hb hW' (by kernel_rfl) Tryz.underlying4 rfl (by simp [Rows.fnExactEditFileSpec])⟩
  rw [Tryz.params3] at ht
  have ht':t=24∨t=25∨t=9∨t=28:=by simpa using ht
  rcases ht' with rfl | rfl | rfl | rfl
  all_goals exact ⟨by kernel_rfl,of_decide_eq_true (by kernel_rfl)⟩
noncomputable def k_f (os:Os):World:={ World.holding Tryz.prog os ⟨#[],#[],[]⟩ with heap:=(((((World.holding Tryz.prog os ⟨#[],#[],[]⟩).heap.modify 2 fun | .cells _ t frozen=>.cells #[.int .u8 0,.int .u8 1,.int .u8 28,.int .u8 2,.int .u8 29,.int .u8 14,.int .u8 24,.int .u8 3,.int .u8 30,.int .u8 22,.int .u8 20,.int .u8 15,.int .u8 25,.int .u8 17,.int .u8 4,.int .u8 8,.int .u8 31,.int .u8 27,.int .u8 13,.int .u8 23,.int .u8 21,.int .u8 19,.int .u8 16,.int .u8 7,.int .u8 26,.int .u8 12,.int .u8 18,.int .u8 6,.int .u8 11,.int .u8 5,.int .u8 10,.int .u8 9] t frozen | o=>o).modify 3 fun | .cells _ t frozen=>.cells #[.int .u8 0,.int .u8 1,.int .u8 56,.int .u8 2,.int .u8 57,.int .u8 49,.int .u8 28,.int .u8 3,.int .u8 61,.int .u8 58,.int .u8 42,.int .u8 50,.int .u8 38,.int .u8 29,.int .u8 17,.int .u8 4,.int .u8 62,.int .u8 47,.int .u8 59,.int .u8 36,.int .u8 45,.int .u8 43,.int .u8 51,.int .u8 22,.int .u8 53,.int .u8 39,.int .u8 33,.int .u8 30,.int .u8 24,.int .u8 18,.int .u8 12,.int .u8 5,.int .u8 63,.int .u8 55,.int .u8 48,.int .u8 27,.int .u8 60,.int .u8 41,.int .u8 37,.int .u8 16,.int .u8 46,.int .u8 35,.int .u8 44,.int .u8 21,.int .u8 52,.int .u8 32,.int .u8 23,.int .u8 11,.int .u8 54,.int .u8 26,.int .u8 40,.int .u8 15,.int .u8 34,.int .u8 20,.int .u8 31,.int .u8 10,.int .u8 25,.int .u8 14,.int .u8 19,.int .u8 9,.int .u8 13,.int .u8 8,.int .u8 7,.int .u8 6] t frozen | o=>o).modify 1 fun | .cells _ t frozen=>.cells #[.int .u64 1,.int .u64 10,.int .u64 100,.int .u64 1000,.int .u64 10000,.int .u64 100000,.int .u64 1000000,.int .u64 10000000,.int .u64 100000000,.int .u64 1000000000,.int .u64 10000000000,.int .u64 100000000000,.int .u64 1000000000000,.int .u64 10000000000000,.int .u64 100000000000000,.int .u64 1000000000000000,.int .u64 10000000000000000,.int .u64 100000000000000000,.int .u64 1000000000000000000,.int .u64 10000000000000000000] t frozen | o=>o).modify 0 fun | .cells _ t frozen=>.cells #[.iface 163 (.agg #[.pointer (some ⟨4,99,none⟩)])] t frozen | o=>o) }
theorem r_z (os:Os):laidMetH Tryz.prog Rows.fnExactEditFileRow.laid ((k_f os).forCall (fun _ _=>0) ⟨#[],#[.agg #[.slice none 0 0],.slice none 0 0,.string .empty,.agg #[.int .i64 0,.slice none 0 0,.slice none 0 0]],[]⟩).memory :=
  laidMetH_of_parts (laidMet_of_run' 8 (by kernel_rfl) (by kernel_rfl)) (by kernel_rfl)
theorem reads (os:Os){H:Type}(enc:TypeId×Value->H):∃places,DataW.whole enc Tryz.prog ((k_f os).forCall (fun _ _=>0) ⟨#[],#[.agg #[.slice none 0 0],.slice none 0 0,.string .empty,.agg #[.int .i64 0,.slice none 0 0,.slice none 0 0]],[]⟩).memory Tryz.f3.params.toList Rows.fnExactEditFileSpec.vars false (#[.agg #[.slice none 0 0],.slice none 0 0,.string .empty,.agg #[.int .i64 0,.slice none 0 0,.slice none 0 0]]:Array Value).toList 8=some ([.agg [.nil],.nil,.lit<|.string [],.agg [.lit (.int .i64 0),.nil,.nil]],[],places) :=
  ⟨[],by kernel_rfl⟩
theorem begun:(((begin Tryz.prog (fun _ _=>0) default).world.heap[3]?).bind Obj.row?).isSome=true:=by kernel_rfl
theorem r_A {W:World}(h:W.ShapedOpen Tryz.prog):4<=W.heap.size:=by
  obtain ⟨⟨z,t⟩,e⟩:=Option.isSome_iff_exists.1 begun;obtain ⟨cs,h1,_⟩:=h.1 3 z t (of_decide_eq_true (by kernel_rfl)) e;have:=(Array.getElem?_eq_some_iff.1 h1).1
  omega
end Go.Proofs.YtnncfaaebnkcbaaGreatDoor.fnExactEditFile
