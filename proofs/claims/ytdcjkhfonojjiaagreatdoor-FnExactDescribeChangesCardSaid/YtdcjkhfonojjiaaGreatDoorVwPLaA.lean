/- What the last text needs. -/
import Derived.Test.YtdcjkhfonojjiaaGreatDoorVwPW3
import Derived.Test.YtdcjkhfonojjiaaGreatDoorVwP96
import Derived.Test.YtdcjkhfonojjiaaGreatDoorCards
import Derived.Test.YtdcjkhfonojjiaaGreatDoorTie
import Derived.SevenTiedAt
import Derived.Deep.DeepHandedRow
import Derived.LaidLaws
import Derived.LaidHandle
import Derived.LaidSub
import Derived.Stop.LaidErr
import Derived.ProofKit
import Derived.OpenShut
set_option linter.unusedVariables false
namespace Go.Proofs.YtdcjkhfonojjiaaGreatDoor.fnExactDescribeChanges
open Go.ChangeShapes Go.WideShapes Go.ChangeAt Go.RowKit Go.Vw Go.Vw.Dat Go.Proofs
theorem cl_9:Tryz.prog.cellsOf 9=1:=by kernel_rfl
theorem it_9:IsT Tryz.prog 9 Str (fun s=>s.b.length<=LEN):=o_B Tryz.underlying9
theorem cl_3:Tryz.prog.cellsOf 3=1:=by kernel_rfl
theorem it_3:IsT Tryz.prog 3 Int (fun _=>True):=o_y Tryz.underlying3
theorem cl_4:Tryz.prog.cellsOf 4=1:=by kernel_rfl
theorem it_4:IsT Tryz.prog 4 Bool (fun _=>True):=o_A Tryz.underlying4
theorem cl_5:Tryz.prog.cellsOf 5=1:=by kernel_rfl
theorem it_5:IsT Tryz.prog 5 UInt8 (fun _=>True):=o_z Tryz.underlying5
theorem cl_25:Tryz.prog.cellsOf 25=1:=by kernel_rfl
theorem k_2:IsT Tryz.prog 25 (List UInt8) (fun l=>l.length<=LEN/\∀y∈l,True):=h_C Tryz.underlying25 it_5 cl_5<|of_decide_eq_true (by kernel_rfl)
theorem cl_38:Tryz.prog.cellsOf 38=1:=by kernel_rfl
theorem it_38:IsT Tryz.prog 38 (List Str) (fun l=>l.length<=LEN/\∀y∈l,y.b.length<=LEN):=h_C Tryz.underlying38 it_9 cl_9<|of_decide_eq_true (by kernel_rfl)
theorem cl_44:Tryz.prog.cellsOf 44=1:=by kernel_rfl
theorem it_44:IsT Tryz.prog 44 (List Int) (fun l=>l.length<=LEN/\∀y∈l,True):=h_C Tryz.underlying44 it_3 cl_3<|of_decide_eq_true (by kernel_rfl)
theorem cl_46:Tryz.prog.cellsOf 46=8:=by kernel_rfl
def i_l (x:e_):Prop:=x.name.b.length<=LEN/\True/\True/\True/\(x.bytes.length<=LEN/\∀y∈x.bytes,True)/\(x.names.length<=LEN/\∀y∈x.names,y.b.length<=LEN)/\(x.tags.length<=LEN/\∀y∈x.tags,True)/\(x.kids.length<=LEN/\∀y∈x.kids,True)
theorem it_46:IsT Tryz.prog 46 e_ i_l:=⟨fun enc W fuel cs x h hw=>by
  obtain ⟨hl,hf⟩:=l_s Tryz.underlying46 h hw;obtain ⟨v0,G,l0⟩:=hf 0 _ rfl _ _ _ it_9;have G:rep W W.heap.size ((cs.drop 0).take (Tryz.prog.cellsOf 9)) v0:=G
  rw [cl_9] at G
  obtain ⟨v1,H,l1⟩:=hf 1 _ rfl _ _ _ it_3;have H:rep W W.heap.size ((cs.drop 1).take (Tryz.prog.cellsOf 3)) v1:=H
  rw [cl_3] at H
  obtain ⟨v2,I,l2⟩:=hf 2 _ rfl _ _ _ it_3;have I:rep W W.heap.size ((cs.drop 2).take (Tryz.prog.cellsOf 3)) v2:=I
  rw [cl_3] at I
  obtain ⟨v3,J,l3⟩:=hf 3 _ rfl _ _ _ it_4;have J:rep W W.heap.size ((cs.drop 3).take (Tryz.prog.cellsOf 4)) v3:=J
  rw [cl_4] at J
  obtain ⟨v4,L,l4⟩:=hf 4 _ rfl _ _ _ k_2;have L:rep W W.heap.size ((cs.drop 4).take (Tryz.prog.cellsOf 25)) v4:=L
  rw [cl_25] at L
  obtain ⟨v5,O,l5⟩:=hf 5 _ rfl _ _ _ it_38;have O:rep W W.heap.size ((cs.drop 5).take (Tryz.prog.cellsOf 38)) v5:=O
  rw [cl_38] at O
  obtain ⟨v6,V,l6⟩:=hf 6 _ rfl _ _ _ it_44;have V:rep W W.heap.size ((cs.drop 6).take (Tryz.prog.cellsOf 44)) v6:=V
  rw [cl_44] at V
  obtain ⟨v7,Y,l7⟩:=hf 7 _ rfl _ _ _ it_44;have Y:rep W W.heap.size ((cs.drop 7).take (Tryz.prog.cellsOf 44)) v7:=Y
  rw [cl_44] at Y
  have hc:=j_i [1,1,1,1,1,1,1,1] 0 cs (by simp) (by rw [hl,cl_46];rfl)
  rw [List.drop_zero] at hc
  refine ⟨⟨v0,v1,v2,v3,v4,v5,v6,v7⟩,?_,⟨l0,l1,l2,l3,l4,l5,l6,l7⟩⟩
  rw [← hc]
  exact (d_x G (d_x H (d_x I (d_x J (d_x L (d_x O (d_x V Y)))))))⟩
theorem cl_22:Tryz.prog.cellsOf 22=1:=by kernel_rfl
theorem it_22:IsT Tryz.prog 22 (List e_) (fun l=>l.length<=LEN/\∀y∈l,i_l y):=h_C Tryz.underlying22 it_46 cl_46<|of_decide_eq_true (by kernel_rfl)
theorem cl_24:Tryz.prog.cellsOf 24=1:=by kernel_rfl
def m_W (x:d_):Prop:=(x.rules.length<=LEN/\∀y∈x.rules,i_l y)
theorem it_24:IsT Tryz.prog 24 d_ m_W:=⟨fun enc W fuel cs x h hw=>by
  obtain ⟨hl,hf⟩:=l_s Tryz.underlying24 h hw;obtain ⟨H,G,l0⟩:=hf 0 _ rfl _ _ _ it_22;have G:rep W W.heap.size ((cs.drop 0).take (Tryz.prog.cellsOf 22)) H:=G
  rw [cl_22] at G
  have hc:=j_i [1] 0 cs (by simp) (by rw [hl,cl_24];rfl)
  rw [List.drop_zero] at hc
  refine ⟨⟨H⟩,?_,l0⟩
  rw [← hc]
  exact G⟩
theorem own:ownKnob Tryz.prog.godebug=none:=by kernel_rfl
theorem r_F:laidOutB Tryz.prog=true:=by kernel_rfl
theorem c_211:Tryz.prog.cellsOf 211=20:=by kernel_rfl
theorem c_205:Tryz.prog.cellsOf 205=1:=by kernel_rfl
theorem r_G:(Rows.laid_internal_strconv_uint64pow10:DataW Unit)=Lib.tabData .u64 Lib.pow10Tab:=by kernel_rfl
theorem pow_of {W:World}(h:laidMet Tryz.prog [("math/bits.deBruijn32tab", Rows.laid_math_bits_deBruijn32tab),("math/bits.deBruijn64tab", Rows.laid_math_bits_deBruijn64tab),("internal/strconv.uint64pow10", Rows.laid_internal_strconv_uint64pow10)] W):Lib.TabIs Tryz.prog W "internal/strconv.uint64pow10" .u64 Lib.pow10Tab:=by
  have h2:=(laidMet.tail<|laidMet.tail h)
  rw [r_G] at h2
  exact Lib.tabIs_of_head (by kernel_rfl:Tryz.prog.globalNamed "internal/strconv.uint64pow10" = some 2) (by kernel_rfl) Tryz.underlying211 Tryz.underlying205 c_205 c_211 h2
theorem et:Tryz.prog.globalNamed "errors.errorType" = some 0:=by kernel_rfl
theorem rt:(Tryz.prog.cutTypes.find? (·.1 == "internal/reflectlite.rtype")).map (·.2)=some 177:=by kernel_rfl
theorem oneRow:((List.range 246).filter fun t=>Tryz.prog.rowNamed t [101,114,114,111,114])=[86]:=by kernel_rfl
theorem tsize:Tryz.prog.types.size=246:=by kernel_rfl
theorem r_H {W:World}(h:handlesMet Tryz.prog [("errors.errorType", Rows.laid_errors_errorType)] W):W.cell? ⟨0,0,none⟩=some (.iface 177 (.agg #[.pointer (some ⟨5,86,none⟩)])):=by
  obtain ⟨name,u,ty,H,I,J,L,G⟩:=h _ List.mem_cons_self;have en:name=[101,114,114,111,114]:=(Option.some.inj H).symm;subst en;obtain rfl:=Option.some.inj<|rt.symm.trans I;have hm:ty∈(List.range 246).filter fun t=>Tryz.prog.rowNamed t [101,114,114,111,114]:=List.mem_filter.2 ⟨List.mem_range.2 (by rw [← tsize];exact J),L⟩
  rw [oneRow] at hm
  obtain rfl:=List.mem_singleton.1 hm;have hh:typeHandle Tryz.prog 86 = .pointer (some ⟨5,86,none⟩):=by kernel_rfl
  rw [hh] at G
  simpa using World.var?_cell et G 0
theorem gd_of {W:World}(h:laidMetH Tryz.prog Rows.fnExactDescribeChangesRow.laid W):GD W:=⟨pow_of h.1,r_H h.2⟩
theorem lnR_of {r:e_}(h:i_l r):LnR r:=⟨h.1,h.2.2.2.2.1.1,h.2.2.2.2.2.1.1,h.2.2.2.2.2.2.1.1,h.2.2.2.2.2.2.2.1,h.2.2.2.2.2.1.2⟩
theorem r_I {n:Nat}(hn:4000000<=n){x0:d_}{x1 x2:List UInt8}(l0:m_W x0)(l1:x1.length<=LEN/\∀y∈x1,True)(G:x2.length<=LEN/\∀y∈x2,True):h_c n x0 x1 x2=some true :=
  q_J hn ⟨l0.1,fun r hr=>lnR_of<|l0.2 r hr⟩ l1.1 G.1
theorem pm_0:Tryz.f3.params[0]? = some 24:=by kernel_rfl
theorem pm_1:Tryz.f3.params[1]? = some 25:=by kernel_rfl
theorem pm_2:Tryz.f3.params[2]? = some 25:=by kernel_rfl
theorem contract (H:Type)(enc:TypeId×Value->H)(W:World)(base:Nat)(args:Array Value)(ds gs:List (DataW H))(before:List MemPlace)
    (hvs:OkWs Tryz.prog W base Tryz.f3.params args)
    (hW:DataW.Whole enc Tryz.prog Tryz.f3.params.toList Rows.fnExactDescribeChangesSpec.vars false W args.toList ds gs before)
    (hw:(DataW.weightsEach Tryz.prog (Tryz.f3.params.toList++(OpenSpec.ofChange Rows.fnExactDescribeChangesSpec).bare.plain.varTypes Tryz.prog)<|ds++gs).all (· <= reachBytes)=true) (hL:laidMetH Tryz.prog Rows.fnExactDescribeChangesRow.laid W) (hsz:5<=W.heap.size) :
    Calls Tryz.prog 3 args W fun e W'=>∃v,e = .returned v/\Rows.fnExactDescribeChangesSpec.post enc Tryz.prog Tryz.f3 false true false false W args v W':=by
  have hW':=hW;obtain ⟨p,q,L,hV,rfl,hfz,hnd⟩:=hW;have hA:DataW.TrodAll enc Tryz.prog W 0 (fun _=>true) true Tryz.f3.params.toList args.toList ds p:=L
  rw [Tryz.params3] at hA hw
  obtain ⟨rfl,rfl⟩:=trodVars_none hV;obtain ⟨w0,af,d0,ah,p0,q0,ha,rfl,rfl,h0,k0⟩:=trodAll_cons hA;obtain ⟨I,ai,d1,aj,p1,q1,rfl,rfl,rfl,h1,k1⟩:=trodAll_cons k0;obtain ⟨J,ak,d2,al,p2,q2,rfl,rfl,rfl,h2,k2⟩:=trodAll_cons k1;obtain ⟨rfl,rfl,rfl⟩:=trodAll_nil k2;obtain rfl:args = #[w0,I,J]:=by cases args;simp_all
  have O:=hvs.at 0 24 w0 pm_0 rfl
  obtain ⟨V,Y⟩:=h0;have a0:=f_T (i:=0) hw rfl rfl;obtain ⟨x0,r0,l0⟩:=it_24.rd enc W V _ _ Y a0;obtain ⟨G,rfl,_⟩:=o_D Tryz.underlying24 O;obtain ⟨a0_0,n0_0,c0_0,a3,e0_0⟩:=n_S (show rep W W.heap.size G.toList x0 from r0);obtain rfl:G = #[.slice a0_0 n0_0 c0_0]:=by simpa using congrArg List.toArray a3
  have a4:=hvs.at 1 25 I pm_1 rfl
  obtain ⟨a5,a6⟩:=h1;have a7:=f_T (i:=1) hw rfl rfl;obtain ⟨x1,r1,l1⟩:=k_2.rd enc W a5 _ _ a6 a7;obtain ⟨a1,n1,c1,rfl⟩:=l_t Tryz.underlying25 a4;obtain ⟨a1',n1',c1',a8,e1⟩:=e_c (show rep W W.heap.size [.slice a1 n1 c1] x1 from r1)
  cases a8
  have a9:=hvs.at 2 25 J pm_2 rfl
  obtain ⟨aa,ab⟩:=h2;have ad:=f_T (i:=2) hw rfl rfl;obtain ⟨x2,r2,l2⟩:=k_2.rd enc W aa _ _ ab ad;obtain ⟨a2,n2,c2,rfl⟩:=l_t Tryz.underlying25 a9;obtain ⟨a2',n2',c2',ae,e2⟩:=e_c (show rep W W.heap.size [.slice a2 n2 c2] x2 from r2)
  cases ae
  have hM:=r_I (n:=4000000) (Nat.le_refl _) (x0:=x0) (x1:=x1) (x2:=x2) l0 l1 l2;have hrun:=r_P (B:=W.heap.size) hM zr (GlW.mk0 (gd_of hL) (Z_ hsz) hsz) e0_0 e1 e2;refine hrun.run.mono fun e W' ⟨v,he,hb,hv⟩=>?_
  subst he;have hv':vB true=v:=hv;subst hv';refine ⟨_,rfl,o_E r_F (fun t ht=>?_) hb hW' (by kernel_rfl) Tryz.underlying4 rfl (by simp [Rows.fnExactDescribeChangesSpec])⟩
  rw [Tryz.params3] at ht
  have ht':t=24∨t=25∨t=25:=by simpa using ht
  rcases ht' with rfl | rfl | rfl
  all_goals exact ⟨by kernel_rfl,of_decide_eq_true (by kernel_rfl)⟩
noncomputable def k_3 (os:Os):World:={ World.holding Tryz.prog os ⟨#[],#[],[]⟩ with heap:=(((((World.holding Tryz.prog os ⟨#[],#[],[]⟩).heap.modify 3 fun | .cells _ t frozen=>.cells #[.int .u8 0,.int .u8 1,.int .u8 28,.int .u8 2,.int .u8 29,.int .u8 14,.int .u8 24,.int .u8 3,.int .u8 30,.int .u8 22,.int .u8 20,.int .u8 15,.int .u8 25,.int .u8 17,.int .u8 4,.int .u8 8,.int .u8 31,.int .u8 27,.int .u8 13,.int .u8 23,.int .u8 21,.int .u8 19,.int .u8 16,.int .u8 7,.int .u8 26,.int .u8 12,.int .u8 18,.int .u8 6,.int .u8 11,.int .u8 5,.int .u8 10,.int .u8 9] t frozen | o=>o).modify 4 fun | .cells _ t frozen=>.cells #[.int .u8 0,.int .u8 1,.int .u8 56,.int .u8 2,.int .u8 57,.int .u8 49,.int .u8 28,.int .u8 3,.int .u8 61,.int .u8 58,.int .u8 42,.int .u8 50,.int .u8 38,.int .u8 29,.int .u8 17,.int .u8 4,.int .u8 62,.int .u8 47,.int .u8 59,.int .u8 36,.int .u8 45,.int .u8 43,.int .u8 51,.int .u8 22,.int .u8 53,.int .u8 39,.int .u8 33,.int .u8 30,.int .u8 24,.int .u8 18,.int .u8 12,.int .u8 5,.int .u8 63,.int .u8 55,.int .u8 48,.int .u8 27,.int .u8 60,.int .u8 41,.int .u8 37,.int .u8 16,.int .u8 46,.int .u8 35,.int .u8 44,.int .u8 21,.int .u8 52,.int .u8 32,.int .u8 23,.int .u8 11,.int .u8 54,.int .u8 26,.int .u8 40,.int .u8 15,.int .u8 34,.int .u8 20,.int .u8 31,.int .u8 10,.int .u8 25,.int .u8 14,.int .u8 19,.int .u8 9,.int .u8 13,.int .u8 8,.int .u8 7,.int .u8 6] t frozen | o=>o).modify 2 fun | .cells _ t frozen=>.cells #[.int .u64 1,.int .u64 10,.int .u64 100,.int .u64 1000,.int .u64 10000,.int .u64 100000,.int .u64 1000000,.int .u64 10000000,.int .u64 100000000,.int .u64 1000000000,.int .u64 10000000000,.int .u64 100000000000,.int .u64 1000000000000,.int .u64 10000000000000,.int .u64 100000000000000,.int .u64 1000000000000000,.int .u64 10000000000000000,.int .u64 100000000000000000,.int .u64 1000000000000000000,.int .u64 10000000000000000000] t frozen | o=>o).modify 0 fun | .cells _ t frozen=>.cells #[.iface 177 (.agg #[.pointer (some ⟨5,86,none⟩)])] t frozen | o=>o) }
theorem r_J (os:Os):laidMetH Tryz.prog Rows.fnExactDescribeChangesRow.laid ((k_3 os).forCall (fun _ _=>0) ⟨#[],#[.agg #[.slice none 0 0],.slice none 0 0,.slice none 0 0],[]⟩).memory :=
  laidMetH_of_parts (laidMet_of_run' 8 (by kernel_rfl) (by kernel_rfl)) (by kernel_rfl)
theorem reads (os:Os){H:Type}(enc:TypeId×Value->H):∃places,DataW.whole enc Tryz.prog ((k_3 os).forCall (fun _ _=>0) ⟨#[],#[.agg #[.slice none 0 0],.slice none 0 0,.slice none 0 0],[]⟩).memory Tryz.f3.params.toList Rows.fnExactDescribeChangesSpec.vars false (#[.agg #[.slice none 0 0],.slice none 0 0,.slice none 0 0]:Array Value).toList 8=some ([.agg [.nil],.nil,.nil],[],places) :=
  ⟨[],by kernel_rfl⟩
theorem begun:(((begin Tryz.prog (fun _ _=>0) default).world.heap[4]?).bind Obj.row?).isSome=true:=by kernel_rfl
theorem r_K {W:World}(h:W.ShapedOpen Tryz.prog):5<=W.heap.size:=by
  obtain ⟨⟨z,t⟩,e⟩:=Option.isSome_iff_exists.1 begun;obtain ⟨cs,h1,_⟩:=h.1 4 z t (of_decide_eq_true (by kernel_rfl)) e;have:=(Array.getElem?_eq_some_iff.1 h1).1
  omega
end Go.Proofs.YtdcjkhfonojjiaaGreatDoor.fnExactDescribeChanges
