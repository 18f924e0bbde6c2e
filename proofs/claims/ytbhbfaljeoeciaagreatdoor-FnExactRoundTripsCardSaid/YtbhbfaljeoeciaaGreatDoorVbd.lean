import Derived.Test.YtbhbfaljeoeciaaGreatDoorVbc
import Derived.Test.YtbhbfaljeoeciaaGreatDoorVb5
import Derived.Test.YtbhbfaljeoeciaaGreatDoorCards
import Derived.Test.YtbhbfaljeoeciaaGreatDoorTie
import Derived.SevenTiedAt
import Derived.Deep.DeepHandedRow
import Derived.LaidLaws
import Derived.LaidHandle
import Derived.LaidSub
import Derived.Stop.LaidErr
import Derived.ProofKit
import Derived.OpenShut
set_option linter.unusedVariables false
namespace Go.Proofs.YtbhbfaljeoeciaaGreatDoor.fnExactRoundTrips
open Go.ChangeShapes Go.WideShapes Go.ChangeAt Go.RowKit Go.Vw Go.Vw.Dat Go.Proofs
theorem cl_9:Tryz.prog.cellsOf 9=1:=by kernel_rfl
theorem it_9:IsT Tryz.prog 9 Str (fun s=>s.b.length<=LEN):=o_F Tryz.underlying9
theorem cl_3:Tryz.prog.cellsOf 3=1:=by kernel_rfl
theorem it_3:IsT Tryz.prog 3 Int (fun _=>True):=o_C Tryz.underlying3
theorem cl_4:Tryz.prog.cellsOf 4=1:=by kernel_rfl
theorem it_4:IsT Tryz.prog 4 Bool (fun _=>True):=o_E Tryz.underlying4
theorem cl_5:Tryz.prog.cellsOf 5=1:=by kernel_rfl
theorem it_5:IsT Tryz.prog 5 UInt8 (fun _=>True):=o_D Tryz.underlying5
theorem cl_25:Tryz.prog.cellsOf 25=1:=by kernel_rfl
theorem it_25:IsT Tryz.prog 25 (List UInt8) (fun l=>l.length<=LEN/\∀y∈l,True):=i_n Tryz.underlying25 it_5 cl_5<|of_decide_eq_true (by kernel_rfl)
theorem cl_53:Tryz.prog.cellsOf 53=1:=by kernel_rfl
theorem it_53:IsT Tryz.prog 53 (List Str) (fun l=>l.length<=LEN/\∀y∈l,y.b.length<=LEN):=i_n Tryz.underlying53 it_9 cl_9<|of_decide_eq_true (by kernel_rfl)
theorem cl_54:Tryz.prog.cellsOf 54=1:=by kernel_rfl
theorem it_54:IsT Tryz.prog 54 (List Int) (fun l=>l.length<=LEN/\∀y∈l,True):=i_n Tryz.underlying54 it_3 cl_3<|of_decide_eq_true (by kernel_rfl)
theorem cl_56:Tryz.prog.cellsOf 56=8:=by kernel_rfl
def j_a (x:g_):Prop:=x.name.b.length<=LEN/\True/\True/\True/\(x.bytes.length<=LEN/\∀y∈x.bytes,True)/\(x.names.length<=LEN/\∀y∈x.names,y.b.length<=LEN)/\(x.tags.length<=LEN/\∀y∈x.tags,True)/\(x.kids.length<=LEN/\∀y∈x.kids,True)
theorem it_56:IsT Tryz.prog 56 g_ j_a:=⟨fun enc W fuel cs x h hw=>by
  obtain ⟨hl,hf⟩:=l_G Tryz.underlying56 h hw;obtain ⟨v0,G,l0⟩:=hf 0 _ rfl _ _ _ it_9;have G:rep W W.heap.size ((cs.drop 0).take (Tryz.prog.cellsOf 9)) v0:=G
  rw [cl_9] at G
  obtain ⟨v1,H,l1⟩:=hf 1 _ rfl _ _ _ it_3;have H:rep W W.heap.size ((cs.drop 1).take (Tryz.prog.cellsOf 3)) v1:=H
  rw [cl_3] at H
  obtain ⟨v2,I,l2⟩:=hf 2 _ rfl _ _ _ it_3;have I:rep W W.heap.size ((cs.drop 2).take (Tryz.prog.cellsOf 3)) v2:=I
  rw [cl_3] at I
  obtain ⟨v3,J,l3⟩:=hf 3 _ rfl _ _ _ it_4;have J:rep W W.heap.size ((cs.drop 3).take (Tryz.prog.cellsOf 4)) v3:=J
  rw [cl_4] at J
  obtain ⟨v4,L,l4⟩:=hf 4 _ rfl _ _ _ it_25;have L:rep W W.heap.size ((cs.drop 4).take (Tryz.prog.cellsOf 25)) v4:=L
  rw [cl_25] at L
  obtain ⟨v5,O,l5⟩:=hf 5 _ rfl _ _ _ it_53;have O:rep W W.heap.size ((cs.drop 5).take (Tryz.prog.cellsOf 53)) v5:=O
  rw [cl_53] at O
  obtain ⟨v6,V,l6⟩:=hf 6 _ rfl _ _ _ it_54;have V:rep W W.heap.size ((cs.drop 6).take (Tryz.prog.cellsOf 54)) v6:=V
  rw [cl_54] at V
  obtain ⟨v7,Y,l7⟩:=hf 7 _ rfl _ _ _ it_54;have Y:rep W W.heap.size ((cs.drop 7).take (Tryz.prog.cellsOf 54)) v7:=Y
  rw [cl_54] at Y
  have hc:=j_G [1,1,1,1,1,1,1,1] 0 cs (by simp) (by rw [hl,cl_56];rfl)
  rw [List.drop_zero] at hc
  refine ⟨⟨v0,v1,v2,v3,v4,v5,v6,v7⟩,?_,⟨l0,l1,l2,l3,l4,l5,l6,l7⟩⟩
  rw [← hc]
  exact (e_e G (e_e H (e_e I (e_e J (e_e L (e_e O (e_e V Y)))))))⟩
theorem cl_22:Tryz.prog.cellsOf 22=1:=by kernel_rfl
theorem it_22:IsT Tryz.prog 22 (List g_) (fun l=>l.length<=LEN/\∀y∈l,j_a y):=i_n Tryz.underlying22 it_56 cl_56<|of_decide_eq_true (by kernel_rfl)
theorem cl_24:Tryz.prog.cellsOf 24=1:=by kernel_rfl
def n_n (x:c_):Prop:=(x.rules.length<=LEN/\∀y∈x.rules,j_a y)
theorem it_24:IsT Tryz.prog 24 c_ n_n:=⟨fun enc W fuel cs x h hw=>by
  obtain ⟨hl,hf⟩:=l_G Tryz.underlying24 h hw;obtain ⟨H,G,l0⟩:=hf 0 _ rfl _ _ _ it_22;have G:rep W W.heap.size ((cs.drop 0).take (Tryz.prog.cellsOf 22)) H:=G
  rw [cl_22] at G
  have hc:=j_G [1] 0 cs (by simp) (by rw [hl,cl_24];rfl)
  rw [List.drop_zero] at hc
  refine ⟨⟨H⟩,?_,l0⟩
  rw [← hc]
  exact G⟩
theorem own:ownKnob Tryz.prog.godebug=none:=by kernel_rfl
theorem r_C:laidOutB Tryz.prog=true:=by kernel_rfl
theorem c_213:Tryz.prog.cellsOf 213=20:=by kernel_rfl
theorem c_205:Tryz.prog.cellsOf 205=1:=by kernel_rfl
theorem r_D:(Rows.laid_internal_strconv_uint64pow10:DataW Unit)=Lib.tabData .u64 Lib.pow10Tab:=by kernel_rfl
theorem pow_of {W:World}(h:laidMet Tryz.prog [("math/bits.deBruijn32tab", Rows.laid_math_bits_deBruijn32tab),("math/bits.deBruijn64tab", Rows.laid_math_bits_deBruijn64tab),("internal/strconv.uint64pow10", Rows.laid_internal_strconv_uint64pow10)] W):Lib.TabIs Tryz.prog W "internal/strconv.uint64pow10" .u64 Lib.pow10Tab:=by
  have h2:=(laidMet.tail<|laidMet.tail h)
  rw [r_D] at h2
  exact Lib.tabIs_of_head (by kernel_rfl:Tryz.prog.globalNamed "internal/strconv.uint64pow10" = some 1) (by kernel_rfl) Tryz.underlying213 Tryz.underlying205 c_205 c_213 h2
theorem et:Tryz.prog.globalNamed "errors.errorType" = some 0:=by kernel_rfl
theorem rt:(Tryz.prog.cutTypes.find? (·.1 == "internal/reflectlite.rtype")).map (·.2)=some 173:=by kernel_rfl
theorem oneRow:((List.range 248).filter fun t=>Tryz.prog.rowNamed t [101,114,114,111,114])=[94]:=by kernel_rfl
theorem tsize:Tryz.prog.types.size=248:=by kernel_rfl
theorem r_E {W:World}(h:handlesMet Tryz.prog [("errors.errorType", Rows.laid_errors_errorType)] W):W.cell? ⟨0,0,none⟩=some (.iface 173 (.agg #[.pointer (some ⟨5,94,none⟩)])):=by
  obtain ⟨name,u,ty,H,I,J,L,G⟩:=h _ List.mem_cons_self;have en:name=[101,114,114,111,114]:=(Option.some.inj H).symm;subst en;obtain rfl:=Option.some.inj<|rt.symm.trans I;have hm:ty∈(List.range 248).filter fun t=>Tryz.prog.rowNamed t [101,114,114,111,114]:=List.mem_filter.2 ⟨List.mem_range.2 (by rw [← tsize];exact J),L⟩
  rw [oneRow] at hm
  obtain rfl:=List.mem_singleton.1 hm;have hh:typeHandle Tryz.prog 94 = .pointer (some ⟨5,94,none⟩):=by kernel_rfl
  rw [hh] at G
  simpa using World.var?_cell et G 0
theorem gd_of {W:World}(h:laidMetH Tryz.prog Rows.fnExactRoundTripsRow.laid W):GD W:=⟨pow_of h.1,r_E h.2⟩
theorem lnR_of {r:g_}(h:j_a r):LnR r:=⟨h.1,h.2.2.2.2.1.1,h.2.2.2.2.2.1.1,h.2.2.2.2.2.2.1.1,h.2.2.2.2.2.2.2.1,h.2.2.2.2.2.1.2⟩
theorem r_F {n:Nat}(hn:4000000<=n){x0:c_}{x1:List UInt8}(l0:n_n x0)(l1:x1.length<=LEN/\∀y∈x1,True):f_T n x0 x1=some true :=
  p_O hn ⟨l0.1,fun r hr=>lnR_of<|l0.2 r hr⟩ l1.1
theorem pm_0:Tryz.f3.params[0]? = some 24:=by kernel_rfl
theorem pm_1:Tryz.f3.params[1]? = some 25:=by kernel_rfl
theorem contract (H:Type)(enc:TypeId×Value->H)(W:World)(base:Nat)(args:Array Value)(ds gs:List (DataW H))(before:List MemPlace)
    (hvs:OkWs Tryz.prog W base Tryz.f3.params args)
    (hW:DataW.Whole enc Tryz.prog Tryz.f3.params.toList Rows.fnExactRoundTripsSpec.vars false W args.toList ds gs before)
    (hw:(DataW.weightsEach Tryz.prog (Tryz.f3.params.toList++(OpenSpec.ofChange Rows.fnExactRoundTripsSpec).bare.plain.varTypes Tryz.prog)<|ds++gs).all (· <= reachBytes)=true) (hL:laidMetH Tryz.prog Rows.fnExactRoundTripsRow.laid W) (hsz:5<=W.heap.size) :
    Calls Tryz.prog 3 args W fun e W'=>∃v,e = .returned v/\Rows.fnExactRoundTripsSpec.post enc Tryz.prog Tryz.f3 false true false false W args v W':=by
  have hW':=hW;obtain ⟨p,q,J,hV,rfl,hfz,hnd⟩:=hW;have hA:DataW.TrodAll enc Tryz.prog W 0 (fun _=>true) true Tryz.f3.params.toList args.toList ds p:=J
  rw [Tryz.params3] at hA hw
  obtain ⟨rfl,rfl⟩:=trodVars_none hV;obtain ⟨w0,a7,d0,a8,p0,q0,ha,rfl,rfl,h0,k0⟩:=trodAll_cons hA;obtain ⟨I,a9,d1,aa,p1,q1,rfl,rfl,rfl,h1,k1⟩:=trodAll_cons k0;obtain ⟨rfl,rfl,rfl⟩:=trodAll_nil k1;obtain rfl:args = #[w0,I]:=by cases args;simp_all
  have L:=hvs.at 0 24 w0 pm_0 rfl
  obtain ⟨O,V⟩:=h0;have Y:=i_m (i:=0) hw rfl rfl;obtain ⟨x0,r0,l0⟩:=it_24.rd enc W O _ _ V Y;obtain ⟨G,rfl,_⟩:=o_H Tryz.underlying24 L;obtain ⟨a0_0,n0_0,c0_0,a0,e0_0⟩:=n_S (show rep W W.heap.size G.toList x0 from r0);obtain rfl:G = #[.slice a0_0 n0_0 c0_0]:=by simpa using congrArg List.toArray a0
  have a2:=hvs.at 1 25 I pm_1 rfl
  obtain ⟨a3,a4⟩:=h1;have a5:=i_m (i:=1) hw rfl rfl;obtain ⟨x1,r1,l1⟩:=it_25.rd enc W a3 _ _ a4 a5;obtain ⟨a1,n1,c1,rfl⟩:=o_I Tryz.underlying25 a2;obtain ⟨a1',n1',c1',a6,e1⟩:=e_Y (show rep W W.heap.size [.slice a1 n1 c1] x1 from r1)
  cases a6
  have hM:=r_F (n:=4000000) (Nat.le_refl _) (x0:=x0) (x1:=x1) l0 l1;have hrun:=r_J (B:=W.heap.size) hM zr (GlW.mk0 (gd_of hL) (M_ hsz) hsz) e0_0 e1;refine hrun.run.mono fun e W' ⟨v,he,hb,hv⟩=>?_
  subst he;have hv':vB true=v:=hv;subst hv';refine ⟨_,rfl,o_J r_C (fun t ht=>?_) hb hW' (by kernel_rfl) Tryz.underlying4 rfl (by simp [Rows.fnExactRoundTripsSpec])⟩
  rw [Tryz.params3] at ht
  have ht':t=24∨t=25:=by simpa using ht
  rcases ht' with rfl | rfl
  all_goals exact ⟨by kernel_rfl,of_decide_eq_true (by kernel_rfl)⟩
noncomputable def k_r (os:Os):World:={ World.holding Tryz.prog os ⟨#[],#[],[]⟩ with heap:=(((((World.holding Tryz.prog os ⟨#[],#[],[]⟩).heap.modify 3 fun | .cells _ t frozen=>.cells #[.int .u8 0,.int .u8 1,.int .u8 28,.int .u8 2,.int .u8 29,.int .u8 14,.int .u8 24,.int .u8 3,.int .u8 30,.int .u8 22,.int .u8 20,.int .u8 15,.int .u8 25,.int .u8 17,.int .u8 4,.int .u8 8,.int .u8 31,.int .u8 27,.int .u8 13,.int .u8 23,.int .u8 21,.int .u8 19,.int .u8 16,.int .u8 7,.int .u8 26,.int .u8 12,.int .u8 18,.int .u8 6,.int .u8 11,.int .u8 5,.int .u8 10,.int .u8 9] t frozen | o=>o).modify 4 fun | .cells _ t frozen=>.cells #[.int .u8 0,.int .u8 1,.int .u8 56,.int .u8 2,.int .u8 57,.int .u8 49,.int .u8 28,.int .u8 3,.int .u8 61,.int .u8 58,.int .u8 42,.int .u8 50,.int .u8 38,.int .u8 29,.int .u8 17,.int .u8 4,.int .u8 62,.int .u8 47,.int .u8 59,.int .u8 36,.int .u8 45,.int .u8 43,.int .u8 51,.int .u8 22,.int .u8 53,.int .u8 39,.int .u8 33,.int .u8 30,.int .u8 24,.int .u8 18,.int .u8 12,.int .u8 5,.int .u8 63,.int .u8 55,.int .u8 48,.int .u8 27,.int .u8 60,.int .u8 41,.int .u8 37,.int .u8 16,.int .u8 46,.int .u8 35,.int .u8 44,.int .u8 21,.int .u8 52,.int .u8 32,.int .u8 23,.int .u8 11,.int .u8 54,.int .u8 26,.int .u8 40,.int .u8 15,.int .u8 34,.int .u8 20,.int .u8 31,.int .u8 10,.int .u8 25,.int .u8 14,.int .u8 19,.int .u8 9,.int .u8 13,.int .u8 8,.int .u8 7,.int .u8 6] t frozen | o=>o).modify 1 fun | .cells _ t frozen=>.cells #[.int .u64 1,.int .u64 10,.int .u64 100,.int .u64 1000,.int .u64 10000,.int .u64 100000,.int .u64 1000000,.int .u64 10000000,.int .u64 100000000,.int .u64 1000000000,.int .u64 10000000000,.int .u64 100000000000,.int .u64 1000000000000,.int .u64 10000000000000,.int .u64 100000000000000,.int .u64 1000000000000000,.int .u64 10000000000000000,.int .u64 100000000000000000,.int .u64 1000000000000000000,.int .u64 10000000000000000000] t frozen | o=>o).modify 0 fun | .cells _ t frozen=>.cells #[.iface 173 (.agg #[.pointer (some ⟨5,94,none⟩)])] t frozen | o=>o) }
theorem r_G (os:Os):laidMetH Tryz.prog Rows.fnExactRoundTripsRow.laid ((k_r os).forCall (fun _ _=>0) ⟨#[],#[.agg #[.slice none 0 0],.slice none 0 0],[]⟩).memory :=
  laidMetH_of_parts (laidMet_of_run' 8 (by kernel_rfl) (by kernel_rfl)) (by kernel_rfl)
theorem reads (os:Os){H:Type}(enc:TypeId×Value->H):∃places,DataW.whole enc Tryz.prog ((k_r os).forCall (fun _ _=>0) ⟨#[],#[.agg #[.slice none 0 0],.slice none 0 0],[]⟩).memory Tryz.f3.params.toList Rows.fnExactRoundTripsSpec.vars false (#[.agg #[.slice none 0 0],.slice none 0 0]:Array Value).toList 8=some ([.agg [.nil],.nil],[],places) :=
  ⟨[],by kernel_rfl⟩
theorem begun:(((begin Tryz.prog (fun _ _=>0) default).world.heap[4]?).bind Obj.row?).isSome=true:=by kernel_rfl
theorem r_H {W:World}(h:W.ShapedOpen Tryz.prog):5<=W.heap.size:=by
  obtain ⟨⟨z,t⟩,e⟩:=Option.isSome_iff_exists.1 begun;obtain ⟨cs,h1,_⟩:=h.1 4 z t (of_decide_eq_true (by kernel_rfl)) e;have:=(Array.getElem?_eq_some_iff.1 h1).1
  omega
end Go.Proofs.YtbhbfaljeoeciaaGreatDoor.fnExactRoundTrips
