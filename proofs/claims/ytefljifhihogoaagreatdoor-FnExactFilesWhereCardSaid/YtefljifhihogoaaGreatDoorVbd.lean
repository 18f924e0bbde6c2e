import Derived.Test.YtefljifhihogoaaGreatDoorVbc
import Derived.Test.YtefljifhihogoaaGreatDoorVb2
import Derived.Test.YtefljifhihogoaaGreatDoorCards
import Derived.Test.YtefljifhihogoaaGreatDoorTie
import Derived.SevenTiedAt
import Derived.Deep.DeepHandedRow
import Derived.LaidLaws
import Derived.LaidHandle
import Derived.LaidSub
import Derived.Stop.LaidErr
import Derived.ProofKit
import Derived.OpenShut
set_option linter.unusedVariables false
namespace Go.Proofs.YtefljifhihogoaaGreatDoor.fnExactFilesWhere
open Go.ChangeShapes Go.WideShapes Go.ChangeAt Go.RowKit Go.Vw Go.Vw.Dat Go.Proofs
theorem cl_9:Tryz.prog.cellsOf 9=1:=by kernel_rfl
theorem it_9:IsT Tryz.prog 9 Str (λs=>s.b.length<=LEN):=v_3 Tryz.underlying9
theorem cl_3:Tryz.prog.cellsOf 3=1:=by kernel_rfl
theorem it_3:IsT Tryz.prog 3 Int (λ_=>True):=v_0 Tryz.underlying3
theorem cl_4:Tryz.prog.cellsOf 4=1:=by kernel_rfl
theorem it_4:IsT Tryz.prog 4 Bool (λ_=>True):=v_2 Tryz.underlying4
theorem cl_5:Tryz.prog.cellsOf 5=1:=by kernel_rfl
theorem it_5:IsT Tryz.prog 5 UInt8 (λ_=>True):=v_1 Tryz.underlying5
theorem cl_25:Tryz.prog.cellsOf 25=1:=by kernel_rfl
theorem it_25:IsT Tryz.prog 25 Bt (λl=>l.length<=LEN/\∀y∈l,True):=j_a Tryz.underlying25 it_5 cl_5<|of_decide_eq_true (by kernel_rfl)
theorem cl_31:Tryz.prog.cellsOf 31=1:=by kernel_rfl
theorem it_31:IsT Tryz.prog 31 (List Str) (λl=>l.length<=LEN/\∀y∈l,y.b.length<=LEN):=j_a Tryz.underlying31 it_9 cl_9<|of_decide_eq_true (by kernel_rfl)
theorem t_C:Tryz.prog.cellsOf 156=1:=by kernel_rfl
theorem t_D:IsT Tryz.prog 156 (List Int) (λl=>l.length<=LEN/\∀y∈l,True):=j_a Tryz.underlying156 it_3 cl_3<|of_decide_eq_true (by kernel_rfl)
theorem t_E:Tryz.prog.cellsOf 198=8:=by kernel_rfl
def m_T (x:f_):Prop:=x.name.b.length<=LEN/\True/\True/\True/\(x.bytes.length<=LEN/\∀y∈x.bytes,True)/\(x.names.length<=LEN/\∀y∈x.names,y.b.length<=LEN)/\(x.tags.length<=LEN/\∀y∈x.tags,True)/\(x.kids.length<=LEN/\∀y∈x.kids,True)
theorem it_198:IsT Tryz.prog 198 f_ m_T:=⟨λenc W fuel cs x h hw=>by
  obtain ⟨hl,hf⟩:=j_b Tryz.underlying198 h hw;obtain ⟨O,G,l0⟩:=hf 0 _ rfl _ _ _ it_9;have G:rep W W.heap.size ((cs.drop 0).take (Tryz.prog.cellsOf 9)) O:=G
  rw [cl_9] at G
  obtain ⟨v1,r1,l1⟩:=hf 1 _ rfl _ _ _ it_3;have r1:rep W W.heap.size ((cs.drop 1).take (Tryz.prog.cellsOf 3)) v1:=r1
  rw [cl_3] at r1
  obtain ⟨v2,r2,V⟩:=hf 2 _ rfl _ _ _ it_3;have r2:rep W W.heap.size ((cs.drop 2).take (Tryz.prog.cellsOf 3)) v2:=r2
  rw [cl_3] at r2
  obtain ⟨v3,r3,Y⟩:=hf 3 _ rfl _ _ _ it_4;have r3:rep W W.heap.size ((cs.drop 3).take (Tryz.prog.cellsOf 4)) v3:=r3
  rw [cl_4] at r3
  obtain ⟨v4,H,l4⟩:=hf 4 _ rfl _ _ _ it_25;have H:rep W W.heap.size ((cs.drop 4).take (Tryz.prog.cellsOf 25)) v4:=H
  rw [cl_25] at H
  obtain ⟨v5,I,l5⟩:=hf 5 _ rfl _ _ _ it_31;have I:rep W W.heap.size ((cs.drop 5).take (Tryz.prog.cellsOf 31)) v5:=I
  rw [cl_31] at I
  obtain ⟨v6,J,l6⟩:=hf 6 _ rfl _ _ _ t_D;have J:rep W W.heap.size ((cs.drop 6).take (Tryz.prog.cellsOf 156)) v6:=J
  rw [t_C] at J
  obtain ⟨v7,L,l7⟩:=hf 7 _ rfl _ _ _ t_D;have L:rep W W.heap.size ((cs.drop 7).take (Tryz.prog.cellsOf 156)) v7:=L
  rw [t_C] at L
  have hc:=i_0 [1,1,1,1,1,1,1,1] 0 cs (by simp) (by rw [hl,t_E];rfl)
  rw [List.drop_zero] at hc
  refine ⟨⟨O,v1,v2,v3,v4,v5,v6,v7⟩,?_,⟨l0,l1,V,Y,l4,l5,l6,l7⟩⟩
  rw [← hc]
  exact (d_Z G (d_Z r1 (d_Z r2 (d_Z r3 (d_Z H (d_Z I (d_Z J L)))))))⟩
theorem cl_94:Tryz.prog.cellsOf 94=1:=by kernel_rfl
theorem it_94:IsT Tryz.prog 94 (List f_) (λl=>l.length<=LEN/\∀y∈l,m_T y):=j_a Tryz.underlying94 it_198 t_E<|of_decide_eq_true (by kernel_rfl)
theorem cl_96:Tryz.prog.cellsOf 96=1:=by kernel_rfl
def m_U (x:d_):Prop:=(x.rules.length<=LEN/\∀y∈x.rules,m_T y)
theorem it_96:IsT Tryz.prog 96 d_ m_U:=⟨λenc W fuel cs x h hw=>by
  obtain ⟨hl,hf⟩:=j_b Tryz.underlying96 h hw;obtain ⟨H,G,l0⟩:=hf 0 _ rfl _ _ _ it_94;have G:rep W W.heap.size ((cs.drop 0).take (Tryz.prog.cellsOf 94)) H:=G
  rw [cl_94] at G
  have hc:=i_0 [1] 0 cs (by simp) (by rw [hl,cl_96];rfl)
  rw [List.drop_zero] at hc
  refine ⟨⟨H⟩,?_,l0⟩
  rw [← hc]
  exact G⟩
theorem cl_22:Tryz.prog.cellsOf 22=1:=by kernel_rfl
theorem it_22:IsT Tryz.prog 22 (List d_) (λl=>l.length<=LEN/\∀y∈l,m_U y):=j_a Tryz.underlying22 it_96 cl_96<|of_decide_eq_true (by kernel_rfl)
theorem cl_24:Tryz.prog.cellsOf 24=1:=by kernel_rfl
def t_F (x:a_9):Prop:=(x.versions.length<=LEN/\∀y∈x.versions,m_U y)
theorem it_24:IsT Tryz.prog 24 a_9 t_F:=⟨λenc W fuel cs x h hw=>by
  obtain ⟨hl,hf⟩:=j_b Tryz.underlying24 h hw;obtain ⟨H,G,l0⟩:=hf 0 _ rfl _ _ _ it_22;have G:rep W W.heap.size ((cs.drop 0).take (Tryz.prog.cellsOf 22)) H:=G
  rw [cl_22] at G
  have hc:=i_0 [1] 0 cs (by simp) (by rw [hl,cl_24];rfl)
  rw [List.drop_zero] at hc
  refine ⟨⟨H⟩,?_,l0⟩
  rw [← hc]
  exact G⟩
theorem cl_27:Tryz.prog.cellsOf 27=2:=by kernel_rfl
def t_G (x:Log):Prop:=(x.bytes.length<=LEN/\∀y∈x.bytes,True)/\True
theorem it_27:IsT Tryz.prog 27 Log t_G:=⟨λenc W fuel cs x h hw=>by
  obtain ⟨hl,hf⟩:=j_b Tryz.underlying27 h hw;obtain ⟨H,G,l0⟩:=hf 0 _ rfl _ _ _ it_25;have G:rep W W.heap.size ((cs.drop 0).take (Tryz.prog.cellsOf 25)) H:=G
  rw [cl_25] at G
  obtain ⟨v1,r1,l1⟩:=hf 1 _ rfl _ _ _ it_3;have r1:rep W W.heap.size ((cs.drop 1).take (Tryz.prog.cellsOf 3)) v1:=r1
  rw [cl_3] at r1
  have hc:=i_0 [1,1] 0 cs (by simp) (by rw [hl,cl_27];rfl)
  rw [List.drop_zero] at hc
  refine ⟨⟨H,v1⟩,?_,⟨l0,l1⟩⟩
  rw [← hc]
  exact (d_Z G r1)⟩
theorem cl_29:Tryz.prog.cellsOf 29=3:=by kernel_rfl
def t_H (x:H_):Prop:=t_F x.registry/\t_G x.log
theorem it_29:IsT Tryz.prog 29 H_ t_H:=⟨λenc W fuel cs x h hw=>by
  obtain ⟨hl,hf⟩:=j_b Tryz.underlying29 h hw;obtain ⟨H,G,l0⟩:=hf 0 _ rfl _ _ _ it_24;have G:rep W W.heap.size ((cs.drop 0).take (Tryz.prog.cellsOf 24)) H:=G
  rw [cl_24] at G
  obtain ⟨v1,r1,l1⟩:=hf 1 _ rfl _ _ _ it_27;have r1:rep W W.heap.size ((cs.drop 1).take (Tryz.prog.cellsOf 27)) v1:=r1
  rw [cl_27] at r1
  have hc:=i_0 [1,2] 0 cs (by simp) (by rw [hl,cl_29];rfl)
  rw [List.drop_zero] at hc
  refine ⟨⟨H,v1⟩,?_,⟨l0,l1⟩⟩
  rw [← hc]
  exact (d_Z G r1)⟩
theorem own:ownKnob Tryz.prog.godebug=none:=by kernel_rfl
theorem z_C:laidOutB Tryz.prog=true:=by kernel_rfl
theorem c_288:Tryz.prog.cellsOf 288=20:=by kernel_rfl
theorem c_280:Tryz.prog.cellsOf 280=1:=by kernel_rfl
theorem z_D:(Rows.laid_internal_strconv_uint64pow10:DataW Unit)=Lib.tabData .u64 Lib.pow10Tab:=by kernel_rfl
theorem pow_of {W:World}(h:laidMet Tryz.prog [("math/bits.deBruijn32tab", Rows.laid_math_bits_deBruijn32tab),("math/bits.deBruijn64tab", Rows.laid_math_bits_deBruijn64tab),("internal/strconv.uint64pow10", Rows.laid_internal_strconv_uint64pow10)] W):Lib.TabIs Tryz.prog W "internal/strconv.uint64pow10" .u64 Lib.pow10Tab:=by
  have h2:=(laidMet.tail<|laidMet.tail h)
  rw [z_D] at h2
  exact Lib.tabIs_of_head (by kernel_rfl:Tryz.prog.globalNamed "internal/strconv.uint64pow10" = some 1) (by kernel_rfl) Tryz.underlying288 Tryz.underlying280 c_280 c_288 h2
theorem et:Tryz.prog.globalNamed "errors.errorType" = some 0:=by kernel_rfl
theorem rt:(Tryz.prog.cutTypes.find? (·.1 == "internal/reflectlite.rtype")).map (·.2)=some 229:=by kernel_rfl
theorem oneRow:((List.range 324).filter λt=>Tryz.prog.rowNamed t [101,114,114,111,114])=[121]:=by kernel_rfl
theorem tsize:Tryz.prog.types.size=324:=by kernel_rfl
theorem z_E {W:World}(h:handlesMet Tryz.prog [("errors.errorType", Rows.laid_errors_errorType)] W):W.cell? ⟨0,0,none⟩=some (.iface 229 (.agg #[.pointer (some ⟨5,121,none⟩)])):=by
  obtain ⟨name,u,ty,H,I,J,L,G⟩:=h _ List.mem_cons_self;have en:name=[101,114,114,111,114]:=(Option.some.inj H).symm;subst en;obtain rfl:=Option.some.inj<|rt.symm.trans I;have hm:ty∈(List.range 324).filter λt=>Tryz.prog.rowNamed t [101,114,114,111,114]:=List.mem_filter.2 ⟨List.mem_range.2 (by rw [← tsize];exact J),L⟩
  rw [oneRow] at hm
  obtain rfl:=List.mem_singleton.1 hm;have hh:typeHandle Tryz.prog 121 = .pointer (some ⟨5,121,none⟩):=by kernel_rfl
  rw [hh] at G
  simpa using World.var?_cell et G 0
theorem gd_of {W:World}(h:laidMetH Tryz.prog Rows.fnExactFilesWhereRow.laid W):GD W:=⟨pow_of h.1,z_E h.2⟩
theorem lnR_of {r:f_}(h:m_T r):LnR r:=⟨h.1,h.2.2.2.2.1.1,h.2.2.2.2.2.1.1,h.2.2.2.2.2.2.1.1,h.2.2.2.2.2.2.2.1,h.2.2.2.2.2.1.2⟩
theorem lnD_of {d:d_}(h:m_U d):LnD d:=⟨h.1,λr hr=>lnR_of<|h.2 r hr⟩
theorem z_F {n:Nat}(hn:4000000<=n){x0:H_}{x1 x2:Str}(l0:t_H x0)(l1:x1.b.length<=LEN)(G:x2.b.length<=LEN):l_d n x0 x1 x2=some true :=
  v_P hn ⟨l0.1.1,λd hd=>lnD_of<|l0.1.2 d hd,l0.2.1.1⟩ l1 G
theorem pm_0:Tryz.f3.params[0]? = some 29:=by kernel_rfl
theorem pm_1:Tryz.f3.params[1]? = some 9:=by kernel_rfl
theorem pm_2:Tryz.f3.params[2]? = some 9:=by kernel_rfl
theorem contract (H:Type)(enc:TypeId×Value->H)(W:World)(base:Nat)(args:Array Value)(ds gs:List (DataW H))(before:List MemPlace)
    (hvs:OkWs Tryz.prog W base Tryz.f3.params args)
    (hW:DataW.Whole enc Tryz.prog Tryz.f3.params.toList Rows.fnExactFilesWhereSpec.vars false W args.toList ds gs before)
    (hw:(DataW.weightsEach Tryz.prog (Tryz.f3.params.toList++(OpenSpec.ofChange Rows.fnExactFilesWhereSpec).bare.plain.varTypes Tryz.prog)<|ds++gs).all (· <= reachBytes)=true) (hL:laidMetH Tryz.prog Rows.fnExactFilesWhereRow.laid W) (hsz:5<=W.heap.size) :
    Calls Tryz.prog 3 args W λe W'=>∃v,e = .returned v/\Rows.fnExactFilesWhereSpec.post enc Tryz.prog Tryz.f3 false true false false W args v W':=by
  have hW':=hW;obtain ⟨p,q,L,hV,rfl,hfz,hnd⟩:=hW;have hA:DataW.TrodAll enc Tryz.prog W 0 (λ_=>true) true Tryz.f3.params.toList args.toList ds p:=L
  rw [Tryz.params3] at hA hw
  obtain ⟨rfl,rfl⟩:=trodVars_none hV;obtain ⟨w0,ad,d0,ae,p0,q0,ha,rfl,rfl,h0,k0⟩:=trodAll_cons hA;obtain ⟨I,af,d1,ah,p1,q1,rfl,rfl,rfl,h1,k1⟩:=trodAll_cons k0;obtain ⟨J,ai,d2,aj,p2,q2,rfl,rfl,rfl,h2,k2⟩:=trodAll_cons k1;obtain ⟨rfl,rfl,rfl⟩:=trodAll_nil k2;obtain rfl:args = #[w0,I,J]:=by cases args;simp_all
  have O:=hvs.at 0 29 w0 pm_0 rfl
  obtain ⟨V,Y⟩:=h0;have a0:=j_9 (i:=0) hw rfl rfl;obtain ⟨x0,r0,l0⟩:=it_29.rd enc W V _ _ Y a0;obtain ⟨G,rfl,_⟩:=v_5 Tryz.underlying29 O;obtain ⟨a0_0,n0_0,c0_0,a0_1,n0_1,c0_1,a1,e0_0,e0_1,e0_2⟩:=u_r (show rep W W.heap.size G.toList x0 from r0);obtain rfl:G = #[.slice a0_0 n0_0 c0_0,.slice a0_1 n0_1 c0_1,vI x0.log.stored]:=by simpa using congrArg List.toArray a1
  have a2:=hvs.at 1 9 I pm_1 rfl
  obtain ⟨a3,a4⟩:=h1;have a5:=j_9 (i:=1) hw rfl rfl;obtain ⟨x1,r1,l1⟩:=it_9.rd enc W a3 _ _ a4 a5;obtain ⟨z1,rfl⟩:=p_X Tryz.underlying9 a2;obtain ⟨a6,e1⟩:=a_e (show rep W W.heap.size [.string z1] x1 from r1)
  cases a6
  have a7:=hvs.at 2 9 J pm_2 rfl
  obtain ⟨a8,a9⟩:=h2;have aa:=j_9 (i:=2) hw rfl rfl;obtain ⟨x2,r2,l2⟩:=it_9.rd enc W a8 _ _ a9 aa;obtain ⟨z2,rfl⟩:=p_X Tryz.underlying9 a7;obtain ⟨ab,e2⟩:=a_e (show rep W W.heap.size [.string z2] x2 from r2)
  cases ab
  have hM:=z_F (n:=4000000) (Nat.le_refl _) (x0:=x0) (x1:=x1) (x2:=x2) l0 l1 l2;have hrun:=z_U (B:=W.heap.size) hM zr (GlW.mk0 (gd_of hL) (O_ hsz) hsz) e0_0 e0_1 e0_2 e1 e2;refine hrun.run.mono λe W' ⟨v,he,hb,hv⟩=>?_
  subst he;have hv':vB true=v:=hv;subst hv';refine ⟨_,rfl,v_6 z_C (λt ht=>?_) hb hW' (by kernel_rfl) Tryz.underlying4 rfl (by simp [Rows.fnExactFilesWhereSpec])⟩
  rw [Tryz.params3] at ht
  have ht':t=29∨t=9∨t=9:=by simpa using ht
  rcases ht' with rfl | rfl | rfl
  all_goals exact ⟨by kernel_rfl,of_decide_eq_true (by kernel_rfl)⟩
noncomputable def o_R (os:Os):World:={ World.holding Tryz.prog os ⟨#[],#[],[]⟩ with heap:=(((((World.holding Tryz.prog os ⟨#[],#[],[]⟩).heap.modify 3 λ| .cells _ t frozen=>.cells #[.int .u8 0,.int .u8 1,.int .u8 28,.int .u8 2,.int .u8 29,.int .u8 14,.int .u8 24,.int .u8 3,.int .u8 30,.int .u8 22,.int .u8 20,.int .u8 15,.int .u8 25,.int .u8 17,.int .u8 4,.int .u8 8,.int .u8 31,.int .u8 27,.int .u8 13,.int .u8 23,.int .u8 21,.int .u8 19,.int .u8 16,.int .u8 7,.int .u8 26,.int .u8 12,.int .u8 18,.int .u8 6,.int .u8 11,.int .u8 5,.int .u8 10,.int .u8 9] t frozen | o=>o).modify 4 λ| .cells _ t frozen=>.cells #[.int .u8 0,.int .u8 1,.int .u8 56,.int .u8 2,.int .u8 57,.int .u8 49,.int .u8 28,.int .u8 3,.int .u8 61,.int .u8 58,.int .u8 42,.int .u8 50,.int .u8 38,.int .u8 29,.int .u8 17,.int .u8 4,.int .u8 62,.int .u8 47,.int .u8 59,.int .u8 36,.int .u8 45,.int .u8 43,.int .u8 51,.int .u8 22,.int .u8 53,.int .u8 39,.int .u8 33,.int .u8 30,.int .u8 24,.int .u8 18,.int .u8 12,.int .u8 5,.int .u8 63,.int .u8 55,.int .u8 48,.int .u8 27,.int .u8 60,.int .u8 41,.int .u8 37,.int .u8 16,.int .u8 46,.int .u8 35,.int .u8 44,.int .u8 21,.int .u8 52,.int .u8 32,.int .u8 23,.int .u8 11,.int .u8 54,.int .u8 26,.int .u8 40,.int .u8 15,.int .u8 34,.int .u8 20,.int .u8 31,.int .u8 10,.int .u8 25,.int .u8 14,.int .u8 19,.int .u8 9,.int .u8 13,.int .u8 8,.int .u8 7,.int .u8 6] t frozen | o=>o).modify 1 λ| .cells _ t frozen=>.cells #[.int .u64 1,.int .u64 10,.int .u64 100,.int .u64 1000,.int .u64 10000,.int .u64 100000,.int .u64 1000000,.int .u64 10000000,.int .u64 100000000,.int .u64 1000000000,.int .u64 10000000000,.int .u64 100000000000,.int .u64 1000000000000,.int .u64 10000000000000,.int .u64 100000000000000,.int .u64 1000000000000000,.int .u64 10000000000000000,.int .u64 100000000000000000,.int .u64 1000000000000000000,.int .u64 10000000000000000000] t frozen | o=>o).modify 0 λ| .cells _ t frozen=>.cells #[.iface 229 (.agg #[.pointer (some ⟨5,121,none⟩)])] t frozen | o=>o) }
theorem z_G (os:Os):laidMetH Tryz.prog Rows.fnExactFilesWhereRow.laid ((o_R os).forCall (λ_ _=>0) ⟨#[],#[.agg #[.slice none 0 0,.slice none 0 0,.int .i64 0],.string .empty,.string .empty],[]⟩).memory :=
  laidMetH_of_parts (laidMet_of_run' 8 (by kernel_rfl) (by kernel_rfl)) (by kernel_rfl)
theorem reads (os:Os){H:Type}(enc:TypeId×Value->H):∃places,DataW.whole enc Tryz.prog ((o_R os).forCall (λ_ _=>0) ⟨#[],#[.agg #[.slice none 0 0,.slice none 0 0,.int .i64 0],.string .empty,.string .empty],[]⟩).memory Tryz.f3.params.toList Rows.fnExactFilesWhereSpec.vars false (#[.agg #[.slice none 0 0,.slice none 0 0,.int .i64 0],.string .empty,.string .empty]:Array Value).toList 8=some ([.agg [.agg [.nil],.agg [.nil,.lit<|.int .i64 0]],.lit<|.string [],.lit<|.string []],[],places) :=
  ⟨[],by kernel_rfl⟩
theorem begun:(((begin Tryz.prog (λ_ _=>0) default).world.heap[4]?).bind Obj.row?).isSome=true:=by kernel_rfl
theorem z_H {W:World}(h:W.ShapedOpen Tryz.prog):5<=W.heap.size:=by
  obtain ⟨⟨z,t⟩,e⟩:=Option.isSome_iff_exists.1 begun;obtain ⟨cs,h1,_⟩:=h.1 4 z t (of_decide_eq_true (by kernel_rfl)) e;have:=(Array.getElem?_eq_some_iff.1 h1).1
  omega
end Go.Proofs.YtefljifhihogoaaGreatDoor.fnExactFilesWhere
