import Derived.Test.YtahlbmonbflopaaGreatDoorVbd
import Derived.Test.YtahlbmonbflopaaGreatDoorVb4
import Derived.Test.YtahlbmonbflopaaGreatDoorCards
import Derived.Test.YtahlbmonbflopaaGreatDoorTie
import Derived.SevenTiedAt
import Derived.Deep.DeepHandedRow
import Derived.LaidLaws
import Derived.LaidHandle
import Derived.LaidSub
import Derived.Stop.LaidErr
import Derived.ProofKit
import Derived.OpenShut
set_option linter.unusedVariables false
namespace Go.Proofs.YtahlbmonbflopaaGreatDoor.fnUpgrades
open Go.ChangeShapes Go.WideShapes Go.ChangeAt Go.RowKit Go.Vw Go.Vw.Dat Go.Proofs
theorem cl_5:Tryz.prog.cellsOf 5=1:=by kernel_rfl
theorem it_5:IsT Tryz.prog 5 UInt8 (λ_=>True):=p_8 Tryz.underlying5
theorem cl_22:Tryz.prog.cellsOf 22=1:=by kernel_rfl
theorem it_22:IsT Tryz.prog 22 Bt (λl=>l.length<=LEN/\∀y∈l,True):=p_a Tryz.underlying22 it_5 cl_5<|of_decide_eq_true (by kernel_rfl)
theorem own:ownKnob Tryz.prog.godebug=none:=by kernel_rfl
theorem s_9:laidOutB Tryz.prog=true:=by kernel_rfl
theorem et:Tryz.prog.globalNamed "errors.errorType" = some 0:=by kernel_rfl
theorem rt:(Tryz.prog.cutTypes.find? (·.1 == "internal/reflectlite.rtype")).map (·.2)=some 150:=by kernel_rfl
theorem oneRow:((List.range 214).filter λt=>Tryz.prog.rowNamed t [101,114,114,111,114])=[81]:=by kernel_rfl
theorem tsize:Tryz.prog.types.size=214:=by kernel_rfl
theorem s_a {W:World}(h:handlesMet Tryz.prog [("errors.errorType", Rows.laid_errors_errorType)] W):W.cell? ⟨0,0,none⟩=some (.iface 150 (.agg #[.pointer (some ⟨1,81,none⟩)])):=by
  obtain ⟨name,u,ty,H,I,J,L,G⟩:=h _ List.mem_cons_self;have en:name=[101,114,114,111,114]:=(Option.some.inj H).symm;subst en;obtain rfl:=Option.some.inj<|rt.symm.trans I;have hm:ty∈(List.range 214).filter λt=>Tryz.prog.rowNamed t [101,114,114,111,114]:=List.mem_filter.2 ⟨List.mem_range.2 (by rw [← tsize];exact J),L⟩
  rw [oneRow] at hm
  obtain rfl:=List.mem_singleton.1 hm;have hh:typeHandle Tryz.prog 81 = .pointer (some ⟨1,81,none⟩):=by kernel_rfl
  rw [hh] at G
  simpa using World.var?_cell et G 0
theorem gd_of {W:World}(h:laidMetH Tryz.prog Rows.fnUpgradesRow.laid W):GD W:=s_a h.2
theorem s_b {n:Nat}(hn:4000000<=n){x0:Bt}(l0:x0.length<=LEN/\∀y∈x0,True):h_P n x0=some true:=q_r hn x0
theorem pm_0:Tryz.f3.params[0]? = some 22:=by kernel_rfl
theorem contract (H:Type)(enc:TypeId×Value->H)(W:World)(base:Nat)(args:Array Value)(ds gs:List (DataW H))(before:List MemPlace)
    (hvs:OkWs Tryz.prog W base Tryz.f3.params args)
    (hW:DataW.Whole enc Tryz.prog Tryz.f3.params.toList Rows.fnUpgradesSpec.vars false W args.toList ds gs before)
    (hw:(DataW.weightsEach Tryz.prog (Tryz.f3.params.toList++(OpenSpec.ofChange Rows.fnUpgradesSpec).bare.plain.varTypes Tryz.prog)<|ds++gs).all (· <= reachBytes)=true) (hL:laidMetH Tryz.prog Rows.fnUpgradesRow.laid W) (hsz:1<=W.heap.size) :
    Calls Tryz.prog 3 args W λe W'=>∃v,e = .returned v/\Rows.fnUpgradesSpec.post enc Tryz.prog Tryz.f3 false true false false W args v W':=by
  have hW':=hW;obtain ⟨p,q,G,hV,rfl,hfz,hnd⟩:=hW;have hA:DataW.TrodAll enc Tryz.prog W 0 (λ_=>true) true Tryz.f3.params.toList args.toList ds p:=G
  rw [Tryz.params3] at hA hw
  obtain ⟨rfl,rfl⟩:=trodVars_none hV;obtain ⟨w0,a1,d0,a2,p0,q0,ha,rfl,rfl,Y,k0⟩:=trodAll_cons hA;obtain ⟨rfl,rfl,rfl⟩:=trodAll_nil k0;obtain rfl:args = #[w0]:=by cases args;simp_all
  have I:=hvs.at 0 22 w0 pm_0 rfl
  obtain ⟨J,L⟩:=Y;have O:=m_a (i:=0) hw rfl rfl;obtain ⟨x0,r0,l0⟩:=it_22.rd enc W J _ _ L O;obtain ⟨a0,n0,c0,rfl⟩:=p_b Tryz.underlying22 I;obtain ⟨a0',n0',c0',V,e0⟩:=g_T (show rep W W.heap.size [.slice a0 n0 c0] x0 from r0)
  cases V
  have hM:=s_b (n:=4000000) (Nat.le_refl _) (x0:=x0) l0;have hrun:=s_e (B:=W.heap.size) hM zr (GlW.mk0 (gd_of hL) (a_z hsz) hsz) e0;refine hrun.run.mono λe W' ⟨v,he,hb,hv⟩=>?_
  subst he;have hv':vB true=v:=hv;subst hv';refine ⟨_,rfl,p_c s_9 (λt ht=>?_) hb hW' (by kernel_rfl) Tryz.underlying4 rfl (by simp [Rows.fnUpgradesSpec])⟩
  rw [Tryz.params3] at ht
  have ht':t=22:=by simpa using ht
  rcases ht' with rfl
  all_goals exact ⟨by kernel_rfl,of_decide_eq_true (by kernel_rfl)⟩
noncomputable def l_9 (os:Os):World:={ World.holding Tryz.prog os ⟨#[],#[],[]⟩ with heap:=((World.holding Tryz.prog os ⟨#[],#[],[]⟩).heap.modify 0 λ| .cells _ t frozen=>.cells #[.iface 150 (.agg #[.pointer (some ⟨1,81,none⟩)])] t frozen | o=>o) }
theorem s_c (os:Os):laidMetH Tryz.prog Rows.fnUpgradesRow.laid ((l_9 os).forCall (λ_ _=>0) ⟨#[],#[.slice none 0 0],[]⟩).memory :=
  laidMetH_of_parts (laidMet_of_run' 8 (by kernel_rfl) (by kernel_rfl)) (by kernel_rfl)
theorem reads (os:Os){H:Type}(enc:TypeId×Value->H):∃places,DataW.whole enc Tryz.prog ((l_9 os).forCall (λ_ _=>0) ⟨#[],#[.slice none 0 0],[]⟩).memory Tryz.f3.params.toList Rows.fnUpgradesSpec.vars false (#[.slice none 0 0]:Array Value).toList 8=some ([.nil],[],places) :=
  ⟨[],by kernel_rfl⟩
theorem begun:(((begin Tryz.prog (λ_ _=>0) default).world.heap[0]?).bind Obj.row?).isSome=true:=by kernel_rfl
theorem s_d {W:World}(h:W.ShapedOpen Tryz.prog):1<=W.heap.size:=by
  obtain ⟨⟨z,t⟩,e⟩:=Option.isSome_iff_exists.1 begun;obtain ⟨cs,h1,_⟩:=h.1 0 z t (of_decide_eq_true (by kernel_rfl)) e;have:=(Array.getElem?_eq_some_iff.1 h1).1
  omega
end Go.Proofs.YtahlbmonbflopaaGreatDoor.fnUpgrades
