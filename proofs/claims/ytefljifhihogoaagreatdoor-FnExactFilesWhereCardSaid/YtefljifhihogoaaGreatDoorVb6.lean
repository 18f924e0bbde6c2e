
import Derived.Test.YtefljifhihogoaaGreatDoorV1
import Derived.Test.YtefljifhihogoaaGreatDoorVb4
import Derived.Test.YtefljifhihogoaaGreatDoorVb5
import Derived.ScopeJumps
set_option linter.unusedVariables false
namespace Go.Vw
open Go.RowKit Dat Go.Proofs
set_option maxHeartbeats 4000000
set_option maxRecDepth 4000
open Go.Proofs.Tryz
open Go.Vw renaming a_a->Wq,a_B->Wg,WC.of_KC->Wo,a_d->Wl,c_b->Wc,c_F->Wr,f_9->Wu,g_Z->pT,h_0->pF,f_W->fd,b_J->l1,f_X->lN,b_8->mv,c_L->asg,f_3->lnR,e_y->lss,g_0->eql,f_Y->ext_,f_R->bP,f_Z->add_,f_1->inc_,d_f->not_,e_1->at_,d_X->fc,a_U->fs,d_x->fb,c_H->fa,c_u->sr,f_P->cr,f_Q->cM,c_d->bM,g_R->iS,g_Q->iA,f_0->br,b_1->oA,g_W->bs,f_J->lg,f_K->io,f_b->nq,h_8->lnT,h_9->sb_,g_Y->ar_,g_X->al_,b_N->ds,h_v->m1,f_N->nr_,f_M->nl_,e_0->aa_,all_nil->an_,c_S->Wb,f_I->u8,g_N->pD,e_X->We,g_T->Wt,e_Z->fS,e_o->or_,h_7->Wf,h_4->qL,g_M->Wd,f_S->fN,f_L->na_,f_O->nj,e_3->f0,f_4->rX,h_1->tl_,h_2->ic
variable {A0:Option Addr}{N0 C0:Nat}{B:Zone}{w0:World}{AB:Option Addr}{AA:Option Addr}{AC:Option Addr}{AD:Option Addr}{NB CB:Nat}{NA CA:Nat}{NC CC:Nat}{ND CD:Nat}{A1:Option Addr}{N1 C1:Nat}{n:Nat}{AG:Option Addr}{NG CG:Nat}{A2:Option Addr}{N2 C2:Nat}{AJ:Option Addr}{NJ CJ:Nat}{A4:Option Addr}{A5:Option Addr}{A3:Option Addr}{A6:Option Addr}{N4 C4:Nat}{N5 C5:Nat}{N3 C3:Nat}{N6 C6:Nat}{A7:Option Addr}{N7 C7:Nat}{A8:Option Addr}{A9:Option Addr}{N8 C8:Nat}{N9 C9:Nat}{AF:Option Addr}{NF CF:Nat}{AE:Option Addr}{NE CE:Nat}
theorem bdB{α β:Type}{G:Prop}{x:Option α}{f:α->Option β}{o:β}(h:bd x f=some o)(k:∀u,x=some u->f u=some o->G):G:=let ⟨u,a,b⟩:=bdS h;k u a b
section
variable {P:Program}{N:Nat}{ops:Array Oper}{K:Act->World->Prop}{Q:Exit->Act->World->Prop}{rest:List Oper}{e:Env}{w:World}{d:Nat}{op:Op}{ty:TypeId}{pos:String}{aft:Array Edge}
theorem EvA{v0:Value}{S:World->Prop}(hf:Nat.blt d N=true)(h:Ef P N ⟨some d,op,ty,pos,aft,none⟩ e w (λv w'=>v=v0∧S w'))(k:∀w',S w'->WL P N ops K Q rest ((d,v0)::e) w'):WL P N ops K Q (⟨some d,op,ty,pos,aft,none⟩::rest) e w:=E hf h (λ_ w' q=>by rcases q with ⟨rfl,c⟩;exact k w' c)
theorem EcA{v0:Value}(hf:Nat.blt d N=true)(h:Ef P N ⟨some d,op,ty,pos,aft,none⟩ e w (λv w'=>Below w.heap.size w w'∧v0=v))(k:∀w',Below w.heap.size w w'->WL P N ops K Q rest ((d,v0)::e) w'):WL P N ops K Q (⟨some d,op,ty,pos,aft,none⟩::rest) e w:=E hf h (λ_ w' q=>by rcases q with ⟨c,rfl⟩;exact k w' c)
theorem E0p{A C:World->Prop}(h:Ef P N ⟨none,op,ty,pos,aft,none⟩ e w (λ_ w'=>A w'∧C w'))(k:∀w',A w'->C w'->WL P N ops K Q rest e w'):WL P N ops K Q (⟨none,op,ty,pos,aft,none⟩::rest) e w:=E0 h (λv w' h=>k w' h.1 h.2)
theorem kaA{e':Env}{a:Act}(q:Sat N e a)(h:sub e e':=by repeat (first | exact True.intro | refine And.intro rfl ?_)):Sat N e' a:=q.weaken h
end
theorem lqA{σ ρ:Type}{f:σ->Option ρ}{u:Sum σ ρ}{res:ρ}{P:Program}{fn:Func}{Qf:ρ->Value->World->Prop}{Q:Exit->Act->World->Prop}(h:el f (λr=>some r) u=some res)(hQ:∀a w,rQ P fn Qf res .ret a w->Q .ret a w):∀r ex a w,u=.inr r->rQ P fn Qf r ex a w->Q ex a w∧ex=.ret:=by
 rintro r ex a w rfl ⟨rfl,hq⟩;obtain rfl:=som (elR h);exact ⟨hQ a w ⟨rfl,hq⟩,rfl⟩
def Q0 (w0:World)(B:Zone)(r:Int)(v:Value)(w':World):Prop:=Bw w0 w'/\(λr1=>(vI r1)=v/\inI r1) r
theorem W_w16 {x1:Bt}{x2:Int}{res:Int}(hm:j_J x1 x2=some res)(J:B<=w0.z)(H:rp w0 B A0 N0 C0 x1)(I:inI x2):g_ prog 31 [sl A0 N0 C0,vI x2] w0 (Q0 w0 B res):=by
 unfold j_J at hm;refine goG func31 z z z λfn hr=>Ws<|Rw z<|Wm z<|Rm z<|R z (lnR h_ z H)<|R z (sb_ z z)<|Rw z<|Wq<|Wm z<|Rl z z z<|Wx z (λG=>?_) (λG=>?_)
 .exact Ws<|Rw z<|Wr<|rS1 (ifT hm G) hr z ⟨br w0,z,ii z⟩
 exact Wk<|Wm z<|Rw z<|Wr<|rS1 (ifF hm G) hr z ⟨br w0,z,iS _ _⟩
theorem W_w2p {x1:List Str}{x2:Int}{res:Int}(hm:j_K x1 x2=some res)(Y:B<=w0.z)(I:rp w0 B A0 N0 C0 x1)(W:inI x2):g_ prog 183 [sl A0 N0 C0,vI x2] w0 (Q0 w0 B res):=by
 unfold j_K at hm;refine goG func183 z z z λfn hr=>Ws<|Rw z<|Wm z<|Rm z<|R z (lnR z_ z I)<|R z (sb_ z z)<|Rw z<|Wq<|Wm z<|Rl z z z<|Wx z (λG=>?_) (λG=>?_)
 .exact Ws<|Rw z<|Wr<|rS1 (ifT hm G) hr z ⟨br w0,z,ii z⟩
 refine Wk<|Wq<|Ws<|Rw z<|bdB (ifF hm G) λ_ V J=>Wf (σ:=Int) (ρ:=Int) (λ(k5:Nat)(x0:Int) a w=>Sat 28 [(0,sl A0 N0 C0),(1,vI x0),(5,vI ((k5:Nat):Int))] a/\Below w0.z w0 w/\inI x0) (λ(x0:Int) a w=>Sat 28 [(1,vI x0)] a/\Below w0.z w0 w/\inI x0) (rQ prog fn<|Q0 w0 B) V ?_ ?_ ?_ ?_ ?_
 .exact λ_ q=>⟨kaA q,br w0,iS _ _⟩
 .rintro k5 x0 _ _ _ L ⟨hSa,s7,h1⟩ hmb;refine Wu ?_ hSa;refine Wq<|Wm z<|Rm z<|R z (lnR z_ z kR)<|Rl z z z<|Wx z (λ_=>?_) (λhc=>(J_ L hc).elim);refine Wk<|Wq<|Wb<|Wm z<|RM z z<|bdB hmb λxc ed O=>xA (α:=Str) z z_ z_9 z z z kR ed λ_ _ _ he hf _=>?_;obtain ⟨rfl,_⟩:=a_e hf;refine R z (l0 g_9 z<|he.at0 z)<|R z (lnT d_9 z)<|R z (sb_ z z)<|Rw z<|Wm z<|Rl z z z<|Wx z (λH=>?_) (λH=>?_)
  .exact Ws<|Rw z<|Wr<|rtO<|qL (som<|ifT O H).symm<|a_s hr z ⟨s7,z,ii z⟩
  exact Wk<|Wg<|Rm z<|R z (inc_ L (lt_ (repS.len I) u_) z z)<|Ra z<|Wl (λ_ q=>⟨w_ x0 (xc.b.length:Int),(som<|ifF O H).symm,⟨kaA q,s7,iS _ _⟩⟩)
 .rintro x0 _ _ ⟨hSg,sh,h1⟩;refine Wu ?_ hSg;refine Wq<|Wm z<|Rm z<|R z (lnR z_ z kR)<|Rl z z z<|Wx z (λhc=>(K_ hc).elim) (λ_=>?_);exact We<|λ_ q=>⟨rfl,⟨kaA q,sh,h1⟩⟩
 .rintro x0 ai _ rfl ⟨_,sj,h1⟩;have hmk:=elL J;revert ai;exact Wo<|Wm z<|Rw z<|Wr<|rS1 hmk hr z ⟨sj,z,h1⟩
 exact lqA J λ_ _ h=>h.2
theorem W_w17 {x1:List Int}{x2:Int}{res:Int}(hm:j_L x1 x2=some res)(J:B<=w0.z)(H:rp w0 B A0 N0 C0 x1)(I:inI x2):g_ prog 184 [sl A0 N0 C0,vI x2] w0 (Q0 w0 B res):=by
 unfold j_L at hm;refine goG func184 z z z λfn hr=>Ws<|Rw z<|Wm z<|Rm z<|R z (lnR v_ z H)<|R z (sb_ z z)<|Rw z<|Wq<|Wm z<|Rl z z z<|Wx z (λG=>?_) (λG=>?_)
 .exact Ws<|Rw z<|Wr<|rS1 (ifT hm G) hr z ⟨br w0,z,ii z⟩
 exact Wk<|Wm z<|Rw z<|Wr<|rS1 (ifF hm G) hr z ⟨br w0,z,iS _ _⟩
theorem W_w2q {x1:f_}{x2:Int}{res:Int}(hm:i_n x1 x2=some res)(aa:B<=w0.z)(a2:x1.name.b.length<=LEN)(a3:inI x1.kind)(a4:inI x1.size)(a5:rp w0 B AB NB CB x1.bytes)(a6:rp w0 B AA NA CA x1.names)(a7:rp w0 B AC NC CC x1.tags)(a8:rp w0 B AD ND CD x1.kids)(a9:inI x2):g_ prog 133 [(.agg #[Str.v x1.name,vI x1.kind,vI x1.size,vB x1.little,sl AB NB CB,sl AA NA CA,sl AC NC CC,sl AD ND CD]),vI x2] w0 (Q0 w0 B res):=by
 unfold i_n at hm;refine goG func133 z z z λfn hr=>Ws<|EvX (vR x1 AB NB CB AA NA CA AC NC CC AD ND CD) z z z λwa a1 O=>Rw z<|Wm z<|Rf z t_l z<|R z (l0 g_9 z<|O.at z)<|R z (lnT d_9 z)<|R z (sb_ z z)<|Rw z<|Wq<|Wm z<|Rl z z z<|Wx z (λG=>?_) (λG=>?_)
 .exact Ws<|Rw z<|Wr<|rS1 (ifT hm G) hr z ⟨a1,z,ii z⟩
 refine Wk<|Ws<|Rf z t_m z<|R z (l0 B_ z<|O.at z)<|Rm z<|bdB (ifF hm G) λ_ eb V=>E z (fc call31 z<|W_w16 (B:=B) eb kM kR<|iS _ _) ?_;rintro _ _ ⟨_,rfl,hc⟩;refine Rw z<|Wq<|Wm z<|Rl z z z<|Wx z (λH=>?_) (λH=>?_)
 .exact Ws<|Rw z<|Wr<|rS1 (ifT V H) hr z ⟨kW,z,ii z⟩
 refine Wk<|Ws<|Rf z t_n z<|R z (l0 a_A z kBa)<|Rm z<|bdB (ifF V H) λ_ ed W=>E z (fc call183 z<|W_w2p (B:=B) ed kM kR hc) ?_;rintro _ _ ⟨_,rfl,he⟩;refine Rw z<|Wq<|Wm z<|Rl z z z<|Wx z (λI=>?_) (λI=>?_)
 .exact Ws<|Rw z<|Wr<|rS1 (ifT W I) hr z ⟨kW,z,ii z⟩
 refine Wk<|Ws<|Rf z t_o z<|R z (l0 A_ z kBa)<|Rm z<|bdB (ifF W I) λrp ef Y=>E z (fc call184 z<|W_w17 (B:=B) ef kM kR he) ?_;rintro _ _ ⟨_,rfl,hg⟩;refine Rw z<|Wq<|Wm z<|Rl z z z<|Wx z (λJ=>?_) (λJ=>?_)
 .exact Ws<|Rw z<|Wr<|rS1 (ifT Y J) hr z ⟨kW,z,ii z⟩
 refine Wk<|Ws<|Rf z t_p z<|R z (l0 A_ z kBa)<|Rm z<|bdB (ifF Y J) λ_ eh a0=>E z (fc call184 z<|W_w17 (B:=B) eh kM kR hg) ?_;rintro _ _ ⟨_,rfl,hi⟩;refine Rw z<|Wq<|Wm z<|Rl z z z<|Wx z (λL=>?_) (λL=>?_)
 .exact Ws<|Rw z<|Wr<|rS1 (ifT a0 L) hr z ⟨kW,z,ii z⟩
 exact Wk<|Wm z<|Rw z<|Wr<|rS1 (ifF a0 L) hr z ⟨kW,z,hi⟩
theorem W_w2r {x1:List f_}{x2:Int}{res:Int}(hm:m_j x1 x2=some res)(a9:B<=w0.z)(I:rp w0 B A0 N0 C0 x1)(a8:inI x2):g_ prog 79 [sl A0 N0 C0,vI x2] w0 (Q0 w0 B res):=by
 unfold m_j at hm;refine goG func79 z z z λfn hr=>Ws<|Rw z<|Wm z<|Rm z<|R z (lnR g_H z I)<|R z (sb_ z z)<|Rw z<|Wq<|Wm z<|Rl z z z<|Wx z (λG=>?_) (λG=>?_)
 .exact Ws<|Rw z<|Wr<|rS1 (ifT hm G) hr z ⟨br w0,z,ii z⟩
 refine Wk<|Wq<|Ws<|Rw z<|bdB (ifF hm G) λ_ a1 J=>Wf (σ:=Int) (ρ:=Int) (λ(k5:Nat)(x0:Int) a w=>Sat 27 [(0,sl A0 N0 C0),(1,vI x0),(5,vI ((k5:Nat):Int))] a/\Below w0.z w0 w/\inI x0) (λ(x0:Int) a w=>Sat 27 [(1,vI x0)] a/\Below w0.z w0 w/\inI x0) (rQ prog fn<|Q0 w0 B) a1 ?_ ?_ ?_ ?_ ?_
 .exact λ_ q=>⟨kaA q,br w0,iS _ _⟩
 .rintro k5 x0 _ _ _ L ⟨a2,_,h1⟩ hma;refine Wu ?_ a2;refine Wq<|Wm z<|Rm z<|R z (lnR g_H z kR)<|Rl z z z<|Wx z (λ_=>?_) (λhc=>(J_ L hc).elim);refine Wk<|Wq<|Wb<|Wm z<|Rm z<|bdB hma λxb ec hmd=>xA (α:=f_) z g_H m_Q z z z kR ec λ_ _ _ he hf _=>?_;obtain ⟨ag,nh,ci,aj,nk,cl,am,nn,co,ap,nq,cr,rfl,ht,hu,hv,hw,hx,hy,hz⟩:=a_T hf;refine R z (lN (vs:=vR xb ag nh ci aj nk cl am nn co ap nq cr) g_198 m_Q z z fid he)<|Rm z<|bdB hmd λrs a3 O=>E z (fc call133 z<|W_w2q (B:=B) a3 kM ht hu hv hw hx hy hz h1) ?_;rintro _ _ ⟨_,rfl,a4⟩;refine Rw z<|Wm z<|Rl z z z<|Wx z (λH=>?_) (λH=>?_)
  .exact Ws<|Rw z<|Wr<|rtO<|qL (som<|ifT O H).symm<|a_s hr z ⟨kW,z,ii z⟩
  exact Wk<|Wg<|Rm z<|R z (inc_ L (lt_ (repS.len I) u_) z z)<|Ra z<|Wl (λ_ q=>⟨rs,(som<|ifF O H).symm,⟨kaA q,kW,a4⟩⟩)
 .rintro x0 _ _ ⟨V,a5,h1⟩;refine Wu ?_ V;refine Wq<|Wm z<|Rm z<|R z (lnR g_H z kR)<|Rl z z z<|Wx z (λhc=>(K_ hc).elim) (λ_=>?_);exact We<|λ_ q=>⟨rfl,⟨kaA q,a5,h1⟩⟩
 .rintro x0 a6 _ rfl ⟨_,a7,h1⟩;have W:=elL J;revert a6;exact Wo<|Wm z<|Rw z<|Wr<|rS1 W hr z ⟨a7,z,h1⟩
 exact lqA J λ_ _ h=>h.2
theorem W_w2s {x1:d_}{x2:Int}{res:Int}(hm:i_o x1 x2=some res)(V:B<=w0.z)(O:rp w0 B A0 N0 C0 x1.rules)(I:inI x2):g_ prog 50 [(.agg #[sl A0 N0 C0]),vI x2] w0 (Q0 w0 B res):=by
 unfold i_o at hm;refine goG func50 z z z λfn hr=>Ws<|EvX [sl A0 N0 C0] z z z λW _ J=>Rw z<|Ws<|Rf z t_y z<|R z (l0 g_94 z<|J.at z)<|Rm z<|bdB hm λ_ L H=>E z (fc call79 z<|W_w2r (B:=B) L kM kR I) ?_;rintro _ _ ⟨_,rfl,h5⟩;refine Rw z<|Wq<|Wm z<|Rl z z z<|Wx z (λG=>?_) (λG=>?_)
 .exact Ws<|Rw z<|Wr<|rS1 (ifT H G) hr z ⟨kW,z,ii z⟩
 exact Wk<|Wm z<|Rw z<|Wr<|rS1 (ifF H G) hr z ⟨kW,z,h5⟩
theorem W_w2t {x1:List d_}{x2:Int}{res:Int}(hm:k_C x1 x2=some res)(a0:B<=w0.z)(I:rp w0 B A0 N0 C0 x1)(Y:inI x2):g_ prog 30 [sl A0 N0 C0,vI x2] w0 (Q0 w0 B res):=by
 unfold k_C at hm;refine goG func30 z z z λfn hr=>Ws<|Rw z<|Wm z<|Rm z<|R z (lnR g_G z I)<|R z (sb_ z z)<|Rw z<|Wq<|Wm z<|Rl z z z<|Wx z (λG=>?_) (λG=>?_)
 .exact Ws<|Rw z<|Wr<|rS1 (ifT hm G) hr z ⟨br w0,z,ii z⟩
 refine Wk<|Wq<|Ws<|Rw z<|bdB (ifF hm G) λ_ V J=>Wf (σ:=Int) (ρ:=Int) (λ(k5:Nat)(x0:Int) a w=>Sat 27 [(0,sl A0 N0 C0),(1,vI x0),(5,vI ((k5:Nat):Int))] a/\Below w0.z w0 w/\inI x0) (λ(x0:Int) a w=>Sat 27 [(1,vI x0)] a/\Below w0.z w0 w/\inI x0) (rQ prog fn<|Q0 w0 B) V ?_ ?_ ?_ ?_ ?_
 .exact λ_ q=>⟨kaA q,br w0,iS _ _⟩
 .rintro k5 x0 _ _ _ L ⟨W,_,h1⟩ hma;refine Wu ?_ W;refine Wq<|Wm z<|Rm z<|R z (lnR g_G z kR)<|Rl z z z<|Wx z (λ_=>?_) (λhc=>(J_ L hc).elim);refine Wk<|Wq<|Wb<|Wm z<|Rm z<|bdB hma λ_ eb hmc=>xA (α:=d_) z g_G z_96 z z z kR eb λ_ _ _ hd he _=>?_;obtain ⟨af,ng,ch,rfl,hi⟩:=e_s he;refine R z (lN (vs:=[sl af ng ch]) g_96 z_96 z z fid hd)<|Rm z<|bdB hmc λrj ek O=>E z (fc call50 z<|W_w2s (B:=B) ek kM hi h1) ?_;rintro _ _ ⟨_,rfl,hl⟩;refine Rw z<|Wm z<|Rl z z z<|Wx z (λH=>?_) (λH=>?_)
  .exact Ws<|Rw z<|Wr<|rtO<|qL (som<|ifT O H).symm<|a_s hr z ⟨kW,z,ii z⟩
  exact Wk<|Wg<|Rm z<|R z (inc_ L (lt_ (repS.len I) u_) z z)<|Ra z<|Wl (λ_ q=>⟨rj,(som<|ifF O H).symm,⟨kaA q,kW,hl⟩⟩)
 .rintro x0 _ _ ⟨hSm,sn,h1⟩;refine Wu ?_ hSm;refine Wq<|Wm z<|Rm z<|R z (lnR g_G z kR)<|Rl z z z<|Wx z (λhc=>(K_ hc).elim) (λ_=>?_);exact We<|λ_ q=>⟨rfl,⟨kaA q,sn,h1⟩⟩
 .rintro x0 ao _ rfl ⟨_,sp,h1⟩;have hmq:=elL J;revert ao;exact Wo<|Wm z<|Rw z<|Wr<|rS1 hmq hr z ⟨sp,z,h1⟩
 exact lqA J λ_ _ h=>h.2
theorem W_w2u {x1:a_9}{x2:Int}{res:Int}(hm:m_x x1 x2=some res)(V:B<=w0.z)(O:rp w0 B A0 N0 C0 x1.versions)(I:inI x2):g_ prog 13 [(.agg #[sl A0 N0 C0]),vI x2] w0 (Q0 w0 B res):=by
 unfold m_x at hm;refine goG func13 z z z λfn hr=>Ws<|EvX [sl A0 N0 C0] z z z λW _ J=>Rw z<|Ws<|Rf z t_q z<|R z (l0 g_22 z<|J.at z)<|Rm z<|bdB hm λ_ L H=>E z (fc call30 z<|W_w2t (B:=B) L kM kR I) ?_;rintro _ _ ⟨_,rfl,h5⟩;refine Rw z<|Wq<|Wm z<|Rl z z z<|Wx z (λG=>?_) (λG=>?_)
 .exact Ws<|Rw z<|Wr<|rS1 (ifT H G) hr z ⟨kW,z,ii z⟩
 exact Wk<|Wm z<|Rw z<|Wr<|rS1 (ifF H G) hr z ⟨kW,z,h5⟩
theorem W_w2v {x1:Log}{x2:Int}{res:Int}(hm:m_y x1 x2=some res)(W:B<=w0.z)(O:rp w0 B A0 N0 C0 x1.bytes)(V:inI x1.stored)(I:inI x2):g_ prog 14 [(.agg #[sl A0 N0 C0,vI x1.stored]),vI x2] w0 (Q0 w0 B res):=by
 unfold m_y at hm;refine goG func14 z z z λfn hr=>Ws<|EvX [sl A0 N0 C0,vI x1.stored] z z z λY _ J=>Rw z<|Ws<|Rf z t_s z<|R z (l0 B_ z<|J.at z)<|Rm z<|bdB hm λ_ L H=>E z (fc call31 z<|W_w16 (B:=B) L kM kR I) ?_;rintro _ _ ⟨_,rfl,h5⟩;refine Rw z<|Wq<|Wm z<|Rl z z z<|Wx z (λG=>?_) (λG=>?_)
 .exact Ws<|Rw z<|Wr<|rS1 (ifT H G) hr z ⟨kW,z,ii z⟩
 exact Wk<|Wm z<|Rw z<|Wr<|rS1 (ifF H G) hr z ⟨kW,z,h5⟩
theorem W_w2w {x1:H_}{x2:Int}{res:Int}(hm:k_D x1 x2=some res)(a2:B<=w0.z)(a0:rp w0 B A0 N0 C0 x1.registry.versions)(a1:rp w0 B A1 N1 C1 x1.log.bytes)(L:inI x1.log.stored)(O:inI x2):g_ prog 4 [(.agg #[sl A0 N0 C0,sl A1 N1 C1,vI x1.log.stored]),vI x2] w0 (Q0 w0 B res):=by
 unfold k_D at hm;refine goG func4 z z z λfn hr=>Ws<|EvX [sl A0 N0 C0,sl A1 N1 C1,vI x1.log.stored] z z z λw5 _ V=>Rw z<|Ws<|Rf z t_t z<|R z (lN (vs:=[sl A0 N0 C0]) g_24 z_24 z z fid<|V.row 0 1 z)<|Rm z<|bdB hm λ_ W I=>E z (fc call13 z<|W_w2u (B:=B) (x1:=(⟨x1.registry.versions⟩:a_9)) W kM kR O) ?_;rintro _ _ ⟨_,rfl,Y⟩;refine Rw z<|Wq<|Wm z<|Rl z z z<|Wx z (λG=>?_) (λG=>?_)
 .exact Ws<|Rw z<|Wr<|rS1 (ifT I G) hr z ⟨kW,z,ii z⟩
 refine Wk<|Ws<|Rf z t_u z<|R z (lN (vs:=[sl A1 N1 C1,vI x1.log.stored]) g_27 z_27 z z fid<|kBr 1 2)<|Rm z<|bdB (ifF I G) λ_ e8 J=>E z (fc call14 z<|W_w2v (B:=B) (x1:=(⟨x1.log.bytes,x1.log.stored⟩:Log)) e8 kM kR L Y) ?_;rintro _ _ ⟨_,rfl,h9⟩;refine Rw z<|Wq<|Wm z<|Rl z z z<|Wx z (λH=>?_) (λH=>?_)
 .exact Ws<|Rw z<|Wr<|rS1 (ifT J H) hr z ⟨kW,z,ii z⟩
 exact Wk<|Wm z<|Rw z<|Wr<|rS1 (ifF J H) hr z ⟨kW,z,h9⟩
def Q1 (w0:World)(B:Zone)(r:Bt)(v:Value)(w':World):Prop:=Bw w0 w'/\(λr1=>∃G H I S1,(sl G H I)=v/\c_ w' S1 (sl G H I) r1/\S1.Nodup/\(∀k∈S1,w0.z<=k)) r
theorem W_w18 {x1:Bt}{res:Bt}(hm:i_p x1=some res)(Y:B<=w0.z)(V:rp w0 B A0 N0 C0 x1):g_ prog 40 [sl A0 N0 C0] w0 (Q1 w0 B res):=by
 unfold i_p at hm;refine goG func40 z z z λfn hr=>Ws<|Rw z<|Wm z<|R z (lnR h_ z V)<|bdB hm λ_ ed hme=>E z (e_2 (α:=UInt8) M_ (λ_=>p_S) ed z z) ?_;rintro _ H ⟨I,J,L,rfl,_,hf⟩;refine Rw z<|Wq<|Ws<|Rw z<|bdB hme λ_ hug W=>Wf (σ:=Bt) (ρ:=Bt) (λ(k9:Nat)(x2:Bt) a w=>∃(G:List Nat),Sat 22 [(0,sl A0 N0 C0),(3,sl I J L),(4,vI ((k9:Nat):Int))] a/\Cg [w0.z] H w/\c_ w G (sl I J L) x2/\G.Nodup/\(∀k∈G,k∈[w0.z]∨H.z<=k)) (λ(x2:Bt) a w=>∃(G:List Nat),Sat 22 [(3,sl I J L)] a/\Cg [w0.z] H w/\c_ w G (sl I J L) x2/\G.Nodup/\(∀k∈G,k∈[w0.z]∨H.z<=k)) (rQ prog fn<|Q1 w0 B) hug ?_ ?_ ?_ ?_ ?_
 .exact λ_ q=>⟨[w0.z],kaA q,cr [w0.z] H,hf,S_,sQ⟩
 .rintro k9 x2 _ _ _ hka ⟨G,hSh,_,h1,O,hb⟩ hmi;refine Wu ?_ hSh;refine Wq<|Wm z<|Rm z<|R z (lnR h_ z kR)<|Rl z z z<|Wx z (λ_=>?_) (λhc=>(J_ hka hc).elim);refine Wk<|Wq<|Wb<|Wg<|RM z z<|RM z z<|bdB hmi λ_ ej hmk=>xA (α:=UInt8) z h_ z_5 z z z kR ej λ_ _ _ hl hn _=>?_;obtain rfl:=u8 hn;refine R z (l0 g_5 z<|hl.at0 z)<|bdB hmk λxm ec hmo=>RX z (b_q (α:=UInt8) h_ z_5 z z h1 ec) ?_;rintro _ ⟨_,hp,rfl⟩;refine E0 (b_g (α:=UInt8) z_5 z hp z z z ec h1 O b_o an_ E_) ?_;rintro _ _ ⟨Sq,_,ht,hu,_⟩;exact Wn<|Wg<|Rm z<|R z (inc_ hka (lt_ (repS.len V) u_) z z)<|Ra z<|Wl (λ_ q=>⟨xm,(som hmo).symm,⟨Sq,kaA q,kW,ht,hu,sQ⟩⟩)
 .rintro x2 _ _ ⟨G,hSr,_,h1,O,hb⟩;refine Wu ?_ hSr;refine Wq<|Wm z<|Rm z<|R z (lnR h_ z kR)<|Rl z z z<|Wx z (λhc=>(K_ hc).elim) (λ_=>?_);exact We<|λ_ q=>⟨rfl,⟨G,kaA q,kW,h1,O,sQ⟩⟩
 .rintro x2 av _ rfl ⟨G,_,_,h1,O,hb⟩;have hms:=elL W;revert av;exact Wo<|Wm z<|Rw z<|Wr<|rS1 hms hr z ⟨kW,I,J,L,G,z,h1,O,sQ⟩
 exact lqA W λ_ _ h=>h.2
def Q2 (w0:World)(B:Zone)(r:(List Str))(v:Value)(w':World):Prop:=Bw w0 w'/\(λr1=>∃G H I S1,(sl G H I)=v/\c_ w' S1 (sl G H I) r1/\S1.Nodup/\(∀k∈S1,w0.z<=k)) r
theorem W_w2x {x1:List Str}{res:(List Str)}(hm:j_M x1=some res)(Y:B<=w0.z)(V:rp w0 B A0 N0 C0 x1):g_ prog 193 [sl A0 N0 C0] w0 (Q2 w0 B res):=by
 unfold j_M at hm;refine goG func193 z z z λfn hr=>Ws<|Rw z<|Wm z<|R z (lnR z_ z V)<|bdB hm λ_ ed hme=>E z (e_2 (α:=Str) a_q (λ_=>b_c<|lb z) ed z z) ?_;rintro _ H ⟨I,J,L,rfl,_,hf⟩;refine Rw z<|Wq<|Ws<|Rw z<|bdB hme λ_ hug W=>Wf (σ:=List Str) (ρ:=List Str) (λ(k9:Nat)(x2:List Str) a w=>∃(G:List Nat),Sat 22 [(0,sl A0 N0 C0),(3,sl I J L),(4,vI ((k9:Nat):Int))] a/\Cg [w0.z] H w/\c_ w G (sl I J L) x2/\G.Nodup/\(∀k∈G,k∈[w0.z]∨H.z<=k)) (λ(x2:List Str) a w=>∃(G:List Nat),Sat 22 [(3,sl I J L)] a/\Cg [w0.z] H w/\c_ w G (sl I J L) x2/\G.Nodup/\(∀k∈G,k∈[w0.z]∨H.z<=k)) (rQ prog fn<|Q2 w0 B) hug ?_ ?_ ?_ ?_ ?_
 .exact λ_ q=>⟨[w0.z],kaA q,cr [w0.z] H,hf,S_,sQ⟩
 .rintro k9 x2 _ _ _ hka ⟨G,hSh,_,h1,O,hb⟩ hmi;refine Wu ?_ hSh;refine Wq<|Wm z<|Rm z<|R z (lnR z_ z kR)<|Rl z z z<|Wx z (λ_=>?_) (λhc=>(J_ hka hc).elim);refine Wk<|Wq<|Wb<|Wg<|RM z z<|RM z z<|bdB hmi λ_ ej hmk=>xA (α:=Str) z z_ z_9 z z z kR ej λ_ _ _ hl hn _=>?_;obtain ⟨rfl,ho⟩:=a_e hn;refine R z (l0 g_9 z<|hl.at0 z)<|bdB hmk λxm ec hmp=>RX z (b_q (α:=Str) z_ z_9 z z h1 ec) ?_;rintro _ ⟨_,hq,rfl⟩;refine E0 (b_g (α:=Str) z_9 z hq z z z ec h1 O (b_c ho) an_ E_) ?_;rintro _ _ ⟨Sr,_,ht,hu,_⟩;exact Wn<|Wg<|Rm z<|R z (inc_ hka (lt_ (repS.len V) u_) z z)<|Ra z<|Wl (λ_ q=>⟨xm,(som hmp).symm,⟨Sr,kaA q,kW,ht,hu,sQ⟩⟩)
 .rintro x2 _ _ ⟨G,hSs,_,h1,O,hb⟩;refine Wu ?_ hSs;refine Wq<|Wm z<|Rm z<|R z (lnR z_ z kR)<|Rl z z z<|Wx z (λhc=>(K_ hc).elim) (λ_=>?_);exact We<|λ_ q=>⟨rfl,⟨G,kaA q,kW,h1,O,sQ⟩⟩
 .rintro x2 av _ rfl ⟨G,_,_,h1,O,hb⟩;have hmw:=elL W;revert av;exact Wo<|Wm z<|Rw z<|Wr<|rS1 hmw hr z ⟨kW,I,J,L,G,z,h1,O,sQ⟩
 exact lqA W λ_ _ h=>h.2
def Q3 (w0:World)(B:Zone)(r:(List Int))(v:Value)(w':World):Prop:=Bw w0 w'/\(λr1=>∃G H I S1,(sl G H I)=v/\c_ w' S1 (sl G H I) r1/\S1.Nodup/\(∀k∈S1,w0.z<=k)) r
theorem W_w19 {x1:List Int}{res:(List Int)}(hm:i_q x1=some res)(Y:B<=w0.z)(V:rp w0 B A0 N0 C0 x1):g_ prog 194 [sl A0 N0 C0] w0 (Q3 w0 B res):=by
 unfold i_q at hm;refine goG func194 z z z λfn hr=>Ws<|Rw z<|Wm z<|R z (lnR v_ z V)<|bdB hm λ_ ed hme=>E z (e_2 (α:=Int) o_N (λ_=>d_d<|ii z) ed z z) ?_;rintro _ H ⟨I,J,L,rfl,_,hf⟩;refine Rw z<|Wq<|Ws<|Rw z<|bdB hme λ_ hug W=>Wf (σ:=List Int) (ρ:=List Int) (λ(k9:Nat)(x2:List Int) a w=>∃(G:List Nat),Sat 22 [(0,sl A0 N0 C0),(3,sl I J L),(4,vI ((k9:Nat):Int))] a/\Cg [w0.z] H w/\c_ w G (sl I J L) x2/\G.Nodup/\(∀k∈G,k∈[w0.z]∨H.z<=k)) (λ(x2:List Int) a w=>∃(G:List Nat),Sat 22 [(3,sl I J L)] a/\Cg [w0.z] H w/\c_ w G (sl I J L) x2/\G.Nodup/\(∀k∈G,k∈[w0.z]∨H.z<=k)) (rQ prog fn<|Q3 w0 B) hug ?_ ?_ ?_ ?_ ?_
 .exact λ_ q=>⟨[w0.z],kaA q,cr [w0.z] H,hf,S_,sQ⟩
 .rintro k9 x2 _ _ _ hka ⟨G,hSh,_,h1,O,hb⟩ hmi;refine Wu ?_ hSh;refine Wq<|Wm z<|Rm z<|R z (lnR v_ z kR)<|Rl z z z<|Wx z (λ_=>?_) (λhc=>(J_ hka hc).elim);refine Wk<|Wq<|Wb<|Wg<|RM z z<|RM z z<|bdB hmi λ_ ej hmk=>xI z v_ z_3 z z z kR ej λ_ _ hl ho=>R z (l0 g_3 z<|hl.at0 z)<|bdB hmk λxm ec hmp=>RX z (b_q (α:=Int) v_ z_3 z z h1 ec) ?_;rintro _ ⟨_,hq,rfl⟩;refine E0 (b_g (α:=Int) z_3 z hq z z z ec h1 O (d_d ho) an_ E_) ?_;rintro _ _ ⟨Sr,_,ht,hu,_⟩;exact Wn<|Wg<|Rm z<|R z (inc_ hka (lt_ (repS.len V) u_) z z)<|Ra z<|Wl (λ_ q=>⟨xm,(som hmp).symm,⟨Sr,kaA q,kW,ht,hu,sQ⟩⟩)
 .rintro x2 _ _ ⟨G,hSs,_,h1,O,hb⟩;refine Wu ?_ hSs;refine Wq<|Wm z<|Rm z<|R z (lnR v_ z kR)<|Rl z z z<|Wx z (λhc=>(K_ hc).elim) (λ_=>?_);exact We<|λ_ q=>⟨rfl,⟨G,kaA q,kW,h1,O,sQ⟩⟩
 .rintro x2 av _ rfl ⟨G,_,_,h1,O,hb⟩;have hmw:=elL W;revert av;exact Wo<|Wm z<|Rw z<|Wr<|rS1 hmw hr z ⟨kW,I,J,L,G,z,h1,O,sQ⟩
 exact lqA W λ_ _ h=>h.2
def Q4 (w0:World)(B:Zone)(r:f_)(v:Value)(w':World):Prop:=Bw w0 w'/\(λr1=>∃G H I S1 a2 J L S2 O V W S3 Y n4 c4 S4,(.agg #[Str.v r1.name,vI r1.kind,vI r1.size,vB r1.little,sl G H I,sl a2 J L,sl O V W,sl Y n4 c4])=v/\r1.name.b.length<=LEN/\inI r1.kind/\inI r1.size/\c_ w' S1 (sl G H I) r1.bytes/\c_ w' S2 (sl a2 J L) r1.names/\c_ w' S3 (sl O V W) r1.tags/\c_ w' S4 (sl Y n4 c4) r1.kids/\(S1++(S2++(S3++S4))).Nodup/\(∀k∈(S1++(S2++(S3++S4))),w0.z<=k)) r
theorem W_w2y {x1:f_}{res:f_}(hm:j_N x1=some res)(an:B<=w0.z)(a1:x1.name.b.length<=LEN)(a2:inI x1.kind)(a4:inI x1.size)(aj:rp w0 B AB NB CB x1.bytes)(ak:rp w0 B AA NA CA x1.names)(al:rp w0 B AC NC CC x1.tags)(am:rp w0 B AD ND CD x1.kids):g_ prog 160 [(.agg #[Str.v x1.name,vI x1.kind,vI x1.size,vB x1.little,sl AB NB CB,sl AA NA CA,sl AC NC CC,sl AD ND CD])] w0 (Q4 w0 B res):=by
 unfold j_N at hm;refine goG func160 z z z λfn hr=>Ws<|EvX (vR x1 AB NB CB AA NA CA AC NC CC AD ND CD) z z z λwc _ _=>EvZ [(Str.v (⟨[]⟩:Str)),vI 0,vI 0,vB false,sN,sN,sN,sN] z c_t z λwe _ _=>Wn<|Ws<|EvZ [(Str.v (⟨[]⟩:Str)),vI 0,vI 0,vB false,sN,sN,sN,sN] z c_t z λwh _ a5=>Wn<|Ws<|Rf z t_l z<|R z (l0 g_9 z kBa)<|Rf z e_P z<|E0q [Str.v x1.name,vI 0,vI 0,vB false,sN,sN,sN,sN] z_9 z z a5 z λap hi _=>Wn<|Ws<|Rf z z_r z<|R z (l0 g_3 z kBa)<|Rf z a_r z<|E0q [Str.v x1.name,vI x1.kind,vI 0,vB false,sN,sN,sN,sN] z_3 z z hi z λaq hk _=>?_;refine Wn<|Ws<|Rf z z_s z<|R z (l0 g_3 z kBa)<|Rf z a_V z<|E0q [Str.v x1.name,vI x1.kind,vI x1.size,vB false,sN,sN,sN,sN] z_3 z z hk z λar hl _=>Wn<|Ws<|Rf z z_t z<|R z (l0 g_4 z kBa)<|Rf z e_k z<|E0q (vR x1 none 0 0 none 0 0 none 0 0 none 0 0) z_4 z z hl z λau _ _=>Wn<|Ws<|Rf z t_m z<|R z (l0 B_ z kBa) ?_;refine bdB hm λ_ ep hmq=>E z (fc call40 z<|W_w18 (B:=B) ep kM kR) ?_;rintro _ _ ⟨_,G,H,I,Sr,rfl,_,ht,_⟩;refine Rf z b_F z<|E0q (vR x1 G H I none 0 0 none 0 0 none 0 0) z_25 z z kB z λav _ _=>Wn<|Ws<|Rf z t_n z<|R z (l0 a_A z kBa)<|bdB hmq λ_ eu hmv=>E z (fc call193 z<|W_w2x (B:=B) eu kM kR) ?_;rintro _ _ ⟨_,J,L,O,Sw,rfl,_,hx,_⟩;refine Rf z c_r z<|E0q (vR x1 G H I J L O none 0 0 none 0 0) d_v z z kB z λaw _ _=>Wn<|Ws<|Rf z t_o z<|R z (l0 A_ z kBa)<|bdB hmv λ_ ez a7=>E z (fc call194 z<|W_w19 (B:=B) ez kM kR) ?_;rintro _ _ ⟨_,V,W,Y,aa,rfl,_,ab,_⟩;refine Rf z b_G z<|E0q (vR x1 G H I J L O V W Y none 0 0) z_156 z z kB z λax _ _=>Wn<|Ws<|Rf z t_p z<|R z (l0 A_ z kBa)<|bdB a7 λ_ ad a8=>E z (fc call194 z<|W_w19 (B:=B) ad kM kR) ?_;rintro _ _ ⟨_,a9,na,cb,ae,rfl,_,af,_⟩;exact Rf z Q_ z<|E0q (vR x1 G H I J L O V W Y a9 na cb) z_156 z z kB z λay ah _=>Wn<|Ws<|R z (lN (vs:=vR x1 G H I J L O V W Y a9 na cb) G_ l_ z z fid<|ah.row 0 8 z)<|E0q (vR x1 G H I J L O V W Y a9 na cb) l_ z z kB z λaz ai _=>Wn<|Wr<|rS1 a8 hr (m_ G_ l_ z ai z) ⟨kW,G,H,I,Sr,J,L,O,Sw,V,W,Y,aa,a9,na,cb,ae,z,a1,a2,a4,kO,kO,kO,kO,na_ ht (na_ hx (na_ ab af sQ) sQ) sQ,sQ⟩
def Q5 (w0:World)(B:Zone)(r:(List f_))(v:Value)(w':World):Prop:=Bw w0 w'/\(λr1=>∃G H I S1,(sl G H I)=v/\c_ w' S1 (sl G H I) r1/\S1.Nodup/\(∀k∈S1,w0.z<=k)) r
theorem W_w2z {x1:List f_}{res:(List f_)}(hm:m_k x1=some res)(aL:B<=w0.z)(V:rp w0 B A0 N0 C0 x1):g_ prog 95 [sl A0 N0 C0] w0 (Q5 w0 B res):=by
 unfold m_k at hm;refine goG func95 z z z λfn hr=>Ws<|Rw z<|Wm z<|R z (lnR g_H z V)<|bdB hm λ_ ed hme=>E z (e_2 (α:=f_) el_51 (λ_=>e_r (x:=(⟨(⟨[]⟩:Str),0,0,false,([]:Bt),([]:List Str),([]:List Int),([]:List Int)⟩:f_)) (S1:=([]:List Nat)) (S2:=([]:List Nat)) (S3:=([]:List Nat)) (S4:=([]:List Nat)) (lb z) (ii z) (ii z) onL onL onL onL) ed z z) ?_;rintro _ H ⟨I,J,L,rfl,_,hf⟩;refine Rw z<|Wq<|Ws<|Rw z<|bdB hme λ_ hug W=>Wf (σ:=List f_) (ρ:=List f_) (λ(k9:Nat)(x2:List f_) a w=>∃(G:List Nat),Sat 23 [(0,sl A0 N0 C0),(3,sl I J L),(4,vI ((k9:Nat):Int))] a/\Cg [w0.z] H w/\c_ w G (sl I J L) x2/\G.Nodup/\(∀k∈G,k∈[w0.z]∨H.z<=k)) (λ(x2:List f_) a w=>∃(G:List Nat),Sat 23 [(3,sl I J L)] a/\Cg [w0.z] H w/\c_ w G (sl I J L) x2/\G.Nodup/\(∀k∈G,k∈[w0.z]∨H.z<=k)) (rQ prog fn<|Q5 w0 B) hug ?_ ?_ ?_ ?_ ?_
 .exact λ_ q=>⟨[w0.z],kaA q,cr [w0.z] H,hf,S_,sQ⟩
 .rintro k9 x2 _ _ _ hka ⟨G,hSh,_,O,h6,hb⟩ hmi;refine Wu ?_ hSh;refine Wq<|Wm z<|Rm z<|R z (lnR g_H z kR)<|Rl z z z<|Wx z (λ_=>?_) (λhc=>(J_ hka hc).elim);refine Wk<|Wq<|Wb<|Wg<|RM z z<|RM z z<|bdB hmi λxj ek hml=>xA (α:=f_) z g_H m_Q z z z kR ek λ_ _ _ hn ho _=>?_;obtain ⟨am,np,cq,ar,ns,ct,au,nv,cw,ax,ny,cz,rfl,aa,ab,ad,ae,af,ah,ai⟩:=a_T ho;refine R z (lN (vs:=vR xj am np cq ar ns ct au nv cw ax ny cz) g_198 m_Q z z fid hn)<|bdB hml λaj ak a4=>E z (fc call160 z<|W_w2y (B:=B) ak kM aa ab ad ae af ah ai) ?_;rintro _ _ ⟨_,_,_,_,al,_,_,_,an,_,_,_,ap,_,_,_,aq,rfl,av,aw,ay,az,aA,aB,aC,aD,aE⟩;obtain ⟨Y,a0,a1,a2,_,_,_,_,_,_,_,_,_,_⟩:=apQ4 aD aE;refine bdB a4 λaF ec a5=>RX z (b_q (α:=f_) Y_ l_ z z kO ec) ?_;rintro _ ⟨_,aG,rfl⟩;refine E0 (b_g (α:=f_) l_ z aG z z z ec kO h6 (e_r (x:=aj) (S1:=al) (S2:=an) (S3:=ap) (S4:=aq) av aw ay az aA aB aC) sQ<|na_ Y (na_ a0 (na_ a1 a2 sQ) sQ) sQ) ?_;rintro _ _ ⟨aH,_,aI,aJ,_⟩;exact Wn<|Wg<|Rm z<|R z (inc_ hka (lt_ (repS.len V) u_) z z)<|Ra z<|Wl (λ_ q=>⟨aF,(som a5).symm,⟨aH,kaA q,kW,aI,aJ,sQ⟩⟩)
 .rintro x2 _ _ ⟨G,a6,_,O,h6,hb⟩;refine Wu ?_ a6;refine Wq<|Wm z<|Rm z<|R z (lnR g_H z kR)<|Rl z z z<|Wx z (λhc=>(K_ hc).elim) (λ_=>?_);exact We<|λ_ q=>⟨rfl,⟨G,kaA q,kW,O,h6,sQ⟩⟩
 .rintro x2 aK _ rfl ⟨G,_,_,O,h6,hb⟩;have a7:=elL W;revert aK;exact Wo<|Wm z<|Rw z<|Wr<|rS1 a7 hr z ⟨kW,I,J,L,G,z,O,h6,sQ⟩
 exact lqA W λ_ _ h=>h.2
def Q6 (w0:World)(B:Zone)(r:d_)(v:Value)(w':World):Prop:=Bw w0 w'/\(λr1=>∃G H I S1,(.agg #[.slice G H I])=v/\c_ w' S1 (sl G H I) r1.rules/\S1.Nodup/\(∀k∈S1,w0.z<=k)) r
theorem W_w30 {x1:d_}{res:d_}(hm:j_O x1=some res)(O:B<=w0.z)(L:rp w0 B A0 N0 C0 x1.rules):g_ prog 61 [(.agg #[sl A0 N0 C0])] w0 (Q6 w0 B res):=by
 unfold j_O at hm;refine goG func61 z z z λfn hr=>Ws<|EvX [sl A0 N0 C0] z z z λV _ _=>EvZ [sN] z o_Q z λW _ _=>Wn<|Ws<|EvZ [sN] z o_Q z λY _ _=>Wn<|Ws<|Rf z t_y z<|R z (l0 g_94 z kBa)<|bdB hm λ_ J hma=>E z (fc call95 z<|W_w2z (B:=B) J kM kR) ?_;rintro _ _ ⟨_,G,H,I,Sb,rfl,_,hc,_⟩;exact Rf z a_l z<|E0q [sl G H I] z_51 z z kB z λwm hd _=>Wn<|Ws<|R z (lC [sl G H I] s_ n_ z)<|E0q [sl G H I] n_ z z kB z λwn hf _=>Wn<|Wr<|rS1 hma hr (m_ s_ n_ z hf z) ⟨kW,G,H,I,Sb,z,kO,hc,sQ⟩
def Q7 (w0:World)(B:Zone)(r:(List d_))(v:Value)(w':World):Prop:=Bw w0 w'/\(λr1=>∃G H I S1,(sl G H I)=v/\c_ w' S1 (sl G H I) r1/\S1.Nodup/\(∀k∈S1,w0.z<=k)) r
theorem W_w31 {x1:List d_}{res:(List d_)}(hm:k_E x1=some res)(a8:B<=w0.z)(V:rp w0 B A0 N0 C0 x1):g_ prog 39 [sl A0 N0 C0] w0 (Q7 w0 B res):=by
 unfold k_E at hm;refine goG func39 z z z λfn hr=>Ws<|Rw z<|Wm z<|R z (lnR g_G z V)<|bdB hm λ_ ed hme=>E z (e_2 (α:=d_) el_33 (λ_=>n_i (x:=(⟨([]:List f_)⟩:d_)) (S1:=([]:List Nat)) onL) ed z z) ?_;rintro _ H ⟨I,J,L,rfl,_,hf⟩;refine Rw z<|Wq<|Ws<|Rw z<|bdB hme λ_ hug W=>Wf (σ:=List d_) (ρ:=List d_) (λ(k9:Nat)(x2:List d_) a w=>∃(G:List Nat),Sat 23 [(0,sl A0 N0 C0),(3,sl I J L),(4,vI ((k9:Nat):Int))] a/\Cg [w0.z] H w/\c_ w G (sl I J L) x2/\G.Nodup/\(∀k∈G,k∈[w0.z]∨H.z<=k)) (λ(x2:List d_) a w=>∃(G:List Nat),Sat 23 [(3,sl I J L)] a/\Cg [w0.z] H w/\c_ w G (sl I J L) x2/\G.Nodup/\(∀k∈G,k∈[w0.z]∨H.z<=k)) (rQ prog fn<|Q7 w0 B) hug ?_ ?_ ?_ ?_ ?_
 .exact λ_ q=>⟨[w0.z],kaA q,cr [w0.z] H,hf,S_,sQ⟩
 .rintro k9 x2 _ _ _ hka ⟨G,hSh,_,O,h6,hb⟩ hmi;refine Wu ?_ hSh;refine Wq<|Wm z<|Rm z<|R z (lnR g_G z kR)<|Rl z z z<|Wx z (λ_=>?_) (λhc=>(J_ hka hc).elim);refine Wk<|Wq<|Wb<|Wg<|RM z z<|RM z z<|bdB hmi λ_ ej hmk=>xA (α:=d_) z g_G z_96 z z z kR ej λ_ _ _ hl hn _=>?_;obtain ⟨am,no,cp,rfl,hq⟩:=e_s hn;refine R z (lN (vs:=[sl am no cp]) g_96 z_96 z z fid hl)<|bdB hmk λrr es hmt=>E z (fc call61 z<|W_w30 (B:=B) es kM hq) ?_;rintro _ _ ⟨_,_,_,_,Su,rfl,hv,hw,_⟩;refine bdB hmt λxx ec hmy=>RX z (b_q (α:=d_) b_M n_ z z kO ec) ?_;rintro _ ⟨_,hz,rfl⟩;refine E0 (b_g (α:=d_) n_ z hz z z z ec kO h6 (n_i (x:=rr) (S1:=Su) hv) sQ hw) ?_;rintro _ _ ⟨a4,_,a5,a6,_⟩;exact Wn<|Wg<|Rm z<|R z (inc_ hka (lt_ (repS.len V) u_) z z)<|Ra z<|Wl (λ_ q=>⟨xx,(som hmy).symm,⟨a4,kaA q,kW,a5,a6,sQ⟩⟩)
 .rintro x2 _ _ ⟨G,Y,_,O,h6,hb⟩;refine Wu ?_ Y;refine Wq<|Wm z<|Rm z<|R z (lnR g_G z kR)<|Rl z z z<|Wx z (λhc=>(K_ hc).elim) (λ_=>?_);exact We<|λ_ q=>⟨rfl,⟨G,kaA q,kW,O,h6,sQ⟩⟩
 .rintro x2 a7 _ rfl ⟨G,_,_,O,h6,hb⟩;have a0:=elL W;revert a7;exact Wo<|Wm z<|Rw z<|Wr<|rS1 a0 hr z ⟨kW,I,J,L,G,z,O,h6,sQ⟩
 exact lqA W λ_ _ h=>h.2
def Q8 (w0:World)(B:Zone)(r:a_9)(v:Value)(w':World):Prop:=Bw w0 w'/\(λr1=>∃G H I S1,(.agg #[.slice G H I])=v/\c_ w' S1 (sl G H I) r1.versions/\S1.Nodup/\(∀k∈S1,w0.z<=k)) r
theorem W_w32 {x1:a_9}{res:a_9}(hm:m_z x1=some res)(O:B<=w0.z)(L:rp w0 B A0 N0 C0 x1.versions):g_ prog 18 [(.agg #[sl A0 N0 C0])] w0 (Q8 w0 B res):=by
 unfold m_z at hm;refine goG func18 z z z λfn hr=>Ws<|EvX [sl A0 N0 C0] z z z λV _ _=>EvZ [sN] z t_z z λW _ _=>Wn<|Ws<|EvZ [sN] z t_z z λY _ _=>Wn<|Ws<|Rf z t_q z<|R z (l0 g_22 z kBa)<|bdB hm λ_ J hma=>E z (fc call39 z<|W_w31 (B:=B) J kM kR) ?_;rintro _ _ ⟨_,G,H,I,Sb,rfl,_,hc,_⟩;exact Rf z c_D z<|E0q [sl G H I] z_33 z z kB z λwm hd _=>Wn<|Ws<|R z (lC [sl G H I] g_F e_T z)<|E0q [sl G H I] e_T z z kB z λwn hf _=>Wn<|Wr<|rS1 hma hr (m_ g_F e_T z hf z) ⟨kW,G,H,I,Sb,z,kO,hc,sQ⟩
def Q9 (w0:World)(B:Zone)(r:Log)(v:Value)(w':World):Prop:=Bw w0 w'/\(λr1=>∃G H I S1,(.agg #[.slice G H I,vI r1.stored])=v/\c_ w' S1 (sl G H I) r1.bytes/\inI r1.stored/\S1.Nodup/\(∀k∈S1,w0.z<=k)) r
theorem W_w33 {x1:Log}{res:Log}(hm:m_A x1=some res)(V:B<=w0.z)(O:rp w0 B A0 N0 C0 x1.bytes)(J:inI x1.stored):g_ prog 19 [(.agg #[sl A0 N0 C0,vI x1.stored])] w0 (Q9 w0 B res):=by
 unfold m_A at hm;refine goG func19 z z z λfn hr=>Ws<|EvX [sl A0 N0 C0,vI x1.stored] z z z λW _ _=>EvZ [sN,vI 0] z t_A z λY _ _=>Wn<|Ws<|EvZ [sN,vI 0] z t_A z λw8 _ _=>Wn<|Ws<|Rf z t_s z<|R z (l0 B_ z kBa)<|bdB hm λ_ L hma=>E z (fc call40 z<|W_w18 (B:=B) L kM kR) ?_;rintro _ _ ⟨_,G,H,I,Sb,rfl,_,hc,_⟩;exact Rf z c_E z<|E0q [sl G H I,vI 0] z_25 z z kB z λwo hd _=>Wn<|Ws<|Rf z f_27_1 z<|R z (l0 g_3 z kBa)<|Rf z f_x z<|E0q [sl G H I,vI x1.stored] z_3 z z hd z λwp hf _=>Wn<|Ws<|R z (lC [sl G H I,vI x1.stored] f_u e_m z)<|E0q [sl G H I,vI x1.stored] e_m z z kB z λwq hh _=>Wn<|Wr<|rS1 hma hr (m_ f_u e_m z hh z) ⟨kW,G,H,I,Sb,z,kO,J,hc,sQ⟩
def Q10 (w0:World)(B:Zone)(r:H_)(v:Value)(w':World):Prop:=Bw w0 w'/\(λr1=>∃G H I S1 a2 J L S2,(.agg #[.slice G H I,sl a2 J L,vI r1.log.stored])=v/\c_ w' S1 (sl G H I) r1.registry.versions/\c_ w' S2 (sl a2 J L) r1.log.bytes/\inI r1.log.stored/\(S1++S2).Nodup/\(∀k∈(S1++S2),w0.z<=k)) r
theorem m_V {x1:H_}{res:H_}(hm:g_C x1=some res)(a2:B<=w0.z)(Y:rp w0 B A0 N0 C0 x1.registry.versions)(a1:rp w0 B A1 N1 C1 x1.log.bytes)(W:inI x1.log.stored):g_ prog 6 [(.agg #[sl A0 N0 C0,sl A1 N1 C1,vI x1.log.stored])] w0 (Q10 w0 B res):=by
 unfold g_C at hm;refine goG func6 z z z λfn hr=>Ws<|EvX [sl A0 N0 C0,sl A1 N1 C1,vI x1.log.stored] z z z λw7 _ _=>EvZ [sN,sN,vI 0] z o_P z λw9 _ _=>Wn<|Ws<|EvZ [sN,sN,vI 0] z o_P z λwc _ _=>Wn<|Ws<|Rf z t_t z<|R z (lN (vs:=[sl A0 N0 C0]) g_24 z_24 z z fid<|kBr 0 1)<|bdB hm λ_ ed hme=>E z (fc call18 z<|W_w32 (B:=B) (x1:=(⟨x1.registry.versions⟩:a_9)) ed kM kR) ?_;rintro _ _ ⟨_,G,H,I,Sf,rfl,_,hg,_⟩;refine Rf z d_R z<|E0q [sl G H I,sN,vI 0] e_T z z kB z λww _ _=>Wn<|Ws<|Rf z t_u z<|R z (lN (vs:=[sl A1 N1 C1,vI x1.log.stored]) g_27 z_27 z z fid<|kBr 1 2)<|bdB hme λV ei hmj=>E z (fc call19 z<|W_w33 (B:=B) (x1:=(⟨x1.log.bytes,x1.log.stored⟩:Log)) ei kM kR W) ?_;rintro _ _ ⟨_,J,L,O,Sk,rfl,_,hl,hn,_⟩;exact Rf z d_u z<|E0q [sl G H I,sl J L O,vI V.stored] e_m z z kB z λa4 ho _=>Wn<|Ws<|R z (lC [sl G H I,sl J L O,vI V.stored] e_M d_U z)<|E0q [sl G H I,sl J L O,vI V.stored] d_U z z kB z λa5 hp _=>Wn<|Wr<|rS1 hmj hr (m_ e_M d_U z hp z) ⟨kW,G,H,I,Sf,J,L,O,Sk,z,kO,kO,hl,na_ hg hn sQ,sQ⟩
def Q11 (w0:World)(B:Zone)(r:Bool)(v:Value)(w':World):Prop:=Bw w0 w'/\(λr1=>(vB r1)=v) r
theorem b_k {x1:Int}{x2:Int}{x3:Int}{res:Bool}(hm:a_M x1 x2 x3=some res)(Y:B<=w0.z)(O:inI x1)(V:inI x2)(W:inI x3):g_ prog 51 [vI x1,vI x2,vI x3] w0 (Q11 w0 B res):=by
 unfold a_M at hm;refine goG func51 z z z λfn hr=>Ws<|Rw z<|Wq<|bdB hm λJ H I=>Wt (λa w=>∃x4,x4=J/\Sat 15 [(6,vB x4)] a/\Below w0.z w0 w) ?_ ?_
 .refine Wg<|RM z z<|R z (b_u z z)<|Rm z ?_;rcases bs (decide<|x2<=x1) with G | G
  .exact Rh z G (mv z)<|Rh z G (mv z)<|Rh z G (c_5 z z)<|R z (pT z G z)<|Ra z<|Wl (λ_ q=>⟨decide<|x1<=x3,som<|ifT H G,kaA q,br w0⟩)
  iterate 3 refine Nh z G ?_
  exact R z (pF z G z)<|Ra z<|Wl (λ_ q=>⟨false,som<|ifF H G,kaA q,br w0⟩)
 rintro L _ ⟨x4,rfl,_,s6⟩;revert L;exact Wo<|Wr<|rS1 I hr z ⟨s6,z⟩
theorem W_w1a {x1:Bt}{x2:Bool}{res:Int}(hm:i_u x1 x2=some res)(W:B<=w0.z)(H:rp w0 B A0 N0 C0 x1):g_ prog 81 [sl A0 N0 C0,vB x2] w0 (Q0 w0 B res):=by
 unfold i_u at hm;refine goG func81 z z z λfn hr=>Ws<|Rw z<|Ws<|Rw z<|Wq<|Wm z<|R z (lnR h_ z H)<|R z (T_ z z)<|Wx z (λI=>?_) (λI=>?_)
 .exact Ws<|Rw z<|Wr<|rS1 (ifT hm I) hr z ⟨br w0,z,ii z⟩
 refine Wk<|Wq<|Ws<|Rw z<|bdB (ifF hm I) λ_ hua O=>Wf (σ:=Int) (ρ:=Int) (λ(k1:Nat)(x0:Int) a w=>Sat 33 [(0,sl A0 N0 C0),(1,vB x2),(5,vI x0),(6,vI ((k1:Nat):Int))] a/\Below w0.z w0 w/\inI x0) (λ(x0:Int) a w=>Sat 33 [(5,vI x0)] a/\Below w0.z w0 w/\inI x0) (rQ prog fn<|Q0 w0 B) hua ?_ ?_ ?_ ?_ ?_
 .exact λ_ q=>⟨kaA q,br w0,ii z⟩
 .rintro k1 x0 _ G _ J ⟨hSb,_,h3⟩ hmc;refine Wu ?_ hSb;refine Wq<|Wm z<|Rm z<|R z (lnR h_ z kR)<|Rl z z z<|Wx z (λ_=>?_) (λhc=>(J_ J hc).elim);refine Wk<|Wq<|Wb<|Wm z<|Rw z<|Wq<|Wm z<|Wn<|bdB hmc λud V hme=>Wt (λa w=>∃x4,x4=ud/\Sat 33 [(0,sl A0 N0 C0),(1,vB x2),(5,vI x0),(6,vI ((k1:Nat):Int)),(7,vI x4)] a/\Below G.z G w/\inI x4) ?_ ?_
  .refine Wc z (λL=>?_)<|λL=>?_
   .exact Wg<|Rm z<|R z (lnR h_ z kR)<|R z (sb_ z z)<|Rm z<|R z (sb_ z z)<|Ra z<|Wl (λ_ q=>⟨w_ (w_ (x1.length:Int) 1) ((k1:Nat):Int),som<|ifT V L,kaA q,br G,iS _ _⟩)
   exact Z_<|λ_ q=>⟨((k1:Nat):Int),som<|ifF V L,kaA q,br G,ic (QAO J)<|lt_ (repS.len H) u_⟩
  rintro af _ ⟨x4,rfl,_,_,_⟩;revert af;refine Wo<|Wg<|Rm z<|R z (h_a z z)<|RM z z<|bdB hme λxg eh hmi=>xA (α:=UInt8) z h_ z_5 z z z kR eh λ_ _ _ hj hk _=>?_;obtain rfl:=u8 hk;exact R z (l0 g_5 z<|hj.at0 z)<|R z (b_n d_5 d_3 z)<|R z (add_ z z)<|Rw z<|Wg<|Rm z<|R z (inc_ J (lt_ (repS.len H) u_) z z)<|Ra z<|Wl (λ_ q=>⟨e_ (b_t x0 256)<|b_ xg,(som hmi).symm,⟨kaA q,kW,iA _ _⟩⟩)
 .rintro x0 _ _ ⟨hSl,sm,h3⟩;refine Wu ?_ hSl;refine Wq<|Wm z<|Rm z<|R z (lnR h_ z kR)<|Rl z z z<|Wx z (λhc=>(K_ hc).elim) (λ_=>?_);exact We<|λ_ q=>⟨rfl,⟨kaA q,sm,h3⟩⟩
 .rintro x0 an _ rfl ⟨_,so,h3⟩;have hmp:=elL O;revert an;exact Wo<|Wm z<|Rw z<|Wr<|rS1 hmp hr z ⟨so,z,h3⟩
 exact lqA O λ_ _ h=>h.2
def Q12 (w0:World)(B:Zone)(r:Bt×Bool)(v:Value)(w':World):Prop:=Bw w0 w'/\un2 (λr1 r2=>∃G H I S1,v = .tuple #[sl G H I,vB r2]/\c_ w' S1 (sl G H I) r1/\S1.Nodup/\(∀k∈S1,w0.z<=k)) r
theorem W_w34 {x1:Bt}{res:Bt×Bool}(hm:k_F n x1=some res)(bD:B<=w0.z)(bC:rp w0 B A0 N0 C0 x1):g_ prog 82 [sl A0 N0 C0] w0 (Q12 w0 B res):=by
 unfold k_F at hm;refine goG func82 z z z λfn hr=>Ws<|Ra z<|Rw z<|Ws<|E z (f0 (α:=UInt8) M_) ?_;rintro _ wd ⟨aG,aH,aI,rfl,_,aJ⟩;refine Rw z<|Wq<|Ws<|Rw z ?_;obtain ⟨_,ah,hmz⟩:=bdS hm;refine b_6 (σ:=Bt×Int) (ρ:=Bt×Bool) (λs a w=>un2 (λxe x2=>∃I J L G,Sat 79 [(0,sl A0 N0 C0),(4,sl I J L),(5,vI x2)] a/\Cg [w0.z] wd w/\c_ w G (sl I J L) xe/\G.Nodup/\(∀k∈G,k∈[w0.z]∨wd.z<=k)/\inI x2) s) (λs a w=>un2 (λxe x2=>∃I J L G,Sat 79 [(4,sl I J L)] a/\Cg [w0.z] wd w/\c_ w G (sl I J L) xe/\G.Nodup/\(∀k∈G,k∈[w0.z]∨wd.z<=k)/\inI x2) s) (rQ prog fn<|Q12 w0 B) ah ?_ ?_ ?_ ?_
 .exact λ_ q=>⟨aG,aH,aI,[w0.z],kaA q,cr [w0.z] wd,aJ,S_,sQ,ii z⟩
 .rintro ⟨xe,x2⟩ _ wf _ ⟨I,J,L,G,ai,_,hq,hg,aK,aa⟩ aj;have Y:=a_0 aj;refine Wu ?_ ai;refine Wq<|Wm z<|Rm z<|R z (lnR h_ z kR)<|Rl z z z<|Wx z (λhcr=>?_) (λhcr=>?_)
  .refine Wk<|Wb<|Wm z<|Rm z<|bdB (ifT Y hcr) λxh aL ak=>xA (α:=UInt8) z h_ z_5 z z z kR aL λ_ _ _ aM aN _=>?_;obtain rfl:=u8 aN;refine R z (l0 g_5 z<|aM.at0 z)<|R z (b_n d_5 d_3 z)<|Rw z<|Wq<|Wb<|Wq<|bdB ak λaO a0 a1=>Wt (λa w=>∃xs,xs=aO/\Sat 79 [(0,sl A0 N0 C0),(4,sl I J L),(5,vI x2),(6,vI<|b_ xh),(40,vB xs)] a/\Below wf.z wf w) ?_ ?_
   .refine Wg<|Rm z<|Rq z z z<|Rm z ?_;rcases bs ((b_ xh)==0) with hca | hca
    .exact Nh z hca<|Nh z hca<|R z (pT z hca z)<|Rm z<|Nh z z<|Nh z z<|Nh z z<|Nh z z<|Nh z z<|R z (pT z z z)<|Ra z<|Wl (λ_ q=>⟨true,som<|ifT a0 hca,kaA q,br wf⟩)
    have a2:=ifF a0 hca;refine Rh z hca (mv z)<|Rh z hca (eql z z)<|R z (pF z hca z)<|Rm z ?_;rcases bs ((b_ xh)==128) with H | H
    .iterate 5 refine Nh z H ?_
     exact R z (pT z H z)<|Ra z<|Wl (λ_ q=>⟨true,som<|ifT a2 H,kaA q,br wf⟩)
    exact Rh z H (mv z)<|Rh z H (add_ z z)<|Rh z H (mv z)<|Rh z H (lnR h_ z kR)<|Rh z H (b_u z z)<|R z (pF z H z)<|Ra z<|Wl (λ_ q=>⟨decide<|(x1.length:Int)<=(e_ x2 1),som<|ifF a2 H,kaA q,br wf⟩)
   rintro aP wb ⟨xs,rfl,_,_⟩;revert aP;refine Wo<|Wc z (λhct=>?_) (λhct=>?_)
   .refine Ws<|E z (f0 (α:=UInt8) M_) ?_;rintro _ _ ⟨aQ,aR,aS,rfl,_,aT⟩;exact Ra z<|Rw z<|Wr<|rtO<|rtO<|qL (som<|ifT a1 hct).symm<|b_r hr z z ⟨kW,aQ,aR,aS,[wb.z],z,aT,S_,sQ⟩
   refine Wm z<|R z (T_ z z)<|Rw z<|bdB (ifF a1 hct) λaU a4 hmu=>Wt (λa w=>∃(xl:Bt)(xi:Int),Sum.inl (xl,xi)=aU/\∃am nn co Sj,Sat 79 [(0,sl A0 N0 C0),(4,sl am nn co),(5,vI xi)] a/\Cg G wb w/\c_ w Sj (sl am nn co) xl/\Sj.Nodup/\(∀k∈Sj,k∈G∨wb.z<=k)/\inI xi) ?_ ?_
   .refine Wc z (λhcv=>?_)<|λhcv=>?_
    .refine Wq<|Ws<|Rw z<|bdB (ifT a4 hcv) λ_ al a5=>Wf (σ:=Bt) (ρ:=Bt×Bool) (λ(ab:Nat)(xc:Bt) a w=>∃O V W S1,Sat 79 [(0,sl A0 N0 C0),(4,sl O V W),(5,vI x2),(6,vI<|b_ xh),(7,vI ((ab:Nat):Int))] a/\Cg G wb w/\c_ w S1 (sl O V W) xc/\S1.Nodup/\(∀k∈S1,k∈G∨wb.z<=k)) (λ(xc:Bt) a w=>∃O V W S1,Sat 79 [(0,sl A0 N0 C0),(4,sl O V W),(5,vI x2)] a/\Cg G wb w/\c_ w S1 (sl O V W) xc/\S1.Nodup/\(∀k∈S1,k∈G∨wb.z<=k)) (rQ prog fn<|Q12 w0 B) al ?_ ?_ ?_ ?_ ?_
     .exact λ_ q=>⟨I,J,L,G,kaA q,cr G wb,kO,hg,sQ⟩
     .rintro ab xc _ aV _ a6 ⟨O,V,W,S1,an,_,hp,hk,ad⟩ ap;refine Wu ?_ an;refine Wq<|Wm z<|Rm z<|R z (sb_ z z)<|Rl z z z<|Wx z (λ_=>?_) (λhc=>(j_5 a6 hc).elim);refine Wk<|Wq<|Wb<|Wg<|RM z z<|Rm z<|R z (add_ z z)<|bdB ap λaW aX aq=>xA (α:=UInt8) z h_ z_5 z z z kR aX λ_ _ _ aY aZ _=>?_;obtain rfl:=u8 aZ;refine R z (l0 g_5 z<|aY.at0 z)<|EvA z (fS [(.tmp 69)] M_ z z z (a_i z) (lb z)<|lb z) λb0 hw=>have:=hw.below;have af:Blk b0 aV.z [vU (b_ aW)]:=hw.blk;have:=b_d hw b_o;bdB aq λb1 b2 ar=>E z (a_W (α:=UInt8) M_ b2 z z kO hk af b_o an_ E_) ?_;rintro _ _ ⟨b3,b4,b5,b6,rfl,_,b7,b8,_⟩;exact Rw z<|Wg<|Rm z<|R z (inc_ a6 (tl_<|iS _ _) z z)<|Ra z<|Wl (λ_ q=>⟨b1,(som ar).symm,⟨b4,b5,b6,b3,kaA q,kW,b7,b8,sQ⟩⟩)
     .rintro xc _ _ ⟨O,V,W,S1,au,_,hp,hk,ad⟩;refine Wu ?_ au;refine Wq<|Wm z<|Rm z<|R z (sb_ z z)<|Rl z z z<|Wx z (λhc=>(j_6 hc).elim) (λ_=>?_);exact We<|λ_ q=>⟨rfl,⟨O,V,W,S1,kaA q,kW,hp,hk,sQ⟩⟩
     .rintro xc b9 _ rfl ⟨O,V,W,S1,_,_,hp,hk,ad⟩;have av:=elL a5;revert b9;exact Wo<|Wg<|Rm z<|R z (add_ z z)<|Ra z<|Wl (λ_ q=>⟨xc,e_ x2 2,som av,O,V,W,S1,kaA q,kW,hp,hk,sQ,iA _ _⟩)
     rintro _ _ _ _ rfl ⟨rfl,aw⟩;have ax:=elR a5;obtain rfl:=som ax;have ay:=elR hmu;exact ⟨g_n<|g_n<|h_3 (som ay).symm ⟨rfl,aw⟩,z⟩
    have a8:=ifF a4 hcv;refine Wq<|Wm z<|R z (add_ z z)<|Rm z<|R z (add_ z z)<|Rm z<|R z (lnR h_ z kR)<|R z (T_ z z)<|Wx z (λhcx=>?_) (λhcx=>?_)
    .refine Ws<|E z (f0 (α:=UInt8) M_) ?_;rintro _ _ ⟨ba,bb,bc,rfl,_,be⟩;refine Ra z<|Rw z ?_;obtain rfl:=som<|ifT a8 hcx;have az:=elR hmu;exact Wr<|rtO<|rtO<|qL (som az).symm<|b_r hr z z ⟨kW,ba,bb,bc,[wb.z],z,be,S_,sQ⟩
    refine Wk<|Wm z<|RM z z<|R z (add_ z z)<|Rm z<|R z (add_ z z)<|Rm z<|R z (add_ z z)<|bdB (ifF a8 hcx) λ_ bf aA=>RX z (rX h_ z_5 z z kR z z bf) ?_;rintro _ ⟨_,_,_,rfl,bg⟩;refine bdB aA λbh bi aB=>E z (fN (α:=UInt8) M_ bi z z kO hg bg) ?_;rintro _ _ ⟨bj,bk,bm,bn,rfl,_,bo,bp,_⟩;exact Rw z<|Wg<|Rm z<|R z (add_ z z)<|Rm z<|R z (add_ z z)<|Ra z<|Wl (λ_ q=>⟨bh,e_ (e_ x2 1)<|b_ xh,som aB,bk,bm,bn,bj,kaA q,kW,bo,bp,sQ,iA _ _⟩)
   rintro bq bt ⟨xl,xi,rfl,am,nn,co,Sj,_,_,ae,bu,_,bv⟩;have aC:=elL hmu;have a9:=a_0 aC;revert bq;refine Wo<|Wm z<|R z (lnR h_ z<|c_.rep ae)<|R z (T_ z z)<|Wx z (λhcy=>?_) (λhcy=>?_)
   .refine Ws<|E z (f0 (α:=UInt8) M_) ?_;rintro _ _ ⟨bw,bx,bz,rfl,_,bA⟩;exact Ra z<|Rw z<|Wr<|rtO<|qL (som<|ifT a9 hcy).symm<|b_r hr z z ⟨kW,bw,bx,bz,[bt.z],z,bA,S_,sQ⟩
   exact Z_<|λ_ q=>⟨(xl,xi),(som<|ifF a9 hcy).symm,⟨am,nn,co,Sj,kaA q,kW,ae,bu,sQ,bv⟩⟩
  exact We<|λ_ q=>a_X (som<|ifF Y hcr).symm ⟨I,J,L,G,kaA q,kW,hq,hg,sQ,aa⟩
 .rintro ⟨xe,x2⟩ bB _ rfl ⟨I,J,L,G,_,_,hq,hg,aK,aa⟩;have aD:=elL hmz;revert bB;refine Wo<|Wm z<|Ra z<|Rw z ?_;exact Wr<|rS2 (a_0 aD) hr z z ⟨kW,I,J,L,G,z,hq,hg,sQ⟩
 exact lqA hmz λ_ _ h=>h.2
theorem m_W {x1:Str}{res:Bool}(hm:g_o x1=some res)(af:B<=w0.z)(Y:x1.b.length<=LEN):g_ prog 134 [Str.v x1] w0 (Q11 w0 B res):=by
 unfold g_o at hm;refine goG func134 z z z λfn hr=>Ws<|Rw z<|Wq<|Ws<|Rw z<|bdB hm λ_ hun hmc=>Wf (σ:=Unit) (ρ:=Bool) (λ(k4:Nat)(_:Unit) a w=>Sat 45 [(0,Str.v x1),(3,vI ((k4:Nat):Int))] a/\Below w0.z w0 w) (λ(_:Unit) a w=>Sat 45 [(0,Str.v x1)] a/\Below w0.z w0 w) (rQ prog fn<|Q11 w0 B) hun ?_ ?_ ?_ ?_ ?_
 .exact λ_ q=>⟨kaA q,br w0⟩
 .rintro k4 _ _ O _ hkd ⟨hSo,_⟩ hmp;refine Wu ?_ hSo;refine Wq<|Wm z<|Rm z<|R z (lnT d_9 z)<|Rl z z z<|Wx z (λ_=>?_) (λhc=>(J_ hkd hc).elim);refine Wk<|Wq<|Wb<|Wq<|bdB hmp λuq hur hms=>Wt (λa w=>∃x5,x5=uq/\Sat 45 [(0,Str.v x1),(3,vI ((k4:Nat):Int)),(4,vB x5)] a/\Below O.z O w) ?_ ?_
  .refine Wg<|RM z z<|bdB hur λxt ee hmf=>R z (c_y d_9 z z (a_k ee).1 (a_k ee).2.1)<|R z (b_u z z)<|Rm z ?_;rcases bs (decide<|(b_ (97:UInt8))<=(b_ xt)) with H | H
   .exact Rh z H (mv z)<|Rh z H (mv z)<|bdB (ifT hmf H) λxu eg hmv=>Rh z H (c_y d_9 z z (a_k eg).1 (a_k eg).2.1)<|Rh z H (c_5 z z)<|R z (pT z H z)<|Ra z<|Wl (λ_ q=>⟨decide<|(b_ xu)<=(b_ (122:UInt8)),som hmv,kaA q,br O⟩)
   iterate 4 refine Nh z H ?_
   exact R z (pF z H z)<|Ra z<|Wl (λ_ q=>⟨false,som<|ifF hmf H,kaA q,br O⟩)
  rintro aw V ⟨x5,rfl,_,_⟩;revert aw;refine Wo<|Wq<|bdB hms λux huy hmz=>Wt (λa w=>∃W,W=ux/\Sat 45 [(0,Str.v x1),(3,vI ((k4:Nat):Int)),(4,vB x5),(5,vB W)] a/\Below V.z V w) ?_ ?_
  .refine Wg<|RM z z<|bdB huy λa6 eh hmi=>R z (c_y d_9 z z (a_k eh).1 (a_k eh).2.1)<|R z (b_u z z)<|Rm z ?_;rcases bs (decide<|(b_ (48:UInt8))<=(b_ a6)) with I | I
   .exact Rh z I (mv z)<|Rh z I (mv z)<|bdB (ifT hmi I) λa7 ej a0=>Rh z I (c_y d_9 z z (a_k ej).1 (a_k ej).2.1)<|Rh z I (c_5 z z)<|R z (pT z I z)<|Ra z<|Wl (λ_ q=>⟨decide<|(b_ a7)<=(b_ (57:UInt8)),som a0,kaA q,br V⟩)
   iterate 4 refine Nh z I ?_
   exact R z (pF z I z)<|Ra z<|Wl (λ_ q=>⟨false,som<|ifF hmi I,kaA q,br V⟩)
  rintro a8 L ⟨W,rfl,_,_⟩;revert a8;refine Wo<|Wq<|bdB hmz λa9 huk hml=>Wt (λa w=>∃xa,xa=a9/\Sat 45 [(0,Str.v x1),(3,vI ((k4:Nat):Int)),(41,vB xa)] a/\Below L.z L w) ?_ ?_
  .refine Wg<|Rm z<|R z (not_ z)<|Rm z ?_;rcases bs (!x5) with G | G
   .have hmm:=ifT huk G;refine Rh z G (mv z)<|Rh z G (not_ z)<|Rh z G (mv z) ?_;rcases bs (!W) with J | J
    .exact Nh z J<|Nh z J<|Rh z G (pT z J z)<|R z (pT z G z)<|Wl (λ_ q=>⟨true,som<|ifT hmm J,kaA q,br L⟩)
    exact Rh z J (mv z)<|Rh z J (eql z z)<|Rh z G (pF z J z)<|R z (pT z G z)<|Wl (λ_ q=>⟨((k4:Nat):Int)==0,som<|ifF hmm J,kaA q,br L⟩)
   iterate 3 refine Nh z G ?_
   exact Nv z<|Nv z<|Nh z G<|R z (pF z G z)<|Wl (λ_ q=>⟨false,som<|ifF huk G,kaA q,br L⟩)
  rintro aa _ ⟨xa,rfl,_,_⟩;revert aa;refine Wo<|Wc z (λhcb=>?_) (λhcb=>?_)
  .exact Ws<|Rw z<|Wr<|rtO<|qL (som<|ifT hml hcb).symm<|a_s hr z ⟨kW,z⟩
  exact Wk<|Wg<|Rm z<|R z (inc_ hkd (lt_ Y u_) z z)<|Ra z<|Wl (λ_ q=>⟨(),(som<|ifF hml hcb).symm,⟨kaA q,kW⟩⟩)
 .rintro _ _ _ ⟨a1,ab⟩;refine Wu ?_ a1;refine Wq<|Wm z<|Rm z<|R z (lnT d_9 z)<|Rl z z z<|Wx z (λhc=>(K_ hc).elim) (λ_=>?_);exact We<|λ_ q=>⟨rfl,⟨kaA q,ab⟩⟩
 .rintro _ ad _ rfl ⟨_,_⟩;have a2:=elL hmc;revert ad;exact Wo<|Wm z<|R z (lnT d_9 z)<|bdB a2 λ_ ae a3=>EcA z (fc call51 z<|b_k (B:=B) ae kM (c_3 Y) (ii z)<|ii z) λ_ _=>Rw z<|Wr<|rS1 a3 hr z ⟨kW,z⟩
 exact lqA hmc λ_ _ h=>h.2
theorem W_w35 {x1:q_}{res:Bool}(hm:k_G x1=some res)(a5:B<=w0.z)(a0:inI x1.kind)(a1:x1.name.b.length<=LEN)(a2:inI x1.version)(a4:rp w0 B AG NG CG x1.data):g_ prog 136 [(.agg #[vI x1.kind,Str.v x1.name,vI x1.version,sl AG NG CG])] w0 (Q11 w0 B res):=by
 unfold k_G at hm;refine goG func136 z z z λfn hr=>Ws<|EvX [vI x1.kind,Str.v x1.name,vI x1.version,sl AG NG CG] z z z λY _ a3=>Rw z<|Wq<|bdB hm λuf hug hmh=>Wt (λa w=>∃V,V=uf/\Sat 38 [(2,vB V)] a/\Below Y.z Y w) ?_ ?_
 .refine Wg<|Rf z d_S z<|R z (l0 g_3 z<|a3.at z)<|bdB hug λri ej W=>EcA z (fc call51 z<|b_k (B:=B) ej kM a0 (ii z)<|ii z) λ_ sk=>Rm z ?_;rcases bs ri with L | L
  .refine Rh z L (fd e_R z)<|Rh z L (l0 g_9 z kBa)<|bdB (ifT W L) λrl em hma=>Eg z z L z (fc call134 z<|m_W (B:=B) em kM a1) ?_;rintro _ _ ⟨_,rfl⟩;refine R z (pT z L z)<|Rm z ?_;rcases bs rl with O | O
   .refine Rh z O (fd d_T z)<|Rh z O (l0 g_3 z kBa)<|bdB (ifT hma O) λrn eo hmb=>Eg z z O z (fc call51 z<|b_k (B:=B) eo kM a2 (ii z)<|ii z) ?_;rintro _ _ ⟨_,rfl⟩;refine R z (pT z O z)<|Rm z ?_;rcases bs rn with I | I
    .have hmc:=ifT hmb I;refine Rh z I (fd e_S z)<|Rh z I (l0 B_ z kBa)<|Rh z I (lnR h_ z kR)<|Rh z I (c_5 z z)<|R z (pT z I z)<|Rm z ?_;rcases bs (decide<|(x1.data.length:Int)<=400) with G | G
     .have hmd:=ifT hmc G;refine Rh z G (fd d_S z)<|Rh z G (l0 g_3 z kBa)<|Rh z G (eql z z)<|Rh z G (mv z) ?_;rcases bs (x1.kind==1) with H | H
      .iterate 4 refine Nh z H ?_
       exact Nv z<|Nv z<|Nv z<|Nv z<|Nh z H<|Rh z G (pT z H z)<|R z (pT z G z)<|Ra z<|Wl (λ_ q=>⟨true,som<|ifT hmd H,kaA q,kW⟩)
      have hme:=ifF hmd H;refine Rh z H (fd d_T z)<|Rh z H (l0 g_3 z kBa)<|Rh z H (eql z z)<|Rh z H (mv z) ?_;rcases bs (x1.version==0) with J | J
      .exact Rh z J (fd e_S z)<|Rh z J (l0 B_ z kBa)<|Rh z J (lnR h_ z kR)<|Rh z J (eql z z)<|Rh z H (pT z J z)<|Rh z G (pF z H z)<|R z (pT z G z)<|Ra z<|Wl (λ_ q=>⟨(x1.data.length:Int)==0,som<|ifT hme J,kaA q,kW⟩)
      iterate 4 refine Nh z J ?_
      exact Rh z H (pF z J z)<|Rh z G (pF z H z)<|R z (pT z G z)<|Ra z<|Wl (λ_ q=>⟨false,som<|ifF hme J,kaA q,kW⟩)
     iterate 4 refine Nh z G ?_
     exact Nv z<|Nv z<|Nv z<|Nv z<|Nv z<|Nv z<|Nv z<|Nv z<|Nv z<|Nh z G<|R z (pF z G z)<|Ra z<|Wl (λ_ q=>⟨false,som<|ifF hmc G,kaA q,kW⟩)
    iterate 4 refine Nh z I ?_
    exact R z (pF z I z)<|Rm z<|Nh z z<|Nh z z<|Nh z z<|Nh z z<|Nv z<|Nv z<|Nv z<|Nv z<|Nv z<|Nv z<|Nv z<|Nv z<|Nv z<|Nh z z<|R z (pF z z z)<|Ra z<|Wl (λ_ q=>⟨false,som<|ifF hmb I,kaA q,kW⟩)
   iterate 3 refine Nh z O ?_
   refine R z (pF z O z)<|Rm z<|Nh z z<|Nh z z<|Nh z z<|Nh z z<|R z (pF z z z)<|Rm z<|Nh z z<|Nh z z<|Nh z z<|Nh z z<|Nv z<|Nv z<|Nv z<|Nv z<|Nv z<|Nv z<|Nv z<|Nv z<|Nv z<|Nh z z<|R z (pF z z z)<|Ra z<|Wl ?_;exact λ_ q=>⟨false,som<|ifF hma O,kaA q,kW⟩
  iterate 3 refine Nh z L ?_
  refine R z (pF z L z)<|Rm z<|Nh z z<|Nh z z<|Nh z z<|R z (pF z z z)<|Rm z<|Nh z z<|Nh z z<|Nh z z<|Nh z z<|R z (pF z z z)<|Rm z<|Nh z z<|Nh z z<|Nh z z<|Nh z z<|Nv z<|Nv z<|Nv z<|Nv z<|Nv z<|Nv z<|Nv z<|Nv z ?_;exact Nv z<|Nh z z<|R z (pF z z z)<|Ra z<|Wl (λ_ q=>⟨false,som<|ifF W L,kaA q,sk⟩)
 rintro ap _ ⟨V,rfl,_,_⟩;revert ap;exact Wo<|Wr<|rS1 hmh hr z ⟨kW,z⟩
theorem W_w1b {x1:Bt}{x2:Int}{res:Int}(hm:h_K n x1 x2=some res)(a0:B<=w0.z)(W:rp w0 B A0 N0 C0 x1)(Y:inI x2):g_ prog 190 [sl A0 N0 C0,vI x2] w0 (Q0 w0 B res):=by
 unfold h_K at hm;refine goG func190 z z z λfn hr=>Ws<|Rw z<|Wq<|Wm z<|Rm z<|R z (lnR h_ z W)<|R z (sb_ z z)<|bdB hm λ_ ed L=>EcA z (fc call51 z<|b_k (B:=B) ed a0 Y (ii z)<|iS _ _) λH se=>R z (not_ z)<|Wx z (λI=>?_) (λI=>?_)
 .exact Ws<|Rw z<|Wr<|rS1 (ifT L I) hr z ⟨se,z,ii z⟩
 refine Wk<|Ws<|Rw z<|Wq<|bdB (ifF L I) λ_ huf O=>b_6 (σ:=Int) (ρ:=Int) (λ(x3:Int) a w=>Sat 34 [(0,sl A0 N0 C0),(1,vI x2),(5,vI x3)] a/\Below H.z H w/\inI x3) (λ(x3:Int) a w=>Sat 34 [(5,vI x3)] a/\Below H.z H w/\inI x3) (rQ prog fn<|Q0 w0 B) huf ?_ ?_ ?_ ?_
 .exact λ_ q=>⟨kaA q,br H,ii z⟩
 .rintro x3 _ V _ ⟨hSg,_,h4⟩ hmh;refine Wu ?_ hSg;refine Wq<|Wq<|bdB hmh λui hua hmb=>Wt (λa w=>∃x5,x5=ui/\Sat 34 [(0,sl A0 N0 C0),(1,vI x2),(5,vI x3),(30,vB x5)] a/\Below V.z V w) ?_ ?_
  .refine Wd (X:=noX) 0 (pl_ 19 []) mo (by kernel_rfl) λa1 sc _=>dM z z z<|dM z z z<|dR z z (add_ z z)<|dM z z z<|dR z z (lnR h_ z kR)<|dR z z (lss z z)<|dM z z z ?_;rcases bs (decide<|(e_ x2 x3)<(x1.length:Int)) with G | G
   .iterate 3 refine dRg z z z G z (mv z) ?_
    refine dRg z z z G z (add_ z z)<|bdB (ifT hua G) λxj ek hml=>a_G z z z G z (at_ (α:=UInt8) h_ z_5 z z z kR ek) ?_;rintro _ ⟨_,_,_,rfl,hn,ho,_⟩;obtain rfl:=u8 ho;refine dRg z z z G z (l0 g_5 z<|hn.at0 z)<|dRg z z z G z (mv z)<|dRg z z z G z (mv z)<|bdB hml λxm ep hmq=>a_G z z z G z (at_ (α:=UInt8) h_ z_5 z z z kR ep) ?_;rintro _ ⟨_,_,_,rfl,ht,hu,_⟩;obtain rfl:=u8 hu;exact dRg z z z G z (l0 g_5 z<|ht.at0 z)<|dRg z z z G z (eql z z)<|dR z z (pT z G z)<|pD (λ_ q=>⟨(b_ xj)==(b_ xm),som hmq,kaA q,sc⟩)
   iterate 11 refine dRn z z z G z ?_
   exact dR z z (pF z G z)<|pD (λ_ q=>⟨false,som<|ifF hua G,kaA q,sc⟩)
  rintro ar _ ⟨x5,rfl,_,_⟩;revert ar;refine Wo<|Wc z (λJ=>?_) (λJ=>?_)
  .exact Wk<|Wb<|Wg<|Rm z<|R z (add_ z z)<|Ra z<|Wl (λ_ q=>⟨e_ x3 1,(som<|ifT hmb J).symm,⟨kaA q,kW,iA _ _⟩⟩)
  exact We<|λ_ q=>a_X (som<|ifF hmb J).symm ⟨kaA q,kW,h4⟩
 .rintro x3 av _ rfl ⟨_,_,h4⟩;have hms:=elL O;revert av;exact Wo<|Wm z<|Rw z<|Wr<|rS1 hms hr z ⟨kW,z,h4⟩
 exact lqA O λ_ _ h=>h.2
theorem o_S {x1:Int}{x2:Int}{res:Int}(hm:f_s x1 x2=some res)(J:B<=w0.z)(H:inI x1)(I:inI x2):g_ prog 189 [vI x1,vI x2] w0 (Q0 w0 B res):=by
 unfold f_s at hm;refine goG func189 z z z λfn hr=>Ws<|Rw z<|Wq<|Wm z<|Rm z<|Rl z z z<|Wx z (λG=>?_) (λG=>?_)
 .exact Wm z<|Rw z<|Wr<|rS1 (ifT hm G) hr z ⟨br w0,z,I⟩
 exact Wk<|Wm z<|Rw z<|Wr<|rS1 (ifF hm G) hr z ⟨br w0,z,H⟩
theorem W_w36 {x1:Bt}{res:Bt}(hm:k_H n x1=some res)(bk:B<=w0.z)(bj:rp w0 B A0 N0 C0 x1):g_ prog 137 [sl A0 N0 C0] w0 (Q1 w0 B res):=by
 unfold k_H at hm;refine goG func137 z z z λfn hr=>Ws<|Rw z<|Ws<|E z (f0 (α:=UInt8) M_) ?_;rintro _ W ⟨ay,az,aA,rfl,_,aB⟩;refine Rw z<|Wq<|Ws<|Rw z ?_;obtain ⟨_,a7,hms⟩:=bdS hm;refine b_6 (σ:=Bt×Int) (ρ:=Bt) (λs a w=>un2 (λxa x3=>∃H I J G,Sat 64 [(0,sl A0 N0 C0),(3,sl H I J),(4,vI x3)] a/\Cg [w0.z] W w/\c_ w G (sl H I J) xa/\G.Nodup/\(∀k∈G,k∈[w0.z]∨W.z<=k)/\inI x3) s) (λs a w=>un2 (λxa x3=>∃H I J G,Sat 64 [(3,sl H I J)] a/\Cg [w0.z] W w/\c_ w G (sl H I J) xa/\G.Nodup/\(∀k∈G,k∈[w0.z]∨W.z<=k)/\inI x3) s) (rQ prog fn<|Q1 w0 B) a7 ?_ ?_ ?_ ?_
 .exact λ_ q=>⟨ay,az,aA,[w0.z],kaA q,cr [w0.z] W,aB,S_,sQ,ii z⟩
 .rintro ⟨xa,x3⟩ _ wu _ ⟨H,I,J,G,a8,_,hn,hb,aC,he⟩ a9;have hmv:=a_0 a9;refine Wu ?_ a8;refine Wq<|Wm z<|Rm z<|R z (lnR h_ z kR)<|Rl z z z<|Wx z (λhcm=>?_) (λhcm=>?_)
  .refine Wk<|bdB (ifT hmv hcm) λaD aa hmw=>Wt (λa w=>∃(xf:Bt)(xc:Int),Sum.inl (xf,xc)=aD/\∃ag nh ci Sd,Sat 64 [(0,sl A0 N0 C0),(3,sl ag nh ci),(4,vI xc)] a/\Cg G wu w/\c_ w Sd (sl ag nh ci) xf/\Sd.Nodup/\(∀k∈Sd,k∈G∨wu.z<=k)/\inI xc) ?_ ?_
   .refine Wb<|Wm z<|Rm z<|bdB aa λ_ aE ab=>E z (fc call190 z<|W_w1b (B:=B) aE kM kR he) ?_;rintro _ _ ⟨_,rfl,aF⟩;refine bdB ab λrj aG hmx=>E z (fc call189 z<|o_S (B:=B) aG kM aF<|ii z) ?_;rintro _ V ⟨_,rfl,_⟩;refine Rw z<|Wq<|Wm z<|R z (b_u z z)<|Wx z (λhco=>?_) (λhco=>?_)
    .refine Wm z<|Rm z<|R z (add_ z z)<|R z (c_c d_3 d_5 z)<|RM z z<|bdB (ifT hmx hco) λxp aH ad=>xA (α:=UInt8) z h_ z_5 z z z kR aH λ_ _ _ aI aJ _=>?_;obtain rfl:=u8 aJ;refine R z (l0 g_5 z<|aI.at0 z)<|EvA z (fS [(.tmp 21),(.tmp 25)] M_ z z z (a_i z) (lb z)<|lb z) λwy hz=>have:=hz.below;have a4:Blk wy V.z [(vU<|b_<|mkB<|e_ 128 rj),vU<|b_ xp]:=hz.blk;have a5:c_ wy [V.z] (sl (some ⟨V.z,0,none⟩) 2 2) [mkB (e_ 128 rj),xp]:=h_S (l:=[mkB (e_ 128 rj),xp]) a4 z;bdB ad λaK aL ae=>E z (fN (α:=UInt8) M_ aL z z kO hb<|c_.rep a5) ?_;rintro _ _ ⟨aM,aN,aO,aP,rfl,_,aQ,aR,_⟩;exact Rw z<|Wm z<|Rm z<|R z (add_ z z)<|Rw z<|We<|exH<|λ_ q=>⟨aK,e_ x3 rj,som ae,aN,aO,aP,aM,kaA q,kW,aQ,aR,sQ,iA _ _⟩
    refine Wk<|Wm z<|Rw z<|Wq<|bdB (ifF hmx hco) λ_ af Y=>b_6 (σ:=Int) (ρ:=Bt) (λ(x2:Int) a w=>Sat 64 [(0,sl A0 N0 C0),(3,sl H I J),(4,vI x3),(6,vI x2)] a/\Below V.z V w/\inI x2) (λ(x2:Int) a w=>Sat 64 [(0,sl A0 N0 C0),(3,sl H I J),(4,vI x3),(6,vI x2)] a/\Below V.z V w/\inI x2) (rQ prog fn<|Q1 w0 B) af ?_ ?_ ?_ ?_
    .exact λ_ q=>⟨kaA q,br V,he⟩
    .rintro x2 _ wk _ ⟨ah,_,hl⟩ ai;refine Wu ?_ ah;refine Wq<|Wq<|bdB ai λaS a0 a2=>Wt (λa w=>∃xq,xq=aS/\Sat 64 [(0,sl A0 N0 C0),(3,sl H I J),(4,vI x3),(6,vI x2),(47,vB xq)] a/\Below wk.z wk w) ?_ ?_
     .refine Wg<|RM z z<|R z (lnR h_ z kR)<|Rl z z z<|Rm z ?_;rcases bs (decide<|x2<(x1.length:Int)) with L | L
      .have a3:=ifT a0 L;refine Rh z L (mv z)<|Rh z L (mv z)<|Rh z L (sb_ z z)<|Rh z L (lss z z)<|R z (pT z L z)<|Rm z ?_;rcases bs (decide<|(w_ x2 x3)<127) with O | O
       .refine Rh z O (mv z)<|Rh z O (mv z)<|bdB (ifT a3 O) λaT aU aj=>Eg z z O z (fc call190 z<|W_w1b (B:=B) aU kM kR hl) ?_;rintro _ _ ⟨aV,rfl,_⟩;exact Rh z O (lss z z)<|R z (pT z O z)<|Wl (λ_ q=>⟨decide<|aT<3,som aj,kaA q,aV⟩)
       iterate 4 refine Nh z O ?_
       exact R z (pF z O z)<|Wl (λ_ q=>⟨false,som<|ifF a3 O,kaA q,br wk⟩)
      iterate 4 refine Nh z L ?_
      exact R z (pF z L z)<|Rm z<|Nh z z<|Nh z z<|Nh z z<|Nh z z<|R z (pF z z z)<|Wl (λ_ q=>⟨false,som<|ifF a0 L,kaA q,br wk⟩)
     rintro aW _ ⟨xq,rfl,_,_⟩;revert aW;refine Wo<|Wc z (λhcr=>?_) (λhcr=>?_)
     .exact Wk<|Wb<|Wg<|Rm z<|R z (add_ z z)<|Ra z<|Wl (λ_ q=>⟨e_ x2 1,(som<|ifT a2 hcr).symm,⟨kaA q,kW,iA _ _⟩⟩)
     exact We<|λ_ q=>a_X (som<|ifF a2 hcr).symm ⟨kaA q,kW,hl⟩
    .rintro x2 aX aY rfl ⟨_,_,hl⟩;have ak:=elL Y;revert aX;refine Wo<|Wq (Wd (X:=λk=>k∈G∨aY.z<=k) 0 (.rd 0<|.rd 1<|.rd 2<|.rd 3<|.rd 4<|.rd 7<|.rd 8<|.rd 9<|.rd 10<|.ef 5<|.ef 6<|.ef 11<|.rd 12 .done) mo (by kernel_rfl) λaZ bm _=>?_);iterate 3 refine dM z z z ?_
     refine dR z z (sb_ z z)<|dR z z (c_c d_3 d_5 z) ?_;iterate 3 refine dM z z z ?_
     refine bdB ak λ_ b0 al=>dRX z z (rX h_ z_5 z z kR z z b0) ?_;rintro _ ⟨_,_,_,rfl,_⟩;refine dE z z (fS [(.tmp 54)] M_ z z z (a_i z) (lb z)<|lb z) (.inr λ_ _ h=>h_Z<|h.2.below) ?_;rintro _ b1 ⟨rfl,ht⟩;have:=ht.below;have a6:Blk b1 aZ.z [(vU<|b_<|mkB<|w_ x2 x3)]:=ht.blk;have:=b_d ht b_o;refine bdB al λ_ b2 am=>dE z z (a_W (α:=UInt8) M_ b2 z z kO hb a6 b_o an_ E_) (.inr λ_ _ h=>by obtain ⟨_,_,_,_,_,h,_⟩:=h;exact chgS h) ?_;rintro _ _ ⟨_,_,_,_,rfl,_,b3,b4,_⟩;refine bdB am λb5 b6 an=>dE z z (fN (α:=UInt8) M_ b6 z z b3 b4 kR) (.inr λ_ _ h=>by obtain ⟨_,_,_,_,_,h,_⟩:=h;exact chgS h) ?_;rintro _ _ ⟨b7,b8,b9,ba,rfl,_,bb,bc,_⟩;exact dQ z z z<|pD<|Wo<|Wg<|Rm z<|Ra z<|Wl (λ_ q=>⟨b5,x2,som an,b8,b9,ba,b7,kaA q,kW,bb,bc,sQ,hl⟩)
    rintro _ _ _ _ rfl ⟨rfl,ap⟩;have aq:=elR Y;obtain rfl:=som aq;have ar:=elR hmw;exact ⟨g_n<|h_3 (som ar).symm ⟨rfl,ap⟩,z⟩
   rintro be _ ⟨xf,xc,rfl,ag,nh,ci,Sd,_,_,bf,bg,_,bh⟩;have au:=elL hmw;revert be;exact λ_ q=>⟨(xf,xc),(som<|a_0 au).symm,⟨ag,nh,ci,Sd,kaA q,kW,bf,bg,sQ,bh⟩⟩
  exact We<|λ_ q=>a_X (som<|ifF hmv hcm).symm ⟨H,I,J,G,kaA q,kW,hn,hb,sQ,he⟩
 .rintro ⟨xa,x3⟩ bi _ rfl ⟨H,I,J,G,_,_,hn,hb,aC,he⟩;have av:=elL hms;revert bi;refine Wo<|Wm z<|Rw z ?_;exact Wr<|rS1 (a_0 av) hr z ⟨kW,H,I,J,G,z,hn,hb,sQ⟩
 exact lqA hms λ_ _ h=>h.2
theorem o_T {x1:Int}{res:Int}(hm:e_K x1=some res)(J:B<=w0.z)(I:inI x1):g_ prog 191 [vI x1] w0 (Q0 w0 B res):=by
 unfold e_K at hm;exact goG func191 z z z λfn hr=>Ws<|Rw z<|Wm z<|R z (h_a z z)<|bdB hm λ_ H G=>R z (j_l z z<|nnS H)<|Rw z<|Wr<|rS1 G hr z ⟨br w0,z,u_J<|ii z⟩
theorem W_w37 {x1:Int}{x2:Int}{res:Bt}(hm:k_I n x1 x2=some res)(ap:B<=w0.z)(a0:inI x1)(W:inI x2):g_ prog 138 [vI x1,vI x2] w0 (Q1 w0 B res):=by
 unfold k_I at hm;refine goG func138 z z z λfn hr=>Ws<|Rw z<|Ws<|E z (f0 (α:=UInt8) M_) ?_;rintro _ wh ⟨V,na,cb,rfl,_,_⟩;refine Rw z<|Wq<|Wq<|bdB hm λun huo hmi=>Wt (λa w=>∃xc,xc=un/\Sat 35 [(0,vI x1),(1,vI x2),(5,sl V na cb),(18,vB xc)] a/\Below wh.z wh w) ?_ ?_
 .refine Wg<|Rm z<|bdB huo λrp eq hmj=>EcA z (fc call51 z<|b_k (B:=B) eq kM W (ii z)<|ii z) λ_ sr=>R z (not_ z)<|Rm z ?_;rcases bs (!rp) with G | G
  .iterate 6 refine Nh z G ?_
   exact R z (pT z G z)<|Wl (λ_ q=>⟨true,som<|ifT hmj G,kaA q,sr⟩)
  refine Rh z G (mv z)<|Rh z G (mv z)<|bdB (ifF hmj G) λ_ es hmt=>Eg z z G z (fc call191 z<|o_T (B:=B) es kM W) ?_;rintro _ _ ⟨_,rfl,_⟩;refine Rh z G (sb_ z z)<|bdB hmt λru ev hmw=>Eg z z G z (fc call51 z<|b_k (B:=B) ev kM a0 (ii z)<|iS _ _) ?_;rintro _ _ ⟨_,rfl⟩;exact Rh z G (not_ z)<|R z (pF z G z)<|Wl (λ_ q=>⟨!ru,som hmw,kaA q,kW⟩)
 rintro ax J ⟨xc,rfl,_,_⟩;revert ax;refine Wo<|Wc z (λhcd=>?_) (λhcd=>?_)
 .exact Wm z<|Rw z<|Wr<|rS1 (ifT hmi hcd) hr z ⟨kW,V,na,cb,[w0.z],z,kO,S_,sQ⟩
 refine Wk<|Wq<|Wm z<|R z (sb_ z z)<|Rw z ?_;obtain ⟨_,huy,hmk⟩:=bdS<|ifF hmi hcd;refine b_6 (σ:=Bt×Int) (ρ:=Bt) (λs a w=>un2 (λL x5=>∃a2 H I S1,Sat 35 [(0,vI x1),(5,sl a2 H I),(6,vI x5)] a/\Cg [w0.z] J w/\c_ w S1 (sl a2 H I) L/\S1.Nodup/\(∀k∈S1,k∈[w0.z]∨J.z<=k)/\inI x5) s) (λs a w=>un2 (λL x5=>∃a2 H I S1,Sat 35 [(5,sl a2 H I)] a/\Cg [w0.z] J w/\c_ w S1 (sl a2 H I) L/\S1.Nodup/\(∀k∈S1,k∈[w0.z]∨J.z<=k)/\inI x5) s) (rQ prog fn<|Q1 w0 B) huy ?_ ?_ ?_ ?_
 .exact λ_ q=>⟨V,na,cb,[w0.z],kaA q,cr [w0.z] J,kO,S_,sQ,iS _ _⟩
 .rintro ⟨L,x5⟩ _ wz _ ⟨a2,H,I,S1,a1,_,he,O,aa,hl⟩ a3;have hmm:=a_0 a3;refine Wu ?_ a1;refine Wq<|Wm z<|R z (b_u z z)<|Wx z (λhcf=>?_) (λhcf=>?_)
  .refine Wk<|Wq<|Wb<|Wg<|RM z z<|Rm z<|R z (h_a z z)<|bdB (ifT hmm hcf) λ_ ab a4=>R z (n_r z z<|nnS ab)<|R z (c_c d_3 d_5 z)<|EvA z (fS [(.tmp 31)] M_ z z z (a_i z) (lb z)<|lb z) λad hg=>have:=hg.below;have Y:Blk ad wz.z [(vU<|b_<|mkB<|c_W .i64 x1<|b_t 8 x5)]:=hg.blk;have:=b_d hg b_o;bdB a4 λae af a5=>E z (a_W (α:=UInt8) M_ af z z kO O Y b_o an_ E_) ?_;rintro _ _ ⟨ah,ai,aj,ak,rfl,_,al,am,_⟩;exact Rw z<|Wg<|Rm z<|R z (sb_ z z)<|Ra z<|Wl (λ_ q=>⟨(ae,w_ x5 1),(som a5).symm,⟨ai,aj,ak,ah,kaA q,kW,al,am,sQ,iS _ _⟩⟩)
  exact We<|λ_ q=>a_X (som<|ifF hmm hcf).symm ⟨a2,H,I,S1,kaA q,kW,he,O,sQ,hl⟩
 .rintro ⟨L,x5⟩ an _ rfl ⟨a2,H,I,S1,_,_,he,O,aa,hl⟩;have a6:=elL hmk;revert an;refine Wo<|Wm z<|Rw z ?_;exact Wr<|rS1 (a_0 a6) hr z ⟨kW,a2,H,I,S1,z,he,O,sQ⟩
 exact lqA hmk λ_ _ h=>h.2
theorem W_w1c {x1:Bt}{res:Int}(hm:i_w x1=some res)(W:B<=w0.z)(I:rp w0 B A0 N0 C0 x1):g_ prog 139 [sl A0 N0 C0] w0 (Q0 w0 B res):=by
 unfold i_w at hm;refine goG func139 z z z λfn hr=>Ws<|Rw z<|Ws<|Rw z<|Wq<|Ws<|Rw z<|bdB hm λ_ J G=>Wf (σ:=Int) (ρ:=Int) (λ(k3:Nat)(x0:Int) a w=>Sat 20 [(0,sl A0 N0 C0),(3,vI x0),(4,vI ((k3:Nat):Int))] a/\Below w0.z w0 w/\inI x0) (λ(x0:Int) a w=>Sat 20 [(3,vI x0)] a/\Below w0.z w0 w/\inI x0) (rQ prog fn<|Q0 w0 B) J ?_ ?_ ?_ ?_ ?_
 .exact λ_ q=>⟨kaA q,br w0,ii z⟩
 .rintro k3 x0 _ _ _ H ⟨L,s7,h1⟩ O;refine Wu ?_ L;refine Wq<|Wm z<|Rm z<|R z (lnR h_ z kR)<|Rl z z z<|Wx z (λ_=>?_) (λhc=>(J_ H hc).elim);refine Wk<|Wq<|Wb<|Wg<|RM z z<|Rm z<|bdB O λV ea hmb=>xA (α:=UInt8) z h_ z_5 z z z kR ea λ_ _ _ hd he _=>?_;obtain rfl:=u8 he;exact R z (l0 g_5 z<|hd.at0 z)<|R z (b_n d_5 d_3 z)<|R z (add_ z z)<|R z (i_2 z z (by decide))<|Rw z<|Wg<|Rm z<|R z (inc_ H (lt_ (repS.len I) u_) z z)<|Ra z<|Wl (λ_ q=>⟨b_7 (e_ x0<|b_ V) 256,(som hmb).symm,⟨kaA q,s7,n_k<|iA _ _⟩⟩)
 .rintro x0 _ _ ⟨hSc,sf,h1⟩;refine Wu ?_ hSc;refine Wq<|Wm z<|Rm z<|R z (lnR h_ z kR)<|Rl z z z<|Wx z (λhc=>(K_ hc).elim) (λ_=>?_);exact We<|λ_ q=>⟨rfl,⟨kaA q,sf,h1⟩⟩
 .rintro x0 ag _ rfl ⟨_,sh,h1⟩;have hmi:=elL G;revert ag;exact Wo<|Wm z<|Rw z<|Wr<|rS1 hmi hr z ⟨sh,z,h1⟩
 exact lqA G λ_ _ h=>h.2
theorem W_w38 {x1:q_}{res:Bt}(hm:k_J n x1=some res)(am:B<=w0.z)(W:inI x1.kind)(I:x1.name.b.length<=LEN)(Y:inI x1.version)(ak:rp w0 B AG NG CG x1.data):g_ prog 83 [(.agg #[vI x1.kind,Str.v x1.name,vI x1.version,sl AG NG CG])] w0 (Q1 w0 B res):=by
 unfold k_J at hm;refine goG func83 z z z λfn hr=>Ws<|EvX [vI x1.kind,Str.v x1.name,vI x1.version,sl AG NG CG] z z z λw9 _ al=>Rw z<|Wq<|Ws<|R z (lC [vI x1.kind,Str.v x1.name,vI x1.version,sl AG NG CG] b_L a_8 z)<|bdB hm λ_ ea J=>EcA z (fc call136 z<|W_w35 (B:=B) ea kM W I Y kR) λwb _=>R z (not_ z)<|Wx z (λG=>?_) (λG=>?_)
 .refine Ws<|E z (f0 (α:=UInt8) M_) ?_;rintro _ _ ⟨ac,nd,ce,rfl,_,hf⟩;exact Rw z<|Wr<|rS1 (ifT J G) hr z ⟨kW,ac,nd,ce,[wb.z],z,hf,S_,sQ⟩
 refine Wk<|Ws<|Rf z e_S z<|R z (l0 B_ z kBa)<|bdB (ifF J G) λ_ eg hmh=>E z (fc call137 z<|W_w36 (B:=B) eg kM kR) ?_;rintro _ H ⟨_,_,_,_,_,rfl,h2,_,_⟩;refine Rw z<|Ws<|Rf z d_S z<|R z (l0 g_3 z kBa)<|R z (c_c d_3 d_5 z)<|Rf z e_R z<|R z (l0 g_9 z kBa)<|R z (lnT d_9 z)<|R z (c_c d_3 d_5 z)<|EvA z (fS [(.tmp 14),(.tmp 18)] M_ z z z (a_i z) (lb z)<|lb z) λL O=>have:=O.below;have a0:Blk L H.z [(vU<|b_<|mkB x1.kind),(vU<|b_<|mkB (x1.name.b.length:Int))]:=O.blk;have:c_ L [H.z] (sl (some ⟨H.z,0,none⟩) 2 2) [mkB x1.kind,mkB (x1.name.b.length:Int)]:=h_S (l:=[mkB x1.kind,mkB (x1.name.b.length:Int)]) a0 z;Rf z e_R z<|R z (l0 g_9 z kBa)<|E z (t_V d_9 h_ d_5 z I) ?_;rintro _ _ ⟨_,_,_,rfl,_,hi⟩;refine bdB hmh λ_ ej hmk=>E z (fN (α:=UInt8) M_ ej z z kO S_<|c_.rep hi) ?_;rintro _ wl ⟨_,_,_,_,rfl,_,_,hn,_⟩;refine Rw z<|Wm z<|Rf z d_T z<|R z (l0 g_3 z kBa)<|R z (c_c d_3 d_5 z)<|EvA z (fS [(.tmp 27)] M_ z z z (a_i z) (lb z)<|lb z) λwm h3=>have:=h3.below;have a1:Blk wm wl.z [(vU<|b_<|mkB x1.version)]:=h3.blk;have:=b_d h3 b_o;bdB hmk λ_ eo hmp=>E z (a_W (α:=UInt8) M_ eo z z kO hn a1 b_o an_ E_) ?_;rintro _ _ ⟨_,_,_,_,rfl,_,_,hq,_⟩;refine Rm z<|R z (lnR h_ z<|or_ kO<|c_.lt h2)<|bdB hmp λ_ er hms=>E z (fc call138 z<|W_w37 (B:=B) er kM (c_3<|repS.len<|or_ kO<|c_.lt h2)<|ii z) ?_;rintro _ _ ⟨_,_,_,_,_,rfl,ht,_,_⟩;refine bdB hms λ_ eu hmv=>E z (fN (α:=UInt8) M_ eu z z kO hq<|c_.rep ht) ?_;rintro _ _ ⟨_,_,_,_,rfl,_,hw,hx,_⟩;refine Rm z<|bdB hmv λ_ ey hmz=>E z (fN (α:=UInt8) M_ ey z z hw hx<|or_ kO<|c_.lt h2) ?_;rintro _ a4 ⟨_,_,_,_,rfl,_,a5,a6,_⟩;refine Rw z<|Wm z<|Rm z<|bdB hmz λa7 a8 a2=>E z (fc call139 z<|W_w1c (B:=a4.z) a8 zr<|c_.rep a5) ?_;rintro _ a9 ⟨_,rfl,_⟩;refine R z (c_c d_3 d_5 z)<|EvA z (fS [(.tmp 39)] M_ z z z (a_i z) (lb z)<|lb z) λaa h4=>have:=h4.below;have V:Blk aa a9.z [(vU<|b_<|mkB a7)]:=h4.blk;have:=b_d h4 b_o;bdB a2 λ_ ab a3=>E z (a_W (α:=UInt8) M_ ab z z kO a6 V b_o an_ E_) ?_;rintro _ _ ⟨ad,ae,af,ah,rfl,_,ai,aj,_⟩;exact Rw z<|Wr<|rS1 a3 hr z ⟨kW,ae,af,ah,ad,z,ai,aj,sQ⟩
theorem W_w39 {x1:Bt}{x2:Bt}{res:Bool}(hm:i_M x1 x2=some res)(a1:B<=w0.z)(I:rp w0 B A0 N0 C0 x1)(V:rp w0 B A2 N2 C2 x2):g_ prog 84 [sl A0 N0 C0,sl A2 N2 C2] w0 (Q11 w0 B res):=by
 unfold i_M at hm;refine goG func84 z z z λfn hr=>Ws<|Rw z<|Wq<|Wm z<|R z (lnR h_ z I)<|Rm z<|R z (lnR h_ z V)<|R z (nq z z)<|Wx z (λG=>?_) (λG=>?_)
 .exact Ws<|Rw z<|Wr<|rS1 (ifT hm G) hr z ⟨br w0,z⟩
 refine Wk<|Wq<|Ws<|Rw z<|bdB (ifF hm G) λ_ W J=>Wf (σ:=Unit) (ρ:=Bool) (λ(k3:Nat)(_:Unit) a w=>Sat 26 [(0,sl A0 N0 C0),(1,sl A2 N2 C2),(5,vI ((k3:Nat):Int))] a/\Below w0.z w0 w) (λ(_:Unit) a w=>Sat 26 [] a/\Below w0.z w0 w) (rQ prog fn<|Q11 w0 B) W ?_ ?_ ?_ ?_ ?_
 .exact λ_ q=>⟨kaA q,br w0⟩
 .rintro k3 _ _ _ _ L ⟨Y,_⟩ a0;refine Wu ?_ Y;refine Wq<|Wm z<|Rm z<|R z (lnR h_ z kR)<|Rl z z z<|Wx z (λ_=>?_) (λhc=>(J_ L hc).elim);refine Wk<|Wq<|Wb<|Wq (Wd (X:=noX) 0 (pl_ 9 []) mo (by kernel_rfl) λws st _=>dM z z z<|dM z z z ?_);refine bdB a0 λ_ e9 hma=>dxA (α:=UInt8) z z h_ z_5 z z z kR e9 λ_ _ _ hb hd _=>?_;obtain rfl:=u8 hd;refine dR z z (l0 g_5 z<|hb.at0 z)<|dM z z z<|dM z z z<|bdB hma λ_ ec O=>dxA (α:=UInt8) z z h_ z_5 z z z kR ec λ_ _ _ he hf _=>?_;obtain rfl:=u8 hf;refine dR z z (l0 g_5 z<|he.at0 z)<|dR z z (nq z z)<|pD<|Wo<|Wc z (λH=>?_) (λH=>?_)
  .exact Ws<|Rw z<|Wr<|rtO<|qL (som<|ifT O H).symm<|a_s hr z ⟨kW,z⟩
  exact Wk<|Wg<|Rm z<|R z (inc_ L (lt_ (repS.len I) u_) z z)<|Ra z<|Wl (λ_ q=>⟨(),(som<|ifF O H).symm,⟨kaA q,kW⟩⟩)
 .rintro _ _ _ ⟨hSg,sh⟩;refine Wu ?_ hSg;refine Wq<|Wm z<|Rm z<|R z (lnR h_ z kR)<|Rl z z z<|Wx z (λhc=>(K_ hc).elim) (λ_=>?_);exact We<|λ_ q=>⟨rfl,⟨q.k sn,sh⟩⟩
 .rintro _ ai _ rfl ⟨_,sj⟩;have hmk:=elL J;revert ai;exact Wo<|Ws<|Rw z<|Wr<|rS1 hmk hr z ⟨sj,z⟩
 exact lqA J λ_ _ h=>h.2
def Q13 (w0:World)(B:Zone)(r:q_×Int×Bool)(v:Value)(w':World):Prop:=Bw w0 w'/\un3 (λr1 r2 r3=>∃G H I S1,v = .tuple #[(.agg #[vI r1.kind,Str.v r1.name,vI r1.version,sl G H I]),vI r2,vB r3]/\inI r1.kind/\r1.name.b.length<=LEN/\inI r1.version/\c_ w' S1 (sl G H I) r1.data/\inI r2/\S1.Nodup/\(∀k∈S1,w0.z<=k)) r
theorem W_w3a {x1:Bt}{x2:Int}{res:q_×Int×Bool}(hm:i_N n x1 x2=some res)(aJ:B<=w0.z)(aI:rp w0 B A0 N0 C0 x1)(L:inI x2):g_ prog 54 [sl A0 N0 C0,vI x2] w0 (Q13 w0 B res):=by
 unfold i_N at hm;refine goG func54 z z z λfn hr=>Ws<|EvZ [vI 0,Str.v (⟨[]⟩:Str),vI 0,sN] z f_z z λwn _ _=>Ra z<|Rw z<|Wq<|Wm z<|Rm z<|R z (lnR h_ z kR)<|R z (sb_ z z)<|bdB hm λ_ eo hmf=>EcA z (fc call51 z<|b_k (B:=B) eo kM L (ii z)<|iS _ _) λ_ _=>R z (not_ z)<|Wx z (λV=>?_) (λV=>?_)
 .exact Ws<|R z (bQ [] [vI 0,Str.v (⟨[]⟩:Str),vI 0,sN] e_O z z)<|Rm z<|E0q [vI 0,Str.v (⟨[]⟩:Str),vI 0,sN] a_8 z z kB z λaK hp _=>Ra z<|Rw z<|Wr<|rS3 (ifT hmf V) hr (m_ b_L a_8 z hp z) z z ⟨kW,none,0,0,[],z,ii z,lb z,ii z,onL,L,E_,an_⟩
 refine Wk<|Wm z<|R z (add_ z z)<|Rw z<|Wm z<|RM z z<|R z (add_ z z)<|bdB (ifF hmf V) λxr es hmg=>xA (α:=UInt8) z h_ z_5 z z z kR es λ_ _ _ ht hu _=>?_;obtain rfl:=u8 hu;refine R z (l0 g_5 z<|ht.at0 z)<|R z (b_n d_5 d_3 z)<|R z (add_ z z)<|Rw z<|Wq<|Wm z<|R z (add_ z z)<|Rm z<|R z (lnR h_ z kR)<|R z (T_ z z)<|Wx z (λW=>?_) (λW=>?_)
 .exact Ws<|R z (bQ [] [vI 0,Str.v (⟨[]⟩:Str),vI 0,sN] e_O z z)<|Rm z<|E0q [vI 0,Str.v (⟨[]⟩:Str),vI 0,sN] a_8 z z kB z λaL hv _=>Ra z<|Rw z<|Wr<|rS3 (ifT hmg W) hr (m_ b_L a_8 z hv z) z z ⟨kW,none,0,0,[],z,ii z,lb z,ii z,onL,L,E_,an_⟩
 refine Wk<|Wm z<|Rm z<|R z (add_ z z)<|Rm z<|R z (add_ z z)<|bdB (ifF hmg W) λ_ ex hmy=>RX z (rX h_ z_5 z z kR z z ex) ?_;rintro _ ⟨_,_,_,rfl,hz⟩;refine bdB hmy λa9 aa hmh=>E z (fc call81 z<|W_w1a (B:=B) aa kM hz) ?_;rintro _ _ ⟨_,rfl,_⟩;refine Rw z<|Wm z<|R z (add_ z z)<|Rm z<|R z (add_ z z)<|Rw z<|Wq<|Wm z<|Rm z<|R z (lnR h_ z kR)<|R z (b_u z z)<|Wx z (λhca=>?_) (λhca=>?_)
 .exact Ws<|R z (bQ [] [vI 0,Str.v (⟨[]⟩:Str),vI 0,sN] e_O z z)<|Rm z<|E0q [vI 0,Str.v (⟨[]⟩:Str),vI 0,sN] a_8 z z kB z λaM ab _=>Ra z<|Rw z<|Wr<|rS3 (ifT hmh hca) hr (m_ b_L a_8 z ab z) z z ⟨kW,none,0,0,[],z,ii z,lb z,ii z,onL,L,E_,an_⟩
 refine Wk<|Wm z<|Rm z<|R z (add_ z z)<|Rm z<|bdB (ifF hmh hca) λ_ ad a0=>RX z (rX h_ z_5 z z kR z z ad) ?_;rintro _ ⟨_,_,_,rfl,ae⟩;obtain ⟨af,_,ah,a2⟩:=V_ a0;refine E z (fc call82 z<|W_w34 (B:=B) ah kM ae) ?_;rintro _ ai ⟨_,H,I,J,aj,rfl,ak,al,_⟩;refine Rm z<|Re z z z<|Re z z z<|Ra z<|Rw z<|Wq (Wd (X:=noX) 262144 (pl_ 19 [17,18]) mo (by kernel_rfl) λwi aN _=>dM z z z<|dM z z z ?_);refine bdB a2 λx4 am a3=>dxA (α:=UInt8) z z h_ z_5 z z z kR am λ_ _ _ an ap _=>?_;obtain rfl:=u8 ap;refine dR z z (l0 g_5 z<|an.at0 z)<|dR z z (b_n d_5 d_3 z) ?_;iterate 3 refine dM z z z ?_
 refine bdB a3 λx5 aq a4=>dRX z z (rX h_ z_5 z z kR z z aq) ?_;rintro _ ⟨_,_,_,rfl,hb⟩;refine dR z z (h_5 h_ d_9 d_5 z_5 z hb)<|dM z z z<|dM z z z<|bdB a4 λx6 ar a5=>dxA (α:=UInt8) z z h_ z_5 z z z kR ar λ_ _ _ au av _=>?_;obtain rfl:=u8 av;refine dR z z (l0 g_5 z<|au.at0 z)<|dR z z (b_n d_5 d_3 z)<|dM z z z<|dR z z (bQ [(0,.tmp 70),(1,.tmp 75),(2,.tmp 80),(3,.tmp 81)] [vI (b_ x4),Str.v (⟨x5⟩:Str),vI<|b_ x6,sl H I J] e_O z z)<|dNb [vI 0,Str.v (⟨[]⟩:Str),vI 0,sN] z z f_z z λaO _ Y=>dE0 z (fs0 (cur':=[vI (b_ x4),Str.v (⟨x5⟩:Str),vI<|b_ x6,sl H I J]) a_8 z z Y z z z z) (.inl z) ?_;rintro _ _ ⟨_,aw⟩;have:=aw.one;refine pD<|Wo<|Wq<|Ws<|R z (lC [vI (b_ x4),Str.v (⟨x5⟩:Str),vI<|b_ x6,sl H I J] b_L a_8 z)<|bdB a5 λax ay a6=>E z (fc call83 z<|W_w38 (B:=ai.z) (x1:=(⟨b_ x4,(⟨x5⟩:Str),b_ x6,af⟩:q_)) ay (O_ kM) (d_z _) (repS.len hb) (d_z _)<|or_ kO<|c_.lt ak) ?_;rintro _ O ⟨_,_,_,_,_,rfl,hk,_,_⟩;refine Rw z<|Wq<|bdB a6 λaz hul hmm=>Wt (λa w=>∃xc,xc=az/\Sat 103 [(1,vI x2),(4,pt w0.z),(10,vI<|e_ (e_ (e_ (e_ x2 2)<|b_ xr) 3) a9),(13,pt wi.z),(97,vB xc)] a/\Below O.z O w) ?_ ?_
 .refine Wg<|Rm z<|R z (lnR h_ z<|c_.rep hk)<|Rq z z z<|Rm z ?_;rcases bs ((ax.length:Int)==0) with G | G
  .iterate 8 refine Nh z G ?_
   exact R z (pT z G z)<|Wl (λ_ q=>⟨true,som<|ifT hul G,kaA q,br O⟩)
  iterate 4 refine Rh z G (mv z) ?_
  refine Rh z G (add_ z z)<|bdB (ifF hul G) λ_ aA a7=>RXg z z G z (rX h_ z_5 z z kR z z aA) ?_;rintro _ ⟨_,_,_,rfl,aB⟩;refine bdB a7 λaC aD a8=>Eg z z G z (fc call84 z<|W_w39 (B:=O.z) aD zr (c_.rep hk)<|repS.mono aB kM) ?_;rintro _ _ ⟨aE,rfl⟩;exact Rh z G (not_ z)<|R z (pF z G z)<|Wl (λ_ q=>⟨!aC,som a8,kaA q,aE⟩)
 rintro aF _ ⟨xc,rfl,_,_⟩;revert aF;refine Wo<|Wc z (λhcd=>?_) (λhcd=>?_)
 .exact Ws<|R z (bQ [] [vI 0,Str.v (⟨[]⟩:Str),vI 0,sN] e_O z z)<|Rm z<|E0q [vI 0,Str.v (⟨[]⟩:Str),vI 0,sN] a_8 z z kB z λaP aG _=>Ra z<|Rw z<|Wr<|rS3 (ifT hmm hcd) hr (m_ b_L a_8 z aG z) z z ⟨kW,none,0,0,[],z,ii z,lb z,ii z,onL,L,E_,an_⟩
 exact Wk<|Ws<|R z (lC [vI (b_ x4),Str.v (⟨x5⟩:Str),vI<|b_ x6,sl H I J] b_L a_8 z)<|Rm z<|R z (add_ z z)<|E0q [vI (b_ x4),Str.v (⟨x5⟩:Str),vI<|b_ x6,sl H I J] a_8 z z kB z λaQ aH _=>Ra z<|Rw z<|Wr<|rS3 (ifF hmm hcd) hr (m_ b_L a_8 z aH z) z z ⟨kW,H,I,J,aj,z,d_z _,repS.len hb,d_z _,kO,iA _ _,al,sQ⟩
def Q14 (w0:World)(B:Zone)(r:(List q_)×Int)(v:Value)(w':World):Prop:=Bw w0 w'/\un2 (λr1 r2=>∃G H I S1,v = .tuple #[sl G H I,vI r2]/\c_ w' S1 (sl G H I) r1/\inI r2/\S1.Nodup/\(∀k∈S1,w0.z<=k)) r
theorem m_X {x1:Bt}{res:(List q_)×Int}(hm:g_D n x1=some res)(al:B<=w0.z)(ak:rp w0 B A0 N0 C0 x1):g_ prog 35 [sl A0 N0 C0] w0 (Q14 w0 B res):=by
 unfold g_D at hm;refine goG func35 z z z λfn hr=>Ws<|Ra z<|Rw z<|Ws<|E z (f0 (α:=q_) i_U) ?_;rintro _ J ⟨ai,nj,ck,rfl,_,hl⟩;refine Rw z<|Ws<|Rw z ?_;obtain ⟨_,hum,hme⟩:=bdS hm;refine b_6 (σ:=(List q_)×Int) (ρ:=(List q_)×Int) (λs a w=>un2 (λL x5=>∃a2 H I G,Sat 26 [(0,sl A0 N0 C0),(2,sN),(3,vI 0),(4,sl a2 H I),(5,vI x5)] a/\Cg [w0.z] J w/\c_ w G (sl a2 H I) L/\G.Nodup/\(∀k∈G,k∈[w0.z]∨J.z<=k)/\inI x5) s) (λs a w=>un2 (λL x5=>∃a2 H I G,Sat 26 [(2,sN),(3,vI 0)] a/\Cg [w0.z] J w/\c_ w G (sl a2 H I) L/\G.Nodup/\(∀k∈G,k∈[w0.z]∨J.z<=k)/\inI x5) s) (rQ prog fn<|Q14 w0 B) hum ?_ ?_ ?_ ?_
 .exact λ_ q=>⟨ai,nj,ck,[w0.z],kaA q,cr [w0.z] J,hl,S_,sQ,ii z⟩
 .rintro ⟨L,x5⟩ _ _ _ ⟨a2,H,I,G,hSn,_,ho,O,hp,V⟩ hmq;refine Wu ?_ hSn;refine Wb<|Wm z<|Rm z ?_;obtain ⟨r1,rs,_,et,hmf⟩:=N_<|a_0 hmq;refine E z (fc call54 z<|W_w3a (B:=B) et kM kR V) ?_;rintro _ _ ⟨_,aa,nb,cc,Sv,rfl,hw,hx,hy,_,hz,a5,_⟩;refine Rm z ?_;iterate 3 refine Re z z z ?_
  refine EvZ [vI 0,Str.v (⟨[]⟩:Str),vI 0,sN] z f_z z λam _ W=>E0q [vI r1.kind,Str.v r1.name,vI r1.version,sl aa nb cc] a_8 z z W z λa6 an _=>Ra z<|Rw z<|Wq<|Wm z<|R z (not_ z)<|Wx z (λhcd=>?_) (λhcd=>?_)
  .exact Wm z<|Rm z<|Ra z<|Rw z<|Wr<|rtO<|qL (som<|ifT hmf hcd).symm<|b_r hr z z ⟨kW,a2,H,I,G,z,kO,V,O,sQ⟩
  refine Wk<|Wm z<|R z (lC [vI r1.kind,Str.v r1.name,vI r1.version,sl aa nb cc] b_L a_8 z)<|E z (fS [(.tmp 22)] i_U z z z (a_i z) (lb z)<|lb z) ?_;rintro _ a7 ⟨rfl,hh⟩;have:=hh.below;have Y:Blk a7 a6.z [vI r1.kind,Str.v r1.name,vI r1.version,sl aa nb cc]:=hh.blk;refine bdB (ifF hmf hcd) λa8 a9 a0=>E z (a_W (α:=q_) i_U a9 z z kO O Y (p_K (x:=r1) (S1:=Sv) hw hx hy kO) sQ a5) ?_;rintro _ _ ⟨ab,ad,ae,af,rfl,_,ah,aj,_⟩;exact Rw z<|Wg<|Rm z<|Ra z<|Wl (λ_ q=>⟨(a8,rs),(som a0).symm,⟨ad,ae,af,ab,kaA q,kW,ah,aj,sQ,hz⟩⟩)
 .rintro ⟨L,x5⟩ _ _ rfl ⟨a2,H,I,G,_,_,ho,O,hp,V⟩;have a1:=elL hme;exact nomatch (show none=some _ from (a_0 a1))
 exact lqA hme λ_ _ h=>h.2
theorem W_w1d {x1:Log}{res:Bool}(hm:i_O n x1=some res)(a1:B<=w0.z)(a0:rp w0 B A0 N0 C0 x1.bytes)(V:inI x1.stored):g_ prog 32 [(.agg #[sl A0 N0 C0,vI x1.stored])] w0 (Q11 w0 B res):=by
 unfold i_O at hm;refine goG func32 z z z λfn hr=>Ws<|EvX [sl A0 N0 C0,vI x1.stored] z z z λw7 _ J=>Rw z<|Wq<|Ws<|Rf z f_x z<|R z (l0 g_3 z<|J.at z)<|Rf z c_E z<|R z (l0 B_ z<|J.at z)<|R z (lnR h_ z kR)<|bdB hm λ_ W L=>EcA z (fc call51 z<|b_k (B:=B) W kM V (ii z)<|c_3<|repS.len kR) λ_ _=>R z (not_ z)<|Wx z (λI=>?_) (λI=>?_)
 .exact Ws<|Rw z<|Wr<|rS1 (ifT L I) hr z ⟨kW,z⟩
 refine Wk<|Ws<|Rf z c_E z<|R z (l0 B_ z kBa) ?_;obtain ⟨_,Y,ea,hmb⟩:=V_<|ifF L I;refine E z (fc call35 z<|m_X (B:=B) ea kM kR) ?_;rintro _ _ ⟨_,_,_,_,_,rfl,_,_,_,_⟩;refine Rm z<|Re z z z<|Re z z z<|Ra z<|Rw z<|Ws<|Rf z c_E z<|R z (l0 B_ z kBa)<|Rf z f_x z<|R z (l0 g_3 z kBa)<|bdB hmb λ_ ec hmd=>RX z (rX h_ z_5 z z kR z z ec) ?_;rintro _ ⟨_,_,_,rfl,he⟩;obtain ⟨_,rf,eg,hmh⟩:=V_ hmd;refine E z (fc call35 z<|m_X (B:=B) eg kM he) ?_;rintro _ H ⟨_,_,_,_,_,rfl,_,_,_,_⟩;refine Rm z<|Re z z z<|Re z z z<|Ra z<|Rw z<|Wq<|bdB hmh λui O hmj=>Wt (λa w=>∃x3,x3=ui/\Sat 40 [(2,vB x3)] a/\Below H.z H w) ?_ ?_
 .refine Wg<|Rm z<|Rf z c_E z<|R z (l0 B_ z kBa)<|R z (lnR h_ z kR)<|Rq z z z<|Rm z ?_;rcases bs (Y==(x1.bytes.length:Int)) with G | G
  .exact Rh z G (mv z)<|Rh z G (fd f_x z)<|Rh z G (l0 g_3 z kBa)<|Rh z G (eql z z)<|R z (pT z G z)<|Ra z<|Wl (λ_ q=>⟨rf==x1.stored,som<|ifT O G,kaA q,br H⟩)
  iterate 4 refine Nh z G ?_
  exact R z (pF z G z)<|Ra z<|Wl (λ_ q=>⟨false,som<|ifF O G,kaA q,br H⟩)
 rintro ak _ ⟨x3,rfl,_,_⟩;revert ak;exact Wo<|Wr<|rS1 hmj hr z ⟨kW,z⟩
def Q15 (w0:World)(B:Zone)(r:(List o_))(v:Value)(w':World):Prop:=Bw w0 w'/\(λr1=>∃G H I,(sl G H I)=v/\repS w' (zn B w0.z w'.z) (sl G H I) r1) r
theorem W_w3b {x1:List o_}{x2:q_}{res:(List o_)}(hm:k_K x1 x2=some res)(cA:B<=w0.z)(aR:rp w0 B A0 N0 C0 x1)(cy:inI x2.kind)(a3:x2.name.b.length<=LEN)(a4:inI x2.version)(cz:rp w0 B AJ NJ CJ x2.data):g_ prog 52 [sl A0 N0 C0,(.agg #[vI x2.kind,Str.v x2.name,vI x2.version,sl AJ NJ CJ])] w0 (Q15 w0 B res):=by
 unfold k_K at hm;refine goG func52 z z z λfn hr=>Ws<|EvX [vI x2.kind,Str.v x2.name,vI x2.version,sl AJ NJ CJ] z z z λcB _ a5=>Rw z<|Ws<|E z (t_d (α:=o_) c_R B) ?_;rintro _ L ⟨aB,rfl,_,_⟩;refine Rw z<|Wq<|bdB hm λbc a6 aS=>Wt (λa w=>∃x6 O xh,(x6,O,xh)=bc/\∃ac ne cf Si V,Sat 61 [(0,sl A0 N0 C0),(3,pt w0.z),(5,sl aB 0 0),(6,pt V)] a/\Below L.z L w/\x6.b.length<=LEN/\inI O/\c_ w Si (sl ac ne cf) xh/\Si.Nodup/\(∀k∈Si,L.z<=k)/\Blk w V [Str.v x6,vI O,sl ac ne cf]/\L.z<=V/\(∀k∈Si,k∉[V])) ?_ ?_
 .refine Wd (X:=λk=>k∈([]:List Nat)∨L.z<=k) 1024 (.rd 0<|.rd 1<|.rd 2<|.rd 3<|.rd 5<|.rd 6<|.br 4 (.br 7 (.rd 8<|.ef 9<|.ef 10 .done) 9<|.ef 7<|.rd 8<|.ef 10 .done) 9<|.ef 4<|.ef 7<|.rd 8<|.ef 10 .done) mo (by kernel_rfl) λbe cC _=>dR z z (fd e_R z)<|dR z z (l1 g_9 z (f_6 nm0<|QAC a5.lt kM) kBa)<|dR z z (fd d_T z)<|dR z z (l1 g_3 z (f_6 nm0<|QAC a5.lt kM) kBa)<|dR z z (fd e_S z)<|dR z z (l1 B_ z (f_6 nm0<|QAC a5.lt kM) kBa)<|f_F ?_ ?_
  .refine dE z z (f0 (α:=UInt8) M_) (.inr λ_ _ h=>h_Z (by obtain ⟨_,_,_,_,h,_⟩:=h;exact h)) ?_;rintro _ bf ⟨_,_,_,rfl,_,bg⟩;refine f_F ?_ ?_
   .refine bdB a6 λbh bi aT=>dE z z (fN (α:=UInt8) M_ bi z z bg S_ kR) (.inr λ_ _ h=>by obtain ⟨_,_,_,_,_,h,_⟩:=h;exact chgS h) ?_;rintro _ bj ⟨bk,aa,ab,ad,rfl,_,_,bm,_⟩;exact dR z z (bQ [(0,.tmp 11),(1,.tmp 13),(2,.tmp 17)] [Str.v x2.name,vI x2.version,sl aa ab ad] m_K z z)<|dNb [(Str.v (⟨[]⟩:Str)),vI 0,sN] z z i_W z λcD _ aN=>dS [Str.v x2.name,vI x2.version,sl aa ab ad] z b_b z z aN z sQ λcE bn _=>pD<|λ_ q=>⟨x2.name,x2.version,bh,som aT,aa,ab,ad,bk,bj.z,kaA q,kW,a3,a4,kO,bm,sQ,bn,sQ,sQ⟩
   refine dNb [(Str.v (⟨[]⟩:Str)),vI 0,sN] z z i_W z λcF _ _=>bdB a6 λbo bp aU=>dE z z (fN (α:=UInt8) M_ bp z z kO S_ kR) (.inr λ_ _ h=>by obtain ⟨_,_,_,_,_,h,_⟩:=h;exact chgS h) ?_;rintro _ _ ⟨bq,ae,af,ah,rfl,_,_,bt,_⟩;exact dR z z (bQ [(0,.tmp 11),(1,.tmp 13),(2,.tmp 17)] [Str.v x2.name,vI x2.version,sl ae af ah] m_K z z)<|dS [Str.v x2.name,vI x2.version,sl ae af ah] z b_b z z kB z sQ λcG bu _=>pD<|λ_ q=>⟨x2.name,x2.version,bo,som aU,ae,af,ah,bq,bf.z,kaA q,kW,a3,a4,kO,bt,sQ,bu,sQ,sQ⟩
  refine dNb [(Str.v (⟨[]⟩:Str)),vI 0,sN] z z i_W z λcH _ _=>dE z z (f0 (α:=UInt8) M_) (.inr λ_ _ h=>h_Z (by obtain ⟨_,_,_,_,h,_⟩:=h;exact h)) ?_;rintro _ _ ⟨_,_,_,rfl,_,bv⟩;refine bdB a6 λbw bx aV=>dE z z (fN (α:=UInt8) M_ bx z z bv S_ kR) (.inr λ_ _ h=>by obtain ⟨_,_,_,_,_,h,_⟩:=h;exact chgS h) ?_;rintro _ _ ⟨bz,ai,aj,ak,rfl,_,_,bA,_⟩;exact dR z z (bQ [(0,.tmp 11),(1,.tmp 13),(2,.tmp 17)] [Str.v x2.name,vI x2.version,sl ai aj ak] m_K z z)<|dS [Str.v x2.name,vI x2.version,sl ai aj ak] z b_b z z kB z sQ λcI bB _=>pD<|λ_ q=>⟨x2.name,x2.version,bw,som aV,ai,aj,ak,bz,be.z,kaA q,kW,a3,a4,kO,bA,sQ,bB,sQ,sQ⟩
 rintro bC H ⟨x6,O,xh,rfl,ac,ne,cf,Si,V,_,_,aC,aD,aE,_,aF,_,_,_⟩;revert bC;refine Wo<|Ws<|Rw z<|Wq<|Ws<|Rw z ?_;obtain ⟨_,aW,ar⟩:=bdS<|c_4 aS;refine Wf (σ:=(List o_)×Bool) (ρ:=List o_) (λ(km:Nat) s a w=>un2 (λxb W=>∃a2 I J G,Sat 61 [(0,sl A0 N0 C0),(3,pt w0.z),(5,sl a2 I J),(6,pt V),(7,vB W),(8,vI ((km:Nat):Int))] a/\Below H.z H w/\X_ w G (zn B L.z H.z) (sl a2 I J) xb/\G.Nodup/\(∀k∈G,H.z<=k)) s) (λs a w=>un2 (λxb W=>∃a2 I J G,Sat 61 [(3,pt w0.z),(5,sl a2 I J),(6,pt V),(7,vB W)] a/\Below H.z H w/\X_ w G (zn B L.z H.z) (sl a2 I J) xb/\G.Nodup/\(∀k∈G,H.z<=k)) s) (rQ prog fn<|Q15 w0 B) aW ?_ ?_ ?_ ?_ ?_
 .exact λ_ q=>⟨aB,0,0,([]:List Nat),kaA q,br H,X_.mono kH f_a,E_,an_⟩
 .rintro km ⟨xb,W⟩ _ _ _ av ⟨a2,I,J,G,aX,_,al,hd,am⟩ aY;refine Wu ?_ aX;refine Wq<|Wm z<|Rm z<|R z (lnR c_s z kR)<|Rl z z z<|Wx z (λ_=>?_) (λhc=>(J_ av hc).elim);refine Wk<|Wq<|Wb<|Wb<|Wq (Wd (X:=noX) 0 (pl_ 9 []) mo (by kernel_rfl) λwg cJ _=>dM z z z<|dM z z z ?_);refine bdB (a_0 aY) λ_ bD aZ=>dxA (α:=o_) z z c_s b_b z z z kR bD λ_ _ _ bE bF _=>?_;obtain ⟨_,_,_,rfl,_,_,_⟩:=g_O bF;refine dR z z (fd m_O z)<|dR z z (l0 g_9 z<|bE.at (j:=0) z)<|dR z z (fd e_R z)<|dR z z (l0 g_9 z kBa)<|dR z z (e_z z z)<|dQ z z z<|pD<|Wo<|bdB aZ λbG aw b0=>Wt (λa w=>∃xn xo,(xn,xo)=bG/\∃ap nq ct Sj,Sat 61 [(0,sl A0 N0 C0),(3,pt w0.z),(5,sl ap nq ct),(6,pt V),(7,vB xo),(8,vI ((km:Nat):Int))] a/\Cg G wg w/\X_ w Sj (zn B L.z H.z) (sl ap nq ct) xn/\Sj.Nodup/\(∀k∈Sj,k∈G∨wg.z<=k)) ?_ ?_
  .refine Wc z (λa7=>?_)<|λa7=>?_
   .refine Wg<|RM z z<|Rm z<|bdB (ifT aw a7) λxk bH b1=>xA (α:=o_) z c_s b_b z z z kR bH λ_ _ _ bI bJ _=>?_;obtain ⟨aG,aH,aI,rfl,bK,bM,_⟩:=g_O bJ;refine R z (lN (vs:=[Str.v xk.name,vI xk.version,sl aG aH aI]) e_N b_b z z fid bI)<|E z (fS [(.tmp 38)] c_R z z z (a_i z) (lb z)<|lb z) ?_;rintro _ bN ⟨rfl,aJ⟩;have:=aJ.below;have aO:Blk bN wg.z [Str.v xk.name,vI xk.version,sl aG aH aI]:=aJ.blk;refine bdB b1 λbO bP b2=>E z (m_i (α:=o_) c_R bP z z kH hd aO (j_4 (x:=xk) bK bM<|repS.mono kR f_a) sQ) ?_;rintro _ _ ⟨bR,bS,bT,bU,rfl,_,bV,bW,_⟩;exact Ra z<|Wl (λ_ q=>⟨bO,W,som b2,bS,bT,bU,bR,kaA q,kW,bV,bW,sQ⟩)
   refine Ws<|Rf z d_S z<|R z (l0 g_3 z kBa)<|Rq z z z<|Rw z<|bdB (ifF aw a7) λbX ax b3=>Wt (λa w=>∃xr xs,(xr,xs)=bX/\∃au nv cw Sl,Sat 61 [(0,sl A0 N0 C0),(3,pt w0.z),(5,sl au nv cw),(6,pt V),(7,vB xs),(8,vI ((km:Nat):Int))] a/\Cg G wg w/\X_ w Sl (zn B L.z H.z) (sl au nv cw) xr/\Sl.Nodup/\(∀k∈Sl,k∈G∨wg.z<=k)) ?_ ?_
   .refine Wc z (λa8=>?_)<|λa8=>?_
    .refine Wm z<|R z (lN (vs:=[Str.v x6,vI O,sl ac ne cf]) e_N b_b z z fid<|kBr 0 3)<|E z (fS [(.tmp 46)] c_R z z z (a_i z) (lb z)<|lb z) ?_;rintro _ bY ⟨rfl,aK⟩;have:=aK.below;have aP:Blk bY wg.z [Str.v x6,vI O,sl ac ne cf]:=aK.blk;refine bdB (ifT ax a8) λbZ c0 b4=>E z (m_i (α:=o_) c_R c0 z z kH hd aP (j_4 (x:=(⟨x6,O,xh⟩:o_)) aC aD<|or_ kO<|zin (B:=B) aF<|c_.lt aE) sQ) ?_;rintro _ _ ⟨c1,c2,c3,c5,rfl,_,c6,c7,_⟩;exact Rw z<|Wg<|Ra z<|Wl (λ_ q=>⟨bZ,true,som b4,c2,c3,c5,c1,kaA q,kW,c6,c7,sQ⟩)
    exact Z_<|λ_ q=>⟨xb,W,som<|ifF ax a8,a2,I,J,G,kaA q,cr G wg,kH,hd,sQ⟩
   rintro c8 _ ⟨xr,xs,rfl,au,nv,cw,Sl,_,_,c9,ca,_⟩;revert c8;exact λ_ q=>⟨xr,xs,som<|a_0 b3,au,nv,cw,Sl,kaA q,kW,c9,ca,sQ⟩
  rintro cb _ ⟨xn,xo,rfl,ap,nq,ct,Sj,_,_,cc,cd,_⟩;revert cb;exact Wo<|Wg<|Rm z<|R z (inc_ av (lt_ (repS.len aR) u_) z z)<|Ra z<|Wl (λ_ q=>⟨(xn,xo),(som<|a_0 b0).symm,⟨ap,nq,ct,Sj,kaA q,kW,cc,cd,sQ⟩⟩)
 .rintro ⟨xb,W⟩ _ _ ⟨a2,I,J,G,b5,ce,al,hd,am⟩;refine Wu ?_ b5;refine Wq<|Wm z<|Rm z<|R z (lnR c_s z kR)<|Rl z z z<|Wx z (λhc=>(K_ hc).elim) (λ_=>?_);exact We<|λ_ q=>⟨rfl,⟨a2,I,J,G,kaA q,ce,al,hd,am⟩⟩
 .rintro ⟨xb,W⟩ cg wx rfl ⟨a2,I,J,G,_,_,al,hd,am⟩;have b6:=elL ar;revert cg;refine Wo<|Wq<|Wq ?_;refine bdB (a_0 b6) λch ay b7=>Wt (λa w=>∃an,an=ch/\Sat 61 [(5,sl a2 I J),(6,pt V),(55,vB an)] a/\Below wx.z wx w) ?_ ?_
  .refine Wg<|Rf z d_S z<|R z (l0 g_3 z kBa)<|Rq z z z<|Rm z ?_;rcases bs (x2.kind==1) with hca | hca
   .exact Rh z hca (mv z)<|Rh z hca (not_ z)<|R z (pT z hca z)<|Wl (λ_ q=>⟨!W,som<|ifT ay hca,kaA q,br wx⟩)
   exact Nh z hca<|Nh z hca<|R z (pF z hca z)<|Wl (λ_ q=>⟨false,som<|ifF ay hca,kaA q,br wx⟩)
  rintro ci wy ⟨an,rfl,_,_⟩;revert ci;refine Wo<|bdB b7 λcj aA b8=>Wt (λa w=>∃aq,aq=cj/\∃az Y a0 a1,Sat 61 [(5,sl az Y a0)] a/\Cg G wy w/\X_ w a1 (zn B L.z H.z) (sl az Y a0) aq/\a1.Nodup/\(∀k∈a1,k∈G∨wy.z<=k)) ?_ ?_
  .refine Wc z (λa9=>?_)<|λa9=>?_
   .refine Wg<|Rm z<|R z (lN (vs:=[Str.v x6,vI O,sl ac ne cf]) e_N b_b z z fid<|kBr 0 3)<|E z (fS [(.tmp 57)] c_R z z z (a_i z) (lb z)<|lb z) ?_;rintro _ ck ⟨rfl,aL⟩;have:=aL.below;have aQ:Blk ck wy.z [Str.v x6,vI O,sl ac ne cf]:=aL.blk;refine bdB (ifT aA a9) λcl cm b9=>E z (m_i (α:=o_) c_R cm z z kH hd aQ (j_4 (x:=(⟨x6,O,xh⟩:o_)) aC aD<|or_ kO<|zin (B:=B) aF<|c_.lt aE) sQ) ?_;rintro _ _ ⟨cn,co,cp,cq,rfl,_,cu,cv,_⟩;exact Ra z<|Wl (λ_ q=>⟨cl,som b9,co,cp,cq,cn,kaA q,kW,cu,cv,sQ⟩)
   exact Z_<|λ_ q=>⟨xb,som<|ifF aA a9,a2,I,J,G,kaA q,cr G wy,kH,hd,sQ⟩
  rintro cx _ ⟨aq,rfl,az,Y,a0,a1,_,_,aM,_,_⟩;revert cx;exact Wo<|Wm z<|Rw z<|Wr<|rS1 b8 hr z ⟨kW,az,Y,a0,z,repS.mono (X_.rep aM (zall (zin (B:=B) (i:=H.z) sQ<|X_.lt aM)<|b_O kM lr)<|b_O lr kM)<|b_O kM lr⟩
 exact lqA ar λ_ _ h=>h.2
theorem W_w1e {x1:Bt}{res:(List o_)}(hm:i_P n x1=some res)(ae:B<=w0.z)(ad:rp w0 B A0 N0 C0 x1):g_ prog 33 [sl A0 N0 C0] w0 (Q15 w0 B res):=by
 unfold i_P at hm;refine goG func33 z z z λfn hr=>Ws<|Rw z<|Ws<|E z (f0 (α:=o_) c_R) ?_;rintro _ _ ⟨ac,nd,ce,rfl,_,hf⟩;refine Rw z<|Wm z ?_;obtain ⟨_,_,eg,hmh⟩:=V_ hm;refine E z (fc call35 z<|m_X (B:=B) eg kM kR) ?_;rintro _ J ⟨_,ai,nj,ck,_,rfl,h6,_,_,L⟩;refine Rm z<|Re z z z<|Re z z z<|Ra z<|Rw z<|Wq<|Ws<|Rw z<|bdB hmh λ_ hul V=>Wf (σ:=List o_) (ρ:=List o_) (λ(ka:Nat)(x3:List o_) a w=>∃G H I,Sat 26 [(3,sl G H I),(4,sl ai nj ck),(6,vI ((ka:Nat):Int))] a/\Below J.z J w/\repS w (zn B w0.z w.z) (sl G H I) x3) (λ(x3:List o_) a w=>∃G H I,Sat 26 [(3,sl G H I)] a/\Below J.z J w/\repS w (zn B w0.z w.z) (sl G H I) x3) (rQ prog fn<|Q15 w0 B) hul ?_ ?_ ?_ ?_ ?_
 .exact λ_ q=>⟨ac,nd,ce,kaA q,br J,repS.mono (or_ kO<|zin (B:=B) (i:=w0.z) sQ<|c_.lt hf)<|b_O lr kM⟩
 .rintro ka x3 _ wm _ hkb ⟨G,H,I,hSn,_,h5⟩ hmo;refine Wu ?_ hSn;refine Wq<|Wm z<|Rm z<|R z (lnR d_w z<|or_ kO<|zin (B:=B) L<|c_.lt h6)<|Rl z z z<|Wx z (λ_=>?_) (λhc=>(J_ hkb hc).elim);refine Wk<|Wq<|Wb<|Wg<|RM z z<|Rm z<|bdB hmo λO ep hmq=>xA (α:=q_) z d_w a_8 z z z (or_ kO<|zin (B:=B) L<|c_.lt h6) ep λ_ _ _ ht hu _=>?_;obtain ⟨ar,ns,cv,rfl,hw,hx,hy,hz⟩:=g_P hu;refine R z (lN (vs:=[vI O.kind,Str.v O.name,vI O.version,sl ar ns cv]) b_L a_8 z z fid ht)<|bdB hmq λa4 a5 W=>E z (fc call52 z<|W_w3b (B:=zn B w0.z wm.z) a5 (f_U kM lr) h5 hw hx hy<|repS.mono hz<|b_O kM kM) ?_;rintro _ _ ⟨_,a6,a7,a8,rfl,a9⟩;exact Rw z<|Wg<|Rm z<|R z (inc_ hkb (lt_ (c_.len h6) u_) z z)<|Ra z<|Wl (λ_ q=>⟨a4,(som W).symm,⟨a6,a7,a8,kaA q,kW,repS.mono a9<|zn_zn kM kM⟩⟩)
 .rintro x3 _ _ ⟨G,H,I,Y,aa,h5⟩;refine Wu ?_ Y;refine Wq<|Wm z<|Rm z<|R z (lnR d_w z<|or_ kO<|zin (B:=B) L<|c_.lt h6)<|Rl z z z<|Wx z (λhc=>(K_ hc).elim) (λ_=>?_);exact We<|λ_ q=>⟨rfl,⟨G,H,I,kaA q,aa,h5⟩⟩
 .rintro x3 ab _ rfl ⟨G,H,I,_,_,h5⟩;have a1:=elL V;revert ab;exact Wo<|Wm z<|Rw z<|Wr<|rS1 a1 hr z ⟨kW,G,H,I,z,h5⟩
 exact lqA V λ_ _ h=>h.2
theorem W_w3c {x1:H_}{res:(List o_)}(hm:k_L n x1=some res)(a2:B<=w0.z)(a0:rp w0 B A0 N0 C0 x1.registry.versions)(a1:rp w0 B A1 N1 C1 x1.log.bytes)(I:inI x1.log.stored):g_ prog 15 [(.agg #[sl A0 N0 C0,sl A1 N1 C1,vI x1.log.stored])] w0 (Q15 w0 B res):=by
 unfold k_L at hm;refine goG func15 z z z λfn hr=>Ws<|EvX [sl A0 N0 C0,sl A1 N1 C1,vI x1.log.stored] z z z λw4 _ J=>Rw z<|Wq<|Ws<|Rf z d_u z<|R z (lN (vs:=[sl A1 N1 C1,vI x1.log.stored]) f_u e_m z z fid<|J.row 1 2 z)<|bdB hm λ_ L H=>EcA z (fc call32 z<|W_w1d (B:=B) (x1:=(⟨x1.log.bytes,x1.log.stored⟩:Log)) L kM kR I) λO _=>R z (not_ z)<|Wx z (λG=>?_) (λG=>?_)
 .refine Ws<|E z (f0 (α:=o_) c_R) ?_;rintro _ _ ⟨V,W,Y,rfl,_,h3⟩;exact Rw z<|Wr<|rS1 (ifT H G) hr z ⟨kW,V,W,Y,z,repS.mono (or_ h3<|zin (B:=B) (i:=O.z) sQ<|c_.lt h3)<|b_O kM lr⟩
 refine Wk<|Ws<|Rf z d_u z<|Rf z c_E z<|R z (l0 B_ z kBa)<|bdB (ifF H G) λ_ ea hmb=>E z (fc call33 z<|W_w1e (B:=B) ea kM kR) ?_;rintro _ _ ⟨_,ac,nd,ce,rfl,hf⟩;exact Rw z<|Wr<|rS1 hmb hr z ⟨kW,ac,nd,ce,z,repS.mono hf<|b_O kM lr⟩
theorem f_A {x1:f_}{x2:Bool}{x3:Bool}{x4:Bool}{x5:Bool}{x6:Int}{res:Bool}(hm:d_q x1 x2 x3 x4 x5 x6=some res)(ad:B<=w0.z)(a4:x1.name.b.length<=LEN)(a5:inI x1.kind)(a6:inI x1.size)(a7:rp w0 B AB NB CB x1.bytes)(a8:rp w0 B AA NA CA x1.names)(a9:rp w0 B AC NC CC x1.tags)(aa:rp w0 B AD ND CD x1.kids)(ab:inI x6):g_ prog 185 [(.agg #[Str.v x1.name,vI x1.kind,vI x1.size,vB x1.little,sl AB NB CB,sl AA NA CA,sl AC NC CC,sl AD ND CD]),vB x2,vB x3,vB x4,vB x5,vI x6] w0 (Q11 w0 B res):=by
 unfold d_q at hm;refine goG func185 z z z λfn hr=>Ws<|EvX (vR x1 AB NB CB AA NA CA AC NC CC AD ND CD) z z z λwb _ a1=>Rw z<|Wq<|bdB hm λuu huv hmw=>Wt (λa w=>∃xc,xc=uu/\Sat 67 [(12,vB xc)] a/\Below wb.z wb w) ?_ ?_
 .refine Wg<|RM z z<|bdB huv λue huf hmx=>e_q 18 ue 4 ?_ ?_
  .rcases bs x2 with a0 | a0
   .iterate 3 refine Nh z a0 ?_
    exact R z (pT z a0 z)<|WLq 4 (ifT huf a0) z z z
   exact Rh z a0 (fd a_V z)<|Rh z a0 (l0 g_3 z<|a1.at z)<|Rh z a0 (eql z z)<|R z (pF z a0 z)<|WLq 4 (ifF huf a0) z z z
  refine Rm z<|bdB hmx λug huh hmy=>e_q 27 ug 8 ?_ ?_
  .rcases bs ue with H | H
   .have hmi:=ifT huh H;refine Rh z H (mv z)<|Rh z H (mv z) ?_;rcases bs x3 with V | V
    .iterate 4 refine Nh z V ?_
     exact Rh z H (pT z V z)<|R z (pT z H z)<|WLq 8 (ifT hmi V) z z z
    exact Rh z V (fd b_F z)<|Rh z V (l0 B_ z<|a1.at z)<|Rh z V (lnR h_ z kR)<|Rh z V (eql z z)<|Rh z H (pF z V z)<|R z (pT z H z)<|WLq 8 (ifF hmi V) z z z
   exact Nh z H<|Nh z H<|Nv z<|Nv z<|Nv z<|Nv z<|Nh z H<|R z (pF z H z)<|WLq 8 (ifF huh H) z z z
  refine Rm z<|bdB hmy λuj huk hmz=>e_q 36 uj 8 ?_ ?_
  .rcases bs ug with I | I
   .have hml:=ifT huk I;refine Rh z I (mv z)<|Rh z I (mv z) ?_;rcases bs x4 with W | W
    .iterate 4 refine Nh z W ?_
     exact Rh z I (pT z W z)<|R z (pT z I z)<|WLq 8 (ifT hml W) z z z
    exact Rh z W (fd c_r z)<|Rh z W (l0 a_A z<|a1.at z)<|Rh z W (lnR z_ z kR)<|Rh z W (eql z z)<|Rh z I (pF z W z)<|R z (pT z I z)<|WLq 8 (ifF hml W) z z z
   exact Nh z I<|Nh z I<|Nv z<|Nv z<|Nv z<|Nv z<|Nh z I<|R z (pF z I z)<|WLq 8 (ifF huk I) z z z
  refine Rm z<|bdB hmz λum hun a2=>e_q 45 um 8 ?_ ?_
  .rcases bs uj with J | J
   .have hmo:=ifT hun J;refine Rh z J (mv z)<|Rh z J (mv z) ?_;rcases bs x5 with Y | Y
    .iterate 4 refine Nh z Y ?_
     exact Rh z J (pT z Y z)<|R z (pT z J z)<|WLq 8 (ifT hmo Y) z z z
    exact Rh z Y (fd b_G z)<|Rh z Y (l0 A_ z<|a1.at z)<|Rh z Y (lnR v_ z kR)<|Rh z Y (eql z z)<|Rh z J (pF z Y z)<|R z (pT z J z)<|WLq 8 (ifF hmo Y) z z z
   exact Nh z J<|Nh z J<|Nv z<|Nv z<|Nv z<|Nv z<|Nh z J<|R z (pF z J z)<|WLq 8 (ifF hun J) z z z
  refine Rm z<|bdB a2 λup huq hmr=>e_q 56 up 10 ?_ ?_
  .rcases bs um with L | L
   .have hms:=ifT huq L;refine Rh z L (mv z)<|Rh z L (lss z z)<|Rh z L (mv z) ?_;rcases bs (decide<|x6<0) with O | O
    .iterate 5 refine Nh z O ?_
     exact Rh z L (pT z O z)<|R z (pT z L z)<|WLq 10 (ifT hms O) z z z
    exact Rh z O (fd Q_ z)<|Rh z O (l0 A_ z<|a1.at z)<|Rh z O (lnR v_ z kR)<|Rh z O (mv z)<|Rh z O (eql z z)<|Rh z L (pF z O z)<|R z (pT z L z)<|WLq 10 (ifF hms O) z z z
   iterate 3 refine Nh z L ?_
   exact Nv z<|Nv z<|Nv z<|Nv z<|Nv z<|Nh z L<|R z (pF z L z)<|WLq 10 (ifF huq L) z z z
  refine Rm z ?_;rcases bs up with G | G
  .have hmt:=ifT hmr G;refine Rh z G (fd e_k z)<|Rh z G (l0 g_4 z<|a1.at z)<|Rh z G (not_ z)<|Rh z G (mv z) ?_;rcases bs (!x1.little) with hca | hca
   .iterate 3 refine Nh z hca ?_
    exact Rh z G (pT z hca z)<|R z (pT z G z)<|Ra z<|Wl (λ_ q=>⟨true,som<|ifT hmt hca,kaA q,br wb⟩)
   exact Rh z hca (fd a_r z)<|Rh z hca (l0 g_3 z<|a1.at z)<|Rh z hca (eql z z)<|Rh z G (pF z hca z)<|R z (pT z G z)<|Ra z<|Wl (λ_ q=>⟨x1.kind==1,som<|ifF hmt hca,kaA q,br wb⟩)
  iterate 4 refine Nh z G ?_
  exact Nv z<|Nv z<|Nv z<|Nh z G<|R z (pF z G z)<|Ra z<|Wl (λ_ q=>⟨false,som<|ifF hmr G,kaA q,br wb⟩)
 rintro a3 _ ⟨xc,rfl,_,_⟩;revert a3;exact Wo<|Wr<|rS1 hmw hr z ⟨kW,z⟩
theorem l_6 {x1:d_}{x2:Int}{res:Int}(hm:f_l x1 x2=some res)(a1:B<=w0.z)(a0:rp w0 B A0 N0 C0 x1.rules)(W:inI x2):g_ prog 186 [(.agg #[sl A0 N0 C0]),vI x2] w0 (Q0 w0 B res):=by
 unfold f_l at hm;refine goG func186 z z z λfn hr=>Ws<|EvX [sl A0 N0 C0] z z z λV _ Y=>Rw z<|Wq<|Wq<|bdB hm λua hub J=>Wt (λa w=>∃x3,x3=ua/\Sat 39 [(1,vI x2),(2,pt w0.z),(30,vB x3)] a/\Below V.z V w) ?_ ?_
 .refine Wg<|Rm z<|Rf z a_l z<|R z (l0 a_p z<|Y.at z)<|R z (lnR Y_ z kR)<|R z (sb_ z z)<|bdB hub λrc ed L=>EcA z (fc call51 z<|b_k (B:=B) ed kM W (ii z)<|iS _ _) λ_ s8=>R z (not_ z)<|Rm z ?_;rcases bs (!rc) with H | H
  .iterate 7 refine Nh z H ?_
   exact R z (pT z H z)<|Rm z<|Nh z z<|Nh z z<|Nh z z<|Nh z z<|Nh z z<|Nh z z<|Nh z z<|Nh z z<|R z (pT z z z)<|Wl (λ_ q=>⟨true,som<|ifT L H,kaA q,s8⟩)
  refine Rh z H (fd a_l z)<|Rh z H (l0 a_p z kBa)<|Rh z H (mv z)<|bdB (ifF L H) λxe ef O=>RXg z z H z (at_ (α:=f_) Y_ l_ z z z kR ef) ?_;rintro _ ⟨_,_,_,rfl,hg,hh,_⟩;obtain ⟨_,_,_,_,_,_,_,_,_,_,_,_,rfl,_,_,_,_,_,_,_⟩:=a_T hh;refine Rh z H (fd a_r z)<|Rh z H (l0 g_3 z<|hg.at (j:=1) z)<|Rh z H (nq z z)<|R z (pF z H z)<|Rm z ?_;rcases bs (xe.kind != 1) with G | G
  .iterate 8 refine Nh z G ?_
   exact R z (pT z G z)<|Wl (λ_ q=>⟨true,som<|ifT O G,kaA q,s8⟩)
  refine Rh z G (fd a_l z)<|Rh z G (l0 a_p z kBa)<|Rh z G (mv z)<|bdB (ifF O G) λ_ ei hmj=>RXg z z G z (at_ (α:=f_) Y_ l_ z z z kR ei) ?_;rintro _ ⟨_,_,_,rfl,hk,hl,_⟩;obtain ⟨_,_,_,_,_,_,_,_,_,_,_,_,rfl,_,_,hn,_,_,_,_⟩:=a_T hl;refine Rh z G (fd a_V z)<|Rh z G (l0 g_3 z<|hk.at (j:=2) z)<|bdB hmj λrm eo hmp=>Eg z z G z (fc call51 z<|b_k (B:=B) eo kM hn (ii z)<|ii z) ?_;rintro _ _ ⟨_,rfl⟩;exact Rh z G (not_ z)<|R z (pF z G z)<|Wl (λ_ q=>⟨!rm,som hmp,kaA q,kW⟩)
 rintro aq _ ⟨x3,rfl,_,_⟩;revert aq;refine Wo<|Wc z (λI=>?_) (λI=>?_)
 .exact Ws<|Rw z<|Wr<|rS1 (ifT J I) hr z ⟨kW,z,ii z⟩
 refine Wk<|Ws<|Rf z a_l z<|R z (l0 a_p z kBa)<|Rm z<|bdB (ifF J I) λ_ er hms=>xA (α:=f_) z Y_ l_ z z z kR er λ_ _ _ ht hu _=>?_;obtain ⟨_,_,_,_,_,_,_,_,_,_,_,_,rfl,_,_,hv,_,_,_,_⟩:=a_T hu;refine Rf z a_V z<|R z (l0 g_3 z<|ht.at (j:=2) z)<|bdB hms λ_ ew hmx=>E z (fc call191 z<|o_T (B:=B) ew kM hv) ?_;rintro _ _ ⟨_,rfl,_⟩;exact R z (sb_ z z)<|Rw z<|Wr<|rS1 hmx hr z ⟨kW,z,iS _ _⟩
theorem W_w3d {x1:List Str}{x2:Str}{res:Bool}(hm:j_P x1 x2=some res)(a1:B<=w0.z)(L:rp w0 B A0 N0 C0 x1)(a0:x2.b.length<=LEN):g_ prog 210 [sl A0 N0 C0,Str.v x2] w0 (Q11 w0 B res):=by
 unfold j_P at hm;refine goG func210 z z z λfn hr=>Ws<|Rw z<|Wq<|Ws<|Rw z<|bdB hm λ_ O H=>Wf (σ:=Unit) (ρ:=Bool) (λ(k2:Nat)(_:Unit) a w=>Sat 18 [(0,sl A0 N0 C0),(1,Str.v x2),(5,vI ((k2:Nat):Int))] a/\Below w0.z w0 w) (λ(_:Unit) a w=>Sat 18 [] a/\Below w0.z w0 w) (rQ prog fn<|Q11 w0 B) O ?_ ?_ ?_ ?_ ?_
 .exact λ_ q=>⟨kaA q,br w0⟩
 .rintro k2 _ _ _ _ I ⟨V,s4⟩ W;refine Wu ?_ V;refine Wq<|Wm z<|Rm z<|R z (lnR z_ z kR)<|Rl z z z<|Wx z (λ_=>?_) (λhc=>(J_ I hc).elim);refine Wk<|Wq<|Wb<|Wm z<|Rm z<|bdB W λ_ Y J=>xA (α:=Str) z z_ z_9 z z z kR Y λ_ _ _ ha hb _=>?_;obtain ⟨rfl,_⟩:=a_e hb;refine R z (l0 g_9 z<|ha.at0 z)<|Rm z<|R z (a_Q z z)<|Wx z (λG=>?_) (λG=>?_)
  .exact Ws<|Rw z<|Wr<|rtO<|qL (som<|ifT J G).symm<|a_s hr z ⟨s4,z⟩
  exact Wk<|Wg<|Rm z<|R z (inc_ I (lt_ (repS.len L) u_) z z)<|Ra z<|Wl (λ_ q=>⟨(),(som<|ifF J G).symm,⟨kaA q,s4⟩⟩)
 .rintro _ _ _ ⟨hSc,sd⟩;refine Wu ?_ hSc;refine Wq<|Wm z<|Rm z<|R z (lnR z_ z kR)<|Rl z z z<|Wx z (λhc=>(K_ hc).elim) (λ_=>?_);exact We<|λ_ q=>⟨rfl,⟨q.k sn,sd⟩⟩
 .rintro _ ae _ rfl ⟨_,sf⟩;have hmg:=elL H;revert ae;exact Wo<|Ws<|Rw z<|Wr<|rS1 hmg hr z ⟨sf,z⟩
 exact lqA H λ_ _ h=>h.2
theorem W_w3e {x1:List Str}{res:Bool}(hm:j_Q x1=some res)(a5:B<=w0.z)(W:rp w0 B A0 N0 C0 x1):g_ prog 187 [sl A0 N0 C0] w0 (Q11 w0 B res):=by
 unfold j_Q at hm;refine goG func187 z z z λfn hr=>Ws<|Rw z<|Wq<|Ws<|Rw z<|bdB hm λ_ a3 I=>Wf (σ:=Unit) (ρ:=Bool) (λ(k1:Nat)(_:Unit) a w=>Sat 29 [(0,sl A0 N0 C0),(3,vI ((k1:Nat):Int))] a/\Below w0.z w0 w) (λ(_:Unit) a w=>Sat 29 [(0,sl A0 N0 C0)] a/\Below w0.z w0 w) (rQ prog fn<|Q11 w0 B) a3 ?_ ?_ ?_ ?_ ?_
 .exact λ_ q=>⟨kaA q,br w0⟩
 .rintro k1 _ _ V _ J ⟨hSa,_⟩ hmb;refine Wu ?_ hSa;refine Wq<|Wm z<|Rm z<|R z (lnR z_ z kR)<|Rl z z z<|Wx z (λ_=>?_) (λhc=>(J_ J hc).elim);refine Wk<|Wq<|Wb<|Wq<|bdB hmb λuc hud L=>Wt (λa w=>∃x2,x2=uc/\Sat 29 [(0,sl A0 N0 C0),(3,vI ((k1:Nat):Int)),(25,vB x2)] a/\Below V.z V w) ?_ ?_
  .refine Wd (X:=noX) 0 (pl_ 16 [4,14]) mo (by kernel_rfl) λa6 a7 _=>dM z z z<|dM z z z<|bdB hud λ_ ee hmf=>dxA (α:=Str) z z z_ z_9 z z z kR ee λ_ _ _ hg hh _=>?_;obtain ⟨rfl,hi⟩:=a_e hh;refine dR z z (l0 g_9 z<|hg.at0 z)<|bdB hmf λrj ek O=>dE z z (fc call134 z<|m_W (B:=B) ek kM hi) iB ?_;rintro _ _ ⟨_,rfl⟩;refine dR z z (not_ z)<|dM z z z ?_;rcases bs (!rj) with G | G
   .iterate 7 refine dRn z z z G z ?_
    exact dEn z z z G z<|dR z z (pT z G z)<|pD (λ_ q=>⟨true,som<|ifT O G,kaA q,kW⟩)
   refine dRg z z z G z (mv z)<|dRg z z z G z (mv z)<|bdB (ifF O G) λ_ el hmm=>a_G z z z G z (rX z_ z_9 z z kR z z el) ?_;rintro _ ⟨_,_,_,rfl,hn⟩;refine dRg z z z G z (mv z)<|dRg z z z G z (mv z)<|bdB hmm λ_ eo hmp=>a_G z z z G z (at_ (α:=Str) z_ z_9 z z z kR eo) ?_;rintro _ ⟨_,_,_,rfl,hq,ht,_⟩;obtain ⟨rfl,hu⟩:=a_e ht;refine dRg z z z G z (l0 g_9 z<|hq.at0 z)<|bdB hmp λrr es hmv=>dEg z z z G z (fc call210 z<|W_w3d (B:=B) es kM hn hu) iB ?_;rintro _ _ ⟨_,rfl⟩;exact dR z z (pF z G z)<|pD (λ_ q=>⟨rr,som hmv,kaA q,kW⟩)
  rintro aw _ ⟨x2,rfl,_,_⟩;revert aw;refine Wo<|Wc z (λH=>?_) (λH=>?_)
  .exact Ws<|Rw z<|Wr<|rtO<|qL (som<|ifT L H).symm<|a_s hr z ⟨kW,z⟩
  exact Wk<|Wg<|Rm z<|R z (inc_ J (lt_ (repS.len W) u_) z z)<|Ra z<|Wl (λ_ q=>⟨(),(som<|ifF L H).symm,⟨kaA q,kW⟩⟩)
 .rintro _ _ _ ⟨hSx,sy⟩;refine Wu ?_ hSx;refine Wq<|Wm z<|Rm z<|R z (lnR z_ z kR)<|Rl z z z<|Wx z (λhc=>(K_ hc).elim) (λ_=>?_);exact We<|λ_ q=>⟨rfl,⟨kaA q,sy⟩⟩
 .rintro _ az _ rfl ⟨_,_⟩;have Y:=elL I;revert az;exact Wo<|Wm z<|R z (lnR z_ z kR)<|bdB Y λ_ a4 a0=>EcA z (fc call51 z<|b_k (B:=B) a4 kM (c_3<|repS.len kR) (ii z)<|ii z) λ_ _=>Rw z<|Wr<|rS1 a0 hr z ⟨kW,z⟩
 exact lqA I λ_ _ h=>h.2
theorem W_w3f {x1:d_}{x2:f_}{res:Bool}(hm:j_R x1 x2=some res)(aG:B<=w0.z)(az:rp w0 B A0 N0 C0 x1.rules)(aA:x2.name.b.length<=LEN)(aB:inI x2.kind)(aC:inI x2.size)(aD:rp w0 B A4 N4 C4 x2.bytes)(aE:rp w0 B A5 N5 C5 x2.names)(a0:rp w0 B A3 N3 C3 x2.tags)(aF:rp w0 B A6 N6 C6 x2.kids):g_ prog 188 [(.agg #[sl A0 N0 C0]),(.agg #[Str.v x2.name,vI x2.kind,vI x2.size,vB x2.little,sl A4 N4 C4,sl A5 N5 C5,sl A3 N3 C3,sl A6 N6 C6])] w0 (Q11 w0 B res):=by
 unfold j_R at hm;refine goG func188 z z z λfn hr=>Ws<|EvX [sl A0 N0 C0] z z z λV _ _=>EvX (vR x2 A4 N4 C4 A5 N5 C5 A3 N3 C3 A6 N6 C6) z z z λW _ L=>Rw z<|Wq<|Wq<|bdB hm λul huc hme=>Wt (λa w=>∃Y,Y=ul/\Sat 59 [(2,pt w0.z),(3,pt V.z),(20,vB Y)] a/\Below W.z W w) ?_ ?_
 .refine Wg<|Rf z Q_ z<|R z (l0 A_ z<|L.at z)<|R z (lnR v_ z kR)<|Rf z b_G z<|R z (l0 A_ z<|L.at z)<|R z (lnR v_ z kR)<|R z (add_ z z)<|R z (nq z z)<|Rm z ?_;rcases bs ((x2.kids.length:Int) != (e_ (x2.tags.length:Int) 1)) with I | I
  .iterate 5 refine Nh z I ?_
   exact R z (pT z I z)<|Wl (λ_ q=>⟨true,som<|ifT huc I,kaA q,br W⟩)
  refine Rh z I (fd b_G z)<|Rh z I (l0 A_ z<|L.at z)<|Rh z I (lnR v_ z kR)<|bdB (ifF huc I) λrm en hmo=>Eg z z I z (fc call51 z<|b_k (B:=B) en kM (c_3<|repS.len kR) (ii z)<|ii z) ?_;rintro _ _ ⟨sp,rfl⟩;exact Rh z I (not_ z)<|R z (pF z I z)<|Wl (λ_ q=>⟨!rm,som hmo,kaA q,sp⟩)
 rintro aq J ⟨Y,rfl,_,_⟩;revert aq;refine Wo<|Wc z (λO=>?_) (λO=>?_)
 .exact Ws<|Rw z<|Wr<|rS1 (ifT hme O) hr z ⟨kW,z⟩
 refine Wk<|Wq<|Ws<|Rw z<|bdB (ifF hme O) λ_ hur hmf=>Wf (σ:=Unit) (ρ:=Bool) (λ(k6:Nat)(_:Unit) a w=>Sat 59 [(2,pt w0.z),(3,pt V.z),(5,vI ((k6:Nat):Int))] a/\Below J.z J w) (λ(_:Unit) a w=>Sat 59 [] a/\Below J.z J w) (rQ prog fn<|Q11 w0 B) hur ?_ ?_ ?_ ?_ ?_
 .exact λ_ q=>⟨kaA q,br J⟩
 .rintro k6 _ _ wg _ hkh ⟨hSs,_⟩ hmt;refine Wu ?_ hSs;refine Wq<|Wm z<|Rf z b_G z<|R z (l0 A_ z kBa)<|R z (lnR v_ z kR)<|Rl z z z<|Wx z (λ_=>?_) (λhc=>(J_ hkh hc).elim);refine Wk<|Wq<|Wb<|Wq<|bdB hmt λuu huv hmi=>Wt (λa w=>∃x9,x9=uu/\Sat 59 [(2,pt w0.z),(3,pt V.z),(5,vI ((k6:Nat):Int)),(58,vB x9)] a/\Below wg.z wg w) ?_ ?_
  .refine Wd (X:=noX) 0 (pl_ 31 [10,11]) mo (by kernel_rfl) λaH aI _=>dR z z (fd b_G z)<|dR z z (l0 A_ z kBa)<|dM z z z<|bdB huv λ_ ew hmx=>dxA (α:=Int) z z v_ z_3 z z z kR ew λ_ _ _ hy hz _=>?_;obtain ⟨rfl,a9⟩:=a_z hz;refine dR z z (l0 g_3 z<|hy.at0 z)<|dR z z (lC [sl A0 N0 C0] s_ n_ z)<|dR z z (fd Q_ z)<|dR z z (l0 A_ z kBa)<|bdB hmx λ_ aa a1=>dxA (α:=Int) z z v_ z_3 z z z kR aa λ_ _ _ ab ad _=>?_;obtain ⟨rfl,ae⟩:=a_z ad;refine dR z z (l0 g_3 z<|ab.at0 z)<|bdB a1 λ_ af a2=>dE z z (fc call186 z<|l_6 (B:=B) af kM kR ae) iB ?_;rintro _ _ ⟨_,rfl,ah⟩;refine bdB a2 λai aj hmj=>dE z z (fc call51 z<|b_k (B:=B) aj kM a9 (ii z) ah) iB ?_;rintro _ _ ⟨_,rfl⟩;refine dR z z (not_ z)<|dM z z z ?_;rcases bs (!ai) with H | H
   .iterate 3 refine dRn z z z H z ?_
    iterate 12 refine dRu z z z z ?_
    exact dRn z z z H z<|dR z z (pT z H z)<|pD (λ_ q=>⟨true,som<|ifT hmj H,kaA q,kW⟩)
   have hmk:=ifF hmj H;refine dRg z z z H z (mv z)<|dRg z z z H z (T_ z z)<|dRg z z z H z (mv z) ?_;rcases bs (decide<|0<((k6:Nat):Int)) with G | G
   .refine dRg z z z G z (fd b_G z)<|dRg z z z G z (l0 A_ z kBa)<|dRg z z z G z (mv z)<|dRg z z z G z (sb_ z z)<|bdB (ifT hmk G) λak al a3=>a_G z z z G z (at_ (α:=Int) v_ z_3 z z z kR al) ?_;rintro _ ⟨_,_,_,rfl,am,an,_⟩;obtain ⟨rfl,_⟩:=a_z an;refine dRg z z z G z (l0 g_3 z<|am.at0 z)<|dRg z z z G z (fd b_G z)<|dRg z z z G z (l0 A_ z kBa)<|dRg z z z G z (mv z)<|bdB a3 λap ar a4=>a_G z z z G z (at_ (α:=Int) v_ z_3 z z z kR ar) ?_;rintro _ ⟨_,_,_,rfl,au,av,_⟩;obtain ⟨rfl,_⟩:=a_z av;exact dRg z z z G z (l0 g_3 z<|au.at0 z)<|dRg z z z G z (b_u z z)<|dRg z z z H z (pT z G z)<|dR z z (pF z H z)<|pD (λ_ q=>⟨decide<|ap<=ak,som a4,kaA q,kW⟩)
   iterate 12 refine dRn z z z G z ?_
   exact dRg z z z H z (pF z G z)<|dR z z (pF z H z)<|pD (λ_ q=>⟨false,som<|ifF hmk G,kaA q,kW⟩)
  rintro aw _ ⟨x9,rfl,_,_⟩;revert aw;refine Wo<|Wc z (λhca=>?_) (λhca=>?_)
  .exact Ws<|Rw z<|Wr<|rtO<|qL (som<|ifT hmi hca).symm<|a_s hr z ⟨kW,z⟩
  exact Wk<|Wg<|Rm z<|R z (inc_ hkh (lt_ (repS.len a0) u_) z z)<|Ra z<|Wl (λ_ q=>⟨(),(som<|ifF hmi hca).symm,⟨kaA q,kW⟩⟩)
 .rintro _ _ _ ⟨a5,ax⟩;refine Wu ?_ a5;refine Wq<|Wm z<|Rf z b_G z<|R z (l0 A_ z kBa)<|R z (lnR v_ z kR)<|Rl z z z<|Wx z (λhc=>(K_ hc).elim) (λ_=>?_);exact We<|λ_ q=>⟨rfl,⟨q.k sn,ax⟩⟩
 .rintro _ ay _ rfl ⟨_,_⟩;have a6:=elL hmf;revert ay;exact Wo<|Ws<|Rw z<|Wr<|rS1 a6 hr z ⟨kW,z⟩
 exact lqA hmf λ_ _ h=>h.2
end Go.Vw
