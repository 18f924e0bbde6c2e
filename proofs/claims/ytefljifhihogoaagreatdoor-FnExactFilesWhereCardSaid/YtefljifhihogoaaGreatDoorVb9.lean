
import Derived.Test.YtefljifhihogoaaGreatDoorVb8
set_option linter.unusedVariables false
namespace Go.Vw
open Go.RowKit Dat Go.Proofs
set_option maxHeartbeats 4000000
set_option maxRecDepth 4000
open Go.Proofs.Tryz
open Go.Vw renaming a_a->Wq,a_B->Wg,WC.of_KC->Wo,a_d->Wl,c_b->Wc,c_F->Wr,f_9->Wu,g_Z->pT,h_0->pF,f_W->fd,b_J->l1,f_X->lN,b_8->mv,c_L->asg,f_3->lnR,e_y->lss,g_0->eql,f_Y->ext_,f_R->bP,f_Z->add_,f_1->inc_,d_f->not_,e_1->at_,d_X->fc,a_U->fs,d_x->fb,c_H->fa,c_u->sr,f_P->cr,f_Q->cM,c_d->bM,g_R->iS,g_Q->iA,f_0->br,b_1->oA,g_W->bs,f_J->lg,f_K->io,f_b->nq,h_8->lnT,h_9->sb_,g_Y->ar_,g_X->al_,b_N->ds,h_v->m1,f_N->nr_,f_M->nl_,e_0->aa_,all_nil->an_,c_S->Wb,f_I->u8,g_N->pD,e_X->We,g_T->Wt,e_Z->fS,e_o->or_,h_7->Wf,h_4->qL,g_M->Wd,f_S->fN,f_L->na_,f_O->nj,e_3->f0,f_4->rX,h_1->tl_,h_2->ic
variable {A0:Option Addr}{N0 C0:Nat}{B:Zone}{w0:World}{AB:Option Addr}{AA:Option Addr}{AC:Option Addr}{AD:Option Addr}{NB CB:Nat}{NA CA:Nat}{NC CC:Nat}{ND CD:Nat}{A1:Option Addr}{N1 C1:Nat}{n:Nat}{AG:Option Addr}{NG CG:Nat}{A2:Option Addr}{N2 C2:Nat}{AJ:Option Addr}{NJ CJ:Nat}{A4:Option Addr}{A5:Option Addr}{A3:Option Addr}{A6:Option Addr}{N4 C4:Nat}{N5 C5:Nat}{N3 C3:Nat}{N6 C6:Nat}{A7:Option Addr}{N7 C7:Nat}{A8:Option Addr}{A9:Option Addr}{N8 C8:Nat}{N9 C9:Nat}{AF:Option Addr}{NF CF:Nat}{AE:Option Addr}{NE CE:Nat}
theorem W_w47 {x1:d_}{x2:Int}{res:Bool}(hm:k_6 n x1 x2=some res)(bp:B<=w0.z)(bn:rp w0 B A0 N0 C0 x1.rules)(aw:inI x2):g_ prog 162 [(.agg #[sl A0 N0 C0]),vI x2] w0 (Q11 w0 B res):=by
 unfold k_6 at hm;refine goG func162 z z z λfn hr=>Ws<|EvX [sl A0 N0 C0] z z z λbq _ bo=>Rw z<|Wq<|Ws<|R z (lC [sl A0 N0 C0] s_ n_ z)<|Rm z<|bdB hm λ_ aR hms=>EcA z (fc call108 z<|p_6 (B:=B) aR kM kR aw) λJ _=>R z (not_ z)<|Wx z (λhcb=>?_) (λhcb=>?_)
 .exact Ws<|Rw z<|Wr<|rS1 (ifT hms hcb) hr z ⟨kW,z⟩
 refine Wk<|Ws<|Rf z a_l z<|R z (l0 a_p z kBa)<|Rm z<|bdB (ifF hms hcb) λx4 aS ax=>xA (α:=f_) z Y_ l_ z z z kR aS λ_ _ _ aT aU _=>?_;obtain ⟨ac,nd,ce,af,ng,ch,ai,nj,ck,L,O,V,rfl,hu,aV,aW,_,_,_,aX⟩:=a_T aU;refine R z (lN (vs:=vR x4 ac nd ce af ng ch ai nj ck L O V) G_ l_ z z fid aT)<|EvZ [(Str.v (⟨[]⟩:Str)),vI 0,vI 0,vB false,sN,sN,sN,sN] z c_t z λbt _ ay=>E0q (vR x4 ac nd ce af ng ch ai nj ck L O V) l_ z z ay z λww aY _=>Wn<|Wq<|Wq<|bdB ax λaZ az hmx=>Wt (λa w=>∃xl,xl=aZ/\Sat 65 [(1,vI x2),(2,pt w0.z),(5,pt J.z),(31,vB xl)] a/\Below ww.z ww w) ?_ ?_
 .refine Wg<|Rf z e_P z<|R z (l0 g_9 z<|aY.at z)<|bdB az λb0 b1 hmy=>EcA z (fc call195 z<|n_0 (B:=B) b1 kM hu) λ_ sm=>R z (not_ z)<|Rm z ?_;rcases bs (!b0) with G | G
  .iterate 3 refine Nh z G ?_
   exact Nv z<|Nv z<|Nv z<|Nh z G<|R z (pT z G z)<|Wl (λ_ q=>⟨true,som<|ifT hmy G,kaA q,sm⟩)
  have hmz:=ifF hmy G;refine Rh z G (fd e_k z)<|Rh z G (l0 g_4 z kBa)<|Rh z G (mv z) ?_;rcases bs x4.little with H | H
  .exact Rh z H (fd a_r z)<|Rh z H (l0 g_3 z kBa)<|Rh z H (nq z z)<|Rh z G (pT z H z)<|R z (pF z G z)<|Wl (λ_ q=>⟨x4.kind != 1,som<|ifT hmz H,kaA q,sm⟩)
  iterate 3 refine Nh z H ?_
  exact Rh z G (pF z H z)<|R z (pF z G z)<|Wl (λ_ q=>⟨false,som<|ifF hmz H,kaA q,sm⟩)
 rintro b2 W ⟨xl,rfl,_,_⟩;revert b2;refine Wo<|Wc z (λhcn=>?_) (λhcn=>?_)
 .exact Ws<|Rw z<|Wr<|rS1 (ifT hmx hcn) hr z ⟨kW,z⟩
 refine Wk<|Wq<|Ws<|Rf z a_l z<|R z (l0 a_p z kBa)<|Rm z<|bdB (ifF hmx hcn) λb3 b4 aA=>RX z (rX Y_ l_ z z kR z z b4) ?_;rintro _ ⟨b5,b6,b7,rfl,a8⟩;refine R z (lnR Y_ z a8)<|Rm z<|Wn<|bdB aA λ_ aB a0=>Wf (σ:=Unit) (ρ:=Bool) (λ(a9:Nat)(_:Unit) a w=>Sat 65 [(1,vI x2),(2,pt w0.z),(5,pt J.z),(35,sl b5 b6 b7),(36,vI (b3.length:Int)),(37,vI ((a9:Nat):Int))] a/\Below W.z W w) (λ(_:Unit) a w=>Sat 65 [(1,vI x2),(2,pt w0.z),(5,pt J.z)] a/\Below W.z W w) (rQ prog fn<|Q11 w0 B) aB ?_ ?_ ?_ ?_ ?_
 .exact λ_ q=>⟨kaA q,br W⟩
 .rintro a9 _ _ _ _ a1 ⟨aC,_⟩ aD;refine Wu ?_ aC;refine Ws<|Rl z z z<|Wn<|Wq<|Wc z (λ_=>?_) (λhc=>(J_ a1 hc).elim);refine Wk<|Wq<|Wb<|Ws<|bdB aD λaa b8 a2=>xA (α:=f_) z Y_ l_ z z z kR b8 λ_ _ _ b9 ba _=>?_;obtain ⟨ab,ad,ae,ah,aj,ak,al,am,an,ap,aq,ar,rfl,_,_,_,_,_,_,_⟩:=a_T ba;refine R z (lN (vs:=vR aa ab ad ae ah aj ak al am an ap aq ar) G_ l_ z z fid b9)<|EvZ [(Str.v (⟨[]⟩:Str)),vI 0,vI 0,vB false,sN,sN,sN,sN] z c_t z λbu _ av=>E0q (vR aa ab ad ae ah aj ak al am an ap aq ar) l_ z z av z λbv bb _=>Wn<|Ws<|Rf z e_P z<|R z (l0 g_9 z<|bb.at z)<|Rf z e_P z<|R z (l0 g_9 z kBa)<|R z (a_Q z z)<|Wx z (λhco=>?_) (λhco=>?_)
  .exact Ws<|Rw z<|Wr<|rtO<|qL (som<|ifT a2 hco).symm<|a_s hr z ⟨kW,z⟩
  exact Wk<|Wg<|R z (inc_ a1 (lt_ (repS.len a8) u_) z z)<|Rm z<|Wl (λ_ q=>⟨(),(som<|ifF a2 hco).symm,⟨kaA q,kW⟩⟩)
 .rintro _ _ _ ⟨aE,bc⟩;refine Wu ?_ aE;refine Ws<|Rl z z z<|Wn<|Wq<|Wc z (λhc=>(K_ hc).elim) (λ_=>?_);exact We<|λ_ q=>⟨rfl,⟨kaA q,bc⟩⟩
 .rintro _ be Y rfl ⟨_,_⟩;have aF:=elL a0;revert be;refine Wo<|Wq<|Ws<|Rf z Q_ z<|R z (l0 A_ z kBa)<|R z (lnR v_ z kR)<|Rm z<|Wn<|bdB aF λ_ aG a3=>Wf (σ:=Unit) (ρ:=Bool) (λ(kp:Nat)(_:Unit) a w=>Sat 65 [(1,vI x2),(2,pt w0.z),(5,pt J.z),(48,sl L O V),(49,vI (x4.kids.length:Int)),(50,vI ((kp:Nat):Int))] a/\Below Y.z Y w) (λ(_:Unit) a w=>Sat 65 [(2,pt w0.z),(5,pt J.z)] a/\Below Y.z Y w) (rQ prog fn<|Q11 w0 B) aG ?_ ?_ ?_ ?_ ?_
  .exact λ_ q=>⟨kaA q,br Y⟩
  .rintro kp _ _ wa _ a4 ⟨aH,_⟩ aI;refine Wu ?_ aH;refine Ws<|Rl z z z<|Wn<|Wq<|Wc z (λ_=>?_) (λhc=>(J_ a4 hc).elim);refine Wk<|Wq<|Wb<|Ws<|bdB aI λau bf aJ=>xI z v_ z_3 z z z kR bf λ_ _ bg _=>R z (l0 g_3 z<|bg.at0 z)<|Rw z<|Wq<|bdB aJ λbh a6 a7=>Wt (λa w=>∃xq,xq=bh/\Sat 65 [(1,vI x2),(2,pt w0.z),(5,pt J.z),(48,sl L O V),(49,vI (x4.kids.length:Int)),(50,vI ((kp:Nat):Int)),(60,vB xq)] a/\Below wa.z wa w) ?_ ?_
   .refine Wg<|Rm z<|Rl z z z<|Rm z ?_;rcases bs (decide<|au<0) with I | I
    .iterate 3 refine Nh z I ?_
     exact R z (pT z I z)<|Wl (λ_ q=>⟨true,som<|ifT a6 I,kaA q,br wa⟩)
    exact Rh z I (mv z)<|Rh z I (mv z)<|Rh z I (b_u z z)<|R z (pF z I z)<|Wl (λ_ q=>⟨decide<|x2<=au,som<|ifF a6 I,kaA q,br wa⟩)
   rintro bi _ ⟨xq,rfl,_,_⟩;revert bi;refine Wo<|Wc z (λhcr=>?_) (λhcr=>?_)
   .exact Ws<|Rw z<|Wr<|rtO<|qL (som<|ifT a7 hcr).symm<|a_s hr z ⟨kW,z⟩
   exact Wk<|Wg<|R z (inc_ a4 (lt_ (repS.len aX) u_) z z)<|Rm z<|Wl (λ_ q=>⟨(),(som<|ifF a7 hcr).symm,⟨kaA q,kW⟩⟩)
  .rintro _ _ _ ⟨aK,bj⟩;refine Wu ?_ aK;refine Ws<|Rl z z z<|Wn<|Wq<|Wc z (λhc=>(K_ hc).elim) (λ_=>?_);exact We<|λ_ q=>⟨rfl,⟨kaA q,bj⟩⟩
  .rintro _ bk _ rfl ⟨_,_⟩;have aL:=elL a3;revert bk;exact Wo<|Ws<|R z (lC [sl A0 N0 C0] s_ n_ z)<|R z (lN (vs:=vR x4 ac nd ce af ng ch ai nj ck L O V) G_ l_ z z fid<|kBr 0 8)<|bdB aL λ_ bm aM=>EcA z (fc call196 z<|W_w46 (B:=B) bm kM kR hu aV aW kR kR kR kR) λ_ _=>Rw z<|Wr<|rS1 aM hr z ⟨kW,z⟩
  exact lqA a3 λ_ _ h=>h.2
 exact lqA a0 λ_ _ h=>h.2
theorem W_w1t {x1:d_}{res:Bool}(hm:h_B n x1=some res)(a0:B<=w0.z)(L:rp w0 B A0 N0 C0 x1.rules):g_ prog 96 [(.agg #[sl A0 N0 C0])] w0 (Q11 w0 B res):=by
 unfold h_B at hm;refine goG func96 z z z λfn hr=>Ws<|EvX [sl A0 N0 C0] z z z λw9 _ Y=>Rw z<|Wq<|Ws<|Rf z a_l z<|R z (l0 a_p z<|Y.at z)<|R z (lnR Y_ z kR)<|bdB hm λ_ ea O=>EcA z (fc call161 z<|e_n (B:=B) ea kM (c_3<|repS.len kR) (ii z)<|ii z) λG _=>R z (not_ z)<|Wx z (λH=>?_) (λH=>?_)
 .exact Ws<|Rw z<|Wr<|rS1 (ifT O H) hr z ⟨kW,z⟩
 refine Wk<|Wq<|Ws<|Rf z a_l z<|R z (l0 a_p z kBa)<|R z (lnR Y_ z kR)<|Rm z<|Wn<|bdB (ifF O H) λ_ hub V=>Wf (σ:=Unit) (ρ:=Bool) (λ(k7:Nat)(_:Unit) a w=>Sat 20 [(1,pt w0.z),(11,vI (x1.rules.length:Int)),(12,vI ((k7:Nat):Int))] a/\Below G.z G w) (λ(_:Unit) a w=>Sat 20 [] a/\Below G.z G w) (rQ prog fn<|Q11 w0 B) hub ?_ ?_ ?_ ?_ ?_
 .exact λ_ q=>⟨kaA q,br G⟩
 .rintro k7 _ _ _ _ I ⟨hSc,_⟩ hmd;refine Wu ?_ hSc;refine Ws<|Rl z z z<|Wn<|Wq<|Wc z (λ_=>?_) (λhc=>(J_ I hc).elim);refine Wk<|Wq<|Wb<|Wm z<|Rw z<|Ws<|R z (lC [sl A0 N0 C0] s_ n_ z)<|Rm z<|bdB hmd λ_ ee W=>EcA z (fc call162 z<|W_w47 (B:=B) ee kM kR<|ic (QAO I)<|lt_ (repS.len L) u_) λ_ _=>R z (not_ z)<|Wx z (λJ=>?_) (λJ=>?_)
  .exact Ws<|Rw z<|Wr<|rtO<|qL (som<|ifT W J).symm<|a_s hr z ⟨kW,z⟩
  exact Wk<|Wg<|R z (inc_ I (lt_ (repS.len L) u_) z z)<|Rm z<|Wl (λ_ q=>⟨(),(som<|ifF W J).symm,⟨kaA q,kW⟩⟩)
 .rintro _ _ _ ⟨hSf,sg⟩;refine Wu ?_ hSf;refine Ws<|Rl z z z<|Wn<|Wq<|Wc z (λhc=>(K_ hc).elim) (λ_=>?_);exact We<|λ_ q=>⟨rfl,⟨q.k sn,sg⟩⟩
 .rintro _ ah _ rfl ⟨_,_⟩;have hmi:=elL V;revert ah;exact Wo<|Ws<|Rw z<|Wr<|rS1 hmi hr z ⟨kW,z⟩
 exact lqA V λ_ _ h=>h.2
theorem W_w48 {x1:a_9}{res:Bool}(hm:k_O n x1=some res)(a3:B<=w0.z)(a0:rp w0 B A0 N0 C0 x1.versions):g_ prog 62 [(.agg #[sl A0 N0 C0])] w0 (Q11 w0 B res):=by
 unfold k_O at hm;refine goG func62 z z z λfn hr=>Ws<|EvX [sl A0 N0 C0] z z z λG a1 O=>Rw z<|Wq<|Ws<|Rf z c_D z<|R z (l0 c_Q z<|O.at z)<|R z (lnR b_M z kR)<|R z (T_ z z)<|Wx z (λH=>?_) (λH=>?_)
 .exact Ws<|Rw z<|Wr<|rS1 (ifT hm H) hr z ⟨a1,z⟩
 refine Wk<|Wq<|Ws<|Rf z c_D z<|R z (l0 c_Q z<|O.at z)<|R z (lnR b_M z kR)<|Rm z<|Wn<|bdB (ifF hm H) λ_ huc V=>Wf (σ:=Unit) (ρ:=Bool) (λ(k8:Nat)(_:Unit) a w=>Sat 20 [(10,sl A0 N0 C0),(11,vI (x1.versions.length:Int)),(12,vI ((k8:Nat):Int))] a/\Below G.z G w) (λ(_:Unit) a w=>Sat 20 [] a/\Below G.z G w) (rQ prog fn<|Q11 w0 B) huc ?_ ?_ ?_ ?_ ?_
 .exact λ_ q=>⟨kaA q,br G⟩
 .rintro k8 _ _ _ _ W ⟨hSe,_⟩ hmf;refine Wu ?_ hSe;refine Ws<|Rl z z z<|Wn<|Wq<|Wc z (λ_=>?_) (λhc=>(J_ W hc).elim);refine Wk<|Wq<|Wb<|Ws<|bdB hmf λ_ eg hmh=>xA (α:=d_) z b_M n_ z z z kR eg λ_ _ _ hi hj _=>?_;obtain ⟨a2,J,L,rfl,_⟩:=e_s hj;refine R z (lN (vs:=[sl a2 J L]) s_ n_ z z fid hi)<|EvZ [sN] z o_Q z λwk _ Y=>E0q [sl a2 J L] n_ z z Y z λa4 hl _=>Wn<|Ws<|R z (lC [sl a2 J L] s_ n_ z)<|bdB hmh λ_ en hmb=>EcA z (fc call96 z<|W_w1t (B:=B) en kM kR) λ_ _=>R z (not_ z)<|Wx z (λI=>?_) (λI=>?_)
  .exact Ws<|Rw z<|Wr<|rtO<|qL (som<|ifT hmb I).symm<|a_s hr z ⟨kW,z⟩
  exact Wk<|Wg<|R z (inc_ W (lt_ (repS.len a0) u_) z z)<|Rm z<|Wl (λ_ q=>⟨(),(som<|ifF hmb I).symm,⟨kaA q,kW⟩⟩)
 .rintro _ _ _ ⟨hSo,sp⟩;refine Wu ?_ hSo;refine Ws<|Rl z z z<|Wn<|Wq<|Wc z (λhc=>(K_ hc).elim) (λ_=>?_);exact We<|λ_ q=>⟨rfl,⟨q.k sn,sp⟩⟩
 .rintro _ aq _ rfl ⟨_,_⟩;have hmr:=elL V;revert aq;exact Wo<|Ws<|Rw z<|Wr<|rS1 hmr hr z ⟨kW,z⟩
 exact lqA V λ_ _ h=>h.2
theorem W_w49 {x1:Bt}{res:Bt×Bool}(hm:k_P n x1=some res)(bD:B<=w0.z)(bC:rp w0 B A0 N0 C0 x1):g_ prog 163 [sl A0 N0 C0] w0 (Q12 w0 B res):=by
 unfold k_P at hm;refine goG func163 z z z λfn hr=>Ws<|Ra z<|Rw z<|Ws<|E z (f0 (α:=UInt8) M_) ?_;rintro _ wd ⟨aG,aH,aI,rfl,_,aJ⟩;refine Rw z<|Wq<|Ws<|Rw z ?_;obtain ⟨_,ah,hmz⟩:=bdS hm;refine b_6 (σ:=Bt×Int) (ρ:=Bt×Bool) (λs a w=>un2 (λxe x2=>∃H I J G,Sat 73 [(0,sl A0 N0 C0),(4,sl H I J),(5,vI x2)] a/\Cg [w0.z] wd w/\c_ w G (sl H I J) xe/\G.Nodup/\(∀k∈G,k∈[w0.z]∨wd.z<=k)/\inI x2) s) (λs a w=>un2 (λxe x2=>∃H I J G,Sat 73 [(4,sl H I J)] a/\Cg [w0.z] wd w/\c_ w G (sl H I J) xe/\G.Nodup/\(∀k∈G,k∈[w0.z]∨wd.z<=k)/\inI x2) s) (rQ prog fn<|Q12 w0 B) ah ?_ ?_ ?_ ?_
 .exact λ_ q=>⟨aG,aH,aI,[w0.z],kaA q,cr [w0.z] wd,aJ,S_,sQ,ii z⟩
 .rintro ⟨xe,x2⟩ _ wf _ ⟨H,I,J,G,ai,_,hq,hg,aK,aa⟩ aj;have Y:=a_0 aj;refine Wu ?_ ai;refine Wq<|Wm z<|Rm z<|R z (lnR h_ z kR)<|Rl z z z<|Wx z (λhcr=>?_) (λhcr=>?_)
  .refine Wk<|Wb<|Wm z<|Rm z<|bdB (ifT Y hcr) λxh aL ak=>xA (α:=UInt8) z h_ z_5 z z z kR aL λ_ _ _ aM aN _=>?_;obtain rfl:=u8 aN;refine R z (l0 g_5 z<|aM.at0 z)<|R z (b_n d_5 d_3 z)<|Rw z<|Wm z<|R z (add_ z z)<|Rw z<|Wq<|Wb<|Wq<|bdB ak λaO a0 a1=>Wt (λa w=>∃xs,xs=aO/\Sat 73 [(0,sl A0 N0 C0),(4,sl H I J),(5,vI<|e_ x2 1),(6,vI<|b_ xh),(33,vB xs)] a/\Below wf.z wf w) ?_ ?_
   .refine Wg<|Rm z<|Rq z z z<|Rm z ?_;rcases bs ((b_ xh)==0) with hca | hca
    .exact Nh z hca<|Nh z hca<|R z (pT z hca z)<|Rm z<|Nh z z<|Nh z z<|Nh z z<|Nh z z<|R z (pT z z z)<|Ra z<|Wl (λ_ q=>⟨true,som<|ifT a0 hca,kaA q,br wf⟩)
    have a2:=ifF a0 hca;refine Rh z hca (mv z)<|Rh z hca (eql z z)<|R z (pF z hca z)<|Rm z ?_;rcases bs ((b_ xh)==128) with L | L
    .iterate 4 refine Nh z L ?_
     exact R z (pT z L z)<|Ra z<|Wl (λ_ q=>⟨true,som<|ifT a2 L,kaA q,br wf⟩)
    exact Rh z L (mv z)<|Rh z L (mv z)<|Rh z L (lnR h_ z kR)<|Rh z L (eql z z)<|R z (pF z L z)<|Ra z<|Wl (λ_ q=>⟨(e_ x2 1)==(x1.length:Int),som<|ifF a2 L,kaA q,br wf⟩)
   rintro aP wb ⟨xs,rfl,_,_⟩;revert aP;refine Wo<|Wc z (λhct=>?_) (λhct=>?_)
   .refine Ws<|E z (f0 (α:=UInt8) M_) ?_;rintro _ _ ⟨aQ,aR,aS,rfl,_,aT⟩;exact Ra z<|Rw z<|Wr<|rtO<|rtO<|qL (som<|ifT a1 hct).symm<|b_r hr z z ⟨kW,aQ,aR,aS,[wb.z],z,aT,S_,sQ⟩
   refine Wm z<|Rl z z z<|Rw z<|bdB (ifF a1 hct) λaU a4 hmu=>Wt (λa w=>∃(xl:Bt)(xi:Int),Sum.inl (xl,xi)=aU/\∃am nn co Sj,Sat 73 [(0,sl A0 N0 C0),(4,sl am nn co),(5,vI xi)] a/\Cg G wb w/\c_ w Sj (sl am nn co) xl/\Sj.Nodup/\(∀k∈Sj,k∈G∨wb.z<=k)/\inI xi) ?_ ?_
   .refine Wc z (λhcv=>?_)<|λhcv=>?_
    .have a5:=ifT a4 hcv;refine Wq<|Wm z<|Rm z<|R z (lnR h_ z kR)<|Rm z<|R z (sb_ z z)<|R z (T_ z z)<|Wx z (λhcw=>?_) (λhcw=>?_)
     .refine Ws<|E z (f0 (α:=UInt8) M_) ?_;rintro _ _ ⟨aV,aW,aX,rfl,_,aY⟩;refine Ra z<|Rw z ?_;obtain rfl:=som<|ifT a5 hcw;have al:=elR hmu;exact Wr<|rtO<|rtO<|qL (som al).symm<|b_r hr z z ⟨kW,aV,aW,aX,[wb.z],z,aY,S_,sQ⟩
     refine Wk<|Wm z<|RM z z<|RM z z<|R z (add_ z z)<|bdB (ifF a5 hcw) λ_ aZ an=>RX z (rX h_ z_5 z z kR z z aZ) ?_;rintro _ ⟨_,_,_,rfl,b0⟩;refine bdB an λb1 b2 ap=>E z (fN (α:=UInt8) M_ b2 z z kO hg b0) ?_;rintro _ _ ⟨b3,b4,b5,b6,rfl,_,b7,b8,_⟩;exact Rw z<|Wg<|RM z z<|R z (add_ z z)<|Ra z<|Wl (λ_ q=>⟨b1,e_ (e_ x2 1)<|b_ xh,som ap,b4,b5,b6,b3,kaA q,kW,b7,b8,sQ,iA _ _⟩)
    refine Wq<|Wm z<|R z (sb_ z z)<|Rm z<|Wn<|bdB (ifF a4 hcv) λ_ aq a6=>Wf (σ:=Bt) (ρ:=Bt×Bool) (λ(ab:Nat)(xc:Bt) a w=>∃O V W S1,Sat 73 [(0,sl A0 N0 C0),(4,sl O V W),(5,vI<|e_ x2 1),(20,vI<|w_ (b_ xh) 128),(21,vI ((ab:Nat):Int))] a/\Cg G wb w/\c_ w S1 (sl O V W) xc/\S1.Nodup/\(∀k∈S1,k∈G∨wb.z<=k)) (λ(xc:Bt) a w=>∃O V W S1,Sat 73 [(0,sl A0 N0 C0),(4,sl O V W),(5,vI<|e_ x2 1)] a/\Cg G wb w/\c_ w S1 (sl O V W) xc/\S1.Nodup/\(∀k∈S1,k∈G∨wb.z<=k)) (rQ prog fn<|Q12 w0 B) aq ?_ ?_ ?_ ?_ ?_
    .exact λ_ q=>⟨H,I,J,G,kaA q,cr G wb,kO,hg,sQ⟩
    .rintro ab xc _ b9 _ a8 ⟨O,V,W,S1,ar,_,hp,hk,ad⟩ au;refine Wu ?_ ar;refine Ws<|Rl z z z<|Wn<|Wq<|Wc z (λ_=>?_) (λhc=>(j_5 a8 hc).elim);refine Wk<|Wq<|Wb<|Wg<|RM z z<|Rm z<|bdB au λba bb av=>xA (α:=UInt8) z h_ z_5 z z z kR bb λ_ _ _ bc be _=>?_;obtain rfl:=u8 be;refine R z (l0 g_5 z<|bc.at0 z)<|EvA z (fS [(.tmp 27)] M_ z z z (a_i z) (lb z)<|lb z) λbf hx=>have:=hx.below;have af:Blk bf b9.z [vU (b_ ba)]:=hx.blk;have:=b_d hx b_o;bdB av λbg bh aw=>E z (a_W (α:=UInt8) M_ bh z z kO hk af b_o an_ E_) ?_;rintro _ _ ⟨bi,bj,bk,bm,rfl,_,bn,bo,_⟩;exact Rw z<|Wg<|R z (inc_ a8 (tl_<|iS _ _) z z)<|Rm z<|Wl (λ_ q=>⟨bg,(som aw).symm,⟨bj,bk,bm,bi,kaA q,kW,bn,bo,sQ⟩⟩)
    .rintro xc _ _ ⟨O,V,W,S1,ax,_,hp,hk,ad⟩;refine Wu ?_ ax;refine Ws<|Rl z z z<|Wn<|Wq<|Wc z (λhc=>(j_6 hc).elim) (λ_=>?_);exact We<|λ_ q=>⟨rfl,⟨O,V,W,S1,kaA q,kW,hp,hk,sQ⟩⟩
    .rintro xc bp _ rfl ⟨O,V,W,S1,_,_,hp,hk,ad⟩;have ay:=elL a6;revert bp;exact Wo<|Wg<|Rm z<|R z (add_ z z)<|Ra z<|Wl (λ_ q=>⟨xc,e_ (e_ x2 1) 1,som ay,O,V,W,S1,kaA q,kW,hp,hk,sQ,iA _ _⟩)
    rintro _ _ _ _ rfl ⟨rfl,az⟩;have aA:=elR a6;obtain rfl:=som aA;have aB:=elR hmu;exact ⟨g_n<|g_n<|h_3 (som aB).symm ⟨rfl,az⟩,z⟩
   rintro bq bt ⟨xl,xi,rfl,am,nn,co,Sj,_,_,ae,bu,_,bv⟩;have aC:=elL hmu;have a9:=a_0 aC;revert bq;refine Wo<|Wm z<|R z (lnR h_ z<|c_.rep ae)<|R z (T_ z z)<|Wx z (λhcy=>?_) (λhcy=>?_)
   .refine Ws<|E z (f0 (α:=UInt8) M_) ?_;rintro _ _ ⟨bw,bx,bz,rfl,_,bA⟩;exact Ra z<|Rw z<|Wr<|rtO<|qL (som<|ifT a9 hcy).symm<|b_r hr z z ⟨kW,bw,bx,bz,[bt.z],z,bA,S_,sQ⟩
   exact Z_<|λ_ q=>⟨(xl,xi),(som<|ifF a9 hcy).symm,⟨am,nn,co,Sj,kaA q,kW,ae,bu,sQ,bv⟩⟩
  exact We<|λ_ q=>a_X (som<|ifF Y hcr).symm ⟨H,I,J,G,kaA q,kW,hq,hg,sQ,aa⟩
 .rintro ⟨xe,x2⟩ bB _ rfl ⟨H,I,J,G,_,_,hq,hg,aK,aa⟩;have aD:=elL hmz;revert bB;refine Wo<|Wm z<|Ra z<|Rw z ?_;exact Wr<|rS2 (a_0 aD) hr z z ⟨kW,H,I,J,G,z,hq,hg,sQ⟩
 exact lqA hmz λ_ _ h=>h.2
theorem W_w1u {x1:q_}{res:Bool}(hm:i_Q n x1=some res)(a5:B<=w0.z)(a3:inI x1.kind)(a0:x1.name.b.length<=LEN)(a1:inI x1.version)(a4:rp w0 B AG NG CG x1.data):g_ prog 164 [(.agg #[vI x1.kind,Str.v x1.name,vI x1.version,sl AG NG CG])] w0 (Q11 w0 B res):=by
 unfold i_Q at hm;refine goG func164 z z z λfn hr=>Ws<|EvX [vI x1.kind,Str.v x1.name,vI x1.version,sl AG NG CG] z z z λw6 _ a2=>Rw z<|Wq<|Wq<|bdB hm λuh hui hmb=>Wt (λa w=>∃W,W=uh/\Sat 38 [(1,pt w0.z),(18,vB W)] a/\Below w6.z w6 w) ?_ ?_
 .refine Wg<|Rf z e_R z<|R z (l0 g_9 z<|a2.at z)<|bdB hui λrj ek hmc=>EcA z (fc call195 z<|n_0 (B:=B) ek kM a0) λ_ sm=>R z (not_ z)<|Rm z ?_;rcases bs (!rj) with H | H
  .iterate 4 refine Nh z H ?_
   exact R z (pT z H z)<|Rm z<|Nh z z<|Nh z z<|Nh z z<|Nh z z<|R z (pT z z z)<|Wl (λ_ q=>⟨true,som<|ifT hmc H,kaA q,sm⟩)
  refine Rh z H (fd d_T z)<|Rh z H (l0 g_3 z kBa)<|bdB (ifF hmc H) λrl en hmd=>Eg z z H z (fc call161 z<|e_n (B:=B) en kM a1 (ii z)<|ii z) ?_;rintro _ _ ⟨_,rfl⟩;refine Rh z H (not_ z)<|R z (pF z H z)<|Rm z ?_;rcases bs (!rl) with I | I
  .iterate 4 refine Nh z I ?_
   exact R z (pT z I z)<|Wl (λ_ q=>⟨true,som<|ifT hmd I,kaA q,kW⟩)
  exact Rh z I (fd e_S z)<|Rh z I (l0 B_ z kBa)<|Rh z I (lnR h_ z kR)<|Rh z I (T_ z z)<|R z (pF z I z)<|Wl (λ_ q=>⟨decide<|400<(x1.data.length:Int),som<|ifF hmd I,kaA q,kW⟩)
 rintro ao O ⟨W,rfl,_,_⟩;revert ao;refine Wo<|Wc z (λV=>?_) (λV=>?_)
 .exact Ws<|Rw z<|Wr<|rS1 (ifT hmb V) hr z ⟨kW,z⟩
 refine Wk<|Wq<|bdB (ifF hmb V) λup hue hmq=>Wt (λa w=>∃Y,Y=up/\Sat 38 [(2,vB Y)] a/\Below O.z O w) ?_ ?_
 .refine Wg<|Rf z d_S z<|R z (l0 g_3 z kBa)<|Rq z z z<|Rm z ?_;rcases bs (x1.kind==1) with G | G
  .iterate 4 refine Nh z G ?_
   exact Nv z<|Nv z<|Nv z<|Nh z G<|Nh z G<|Nv z<|Nv z<|Nv z<|Nv z<|Nh z G<|R z (pT z G z)<|Ra z<|Wl (λ_ q=>⟨true,som<|ifT hue G,kaA q,br O⟩)
  have hmf:=ifF hue G;refine Rh z G (fd d_S z)<|Rh z G (l0 g_3 z kBa)<|Rh z G (eql z z)<|Rh z G (mv z) ?_;rcases bs (x1.kind==2) with L | L
  .have hmg:=ifT hmf L;refine Rh z L (fd d_T z)<|Rh z L (l0 g_3 z kBa)<|Rh z L (eql z z)<|Rh z G (pT z L z)<|Rh z G (mv z) ?_;rcases bs (x1.version==0) with J | J
   .exact Rh z J (fd e_S z)<|Rh z J (l0 B_ z kBa)<|Rh z J (lnR h_ z kR)<|Rh z J (eql z z)<|Rh z G (pT z J z)<|R z (pF z G z)<|Ra z<|Wl (λ_ q=>⟨(x1.data.length:Int)==0,som<|ifT hmg J,kaA q,br O⟩)
   iterate 4 refine Nh z J ?_
   exact Rh z G (pF z J z)<|R z (pF z G z)<|Ra z<|Wl (λ_ q=>⟨false,som<|ifF hmg J,kaA q,br O⟩)
  iterate 3 refine Nh z L ?_
  exact Rh z G (pF z L z)<|Rh z G (mv z)<|Nh z z<|Nh z z<|Nh z z<|Nh z z<|Rh z G (pF z z z)<|R z (pF z G z)<|Ra z<|Wl (λ_ q=>⟨false,som<|ifF hmf L,kaA q,br O⟩)
 rintro ar _ ⟨Y,rfl,_,_⟩;revert ar;exact Wo<|Wr<|rS1 hmq hr z ⟨kW,z⟩
theorem W_w1v {x1:Bt}{x2:Int}{res:Bool}(hm:h_L x1 x2=some res)(a1:B<=w0.z)(Y:rp w0 B A0 N0 C0 x1)(a0:inI x2):g_ prog 214 [sl A0 N0 C0,vI x2] w0 (Q11 w0 B res):=by
 unfold h_L at hm;refine goG func214 z z z λfn hr=>Ws<|Rw z<|Wq<|bdB hm λO I L=>Wt (λa w=>∃x3,x3=O/\Sat 34 [(4,vB x3)] a/\Below w0.z w0 w) ?_ ?_
 .refine Wd (X:=noX) 0 (pl_ 30 []) mo (by kernel_rfl) λwt s2 _=>dM z z z<|dR z z (add_ z z)<|dM z z z<|dR z z (lnR h_ z kR)<|dR z z (lss z z)<|dM z z z ?_;rcases bs (decide<|(e_ x2 2)<(x1.length:Int)) with G | G
  .refine dRg z z z G z (mv z)<|dRg z z z G z (mv z)<|bdB (ifT I G) λV W hma=>a_G z z z G z (at_ (α:=UInt8) h_ z_5 z z z kR W) ?_;rintro _ ⟨_,_,_,rfl,hb,hc,_⟩;obtain rfl:=u8 hc;refine dRg z z z G z (l0 g_5 z<|hb.at0 z)<|dRg z z z G z (mv z)<|dRg z z z G z (mv z)<|dRg z z z G z (add_ z z)<|bdB hma λxd ee J=>a_G z z z G z (at_ (α:=UInt8) h_ z_5 z z z kR ee) ?_;rintro _ ⟨_,_,_,rfl,hf,hg,_⟩;obtain rfl:=u8 hg;refine dRg z z z G z (l0 g_5 z<|hf.at0 z)<|dRg z z z G z (eql z z)<|dR z z (pT z G z)<|dM z z z ?_;rcases bs ((b_ V)==(b_ xd)) with H | H
   .refine dRg z z z H z (mv z)<|dRg z z z H z (mv z)<|bdB (ifT J H) λxh ei hmj=>a_G z z z H z (at_ (α:=UInt8) h_ z_5 z z z kR ei) ?_;rintro _ ⟨_,_,_,rfl,hk,hl,_⟩;obtain rfl:=u8 hl;refine dRg z z z H z (l0 g_5 z<|hk.at0 z)<|dRg z z z H z (mv z)<|dRg z z z H z (mv z)<|dRg z z z H z (add_ z z)<|bdB hmj λxm en hmo=>a_G z z z H z (at_ (α:=UInt8) h_ z_5 z z z kR en) ?_;rintro _ ⟨_,_,_,rfl,hp,hq,_⟩;obtain rfl:=u8 hq;exact dRg z z z H z (l0 g_5 z<|hp.at0 z)<|dRg z z z H z (eql z z)<|dR z z (pT z H z)<|dQ z z z<|pD (λ_ q=>⟨(b_ xh)==(b_ xm),som hmo,kaA q,s2⟩)
   iterate 10 refine dRn z z z H z ?_
   exact dR z z (pF z H z)<|dQ z z z<|pD (λ_ q=>⟨false,som<|ifF J H,kaA q,s2⟩)
  iterate 10 refine dRn z z z G z ?_
  refine dR z z (pF z G z)<|dM z z z ?_;iterate 10 refine dRn z z z z z ?_
  exact dR z z (pF z z z)<|dQ z z z<|pD (λ_ q=>⟨false,som<|ifF I G,kaA q,s2⟩)
 rintro ar _ ⟨x3,rfl,_,ss⟩;revert ar;exact Wo<|Wr<|rS1 L hr z ⟨ss,z⟩
theorem W_w4a {x1:Bt}{x2:Int}{res:Int}(hm:k_Q n x1 x2=some res)(a2:B<=w0.z)(W:rp w0 B A0 N0 C0 x1)(a1:inI x2):g_ prog 215 [sl A0 N0 C0,vI x2] w0 (Q0 w0 B res):=by
 unfold k_Q at hm;refine goG func215 z z z λfn hr=>Ws<|Rw z<|Wq<|Wq<|bdB hm λug V hma=>Wt (λa w=>∃x4,x4=ug/\Sat 36 [(0,sl A0 N0 C0),(1,vI x2),(13,vB x4)] a/\Below w0.z w0 w) ?_ ?_
 .refine Wg<|Rm z<|Rl z z z<|Rm z ?_;rcases bs (decide<|x2<0) with H | H
  .iterate 4 refine Nh z H ?_
   exact R z (pT z H z)<|Wl (λ_ q=>⟨true,som<|ifT V H,kaA q,br w0⟩)
  exact Rh z H (mv z)<|Rh z H (mv z)<|Rh z H (lnR h_ z W)<|Rh z H (b_u z z)<|R z (pF z H z)<|Wl (λ_ q=>⟨decide<|(x1.length:Int)<=x2,som<|ifF V H,kaA q,br w0⟩)
 rintro ah I ⟨x4,rfl,_,si⟩;revert ah;refine Wo<|Wc z (λJ=>?_) (λJ=>?_)
 .exact Ws<|Rw z<|Wr<|rS1 (ifT hma J) hr z ⟨si,z,ii z⟩
 refine Wk<|Ws<|Rw z<|Wq<|bdB (ifF hma J) λ_ huj hmb=>b_6 (σ:=Int) (ρ:=Int) (λ(x3:Int) a w=>Sat 36 [(0,sl A0 N0 C0),(1,vI x2),(5,vI x3)] a/\Below I.z I w/\inI x3) (λ(x3:Int) a w=>Sat 36 [(5,vI x3)] a/\Below I.z I w/\inI x3) (rQ prog fn<|Q0 w0 B) huj ?_ ?_ ?_ ?_
 .exact λ_ q=>⟨kaA q,br I,ii z⟩
 .rintro x3 _ wc _ ⟨hSk,_,h6⟩ hml;refine Wu ?_ hSk;refine Wq<|Wq<|bdB hml λum hud hme=>Wt (λa w=>∃O,O=um/\Sat 36 [(0,sl A0 N0 C0),(1,vI x2),(5,vI x3),(32,vB O)] a/\Below wc.z wc w) ?_ ?_
  .refine Wd (X:=noX) 0 (pl_ 19 []) mo (by kernel_rfl) λa3 sf _=>dM z z z<|dM z z z<|dR z z (add_ z z)<|dM z z z<|dR z z (lnR h_ z kR)<|dR z z (lss z z)<|dM z z z ?_;rcases bs (decide<|(e_ x2 x3)<(x1.length:Int)) with G | G
   .iterate 3 refine dRg z z z G z (mv z) ?_
    refine dRg z z z G z (add_ z z)<|bdB (ifT hud G) λxn eo hmp=>a_G z z z G z (at_ (α:=UInt8) h_ z_5 z z z kR eo) ?_;rintro _ ⟨_,_,_,rfl,hq,ht,_⟩;obtain rfl:=u8 ht;refine dRg z z z G z (l0 g_5 z<|hq.at0 z)<|dRg z z z G z (mv z)<|dRg z z z G z (mv z)<|bdB hmp λxr es hmu=>a_G z z z G z (at_ (α:=UInt8) h_ z_5 z z z kR es) ?_;rintro _ ⟨_,_,_,rfl,hv,hw,_⟩;obtain rfl:=u8 hw;exact dRg z z z G z (l0 g_5 z<|hv.at0 z)<|dRg z z z G z (eql z z)<|dR z z (pT z G z)<|pD (λ_ q=>⟨(b_ xn)==(b_ xr),som hmu,kaA q,sf⟩)
   iterate 11 refine dRn z z z G z ?_
   exact dR z z (pF z G z)<|pD (λ_ q=>⟨false,som<|ifF hud G,kaA q,sf⟩)
  rintro ax _ ⟨O,rfl,_,_⟩;revert ax;refine Wo<|Wc z (λL=>?_) (λL=>?_)
  .exact Wk<|Wb<|Wg<|Rm z<|R z (add_ z z)<|Ra z<|Wl (λ_ q=>⟨e_ x3 1,(som<|ifT hme L).symm,⟨kaA q,kW,iA _ _⟩⟩)
  exact We<|λ_ q=>a_X (som<|ifF hme L).symm ⟨kaA q,kW,h6⟩
 .rintro x3 ay _ rfl ⟨_,_,h6⟩;have hmz:=elL hmb;revert ay;exact Wo<|Wm z<|Rw z<|Wr<|rS1 hmz hr z ⟨kW,z,h6⟩
 exact lqA hmb λ_ _ h=>h.2
theorem W_w4b {x1:Int}{x2:Int}{res:Bool}(hm:h_M x1 x2=some res)(I:B<=w0.z)(G:inI x1)(H:inI x2):g_ prog 226 [vI x1,vI x2] w0 (Q11 w0 B res):=by
 unfold h_M at hm;exact goG func226 z z z λfn hr=>Ws<|Rw z<|Wm z<|Rm z<|Rl z z z<|Rw z<|Wr<|rS1 hm hr z ⟨br w0,z⟩
theorem W_w4c {x2:Int}{x3:List Int}{res:Int}(hm:k_R x2 x3=some res)(Y:B<=w0.z)(W:inI x2)(I:rp w0 B A7 N7 C7 x3):g_ prog 225 [(.func (.func 226) #[] #[]),vI x2,sl A7 N7 C7] w0 (Q0 w0 B res):=by
 unfold k_R at hm;refine goG func225 z z z λfn hr=>Ws<|Rw z<|Wq<|Wm z<|R z (lnR v_ z I)<|Rm z<|Wn<|bdB hm λ_ hua J=>Wf (σ:=Int) (ρ:=Int) (λ(k3:Nat)(x0:Int) a w=>Sat 22 [(0,.func (.func 226) #[] #[]),(1,vI x0),(9,sl A7 N7 C7),(10,vI (x3.length:Int)),(11,vI ((k3:Nat):Int))] a/\Below w0.z w0 w/\inI x0) (λ(x0:Int) a w=>Sat 22 [(1,vI x0)] a/\Below w0.z w0 w/\inI x0) (rQ prog fn<|Q0 w0 B) hua ?_ ?_ ?_ ?_ ?_
 .exact λ_ q=>⟨kaA q,br w0,W⟩
 .rintro k3 x0 _ _ _ L ⟨hSb,_,h1⟩ hmc;refine Wu ?_ hSb;refine Ws<|Rl z z z<|Wn<|Wq<|Wc z (λ_=>?_) (λhc=>(J_ L hc).elim);refine Wk<|Wq<|Wb<|Ws<|bdB hmc λxd ee hmf=>xI z v_ z_3 z z z kR ee λ_ _ hg V=>R z (l0 g_3 z<|hg.at0 z)<|Rw z<|Wm z<|RM z z<|bdB hmf λ_ ei hmj=>E z (d_y call226 z z<|W_w4b (B:=B) ei kM V h1) ?_;rintro _ G ⟨_,rfl⟩;refine Wn<|bdB hmj λuk O hml=>Wt (λa w=>∃x4,x4=uk/\Sat 22 [(0,.func (.func 226) #[] #[]),(1,vI x4),(9,sl A7 N7 C7),(10,vI (x3.length:Int)),(11,vI ((k3:Nat):Int))] a/\Below G.z G w/\inI x4) ?_ ?_
  .refine Wc z (λH=>?_)<|λH=>?_
   .exact Wg<|Rm z<|Ra z<|Wl (λ_ q=>⟨xd,som<|ifT O H,kaA q,br G,V⟩)
   exact Z_<|λ_ q=>⟨x0,som<|ifF O H,kaA q,br G,h1⟩
  rintro am _ ⟨x4,rfl,_,_,hn⟩;revert am;exact Wo<|Wg<|R z (inc_ L (lt_ (repS.len I) u_) z z)<|Rm z<|Wl (λ_ q=>⟨x4,(som hml).symm,⟨kaA q,kW,hn⟩⟩)
 .rintro x0 _ _ ⟨hSo,sp,h1⟩;refine Wu ?_ hSo;refine Ws<|Rl z z z<|Wn<|Wq<|Wc z (λhc=>(K_ hc).elim) (λ_=>?_);exact We<|λ_ q=>⟨rfl,⟨kaA q,sp,h1⟩⟩
 .rintro x0 aq _ rfl ⟨_,sr,h1⟩;have hms:=elL J;revert aq;exact Wo<|Wm z<|Rw z<|Wr<|rS1 hms hr z ⟨sr,z,h1⟩
 exact lqA J λ_ _ h=>h.2
theorem p_7 {x1:Int}{x2:Int}{res:Int}(hm:f_t x1 x2=some res)(W:B<=w0.z)(I:inI x1)(J:inI x2):g_ prog 204 [vI x1,vI x2] w0 (Q0 w0 B res):=by
 unfold f_t at hm;refine goG func204 z z z λfn hr=>Ws<|Rw z<|Wm z<|Rm z<|EvA z (fS [(.tmp 6)] o_N z z z (a_i z) (lb z)<|lb z) λH G=>have:=G.below;have:Blk H w0.z [vI x2]:=G.blk;have L:=b_d G<|d_d J;bdB hm λ_ V O=>E z (fc call225 z<|W_w4c (B:=H.z) V zr I<|c_.rep L) ?_;rintro _ _ ⟨_,rfl,h4⟩;exact Rw z<|Wr<|rS1 O hr z ⟨kW,z,h4⟩
theorem W_w4d {x1:Bt}{res:Bt}(hm:k_S n x1=some res)(bo:B<=w0.z)(bn:rp w0 B A0 N0 C0 x1):g_ prog 198 [sl A0 N0 C0] w0 (Q1 w0 B res):=by
 unfold k_S at hm;refine goG func198 z z z λfn hr=>Ws<|Rw z<|Ws<|E z (f0 (α:=UInt8) M_) ?_;rintro _ V ⟨aA,aB,aC,rfl,_,aD⟩;refine Rw z<|Wq<|Ws<|Rw z ?_;obtain ⟨_,a8,hmu⟩:=bdS hm;refine b_6 (σ:=Bt×Int) (ρ:=Bt) (λs a w=>un2 (λW x3=>∃H I J G,Sat 67 [(0,sl A0 N0 C0),(3,sl H I J),(4,vI x3)] a/\Cg [w0.z] V w/\c_ w G (sl H I J) W/\G.Nodup/\(∀k∈G,k∈[w0.z]∨V.z<=k)/\inI x3) s) (λs a w=>un2 (λW x3=>∃H I J G,Sat 67 [(3,sl H I J)] a/\Cg [w0.z] V w/\c_ w G (sl H I J) W/\G.Nodup/\(∀k∈G,k∈[w0.z]∨V.z<=k)/\inI x3) s) (rQ prog fn<|Q1 w0 B) a8 ?_ ?_ ?_ ?_
 .exact λ_ q=>⟨aA,aB,aC,[w0.z],kaA q,cr [w0.z] V,aD,S_,sQ,ii z⟩
 .rintro ⟨W,x3⟩ _ wv _ ⟨H,I,J,G,a9,_,hn,ha,aE,he⟩ aa;have hmw:=a_0 aa;refine Wu ?_ a9;refine Wq<|Wm z<|Rm z<|R z (lnR h_ z kR)<|Rl z z z<|Wx z (λhcm=>?_) (λhcm=>?_)
  .refine Wk<|bdB (ifT hmw hcm) λaF ab hmx=>Wt (λa w=>∃(xf:Bt)(xb:Int),Sum.inl (xf,xb)=aF/\∃ag nh ci Sc,Sat 67 [(0,sl A0 N0 C0),(3,sl ag nh ci),(4,vI xb)] a/\Cg G wv w/\c_ w Sc (sl ag nh ci) xf/\Sc.Nodup/\(∀k∈Sc,k∈G∨wv.z<=k)/\inI xb) ?_ ?_
   .refine Wb<|Wq<|Wm z<|Rm z<|bdB ab λ_ aG hmy=>EcA z (fc call214 z<|W_w1v (B:=B) aG kM kR he) λwd _=>Wx z (λhco=>?_) (λhco=>?_)
    .refine Wm z<|Rm z<|bdB (ifT hmy hco) λ_ aH ad=>E z (fc call215 z<|W_w4a (B:=B) aH kM kR he) ?_;rintro _ _ ⟨_,rfl,aI⟩;refine bdB ad λrj aJ ae=>E z (fc call204 z<|p_7 (B:=B) aJ kM aI<|ii z) ?_;rintro _ wp ⟨_,rfl,_⟩;refine Rw z<|Wm z<|Rm z<|R z (add_ z z)<|R z (c_c d_3 d_5 z)<|RM z z<|bdB ae λxq aK af=>xA (α:=UInt8) z h_ z_5 z z z kR aK λ_ _ _ aL aM _=>?_;obtain rfl:=u8 aM;refine R z (l0 g_5 z<|aL.at0 z)<|EvA z (fS [(.tmp 22),(.tmp 26)] M_ z z z (a_i z) (lb z)<|lb z) λwz a4=>have:=a4.below;have a5:Blk wz wp.z [(vU<|b_<|mkB<|e_ 128 rj),vU<|b_ xq]:=a4.blk;have a6:c_ wz [wp.z] (sl (some ⟨wp.z,0,none⟩) 2 2) [mkB (e_ 128 rj),xq]:=h_S (l:=[mkB (e_ 128 rj),xq]) a5 z;bdB af λaN aO ah=>E z (fN (α:=UInt8) M_ aO z z kO ha<|c_.rep a6) ?_;rintro _ _ ⟨aP,aQ,aR,aS,rfl,_,aT,aU,_⟩;exact Rw z<|Wm z<|Rm z<|R z (add_ z z)<|Rw z<|We<|exH<|λ_ q=>⟨aN,e_ x3 rj,som ah,aQ,aR,aS,aP,kaA q,kW,aT,aU,sQ,iA _ _⟩
    refine Wk<|Wm z<|R z (add_ z z)<|Rw z<|Wq<|bdB (ifF hmy hco) λ_ ai Y=>b_6 (σ:=Int) (ρ:=Bt) (λ(x2:Int) a w=>Sat 67 [(0,sl A0 N0 C0),(3,sl H I J),(4,vI x3),(6,vI x2)] a/\Below wd.z wd w/\inI x2) (λ(x2:Int) a w=>Sat 67 [(0,sl A0 N0 C0),(3,sl H I J),(4,vI x3),(6,vI x2)] a/\Below wd.z wd w/\inI x2) (rQ prog fn<|Q1 w0 B) ai ?_ ?_ ?_ ?_
    .exact λ_ q=>⟨kaA q,br wd,iA _ _⟩
    .rintro x2 _ wk _ ⟨aj,_,hl⟩ ak;refine Wu ?_ aj;refine Wq<|Wq<|bdB ak λaV a0 a2=>Wt (λa w=>∃xr,xr=aV/\Sat 67 [(0,sl A0 N0 C0),(3,sl H I J),(4,vI x3),(6,vI x2),(49,vB xr)] a/\Below wk.z wk w) ?_ ?_
     .refine Wg<|RM z z<|R z (lnR h_ z kR)<|Rl z z z<|Rm z ?_;rcases bs (decide<|x2<(x1.length:Int)) with L | L
      .have a3:=ifT a0 L;refine Rh z L (mv z)<|Rh z L (mv z)<|Rh z L (sb_ z z)<|Rh z L (lss z z)<|R z (pT z L z)<|Rm z ?_;rcases bs (decide<|(w_ x2 x3)<127) with O | O
       .refine Rh z O (mv z)<|Rh z O (mv z)<|bdB (ifT a3 O) λaW aX al=>Eg z z O z (fc call214 z<|W_w1v (B:=B) aX kM kR hl) ?_;rintro _ _ ⟨aY,rfl⟩;exact Rh z O (not_ z)<|R z (pT z O z)<|Wl (λ_ q=>⟨!aW,som al,kaA q,aY⟩)
       iterate 4 refine Nh z O ?_
       exact R z (pF z O z)<|Wl (λ_ q=>⟨false,som<|ifF a3 O,kaA q,br wk⟩)
      iterate 4 refine Nh z L ?_
      exact R z (pF z L z)<|Rm z<|Nh z z<|Nh z z<|Nh z z<|Nh z z<|R z (pF z z z)<|Wl (λ_ q=>⟨false,som<|ifF a0 L,kaA q,br wk⟩)
     rintro aZ _ ⟨xr,rfl,_,_⟩;revert aZ;refine Wo<|Wc z (λhcs=>?_) (λhcs=>?_)
     .exact Wk<|Wb<|Wg<|Rm z<|R z (add_ z z)<|Ra z<|Wl (λ_ q=>⟨e_ x2 1,(som<|ifT a2 hcs).symm,⟨kaA q,kW,iA _ _⟩⟩)
     exact We<|λ_ q=>a_X (som<|ifF a2 hcs).symm ⟨kaA q,kW,hl⟩
    .rintro x2 b0 b1 rfl ⟨_,_,hl⟩;have am:=elL Y;revert b0;refine Wo<|Wm z<|RM z z<|R z (sb_ z z)<|R z (c_c d_3 d_5 z)<|EvA z (fS [(.tmp 56)] M_ z z z (a_i z) (lb z)<|lb z) λb2 ht=>have:=ht.below;have a7:Blk b2 b1.z [(vU<|b_<|mkB<|w_ x2 x3)]:=ht.blk;have:=b_d ht b_o;bdB am λ_ b3 an=>E z (a_W (α:=UInt8) M_ b3 z z kO ha a7 b_o an_ E_) ?_;rintro _ _ ⟨_,_,_,_,rfl,_,b4,b5,_⟩;refine Rw z<|Wm z<|RM z z<|Rm z<|bdB an λ_ b6 ap=>RX z (rX h_ z_5 z z kR z z b6) ?_;rintro _ ⟨_,_,_,rfl,b7⟩;refine bdB ap λb8 b9 aq=>E z (fN (α:=UInt8) M_ b9 z z b4 b5 b7) ?_;rintro _ _ ⟨ba,bb,bc,be,rfl,_,bf,bg,_⟩;exact Rw z<|Wg<|Rm z<|Ra z<|Wl (λ_ q=>⟨b8,x2,som aq,bb,bc,be,ba,kaA q,kW,bf,bg,sQ,hl⟩)
    rintro _ _ _ _ rfl ⟨rfl,ar⟩;have au:=elR Y;obtain rfl:=som au;have av:=elR hmx;exact ⟨g_n<|h_3 (som av).symm ⟨rfl,ar⟩,z⟩
   rintro bh _ ⟨xf,xb,rfl,ag,nh,ci,Sc,_,_,bi,bj,_,bk⟩;have aw:=elL hmx;revert bh;exact λ_ q=>⟨(xf,xb),(som<|a_0 aw).symm,⟨ag,nh,ci,Sc,kaA q,kW,bi,bj,sQ,bk⟩⟩
  exact We<|λ_ q=>a_X (som<|ifF hmw hcm).symm ⟨H,I,J,G,kaA q,kW,hn,ha,sQ,he⟩
 .rintro ⟨W,x3⟩ bm _ rfl ⟨H,I,J,G,_,_,hn,ha,aE,he⟩;have ax:=elL hmu;revert bm;refine Wo<|Wm z<|Rw z ?_;exact Wr<|rS1 (a_0 ax) hr z ⟨kW,H,I,J,G,z,hn,ha,sQ⟩
 exact lqA hmu λ_ _ h=>h.2
theorem p_8 {x1:Bt}{res:Int}(hm:h_E x1=some res)(W:B<=w0.z)(G:rp w0 B A0 N0 C0 x1):g_ prog 175 [sl A0 N0 C0] w0 (Q0 w0 B res):=by
 unfold h_E at hm;refine goG func175 z z z λfn hr=>Ws<|Rw z<|Ws<|Rw z<|Wq<|Wm z<|R z (lnR h_ z G)<|Rm z<|Wn<|bdB hm λ_ J H=>Wf (σ:=Int) (ρ:=Int) (λ(k3:Nat)(x0:Int) a w=>Sat 19 [(3,vI x0),(6,sl A0 N0 C0),(7,vI (x1.length:Int)),(8,vI ((k3:Nat):Int))] a/\Below w0.z w0 w/\inI x0) (λ(x0:Int) a w=>Sat 19 [(3,vI x0)] a/\Below w0.z w0 w/\inI x0) (rQ prog fn<|Q0 w0 B) J ?_ ?_ ?_ ?_ ?_
 .exact λ_ q=>⟨kaA q,br w0,ii z⟩
 .rintro k3 x0 _ _ _ I ⟨L,s7,h1⟩ O;refine Wu ?_ L;refine Ws<|Rl z z z<|Wn<|Wq<|Wc z (λ_=>?_) (λhc=>(J_ I hc).elim);refine Wk<|Wq<|Wb<|Ws<|bdB O λV ea hmb=>xA (α:=UInt8) z h_ z_5 z z z kR ea λ_ _ _ hd he _=>?_;obtain rfl:=u8 he;exact R z (l0 g_5 z<|hd.at0 z)<|Rw z<|Wg<|RM z z<|R z (b_n d_5 d_3 z)<|R z (add_ z z)<|Rw z<|Wg<|R z (inc_ I (lt_ (repS.len G) u_) z z)<|Rm z<|Wl (λ_ q=>⟨e_ x0<|b_ V,(som hmb).symm,⟨kaA q,s7,iA _ _⟩⟩)
 .rintro x0 _ _ ⟨hSc,sf,h1⟩;refine Wu ?_ hSc;refine Ws<|Rl z z z<|Wn<|Wq<|Wc z (λhc=>(K_ hc).elim) (λ_=>?_);exact We<|λ_ q=>⟨rfl,⟨kaA q,sf,h1⟩⟩
 .rintro x0 ag _ rfl ⟨_,sh,h1⟩;have hmi:=elL H;revert ag;exact Wo<|Wm z<|R z (i_2 z z (by decide))<|Rw z<|Wr<|rS1 hmi hr z ⟨sh,z,n_k h1⟩
 exact lqA H λ_ _ h=>h.2
theorem W_w4e {x1:q_}{res:Bt}(hm:k_T n x1=some res)(al:B<=w0.z)(Y:inI x1.kind)(a0:x1.name.b.length<=LEN)(a1:inI x1.version)(aj:rp w0 B AG NG CG x1.data):g_ prog 166 [(.agg #[vI x1.kind,Str.v x1.name,vI x1.version,sl AG NG CG])] w0 (Q1 w0 B res):=by
 unfold k_T at hm;refine goG func166 z z z λfn hr=>Ws<|EvX [vI x1.kind,Str.v x1.name,vI x1.version,sl AG NG CG] z z z λwc _ ak=>Rw z<|Wq<|Ws<|R z (lC [vI x1.kind,Str.v x1.name,vI x1.version,sl AG NG CG] b_L a_8 z)<|bdB hm λ_ ed L=>EcA z (fc call164 z<|W_w1u (B:=B) ed kM Y a0 a1 kR) λwe _=>R z (not_ z)<|Wx z (λH=>?_) (λH=>?_)
 .refine Ws<|E z (f0 (α:=UInt8) M_) ?_;rintro _ _ ⟨af,ng,ch,rfl,_,hi⟩;exact Rw z<|Wr<|rS1 (ifT L H) hr z ⟨kW,af,ng,ch,[we.z],z,hi,S_,sQ⟩
 refine Wk<|Ws<|Rf z e_S z<|R z (l0 B_ z kBa)<|bdB (ifF L H) λG ej hmk=>E z (fc call198 z<|W_w4d (B:=B) ej kM kR) ?_;rintro _ I ⟨_,_,_,_,_,rfl,h3,_,_⟩;refine Rw z<|Ws<|Rf z d_S z<|R z (l0 g_3 z kBa)<|R z (c_c d_3 d_5 z)<|Rf z e_R z<|R z (l0 g_9 z kBa)<|R z (lnT d_9 z)<|R z (c_c d_3 d_5 z)<|EvA z (fS [(.tmp 14),(.tmp 18)] M_ z z z (a_i z) (lb z)<|lb z) λO V=>have:=V.below;have a2:Blk O I.z [(vU<|b_<|mkB x1.kind),(vU<|b_<|mkB (x1.name.b.length:Int))]:=V.blk;have a3:c_ O [I.z] (sl (some ⟨I.z,0,none⟩) 2 2) [mkB x1.kind,mkB (x1.name.b.length:Int)]:=h_S (l:=[mkB x1.kind,mkB (x1.name.b.length:Int)]) a2 z;Rw z<|Wm z<|Rf z e_R z<|R z (l0 g_9 z kBa) ?_;refine bdB hmk λ_ el hmm=>E z (t_W M_ d_9 el z z a3 S_) ?_;rintro _ J ⟨_,_,_,_,rfl,_,_,hn,_⟩;refine Rw z<|Wm z<|Rf z d_T z<|R z (l0 g_3 z kBa)<|R z (c_c d_3 d_5 z)<|Rm z<|R z (lnR h_ z<|or_ kO<|c_.lt h3)<|R z (n_r z z (by decide))<|R z (c_c d_3 d_5 z)<|Rm z<|R z (lnR h_ z<|or_ kO<|c_.lt h3)<|R z (c_c d_3 d_5 z)<|EvA z (fS [(.tmp 27),.tmp 31,(.tmp 34)] M_ z z z (a_i z) (lb z)<|lb z) λwa hb=>have:=hb.below;have a4:Blk wa J.z [(vU<|b_<|mkB x1.version),vU<|b_<|mkB<|c_W .i64 (G.length:Int) 8,(vU<|b_<|mkB (G.length:Int))]:=hb.blk;have a5:c_ wa [J.z] (sl (some ⟨J.z,0,none⟩) 3 3) [mkB x1.version,mkB<|c_W .i64 (G.length:Int) 8,mkB (G.length:Int)]:=h_S (l:=[mkB x1.version,mkB<|c_W .i64 (G.length:Int) 8,mkB (G.length:Int)]) a4 z;bdB hmm λ_ eo hmp=>?_;refine E z (fN (α:=UInt8) M_ eo z z kO hn<|c_.rep a5) ?_;rintro _ _ ⟨_,_,_,_,rfl,_,hq,ht,_⟩;refine Rw z<|Wm z<|Rm z<|bdB hmp λ_ er hms=>E z (fN (α:=UInt8) M_ er z z hq ht<|or_ kO<|c_.lt h3) ?_;rintro _ wu ⟨_,_,_,_,rfl,_,hv,hw,_⟩;refine Rw z<|Wm z<|Rm z<|bdB hms λrx ey hmz=>E z (fc call175 z<|p_8 (B:=wu.z) ey zr<|c_.rep hv) ?_;rintro _ a7 ⟨_,rfl,_⟩;refine R z (c_c d_3 d_5 z)<|EvA z (fS [(.tmp 43)] M_ z z z (a_i z) (lb z)<|lb z) λa8 h5=>have:=h5.below;have W:Blk a8 a7.z [(vU<|b_<|mkB rx)]:=h5.blk;have:=b_d h5 b_o;bdB hmz λ_ a9 a6=>E z (a_W (α:=UInt8) M_ a9 z z kO hw W b_o an_ E_) ?_;rintro _ _ ⟨aa,ab,ad,ae,rfl,_,ah,ai,_⟩;exact Rw z<|Wr<|rS1 a6 hr z ⟨kW,ab,ad,ae,aa,z,ah,ai,sQ⟩
theorem W_w4f {x1:Bt}{x2:Bt}{res:Bool}(hm:o_K x1 x2=some res)(I:B<=w0.z)(G:rp w0 B A0 N0 C0 x1)(H:rp w0 B A2 N2 C2 x2):g_ prog 197 [sl A0 N0 C0,sl A2 N2 C2] w0 (Q11 w0 B res):=by
 unfold o_K at hm;exact goG func197 z z z λfn hr=>Ws<|Rw z<|Wm z<|R z (h_5 h_ d_9 d_5 z_5 z G)<|Rm z<|R z (h_5 h_ d_9 d_5 z_5 z H)<|R z (a_Q z z)<|Rw z<|Wr<|rS1 hm hr z ⟨br w0,z⟩
theorem W_w4g {x1:Bt}{x2:Bt}{res:Bool}(hm:m_p x1 x2=some res)(I:B<=w0.z)(G:rp w0 B A0 N0 C0 x1)(H:rp w0 B A2 N2 C2 x2):g_ prog 165 [sl A0 N0 C0,sl A2 N2 C2] w0 (Q11 w0 B res):=by
 unfold m_p at hm;exact goG func165 z z z λfn hr=>Ws<|Rw z<|Wm z<|Rm z<|bdB hm λ_ L J=>EcA z (fc call197 z<|W_w4f (B:=B) L I G H) λ_ s2=>Rw z<|Wr<|rS1 J hr z ⟨s2,z⟩
theorem W_w1w {x1:Bt}{x2:Int}{res:q_×Int×Bool}(hm:g_E n x1 x2=some res)(b3:B<=w0.z)(b2:rp w0 B A0 N0 C0 x1)(W:inI x2):g_ prog 101 [sl A0 N0 C0,vI x2] w0 (Q13 w0 B res):=by
 unfold g_E at hm;refine goG func101 z z z λfn hr=>Ws<|EvZ [vI 0,Str.v (⟨[]⟩:Str),vI 0,sN] z f_z z λwa _ _=>Ra z<|Rw z<|Wq<|Wq<|bdB hm λuz huj hmk=>Wt (λa w=>∃xc,xc=uz/\Sat 126 [(0,sl A0 N0 C0),(1,vI x2),(4,pt w0.z),(28,vB xc)] a/\Below wa.z wa w) ?_ ?_
 .refine Wg<|Rm z<|Rl z z z<|Rm z ?_;rcases bs (decide<|x2<0) with J | J
  .iterate 4 refine Nh z J ?_
   exact R z (pT z J z)<|Rm z<|Nh z z<|Nh z z<|Nh z z<|Nh z z<|Nh z z<|R z (pT z z z)<|Wl (λ_ q=>⟨true,som<|ifT huj J,kaA q,br wa⟩)
  have hml:=ifF huj J;refine Rh z J (mv z)<|Rh z J (mv z)<|Rh z J (lnR h_ z kR)<|Rh z J (T_ z z)<|R z (pF z J z)<|Rm z ?_;rcases bs (decide<|(x1.length:Int)<x2) with H | H
  .iterate 5 refine Nh z H ?_
   exact R z (pT z H z)<|Wl (λ_ q=>⟨true,som<|ifT hml H,kaA q,br wa⟩)
  exact Rh z H (mv z)<|Rh z H (lnR h_ z kR)<|Rh z H (mv z)<|Rh z H (sb_ z z)<|Rh z H (lss z z)<|R z (pF z H z)<|Wl (λ_ q=>⟨decide<|(w_ (x1.length:Int) x2)<2,som<|ifF hml H,kaA q,br wa⟩)
 rintro ad _ ⟨xc,rfl,_,_⟩;revert ad;refine Wo<|Wc z (λhcd=>?_) (λhcd=>?_)
 .exact Ws<|R z (bQ [] [vI 0,Str.v (⟨[]⟩:Str),vI 0,sN] e_O z z)<|Rm z<|E0q [vI 0,Str.v (⟨[]⟩:Str),vI 0,sN] a_8 z z kB z λb4 ae _=>Ra z<|Rw z<|Wr<|rS3 (ifT hmk hcd) hr (m_ b_L a_8 z ae z) z z ⟨kW,none,0,0,[],z,ii z,lb z,ii z,onL,W,E_,an_⟩
 refine Wk<|Wm z<|Rm z<|bdB (ifF hmk hcd) λ_ af a0=>RX z (rX h_ z_5 z z kR z z af) ?_;rintro _ ⟨_,_,_,rfl,hn⟩;refine Rw z<|Wm z<|bdB a0 λah ai hmm=>xA (α:=UInt8) z h_ z_5 z z z hn ai λ_ _ _ aj ak _=>?_;obtain rfl:=u8 ak;refine R z (l0 g_5 z<|aj.at0 z)<|R z (b_n d_5 d_3 z)<|Rw z<|Wq<|Wm z<|R z (lnR h_ z hn)<|Rm z<|R z (add_ z z)<|Rl z z z<|Wx z (λhce=>?_) (λhce=>?_)
 .exact Ws<|R z (bQ [] [vI 0,Str.v (⟨[]⟩:Str),vI 0,sN] e_O z z)<|Rm z<|E0q [vI 0,Str.v (⟨[]⟩:Str),vI 0,sN] a_8 z z kB z λb5 al _=>Ra z<|Rw z<|Wr<|rS3 (ifT hmm hce) hr (m_ b_L a_8 z al z) z z ⟨kW,none,0,0,[],z,ii z,lb z,ii z,onL,W,E_,an_⟩
 refine Wk<|Wq (Wd (X:=noX) 0 (pl_ 15 []) mo (by kernel_rfl) λb6 b7 _=>dM z z z<|dM z z z<|dR z z (add_ z z) ?_);refine bdB (ifF hmm hce) λam an a1=>dxA (α:=UInt8) z z h_ z_5 z z z kR an λ_ _ _ ap aq _=>?_;obtain rfl:=u8 aq;refine dR z z (l0 g_5 z<|ap.at0 z)<|dR z z (b_n d_5 d_3 z)<|dR z z (j_l z z (by decide))<|dM z z z<|dM z z z<|dR z z (add_ z z)<|bdB a1 λar au hmo=>dxA (α:=UInt8) z z h_ z_5 z z z kR au λ_ _ _ av aw _=>?_;obtain rfl:=u8 aw;refine dR z z (l0 g_5 z<|av.at0 z)<|dR z z (b_n d_5 d_3 z)<|dR z z (n_q z z)<|dQ z z z<|pD<|Wo<|Wq<|Wm z<|R z (lnR h_ z kR)<|Rm z<|R z (add_ z z)<|Rm z<|R z (add_ z z)<|Rl z z z<|Wx z (λhcf=>?_) (λhcf=>?_)
 .exact Ws<|R z (bQ [] [vI 0,Str.v (⟨[]⟩:Str),vI 0,sN] e_O z z)<|Rm z<|E0q [vI 0,Str.v (⟨[]⟩:Str),vI 0,sN] a_8 z z kB z λb8 ax _=>Ra z<|Rw z<|Wr<|rS3 (ifT hmo hcf) hr (m_ b_L a_8 z ax z) z z ⟨kW,none,0,0,[],z,ii z,lb z,ii z,onL,W,E_,an_⟩
 refine Wk<|Wm z<|bdB (ifF hmo hcf) λ_ ay a2=>E z (e_2 (α:=UInt8) M_ (λ_=>p_S) ay z z) ?_;rintro _ az ⟨_,_,_,rfl,_,hp⟩;refine Rw z<|Wm z<|RM z z<|R z (add_ z z)<|bdB a2 λ_ aA a3=>RX z (rX h_ z_5 z z kR z z aA) ?_;rintro _ ⟨_,_,_,rfl,aB⟩;refine E z (t_U h_ z_5 z z hp aB) ?_;rintro _ _ ⟨rfl,_,aC⟩;refine Wn<|Wm z ?_;obtain ⟨rq,aD,aE,a4⟩:=V_ a3;refine E z (fc call163 z<|W_w49 (B:=az.z) aE (O_ kM)<|or_ aC<|c_.lt hp) ?_;rintro _ wr ⟨_,L,O,V,aF,rfl,ht,aG,_⟩;refine Rm z<|Re z z z<|Re z z z<|Ra z<|Rw z<|Wq (Wd (X:=noX) 262144 (pl_ 19 [17,18]) mo (by kernel_rfl) λws b9 _=>dM z z z ?_);refine bdB a4 λx4 aH a5=>dxA (α:=UInt8) z z h_ z_5 z z z kR aH λ_ _ _ aI aJ _=>?_;obtain rfl:=u8 aJ;refine dR z z (l0 g_5 z<|aI.at0 z)<|dR z z (b_n d_5 d_3 z)<|dM z z z<|dM z z z<|dR z z (add_ z z)<|bdB a5 λx5 aK a6=>dRX z z (rX h_ z_5 z z kR z z aK) ?_;rintro _ ⟨_,_,_,rfl,hb⟩;refine dR z z (h_5 h_ d_9 d_5 z_5 z hb)<|dM z z z<|dM z z z<|dR z z (add_ z z)<|bdB a6 λx6 aL a8=>dxA (α:=UInt8) z z h_ z_5 z z z kR aL λ_ _ _ aM aN _=>?_;obtain rfl:=u8 aN;refine dR z z (l0 g_5 z<|aM.at0 z)<|dR z z (b_n d_5 d_3 z)<|dM z z z<|dR z z (bQ [(0,.tmp 84),(1,.tmp 89),(2,.tmp 95),(3,.tmp 96)] [vI (b_ x4),Str.v (⟨x5⟩:Str),vI<|b_ x6,sl L O V] e_O z z)<|dNb [vI 0,Str.v (⟨[]⟩:Str),vI 0,sN] z z f_z z λba _ Y=>dE0 z (fs0 (cur':=[vI (b_ x4),Str.v (⟨x5⟩:Str),vI<|b_ x6,sl L O V]) a_8 z z Y z z z z) (.inl z) ?_;rintro _ wv ⟨_,aO⟩;have:=aO.one;refine pD<|Wo<|Wq<|Wq<|bdB a8 λaP huw hmx=>Wt (λa w=>∃xg,xg=aP/\Sat 126 [(1,vI x2),(4,pt w0.z),(8,vI<|b_ ah),(9,vI<|b_P .i64 (· ||| ·) (b_I .i64 (b_ am) 8)<|b_ ar),(13,pt ws.z),(116,vB xg)] a/\Below wv.z wv w) ?_ ?_
 .refine Wd (X:=noX) 0 (.rd 0<|.rd 1<|.rd 2<|.rd 3<|.ef 4<|.rd 5<|.rd 6<|.rd 7<|.rd 8<|.rd 10<|.rd 11<|.rd 12<|.rd 13<|.rd 14<|.rd 15<|.ef 9<|.ef 16<|.rd 17<|.rd 18 .done) mo (by kernel_rfl) λbb aQ _=>dM z z z<|dR z z (not_ z)<|dM z z z ?_;rcases bs (!aD) with I | I
  .refine dRn z z z I z<|dEn z z z I z<|dRn z z z I z<|dR z z (pT z I z)<|dM z z z ?_;iterate 7 refine dRn z z z z z ?_
   exact dEn z z z z z<|dEn z z z z z<|dRn z z z z z<|dR z z (pT z z z)<|pD (λ_ q=>⟨true,som<|ifT huw I,kaA q,aQ⟩)
  refine dRg z z z I z (lC [vI (b_ x4),Str.v (⟨x5⟩:Str),vI<|b_ x6,sl L O V] b_L a_8 z)<|bdB (ifF huw I) λaR aS hmy=>dEg z z z I z (fc call164 z<|W_w1u (B:=wr.z) (x1:=(⟨b_ x4,(⟨x5⟩:Str),b_ x6,rq⟩:q_)) aS (O_ kM) (d_z _) (repS.len hb) (d_z _)<|or_ kO<|c_.lt ht) iB ?_;rintro _ _ ⟨_,rfl⟩;refine dRg z z z I z (not_ z)<|dR z z (pF z I z)<|dM z z z ?_;rcases bs (!aR) with G | G
  .iterate 7 refine dRn z z z G z ?_
   exact dEn z z z G z<|dEn z z z G z<|dRn z z z G z<|dR z z (pT z G z)<|pD (λ_ q=>⟨true,som<|ifT hmy G,kaA q,kW⟩)
  refine dRg z z z G z (lC [vI (b_ x4),Str.v (⟨x5⟩:Str),vI<|b_ x6,sl L O V] b_L a_8 z)<|dRg z z z G z (mv z)<|dRg z z z G z (mv z)<|dRg z z z G z (add_ z z)<|dRg z z z G z (mv z)<|dRg z z z G z (add_ z z)<|bdB (ifF hmy G) λ_ aT a9=>a_G z z z G z (rX h_ z_5 z z kR z z aT) ?_;rintro _ ⟨_,_,_,rfl,_⟩;refine bdB a9 λ_ aU aa=>dEg z z z G z (fc call166 z<|W_w4e (B:=wr.z) (x1:=(⟨b_ x4,(⟨x5⟩:Str),b_ x6,rq⟩:q_)) aU (O_ kM) (d_z _) (repS.len hb) (d_z _)<|or_ kO<|c_.lt ht) iB ?_;rintro _ aV ⟨_,_,_,_,_,rfl,aW,_,_⟩;refine bdB aa λaX aY ab=>dEg z z z G z (fc call165 z<|W_w4g (B:=aV.z) aY zr (c_.rep aW)<|repS.mono kR kM) iB ?_;rintro _ _ ⟨_,rfl⟩;exact dRg z z z G z (not_ z)<|dR z z (pF z G z)<|pD (λ_ q=>⟨!aX,som ab,kaA q,kW⟩)
 rintro aZ _ ⟨xg,rfl,_,_⟩;revert aZ;refine Wo<|Wc z (λhch=>?_) (λhch=>?_)
 .exact Ws<|R z (bQ [] [vI 0,Str.v (⟨[]⟩:Str),vI 0,sN] e_O z z)<|Rm z<|E0q [vI 0,Str.v (⟨[]⟩:Str),vI 0,sN] a_8 z z kB z λbc b0 _=>Ra z<|Rw z<|Wr<|rS3 (ifT hmx hch) hr (m_ b_L a_8 z b0 z) z z ⟨kW,none,0,0,[],z,ii z,lb z,ii z,onL,W,E_,an_⟩
 exact Wk<|Ws<|R z (lC [vI (b_ x4),Str.v (⟨x5⟩:Str),vI<|b_ x6,sl L O V] b_L a_8 z)<|RM z z<|R z (add_ z z)<|R z (add_ z z)<|Rm z<|R z (add_ z z)<|E0q [vI (b_ x4),Str.v (⟨x5⟩:Str),vI<|b_ x6,sl L O V] a_8 z z kB z λbe b1 _=>Ra z<|Rw z<|Wr<|rS3 (ifF hmx hch) hr (m_ b_L a_8 z b1 z) z z ⟨kW,L,O,V,aF,z,d_z _,repS.len hb,d_z _,kO,iA _ _,aG,sQ⟩
theorem W_w4h {x1:Log}{res:Bool}(hm:m_B n x1=some res)(a9:B<=w0.z)(a8:rp w0 B A0 N0 C0 x1.bytes)(a0:inI x1.stored):Calls prog 98 [(.agg #[sl A0 N0 C0,vI x1.stored])].toArray w0 (s_R (.iface 148<|.agg #[])<|λq w'=>q=res/\Bw w0 w'):=by
 unfold m_B at hm
 obtain ⟨_,hf,hb,hN,hr⟩:=fnE func98;refine y_h hf (hb.trans z) (hN.trans z) (lb z)<|Ws<|EvX [sl A0 N0 C0,vI x1.stored] z z z λwm _ W=>?_
 refine Wn<|Wq<|Ws<|Rf z f_x z<|R z (l0 g_3 z<|W.at z)<|Rf z c_E z<|R z (l0 B_ z<|W.at z)<|R z (lnR h_ z kR) ?_
 obtain ⟨_,en,hme⟩:=bdS hm;refine E z (fc call161 z<|e_n (B:=B) en kM a0 (ii z)<|c_3<|repS.len kR) ?_;rintro _ H ⟨_,rfl⟩;refine R z (not_ z)<|Wx z (λJ=>?_) (λJ=>?_)
 .refine Wg<|R z (bQ [] [] o_M z z)<|R z (d_g o_O (λ_ h=>by cases h) z) ?_
  obtain rfl:=som<|ifT hme J;exact o_z z λ_ ha=>⟨false,.inr ⟨rfl,z,ha.defers,z,kW⟩⟩
 refine Wk<|Ws<|Rf z f_x z<|R z (l0 g_3 z kBa)<|Rq z z z<|Rw z<|Wq<|Ws<|Rw z ?_
 obtain ⟨_,huo,hmf⟩:=bdS<|ifF hme J;refine y_i (σ:=Bool×Int) (ρ:=Bool) (λs a w=>un2 (λx2 x3=>Sat 48 [(1,pt w0.z),(2,vB x2),(3,vI x3)] a/\Below H.z H w/\inI x3) s) (λs a w=>un2 (λx2 x3=>Sat 48 [(2,vB x2)] a/\Below H.z H w/\inI x3) s) (λr ex a w=>r=false/\ex = .panic (m_9<|.iface 148<|.agg #[])/\a.defers=[]/\Below w0.z w0 w) huo ?_ ?_ ?_ ?_
 .exact λ_ q=>⟨q.k<|s3 z z z,br H,ii z⟩
 .rintro ⟨x2,x3⟩ _ _ _ ⟨hSp,sq,O⟩ hmr;have hmg:=a_0 hmr;refine Wu ?_ hSp;refine Wq<|Wm z<|Rf z c_E z<|R z (l0 B_ z kBa)<|R z (lnR h_ z kR)<|Rl z z z<|Wx z (λL=>?_) (λL=>?_)
  .refine Wk<|Wb<|Ws<|Rf z c_E z<|R z (l0 B_ z kBa)<|Rm z ?_
   obtain ⟨V,ra,_,es,hmh⟩:=N_<|ifT hmg L;refine E z (fc call101 z<|W_w1w (B:=B) es kM kR O) ?_;rintro _ _ ⟨_,au,nv,cw,_,rfl,_,_,_,_,hx,_,_⟩;refine Rm z ?_
   iterate 3 refine Re z z z ?_
   refine EvZ [vI 0,Str.v (⟨[]⟩:Str),vI 0,sN] z f_z z λwy _ Y=>?_
   refine E0q [vI V.kind,Str.v V.name,vI V.version,sl au nv cw] a_8 z z Y z λI _ _=>?_
   refine Ra z<|Rw z<|Wq<|Wm z<|R z (not_ z)<|Wx z (λhcb=>?_) (λhcb=>?_)
   .exact Wg<|R z (bQ [] [] o_M z z)<|R z (d_g o_O (λ_ h=>by cases h) z) (o_z z λ_ ha=>.inr ⟨false,(som<|ifT hmh hcb).symm,z,z,ha.defers,kW⟩)
   refine Wk<|Wm z<|Rw z ?_
   obtain ⟨a5,huj,a1⟩:=bdS<|ifF hmh hcb;refine Wt (λa w=>∃x5,x5=a5/\Sat 48 [(1,pt w0.z),(2,vB x5),(3,vI ra)] a/\Below I.z I w) ?_ ?_
   .refine Wg<|RM z z ?_
    rcases bs x2 with G | G
    .iterate 4 refine Nh z G ?_
     exact R z (pT z G z)<|Ra z<|Wl (λ_ q=>⟨true,som<|ifT huj G,q.k<|s3 z z z,br I⟩)
    exact Rh z G (mv z)<|Rh z G (fd f_x z)<|Rh z G (l0 g_3 z kBa)<|Rh z G (eql z z)<|R z (pF z G z)<|Ra z<|Wl (λ_ q=>⟨ra==x1.stored,som<|ifF huj G,q.k<|s3 z z z,br I⟩)
   rintro a6 _ ⟨x5,rfl,_,_⟩;revert a6;exact λ_ q=>⟨(x5,ra),(som a1).symm,⟨q.k<|s3 z z z,kW,hx⟩⟩
  exact We<|λ_ q=>a_X (som<|ifF hmg L).symm ⟨q.k<|s1 z,sq,O⟩
 .rintro ⟨x2,x3⟩ a7 _ rfl ⟨_,_,O⟩;have a2:=elL hmf;have hmk:=a_0 a2;revert a7;refine Wo<|Wm z<|R z (not_ z)<|Wx z (λhcc=>?_) (λhcc=>?_)
  .refine Wg<|R z (bQ [] [] o_M z z)<|R z (d_g o_O (λ_ h=>by cases h) z) ?_
   obtain rfl:=som<|ifT hmk hcc;exact o_z z λ_ ha=>⟨false,.inr ⟨rfl,z,ha.defers,z,kW⟩⟩
  refine Z_ ?_;obtain rfl:=som<|ifF hmk hcc;exact ret0 hr ⟨rfl,kW⟩
 rintro _ exl _ _ rfl ⟨rfl,rfl,a3,exl⟩;have a4:=elR hmf;obtain rfl:=som a4;exact ⟨⟨false,.inr ⟨rfl,z,a3,z,exl⟩⟩,_,z⟩
theorem z_I (w:World):(Instr.typeAssert (.iface 148<|.agg #[]) 20 148 true).run Tryz.prog w = .ok (.tuple #[.agg #[],.bool true]) w:=by kernel_rfl
theorem z_J (w:World):(Instr.typeAssert .nilIface 20 148 true).run Tryz.prog w = .ok (.tuple #[.agg #[],.bool false]) w:=by kernel_rfl
set_option maxRecDepth 4000 in
theorem z_K (p:Addr)(b:Bool)(older:List PanicEntry)(w:World)(hc:w.cell? p=some (vB b))(hz:w.frozen? p=false)(hp:p.block<w.heap.size) :
    CallsD Tryz.prog 97 #[.pointer (some p)] (.panicking ({ v:=.iface 148<|.agg #[],recovered:=false }::older)) w λe u' w' =>
      e = .returned (.tuple #[])/\u' = .panicking ({ v:=.iface 148<|.agg #[],recovered:=true }::older)/\w'=(w.alloc<|.cells #[] 148).setCell p (vB false):=by
  refine callsD_of_wpS Tryz.func97 rfl λc₀ cs hu=>?_
  apply wpS_seq
  apply wpS_region
  simp [wpOpsS,go_sem,recoverD,hu,Tryz.ntmps97,Exit.thenS,z_I]
  apply wpS_seq
  apply wpS_region
  simp [wpOpsS,go_sem,Exit.thenS]
  refine wpS_cond (t:=true) (by simp [Act.eval]) ?_
  simp only [if_true]
  apply wpS_region
  have hb:=b_s w<|.cells #[] 148;have G:(w.alloc<|.cells #[] 148).cell? p=some (vB b):=(hb.cell (p:=p) hp).trans hc;have H:(w.alloc<|.cells #[] 148).frozen? p=false:=(hb.frozen (p:=p) hp).trans hz
  simp [wpOpsS,go_sem,bodyPostS,results,Tryz.results97,G,H]
set_option maxRecDepth 4000 in
theorem z_L (p:Addr)(w:World) :
    CallsD Tryz.prog 97 #[.pointer (some p)] .returning w λe u' w'=>e = .returned (.tuple #[])/\u' = .returning/\w'=w.alloc (.cells #[] 148):=by
  refine callsD_of_wpS Tryz.func97 rfl λc₀ cs hu=>?_
  apply wpS_seq
  apply wpS_region
  simp [wpOpsS,go_sem,recoverD,hu,Tryz.ntmps97,Exit.thenS,z_J]
  apply wpS_seq
  apply wpS_region
  simp [wpOpsS,go_sem,Exit.thenS]
  refine wpS_cond (t:=false) (by simp [Act.eval]) ?_
  simp only [Bool.false_eq_true,if_false]
  refine wpS_of_wp<|wp_skip ?_
  cases c₀
  simp_all [bodyPostS,results,Tryz.results97]
theorem z_M {w0:World}{a b:Value}:(∀w',Below ((w0.alloc (.cells #[a,b] 36)).alloc (.cells #[.bool false] 4)).heap.size ((w0.alloc (.cells #[a,b] 36)).alloc (.cells #[.bool false] 4)) w' ->
    (w'.cell? ⟨w0.heap.size+1,0,none⟩=some (vB false)/\w'.frozen? ⟨w0.heap.size+1,0,none⟩=false/\Bw w0 w'/\w0.heap.size+1<w'.heap.size))/\Below w0.heap.size w0 ((w0.alloc (.cells #[a,b] 36)).alloc (.cells #[.bool false] 4)):=by
  have hB1:Below w0.heap.size w0 ((w0.alloc<|.cells #[a,b] 36).alloc (.cells #[.bool false] 4)) :=
    (b_s w0 _).trans ((b_s (w0.alloc<|.cells #[a,b] 36)<|.cells #[.bool false] 4).mono (by simp))
  refine ⟨λw' hb=>?_,hB1⟩;have hs0:((w0.alloc<|.cells #[a,b] 36).alloc (.cells #[.bool false] 4)).heap.size=w0.heap.size+2:=by simp
  have hsz:=hb.size;refine ⟨(hb.cell (p:=⟨w0.heap.size+1,0,none⟩) (by rw [hs0];simp only;omega)).trans (by simp [go_sem]),(hb.frozen (p:=⟨w0.heap.size+1,0,none⟩) (by rw [hs0];simp only;omega)).trans (by simp [go_sem]),hB1.trans<|hb.mono hB1.size,by omega⟩
theorem W_w1x {n:Nat}{B:Zone}{x1:Log}{A0:Option Addr}{N0 C0:Nat}{res:Bool}{w0:World}(hm:k_U n x1=some res)(V:B<=w0.heap.size)(O:rp w0 B A0 N0 C0 x1.bytes)(W:inI x1.stored):g_ Tryz.prog 63 [(.agg #[(sl A0 N0 C0),(vI x1.stored)])] w0 (λv w'=>Bw w0 w'/\vB res=v):=by
  constructor
  have hmf:∀(fn:Fn)(first cap:Array Value)(w:World),(Instr.makeFunc fn first cap).run Tryz.prog w = .ok (.func fn first cap) w:=λ_ _ _ _=>rfl
  have L:=z_M (w0:=w0) (a:=sl A0 N0 C0) (b:=vI x1.stored);have hmb:=W_w4h hm (zt' V L.2.size) (O.ext L.2) W;have H:=Lib.hid L.1
  clear L hm O V
  go_enter_defers Tryz.func63,Tryz.ntmps63
  go_wp2_with (go_at_call 98;refine hmb.mono ?_;(rintro e w' (⟨v,rfl,rfl,hb⟩ | ⟨rfl,rfl,hb⟩) <;> (obtain ⟨hc,hz,hB,hsz⟩:=H.out _ hb;clear hmb hb H)))
  . refine leaves_cons (f:=97) (args:=#[.pointer (some ⟨w0.heap.size+1,0,none⟩)]) (by simp) (by simp [go_sem]) ?_
    refine (z_L _ _).mono ?_;rintro e u' w'' ⟨rfl,rfl,rfl⟩;have G:=hB.setCell (p:=⟨w0.heap.size+1,0,none⟩) (by simp)<|vB true;have I:=G.trans<|(b_s (w'.setCell ⟨w0.heap.size+1,0,none⟩<|vB true)<|.cells #[] 148).mono G.size
    have J:((w'.setCell ⟨w0.heap.size+1,0,none⟩<|vB true).alloc (.cells #[] 148)).cell? ⟨w0.heap.size+1,0,none⟩=some (vB true) :=
      ((b_s (w'.setCell ⟨w0.heap.size+1,0,none⟩<|vB true)<|.cells #[] 148).cell (p:=⟨w0.heap.size+1,0,none⟩) (by simpa using hsz)).trans (World.cell?_setCell_same _ _ _ hc)
    simp [Leaves,settle,results,Tryz.results63,go_sem,J]
    exact I
  . refine leaves_cons (f:=97) (args:=#[.pointer (some ⟨w0.heap.size+1,0,none⟩)]) (by simp) (by simp [go_sem]) ?_
    refine (z_K ⟨w0.heap.size+1,0,none⟩ false [] _ hc hz hsz).mono ?_;rintro e u' w'' ⟨rfl,rfl,rfl⟩;have G:=hB.trans<|(b_s w'<|.cells #[] 148).mono hB.size;have I:=G.setCell (p:=⟨w0.heap.size+1,0,none⟩) (by simp)<|vB false
    have Y:(w'.alloc<|.cells #[] 148).cell? ⟨w0.heap.size+1,0,none⟩=some (vB false) :=
      ((b_s w'<|.cells #[] 148).cell (p:=⟨w0.heap.size+1,0,none⟩) hsz).trans hc
    have J:((w'.alloc<|.cells #[] 148).setCell ⟨w0.heap.size+1,0,none⟩ (vB false)).cell? ⟨w0.heap.size+1,0,none⟩=some (vB false):=World.cell?_setCell_same _ _ _ Y
    simp [Leaves,settle,results,Tryz.results63,go_sem,J]
    exact I
theorem W_w1y {x1:Bt}{res:(List q_)×Int}(hm:i_R n x1=some res)(al:B<=w0.z)(ak:rp w0 B A0 N0 C0 x1):g_ prog 65 [sl A0 N0 C0] w0 (Q14 w0 B res):=by
 unfold i_R at hm;refine goG func65 z z z λfn hr=>Ws<|Ra z<|Rw z<|Ws<|E z (f0 (α:=q_) i_U) ?_;rintro _ J ⟨ai,nj,ck,rfl,_,hl⟩;refine Rw z<|Ws<|Rw z ?_;obtain ⟨_,hum,hme⟩:=bdS hm;refine b_6 (σ:=(List q_)×Int) (ρ:=(List q_)×Int) (λs a w=>un2 (λL x5=>∃a2 H I G,Sat 26 [(0,sl A0 N0 C0),(2,sN),(3,vI 0),(4,sl a2 H I),(5,vI x5)] a/\Cg [w0.z] J w/\c_ w G (sl a2 H I) L/\G.Nodup/\(∀k∈G,k∈[w0.z]∨J.z<=k)/\inI x5) s) (λs a w=>un2 (λL x5=>∃a2 H I G,Sat 26 [(2,sN),(3,vI 0)] a/\Cg [w0.z] J w/\c_ w G (sl a2 H I) L/\G.Nodup/\(∀k∈G,k∈[w0.z]∨J.z<=k)/\inI x5) s) (rQ prog fn<|Q14 w0 B) hum ?_ ?_ ?_ ?_
 .exact λ_ q=>⟨ai,nj,ck,[w0.z],kaA q,cr [w0.z] J,hl,S_,sQ,ii z⟩
 .rintro ⟨L,x5⟩ _ _ _ ⟨a2,H,I,G,hSn,_,ho,O,hp,V⟩ hmq;refine Wu ?_ hSn;refine Wb<|Wm z<|Rm z ?_;obtain ⟨r1,rs,_,et,hmf⟩:=N_<|a_0 hmq;refine E z (fc call101 z<|W_w1w (B:=B) et kM kR V) ?_;rintro _ _ ⟨_,aa,nb,cc,Sv,rfl,hw,hx,hy,_,hz,a5,_⟩;refine Rm z ?_;iterate 3 refine Re z z z ?_
  refine EvZ [vI 0,Str.v (⟨[]⟩:Str),vI 0,sN] z f_z z λam _ W=>E0q [vI r1.kind,Str.v r1.name,vI r1.version,sl aa nb cc] a_8 z z W z λa6 an _=>Ra z<|Rw z<|Wq<|Wm z<|R z (not_ z)<|Wx z (λhcd=>?_) (λhcd=>?_)
  .exact Wm z<|Rm z<|Ra z<|Rw z<|Wr<|rtO<|qL (som<|ifT hmf hcd).symm<|b_r hr z z ⟨kW,a2,H,I,G,z,kO,V,O,sQ⟩
  refine Wk<|Wm z<|R z (lC [vI r1.kind,Str.v r1.name,vI r1.version,sl aa nb cc] b_L a_8 z)<|E z (fS [(.tmp 22)] i_U z z z (a_i z) (lb z)<|lb z) ?_;rintro _ a7 ⟨rfl,hh⟩;have:=hh.below;have Y:Blk a7 a6.z [vI r1.kind,Str.v r1.name,vI r1.version,sl aa nb cc]:=hh.blk;refine bdB (ifF hmf hcd) λa8 a9 a0=>E z (a_W (α:=q_) i_U a9 z z kO O Y (p_K (x:=r1) (S1:=Sv) hw hx hy kO) sQ a5) ?_;rintro _ _ ⟨ab,ad,ae,af,rfl,_,ah,aj,_⟩;exact Rw z<|Wg<|Rm z<|Ra z<|Wl (λ_ q=>⟨(a8,rs),(som a0).symm,⟨ad,ae,af,ab,kaA q,kW,ah,aj,sQ,hz⟩⟩)
 .rintro ⟨L,x5⟩ _ _ rfl ⟨a2,H,I,G,_,_,ho,O,hp,V⟩;have a1:=elL hme;exact nomatch (show none=some _ from (a_0 a1))
 exact lqA hme λ_ _ h=>h.2
theorem W_w4i {x1:o_}{x2:q_}{b2 o2:Nat}{res:Bool}(hm:m_C x1 x2=some res)(a0:B<=w0.z)(I:x1.name.b.length<=LEN)(J:inI x1.version)(L:rp w0 B AF NF CF x1.data)(O:inI x2.kind)(V:x2.name.b.length<=LEN)(W:inI x2.version)(Y:rp w0 B AJ NJ CJ x2.data)(hC2:r_ w0 b2 o2 [vI x2.kind,Str.v x2.name,vI x2.version,sl AJ NJ CJ])(hC2b:B b2):g_ prog 100 [(.agg #[Str.v x1.name,vI x1.version,sl AF NF CF]),(pq b2 o2)] w0 (Q11 w0 B res):=by
 unfold m_C at hm;exact goG func100 z z z λfn hr=>Ws<|EvX [Str.v x1.name,vI x1.version,sl AF NF CF] z z z λw1 G H=>Rw z<|Ws<|Rf z m_O z<|R z (l0 g_9 z<|H.at z)<|Rf z e_R z<|R z (l0 g_9 z<|kCa (o:=o2) (j:=1))<|R z (a_Q z z)<|Rw z<|Wr<|rS1 hm hr z ⟨G,z⟩
theorem W_w4j {x1:List o_}{G:q_}{pa2c0_3:Option Addr}{pn2c0_3 pc2c0_3:Nat}{H I:Nat}{res:Int}(hm:k_V x1 G=some res)(a6:B<=w0.z)(J:rp w0 B A0 N0 C0 x1)(p2c0_0:inI G.kind)(p2c0_1:G.name.b.length<=LEN)(p2c0_2:inI G.version)(p2c0_3:rp w0 B pa2c0_3 pn2c0_3 pc2c0_3 G.data)(a5:r_ w0 H I [vI G.kind,Str.v G.name,vI G.version,sl pa2c0_3 pn2c0_3 pc2c0_3])(Y:B H):g_ prog 99 [sl A0 N0 C0,(.func (.func 100) #[] #[(pq H I)])] w0 (Q0 w0 B res):=by
 unfold k_V at hm;refine goG func99 z z z λfn hr=>Ws<|Rw z<|Wq<|Wm z<|R z (lnR c_s z J)<|Rm z<|Wn<|bdB hm λ_ hua a0=>Wf (σ:=Unit) (ρ:=Int) (λ(k7:Nat)(_:Unit) a w=>Sat 19 [(1,.func (.func 100) #[] #[(.pointer<|some ⟨H,I,none⟩)]),(7,sl A0 N0 C0),(8,vI (x1.length:Int)),(9,vI ((k7:Nat):Int))] a/\Below w0.z w0 w) (λ(_:Unit) a w=>Sat 19 [] a/\Below w0.z w0 w) (rQ prog fn<|Q0 w0 B) hua ?_ ?_ ?_ ?_ ?_
 .exact λ_ q=>⟨kaA q,br w0⟩
 .rintro k7 _ _ _ _ L ⟨hSc,_⟩ hmd;refine Wu ?_ hSc;refine Ws<|Rl z z z<|Wn<|Wq<|Wc z (λ_=>?_) (λhc=>(J_ L hc).elim);refine Wk<|Wq<|Wb<|Wm z<|bdB hmd λx0 ee hmf=>xA (α:=o_) z c_s b_b z z z kR ee λ_ _ _ hg hh _=>?_;obtain ⟨a2,V,W,rfl,hi,hj,_⟩:=g_O hh;refine R z (lN (vs:=[Str.v x0.name,vI x0.version,sl a2 V W]) e_N b_b z z fid hg)<|EvZ [(Str.v (⟨[]⟩:Str)),vI 0,sN] z i_W z λwk _ a3=>Ra z<|E0q [Str.v x0.name,vI x0.version,sl a2 V W] b_b z z a3 z λa7 hl a4=>Wn<|Wm z<|R z (lC [Str.v x0.name,vI x0.version,sl a2 V W] e_N b_b z)<|bdB hmf λ_ en a1=>E z (d_y call100 z z<|W_w4i (B:=B) en kM hi hj kR p2c0_0 p2c0_1 p2c0_2 kR (r_.chg kC a4<|sQB Y) Y) ?_;rintro _ _ ⟨_,rfl⟩;refine Wx z (λO=>?_) (λO=>?_)
  .exact Wm z<|Rw z<|Wr<|rtO<|qL (som<|ifT a1 O).symm<|a_s hr z ⟨kW,z,ic (QAO L)<|lt_ (repS.len J) u_⟩
  exact Wk<|Wg<|R z (inc_ L (lt_ (repS.len J) u_) z z)<|Rm z<|Wl (λ_ q=>⟨(),(som<|ifF a1 O).symm,⟨kaA q,kW⟩⟩)
 .rintro _ _ _ ⟨hSo,sp⟩;refine Wu ?_ hSo;refine Ws<|Rl z z z<|Wn<|Wq<|Wc z (λhc=>(K_ hc).elim) (λ_=>?_);exact We<|λ_ q=>⟨rfl,⟨q.k sn,sp⟩⟩
 .rintro _ aq _ rfl ⟨_,sr⟩;have hms:=elL a0;revert aq;exact Wo<|Ws<|Rw z<|Wr<|rS1 hms hr z ⟨sr,z,ii z⟩
 exact lqA a0 λ_ _ h=>h.2
theorem W_w1z {x1:H_}{b1 o1:Nat}{res:(List o_)}(hm:i_S n x1=some res)(bO:B<=w0.z)(bK:rp w0 B A0 N0 C0 x1.registry.versions)(bM:rp w0 B A1 N1 C1 x1.log.bytes)(bN:inI x1.log.stored)(hC1:r_ w0 b1 o1 [sl A0 N0 C0,sl A1 N1 C1,vI x1.log.stored])(hC1b:B b1):g_ prog 64 [(pq b1 o1)] w0 (Q15 w0 B res):=by
 unfold i_S at hm;refine goG func64 z z z λfn hr=>Ws<|Rw z<|Ws<|E z (t_d (α:=o_) c_R B) ?_;rintro _ wd ⟨aO,rfl,_,_⟩;refine Rw z<|Wm z<|R z (L_ z)<|Rf z d_u z<|Rf z c_E z<|R z (l0 B_ z<|kCa (o:=o1) (j:=1)) ?_;obtain ⟨rg,_,aP,aq⟩:=V_ hm;refine E z (fc call65 z<|W_w1y (B:=B) aP kM kR) ?_;rintro _ I ⟨_,ah,ni,cj,_,rfl,ho,_,_,ai⟩;refine Rm z<|Re z z z<|Re z z z<|Ra z<|Rw z<|Wq<|Wm z<|R z (lnR d_w z<|or_ ho<|zin (B:=B) ai<|c_.lt ho)<|Rm z<|Wn<|bdB aq λ_ au a8=>Wf (σ:=List o_) (ρ:=List o_) (λ(ke:Nat)(O:List o_) a w=>∃a2 G H S1,Sat 69 [(3,sl a2 G H),(20,sl ah ni cj),(21,vI (rg.length:Int)),(22,vI ((ke:Nat):Int))] a/\Below I.z I w/\X_ w S1 (zn B wd.z I.z) (sl a2 G H) O/\S1.Nodup/\(∀k∈S1,I.z<=k)) (λ(O:List o_) a w=>∃a2 G H S1,Sat 69 [(3,sl a2 G H)] a/\Below I.z I w/\X_ w S1 (zn B wd.z I.z) (sl a2 G H) O/\S1.Nodup/\(∀k∈S1,I.z<=k)) (rQ prog fn<|Q15 w0 B) au ?_ ?_ ?_ ?_ ?_
 .exact λ_ q=>⟨aO,0,0,([]:List Nat),kaA q,br I,X_.mono kH f_a,E_,an_⟩
 .rintro ke O _ aj _ a9 ⟨a2,G,H,S1,aw,_,hf,V,hk⟩ ax;refine Wu ?_ aw;refine Ws<|Rl z z z<|Wn<|Wq<|Wc z (λ_=>?_) (λhc=>(J_ a9 hc).elim);refine Wk<|Wq<|Wb<|Ws<|bdB ax λx0 aQ ay=>xA (α:=q_) z d_w a_8 z z z (or_ kO<|zin (B:=B) ai<|c_.lt ho) aQ λ_ _ _ aR aS _=>?_;obtain ⟨aa,nb,cc,rfl,aT,a4,a5,_⟩:=g_P aS;refine R z (lN (vs:=[vI x0.kind,Str.v x0.name,vI x0.version,sl aa nb cc]) b_L a_8 z z fid aR)<|EvZ [vI 0,Str.v (⟨[]⟩:Str),vI 0,sN] z f_z z λaU _ a7=>E0q [vI x0.kind,Str.v x0.name,vI x0.version,sl aa nb cc] a_8 z z a7 z λbP aV _=>Wn<|Wm z<|R z (h_W z)<|bdB ay λak aW aA=>E z (fc call99 z<|W_w4j (B:=zn B wd.z aU.z) aW (f_U kM kM) (repS.mono (X_.rep kH (zall (zin (B:=B) hk<|X_.lt hf)<|b_O kM lr)<|b_O lr kM)<|b_O lr kM) aT a4 a5 (repS.mono kR<|b_O lr kM) (aV.row 0 4 z)<|zap' (b_O kM lr)<|atp<|zin (B:=B) (i:=aj.z) sQ<|e_v a7.lt) ?_;rintro _ aX ⟨_,rfl,_⟩;refine Rw z<|Ws<|Rf z e_R z<|R z (l0 g_9 z kBa)<|Rf z d_T z<|R z (l0 g_3 z kBa)<|Rf z e_S z<|R z (l0 B_ z kBa)<|R z (bQ [(0,.tmp 30),(1,.tmp 32),(2,.tmp 34)] [Str.v x0.name,vI x0.version,sl aa nb cc] m_K z z)<|EvZ [(Str.v (⟨[]⟩:Str)),vI 0,sN] z i_W z λbR _ an=>E0q [Str.v x0.name,vI x0.version,sl aa nb cc] b_b z z an z λwp _ _=>Wn<|Wb<|Wq<|bdB aA λaY ab aB=>?_;refine Wt (λa w=>∃a6,a6=aY/\Sat 69 [(3,sl a2 G H),(7,pt aj.z),(8,vI ak),(9,pt aX.z),(20,sl ah ni cj),(21,vI (rg.length:Int)),(22,vI ((ke:Nat):Int)),(36,vB a6)] a/\Below wp.z wp w) ?_ ?_
  .refine Wg<|Rf z d_S z<|R z (l0 g_3 z kBa)<|Rq z z z<|Rm z ?_;rcases bs (x0.kind==1) with J | J
   .exact Rh z J (mv z)<|Rh z J (b_u z z)<|R z (pT z J z)<|Ra z<|Wl (λ_ q=>⟨decide<|0<=ak,som<|ifT ab J,kaA q,br wp⟩)
   exact Nh z J<|Nh z J<|R z (pF z J z)<|Ra z<|Wl (λ_ q=>⟨false,som<|ifF ab J,kaA q,br wp⟩)
  rintro aZ L ⟨a6,rfl,_,_⟩;revert aZ;refine Wo<|bdB aB λb0 ad aC=>Wt (λa w=>∃xq,xq=b0/\∃ar ns ct Sl,Sat 69 [(3,sl ar ns ct),(20,sl ah ni cj),(21,vI (rg.length:Int)),(22,vI ((ke:Nat):Int))] a/\Cg S1 L w/\X_ w Sl (zn B wd.z I.z) (sl ar ns ct) xq/\Sl.Nodup/\(∀k∈Sl,k∈S1∨L.z<=k)) ?_ ?_
  .refine Wc z (λa0=>?_)<|λa0=>?_
   .refine Wg<|RM z z<|R z (lC [Str.v x0.name,vI x0.version,sl aa nb cc] e_N b_b z)<|bdB (ifT ad a0) λb2 al aD=>RX z (y_y (α:=o_) c_s b_b z z kH al) ?_;rintro _ ⟨_,b3,rfl⟩;refine E0 (y_s (α:=o_) b_b z b3 z z z al kH V (j_4 (x:=(⟨x0.name,x0.version,x0.data⟩:o_)) a4 a5 kR) sQ) ?_;rintro _ _ ⟨b4,_,b5,b6,_⟩;exact Wl<|λ_ q=>⟨b2,som aD,a2,G,H,b4,kaA q,kW,b5,b6,sQ⟩
   refine Ws<|Rf z d_S z<|R z (l0 g_3 z kBa)<|Rq z z z<|Rw z<|bdB (ifF ad a0) λb7 ae aE=>Wt (λa w=>∃xu,xu=b7/\∃av nw cx Sm,Sat 69 [(3,sl av nw cx),(20,sl ah ni cj),(21,vI (rg.length:Int)),(22,vI ((ke:Nat):Int))] a/\Cg S1 L w/\X_ w Sm (zn B wd.z I.z) (sl av nw cx) xu/\Sm.Nodup/\(∀k∈Sm,k∈S1∨L.z<=k)) ?_ ?_
   .refine Wc z (λa1=>?_)<|λa1=>?_
    .refine Wg<|Rm z<|R z (lC [Str.v x0.name,vI x0.version,sl aa nb cc] e_N b_b z)<|E z (fS [(.tmp 53)] c_R z z z (a_i z) (lb z)<|lb z) ?_;rintro _ b8 ⟨rfl,am⟩;have:=am.below;have ap:Blk b8 L.z [Str.v x0.name,vI x0.version,sl aa nb cc]:=am.blk;refine bdB (ifT ae a1) λb9 ba aF=>E z (m_i (α:=o_) c_R ba z z kH V ap (j_4 (x:=(⟨x0.name,x0.version,x0.data⟩:o_)) a4 a5 kR) sQ) ?_;rintro _ _ ⟨bb,bc,be,bf,rfl,_,bg,bh,_⟩;exact Ra z<|Wl (λ_ q=>⟨b9,som aF,bc,be,bf,bb,kaA q,kW,bg,bh,sQ⟩)
    refine Wm z<|R z (b_u z z)<|Rw z<|bdB (ifF ae a1) λbi af aG=>Wt (λa w=>∃xy,xy=bi/\∃az W Y Sn,Sat 69 [(3,sl az W Y),(20,sl ah ni cj),(21,vI (rg.length:Int)),(22,vI ((ke:Nat):Int))] a/\Cg S1 L w/\X_ w Sn (zn B wd.z I.z) (sl az W Y) xy/\Sn.Nodup/\(∀k∈Sn,k∈S1∨L.z<=k)) ?_ ?_
    .refine Wc z (λa3=>?_)<|λa3=>?_
     .refine Wd (X:=noX) 128 (pl_ 9 [7]) mo (by kernel_rfl) λbS bT _=>dM z z z<|dM z z z<|bdB (ifT af a3) λ_ bj aH=>dRX z z (y_x c_s b_b z kH z bj) ?_;rintro _ ⟨_,rfl,bk⟩;refine dM z z z<|dM z z z<|dR z z (add_ z z)<|bdB aH λ_ bm aI=>dRX z z (y_u c_s b_b z z kH z z bm) ?_;rintro _ ⟨_,_,_,rfl,bn⟩;refine bdB aI λbo bp aJ=>dE z z (y_t (α:=o_) c_R bp z z bk V bn sQ) (.inl z) ?_;rintro _ _ ⟨bq,bt,bu,bv,rfl,_,bw,bx,_⟩;exact dQ z z z<|pD (λ_ q=>⟨bo,som aJ,bt,bu,bv,bq,kaA q,kW,bw,bx,sQ⟩)
     exact Z_<|λ_ q=>⟨O,som<|ifF af a3,a2,G,H,S1,kaA q,cr S1 L,kH,V,sQ⟩
    rintro bz _ ⟨xy,rfl,az,W,Y,Sn,_,_,bA,bB,_⟩;revert bz;exact λ_ q=>⟨xy,som aG,az,W,Y,Sn,kaA q,kW,bA,bB,sQ⟩
   rintro bC _ ⟨xu,rfl,av,nw,cx,Sm,_,_,bD,bE,_⟩;revert bC;exact λ_ q=>⟨xu,som aE,av,nw,cx,Sm,kaA q,kW,bD,bE,sQ⟩
  rintro bF _ ⟨xq,rfl,ar,ns,ct,Sl,_,_,bG,bH,_⟩;revert bF;exact Wo<|Wg<|R z (inc_ a9 (lt_ (c_.len ho) u_) z z)<|Rm z<|Wl (λ_ q=>⟨xq,(som aC).symm,⟨ar,ns,ct,Sl,kaA q,kW,bG,bH,sQ⟩⟩)
 .rintro O _ _ ⟨a2,G,H,S1,aK,bI,hf,V,hk⟩;refine Wu ?_ aK;refine Ws<|Rl z z z<|Wn<|Wq<|Wc z (λhc=>(K_ hc).elim) (λ_=>?_);exact We<|λ_ q=>⟨rfl,⟨a2,G,H,S1,kaA q,bI,hf,V,hk⟩⟩
 .rintro O bJ _ rfl ⟨a2,G,H,S1,_,_,hf,V,hk⟩;have aL:=elL a8;revert bJ;exact Wo<|Wm z<|Rw z<|Wr<|rS1 aL hr z ⟨kW,a2,G,H,z,repS.mono (X_.rep hf (zall (zin (B:=B) hk<|X_.lt hf)<|b_O kM lr)<|b_O lr kM)<|b_O kM lr⟩
 exact lqA a8 λ_ _ h=>h.2
theorem W_w4k {x1:a_9}{x2:Int}{res:Bool}(hm:m_D x1 x2=some res)(a0:B<=w0.z)(W:rp w0 B A0 N0 C0 x1.versions)(Y:inI x2):g_ prog 66 [(.agg #[sl A0 N0 C0]),vI x2] w0 (Q11 w0 B res):=by
 unfold m_D at hm;refine goG func66 z z z λfn hr=>Ws<|EvX [sl A0 N0 C0] z z z λH _ J=>Rw z<|Wq<|bdB hm λO I L=>Wt (λa w=>∃x3,x3=O/\Sat 14 [(4,vB x3)] a/\Below H.z H w) ?_ ?_
 .refine Wg<|Rm z<|R z (b_u z z)<|Rm z ?_;rcases bs (decide<|0<=x2) with G | G
  .exact Rh z G (mv z)<|Rh z G (fd c_D z)<|Rh z G (l0 c_Q z<|J.at z)<|Rh z G (lnR b_M z kR)<|Rh z G (lss z z)<|R z (pT z G z)<|Ra z<|Wl (λ_ q=>⟨decide<|x2<(x1.versions.length:Int),som<|ifT I G,kaA q,br H⟩)
  iterate 5 refine Nh z G ?_
  exact R z (pF z G z)<|Ra z<|Wl (λ_ q=>⟨false,som<|ifF I G,kaA q,br H⟩)
 rintro V _ ⟨x3,rfl,_,_⟩;revert V;exact Wo<|Wr<|rS1 L hr z ⟨kW,z⟩
theorem p_9 {x1:d_}{res:Int}(hm:h_C x1=some res)(J:B<=w0.z)(I:rp w0 B A0 N0 C0 x1.rules):g_ prog 104 [(.agg #[sl A0 N0 C0])] w0 (Q0 w0 B res):=by
 unfold h_C at hm;exact goG func104 z z z λfn hr=>Ws<|EvX [sl A0 N0 C0] z z z λL G H=>Rw z<|Ws<|Rf z a_l z<|R z (l0 a_p z<|H.at z)<|R z (lnR Y_ z kR)<|R z (sb_ z z)<|Rw z<|Wr<|rS1 hm hr z ⟨G,z,iS _ _⟩
theorem n_1 {x1:d_}{x2:Int}{res:Bool}(hm:g_v n x1 x2=some res)(a2:B<=w0.z)(a0:rp w0 B A0 N0 C0 x1.rules)(J:inI x2):g_ prog 72 [(.agg #[sl A0 N0 C0]),vI x2] w0 (Q11 w0 B res):=by
 unfold g_v at hm;refine goG func72 z z z λfn hr=>Ws<|EvX [sl A0 N0 C0] z z z λI _ a1=>Rw z<|Wq<|bdB hm λV L O=>Wt (λa w=>∃x3,x3=V/\Sat 12 [(4,vB x3)] a/\Below I.z I w) ?_ ?_
 .refine Wg<|R z (lC [sl A0 N0 C0] s_ n_ z)<|bdB L λW Y H=>EcA z (fc call96 z<|W_w1t (B:=B) Y kM kR) λ_ sa=>Rm z ?_;rcases bs W with G | G
  .refine Rh z G (lC [sl A0 N0 C0] s_ n_ z)<|Rh z G (mv z)<|bdB (ifT H G) λrb ec hmd=>Eg z z G z (fc call108 z<|p_6 (B:=B) ec kM kR J) ?_;rintro _ _ ⟨_,rfl⟩;exact R z (pT z G z)<|Ra z<|Wl (λ_ q=>⟨rb,som hmd,kaA q,kW⟩)
  iterate 3 refine Nh z G ?_
  exact R z (pF z G z)<|Ra z<|Wl (λ_ q=>⟨false,som<|ifF H G,kaA q,sa⟩)
 rintro ae _ ⟨x3,rfl,_,_⟩;revert ae;exact Wo<|Wr<|rS1 O hr z ⟨kW,z⟩
def Q29 (w0:World)(B:Zone)(r:(Option<|Int×Int))(v:Value)(w':World):Prop:=Bw w0 w'/\(λr1=>∃(v1:Value)(S1:List Nat),v1=v/\a_F 124 w' S1 v1 r1/\(∀k∈S1,w0.z<=k)) r
theorem g_I {x1:Int}{x2:Int}{res:(Option<|Int×Int)}(hm:c_C x1 x2=some res)(L:B<=w0.z)(G:inI x1)(H:inI x2):g_ prog 118 [vI x1,vI x2] w0 (Q29 w0 B res):=by
 unfold c_C at hm;exact goG func118 z z z λfn hr=>Ws<|Rw z<|Wm z<|Rm z<|R z (bQ [(0,.tmp 5),(1,.tmp 6)] [vI x1,vI x2] z_c z z)<|EvX [vI x1,vI x2] z z z λO I J=>R z (d_g d_124 (λ_ h=>by cases h) z)<|Rw z<|Wr<|rS1 hm hr z ⟨I,.iface 124<|pt w0.z,[w0.z],z,u_M J G H z,sQ⟩
def Q30 (w0:World)(B:Zone)(r:Bt×(Option<|Int×Int))(v:Value)(w':World):Prop:=Bw w0 w'/\un2 (λr1 r2=>∃(G:Option Addr)(H I:Nat)(v2:Value)(S2:List Nat),v = .tuple #[sl G H I,v2]/\repS w' w'.z (sl G H I) r1/\a_F 124 w' S2 v2 r2/\(∀k∈S2,w0.z<=k)) r
theorem n_2 {x1:a_D}{b1 o1:Nat}{x2:Int}{x3:Int}{res:Bt×(Option<|Int×Int)}(hm:g_x x1 x2 x3=some res)(I:B<=w0.z)(a0:rp w0 B A0 N0 C0 x1.d.rules)(H:rp w0 B A1 N1 C1 x1.b)(hC1:r_ w0 b1 o1 [sl A0 N0 C0,sl A1 N1 C1])(hC1b:B b1)(J:inI x2)(a1:inI x3):g_ prog 173 [(pq b1 o1),vI x2,vI x3] w0 (Q30 w0 B res):=by
 unfold g_x at hm;refine goG func173 z z z λfn hr=>Ws<|Ra z<|Rw z<|Wq<|Wm z<|Rm z<|R z (L_ z)<|Rf z i_V z<|R z (l0 B_ z<|hC1.at (j:=1) z)<|R z (lnR h_ z H)<|Rm z<|R z (sb_ z z)<|R z (T_ z z)<|Wx z (λG=>?_) (λG=>?_)
 .refine Wm z<|bdB (ifT hm G) λ_ V L=>E z (fc call118 z<|g_I (B:=B) V I J<|ii z) ?_;rintro _ _ ⟨s3,v4,W,rfl,h6,Y⟩;exact Ra z<|Rw z<|Wr<|rS2 L hr z z ⟨s3,none,0,0,v4,W,z,repS.mono (or_ onL an_)<|O_ kM,h6,Y⟩
 refine Wk<|Wm z<|R z (L_ z)<|Rf z i_V z<|R z (l0 B_ z<|hC1.at (j:=1) z)<|RM z z<|Rm z<|R z (add_ z z)<|bdB (ifF hm G) λ_ e8 O=>RX z (rX h_ z_5 z z H z z e8) ?_;rintro _ ⟨aa,nb,cc,rfl,hd⟩;exact Ra z<|Rw z<|Wr<|rS2 O hr z z ⟨br w0,aa,nb,cc,.nilIface,([]:List Nat),z,repS.mono hd I,f_T,an_⟩
theorem W_w20 {x1:Bt}{x2:Bool}{res:Int}(hm:h_D x1 x2=some res)(W:B<=w0.z)(H:rp w0 B A0 N0 C0 x1):g_ prog 174 [sl A0 N0 C0,vB x2] w0 (Q0 w0 B res):=by
 unfold h_D at hm;refine goG func174 z z z λfn hr=>Ws<|Rw z<|Wq<|Wm z<|R z (lnR h_ z H)<|R z (T_ z z)<|Wx z (λI=>?_) (λI=>?_)
 .exact Ws<|Rw z<|Wr<|rS1 (ifT hm I) hr z ⟨br w0,z,ii z⟩
 refine Wk<|Ws<|Rw z<|Wq<|Wm z<|R z (lnR h_ z H)<|Rm z<|Wn<|bdB (ifF hm I) λ_ hua L=>Wf (σ:=Int) (ρ:=Int) (λ(k5:Nat)(x0:Int) a w=>Sat 38 [(0,sl A0 N0 C0),(1,vB x2),(5,vI x0),(11,vI (x1.length:Int)),(12,vI ((k5:Nat):Int))] a/\Below w0.z w0 w/\inI x0) (λ(x0:Int) a w=>Sat 38 [(5,vI x0)] a/\Below w0.z w0 w/\inI x0) (rQ prog fn<|Q0 w0 B) hua ?_ ?_ ?_ ?_ ?_
 .exact λ_ q=>⟨kaA q,br w0,ii z⟩
 .rintro k5 x0 _ G _ O ⟨hSb,_,h2⟩ hmc;refine Wu ?_ hSb;refine Ws<|Rl z z z<|Wn<|Wq<|Wc z (λ_=>?_) (λhc=>(J_ O hc).elim);refine Wk<|Wq<|Wb<|Wm z<|Rw z<|Wm z<|Wn<|bdB hmc λud V hme=>Wt (λa w=>∃x3,x3=ud/\Sat 38 [(0,sl A0 N0 C0),(1,vB x2),(5,vI x3),(11,vI (x1.length:Int)),(12,vI ((k5:Nat):Int))] a/\Below G.z G w/\inI x3) ?_ ?_
  .refine Wc z (λJ=>?_)<|λJ=>?_
   .refine Wg<|Rm z<|R z (j_l z z (by decide))<|RM z z<|R z (lnR h_ z kR)<|R z (sb_ z z)<|Rm z<|R z (sb_ z z)<|bdB (ifT V J) λxf eg hmh=>xA (α:=UInt8) z h_ z_5 z z z kR eg λ_ _ _ hi hj _=>?_;obtain rfl:=u8 hj;exact R z (l0 g_5 z<|hi.at0 z)<|R z (b_n d_5 d_3 z)<|R z (n_q z z)<|Ra z<|Wl (λ_ q=>⟨b_P .i64 (· ||| ·) (b_I .i64 x0 8)<|b_ xf,som hmh,kaA q,br G,p_R _ _ _⟩)
   refine Wg<|Rm z<|R z (j_l z z (by decide))<|RM z z<|bdB (ifF V J) λxk el hmm=>xA (α:=UInt8) z h_ z_5 z z z kR el λ_ _ _ hn ho _=>?_;obtain rfl:=u8 ho;exact R z (l0 g_5 z<|hn.at0 z)<|R z (b_n d_5 d_3 z)<|R z (n_q z z)<|Ra z<|Wl (λ_ q=>⟨b_P .i64 (· ||| ·) (b_I .i64 x0 8)<|b_ xk,som hmm,kaA q,br G,p_R _ _ _⟩)
  rintro ap _ ⟨x3,rfl,_,_,hq⟩;revert ap;exact Wo<|Wg<|R z (inc_ O (lt_ (repS.len H) u_) z z)<|Rm z<|Wl (λ_ q=>⟨x3,(som hme).symm,⟨kaA q,kW,hq⟩⟩)
 .rintro x0 _ _ ⟨hSr,ss,h2⟩;refine Wu ?_ hSr;refine Ws<|Rl z z z<|Wn<|Wq<|Wc z (λhc=>(K_ hc).elim) (λ_=>?_);exact We<|λ_ q=>⟨rfl,⟨kaA q,ss,h2⟩⟩
 .rintro x0 au _ rfl ⟨_,st,h2⟩;have hmv:=elL L;revert au;exact Wo<|Wm z<|Rw z<|Wr<|rS1 hmv hr z ⟨st,z,h2⟩
 exact lqA L λ_ _ h=>h.2
def Q31 (w0:World)(B:Zone)(r:Int×Int×(Option<|Int×Int))(v:Value)(w':World):Prop:=Bw w0 w'/\un3 (λr1 r2 r3=>∃(v1:Value)(S1:List Nat),v = .tuple #[vI r1,vI r2,v1]/\inI r1/\inI r2/\a_F 124 w' S1 v1 r3/\(∀k∈S1,w0.z<=k)) r
theorem n_3 {x1:a_D}{b1 o1:Nat}{x2:Int}{x3:Int}{res:Int×Int×(Option<|Int×Int)}(hm:g_y x1 x2 x3=some res)(a7:B<=w0.z)(a0:rp w0 B A0 N0 C0 x1.d.rules)(a4:rp w0 B A1 N1 C1 x1.b)(hC1:r_ w0 b1 o1 [sl A0 N0 C0,sl A1 N1 C1])(hC1b:B b1)(a6:inI x2)(H:inI x3):g_ prog 109 [(pq b1 o1),vI x2,vI x3] w0 (Q31 w0 B res):=by
 unfold g_y at hm;refine goG func109 z z z λfn hr=>Ws<|RA z z<|Rw z<|Wm z<|R z (L_ z)<|Rf z t_k z<|Rf z a_l z<|R z (l0 a_p z<|hC1.at (j:=0) z)<|Rm z<|bdB hm λx4 eh hmi=>xA (α:=f_) z Y_ l_ z z z a0 eh λ_ _ _ hj hk _=>?_;obtain ⟨I,J,L,O,V,W,Y,n9,ca,ab,nc,cd,rfl,_,_,hl,_,_,_,_⟩:=a_T hk;refine R z (lN (vs:=vR x4 I J L O V W Y n9 ca ab nc cd) G_ l_ z z fid hj)<|EvZ [(Str.v (⟨[]⟩:Str)),vI 0,vI 0,vB false,sN,sN,sN,sN] z c_t z λwm _ a2=>E0q (vR x4 I J L O V W Y n9 ca ab nc cd) l_ z z a2 z λa9 hn a3=>Wn<|Wm z<|Rm z<|Rf z a_V z<|R z (l0 g_3 z<|hn.at z) ?_;obtain ⟨_,_,ep,hmf⟩:=V_ hmi;refine E z (fc call173 z<|n_2 (B:=B) ep kM kR kR (r_.chg kC a3<|sQB hC1b) hC1b H hl) ?_;rintro _ wq ⟨_,_,_,_,vr,Ss,rfl,_,hg,_⟩;refine Rm z<|Re z z z<|Re z z z<|Ra z<|Rw z<|Wq<|Wm z<|R z (f_7 f_y z z hg)<|Wx z (λG=>?_) (λG=>?_)
 .exact Wm z<|Rm z<|RA z z<|Rw z<|Wr<|rS3 (ifT hmf G) hr z z z ⟨kW,vr,Ss,z,ii z,H,hg,sQ⟩
 refine Wk<|Wq (Wd (X:=noX) 0 (.rd 0<|.rd 1<|.rd 2<|.rd 4<|.rd 5<|.rd 6<|.rd 7<|.ef 3<|.rd 8<|.rd 9<|.rd 10 .done) mo (by kernel_rfl) λaa ad _=>dM z z z<|dR z z (fd e_k z)<|dR z z (l0 g_4 z kBa)<|dM z z z<|dR z z (fd a_V z)<|dR z z (l0 g_3 z kBa)<|dR z z (add_ z z) ?_);refine bdB (ifF hmf G) λ_ et hmu=>dE z z (fc call174 z<|W_w20 (B:=wq.z) et (O_ kM) kR) iB ?_;rintro _ _ ⟨_,rfl,hv⟩;iterate 3 refine dQ z z z ?_
 exact pD<|Wo<|Wr<|rS3 hmu hr z z z ⟨kW,.nilIface,([]:List Nat),z,hv,iA _ _,f_T,an_⟩
def Q32 (w0:World)(B:Zone)(r:Int×(Option<|Int×Int))(v:Value)(w':World):Prop:=Bw w0 w'/\un2 (λr1 r2=>∃(v1:Value)(S1:List Nat),v = .tuple #[vI r1,v1]/\inI r1/\a_F 124 w' S1 v1 r2/\(∀k∈S1,w0.z<=k)) r
theorem W_w4l {x1:a_D}{b1 o1:Nat}{x2:f_}{x3:Int}{res:Int×(Option<|Int×Int)}(hm:k_d x1 x2 x3=some res)(aa:B<=w0.z)(a2:rp w0 B A0 N0 C0 x1.d.rules)(a3:rp w0 B A1 N1 C1 x1.b)(hC1:r_ w0 b1 o1 [sl A0 N0 C0,sl A1 N1 C1])(hC1b:B b1)(a4:x2.name.b.length<=LEN)(a5:inI x2.kind)(a6:inI x2.size)(Y:rp w0 B A4 N4 C4 x2.bytes)(a7:rp w0 B A5 N5 C5 x2.names)(a8:rp w0 B A3 N3 C3 x2.tags)(a9:rp w0 B A6 N6 C6 x2.kids)(H:inI x3):g_ prog 110 [(pq b1 o1),.agg #[Str.v x2.name,vI x2.kind,vI x2.size,vB x2.little,sl A4 N4 C4,sl A5 N5 C5,sl A3 N3 C3,sl A6 N6 C6],vI x3] w0 (Q32 w0 B res):=by
 unfold k_d at hm;refine goG func110 z z z λfn hr=>Ws<|EvX (vR x2 A4 N4 C4 A5 N5 C5 A3 N3 C3 A6 N6 C6) z z z λG _ a0=>Ra z<|Rw z<|Wq<|Ws<|Rf z b_F z<|R z (l0 B_ z<|a0.at z)<|R z (lnR h_ z kR)<|Rm z<|Wn<|bdB hm λ_ a1 L=>Wf (σ:=Unit) (ρ:=Int×(Option<|Int×Int)) (λ(k5:Nat)(_:Unit) a w=>Sat 52 [(0,.pointer<|some ⟨b1,o1,none⟩),(2,vI x3),(4,pt w0.z),(11,sl A4 N4 C4),(12,vI (x2.bytes.length:Int)),(13,vI ((k5:Nat):Int))] a/\Below G.z G w) (λ(_:Unit) a w=>Sat 52 [(2,vI x3),(4,pt w0.z)] a/\Below G.z G w) (rQ prog fn<|Q32 w0 B) a1 ?_ ?_ ?_ ?_ ?_
 .exact λ_ q=>⟨kaA q,br G⟩
 .rintro k5 _ _ _ _ O ⟨hSa,sb⟩ hmc;refine Wu ?_ hSa;refine Ws<|Rl z z z<|Wn<|Wq<|Wc z (λ_=>?_) (λhc=>(J_ O hc).elim);refine Wk<|Wq<|Wb<|Wm z<|bdB hmc λ_ ed V=>xA (α:=UInt8) z h_ z_5 z z z kR ed λ_ _ _ he hf _=>?_;obtain rfl:=u8 hf;refine R z (l0 g_5 z<|he.at0 z)<|Ra z<|Rw z<|Wq<|Wm z<|Rm z<|R z (add_ z z)<|Rm z<|R z (L_ z)<|Rf z i_V z<|R z (l0 B_ z<|kCa (o:=o1) (j:=1))<|R z (lnR h_ z kR)<|R z (b_u z z)<|Wx z (λI=>?_) (λI=>?_)
  .refine Wm z<|Rm z<|bdB (ifT V I) λ_ eg hmh=>E z (fc call118 z<|g_I (B:=B) eg kM H<|ii z) ?_;rintro _ _ ⟨_,vi,Sj,rfl,hk,_⟩;exact Ra z<|Rw z<|Wr<|rtO<|qL (som hmh).symm<|b_r hr z z ⟨kW,vi,Sj,z,H,hk,sQ⟩
  refine Wk<|Wm z<|R z (L_ z)<|Rf z i_V z<|R z (l0 B_ z<|kCa (o:=o1) (j:=1))<|RM z z<|R z (add_ z z)<|bdB (ifF V I) λ_ el W=>xA (α:=UInt8) z h_ z_5 z z z kR el λ_ _ _ hn ho _=>?_;obtain rfl:=u8 ho;refine R z (l0 g_5 z<|hn.at0 z)<|Rm z<|R z (nq z z)<|Wx z (λJ=>?_) (λJ=>?_)
  .refine Wm z<|RM z z<|R z (add_ z z)<|bdB (ifT W J) λ_ em hmp=>E z (fc call118 z<|g_I (B:=B) em kM (iA _ _)<|ii z) ?_;rintro _ _ ⟨_,vq,Sr,rfl,ht,_⟩;exact Ra z<|Rw z<|Wr<|rtO<|qL (som hmp).symm<|b_r hr z z ⟨kW,vq,Sr,z,H,ht,sQ⟩
  exact Wk<|Wg<|R z (inc_ O (lt_ (repS.len Y) u_) z z)<|Rm z<|Wl (λ_ q=>⟨(),(som<|ifF W J).symm,⟨kaA q,sb⟩⟩)
 .rintro _ _ _ ⟨hSs,su⟩;refine Wu ?_ hSs;refine Ws<|Rl z z z<|Wn<|Wq<|Wc z (λhc=>(K_ hc).elim) (λ_=>?_);exact We<|λ_ q=>⟨rfl,⟨kaA q,su⟩⟩
 .rintro _ av _ rfl ⟨_,_⟩;have hmw:=elL L;revert av;exact Wo<|Wm z<|Rf z b_F z<|R z (l0 B_ z kBa)<|R z (lnR h_ z kR)<|R z (add_ z z)<|Ra z<|Rw z<|Wr<|rS2 hmw hr z z ⟨kW,.nilIface,([]:List Nat),z,iA _ _,f_T,an_⟩
 exact lqA L λ_ _ h=>h.2
def Q33 (w0:World)(B:Zone)(r:Val×Int×(Option<|Int×Int))(v:Value)(w':World):Prop:=Bw w0 w'/\un3 (λr1 r2 r3=>∃(G:Option Addr)(H I:Nat)(S1:List Nat)(a2:Option Addr)(J L:Nat)(S2:List Nat)(v3:Value)(S3:List Nat),v = .tuple #[(.agg #[vI r1.number,sl G H I,sl a2 J L]),vI r2,v3]/\inI r1.number/\c_ w' S1 (sl G H I) r1.bytes/\c_ w' S2 (sl a2 J L) r1.items/\inI r2/\a_F 124 w' S3 v3 r3/\(∀k∈S3,w0.z<=k)/\(S1++S2).Nodup/\(∀k∈(S1++S2),w0.z<=k)) r
theorem W_w21 {x1:a_D}{b1 o1:Nat}{x2:Int}{x3:Int}{res:Val×Int×(Option<|Int×Int)}(hm:i_E x1 x2 x3=some res)(a3:B<=w0.z)(a0:rp w0 B A0 N0 C0 x1.d.rules)(a2:rp w0 B A1 N1 C1 x1.b)(hC1:r_ w0 b1 o1 [sl A0 N0 C0,sl A1 N1 C1])(hC1b:B b1)(L:inI x2)(V:inI x3):g_ prog 111 [(pq b1 o1),vI x2,vI x3] w0 (Q33 w0 B res):=by
 unfold i_E at hm;refine goG func111 z z z λfn hr=>Ws<|EvZ [vI 0,sN,sN] z a_h z λw6 _ _=>Ra z<|Rw z<|Wm z<|RM z z ?_;obtain ⟨_,_,W,O⟩:=V_ hm;refine E z (fc call173 z<|n_2 (B:=B) W kM kR kR kC hC1b L V) ?_;rintro _ _ ⟨_,_,_,_,v8,Y,rfl,_,ha,_⟩;refine Rm z<|Re z z z<|Re z z z<|Ra z<|Rw z<|Wq<|Wm z<|R z (f_7 f_y z z ha)<|Wx z (λG=>?_) (λG=>?_)
 .exact Ws<|R z (bQ [] [vI 0,sN,sN] a_4 z z)<|RM z z<|E0q [vI 0,sN,sN] i_ z z kB z λws hb _=>Ra z<|Rw z<|Wr<|rS3 (ifT O G) hr (m_ x_ i_ z hb z) z z ⟨kW,none,0,0,[],none,0,0,[],v8,Y,z,ii z,onL,onL,L,kE,sQ,nd0,sQ⟩
 refine Wk<|Ws<|E z (f0 (α:=UInt8) M_) ?_;rintro _ _ ⟨_,_,_,rfl,_,hd⟩;refine Rm z<|bdB (ifF O G) λxe ef hmg=>E z (fN (α:=UInt8) M_ ef z z hd S_ kR) ?_;rintro _ _ ⟨Sh,H,I,J,rfl,_,_,hi,_⟩;exact R z (bQ [(1,.tmp 25)] [vI 0,sl H I J,sN] a_4 z z)<|RM z z<|R z (add_ z z)<|E0q [vI 0,sl H I J,sN] i_ z z kB z λa4 hj _=>Ra z<|Rw z<|Wr<|rS3 hmg hr (m_ x_ i_ z hj z) z z ⟨kW,H,I,J,Sh,none,0,0,[],.nilIface,([]:List Nat),z,ii z,kO (l:=xe),onL,iA _ _,f_T,an_,na_ hi E_ sQ,sQ⟩
theorem W_w22 {x1:Bt}{x2:Int}{x3:UInt8}{res:Bt×Int×Bool}(hm:i_B n x1 x2 x3=some res)(aM:B<=w0.z)(aL:rp w0 B A0 N0 C0 x1)(Y:inI x2):g_ prog 117 [sl A0 N0 C0,vI x2,vU<|b_ x3] w0 (Q18 w0 B res):=by
 unfold i_B at hm;refine goG func117 z z z λfn hr=>Ws<|RA z z<|Rw z<|Ws<|E z (f0 (α:=UInt8) M_) ?_;rintro _ wa ⟨ad,ne,cf,rfl,_,_⟩;refine Rw z<|Wq<|Wq<|bdB hm λuw huo hmp=>Wt (λa w=>∃xg,xg=uw/\Sat 58 [(0,sl A0 N0 C0),(1,vI x2),(2,vU<|b_ x3),(9,sl ad ne cf),(19,vB xg)] a/\Below wa.z wa w) ?_ ?_
 .refine Wg<|Rm z<|Rl z z z<|Rm z ?_;rcases bs (decide<|x2<0) with H | H
  .iterate 4 refine Nh z H ?_
   exact R z (pT z H z)<|Wl (λ_ q=>⟨true,som<|ifT huo H,kaA q,br wa⟩)
  exact Rh z H (mv z)<|Rh z H (mv z)<|Rh z H (lnR h_ z kR)<|Rh z H (T_ z z)<|R z (pF z H z)<|Wl (λ_ q=>⟨decide<|(x1.length:Int)<x2,som<|ifF huo H,kaA q,br wa⟩)
 rintro ax L ⟨xg,rfl,_,_⟩;revert ax;refine Wo<|Wc z (λhch=>?_) (λhch=>?_)
 .exact Wm z<|Rm z<|RA z z<|Rw z<|Wr<|rS3 (ifT hmp hch) hr z z z ⟨kW,ad,ne,cf,[w0.z],z,kO,Y,S_,sQ⟩
 refine Wk<|Wq<|Wm z<|Rw z ?_;obtain ⟨_,huy,hmq⟩:=bdS<|ifF hmp hch;refine b_6 (σ:=Bt×Int) (ρ:=Bt×Int×Bool) (λs a w=>un2 (λO x5=>∃a2 I J G,Sat 58 [(0,sl A0 N0 C0),(1,vI x2),(2,vU<|b_ x3),(9,sl a2 I J),(10,vI x5)] a/\Cg [w0.z] L w/\c_ w G (sl a2 I J) O/\G.Nodup/\(∀k∈G,k∈[w0.z]∨L.z<=k)/\inI x5) s) (λs a w=>un2 (λO x5=>∃a2 I J G,Sat 58 [(1,vI x2)] a/\Cg [w0.z] L w/\c_ w G (sl a2 I J) O/\G.Nodup/\(∀k∈G,k∈[w0.z]∨L.z<=k)/\inI x5) s) (rQ prog fn<|Q18 w0 B) huy ?_ ?_ ?_ ?_
 .exact λ_ q=>⟨ad,ne,cf,[w0.z],kaA q,cr [w0.z] L,kO,S_,sQ,Y⟩
 .rintro ⟨O,x5⟩ _ wb _ ⟨a2,I,J,G,hSz,_,hc,V,ab,hi⟩ a1;have hmr:=a_0 a1;refine Wu ?_ hSz;refine Wq<|Wm z<|Rm z<|R z (lnR h_ z kR)<|Rl z z z<|Wx z (λhcj=>?_) (λhcj=>?_)
  .refine Wk<|Wq<|Wb<|Wq<|Wm z<|Rm z<|bdB (ifT hmr hcj) λ_ ae hms=>xA (α:=UInt8) z h_ z_5 z z z kR ae λ_ _ _ af ah _=>?_;obtain rfl:=u8 ah;refine R z (l0 g_5 z<|af.at0 z)<|Rm z<|Rq z z z<|Wx z (λhck=>?_) (λhck=>?_)
   .exact Wm z<|Rm z<|R z (add_ z z)<|RA z z<|Rw z<|Wr<|rtO<|qL (som<|ifT hms hck).symm<|d_A hr z z z ⟨kW,a2,I,J,G,z,hc,iA _ _,V,sQ⟩
   refine Wk<|Wq<|Wm z<|Rm z<|bdB (ifF hms hck) λ_ ai a3=>xA (α:=UInt8) z h_ z_5 z z z kR ai λ_ _ _ aj ak _=>?_;obtain rfl:=u8 ak;refine R z (l0 g_5 z<|aj.at0 z)<|Rq z z z<|Wn<|bdB a3 λal hut hmu=>Wt (λa w=>∃(W:Int),Sum.inl W=al/\Sat 58 [(0,sl A0 N0 C0),(1,vI x2),(2,vU<|b_ x3),(9,sl a2 I J),(10,vI W)] a/\Below wb.z wb w/\inI W) ?_ ?_
   .refine Wc z (λhcl=>?_)<|λhcl=>?_
    .have hmv:=ifT hut hcl;refine Wm z<|R z (add_ z z)<|Rw z<|Wm z<|Rm z<|R z (lnR h_ z kR)<|Rq z z z<|Wx z (λhcm=>?_) (λhcm=>?_)
     .obtain rfl:=som<|ifT hmv hcm;have a4:=elR hmu;exact We<|exO z (λ_ q=>a_X (som a4).symm ⟨a2,I,J,G,kaA q,kW,hc,V,sQ,iA _ _⟩)
     exact Z_<|λ_ q=>⟨e_ x5 1,som<|ifF hmv hcm,kaA q,br wb,iA _ _⟩
    exact Z_<|λ_ q=>⟨x5,som<|ifF hut hcl,kaA q,br wb,hi⟩
   rintro am an ⟨W,rfl,_,_,_⟩;have a5:=elL hmu;revert am;refine Wo<|Wg<|RM z z<|Rm z<|bdB a5 λap aq a6=>xA (α:=UInt8) z h_ z_5 z z z kR aq λ_ _ _ ar au _=>?_;obtain rfl:=u8 au;refine R z (l0 g_5 z<|ar.at0 z)<|EvA z (fS [(.tmp 53)] M_ z z z (a_i z) (lb z)<|lb z) λav hn=>have:=hn.below;have a0:Blk av an.z [vU (b_ ap)]:=hn.blk;have:=b_d hn b_o;bdB a6 λaw ay a7=>E z (a_W (α:=UInt8) M_ ay z z kO V a0 b_o an_ E_) ?_;rintro _ _ ⟨az,aA,aB,aC,rfl,_,aD,aE,_⟩;exact Rw z<|Wg<|Rm z<|R z (add_ z z)<|Ra z<|Wl (λ_ q=>⟨(aw,e_ W 1),(som a7).symm,⟨aA,aB,aC,az,kaA q,kW,aD,aE,sQ,iA _ _⟩⟩)
  exact We<|λ_ q=>a_X (som<|ifF hmr hcj).symm ⟨a2,I,J,G,kaA q,kW,hc,V,sQ,hi⟩
 .rintro ⟨O,x5⟩ aF aG rfl ⟨a2,I,J,G,_,_,hc,V,ab,hi⟩;have a8:=elL hmq;revert aF;refine Wo<|Ws<|E z (f0 (α:=UInt8) M_) ?_;rintro _ _ ⟨aH,aI,aJ,rfl,_,aK⟩;exact Rm z<|RA z z<|Rw z<|Wr<|rS3 (a_0 a8) hr z z z ⟨kW,aH,aI,aJ,[aG.z],z,aK,Y,S_,sQ⟩
 exact lqA hmq λ_ _ h=>h.2
def Q34 (w0:World)(B:Zone)(S2_1:List Nat)(S2_2:List Nat)(r:Val×Int×(Option<|Int×Int))(v:Value)(w':World):Prop:=Chg (· ∈ (S2_1++S2_2)) w0 w'/\un3 (λr1 r2 r3=>∃(G:Option Addr)(H I:Nat)(S1:List Nat)(a2:Option Addr)(J L:Nat)(S2:List Nat)(v3:Value)(S3:List Nat),v = .tuple #[(.agg #[vI r1.number,sl G H I,sl a2 J L]),vI r2,v3]/\inI r1.number/\c_ w' S1 (sl G H I) r1.bytes/\c_ w' S2 (sl a2 J L) r1.items/\inI r2/\a_F 124 w' S3 v3 r3/\(∀k∈S3,w0.z<=k)/\(S1++S2).Nodup/\(∀k∈(S1++S2),k∈(S2_1++S2_2)∨w0.z<=k)) r
structure p_a (f:a_D->Int->Int->Option (Val×Int×(Option<|Int×Int))):Prop where
  run:∀{A0 A1:Option Addr}{N0 C0 N1 C1 b1 o1:Nat}{B:Zone}{x1:a_D}{x2:Int}{x3:Int}{res:Val×Int×(Option<|Int×Int)}{w0:World}(hm:f x1 x2 x3=some res)(hBw:B<=w0.z)(p1_0:rp w0 B A0 N0 C0 x1.d.rules)(p1_1:rp w0 B A1 N1 C1 x1.b)(hC1:r_ w0 b1 o1 [sl A0 N0 C0,sl A1 N1 C1])(hC1b:B b1)(p2_0:inI x2)(p3_0:inI x3),g_ prog 73 [(pq b1 o1),vI x2,vI x3] w0<|Q33 w0 B res
structure p_b (f:a_D->f_->Int->Option (Val×Int×(Option<|Int×Int))):Prop where
  run:∀{A0 A1 A4 A5 A3 A6:Option Addr}{N0 C0 N1 C1 b1 o1 N4 C4 N5 C5 N3 C3 N6 C6:Nat}{B:Zone}{x1:a_D}{x2:f_}{x3:Int}{res:Val×Int×(Option<|Int×Int)}{w0:World}(hm:f x1 x2 x3=some res)(hBw:B<=w0.z)(p1_0:rp w0 B A0 N0 C0 x1.d.rules)(p1_1:rp w0 B A1 N1 C1 x1.b)(hC1:r_ w0 b1 o1 [sl A0 N0 C0,sl A1 N1 C1])(hC1b:B b1)(p2_0:x2.name.b.length<=LEN)(p2_1:inI x2.kind)(p2_2:inI x2.size)(p2_4:rp w0 B A4 N4 C4 x2.bytes)(p2_5:rp w0 B A5 N5 C5 x2.names)(p2_6:rp w0 B A3 N3 C3 x2.tags)(p2_7:rp w0 B A6 N6 C6 x2.kids)(p3_0:inI x3),g_ prog 112 [(pq b1 o1),.agg #[Str.v x2.name,vI x2.kind,vI x2.size,vB x2.little,sl A4 N4 C4,sl A5 N5 C5,sl A3 N3 C3,sl A6 N6 C6],vI x3] w0<|Q33 w0 B res
structure p_c (f:a_D->Val->(List Int)->Int->Option (Val×Int×(Option<|Int×Int))):Prop where
  run:∀{A0 A1 AE AI A7:Option Addr}{N0 C0 N1 C1 b1 o1 NE CE NI CI N7 C7:Nat}{S2_1 S2_2:List Nat}{B:Zone}{x1:a_D}{x2:Val}{x3:List Int}{x4:Int}{res:Val×Int×(Option<|Int×Int)}{w0:World}(hm:f x1 x2 x3 x4=some res)(hBw:B<=w0.z)(p1_0:rp w0 B A0 N0 C0 x1.d.rules)(p1_1:rp w0 B A1 N1 C1 x1.b)(hC1:r_ w0 b1 o1 [sl A0 N0 C0,sl A1 N1 C1])(hC1b:B b1)(p2_0:inI x2.number)(p2_1:c_ w0 S2_1 (sl AE NE CE) x2.bytes)(p2_1n:S2_1.Nodup)(p2_1g:∀k∈S2_1,¬B k)(p2_2:c_ w0 S2_2 (sl AI NI CI) x2.items)(p2_2n:S2_2.Nodup)(p2_2g:∀k∈S2_2,¬B k)(p2_2d1:∀k∈S2_2,k∉S2_1)(p3_0:rp w0 B A7 N7 C7 x3)(p4_0:inI x4),g_ prog 113 [(pq b1 o1),.agg #[vI x2.number,sl AE NE CE,sl AI NI CI],sl A7 N7 C7,vI x4] w0<|Q34 w0 B S2_1 S2_2 res
structure p_d (f:a_D->f_->Int->Option (Val×Int×(Option<|Int×Int))):Prop where
  run:∀{A0 A1 A4 A5 A3 A6:Option Addr}{N0 C0 N1 C1 b1 o1 N4 C4 N5 C5 N3 C3 N6 C6:Nat}{B:Zone}{x1:a_D}{x2:f_}{x3:Int}{res:Val×Int×(Option<|Int×Int)}{w0:World}(hm:f x1 x2 x3=some res)(hBw:B<=w0.z)(p1_0:rp w0 B A0 N0 C0 x1.d.rules)(p1_1:rp w0 B A1 N1 C1 x1.b)(hC1:r_ w0 b1 o1 [sl A0 N0 C0,sl A1 N1 C1])(hC1b:B b1)(p2_0:x2.name.b.length<=LEN)(p2_1:inI x2.kind)(p2_2:inI x2.size)(p2_4:rp w0 B A4 N4 C4 x2.bytes)(p2_5:rp w0 B A5 N5 C5 x2.names)(p2_6:rp w0 B A3 N3 C3 x2.tags)(p2_7:rp w0 B A6 N6 C6 x2.kids)(p3_0:inI x3),g_ prog 114 [(pq b1 o1),.agg #[Str.v x2.name,vI x2.kind,vI x2.size,vB x2.little,sl A4 N4 C4,sl A5 N5 C5,sl A3 N3 C3,sl A6 N6 C6],vI x3] w0<|Q33 w0 B res
structure p_e (f:a_D->f_->Int->Option (Val×Int×(Option<|Int×Int))):Prop where
  run:∀{A0 A1 A4 A5 A3 A6:Option Addr}{N0 C0 N1 C1 b1 o1 N4 C4 N5 C5 N3 C3 N6 C6:Nat}{B:Zone}{x1:a_D}{x2:f_}{x3:Int}{res:Val×Int×(Option<|Int×Int)}{w0:World}(hm:f x1 x2 x3=some res)(hBw:B<=w0.z)(p1_0:rp w0 B A0 N0 C0 x1.d.rules)(p1_1:rp w0 B A1 N1 C1 x1.b)(hC1:r_ w0 b1 o1 [sl A0 N0 C0,sl A1 N1 C1])(hC1b:B b1)(p2_0:x2.name.b.length<=LEN)(p2_1:inI x2.kind)(p2_2:inI x2.size)(p2_4:rp w0 B A4 N4 C4 x2.bytes)(p2_5:rp w0 B A5 N5 C5 x2.names)(p2_6:rp w0 B A3 N3 C3 x2.tags)(p2_7:rp w0 B A6 N6 C6 x2.kids)(p3_0:inI x3),g_ prog 115 [(pq b1 o1),.agg #[Str.v x2.name,vI x2.kind,vI x2.size,vB x2.little,sl A4 N4 C4,sl A5 N5 C5,sl A3 N3 C3,sl A6 N6 C6],vI x3] w0<|Q33 w0 B res
structure p_f (f:a_D->f_->Int->Option (Val×Int×(Option<|Int×Int))):Prop where
  run:∀{A0 A1 A4 A5 A3 A6:Option Addr}{N0 C0 N1 C1 b1 o1 N4 C4 N5 C5 N3 C3 N6 C6:Nat}{B:Zone}{x1:a_D}{x2:f_}{x3:Int}{res:Val×Int×(Option<|Int×Int)}{w0:World}(hm:f x1 x2 x3=some res)(hBw:B<=w0.z)(p1_0:rp w0 B A0 N0 C0 x1.d.rules)(p1_1:rp w0 B A1 N1 C1 x1.b)(hC1:r_ w0 b1 o1 [sl A0 N0 C0,sl A1 N1 C1])(hC1b:B b1)(p2_0:x2.name.b.length<=LEN)(p2_1:inI x2.kind)(p2_2:inI x2.size)(p2_4:rp w0 B A4 N4 C4 x2.bytes)(p2_5:rp w0 B A5 N5 C5 x2.names)(p2_6:rp w0 B A3 N3 C3 x2.tags)(p2_7:rp w0 B A6 N6 C6 x2.kids)(p3_0:inI x3),g_ prog 116 [(pq b1 o1),.agg #[Str.v x2.name,vI x2.kind,vI x2.size,vB x2.little,sl A4 N4 C4,sl A5 N5 C5,sl A3 N3 C3,sl A6 N6 C6],vI x3] w0<|Q33 w0 B res
abbrev h_P (n:Nat):Prop:=p_a (a_g n).impl_fileReader_value/\p_b (a_g n).impl_fileReader_array/\p_c (a_g n).impl_fileReader_items/\p_d (a_g n).impl_fileReader_choice/\p_e (a_g n).impl_fileReader_option/\p_f (a_g n).impl_fileReader_checked
theorem T_w02 (ih:h_P n):p_a (k_e n<|a_g n):=by
 obtain ⟨_,bB,bC,bD,bE,bF⟩:=ih;constructor;intro A0 A1 N0 C0 N1 C1 b1 o1 B x1 x2 x3 res w0 hm dB dz dA hC1 hC1b bm G;unfold k_e at hm;refine goG func73 z z z λfn hr=>Ws<|EvZ [vI 0,sN,sN] z a_h z λdC _ _=>Ra z<|Rw z<|Wm z<|R z (L_ z)<|Rf z t_k z<|Rf z a_l z<|R z (l0 a_p z<|kCa (o:=o1) (j:=0))<|Rm z<|bdB hm λx4 bG a3=>xA (α:=f_) z Y_ l_ z z z kR bG λ_ _ _ bH bI _=>?_;obtain ⟨J,L,O,V,W,Y,a8,n9,ca,ab,nc,cd,rfl,hf,hg,he,_,_,_,_⟩:=a_T bI;refine R z (lN (vs:=vR x4 J L O V W Y a8 n9 ca ab nc cd) G_ l_ z z fid bH)<|EvZ [(Str.v (⟨[]⟩:Str)),vI 0,vI 0,vB false,sN,sN,sN,sN] z c_t z λdD _ bn=>E0q (vR x4 J L O V W Y a8 n9 ca ab nc cd) l_ z z bn z λdF I H=>Wn<|Wq<|Ws<|Rf z a_r z<|R z (l0 g_3 z<|I.at z)<|Wn<|Wb<|Ws<|Rq z z z<|Rw z<|Wc z (λhch=>?_) (λhch=>?_)
 .refine Wm z<|RM z z ?_;obtain ⟨aj,_,_,bJ,bo⟩:=N_<|ifT a3 hch;refine E z (fc call109 z<|n_3 (B:=B) bJ kM kR kR (r_.chg kC H<|sQB hC1b) hC1b bm G) ?_;rintro _ _ ⟨_,bK,bM,rfl,bN,bO,_,_⟩;refine Rm z ?_;iterate 3 refine Re z z z ?_
  exact RA z z<|Rw z<|Wm z<|R z (bQ [(0,.tmp 41)] [vI aj,sN,sN] a_4 z z)<|RM z z<|E0q [vI aj,sN,sN] i_ z z kB z λdG bP _=>Ra z<|Rw z<|Wr<|rtO<|rS3 bo hr (m_ x_ i_ z bP z) z z ⟨kW,none,0,0,[],none,0,0,[],bK,bM,z,bN,onL,onL,bO,kE,sQ,nd0,sQ⟩
 have a4:=ifF a3 hch;refine Ws<|Rq z z z<|Rw z<|Wc z (λhci=>?_) (λhci=>?_)
 .refine Wm z<|R z (lN (vs:=vR x4 J L O V W Y a8 n9 ca ab nc cd) G_ l_ z z fid<|I.row 0 8 z)<|Rm z ?_;obtain ⟨_,_,bR,bp⟩:=V_<|ifT a4 hci;refine E z (fc call110 z<|W_w4l (B:=B) bR kM kR kR (r_.chg kC H<|sQB hC1b) hC1b hf hg he kR kR kR kR G) ?_;rintro _ _ ⟨_,bS,bT,rfl,bU,_,_⟩;exact Rm z<|Re z z z<|Re z z z<|Ra z<|Rw z<|Ws<|R z (bQ [] [vI 0,sN,sN] a_4 z z)<|RM z z<|E0q [vI 0,sN,sN] i_ z z kB z λdH bV _=>Ra z<|Rw z<|Wr<|rtO<|rS3 bp hr (m_ x_ i_ z bV z) z z ⟨kW,none,0,0,[],none,0,0,[],bS,bT,z,ii z,onL,onL,bU,kE,sQ,nd0,sQ⟩
 have a6:=ifF a4 hci;refine Ws<|Rq z z z<|Rw z<|Wc z (λhcj=>?_) (λhcj=>?_)
 .refine Wm z<|Rm z<|Rf z a_V z<|R z (l0 g_3 z<|I.at z) ?_;obtain ⟨rk,_,_,bW,bq⟩:=N_<|ifT a6 hcj;refine E z (fc call111 z<|W_w21 (B:=B) bW kM kR kR (r_.chg kC H<|sQB hC1b) hC1b G he) ?_;rintro _ _ ⟨_,ak,al,am,bX,an,ap,aq,bY,bZ,c0,rfl,c1,_,_,c2,_,_,c4,c5⟩;obtain ⟨b6,b7,_,_,_⟩:=a_5 c4 c5;iterate 3 refine Re z z z ?_
  exact E0q [vI rk.number,sl ak al am,sl an ap aq] i_ z z kB z λdI c6 _=>Ra z<|Rw z<|Wr<|rtO<|rS3 bq hr (m_ x_ i_ z c6 z) z z ⟨kW,ak,al,am,bX,an,ap,aq,bY,bZ,c0,z,c1,kO (l:=rk.bytes),kO (l:=rk.items),c2,kE,sQ,na_ b6 b7 sQ,sQ⟩
 have a7:=ifF a6 hcj;refine Ws<|Rq z z z<|Rw z<|Wc z (λhcl=>?_) (λhcl=>?_)
 .refine Wm z<|Rf z Q_ z<|R z (l0 A_ z<|I.at z)<|bdB (ifT a7 hcl) λ_ c8 br=>xI z v_ z_3 z z z kR c8 λ_ _ c9 cb=>R z (l0 g_3 z<|c9.at0 z)<|Rm z ?_;have ar:=r_.chg kC H<|sQB hC1b;obtain ⟨_,_,_,cc,a9⟩:=N_ br;refine E z (fc call109 z<|n_3 (B:=B) cc kM kR kR ar hC1b cb G) ?_;rintro _ _ ⟨ce,cf,cg,rfl,ch,ci,cj,_⟩;refine Rm z ?_;iterate 3 refine Re z z z ?_
  refine RA z z<|Rw z<|Wq<|Wm z<|R z (f_7 f_y z z cj)<|Wx z (λhcm=>?_) (λhcm=>?_)
  .exact Ws<|R z (bQ [] [vI 0,sN,sN] a_4 z z)<|RM z z<|E0q [vI 0,sN,sN] i_ z z kB z λdJ ck _=>Ra z<|Rw z<|Wr<|rtO<|rS3 (ifT a9 hcm) hr (m_ x_ i_ z ck z) z z ⟨kW,none,0,0,[],none,0,0,[],cf,cg,z,ii z,onL,onL,G,kE,sQ,nd0,sQ⟩
  refine Wk<|Wm z<|RM z z ?_;obtain ⟨rn,_,_,cl,bs⟩:=N_<|ifF a9 hcm;refine E z (fc call111 z<|W_w21 (B:=B) cl kM kR kR (ar.e ce) hC1b ci ch) ?_;rintro _ _ ⟨_,au,av,aw,cm,ax,az,aA,cn,co,cp,rfl,cq,_,_,cr,_,_,ct,cu⟩;obtain ⟨b8,b9,_,_,_⟩:=a_5 ct cu;iterate 3 refine Re z z z ?_
  exact E0q [vI rn.number,sl au av aw,sl ax az aA] i_ z z kB z λdK cv _=>Ra z<|Rw z<|Wr<|rtO<|rS3 bs hr (m_ x_ i_ z cv z) z z ⟨kW,au,av,aw,cm,ax,az,aA,cn,co,cp,z,cq,kO (l:=rn.bytes),kO (l:=rn.items),cr,kE,sQ,na_ b8 b9 sQ,sQ⟩
 have aa:=ifF a7 hcl;refine Ws<|Rq z z z<|Rw z<|Wc z (λhco=>?_) (λhco=>?_)
 .refine Wm z<|R z (lN (vs:=vR x4 J L O V W Y a8 n9 ca ab nc cd) G_ l_ z z fid<|I.row 0 8 z)<|Rm z ?_;obtain ⟨rp,_,_,cw,bt⟩:=N_<|ifT aa hco;refine E z (fc call112 z<|bB.run (B:=B) cw kM kR kR (r_.chg kC H<|sQB hC1b) hC1b hf hg he kR kR kR kR G) ?_;rintro _ _ ⟨_,aB,aC,aD,cx,aE,aF,aG,cy,cz,cA,rfl,cB,_,_,cC,_,_,cD,cE⟩;obtain ⟨ba,bb,_,_,_⟩:=a_5 cD cE;iterate 3 refine Re z z z ?_
  exact E0q [vI rp.number,sl aB aC aD,sl aE aF aG] i_ z z kB z λdL cF _=>Ra z<|Rw z<|Wr<|rtO<|rS3 bt hr (m_ x_ i_ z cF z) z z ⟨kW,aB,aC,aD,cx,aE,aF,aG,cy,cz,cA,z,cB,kO (l:=rp.bytes),kO (l:=rp.items),cC,kE,sQ,na_ ba bb sQ,sQ⟩
 have ad:=ifF aa hco;refine Ws<|Rq z z z<|Rw z<|Wc z (λhcq=>?_) (λhcq=>?_)
 .refine Wm z<|R z (bQ [] [vI 0,sN,sN] a_4 z z)<|Rf z Q_ z<|R z (l0 A_ z<|I.at z)<|Rm z ?_;obtain ⟨rr,_,_,cG,bu⟩:=N_<|ifT ad hcq;refine E z (fc call113 z<|bC.run (B:=B) (x2:=(⟨0,([]:Bt),([]:List Val)⟩:Val)) cG kM kR kR (r_.chg kC H<|sQB hC1b) hC1b (ii z) onL E_ an_ onL E_ an_ an_ kR G) ?_;rintro _ _ ⟨_,aH,aI,aJ,cH,aK,aL,aM,cI,cJ,cK,rfl,cL,_,_,cM,_,_,cN,cO⟩;obtain ⟨bc,be,_,_,_⟩:=a_5 cN cO;iterate 3 refine Re z z z ?_
  exact E0q [vI rr.number,sl aH aI aJ,sl aK aL aM] i_ z z kB z λdN cP _=>Ra z<|Rw z<|Wr<|rtO<|rS3 bu hr (m_ x_ i_ z cP z) z z ⟨kW,aH,aI,aJ,cH,aK,aL,aM,cI,cJ,cK,z,cL,kO (l:=rr.bytes),kO (l:=rr.items),cM,kE,sQ,na_ bc be sQ,sQ⟩
 have ae:=ifF ad hcq;refine Ws<|Rq z z z<|Rw z<|Wc z (λhcs=>?_) (λhcs=>?_)
 .refine Wm z<|R z (lN (vs:=vR x4 J L O V W Y a8 n9 ca ab nc cd) G_ l_ z z fid<|I.row 0 8 z)<|Rm z ?_;obtain ⟨rt,_,_,cQ,bv⟩:=N_<|ifT ae hcs;refine E z (fc call114 z<|bD.run (B:=B) cQ kM kR kR (r_.chg kC H<|sQB hC1b) hC1b hf hg he kR kR kR kR G) ?_;rintro _ _ ⟨_,aN,aO,aP,cR,aQ,aR,aS,cS,cT,cU,rfl,cV,_,_,cW,_,_,cX,cY⟩;obtain ⟨bf,bg,_,_,_⟩:=a_5 cX cY;iterate 3 refine Re z z z ?_
  exact E0q [vI rt.number,sl aN aO aP,sl aQ aR aS] i_ z z kB z λdO cZ _=>Ra z<|Rw z<|Wr<|rtO<|rS3 bv hr (m_ x_ i_ z cZ z) z z ⟨kW,aN,aO,aP,cR,aQ,aR,aS,cS,cT,cU,z,cV,kO (l:=rt.bytes),kO (l:=rt.items),cW,kE,sQ,na_ bf bg sQ,sQ⟩
 have af:=ifF ae hcs;refine Ws<|Rq z z z<|Rw z<|Wc z (λhcu=>?_) (λhcu=>?_)
 .refine Wm z<|R z (lN (vs:=vR x4 J L O V W Y a8 n9 ca ab nc cd) G_ l_ z z fid<|I.row 0 8 z)<|Rm z ?_;obtain ⟨rv,_,_,d0,bw⟩:=N_<|ifT af hcu;refine E z (fc call115 z<|bE.run (B:=B) d0 kM kR kR (r_.chg kC H<|sQB hC1b) hC1b hf hg he kR kR kR kR G) ?_;rintro _ _ ⟨_,aT,aU,aV,d1,aW,aX,aY,d2,d3,d4,rfl,d5,_,_,d6,_,_,d7,d8⟩;obtain ⟨bh,bi,_,_,_⟩:=a_5 d7 d8;iterate 3 refine Re z z z ?_
  exact E0q [vI rv.number,sl aT aU aV,sl aW aX aY] i_ z z kB z λdP d9 _=>Ra z<|Rw z<|Wr<|rtO<|rS3 bw hr (m_ x_ i_ z d9 z) z z ⟨kW,aT,aU,aV,d1,aW,aX,aY,d2,d3,d4,z,d5,kO (l:=rv.bytes),kO (l:=rv.items),d6,kE,sQ,na_ bh bi sQ,sQ⟩
 have ah:=ifF af hcu;refine Ws<|Rq z z z<|Rw z<|Wc z (λhcw=>?_) (λhcw=>?_)
 .refine Wm z<|R z (lN (vs:=vR x4 J L O V W Y a8 n9 ca ab nc cd) G_ l_ z z fid<|I.row 0 8 z)<|Rm z ?_;obtain ⟨rx,_,_,da,bx⟩:=N_<|ifT ah hcw;refine E z (fc call116 z<|bF.run (B:=B) da kM kR kR (r_.chg kC H<|sQB hC1b) hC1b hf hg he kR kR kR kR G) ?_;rintro _ _ ⟨_,aZ,b0,b2,db,b3,b4,b5,dc,dd,de,rfl,df,_,_,dg,_,_,dh,di⟩;obtain ⟨bj,bk,_,_,_⟩:=a_5 dh di;iterate 3 refine Re z z z ?_
  exact E0q [vI rx.number,sl aZ b0 b2,sl b3 b4 b5] i_ z z kB z λdT dj _=>Ra z<|Rw z<|Wr<|rtO<|rS3 bx hr (m_ x_ i_ z dj z) z z ⟨kW,aZ,b0,b2,db,b3,b4,b5,dc,dd,de,z,df,kO (l:=rx.bytes),kO (l:=rx.items),dg,kE,sQ,na_ bj bk sQ,sQ⟩
 refine Wk<|Wq (Wd (X:=noX) 0 (pl_ 17 [9]) mo (by kernel_rfl) λdU dk _=>dM z z z<|dR z z (L_ z)<|dR z z (fd i_V z)<|dR z z (l0 B_ z<|((r_.chg kC H<|sQB hC1b).e dk).at (j:=1) z)<|dM z z z<|dR z z (fd b_F z)<|dR z z (l0 B_ z kBa) ?_);refine bdB (ifF ah hcw) λ_ dl bz=>dxA (α:=UInt8) z z h_ z_5 z z z kR dl λ_ _ _ dm dn _=>?_;obtain rfl:=u8 dn;refine dR z z (l0 g_5 z<|dm.at0 z) ?_;obtain ⟨dp,_,_,dq,ai⟩:=N_ bz;refine dE z z (fc call117 z<|W_w22 (B:=B) dq kM kR G) iB ?_;rintro _ _ ⟨_,ay,nz,a2,dr,rfl,_,ds,dt,_⟩;refine dM z z z ?_;iterate 3 refine dR z z (ext_ z z) ?_
 iterate 3 refine dQ z z z ?_
 refine pD<|Wo<|Wq<|Wm z<|R z (not_ z)<|Wx z (λa0=>?_) (λa0=>?_)
 .refine Ws<|R z (bQ [] [vI 0,sN,sN] a_4 z z)<|RM z z<|bdB (ifT ai a0) λ_ du bA=>E z (fc call118 z<|g_I (B:=B) du kM G<|ii z) ?_;rintro _ _ ⟨_,dv,dw,rfl,_,_⟩;exact E0q [vI 0,sN,sN] i_ z z kB z λdV dx _=>Ra z<|Rw z<|Wr<|rS3 bA hr (m_ x_ i_ z dx z) z z ⟨kW,none,0,0,[],none,0,0,[],dv,dw,z,ii z,onL,onL,G,kE,sQ,nd0,sQ⟩
 exact Wk<|Wm z<|R z (bQ [(1,.tmp 159)] [vI 0,sl ay nz a2,sN] a_4 z z)<|Rm z<|E0q [vI 0,sl ay nz a2,sN] i_ z z kB z λdW dy _=>Ra z<|Rw z<|Wr<|rS3 (ifF ai a0) hr (m_ x_ i_ z dy z) z z ⟨kW,ay,nz,a2,dr,none,0,0,[],.nilIface,([]:List Nat),z,ii z,kO (l:=dp),onL,ds,f_T,an_,na_ dt E_ sQ,sQ⟩
theorem T_w23 (ih:h_P n):p_b (k_f n<|a_g n):=by
 obtain ⟨_,_,ah,_,_,_⟩:=ih;constructor;intro A0 A1 A4 A5 A3 A6 N0 C0 N1 C1 b1 o1 N4 C4 N5 C5 N3 C3 N6 C6 B x1 x2 x3 res w0 hm b3 aT aU hC1 hC1b aV aW aX aY aZ b0 b2 J;unfold k_f at hm;refine goG func112 z z z λfn hr=>Ws<|EvX (vR x2 A4 N4 C4 A5 N5 C5 A3 N3 C3 A6 N6 C6) z z z λY _ _=>EvZ [vI 0,sN,sN] z a_h z λwu _ _=>Ra z<|Rw z<|Wm z<|Rf z Q_ z<|R z (l0 A_ z kBa)<|bdB hm λ_ ev hmw=>xI z v_ z_3 z z z kR ev λ_ _ hx hz=>R z (l0 g_3 z<|hx.at0 z)<|Rm z ?_;obtain ⟨_,rg,_,ai,hmh⟩:=N_ hmw;refine E z (fc call109 z<|n_3 (B:=B) ai kM kR kR kC hC1b hz J) ?_;rintro _ H ⟨_,aj,ak,rfl,_,al,am,_⟩;refine Rm z ?_;iterate 3 refine Re z z z ?_
 refine RA z z<|Rw z<|Wq<|Wm z<|R z (f_7 f_y z z am)<|Wx z (λhca=>?_) (λhca=>?_)
 .exact Ws<|R z (bQ [] [vI 0,sN,sN] a_4 z z)<|RM z z<|E0q [vI 0,sN,sN] i_ z z kB z λb4 an _=>Ra z<|Rw z<|Wr<|rS3 (ifT hmh hca) hr (m_ x_ i_ z an z) z z ⟨kW,none,0,0,[],none,0,0,[],aj,ak,z,ii z,onL,onL,J,kE,sQ,nd0,sQ⟩
 have hmi:=ifF hmh hca;refine Wk<|Wq<|Wm z<|R z (T_ z z)<|Wx z (λhcb=>?_) (λhcb=>?_)
 .refine Ws<|R z (bQ [] [vI 0,sN,sN] a_4 z z)<|RM z z<|bdB (ifT hmi hcb) λ_ ap a2=>E z (fc call118 z<|g_I (B:=B) ap kM J<|ii z) ?_;rintro _ _ ⟨_,aq,au,rfl,_,_⟩;exact E0q [vI 0,sN,sN] i_ z z kB z λb5 av _=>Ra z<|Rw z<|Wr<|rS3 a2 hr (m_ x_ i_ z av z) z z ⟨kW,none,0,0,[],none,0,0,[],aq,au,z,ii z,onL,onL,J,kE,sQ,nd0,sQ⟩
 refine Wk<|Wm z<|bdB (ifF hmi hcb) λaw ax a3=>E z (e_2 (α:=Int) o_N (λ_=>d_d<|ii z) ax z z) ?_;rintro _ I ⟨L,O,V,rfl,_,hd⟩;refine Rw z<|Wq<|Wm z<|R z (lnR v_ z<|c_.rep hd)<|Rm z<|Wn<|bdB a3 λ_ a4 hmj=>Wf (σ:=List Int) (ρ:=Val×Int×(Option<|Int×Int)) (λ(kk:Nat)(x4:List Int) a w=>∃(G:List Nat),Sat 59 [(0,.pointer<|some ⟨b1,o1,none⟩),(4,pt w0.z),(6,pt Y.z),(10,vI rg),(12,sl L O V),(39,vI (aw.length:Int)),(40,vI ((kk:Nat):Int))] a/\Cg [H.z] I w/\c_ w G (sl L O V) x4/\G.Nodup/\(∀k∈G,k∈[H.z]∨I.z<=k)) (λ(x4:List Int) a w=>∃(G:List Nat),Sat 59 [(0,.pointer<|some ⟨b1,o1,none⟩),(6,pt Y.z),(10,vI rg),(12,sl L O V)] a/\Cg [H.z] I w/\c_ w G (sl L O V) x4/\G.Nodup/\(∀k∈G,k∈[H.z]∨I.z<=k)) (rQ prog fn<|Q33 w0 B) a4 ?_ ?_ ?_ ?_ ?_
 .exact λ_ q=>⟨[H.z],kaA q,cr [H.z] I,hd,S_,sQ⟩
 .rintro kk x4 _ _ _ hkl ⟨G,a5,_,h2,W,hn⟩ a7;refine Wu ?_ a5;refine Ws<|Rl z z z<|Wn<|Wq<|Wc z (λ_=>?_) (λhc=>(J_ hkl hc).elim);refine Wk<|Wq<|Wb<|Wm z<|Rw z<|Wg<|RM z z<|Rf z Q_ z<|R z (l0 A_ z kBa)<|bdB a7 λ_ ay a8=>xI z v_ z_3 z z z kR ay λ_ _ az aA=>R z (l0 g_3 z<|az.at0 z)<|bdB a8 λaB em a9=>RX z (b_q (α:=Int) v_ z_3 z z h2 em) ?_;rintro _ ⟨_,aC,rfl⟩;refine E0 (b_g (α:=Int) z_3 z aC z z z em h2 W (d_d aA) an_ E_) ?_;rintro _ _ ⟨aD,_,aE,aF,_⟩;exact Wn<|Wg<|R z (inc_ hkl (lt_ (c_.len hd) u_) z z)<|Rm z<|Wl (λ_ q=>⟨aB,(som a9).symm,⟨aD,kaA q,kW,aE,aF,sQ⟩⟩)
 .rintro x4 _ _ ⟨G,aa,_,h2,W,hn⟩;refine Wu ?_ aa;refine Ws<|Rl z z z<|Wn<|Wq<|Wc z (λhc=>(K_ hc).elim) (λ_=>?_);exact We<|λ_ q=>⟨rfl,⟨G,kaA q,kW,h2,W,sQ⟩⟩
 .rintro x4 aG aH rfl ⟨G,_,aI,h2,W,hn⟩;have ab:=elL hmj;revert aG;refine Wo<|Wm z<|R z (bQ [] [vI 0,sN,sN] a_4 z z)<|RM z z ?_;obtain ⟨rc,_,_,aJ,ad⟩:=N_ ab;refine E z (fc call113 z<|ah.run (B:=aH.z) (x2:=(⟨0,([]:Bt),([]:List Val)⟩:Val)) aJ zr (repS.mono kR kM) (repS.mono kR kM) (r_.chg kC aI<|sQB hC1b) (zap' kM hC1b) (ii z) onL E_ sQ onL E_ sQ an_ (c_.rep h2) al) ?_;rintro _ _ ⟨_,ao,np,cq,aK,ar,ns,ct,aL,aM,aN,rfl,aO,_,_,aP,_,_,aQ,aR⟩;obtain ⟨a0,a1,_,_,_⟩:=a_5 aQ aR;iterate 3 refine Re z z z ?_
  exact E0q [vI rc.number,sl ao np cq,sl ar ns ct] i_ z z kB z λb6 aS _=>Ra z<|Rw z<|Wr<|rS3 ad hr (m_ x_ i_ z aS z) z z ⟨kW,ao,np,cq,aK,ar,ns,ct,aL,aM,aN,z,aO,kO (l:=rc.bytes),kO (l:=rc.items),aP,kE,sQ,na_ a0 a1 sQ,sQ⟩
 exact lqA hmj λ_ _ h=>h.2
theorem T_w24 (ih:h_P n):p_c (k_g n<|a_g n):=by
 obtain ⟨ad,_,_,_,_,_⟩:=ih;constructor;intro A0 A1 AE AI A7 N0 C0 N1 C1 b1 o1 NE CE NI CI N7 C7 S2_1 S2_2 B x1 x2 x3 x4 res w0 hm aK aG aH hC1 hC1b a3 aI p2_1n p2_1g aJ p2_2n p2_2g p2_2d1 a4 a5;unfold k_g at hm;refine goG func113 z z z λfn hr=>Ws<|EvX [vI x2.number,sl AE NE CE,sl AI NI CI] z z z λV _ _=>EvZ [vI 0,sN,sN] z a_h z λL _ _=>Ra z<|Rw z<|Wq<|Wm z<|R z (lnR v_ z kR)<|Rm z<|Wn ?_;obtain ⟨_,huw,hmm⟩:=bdS hm;refine Wf (σ:=Int×(List Val)) (ρ:=Val×Int×(Option<|Int×Int)) (λ(kn:Nat) s a w=>un2 (λx5 x6=>∃G H I S3,Sat 45 [(0,.pointer<|some ⟨b1,o1,none⟩),(3,vI x5),(5,pt w0.z),(8,pt V.z),(16,sl A7 N7 C7),(17,vI (x3.length:Int)),(18,vI ((kn:Nat):Int))] a/\Chg (· ∈ (S2_2++[w0.z])) L w/\inI x5/\c_ w S3 (sl G H I) x6/\S3.Nodup/\(∀k∈S3,k∈S2_2∨L.z<=k)/\Blk w w0.z [vI x2.number,sl AE NE CE,sl G H I]) s) (λs a w=>un2 (λx5 x6=>∃G H I S3,Sat 45 [(3,vI x5),(5,pt w0.z),(8,pt V.z)] a/\Chg (· ∈ (S2_2++[w0.z])) L w/\inI x5/\c_ w S3 (sl G H I) x6/\S3.Nodup/\(∀k∈S3,k∈S2_2∨L.z<=k)/\Blk w w0.z [vI x2.number,sl AE NE CE,sl G H I]) s) (rQ prog fn<|Q34 w0 B S2_1 S2_2) huw ?_ ?_ ?_ ?_ ?_
 .exact λ_ q=>⟨AI,NI,CI,S2_2,kaA q,cr (S2_2++[w0.z]) L,a5,kO,p2_2n,sQ,kB⟩
 .rintro kn ⟨x5,x6⟩ _ _ _ hko ⟨G,H,I,S3,hSx,sy,J,hd,O,hp,ha⟩ hmz;refine Wu ?_ hSx;refine Ws<|Rl z z z<|Wn<|Wq<|Wc z (λ_=>?_) (λhc=>(J_ hko hc).elim);refine Wk<|Wq<|Wb<|Ws<|bdB (a_0 hmz) λ_ ae a6=>xI z v_ z_3 z z z kR ae λ_ _ af ah=>R z (l0 g_3 z<|af.at0 z)<|Rw z<|Wm z<|RM z z ?_;obtain ⟨rb,ai,_,aj,hmq⟩:=N_ a6;refine E z (fc call73 z<|ad.run (B:=B) aj kM kR kR (r_.chg kC sy<|sQB hC1b) hC1b ah J) ?_;rintro _ _ ⟨_,ac,ne,cf,ak,ag,nh,ci,al,am,an,rfl,ap,_,_,aq,_,_,au,av⟩;obtain ⟨W,Y,_,_,_⟩:=a_5 au av;refine Rm z ?_;iterate 3 refine Re z z z ?_
  refine EvZ [vI 0,sN,sN] z a_h z λaL _ a1=>E0q [vI rb.number,sl ac ne cf,sl ag nh ci] i_ z z a1 z λaw aM _=>Ra z<|Rw z<|Wq<|Wm z<|R z (f_7 f_y z z kE)<|Wx z (λhcj=>?_) (λhcj=>?_)
  .exact Ws<|R z (bQ [] [vI 0,sN,sN] a_4 z z)<|RM z z<|E0q [vI 0,sN,sN] i_ z z kB z λaN ax _=>Ra z<|Rw z<|Wr<|rtO<|qL (som<|ifT hmq hcj).symm<|d_A hr (m_ x_ i_ z ax z) z z ⟨kW,none,0,0,[],none,0,0,[],am,an,z,ii z,onL,onL,J,kE,sQ,nd0,sQ⟩
  refine Wk<|Ws<|Rf z a_O z<|R z (l0 a_S z kBa)<|R z (lC [vI rb.number,sl ac ne cf,sl ag nh ci] x_ i_ z)<|EvA z (fS [(.tmp 37)] m_M z z z (a_i z) (lb z)<|lb z) λay hu=>have:=hu.below;have a2:Blk ay aw.z [vI rb.number,sl ac ne cf,sl ag nh ci]:=hu.blk;bdB (ifF hmq hcj) λaz aA a7=>E z (a_W (α:=Val) m_M aA z z kO O a2 (p_t (x:=rb) (S1:=ak) (S2:=al) ap kO kO) sQ<|na_ W Y sQ) ?_;rintro _ _ ⟨aB,ar,ns,cv,rfl,_,_,aC,_⟩;exact Rf z a_O z<|E0q [vI x2.number,sl AE NE CE,sl ar ns cv] z_84 z z kB z λaO aD _=>Wn<|Wg<|Rm z<|Rw z<|Wg<|R z (inc_ hko (lt_ (repS.len a4) u_) z z)<|Rm z<|Wl (λ_ q=>⟨(ai,az),(som a7).symm,⟨ar,ns,cv,aB,kaA q,kW,aq,kO,aC,sQ,aD⟩⟩)
 .rintro ⟨x5,x6⟩ _ _ ⟨G,H,I,S3,a8,_,J,hd,O,hp,ha⟩;refine Wu ?_ a8;refine Ws<|Rl z z z<|Wn<|Wq<|Wc z (λhc=>(K_ hc).elim) (λ_=>?_);exact We<|λ_ q=>⟨rfl,⟨G,H,I,S3,kaA q,kW,J,hd,O,sQ,ha⟩⟩
 .rintro ⟨x5,x6⟩ aE _ rfl ⟨G,H,I,S3,_,_,J,hd,O,hp,ha⟩;have a9:=elL hmm;revert aE;refine Wo<|Ws<|R z (lC [vI x2.number,sl AE NE CE,sl G H I] x_ i_ z)<|Rm z<|E0q [vI x2.number,sl AE NE CE,sl G H I] i_ z z kB z λaP aF _=>?_;exact Ra z<|Rw z<|Wr<|rS3 (a_0 a9) hr (m_ x_ i_ z aF z) z z ⟨kW,AE,NE,CE,S2_1,G,H,I,S3,.nilIface,([]:List Nat),z,a3,kO (l:=x2.bytes),kO (l:=x6),J,f_T,an_,na_ p2_1n O sQ,sQ⟩
 exact lqA hmm λ_ _ h=>h.2
theorem T_w25 (ih:h_P n):p_d (k_h n<|a_g n):=by
 obtain ⟨_,_,aa,_,_,_⟩:=ih;constructor;intro A0 A1 A4 A5 A3 A6 N0 C0 N1 C1 b1 o1 N4 C4 N5 C5 N3 C3 N6 C6 B x1 x2 x3 res w0 hm aK aC aD hC1 hC1b aE aF aG aH aI W aJ H;unfold k_h at hm;refine goG func114 z z z λfn hr=>Ws<|EvX (vR x2 A4 N4 C4 A5 N5 C5 A3 N3 C3 A6 N6 C6) z z z λw2 _ _=>EvZ [vI 0,sN,sN] z a_h z λwj _ _=>Ra z<|Rw z<|Wm z<|Rf z Q_ z<|R z (l0 A_ z kBa)<|bdB hm λ_ ek hml=>xI z v_ z_3 z z z kR ek λ_ _ hn hp=>R z (l0 g_3 z<|hn.at0 z)<|Rm z ?_;obtain ⟨O,rm,_,eq,Y⟩:=N_ hml;refine E z (fc call109 z<|n_3 (B:=B) eq kM kR kR kC hC1b hp H) ?_;rintro _ G ⟨_,vr,Ss,rfl,ht,hu,hv,_⟩;refine Rm z ?_;iterate 3 refine Re z z z ?_
 refine RA z z<|Rw z<|Wq<|Wm z<|R z (f_7 f_y z z hv)<|Wx z (λI=>?_) (λI=>?_)
 .exact Ws<|R z (bQ [] [vI 0,sN,sN] a_4 z z)<|RM z z<|E0q [vI 0,sN,sN] i_ z z kB z λaL hw _=>Ra z<|Rw z<|Wr<|rS3 (ifT Y I) hr (m_ x_ i_ z hw z) z z ⟨kW,none,0,0,[],none,0,0,[],vr,Ss,z,ii z,onL,onL,H,kE,sQ,nd0,sQ⟩
 refine Wk<|Wq<|Ws<|Rf z b_G z<|R z (l0 A_ z kBa)<|R z (lnR v_ z kR)<|Rm z<|Wn<|bdB (ifF Y I) λ_ huy hma=>Wf (σ:=Unit) (ρ:=Val×Int×(Option<|Int×Int)) (λ(kb:Nat)(_:Unit) a w=>Sat 61 [(0,.pointer<|some ⟨b1,o1,none⟩),(2,vI x3),(4,pt w0.z),(6,pt w2.z),(9,vI O),(10,vI rm),(31,sl A3 N3 C3),(32,vI (x2.tags.length:Int)),(33,vI ((kb:Nat):Int))] a/\Below G.z G w) (λ(_:Unit) a w=>Sat 61 [(2,vI x3),(6,pt w2.z)] a/\Below G.z G w) (rQ prog fn<|Q33 w0 B) huy ?_ ?_ ?_ ?_ ?_
 .exact λ_ q=>⟨kaA q,br G⟩
 .rintro kb _ _ _ _ J ⟨hSz,ab⟩ a2;refine Wu ?_ hSz;refine Ws<|Rl z z z<|Wn<|Wq<|Wc z (λ_=>?_) (λhc=>(J_ J hc).elim);refine Wk<|Wq<|Wb<|Wm z<|bdB a2 λ_ ae hmc=>xI z v_ z_3 z z z kR ae λ_ _ af _=>R z (l0 g_3 z<|af.at0 z)<|Ra z<|Rw z<|Wm z<|Rm z<|Rq z z z<|Wx z (λL=>?_) (λL=>?_)
  .refine Wm z<|Rm z<|R z (bQ [(0,.tmp 42)] [vI O,sN,sN] a_4 z z)<|Rf z Q_ z<|R z (l0 A_ z kBa)<|Rm z<|R z (inc_ J (lt_ (repS.len W) u_) z z)<|Rm z<|R z (add_ z z)<|bdB (ifT hmc L) λ_ ah a3=>RX z (rX v_ z_3 z z kR z z ah) ?_;rintro _ ⟨_,_,_,rfl,ai⟩;refine Rm z ?_;obtain ⟨V,_,_,aj,a4⟩:=N_ a3;refine E z (fc call113 z<|aa.run (B:=B) (x2:=(⟨O,([]:Bt),([]:List Val)⟩:Val)) aj kM kR kR kC hC1b ht onL E_ an_ onL E_ an_ an_ ai hu) ?_;rintro _ _ ⟨_,ad,ne,cf,ak,ag,nh,ci,al,am,an,rfl,ap,_,_,aq,_,_,ar,au⟩;obtain ⟨a0,a1,_,_,_⟩:=a_5 ar au;iterate 3 refine Re z z z ?_
   exact E0q [vI V.number,sl ad ne cf,sl ag nh ci] i_ z z kB z λaM av _=>Ra z<|Rw z<|Wr<|rtO<|qL (som a4).symm<|d_A hr (m_ x_ i_ z av z) z z ⟨kW,ad,ne,cf,ak,ag,nh,ci,al,am,an,z,ap,kO (l:=V.bytes),kO (l:=V.items),aq,kE,sQ,na_ a0 a1 sQ,sQ⟩
  exact Wk<|Wg<|R z (inc_ J (lt_ (repS.len W) u_) z z)<|Rm z<|Wl (λ_ q=>⟨(),(som<|ifF hmc L).symm,⟨kaA q,ab⟩⟩)
 .rintro _ _ _ ⟨a5,aw⟩;refine Wu ?_ a5;refine Ws<|Rl z z z<|Wn<|Wq<|Wc z (λhc=>(K_ hc).elim) (λ_=>?_);exact We<|λ_ q=>⟨rfl,⟨kaA q,aw⟩⟩
 .rintro _ ax _ rfl ⟨_,_⟩;have a6:=elL hma;revert ax;refine Wo<|Ws<|R z (bQ [] [vI 0,sN,sN] a_4 z z)<|RM z z<|bdB a6 λ_ ay a7=>E z (fc call118 z<|g_I (B:=B) ay kM H<|ii z) ?_;rintro _ _ ⟨_,az,aA,rfl,_,_⟩;exact E0q [vI 0,sN,sN] i_ z z kB z λaN aB _=>Ra z<|Rw z<|Wr<|rS3 a7 hr (m_ x_ i_ z aB z) z z ⟨kW,none,0,0,[],none,0,0,[],az,aA,z,ii z,onL,onL,H,kE,sQ,nd0,sQ⟩
 exact lqA hma λ_ _ h=>h.2
end Go.Vw
