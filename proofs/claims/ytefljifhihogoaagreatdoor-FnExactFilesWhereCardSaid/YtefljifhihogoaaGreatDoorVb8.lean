
import Derived.Test.YtefljifhihogoaaGreatDoorVb7
set_option linter.unusedVariables false
namespace Go.Vw
open Go.RowKit Dat Go.Proofs
set_option maxHeartbeats 4000000
set_option maxRecDepth 4000
open Go.Proofs.Tryz
open Go.Vw renaming a_a->Wq,a_B->Wg,WC.of_KC->Wo,a_d->Wl,c_b->Wc,c_F->Wr,f_9->Wu,g_Z->pT,h_0->pF,f_W->fd,b_J->l1,f_X->lN,b_8->mv,c_L->asg,f_3->lnR,e_y->lss,g_0->eql,f_Y->ext_,f_R->bP,f_Z->add_,f_1->inc_,d_f->not_,e_1->at_,d_X->fc,a_U->fs,d_x->fb,c_H->fa,c_u->sr,f_P->cr,f_Q->cM,c_d->bM,g_R->iS,g_Q->iA,f_0->br,b_1->oA,g_W->bs,f_J->lg,f_K->io,f_b->nq,h_8->lnT,h_9->sb_,g_Y->ar_,g_X->al_,b_N->ds,h_v->m1,f_N->nr_,f_M->nl_,e_0->aa_,all_nil->an_,c_S->Wb,f_I->u8,g_N->pD,e_X->We,g_T->Wt,e_Z->fS,e_o->or_,h_7->Wf,h_4->qL,g_M->Wd,f_S->fN,f_L->na_,f_O->nj,e_3->f0,f_4->rX,h_1->tl_,h_2->ic
variable {A0:Option Addr}{N0 C0:Nat}{B:Zone}{w0:World}{AB:Option Addr}{AA:Option Addr}{AC:Option Addr}{AD:Option Addr}{NB CB:Nat}{NA CA:Nat}{NC CC:Nat}{ND CD:Nat}{A1:Option Addr}{N1 C1:Nat}{n:Nat}{AG:Option Addr}{NG CG:Nat}{A2:Option Addr}{N2 C2:Nat}{AJ:Option Addr}{NJ CJ:Nat}{A4:Option Addr}{A5:Option Addr}{A3:Option Addr}{A6:Option Addr}{N4 C4:Nat}{N5 C5:Nat}{N3 C3:Nat}{N6 C6:Nat}{A7:Option Addr}{N7 C7:Nat}{A8:Option Addr}{A9:Option Addr}{N8 C8:Nat}{N9 C9:Nat}{AF:Option Addr}{NF CF:Nat}{AE:Option Addr}{NE CE:Nat}
theorem W_w1q {x1:Str}{res:(List Str)×Bool}(hm:i_t n x1=some res)(a3:B<=w0.z)(W:x1.b.length<=LEN):g_ prog 89 [Str.v x1] w0 (Q24 w0 B res):=by
 unfold i_t at hm;refine goG func89 z z z λfn hr=>Ws<|Ra z<|Rw z<|Wq<|Wm z<|R z (a_Q z z)<|Wx z (λH=>?_) (λH=>?_)
 .refine Ws<|E z (f0 (α:=Str) a_q) ?_;rintro _ _ ⟨aj,nk,cl,rfl,sm,O⟩;exact Ra z<|Rw z<|Wr<|rS2 (ifT hm H) hr z z ⟨sm,aj,nk,cl,z,or_ O<|zin (B:=B) (i:=w0.z) sQ<|c_.lt O⟩
 refine Wk<|Wm z<|bdB (ifF hm H) λ_ en hmo=>E z (fc call144 z<|W_w1n (B:=B) en a3 W) ?_;rintro _ G ⟨_,V,na,cb,_,rfl,h2,_,h3⟩;refine Rw z<|Wq<|Wm z<|bdB hmo λ_ ep hmc=>xA (α:=Str) z z_ z_9 z z z (or_ h2<|zin (B:=B) h3<|c_.lt h2) ep λ_ _ _ hq ht _=>?_;obtain ⟨rfl,_⟩:=a_e ht;refine R z (l0 g_9 z<|hq.at0 z)<|R z (e_z z z)<|Wx z (λI=>?_) (λI=>?_)
 .refine Ws<|E z (f0 (α:=Str) a_q) ?_;rintro _ _ ⟨ar,ns,cu,rfl,_,hd⟩;exact Ra z<|Rw z<|Wr<|rS2 (ifT hmc I) hr z z ⟨kW,ar,ns,cu,z,repS.mono (or_ hd<|zin (B:=B) (i:=G.z) sQ<|c_.lt hd)<|b_O kM lr⟩
 refine Wk<|Wq<|Ws<|Rw z<|bdB (ifF hmc I) λ_ huv hme=>b_6 (σ:=Int) (ρ:=(List Str)×Bool) (λ(x0:Int) a w=>Sat 34 [(4,sl V na cb),(5,vI x0)] a/\Below G.z G w/\inI x0) (λ(x0:Int) a w=>Sat 34 [(4,sl V na cb)] a/\Below G.z G w/\inI x0) (rQ prog fn<|Q24 w0 B) huv ?_ ?_ ?_ ?_
 .exact λ_ q=>⟨kaA q,br G,ii z⟩
 .rintro x0 _ _ _ ⟨hSw,sx,hf⟩ hmg;refine Wu ?_ hSw;refine Wq<|Wm z<|Rm z<|R z (lnR z_ z<|or_ kO<|zin (B:=B) h3<|c_.lt h2)<|Rl z z z<|Wx z (λJ=>?_) (λJ=>?_)
  .refine Wk<|Wq<|Wb<|Wm z<|Rm z<|bdB (ifT hmg J) λ_ ey hmz=>xA (α:=Str) z z_ z_9 z z z (or_ kO<|zin (B:=B) h3<|c_.lt h2) ey λ_ _ _ a4 a5 _=>?_;obtain ⟨rfl,a6⟩:=a_e a5;refine R z (l0 g_9 z<|a4.at0 z)<|bdB hmz λ_ a7 hmh=>EcA z (fc call145 z<|W_w1p (B:=B) a7 kM a6) λa8 _=>R z (not_ z)<|Wx z (λL=>?_) (λL=>?_)
   .refine Ws<|E z (f0 (α:=Str) a_q) ?_;rintro _ _ ⟨aa,ab,ad,rfl,_,hi⟩;exact Ra z<|Rw z<|Wr<|rtO<|qL (som<|ifT hmh L).symm<|b_r hr z z ⟨kW,aa,ab,ad,z,repS.mono (or_ hi<|zin (B:=B) (i:=a8.z) sQ<|c_.lt hi)<|b_O kM lr⟩
   exact Wk<|Wg<|Rm z<|R z (add_ z z)<|Ra z<|Wl (λ_ q=>⟨e_ x0 1,(som<|ifF hmh L).symm,⟨kaA q,kW,iA _ _⟩⟩)
  exact We<|λ_ q=>a_X (som<|ifF hmg J).symm ⟨kaA q,sx,hf⟩
 .rintro x0 ae _ rfl ⟨_,_,hf⟩;have Y:=elL hme;revert ae;refine Wo<|Wm z<|bdB Y λ_ af a0=>RX z (rX z_ z_9 z z (or_ kO<|zin (B:=B) h3<|c_.lt h2) z z af) ?_;rintro _ ⟨ah,ai,ak,rfl,al⟩;exact Rm z<|R z (lnR z_ z<|or_ kO<|zin (B:=B) h3<|c_.lt h2)<|R z (T_ z z)<|Ra z<|Rw z<|Wr<|rS2 a0 hr z z ⟨kW,ah,ai,ak,z,repS.mono al<|b_O lr kM⟩
 exact lqA hme λ_ _ h=>h.2
theorem W_w3p {x1:List Str}{x2:List Str}{res:Bool}(hm:k_u n x1 x2=some res)(df:B<=w0.z)(ax:rp w0 B A0 N0 C0 x1)(ay:rp w0 B A2 N2 C2 x2):g_ prog 90 [sl A0 N0 C0,sl A2 N2 C2] w0 (Q11 w0 B res):=by
 unfold k_u at hm;refine goG func90 z z z λfn hr=>Ws<|Rw z<|Wm z<|R z (lnR z_ z ay)<|R z (add_ z z)<|bdB hm λ_ bc az=>E z (e_2 (α:=Bool) m_L (λ_=>b_U) bc z z) ?_;rintro _ _ ⟨be,bf,bg,rfl,_,ah⟩;refine Rw z<|Wm z<|bdB az λ_ ai aA=>RX z (b_q (α:=Bool) b_y z_4 z z ah ai) ?_;rintro _ ⟨_,bh,rfl⟩;refine E0 (b_g (α:=Bool) z_4 z bh z z z ai ah S_ b_U an_ E_) ?_;rintro _ wk ⟨Sw,_,bi,bj,_⟩;refine Wn<|Wq<|Ws<|Rw z<|bdB aA λ_ aB a0=>Wf (σ:=List Bool) (ρ:=Bool) (λ(kh:Nat)(xn:List Bool) a w=>∃a2 H I Sc,Sat 111 [(0,sl A0 N0 C0),(1,sl A2 N2 C2),(5,sl a2 H I),(6,vI ((kh:Nat):Int))] a/\Below wk.z wk w/\c_ w Sc (sl a2 H I) xn/\Sc.Nodup/\(∀k∈Sc,k∈Sw∨wk.z<=k)) (λ(xn:List Bool) a w=>∃a2 H I Sc,Sat 111 [(1,sl A2 N2 C2),(5,sl a2 H I)] a/\Below wk.z wk w/\c_ w Sc (sl a2 H I) xn/\Sc.Nodup/\(∀k∈Sc,k∈Sw∨wk.z<=k)) (rQ prog fn<|Q11 w0 B) aB ?_ ?_ ?_ ?_ ?_
 .exact λ_ q=>⟨be,bf,bg,Sw,kaA q,br wk,bi,bj,sQ⟩
 .rintro kh xn _ wi _ a1 ⟨a2,H,I,Sc,aC,_,ho,hx,aj⟩ aD;refine Wu ?_ aC;refine Wq<|Wm z<|Rm z<|R z (lnR z_ z kR)<|Rl z z z<|Wx z (λ_=>?_) (λhc=>(J_ a1 hc).elim);refine Wk<|Wq<|Wb<|Wm z<|R z (lnR z_ z kR)<|R z (add_ z z)<|bdB aD λ_ bk aE=>E z (e_2 (α:=Bool) m_L (λ_=>b_U) bk z z) ?_;rintro _ wp ⟨L,O,V,rfl,_,bm⟩;refine Rw z<|Wq<|Ws<|Rw z ?_;obtain ⟨_,aF,a3⟩:=bdS aE;refine b_6 (σ:=(List Bool)×Int) (ρ:=Bool) (λs a w=>un2 (λxl x5=>∃(S1:List Nat),Sat 111 [(0,sl A0 N0 C0),(1,sl A2 N2 C2),(5,sl a2 H I),(6,vI ((kh:Nat):Int)),(7,sl L O V),(8,vI x5)] a/\Cg [wi.z] wp w/\c_ w S1 (sl L O V) xl/\S1.Nodup/\(∀k∈S1,k∈[wi.z]∨wp.z<=k)/\inI x5) s) (λs a w=>un2 (λxl x5=>∃(S1:List Nat),Sat 111 [(0,sl A0 N0 C0),(1,sl A2 N2 C2),(6,vI ((kh:Nat):Int)),(7,sl L O V)] a/\Cg [wi.z] wp w/\c_ w S1 (sl L O V) xl/\S1.Nodup/\(∀k∈S1,k∈[wi.z]∨wp.z<=k)/\inI x5) s) (rQ prog fn<|Q11 w0 B) aF ?_ ?_ ?_ ?_
  .exact λ_ q=>⟨[wi.z],kaA q,cr [wi.z] wp,bm,S_,sQ,ii z⟩
  .rintro ⟨xl,x5⟩ _ wj _ ⟨S1,aG,_,hg,ha,bn,ak⟩ aH;have a4:=a_0 aH;refine Wu ?_ aG;refine Wq<|Wm z<|Rm z<|R z (lnR z_ z kR)<|R z (c_5 z z)<|Wx z (λhcy=>?_) (λhcy=>?_)
   .refine Wk<|Wq<|bdB (ifT a4 hcy) λbo aI aJ=>Wt (λa w=>∃xt,xt=bo/\∃(Sq:List Nat),Sat 111 [(0,sl A0 N0 C0),(1,sl A2 N2 C2),(5,sl a2 H I),(6,vI ((kh:Nat):Int)),(7,sl L O V),(8,vI x5)] a/\Cg S1 wj w/\c_ w Sq (sl L O V) xt/\Sq.Nodup/\(∀k∈Sq,k∈S1∨wj.z<=k)) ?_ ?_
    .refine Wb<|Wq<|Wm z<|Rm z<|bdB aI λ_ bp a5=>xA (α:=Str) z z_ z_9 z z z kR bp λ_ _ _ bq bt _=>?_;obtain ⟨rfl,_⟩:=a_e bt;refine R z (l0 g_9 z<|bq.at0 z)<|R z (a_Q z z)<|Wx z (λhcz=>?_) (λhcz=>?_)
     .refine Wq<|bdB (ifT a5 hcz) λbu aK aL=>Wt (λa w=>∃xu,xu=bu/\∃(Sr:List Nat),Sat 111 [(0,sl A0 N0 C0),(1,sl A2 N2 C2),(5,sl a2 H I),(6,vI ((kh:Nat):Int)),(7,sl L O V),(8,vI x5)] a/\Cg S1 wj w/\c_ w Sr (sl L O V) xu/\Sr.Nodup/\(∀k∈Sr,k∈S1∨wj.z<=k)) ?_ ?_
      .refine Wg<|RM z z<|RM z z<|bdB aK λbv bw a6=>xA (α:=Bool) z b_y z_4 z z z (or_ (B:=bl wi.z) kO<|c_.lt ho) bw λ_ _ _ bx bz _=>?_;obtain rfl:=f_2 bz;refine R z (l0 g_4 z<|bx.at0 z)<|Rm z ?_;rcases bs bv with J | J
       .iterate 3 refine Nh z J ?_
        refine Nv z<|Nv z<|Nv z<|Nv z<|Nv z<|Nh z J<|R z (pT z J z)<|bdB (ifT a6 J) λbA al aM=>RX z (b_q (α:=Bool) b_y z_4 z z hg al) ?_;rintro _ ⟨_,bB,rfl⟩;refine E0 (b_g (α:=Bool) z_4 z bB z z z al hg ha b_U an_ E_) ?_;rintro _ _ ⟨bC,_,bD,bE,_⟩;exact Wl<|λ_ q=>⟨bA,som aM,bC,kaA q,kW,bD,bE,sQ⟩
       have a8:=ifF a6 J;refine Rh z J (mv z)<|Rh z J (T_ z z)<|Rh z J (mv z) ?_;rcases bs (decide<|0<x5) with hcd | hcd
       .refine Rh z hcd (mv z)<|Rh z hcd (mv z)<|Rh z hcd (sb_ z z)<|bdB (ifT a8 hcd) λ_ bF aN=>RXg z z hcd z (at_ (α:=Bool) b_y z_4 z z z (c_.rep hg) bF) ?_;rintro _ ⟨_,_,_,rfl,bG,bH,_⟩;obtain rfl:=f_2 bH;refine Rh z hcd (l0 g_4 z<|bG.at0 z)<|Rh z J (pT z hcd z)<|R z (pF z J z)<|bdB aN λbI am aO=>RX z (b_q (α:=Bool) b_y z_4 z z hg am) ?_;rintro _ ⟨_,bJ,rfl⟩;refine E0 (b_g (α:=Bool) z_4 z bJ z z z am hg ha b_U an_ E_) ?_;rintro _ _ ⟨bK,_,bM,bN,_⟩;exact Wl<|λ_ q=>⟨bI,som aO,bK,kaA q,kW,bM,bN,sQ⟩
       iterate 5 refine Nh z hcd ?_
       refine Rh z J (pF z hcd z)<|R z (pF z J z)<|bdB (ifF a8 hcd) λbO an aP=>RX z (b_q (α:=Bool) b_y z_4 z z hg an) ?_;rintro _ ⟨_,bP,rfl⟩;refine E0 (b_g (α:=Bool) z_4 z bP z z z an hg ha b_U an_ E_) ?_;rintro _ _ ⟨bR,_,bS,bT,_⟩;exact Wl<|λ_ q=>⟨bO,som aP,bR,kaA q,kW,bS,bT,sQ⟩
      rintro bU _ ⟨xu,rfl,Sr,_,_,bV,bW,_⟩;revert bU;exact Wo<|We<|exH<|λ_ q=>⟨xu,som aL,Sr,kaA q,kW,bV,bW,sQ⟩
     refine Wk<|Wq<|Wq<|bdB (ifF a5 hcz) λbX a9 aa=>Wt (λa w=>∃Y,Y=bX/\Sat 111 [(0,sl A0 N0 C0),(1,sl A2 N2 C2),(5,sl a2 H I),(6,vI ((kh:Nat):Int)),(7,sl L O V),(8,vI x5),(65,vB Y)] a/\Below wj.z wj w) ?_ ?_
     .refine Wg<|Rm z<|Rq z z z<|Rm z ?_;rcases bs (x5==0) with hcb | hcb
      .iterate 6 refine Nh z hcb ?_
       exact R z (pT z hcb z)<|Wl (λ_ q=>⟨true,som<|ifT a9 hcb,kaA q,br wj⟩)
      refine Rh z hcb (mv z)<|Rh z hcb (mv z)<|Rh z hcb (sb_ z z)<|bdB (ifF a9 hcb) λbY bZ aQ=>RXg z z hcb z (at_ (α:=Bool) b_y z_4 z z z (or_ (B:=bl wi.z) kO<|c_.lt ho) bZ) ?_;rintro _ ⟨_,_,_,rfl,c0,c1,_⟩;obtain rfl:=f_2 c1;exact Rh z hcb (l0 g_4 z<|c0.at0 z)<|Rh z hcb (not_ z)<|R z (pF z hcb z)<|Wl (λ_ q=>⟨!bY,som aQ,kaA q,br wj⟩)
     rintro c2 _ ⟨Y,rfl,_,_⟩;revert c2;refine Wo<|Wc z (λW=>?_) (λW=>?_)
     .exact We<|exH<|λ_ q=>⟨xl,som<|ifT aa W,S1,kaA q,kW,kO,ha,sQ⟩
     refine Wk<|Wm z<|Rm z<|R z (sb_ z z)<|bdB (ifF aa W) λ_ c3 aR=>xA (α:=Str) z z_ z_9 z z z kR c3 λ_ _ _ c5 c6 _=>?_;obtain ⟨rfl,c7⟩:=a_e c6;refine R z (l0 g_9 z<|c5.at0 z) ?_;obtain ⟨_,c8,ca,aS⟩:=V_ aR;refine E z (fc call146 z<|W_w1o (B:=B) ca kM c7) ?_;rintro _ ap ⟨_,rfl,_⟩;refine Rm z<|Re z z z<|Re z z z<|Ra z<|Rw z<|bdB aS λcb aT aU=>Wt (λa w=>∃xv,xv=cb/\∃(Ss:List Nat),Sat 111 [(0,sl A0 N0 C0),(1,sl A2 N2 C2),(5,sl a2 H I),(6,vI ((kh:Nat):Int)),(7,sl L O V),(8,vI x5)] a/\Cg S1 ap w/\c_ w Ss (sl L O V) xv/\Ss.Nodup/\(∀k∈Ss,k∈S1∨ap.z<=k)) ?_ ?_
     .refine Wd (X:=noX) 1073741824 (pl_ 31 [30]) mo (by kernel_rfl) λdg dh _=>?_;iterate 4 refine dM z z z ?_
      refine bdB aT λcc cd ab=>dxA (α:=Str) z z z_ z_9 z z z kR cd λ_ _ _ ce cf _=>?_;obtain ⟨rfl,_⟩:=a_e cf;refine dR z z (l0 g_9 z<|ce.at0 z)<|dR z z (a_Q z z)<|dM z z z ?_;rcases bs (cc.b==(⟨[35]⟩:Str).b) with hcm | hcm
      .have ad:=ifT ab hcm;refine dRg z z z hcm z (mv z)<|dR z z (pT z hcm z)<|dM z z z ?_;rcases bs c8 with G | G
       .iterate 11 refine dRn z z z G z ?_
        iterate 5 refine dRu z z z z ?_
        refine dRn z z z G z<|dR z z (pT z G z)<|bdB (ifT ad G) λcg aq aV=>dRX z z (b_q (α:=Bool) b_y z_4 z z kO aq) ?_;rintro _ ⟨_,ch,rfl⟩;refine dE0 z (b_g (α:=Bool) z_4 z ch z z z aq kO ha b_U an_ E_) (.inl z) ?_;rintro _ _ ⟨ci,_,cj,ck,_⟩;exact pD<|λ_ q=>⟨cg,som aV,ci,kaA q,kW,cj,ck,sQ⟩
       refine dRg z z z G z (mv z)<|dRg z z z G z (mv z)<|bdB (ifF ad G) λcl cm aW=>a_G z z z G z (at_ (α:=Str) z_ z_9 z z z kR cm) ?_;rintro _ ⟨_,_,_,rfl,cn,co,_⟩;obtain ⟨rfl,_⟩:=a_e co;refine dRg z z z G z (l0 g_9 z<|cn.at0 z)<|dRg z z z G z (mv z)<|dRg z z z G z (mv z)<|dRg z z z G z (sb_ z z)<|bdB aW λcp cq ae=>a_G z z z G z (at_ (α:=Str) z_ z_9 z z z kR cq) ?_;rintro _ ⟨_,_,_,rfl,ct,cu,_⟩;obtain ⟨rfl,_⟩:=a_e cu;refine dRg z z z G z (l0 g_9 z<|ct.at0 z)<|dRg z z z G z (a_Q z z)<|dRg z z z G z (mv z) ?_;rcases bs (cl.b==cp.b) with hce | hce
       .refine dRg z z z hce z (mv z)<|dRg z z z hce z (mv z)<|bdB (ifT ae hce) λ_ cv aX=>a_G z z z hce z (at_ (α:=Str) z_ z_9 z z z kR cv) ?_;rintro _ ⟨_,_,_,rfl,cw,cx,_⟩;obtain ⟨rfl,_⟩:=a_e cx;refine dRg z z z hce z (l0 g_9 z<|cw.at0 z)<|dRg z z z hce z (e_z z z)<|dRg z z z G z (pT z hce z)<|dR z z (pF z G z)<|bdB aX λcy ar aY=>dRX z z (b_q (α:=Bool) b_y z_4 z z kO ar) ?_;rintro _ ⟨_,cz,rfl⟩;refine dE0 z (b_g (α:=Bool) z_4 z cz z z z ar kO ha b_U an_ E_) (.inl z) ?_;rintro _ _ ⟨cA,_,cB,cC,_⟩;exact pD<|λ_ q=>⟨cy,som aY,cA,kaA q,kW,cB,cC,sQ⟩
       iterate 5 refine dRn z z z hce z ?_
       refine dRg z z z G z (pF z hce z)<|dR z z (pF z G z)<|bdB (ifF ae hce) λcD au aZ=>dRX z z (b_q (α:=Bool) b_y z_4 z z kO au) ?_;rintro _ ⟨_,cE,rfl⟩;refine dE0 z (b_g (α:=Bool) z_4 z cE z z z au kO ha b_U an_ E_) (.inl z) ?_;rintro _ _ ⟨cF,_,cG,cH,_⟩;exact pD<|λ_ q=>⟨cD,som aZ,cF,kaA q,kW,cG,cH,sQ⟩
      refine dRn z z z hcm z<|dR z z (pF z hcm z)<|dM z z z<|dRg z z z z z (mv z)<|dRg z z z z z (mv z)<|bdB (ifF ab hcm) λcI cJ b0=>a_G z z z z z (at_ (α:=Str) z_ z_9 z z z kR cJ) ?_;rintro _ ⟨_,_,_,rfl,cK,cL,_⟩;obtain ⟨rfl,_⟩:=a_e cL;refine dRg z z z z z (l0 g_9 z<|cK.at0 z)<|dRg z z z z z (mv z)<|dRg z z z z z (mv z)<|dRg z z z z z (sb_ z z)<|bdB b0 λcM cN af=>a_G z z z z z (at_ (α:=Str) z_ z_9 z z z kR cN) ?_;rintro _ ⟨_,_,_,rfl,cO,cP,_⟩;obtain ⟨rfl,_⟩:=a_e cP;refine dRg z z z z z (l0 g_9 z<|cO.at0 z)<|dRg z z z z z (a_Q z z)<|dRg z z z z z (mv z) ?_;rcases bs (cI.b==cM.b) with hcf | hcf
      .refine dRg z z z hcf z (mv z)<|dRg z z z hcf z (mv z)<|bdB (ifT af hcf) λ_ cQ b1=>a_G z z z hcf z (at_ (α:=Str) z_ z_9 z z z kR cQ) ?_;rintro _ ⟨_,_,_,rfl,cR,cS,_⟩;obtain ⟨rfl,_⟩:=a_e cS;refine dRg z z z hcf z (l0 g_9 z<|cR.at0 z)<|dRg z z z hcf z (e_z z z)<|dRg z z z z z (pT z hcf z)<|dR z z (pF z z z)<|bdB b1 λcT av b2=>dRX z z (b_q (α:=Bool) b_y z_4 z z kO av) ?_;rintro _ ⟨_,cU,rfl⟩;refine dE0 z (b_g (α:=Bool) z_4 z cU z z z av kO ha b_U an_ E_) (.inl z) ?_;rintro _ _ ⟨cV,_,cW,cX,_⟩;exact pD<|λ_ q=>⟨cT,som b2,cV,kaA q,kW,cW,cX,sQ⟩
      iterate 5 refine dRn z z z hcf z ?_
      refine dRg z z z z z (pF z hcf z)<|dR z z (pF z z z)<|bdB (ifF af hcf) λcY aw b3=>dRX z z (b_q (α:=Bool) b_y z_4 z z kO aw) ?_;rintro _ ⟨_,cZ,rfl⟩;refine dE0 z (b_g (α:=Bool) z_4 z cZ z z z aw kO ha b_U an_ E_) (.inl z) ?_;rintro _ _ ⟨d0,_,d1,d2,_⟩;exact pD<|λ_ q=>⟨cY,som b3,d0,kaA q,kW,d1,d2,sQ⟩
     rintro d3 _ ⟨xv,rfl,Ss,_,_,d4,d5,_⟩;revert d3;exact λ_ q=>⟨xv,som aU,Ss,kaA q,kW,d4,d5,sQ⟩
    rintro d6 _ ⟨xt,rfl,Sq,_,_,d7,d8,_⟩;revert d6;exact Wo<|Wg<|Rm z<|R z (add_ z z)<|Ra z<|Wl (λ_ q=>⟨(xt,e_ x5 1),(som aJ).symm,⟨Sq,kaA q,kW,d7,d8,sQ,iA _ _⟩⟩)
   exact We<|λ_ q=>a_X (som<|ifF a4 hcy).symm ⟨S1,kaA q,kW,hg,ha,sQ,ak⟩
  .rintro ⟨xl,x5⟩ d9 _ rfl ⟨S1,_,_,hg,ha,bn,ak⟩;have b4:=elL a3;revert d9;exact Wo<|Wg<|Rm z<|Rw z<|Wg<|Rm z<|R z (inc_ a1 (lt_ (repS.len ax) u_) z z)<|Ra z<|Wl (λ_ q=>⟨xl,(som<|a_0 b4).symm,⟨L,O,V,S1,kaA q,kW,hg,ha,sQ⟩⟩)
  rintro _ _ _ _ rfl ⟨rfl,b5⟩;have b6:=elR a3;exact ⟨g_n<|h_3 (som b6).symm ⟨rfl,b5⟩,z⟩
 .rintro xn _ _ ⟨a2,H,I,Sc,b7,da,ho,hx,aj⟩;refine Wu ?_ b7;refine Wq<|Wm z<|Rm z<|R z (lnR z_ z kR)<|Rl z z z<|Wx z (λhc=>(K_ hc).elim) (λ_=>?_);exact We<|λ_ q=>⟨rfl,⟨a2,H,I,Sc,kaA q,da,ho,hx,sQ⟩⟩
 .rintro xn db _ rfl ⟨a2,H,I,Sc,_,_,ho,hx,aj⟩;have b8:=elL a0;revert db;refine Wo<|Wm z<|Rm z<|R z (lnR z_ z kR)<|bdB b8 λ_ dc b9=>xA (α:=Bool) z b_y z_4 z z z (c_.rep ho) dc λ_ _ _ dd de _=>?_;obtain rfl:=f_2 de;exact R z (l0 g_4 z<|dd.at0 z)<|Rw z<|Wr<|rS1 b9 hr z ⟨kW,z⟩
 exact lqA a0 λ_ _ h=>h.2
theorem W_w3q {x1:Str}{x2:Str}{res:Bool}(hm:k_v n x1 x2=some res)(W:B<=w0.z)(O:x1.b.length<=LEN)(V:x2.b.length<=LEN):g_ prog 57 [Str.v x1,Str.v x2] w0 (Q11 w0 B res):=by
 unfold k_v at hm;refine goG func57 z z z λfn hr=>Ws<|Rw z<|Wm z ?_;obtain ⟨_,r6,e7,Y⟩:=V_ hm;refine E z (fc call88 z<|W_w3o (B:=B) e7 W O) ?_;rintro _ _ ⟨_,_,_,_,rfl,_⟩;refine Rm z<|Re z z z<|Re z z z<|Ra z<|Rw z<|Wm z ?_;obtain ⟨_,r9,ea,hmb⟩:=V_ Y;refine E z (fc call89 z<|W_w1q (B:=B) ea kM V) ?_;rintro _ I ⟨_,_,_,_,rfl,hc⟩;refine Rm z<|Re z z z<|Re z z z<|Ra z<|Rw z<|Wq<|bdB hmb λud J hme=>Wt (λa w=>∃x3,x3=ud/\Sat 28 [(4,vB x3)] a/\Below I.z I w) ?_ ?_
 .refine Wg<|RM z z ?_;rcases bs r6 with H | H
  .have L:=ifT J H;refine Rh z H (mv z)<|R z (pT z H z)<|Rm z ?_;rcases bs r9 with G | G
   .refine Rh z G (mv z)<|Rh z G (mv z)<|bdB (ifT L G) λrf eg hmh=>Eg z z G z (fc call90 z<|W_w3p (B:=I.z) eg zr (repS.mono kR<|O_ kM)<|repS.mono hc<|f_U kM lr) ?_;rintro _ _ ⟨si,rfl⟩;exact R z (pT z G z)<|Ra z<|Wl (λ_ q=>⟨rf,som hmh,kaA q,si⟩)
   iterate 3 refine Nh z G ?_
   exact R z (pF z G z)<|Ra z<|Wl (λ_ q=>⟨false,som<|ifF L G,kaA q,br I⟩)
  exact Nh z H<|R z (pF z H z)<|Rm z<|Nh z z<|Nh z z<|Nh z z<|R z (pF z z z)<|Ra z<|Wl (λ_ q=>⟨false,som<|ifF J H,kaA q,br I⟩)
 rintro aj _ ⟨x3,rfl,_,_⟩;revert aj;exact Wo<|Wr<|rS1 hme hr z ⟨kW,z⟩
def Q25 (w0:World)(B:Zone)(r:(List j_))(v:Value)(w':World):Prop:=Bw w0 w'/\(λr1=>∃G H I S1,(sl G H I)=v/\c_ w' S1 (sl G H I) r1/\S1.Nodup/\(∀k∈S1,w0.z<=k)) r
theorem W_w3r {x1:d_}{x2:Bt}{x3:Str}{res:(List j_)}(hm:k_w n x1 x2 x3=some res)(aM:B<=w0.z)(aK:rp w0 B A0 N0 C0 x1.rules)(aL:rp w0 B A2 N2 C2 x2)(a2:x3.b.length<=LEN):g_ prog 37 [(.agg #[sl A0 N0 C0]),sl A2 N2 C2,Str.v x3] w0 (Q25 w0 B res):=by
 unfold k_w at hm;refine goG func37 z z z λfn hr=>Ws<|EvX [sl A0 N0 C0] z z z λV _ _=>Rw z<|Ws<|E z (f0 (α:=j_) d_t) ?_;rintro _ _ ⟨ax,ns,cy,rfl,_,_⟩;refine Rw z<|Ws<|R z (lC [sl A0 N0 C0] s_ n_ z)<|Rm z ?_;obtain ⟨_,_,ez,a3⟩:=V_ hm;refine E z (fc call56 z<|W_w3n (B:=B) ez kM kR kR) ?_;rintro _ L ⟨_,al,nm,cn,_,rfl,Y,_,_⟩;refine Rm z<|Re z z z<|Re z z z<|Ra z<|Rw z<|Wq<|Ws<|Rw z<|bdB a3 λ_ a4 hmo=>Wf (σ:=List j_) (ρ:=List j_) (λ(kh:Nat)(O:List j_) a w=>∃H I J G,Sat 39 [(2,Str.v x3),(7,sl H I J),(8,sl al nm cn),(10,vI ((kh:Nat):Int))] a/\Cg [V.z] L w/\c_ w G (sl H I J) O/\G.Nodup/\(∀k∈G,k∈[V.z]∨L.z<=k)) (λ(O:List j_) a w=>∃H I J G,Sat 39 [(7,sl H I J)] a/\Cg [V.z] L w/\c_ w G (sl H I J) O/\G.Nodup/\(∀k∈G,k∈[V.z]∨L.z<=k)) (rQ prog fn<|Q25 w0 B) a4 ?_ ?_ ?_ ?_ ?_
 .exact λ_ q=>⟨ax,ns,cy,[V.z],kaA q,cr [V.z] L,kO,S_,sQ⟩
 .rintro kh O _ _ _ hkp ⟨H,I,J,G,a5,_,hb,W,hq⟩ a6;refine Wu ?_ a5;refine Wq<|Wm z<|Rm z<|R z (lnR d_b z<|or_ kO<|c_.lt Y)<|Rl z z z<|Wx z (λ_=>?_) (λhc=>(J_ hkp hc).elim);refine Wk<|Wq<|Wb<|Wm z<|RM z z<|bdB a6 λ_ aj a7=>xA (α:=j_) z d_b b_x z z z (or_ (B:=bl L.z) kO<|c_.lt Y) aj λ_ _ _ ak am _=>?_;obtain ⟨rfl,an,_,_,_⟩:=h_T am;refine Rf z l_4 z<|R z (l0 g_9 z<|ak.at (j:=0) z)<|bdB a7 λ_ ap a8=>EcA z (fc call57 z<|W_w3q (B:=B) ap kM a2 an) λwc _=>Wn<|bdB a8 λaq hur a9=>Wt (λa w=>∃xd,xd=aq/\∃ae nf cg Sa,Sat 39 [(2,Str.v x3),(7,sl ae nf cg),(8,sl al nm cn),(10,vI ((kh:Nat):Int))] a/\Cg G wc w/\c_ w Sa (sl ae nf cg) xd/\Sa.Nodup/\(∀k∈Sa,k∈G∨wc.z<=k)) ?_ ?_
  .refine Wc z (λhci=>?_)<|λhci=>?_
   .refine Wg<|RM z z<|Rm z<|bdB (ifT hur hci) λx4 ar aa=>xA (α:=j_) z d_b b_x z z z (or_ (B:=bl L.z) kO<|c_.lt Y) ar λ_ _ _ au av _=>?_;obtain ⟨rfl,ht,hu,hv,hw⟩:=h_T av;refine R z (lN (vs:=[Str.v x4.path,vI x4.rule,vI x4.start,vI x4.end_]) f_v b_x z z fid au)<|E z (fS [(.tmp 35)] d_t z z z (a_i z) (lb z)<|lb z) ?_;rintro _ aw ⟨rfl,hj⟩;have:=hj.below;have a0:Blk aw wc.z [Str.v x4.path,vI x4.rule,vI x4.start,vI x4.end_]:=hj.blk;have:=b_d hj<|f_H (x:=x4) ht hu hv hw;refine bdB aa λay az ab=>E z (a_W (α:=j_) d_t az z z kO W a0 (f_H (x:=x4) ht hu hv hw) an_ E_) ?_;rintro _ _ ⟨aA,aB,aC,aD,rfl,_,aE,aF,_⟩;exact Ra z<|Wl (λ_ q=>⟨ay,som ab,aB,aC,aD,aA,kaA q,kW,aE,aF,sQ⟩)
   exact Z_<|λ_ q=>⟨O,som<|ifF hur hci,H,I,J,G,kaA q,cr G wc,kO,W,sQ⟩
  rintro aG _ ⟨xd,rfl,ae,nf,cg,Sa,_,_,aH,aI,_⟩;revert aG;exact Wo<|Wg<|Rm z<|R z (inc_ hkp (lt_ (c_.len Y) u_) z z)<|Ra z<|Wl (λ_ q=>⟨xd,(som a9).symm,⟨ae,nf,cg,Sa,kaA q,kW,aH,aI,sQ⟩⟩)
 .rintro O _ _ ⟨H,I,J,G,ad,_,hb,W,hq⟩;refine Wu ?_ ad;refine Wq<|Wm z<|Rm z<|R z (lnR d_b z<|or_ kO<|c_.lt Y)<|Rl z z z<|Wx z (λhc=>(K_ hc).elim) (λ_=>?_);exact We<|λ_ q=>⟨rfl,⟨H,I,J,G,kaA q,kW,hb,W,sQ⟩⟩
 .rintro O aJ _ rfl ⟨H,I,J,G,_,_,hb,W,hq⟩;have af:=elL hmo;revert aJ;exact Wo<|Wm z<|Rw z<|Wr<|rS1 af hr z ⟨kW,H,I,J,G,z,hb,W,sQ⟩
 exact lqA hmo λ_ _ h=>h.2
def Q26 (w0:World)(B:Zone)(r:Int×Int×Int)(v:Value)(w':World):Prop:=Bw w0 w'/\un3 (λr1 r2 r3=>v = .tuple #[vI r1,vI r2,vI r3]/\inI r1/\inI r2/\inI r3) r
theorem W_w3s {x1:d_}{x2:f_}{x3:Bt}{x4:Int}{res:Int×Int×Int}(hm:g_p x1 x2 x3 x4=some res)(b1:B<=w0.z)(aV:rp w0 B A0 N0 C0 x1.rules)(a6:x2.name.b.length<=LEN)(a7:inI x2.kind)(a8:inI x2.size)(aW:rp w0 B A4 N4 C4 x2.bytes)(aX:rp w0 B A5 N5 C5 x2.names)(aY:rp w0 B A3 N3 C3 x2.tags)(aZ:rp w0 B A6 N6 C6 x2.kids)(b0:rp w0 B A7 N7 C7 x3)(O:inI x4):g_ prog 147 [(.agg #[sl A0 N0 C0]),.agg #[Str.v x2.name,vI x2.kind,vI x2.size,vB x2.little,sl A4 N4 C4,sl A5 N5 C5,sl A3 N3 C3,sl A6 N6 C6],sl A7 N7 C7,vI x4] w0 (Q26 w0 B res):=by
 unfold g_p at hm;refine goG func147 z z z λfn hr=>Ws<|EvX [sl A0 N0 C0] z z z λw5 _ _=>EvX (vR x2 A4 N4 C4 A5 N5 C5 A3 N3 C3 A6 N6 C6) z z z λI _ a9=>RA z z<|Rw z<|Wq<|Ws<|Rf z a_r z<|R z (l0 g_3 z<|a9.at z)<|Wn<|Wb<|Ws<|Rq z z z<|Rw z<|Wc z (λW=>?_) (λW=>?_)
 .refine Wq (Wd (X:=noX) 0 (pl_ 7 []) mo (by kernel_rfl) λb2 b3 _=>dM z z z<|dR z z (fd Q_ z)<|dR z z (l0 A_ z kBa)<|dR z z (lnR v_ z kR) ?_);iterate 3 refine dQ z z z ?_
  exact pD<|Wo<|Wr<|rtO<|rS3 (ifT hm W) hr z z z ⟨kW,z,O,c_3<|repS.len kR,ii z⟩
 have hmr:=ifF hm W;refine Ws<|Rq z z z<|Rw z<|Wc z (λY=>?_) (λY=>?_)
 .exact Wm z<|RA z z<|Rw z<|Wr<|rtO<|rS3 (ifT hmr Y) hr z z z ⟨kW,z,O,ii z,ii z⟩
 refine Ws<|Rq z z z<|Rw z<|bdB (ifF hmr Y) λau hus V=>Wt (λa w=>Sum.inl ()=au/\Sat 81 [(3,vI x4)] a/\Below I.z I w) ?_ ?_
 .refine Wc z (λa0=>?_)<|λa0=>?_
  .refine Wq<|bdB (ifT hus a0) λav huu hmv=>Wt (λa w=>∃xa,xa=av/\Sat 81 [(3,vI x4),(37,vB xa)] a/\Below I.z I w) ?_ ?_
   .refine Wg<|RM z z<|R z (lnR h_ z kR)<|Rl z z z<|Rm z ?_;rcases bs (decide<|x4<(x3.length:Int)) with G | G
    .refine Rh z G (mv z)<|Rh z G (mv z)<|bdB (ifT huu G) λaw ax aa=>RXg z z G z (at_ (α:=UInt8) h_ z_5 z z z kR ax) ?_;rintro _ ⟨_,_,_,rfl,ay,az,_⟩;obtain rfl:=u8 az;exact Rh z G (l0 g_5 z<|ay.at0 z)<|Rh z G (eql z z)<|R z (pT z G z)<|Wl (λ_ q=>⟨(b_ aw)==(b_ (1:UInt8)),som aa,kaA q,br I⟩)
    iterate 5 refine Nh z G ?_
    exact R z (pF z G z)<|Wl (λ_ q=>⟨false,som<|ifF huu G,kaA q,br I⟩)
   rintro aA _ ⟨xa,rfl,_,aB⟩;revert aA;refine Wo<|Wc z (λhcb=>?_) (λhcb=>?_)
   .refine Wm z<|R z (add_ z z)<|RA z z<|Rw z ?_;obtain rfl:=som<|ifT hmv hcb;have ab:=elR V;exact Wr<|rtO<|rS3 ab hr z z z ⟨kW,z,iA _ _,ii z,ii z⟩
   exact Z_<|λ_ q=>⟨som<|ifF hmv hcb,kaA q,aB⟩
  refine Wq<|Ws<|Rq z z z<|Rw z<|bdB (ifF hus a0) λaC huw ad=>Wt (λa w=>∃xc,xc=aC/\Sat 81 [(2,sl A7 N7 C7),(3,vI x4),(4,pt w0.z),(5,pt w5.z),(40,vB xc)] a/\Below I.z I w) ?_ ?_
  .refine Wc z (λhcd=>?_)<|λhcd=>?_
   .exact Z_<|λ_ q=>⟨x2.kind==5,som<|ifT huw hcd,kaA q,br I⟩
   exact Wg<|Rq z z z<|Ra z<|Wl (λ_ q=>⟨x2.kind==7,som<|ifF huw hcd,kaA q,br I⟩)
  rintro aD we ⟨xc,rfl,_,_⟩;revert aD;refine Wo<|bdB ad λaE hux hmf=>Wt (λa w=>Sum.inl ()=aE/\Sat 81 [(3,vI x4)] a/\Below we.z we w) ?_ ?_
  .refine Wc z (λhcg=>?_)<|λhcg=>?_
   .refine Wq (Wd (X:=noX) 0 (pl_ 15 [7]) mo (by kernel_rfl) λb4 b5 _=>dR z z (lC [sl A0 N0 C0] s_ n_ z)<|dR z z (fd Q_ z)<|dR z z (l0 A_ z kBa) ?_);refine bdB (ifT hux hcg) λ_ aF ae=>dxA (α:=Int) z z v_ z_3 z z z kR aF λ_ _ _ aG aH _=>?_;obtain ⟨rfl,aI⟩:=a_z aH;refine dR z z (l0 g_3 z<|aG.at0 z)<|dM z z z<|dM z z z ?_;obtain ⟨rh,ry,_,aJ,af⟩:=N_ ae;refine dE z z (fc call141 z<|l_7 (B:=B) aJ kM kR aI kR O) iB ?_;rintro _ L ⟨_,rfl,hi,hz⟩;refine dM z z z ?_;iterate 3 refine dR z z (ext_ z z) ?_
    iterate 3 refine dQ z z z ?_
    refine pD<|Wo<|Wb<|Wm z<|R z (not_ z)<|Rw z<|bdB af λaK a1 hmj=>Wt (λa w=>Sum.inl ()=aK/\Sat 81 [(3,vI x4)] a/\Below L.z L w) ?_ ?_
    .refine Wc z (λhck=>?_)<|λhck=>?_
     .exact Z_<|λ_ q=>⟨som<|ifT a1 hck,kaA q,br L⟩
     refine Wq<|bdB (ifF a1 hck) λaL a2 a3=>Wt (λa w=>∃xl,xl=aL/\Sat 81 [(3,vI x4),(5,pt w5.z),(11,vI rh),(12,vI ry),(58,vB xl)] a/\Below L.z L w) ?_ ?_
     .refine Wg<|Rf z a_r z<|R z (l0 g_3 z kBa)<|Rq z z z<|Rm z ?_;rcases bs (x2.kind==5) with J | J
      .exact Rh z J (mv z)<|Rh z J (c_5 z z)<|R z (pT z J z)<|Ra z<|Wl (λ_ q=>⟨decide<|rh<=40,som<|ifT a2 J,kaA q,br L⟩)
      exact Nh z J<|Nh z J<|R z (pF z J z)<|Ra z<|Wl (λ_ q=>⟨false,som<|ifF a2 J,kaA q,br L⟩)
     rintro aM wm ⟨xl,rfl,_,_⟩;revert aM;refine Wo<|Wc z (λhcn=>?_) (λhcn=>?_)
     .refine Wm z<|Rm z<|RA z z<|Rw z ?_;obtain rfl:=som<|ifT a3 hcn;have ah:=elR hmj;obtain rfl:=som ah;have ai:=elR hmf;obtain rfl:=som ai;have aj:=elR V;obtain rfl:=som aj;exact Wr<|rtO<|rtO<|d_A hr z z z ⟨kW,z,hz,hi,ii z⟩
     refine Wq<|bdB (ifF a3 hcn) λaN a4 a5=>Wt (λa w=>∃xo,xo=aN/\Sat 81 [(3,vI x4),(11,vI rh),(12,vI ry),(68,vB xo)] a/\Below wm.z wm w) ?_ ?_
     .refine Wg<|Rf z a_r z<|R z (l0 g_3 z kBa)<|Rq z z z<|Rm z ?_;rcases bs (x2.kind==7) with H | H
      .refine Rh z H (lN (vs:=vR x2 A4 N4 C4 A5 N5 C5 A3 N3 C3 A6 N6 C6) G_ l_ z z fid<|kBr 0 8)<|Rh z H (mv z)<|bdB (ifT a4 H) λaO aP ak=>Eg z z H z (fc call142 z<|f_B (B:=B) aP kM a6 a7 a8 kR kR kR kR hi<|ii z) ?_;rintro _ _ ⟨aQ,rfl,_⟩;exact Rh z H (b_u z z)<|R z (pT z H z)<|Ra z<|Wl (λ_ q=>⟨decide<|0<=aO,som ak,kaA q,aQ⟩)
      iterate 4 refine Nh z H ?_
      exact R z (pF z H z)<|Ra z<|Wl (λ_ q=>⟨false,som<|ifF a4 H,kaA q,br wm⟩)
     rintro aR _ ⟨xo,rfl,_,_⟩;revert aR;refine Wo<|Wc z (λhcp=>?_) (λhcp=>?_)
     .refine Wm z<|Rm z<|RA z z<|Rw z ?_;obtain rfl:=som<|ifT a5 hcp;have al:=elR hmj;obtain rfl:=som al;have am:=elR hmf;obtain rfl:=som am;have an:=elR V;obtain rfl:=som an;exact Wr<|rtO<|rtO<|d_A hr z z z ⟨kW,z,hz,ii z,hi⟩
     exact Z_<|λ_ q=>⟨som<|ifF a5 hcp,kaA q,kW⟩
    rintro aS _ ⟨rfl,_,_⟩;have ap:=elL hmj;revert aS;exact λ_ q=>⟨som ap,kaA q,kW⟩
   exact Z_<|λ_ q=>⟨som<|ifF hux hcg,kaA q,br we⟩
  rintro aT _ ⟨rfl,_,_⟩;have aq:=elL hmf;revert aT;exact λ_ q=>⟨som aq,kaA q,kW⟩
 rintro aU _ ⟨rfl,_,_⟩;have ar:=elL V;revert aU;exact Wo<|Wm z<|RA z z<|Rw z<|Wr<|rS3 ar hr z z z ⟨kW,z,O,ii z,ii z⟩
theorem W_w3t {x1:d_}{x2:Int}{x3:Bt}{x4:Int}{x5:Str}{res:Int×Int×Bool}(hm:d_P n x1 x2 x3 x4 x5=some res)(aL:B<=w0.z)(aH:rp w0 B A0 N0 C0 x1.rules)(aI:inI x2)(aJ:rp w0 B A7 N7 C7 x3)(a0:inI x4)(aK:x5.b.length<=LEN):g_ prog 91 [(.agg #[sl A0 N0 C0]),vI x2,sl A7 N7 C7,vI x4,Str.v x5] w0 (Q16 w0 B res):=by
 unfold d_P at hm;refine goG func91 z z z λfn hr=>Ws<|EvX [sl A0 N0 C0] z z z λwh _ a2=>RA z z<|Rw z<|Ws<|Rf z a_l z<|R z (l0 a_p z<|a2.at z)<|Rm z<|bdB hm λx6 ew hmx=>xA (α:=f_) z Y_ l_ z z z kR ew λ_ _ _ hy hz _=>?_;obtain ⟨G,H,I,J,L,O,V,W,ca,ab,nc,cd,rfl,hi,hj,hk,_,_,_,_⟩:=a_T hz;refine R z (lN (vs:=vR x6 G H I J L O V W ca ab nc cd) G_ l_ z z fid hy)<|EvZ [(Str.v (⟨[]⟩:Str)),vI 0,vI 0,vB false,sN,sN,sN,sN] z c_t z λaM _ a3=>E0q (vR x6 G H I J L O V W ca ab nc cd) l_ z z a3 z λaN ai _=>Wn<|Ws<|R z (lC [sl A0 N0 C0] s_ n_ z)<|R z (lN (vs:=vR x6 G H I J L O V W ca ab nc cd) G_ l_ z z fid<|ai.row 0 8 z)<|RM z z ?_;obtain ⟨_,aj,ak,al,a5⟩:=N_ hmx;refine E z (fc call147 z<|W_w3s (B:=B) al kM kR hi hj hk kR kR kR kR kR a0) ?_;rintro _ we ⟨_,rfl,am,hl,an⟩;refine Rm z ?_;iterate 3 refine Re z z z ?_
 refine RA z z<|Rw z<|Wq<|Ws<|Rw z<|bdB a5 λ_ a6 hmq=>Wf (σ:=Int) (ρ:=Int×Int×Bool) (λ(kr:Nat)(x0:Int) a w=>Sat 64 [(2,sl A7 N7 C7),(4,Str.v x5),(5,pt w0.z),(13,pt wh.z),(14,vI x0),(15,vI aj),(16,vI ak),(17,vI ((kr:Nat):Int))] a/\Below we.z we w/\inI x0) (λ(x0:Int) a w=>Sat 64 [] a/\Below we.z we w/\inI x0) (rQ prog fn<|Q16 w0 B) a6 ?_ ?_ ?_ ?_ ?_
 .exact λ_ q=>⟨kaA q,br we,am⟩
 .rintro kr x0 _ _ _ hkg ⟨a7,_,hf⟩ a9;refine Wu ?_ a7;refine Wq<|Wm z<|Rm z<|Rl z z z<|Wx z (λ_=>?_) (λhc=>(j_5 hkg hc).elim);refine Wk<|Wq<|Wb<|Ws<|R z (lN (vs:=vR x6 G H I J L O V W ca ab nc cd) G_ l_ z z fid<|kBr 0 8)<|RM z z<|bdB a9 λ_ ap aa=>E z (fc call142 z<|f_B (B:=B) ap kM hi hj hk kR kR kR kR an<|ic (QAO hkg)<|tl_ hl) ?_;rintro _ _ ⟨_,rfl,ht⟩;refine Rw z<|Wq<|Ws<|R z (lN (vs:=vR x6 G H I J L O V W ca ab nc cd) G_ l_ z z fid<|kBr 0 8)<|Rm z<|bdB aa λ_ aq hms=>E z (fc call143 z<|W_w1m (B:=B) aq kM hi hj hk kR kR kR kR<|ic (QAO hkg)<|tl_ hl) ?_;rintro _ _ ⟨_,rfl,_⟩;refine Rm z<|R z (a_Q z z)<|Wx z (λhcm=>?_) (λhcm=>?_)
  .exact Wm z<|Rm z<|RA z z<|Rw z<|Wr<|rtO<|qL (som<|ifT hms hcm).symm<|d_A hr z z z ⟨kW,z,ht,hf⟩
  refine Wk<|Ws<|R z (lC [sl A0 N0 C0] s_ n_ z)<|RM z z<|Rm z ?_;obtain ⟨ar,au,_,av,hmu⟩:=N_<|ifF hms hcm;refine E z (fc call92 z<|l_8.run (B:=B) av kM kR ht kR hf) ?_;rintro _ _ ⟨_,aw,ax,ay,_,az,aA,aB,_,rfl,_,_,_,aC,_,aD,aE⟩;obtain ⟨_,_,_,_,_⟩:=a_5 aD aE;refine Rm z ?_;iterate 3 refine Re z z z ?_
  refine EvZ [vI 0,sN,sN] z a_h z λaO _ Y=>E0q [vI ar.number,sl aw ax ay,sl az aA aB] i_ z z Y z λaP _ _=>Ra z<|Rw z<|Wq<|Wm z<|R z (nq z z)<|Wx z (λhcn=>?_) (λhcn=>?_)
  .exact Ws<|RA z z<|Rw z<|Wr<|rtO<|qL (som<|ifT hmu hcn).symm<|d_A hr z z z ⟨kW,z,ii z,ii z⟩
  exact Wk<|Wg<|Rm z<|Rw z<|Wg<|Rm z<|R z (inc_ hkg (tl_ hl) z z)<|Ra z<|Wl (λ_ q=>⟨au,(som<|ifF hmu hcn).symm,⟨kaA q,kW,aC⟩⟩)
 .rintro x0 _ _ ⟨ad,aF,hf⟩;refine Wu ?_ ad;refine Wq<|Wm z<|Rm z<|Rl z z z<|Wx z (λhc=>(j_6 hc).elim) (λ_=>?_);exact We<|λ_ q=>⟨rfl,⟨q.k sn,aF,hf⟩⟩
 .rintro x0 aG _ rfl ⟨_,_,hf⟩;have ae:=elL hmq;revert aG;exact Wo<|Ws<|RA z z<|Rw z<|Wr<|rS3 ae hr z z z ⟨kW,z,ii z,ii z⟩
 exact lqA hmq λ_ _ h=>h.2
def Q27 (w0:World)(B:Zone)(r:j_×Bool)(v:Value)(w':World):Prop:=Bw w0 w'/\un2 (λr1 r2=>v = .tuple #[(.agg #[Str.v r1.path,vI r1.rule,vI r1.start,vI r1.end_]),vB r2]/\r1.path.b.length<=LEN/\inI r1.rule/\inI r1.start/\inI r1.end_) r
theorem W_w1r {x1:d_}{x2:Bt}{x3:Str}{res:j_×Bool}(hm:g_r n x1 x2 x3=some res)(aK:B<=w0.z)(aI:rp w0 B A0 N0 C0 x1.rules)(aJ:rp w0 B A2 N2 C2 x2)(V:x3.b.length<=LEN):g_ prog 58 [(.agg #[sl A0 N0 C0]),sl A2 N2 C2,Str.v x3] w0 (Q27 w0 B res):=by
 unfold g_r at hm;refine goG func58 z z z λfn hr=>Ws<|EvX [sl A0 N0 C0] z z z λJ _ _=>EvZ [(Str.v (⟨[]⟩:Str)),vI 0,vI 0,vI 0] z l_5 z λws _ _=>Rw z<|Wm z ?_;obtain ⟨_,ru,ev,hmw⟩:=V_ hm;refine E z (fc call89 z<|W_w1q (B:=B) ev kM V) ?_;rintro _ L ⟨_,af,ng,ch,rfl,hx⟩;refine Rm z<|Re z z z<|Re z z z<|Ra z<|Rw z<|Wq<|Wq<|bdB hmw λuy hui hmj=>Wt (λa w=>∃O,O=uy/\Sat 80 [(1,sl A2 N2 C2),(2,Str.v x3),(3,pt w0.z),(6,pt J.z),(8,sl af ng ch),(35,vB O)] a/\Below L.z L w) ?_ ?_
 .refine Wg<|Rm z<|R z (not_ z)<|Rm z ?_;rcases bs (!ru) with G | G
  .iterate 3 refine Nh z G ?_
   exact R z (pT z G z)<|Rm z<|Nh z z<|Nh z z<|Nh z z<|R z (pT z z z)<|Wl (λ_ q=>⟨true,som<|ifT hui G,kaA q,br L⟩)
  refine Rh z G (lC [sl A0 N0 C0] s_ n_ z)<|bdB (ifF hui G) λrz a8 hmk=>Eg z z G z (fc call53 z<|o_U (B:=B) a8 kM kR) ?_;rintro _ _ ⟨sm,rfl⟩;refine Rh z G (not_ z)<|R z (pF z G z)<|Rm z ?_;rcases bs (!rz) with H | H
  .iterate 3 refine Nh z H ?_
   exact R z (pT z H z)<|Wl (λ_ q=>⟨true,som<|ifT hmk H,kaA q,sm⟩)
  exact Rh z H (mv z)<|Rh z H (lnR h_ z kR)<|Rh z H (T_ z z)<|R z (pF z H z)<|Wl (λ_ q=>⟨decide<|400<(x2.length:Int),som<|ifF hmk H,kaA q,sm⟩)
 rintro a9 _ ⟨O,rfl,_,_⟩;revert a9;refine Wo<|Wc z (λhca=>?_) (λhca=>?_)
 .exact Ws<|R z (bQ [] [(Str.v (⟨[]⟩:Str)),vI 0,vI 0,vI 0] i_T z z)<|E0q [(Str.v (⟨[]⟩:Str)),vI 0,vI 0,vI 0] b_x z z kB z λaL aa _=>Rw z<|Wr<|rS2 (ifT hmj hca) hr (m_ f_v b_x z aa z) z ⟨kW,z,lb z,ii z,ii z,ii z⟩
 refine Wk<|Ws<|R z (lC [sl A0 N0 C0] s_ n_ z)<|bdB (ifF hmj hca) λ_ ab Y=>E z (fc call86 z<|m_Y (B:=B) ab kM kR) ?_;rintro _ I ⟨_,rfl,ad⟩;refine Rw z<|Ws<|Rw z<|Wq<|Ws<|Rw z ?_;obtain ⟨_,a0,hml⟩:=bdS Y;refine Wf (σ:=Int×Int) (ρ:=j_×Bool) (λ(kn:Nat) s a w=>un2 (λx0 x4=>Sat 80 [(1,sl A2 N2 C2),(2,Str.v x3),(3,pt w0.z),(6,pt J.z),(8,sl af ng ch),(10,vI x0),(11,vI x4),(12,vI ((kn:Nat):Int))] a/\Below I.z I w/\inI x0/\inI x4) s) (λs a w=>un2 (λx0 x4=>Sat 80 [(1,sl A2 N2 C2),(2,Str.v x3),(3,pt w0.z),(6,pt J.z),(10,vI x0),(11,vI x4)] a/\Below I.z I w/\inI x0/\inI x4) s) (rQ prog fn<|Q27 w0 B) a0 ?_ ?_ ?_ ?_ ?_
 .exact λ_ q=>⟨kaA q,br I,ad,ii z⟩
 .rintro kn ⟨x0,x4⟩ _ _ _ hko ⟨a1,_,h3,h5⟩ a2;refine Wu ?_ a1;refine Wq<|Wm z<|Rm z<|R z (lnR z_ z kR)<|Rl z z z<|Wx z (λ_=>?_) (λhc=>(J_ hko hc).elim);refine Wk<|Wq<|Wb<|Wq (Wd (X:=noX) 0 (pl_ 16 [8]) mo (by kernel_rfl) λaM aN _=>dR z z (lC [sl A0 N0 C0] s_ n_ z) ?_);iterate 5 refine dM z z z ?_
  refine bdB (a_0 a2) λ_ ae a3=>dxA (α:=Str) z z z_ z_9 z z z kR ae λ_ _ _ ah ai _=>?_;obtain ⟨rfl,aj⟩:=a_e ai;refine dR z z (l0 g_9 z<|ah.at0 z) ?_;obtain ⟨ak,al,_,am,hmp⟩:=N_ a3;refine dE z z (fc call91 z<|W_w3t (B:=B) am kM kR h3 kR h5 aj) iB ?_;rintro _ _ ⟨_,rfl,an,ap⟩;refine dM z z z ?_;iterate 3 refine dR z z (ext_ z z) ?_
  iterate 3 refine dQ z z z ?_
  refine pD<|Wo<|Wq<|Wm z<|R z (not_ z)<|Wx z (λhcb=>?_) (λhcb=>?_)
  .exact Ws<|R z (bQ [] [(Str.v (⟨[]⟩:Str)),vI 0,vI 0,vI 0] i_T z z)<|E0q [(Str.v (⟨[]⟩:Str)),vI 0,vI 0,vI 0] b_x z z kB z λaO aq _=>Rw z<|Wr<|rtO<|qL (som<|ifT hmp hcb).symm<|b_r hr (m_ f_v b_x z aq z) z ⟨kW,z,lb z,ii z,ii z,ii z⟩
  exact Wk<|Wm z<|Rw z<|Wg<|Rm z<|Rw z<|Wg<|Rm z<|R z (inc_ hko (lt_ (repS.len hx) u_) z z)<|Ra z<|Wl (λ_ q=>⟨(ak,al),(som<|ifF hmp hcb).symm,⟨kaA q,kW,an,ap⟩⟩)
 .rintro ⟨x0,x4⟩ _ _ ⟨a4,ar,h3,h5⟩;refine Wu ?_ a4;refine Wq<|Wm z<|Rm z<|R z (lnR z_ z kR)<|Rl z z z<|Wx z (λhc=>(K_ hc).elim) (λ_=>?_);exact We<|λ_ q=>⟨rfl,⟨kaA q,ar,h3,h5⟩⟩
 .rintro ⟨x0,x4⟩ au _ rfl ⟨_,_,h3,h5⟩;have a5:=elL hml;revert au;refine Wo<|Ws<|R z (lC [sl A0 N0 C0] s_ n_ z)<|RM z z<|Rm z ?_;obtain ⟨av,rq,_,aw,hmr⟩:=N_<|a_0 a5;refine E z (fc call92 z<|l_8.run (B:=B) aw kM kR h3 kR h5) ?_;rintro _ _ ⟨_,ax,ay,az,_,aA,aB,aC,_,rfl,_,_,_,aD,_,aE,aF⟩;obtain ⟨_,_,_,_,_⟩:=a_5 aE aF;refine Rm z ?_;iterate 3 refine Re z z z ?_
  refine EvZ [vI 0,sN,sN] z a_h z λaP _ W=>E0q [vI av.number,sl ax ay az,sl aA aB aC] i_ z z W z λaQ _ _=>Ra z<|Rw z<|Wq<|Wm z<|R z (nq z z)<|Wx z (λhcc=>?_) (λhcc=>?_)
  .exact Ws<|R z (bQ [] [(Str.v (⟨[]⟩:Str)),vI 0,vI 0,vI 0] i_T z z)<|E0q [(Str.v (⟨[]⟩:Str)),vI 0,vI 0,vI 0] b_x z z kB z λaR aG _=>Rw z<|Wr<|rS2 (ifT hmr hcc) hr (m_ f_v b_x z aG z) z ⟨kW,z,lb z,ii z,ii z,ii z⟩
  exact Wk<|Wm z<|RM z z<|Rm z<|R z (bQ [(0,.tmp 75),(1,.tmp 76),(2,.tmp 77),(3,.tmp 78)] [Str.v x3,vI x0,vI x4,vI rq] i_T z z)<|E0q [Str.v x3,vI x0,vI x4,vI rq] b_x z z kB z λaS aH _=>Rw z<|Wr<|rS2 (ifF hmr hcc) hr (m_ f_v b_x z aH z) z ⟨kW,z,V,h3,h5,aD⟩
 exact lqA hml λ_ _ h=>h.2
def Q28 (w0:World)(B:Zone)(r:Val×Bool)(v:Value)(w':World):Prop:=Bw w0 w'/\un2 (λr1 r2=>∃G H I S1 a2 J L S2,v = .tuple #[(.agg #[vI r1.number,sl G H I,sl a2 J L]),vB r2]/\inI r1.number/\c_ w' S1 (sl G H I) r1.bytes/\c_ w' S2 (sl a2 J L) r1.items/\(S1++S2).Nodup/\(∀k∈(S1++S2),w0.z<=k)) r
theorem W_w3u {x1:d_}{x2:Bt}{x3:Str}{res:Val×Bool}(hm:k_o n x1 x2 x3=some res)(a8:B<=w0.z)(a6:rp w0 B A0 N0 C0 x1.rules)(a7:rp w0 B A2 N2 C2 x2)(Y:x3.b.length<=LEN):g_ prog 59 [(.agg #[sl A0 N0 C0]),sl A2 N2 C2,Str.v x3] w0 (Q28 w0 B res):=by
 unfold k_o at hm;refine goG func59 z z z λfn hr=>Ws<|EvX [sl A0 N0 C0] z z z λw9 _ _=>EvZ [vI 0,sN,sN] z a_h z λwg _ _=>Rw z<|Ws<|R z (lC [sl A0 N0 C0] s_ n_ z)<|RM z z ?_;obtain ⟨r1,_,eh,hmc⟩:=V_ hm;refine E z (fc call58 z<|W_w1r (B:=B) eh kM kR kR Y) ?_;rintro _ _ ⟨_,rfl,_,hj,hk,_⟩;refine Rm z<|Re z z z<|Re z z z<|EvZ [(Str.v (⟨[]⟩:Str)),vI 0,vI 0,vI 0] z l_5 z λwl _ a0=>E0q [Str.v r1.path,vI r1.rule,vI r1.start,vI r1.end_] b_x z z a0 z λa9 he _=>Rw z<|Wq<|Wm z<|R z (not_ z)<|Wx z (λV=>?_) (λV=>?_)
 .exact Ws<|R z (bQ [] [vI 0,sN,sN] a_4 z z)<|E0q [vI 0,sN,sN] i_ z z kB z λaa hn _=>Rw z<|Wr<|rS2 (ifT hmc V) hr (m_ x_ i_ z hn z) z ⟨kW,none,0,0,[],none,0,0,[],z,ii z,onL,onL,nd0,sQ⟩
 refine Wk<|Ws<|R z (lC [sl A0 N0 C0] s_ n_ z)<|Rf z m_P z<|R z (l0 g_3 z<|he.at z)<|Rm z<|Rf z t_x z<|R z (l0 g_3 z<|he.at z) ?_;obtain ⟨G,_,_,ep,hmq⟩:=N_<|ifF hmc V;refine E z (fc call92 z<|l_8.run (B:=B) ep kM kR hj kR hk) ?_;rintro _ _ ⟨_,a2,H,I,Ss,J,L,O,St,rfl,hu,_,_,_,_,hv,hw⟩;obtain ⟨a1,a3,_,_,_⟩:=a_5 hv hw;refine Rm z ?_;iterate 3 refine Re z z z ?_
 exact EvZ [vI 0,sN,sN] z a_h z λwx _ W=>E0q [vI G.number,sl a2 H I,sl J L O] i_ z z W z λab hy _=>Ra z<|Rw z<|Ws<|R z (lC [vI G.number,sl a2 H I,sl J L O] x_ i_ z)<|E0q [vI G.number,sl a2 H I,sl J L O] i_ z z kB z λad a4 _=>Rw z<|Wr<|rS2 hmq hr (m_ x_ i_ z a4 z) z ⟨kW,a2,H,I,Ss,J,L,O,St,z,hu,kO (l:=G.bytes),kO (l:=G.items),na_ a1 a3 sQ,sQ⟩
theorem W_w3v {x1:d_}{x2:f_}{x3:Val}{res:Bool}(hm:j_E x1 x2 x3=some res)(bV:B<=w0.z)(bN:rp w0 B A0 N0 C0 x1.rules)(aG:x2.name.b.length<=LEN)(aH:inI x2.kind)(a6:inI x2.size)(bO:rp w0 B A4 N4 C4 x2.bytes)(bP:rp w0 B A5 N5 C5 x2.names)(bR:rp w0 B A3 N3 C3 x2.tags)(bS:rp w0 B A6 N6 C6 x2.kids)(a7:inI x3.number)(bT:rp w0 B A8 N8 C8 x3.bytes)(bU:rp w0 B A9 N9 C9 x3.items):g_ prog 192 [(.agg #[sl A0 N0 C0]),.agg #[Str.v x2.name,vI x2.kind,vI x2.size,vB x2.little,sl A4 N4 C4,sl A5 N5 C5,sl A3 N3 C3,sl A6 N6 C6],(.agg #[vI x3.number,sl A8 N8 C8,sl A9 N9 C9])] w0 (Q11 w0 B res):=by
 unfold j_E at hm;refine goG func192 z z z λfn hr=>Ws<|EvX [sl A0 N0 C0] z z z λbW _ _=>EvX (vR x2 A4 N4 C4 A5 N5 C5 A3 N3 C3 A6 N6 C6) z z z λbX _ _=>EvX [vI x3.number,sl A8 N8 C8,sl A9 N9 C9] z z z λG _ H=>Rw z<|Wq<|Ws<|Rf z a_r z<|R z (l0 g_3 z kBa)<|Wn<|Wb<|Ws<|Rq z z z<|Rw z<|Wc z (λhcl=>?_) (λhcl=>?_)
 .refine Wq<|bdB (ifT hm hcl) λb0 aI aJ=>Wt (λa w=>∃xm,xm=b0/\Sat 202 [(6,vB xm)] a/\Below G.z G w) ?_ ?_
  .refine Wd (X:=noX) 0 (pl_ 20 [4,6]) mo (by kernel_rfl) λbY bZ _=>dR z z (fd c_0 z)<|dR z z (l0 g_3 z kBa)<|dR z z (fd a_V z)<|dR z z (l0 g_3 z kBa)<|bdB aI λ_ b1 aK=>dE z z (fc call191 z<|o_T (B:=B) b1 kM a6) iB ?_;rintro _ _ ⟨_,rfl,_⟩;refine dR z z (sb_ z z)<|bdB aK λb2 b3 a8=>dE z z (fc call51 z<|b_k (B:=B) b3 kM a7 (ii z)<|iS _ _) iB ?_;rintro _ _ ⟨_,rfl⟩;refine dM z z z ?_;rcases bs b2 with W | W
   .have a9:=ifT a8 W;refine dRg z z z W z (fd d_a z)<|dRg z z z W z (l0 B_ z kBa)<|dRg z z z W z (lnR h_ z kR)<|dRg z z z W z (eql z z)<|dR z z (pT z W z)<|dM z z z ?_;rcases bs ((x3.bytes.length:Int)==0) with Y | Y
    .exact dRg z z z Y z (fd a_O z)<|dRg z z z Y z (l0 a_S z kBa)<|dRg z z z Y z (lnR b_0 z kR)<|dRg z z z Y z (eql z z)<|dR z z (pT z Y z)<|dQ z z z<|pD (λ_ q=>⟨(x3.items.length:Int)==0,som<|ifT a9 Y,kaA q,kW⟩)
    iterate 4 refine dRn z z z Y z ?_
    exact dR z z (pF z Y z)<|dQ z z z<|pD (λ_ q=>⟨false,som<|ifF a9 Y,kaA q,kW⟩)
   iterate 4 refine dRn z z z W z ?_
   refine dR z z (pF z W z)<|dM z z z ?_;iterate 4 refine dRn z z z z z ?_
   exact dR z z (pF z z z)<|dQ z z z<|pD (λ_ q=>⟨false,som<|ifF a8 W,kaA q,kW⟩)
  rintro b4 _ ⟨xm,rfl,_,_⟩;revert b4;exact Wo<|Wr<|rtO<|rS1 aJ hr z ⟨kW,z⟩
 have aa:=ifF hm hcl;refine Ws<|Rq z z z<|Rw z<|Wc z (λhcn=>?_) (λhcn=>?_)
 .refine Wq<|bdB (ifT aa hcn) λb5 ab aL=>Wt (λa w=>∃xo,xo=b5/\Sat 202 [(6,vB xo)] a/\Below G.z G w) ?_ ?_
  .refine Wg<|Rf z c_0 z<|R z (l0 g_3 z<|H.at z)<|Rq z z z<|Rm z ?_;rcases bs (x3.number==0) with a0 | a0
   .have ad:=ifT ab a0;refine Rh z a0 (fd d_a z)<|Rh z a0 (l0 B_ z<|H.at z)<|Rh z a0 (lnR h_ z kR)<|Rh z a0 (eql z z)<|R z (pT z a0 z)<|Rm z ?_;rcases bs ((x3.bytes.length:Int)==0) with a1 | a1
    .exact Rh z a1 (fd a_O z)<|Rh z a1 (l0 a_S z<|H.at z)<|Rh z a1 (lnR b_0 z kR)<|Rh z a1 (eql z z)<|R z (pT z a1 z)<|Ra z<|Wl (λ_ q=>⟨(x3.items.length:Int)==0,som<|ifT ad a1,kaA q,br G⟩)
    iterate 4 refine Nh z a1 ?_
    exact R z (pF z a1 z)<|Ra z<|Wl (λ_ q=>⟨false,som<|ifF ad a1,kaA q,br G⟩)
   iterate 4 refine Nh z a0 ?_
   exact R z (pF z a0 z)<|Rm z<|Nh z z<|Nh z z<|Nh z z<|Nh z z<|R z (pF z z z)<|Ra z<|Wl (λ_ q=>⟨false,som<|ifF ab a0,kaA q,br G⟩)
  rintro b6 _ ⟨xo,rfl,_,_⟩;revert b6;exact Wo<|Wr<|rtO<|rS1 aL hr z ⟨kW,z⟩
 have ae:=ifF aa hcn;refine Ws<|Rq z z z<|Rw z<|Wc z (λhcp=>?_) (λhcp=>?_)
 .refine Wq<|bdB (ifT ae hcp) λb7 af aM=>Wt (λa w=>∃xq,xq=b7/\Sat 202 [(6,vB xq)] a/\Below G.z G w) ?_ ?_
  .refine Wg<|Rf z c_0 z<|R z (l0 g_3 z<|H.at z)<|Rq z z z<|Rm z ?_;rcases bs (x3.number==0) with O | O
   .have ah:=ifT af O;refine Rh z O (fd d_a z)<|Rh z O (l0 B_ z<|H.at z)<|Rh z O (lnR h_ z kR)<|Rh z O (fd a_V z)<|Rh z O (l0 g_3 z kBa)<|Rh z O (eql z z)<|R z (pT z O z)<|Rm z ?_;rcases bs ((x3.bytes.length:Int)==x2.size) with hca | hca
    .exact Rh z hca (fd a_O z)<|Rh z hca (l0 a_S z<|H.at z)<|Rh z hca (lnR b_0 z kR)<|Rh z hca (eql z z)<|R z (pT z hca z)<|Ra z<|Wl (λ_ q=>⟨(x3.items.length:Int)==0,som<|ifT ah hca,kaA q,br G⟩)
    iterate 4 refine Nh z hca ?_
    exact R z (pF z hca z)<|Ra z<|Wl (λ_ q=>⟨false,som<|ifF ah hca,kaA q,br G⟩)
   iterate 6 refine Nh z O ?_
   exact R z (pF z O z)<|Rm z<|Nh z z<|Nh z z<|Nh z z<|Nh z z<|R z (pF z z z)<|Ra z<|Wl (λ_ q=>⟨false,som<|ifF af O,kaA q,br G⟩)
  rintro b8 _ ⟨xq,rfl,_,_⟩;revert b8;exact Wo<|Wr<|rtO<|rS1 aM hr z ⟨kW,z⟩
 have ai:=ifF ae hcp;refine Ws<|Rq z z z<|Rw z<|Wc z (λhcr=>?_) (λhcr=>?_)
 .refine Wq<|bdB (ifT ai hcr) λb9 aj aN=>Wt (λa w=>∃xs,xs=b9/\Sat 202 [(6,vB xs)] a/\Below G.z G w) ?_ ?_
  .refine Wd (X:=noX) 0 (pl_ 23 [12,13]) mo (by kernel_rfl) λc0 ba _=>dR z z (fd c_0 z)<|dR z z (l0 g_3 z kBa)<|dR z z (eql z z)<|dM z z z ?_;rcases bs (x3.number==0) with I | I
   .refine dRg z z z I z (fd d_a z)<|dRg z z z I z (l0 B_ z kBa)<|dRg z z z I z (lnR h_ z kR)<|dRg z z z I z (lC [sl A0 N0 C0] s_ n_ z)<|dRg z z z I z (fd Q_ z)<|dRg z z z I z (l0 A_ z kBa)<|bdB (ifT aj I) λ_ bb aO=>a_G z z z I z (at_ (α:=Int) v_ z_3 z z z kR bb) ?_;rintro _ ⟨_,_,_,rfl,bc,be,_⟩;obtain ⟨rfl,bf⟩:=a_z be;refine dRg z z z I z (l0 g_3 z<|bc.at0 z)<|bdB aO λ_ bg aP=>dEg z z z I z (fc call186 z<|l_6 (B:=B) bg kM kR bf) iB ?_;rintro _ _ ⟨_,rfl,bh⟩;refine bdB aP λbi bj ak=>dEg z z z I z (fc call189 z<|o_S (B:=B) bj kM (ii z) bh) iB ?_;rintro _ _ ⟨_,rfl,_⟩;refine dRg z z z I z (c_5 z z)<|dR z z (pT z I z)<|dM z z z ?_;rcases bs (decide<|(x3.bytes.length:Int)<=bi) with hcb | hcb
    .exact dRg z z z hcb z (fd a_O z)<|dRg z z z hcb z (l0 a_S z kBa)<|dRg z z z hcb z (lnR b_0 z kR)<|dRg z z z hcb z (eql z z)<|dR z z (pT z hcb z)<|dQ z z z<|pD (λ_ q=>⟨(x3.items.length:Int)==0,som<|ifT ak hcb,kaA q,kW⟩)
    iterate 4 refine dRn z z z hcb z ?_
    exact dR z z (pF z hcb z)<|dQ z z z<|pD (λ_ q=>⟨false,som<|ifF ak hcb,kaA q,kW⟩)
   iterate 8 refine dRn z z z I z ?_
   refine dEn z z z I z<|dEn z z z I z<|dRn z z z I z<|dR z z (pF z I z)<|dM z z z ?_;iterate 4 refine dRn z z z z z ?_
   exact dR z z (pF z z z)<|dQ z z z<|pD (λ_ q=>⟨false,som<|ifF aj I,kaA q,ba⟩)
  rintro bk _ ⟨xs,rfl,_,_⟩;revert bk;exact Wo<|Wr<|rtO<|rS1 aN hr z ⟨kW,z⟩
 have al:=ifF ai hcr;refine Ws<|Rq z z z<|Rw z<|Wc z (λhct=>?_) (λhct=>?_)
 .refine Wq<|bdB (ifT al hct) λbm am aQ=>Wt (λa w=>∃xu,xu=bm/\Sat 202 [(6,vB xu)] a/\Below G.z G w) ?_ ?_
  .refine Wg<|Rf z c_0 z<|R z (l0 g_3 z<|H.at z)<|Rq z z z<|Rm z ?_;rcases bs (x3.number==0) with hcc | hcc
   .have an:=ifT am hcc;refine Rh z hcc (fd d_a z)<|Rh z hcc (l0 B_ z<|H.at z)<|Rh z hcc (lnR h_ z kR)<|Rh z hcc (c_5 z z)<|R z (pT z hcc z)<|Rm z ?_;rcases bs (decide<|(x3.bytes.length:Int)<=400) with hcd | hcd
    .exact Rh z hcd (fd a_O z)<|Rh z hcd (l0 a_S z<|H.at z)<|Rh z hcd (lnR b_0 z kR)<|Rh z hcd (eql z z)<|R z (pT z hcd z)<|Ra z<|Wl (λ_ q=>⟨(x3.items.length:Int)==0,som<|ifT an hcd,kaA q,br G⟩)
    iterate 4 refine Nh z hcd ?_
    exact R z (pF z hcd z)<|Ra z<|Wl (λ_ q=>⟨false,som<|ifF an hcd,kaA q,br G⟩)
   iterate 4 refine Nh z hcc ?_
   exact R z (pF z hcc z)<|Rm z<|Nh z z<|Nh z z<|Nh z z<|Nh z z<|R z (pF z z z)<|Ra z<|Wl (λ_ q=>⟨false,som<|ifF am hcc,kaA q,br G⟩)
  rintro bn _ ⟨xu,rfl,_,_⟩;revert bn;exact Wo<|Wr<|rtO<|rS1 aQ hr z ⟨kW,z⟩
 have ap:=ifF al hct;refine Ws<|Rq z z z<|Rw z<|Wc z (λhcv=>?_) (λhcv=>?_)
 .refine Wq<|bdB (ifT ap hcv) λbo aq aR=>Wt (λa w=>∃xw,xw=bo/\Sat 202 [(6,vB xw)] a/\Below G.z G w) ?_ ?_
  .refine Wd (X:=noX) 0 (pl_ 23 [18,19]) mo (by kernel_rfl) λc1 aF _=>dR z z (fd c_0 z)<|dR z z (l0 g_3 z kBa)<|dR z z (eql z z)<|dM z z z ?_;rcases bs (x3.number==0) with hce | hce
   .have ar:=ifT aq hce;refine dRg z z z hce z (fd d_a z)<|dRg z z z hce z (l0 B_ z kBa)<|dRg z z z hce z (lnR h_ z kR)<|dRg z z z hce z (eql z z)<|dR z z (pT z hce z)<|dM z z z ?_;rcases bs ((x3.bytes.length:Int)==0) with J | J
    .refine dRg z z z J z (fd a_O z)<|dRg z z z J z (l0 a_S z kBa)<|dRg z z z J z (lnR b_0 z kR)<|dRg z z z J z (lC [sl A0 N0 C0] s_ n_ z)<|dRg z z z J z (fd Q_ z)<|dRg z z z J z (l0 A_ z kBa)<|bdB (ifT ar J) λ_ bp aS=>a_G z z z J z (at_ (α:=Int) v_ z_3 z z z kR bp) ?_;rintro _ ⟨_,_,_,rfl,bq,bt,_⟩;obtain ⟨rfl,bu⟩:=a_z bt;refine dRg z z z J z (l0 g_3 z<|bq.at0 z)<|bdB aS λ_ bv aT=>dEg z z z J z (fc call186 z<|l_6 (B:=B) bv kM kR bu) iB ?_;rintro _ _ ⟨_,rfl,bw⟩;refine bdB aT λbx bz aU=>dEg z z z J z (fc call189 z<|o_S (B:=B) bz kM (ii z) bw) iB ?_;rintro _ _ ⟨_,rfl,_⟩;exact dRg z z z J z (c_5 z z)<|dR z z (pT z J z)<|dQ z z z<|pD (λ_ q=>⟨decide<|(x3.items.length:Int)<=bx,som aU,kaA q,kW⟩)
    iterate 8 refine dRn z z z J z ?_
    exact dEn z z z J z<|dEn z z z J z<|dRn z z z J z<|dR z z (pF z J z)<|dQ z z z<|pD (λ_ q=>⟨false,som<|ifF ar J,kaA q,aF⟩)
   iterate 4 refine dRn z z z hce z ?_
   refine dR z z (pF z hce z)<|dM z z z ?_;iterate 8 refine dRn z z z z z ?_
   exact dEn z z z z z<|dEn z z z z z<|dRn z z z z z<|dR z z (pF z z z)<|dQ z z z<|pD (λ_ q=>⟨false,som<|ifF aq hce,kaA q,aF⟩)
  rintro bA _ ⟨xw,rfl,_,_⟩;revert bA;exact Wo<|Wr<|rtO<|rS1 aR hr z ⟨kW,z⟩
 have au:=ifF ap hcv;refine Ws<|Rq z z z<|Rw z<|Wc z (λhcx=>?_) (λhcx=>?_)
 .refine Wq<|bdB (ifT au hcx) λbB av aV=>Wt (λa w=>∃xy,xy=bB/\Sat 202 [(6,vB xy)] a/\Below G.z G w) ?_ ?_
  .refine Wg<|Rf z c_0 z<|R z (l0 g_3 z<|H.at z)<|Rq z z z<|Rm z ?_;rcases bs (x3.number==0) with hcf | hcf
   .have aw:=ifT av hcf;refine Rh z hcf (fd d_a z)<|Rh z hcf (l0 B_ z<|H.at z)<|Rh z hcf (lnR h_ z kR)<|Rh z hcf (eql z z)<|R z (pT z hcf z)<|Rm z ?_;rcases bs ((x3.bytes.length:Int)==0) with L | L
    .exact Rh z L (fd a_O z)<|Rh z L (l0 a_S z<|H.at z)<|Rh z L (lnR b_0 z kR)<|Rh z L (fd Q_ z)<|Rh z L (l0 A_ z kBa)<|Rh z L (lnR v_ z kR)<|Rh z L (eql z z)<|R z (pT z L z)<|Ra z<|Wl (λ_ q=>⟨(x3.items.length:Int)==(x2.kids.length:Int),som<|ifT aw L,kaA q,br G⟩)
    iterate 7 refine Nh z L ?_
    exact R z (pF z L z)<|Ra z<|Wl (λ_ q=>⟨false,som<|ifF aw L,kaA q,br G⟩)
   iterate 4 refine Nh z hcf ?_
   exact R z (pF z hcf z)<|Rm z<|Nh z z<|Nh z z<|Nh z z<|Nh z z<|Nh z z<|Nh z z<|Nh z z<|R z (pF z z z)<|Ra z<|Wl (λ_ q=>⟨false,som<|ifF av hcf,kaA q,br G⟩)
  rintro bC _ ⟨xy,rfl,_,_⟩;revert bC;exact Wo<|Wr<|rtO<|rS1 aV hr z ⟨kW,z⟩
 have ax:=ifF au hcx;refine Ws<|Rq z z z<|Rw z<|Wc z (λhcz=>?_) (λhcz=>?_)
 .refine Wq<|bdB (ifT ax hcz) λbD ay aW=>Wt (λa w=>∃a3,a3=bD/\Sat 202 [(6,vB a3)] a/\Below G.z G w) ?_ ?_
  .refine Wg<|Rf z d_a z<|R z (l0 B_ z<|H.at z)<|R z (lnR h_ z kR)<|Rq z z z<|Rm z ?_;rcases bs ((x3.bytes.length:Int)==0) with hcg | hcg
   .have az:=ifT ay hcg;refine Rh z hcg (fd a_O z)<|Rh z hcg (l0 a_S z<|H.at z)<|Rh z hcg (lnR b_0 z kR)<|Rh z hcg (eql z z)<|R z (pT z hcg z)<|Rm z ?_;rcases bs ((x3.items.length:Int)==1) with V | V
    .refine Rh z V (lN (vs:=vR x2 A4 N4 C4 A5 N5 C5 A3 N3 C3 A6 N6 C6) G_ l_ z z fid<|kBr 0 8)<|Rh z V (fd c_0 z)<|Rh z V (l0 g_3 z<|H.at z)<|bdB (ifT az V) λbE bF aX=>Eg z z V z (fc call142 z<|f_B (B:=B) bF kM aG aH a6 kR kR kR kR a7<|ii z) ?_;rintro _ _ ⟨bG,rfl,_⟩;exact Rh z V (b_u z z)<|R z (pT z V z)<|Ra z<|Wl (λ_ q=>⟨decide<|0<=bE,som aX,kaA q,bG⟩)
    iterate 5 refine Nh z V ?_
    exact R z (pF z V z)<|Ra z<|Wl (λ_ q=>⟨false,som<|ifF az V,kaA q,br G⟩)
   iterate 4 refine Nh z hcg ?_
   exact R z (pF z hcg z)<|Rm z<|Nh z z<|Nh z z<|Nh z z<|Nh z z<|Nh z z<|R z (pF z z z)<|Ra z<|Wl (λ_ q=>⟨false,som<|ifF ay hcg,kaA q,br G⟩)
  rintro bH _ ⟨a3,rfl,_,_⟩;revert bH;exact Wo<|Wr<|rtO<|rS1 aW hr z ⟨kW,z⟩
 have aA:=ifF ax hcz;refine Ws<|Rq z z z<|Rw z<|Wc z (λa2=>?_) (λa2=>?_)
 .refine Wq<|bdB (ifT aA a2) λbI aB aY=>Wt (λa w=>∃a4,a4=bI/\Sat 202 [(6,vB a4)] a/\Below G.z G w) ?_ ?_
  .refine Wg<|Rf z c_0 z<|R z (l0 g_3 z<|H.at z)<|Rq z z z<|Rm z ?_;rcases bs (x3.number==0) with hch | hch
   .have aC:=ifT aB hch;refine Rh z hch (fd d_a z)<|Rh z hch (l0 B_ z<|H.at z)<|Rh z hch (lnR h_ z kR)<|Rh z hch (eql z z)<|R z (pT z hch z)<|Rm z ?_;rcases bs ((x3.bytes.length:Int)==0) with hci | hci
    .exact Rh z hci (fd a_O z)<|Rh z hci (l0 a_S z<|H.at z)<|Rh z hci (lnR b_0 z kR)<|Rh z hci (c_5 z z)<|R z (pT z hci z)<|Ra z<|Wl (λ_ q=>⟨decide<|(x3.items.length:Int)<=1,som<|ifT aC hci,kaA q,br G⟩)
    iterate 4 refine Nh z hci ?_
    exact R z (pF z hci z)<|Ra z<|Wl (λ_ q=>⟨false,som<|ifF aC hci,kaA q,br G⟩)
   iterate 4 refine Nh z hch ?_
   exact R z (pF z hch z)<|Rm z<|Nh z z<|Nh z z<|Nh z z<|Nh z z<|R z (pF z z z)<|Ra z<|Wl (λ_ q=>⟨false,som<|ifF aB hch,kaA q,br G⟩)
  rintro bJ _ ⟨a4,rfl,_,_⟩;revert bJ;exact Wo<|Wr<|rtO<|rS1 aY hr z ⟨kW,z⟩
 refine Wk<|Wq<|bdB (ifF aA a2) λbK aD aZ=>Wt (λa w=>∃a5,a5=bK/\Sat 202 [(6,vB a5)] a/\Below G.z G w) ?_ ?_
 .refine Wg<|Rf z c_0 z<|R z (l0 g_3 z<|H.at z)<|Rq z z z<|Rm z ?_;rcases bs (x3.number==0) with hcj | hcj
  .have aE:=ifT aD hcj;refine Rh z hcj (fd d_a z)<|Rh z hcj (l0 B_ z<|H.at z)<|Rh z hcj (lnR h_ z kR)<|Rh z hcj (eql z z)<|R z (pT z hcj z)<|Rm z ?_;rcases bs ((x3.bytes.length:Int)==0) with hck | hck
   .exact Rh z hck (fd a_O z)<|Rh z hck (l0 a_S z<|H.at z)<|Rh z hck (lnR b_0 z kR)<|Rh z hck (eql z z)<|R z (pT z hck z)<|Ra z<|Wl (λ_ q=>⟨(x3.items.length:Int)==1,som<|ifT aE hck,kaA q,br G⟩)
   iterate 4 refine Nh z hck ?_
   exact R z (pF z hck z)<|Ra z<|Wl (λ_ q=>⟨false,som<|ifF aE hck,kaA q,br G⟩)
  iterate 4 refine Nh z hcj ?_
  exact R z (pF z hcj z)<|Rm z<|Nh z z<|Nh z z<|Nh z z<|Nh z z<|R z (pF z z z)<|Ra z<|Wl (λ_ q=>⟨false,som<|ifF aD hcj,kaA q,br G⟩)
 rintro bM _ ⟨a5,rfl,_,_⟩;revert bM;exact Wo<|Wr<|rS1 aZ hr z ⟨kW,z⟩
structure p_2 (f:d_->Int->Val->Option Bool):Prop where
  run:∀{A0 A8 A9:Option Addr}{N0 C0 N8 C8 N9 C9:Nat}{B:Zone}{x1:d_}{x2:Int}{x3:Val}{res:Bool}{w0:World}(hm:f x1 x2 x3=some res)(hBw:B<=w0.z)(p1_0:rp w0 B A0 N0 C0 x1.rules)(p2_0:inI x2)(p3_0:inI x3.number)(p3_1:rp w0 B A8 N8 C8 x3.bytes)(p3_2:rp w0 B A9 N9 C9 x3.items),g_ prog 155 [(.agg #[sl A0 N0 C0]),vI x2,(.agg #[vI x3.number,sl A8 N8 C8,sl A9 N9 C9])] w0<|Q11 w0 B res
abbrev t_J (n:Nat):Prop:=p_2 (h_t n).spec_l9Valid
theorem T_w0d (ah:t_J n):p_2 (j_F n<|h_t n):=by
 constructor;intro A0 A8 A9 N0 C0 N8 C8 N9 C9 B x1 x2 x3 res w0 hm aE aB aC Y aD a0;unfold j_F at hm;refine goG func155 z z z λfn hr=>Ws<|EvX [sl A0 N0 C0] z z z λwe _ _=>EvX [vI x3.number,sl A8 N8 C8,sl A9 N9 C9] z z z λwf _ _=>Rw z<|Ws<|Rf z a_l z<|R z (l0 a_p z kBa)<|Rm z<|bdB hm λx0 eu hmv=>xA (α:=f_) z Y_ l_ z z z kR eu λ_ _ _ hw hx _=>?_;obtain ⟨a2,H,I,J,L,O,V,W,ca,ab,nc,cd,rfl,hn,ho,hp,_,_,_,_⟩:=a_T hx;refine R z (lN (vs:=vR x0 a2 H I J L O V W ca ab nc cd) G_ l_ z z fid hw)<|EvZ [(Str.v (⟨[]⟩:Str)),vI 0,vI 0,vB false,sN,sN,sN,sN] z c_t z λwy _ a1=>E0q (vR x0 a2 H I J L O V W ca ab nc cd) l_ z z a1 z λaF hz _=>Wn<|Wq<|Ws<|R z (lC [sl A0 N0 C0] s_ n_ z)<|R z (lN (vs:=vR x0 a2 H I J L O V W ca ab nc cd) G_ l_ z z fid<|hz.row 0 8 z)<|R z (lC [vI x3.number,sl A8 N8 C8,sl A9 N9 C9] x_ i_ z)<|bdB hmv λ_ ai hmm=>EcA z (fc call192 z<|W_w3v (B:=B) ai kM kR hn ho hp kR kR kR kR Y (kR (l:=x3.bytes))<|kR (l:=x3.items)) λG _=>R z (not_ z)<|Wx z (λhcg=>?_) (λhcg=>?_)
 .exact Ws<|Rw z<|Wr<|rS1 (ifT hmm hcg) hr z ⟨kW,z⟩
 refine Wk<|Wq<|Ws<|Rw z<|bdB (ifF hmm hcg) λ_ a3 hmr=>Wf (σ:=Unit) (ρ:=Bool) (λ(ks:Nat)(_:Unit) a w=>Sat 39 [(3,pt w0.z),(5,pt we.z),(7,pt wf.z),(8,vI ((ks:Nat):Int))] a/\Below G.z G w) (λ(_:Unit) a w=>Sat 39 [] a/\Below G.z G w) (rQ prog fn<|Q11 w0 B) a3 ?_ ?_ ?_ ?_ ?_
 .exact λ_ q=>⟨kaA q,br G⟩
 .rintro ks _ _ _ _ hkh ⟨a4,_⟩ a6;refine Wu ?_ a4;refine Wq<|Wm z<|Rf z a_O z<|R z (l0 a_S z kBa)<|R z (lnR b_0 z kR)<|Rl z z z<|Wx z (λ_=>?_) (λhc=>(J_ hkh hc).elim);refine Wk<|Wq<|Wb<|Wq (Wd (X:=noX) 0 (.rd 0<|.rd 1<|.rd 2<|.rd 3<|.rd 4<|.rd 6<|.rd 7<|.rd 8<|.rd 9<|.rd 10<|.ef 5<|.ef 11<|.rd 12 .done) mo (by kernel_rfl) λaG aH _=>dR z z (lC [sl A0 N0 C0] s_ n_ z)<|dR z z (lN (vs:=vR x0 a2 H I J L O V W ca ab nc cd) G_ l_ z z fid<|kBr 0 8)<|dR z z (fd c_0 z)<|dR z z (l0 g_3 z kBa)<|dM z z z<|dR z z (fd a_O z)<|dR z z (l0 a_S z kBa)<|dM z z z ?_);refine bdB a6 λxi aj a7=>dxA (α:=Val) z z b_0 i_ z z z kR aj λ_ _ _ ak al _=>?_;obtain ⟨am,an,ap,aq,ar,au,rfl,av,_,_⟩:=l_b al;refine dR z z (lN (vs:=[vI xi.number,sl am an ap,sl aq ar au]) x_ i_ z z fid ak)<|bdB a7 λ_ aw a9=>dE z z (fc call142 z<|f_B (B:=B) aw kM hn ho hp kR kR kR kR Y<|ic (QAO hkh)<|lt_ (repS.len a0) u_) iB ?_;rintro _ _ ⟨_,rfl,ax⟩;refine bdB a9 λ_ ay hmt=>dE z z (fc call155 z<|ah.run (B:=B) ay kM kR ax av (kR (l:=xi.bytes))<|kR (l:=xi.items)) iB ?_;rintro _ _ ⟨_,rfl⟩;refine dR z z (not_ z)<|pD<|Wo<|Wc z (λhcj=>?_) (λhcj=>?_)
  .exact Ws<|Rw z<|Wr<|rtO<|qL (som<|ifT hmt hcj).symm<|a_s hr z ⟨kW,z⟩
  exact Wk<|Wg<|Rm z<|R z (inc_ hkh (lt_ (repS.len a0) u_) z z)<|Ra z<|Wl (λ_ q=>⟨(),(som<|ifF hmt hcj).symm,⟨kaA q,kW⟩⟩)
 .rintro _ _ _ ⟨aa,az⟩;refine Wu ?_ aa;refine Wq<|Wm z<|Rf z a_O z<|R z (l0 a_S z kBa)<|R z (lnR b_0 z kR)<|Rl z z z<|Wx z (λhc=>(K_ hc).elim) (λ_=>?_);exact We<|λ_ q=>⟨rfl,⟨q.k sn,az⟩⟩
 .rintro _ aA _ rfl ⟨_,_⟩;have ad:=elL hmr;revert aA;exact Wo<|Ws<|Rw z<|Wr<|rS1 ad hr z ⟨kW,z⟩
 exact lqA hmr λ_ _ h=>h.2
theorem A_w0d:∀n,t_J n
  | 0=>⟨λhm=>by intros;exact nomatch (show none=some _ from hm)⟩
  | n+1=>T_w0d<|A_w0d n
theorem W_w0d:p_2 (h_t n).spec_l9Valid:=A_w0d n
theorem W_w3w {x1:d_}{x2:Int}{x3:Val}{res:Bool}(hm:j_G n x1 x2 x3=some res)(a2:B<=w0.z)(Y:rp w0 B A0 N0 C0 x1.rules)(H:inI x2)(L:inI x3.number)(a0:rp w0 B A8 N8 C8 x3.bytes)(a1:rp w0 B A9 N9 C9 x3.items):g_ prog 93 [(.agg #[sl A0 N0 C0]),vI x2,(.agg #[vI x3.number,sl A8 N8 C8,sl A9 N9 C9])] w0 (Q11 w0 B res):=by
 unfold j_G at hm;refine goG func93 z z z λfn hr=>Ws<|EvX [sl A0 N0 C0] z z z λw2 _ _=>EvX [vI x3.number,sl A8 N8 C8,sl A9 N9 C9] z z z λJ _ _=>Rw z<|Wq<|bdB hm λW O V=>Wt (λa w=>∃x4,x4=W/\Sat 16 [(6,vB x4)] a/\Below J.z J w) ?_ ?_
 .refine Wg<|R z (lC [sl A0 N0 C0] s_ n_ z)<|Rm z<|bdB O λra eb I=>EcA z (fc call140 z<|W_w1f (B:=B) eb kM kR H) λ_ sc=>Rm z ?_;rcases bs ra with G | G
  .refine Rh z G (lC [sl A0 N0 C0] s_ n_ z)<|Rh z G (mv z)<|Rh z G (lC [vI x3.number,sl A8 N8 C8,sl A9 N9 C9] x_ i_ z)<|bdB (ifT I G) λrd ee hmf=>Eg z z G z (fc call155 z<|W_w0d.run (B:=B) ee kM kR H L (kR (l:=x3.bytes))<|kR (l:=x3.items)) ?_;rintro _ _ ⟨_,rfl⟩;exact R z (pT z G z)<|Ra z<|Wl (λ_ q=>⟨rd,som hmf,kaA q,kW⟩)
  iterate 4 refine Nh z G ?_
  exact R z (pF z G z)<|Ra z<|Wl (λ_ q=>⟨false,som<|ifF I G,kaA q,sc⟩)
 rintro ag _ ⟨x4,rfl,_,_⟩;revert ag;exact Wo<|Wr<|rS1 V hr z ⟨kW,z⟩
theorem W_w3x {x1:Int}{x2:Str}{x3:Str}{x4:Str}{res:Str}(hm:n_a n x1 x2 x3 x4=some res)(I:B<=w0.z)(H:inI x1)(a0:x2.b.length<=LEN)(a1:x3.b.length<=LEN)(a2:x4.b.length<=LEN):g_ prog 158 [vI x1,Str.v x2,Str.v x3,Str.v x4] w0 (Q19 w0 B res):=by
 unfold n_a at hm;refine goG func158 z z z λfn hr=>Ws<|Rw z<|Wm z<|bdB hm λ_ W J=>E z (fc call157 z<|l_9 (B:=B) W I H) ?_;rintro _ _ ⟨s3,rfl,_⟩;exact Rm z<|bdB J λ_ Y L=>R z (a_u z z Y)<|Rm z<|bdB L λ_ e6 O=>R z (a_u z z e6)<|Rm z<|bdB O λ_ G V=>R z (a_u z z G)<|Rw z<|Wr<|rS1 V hr z ⟨s3,z,b_p G⟩
theorem W_w3y {x1:Bt}{res:Str}(hm:l_e x1=some res)(Y:B<=w0.z)(J:rp w0 B A0 N0 C0 x1):g_ prog 159 [sl A0 N0 C0] w0 (Q19 w0 B res):=by
 unfold l_e at hm;refine goG func159 z z z λfn hr=>Ws<|Rw z<|Ws<|Rw z<|Ws<|Rw z<|Wq<|Ws<|Rw z<|bdB hm λ_ L G=>Wf (σ:=Str) (ρ:=Str) (λ(k3:Nat)(x0:Str) a w=>Sat 40 [(0,sl A0 N0 C0),(3,Str.v (⟨[48,49,50,51,52,53,54,55,56,57,97,98,99,100,101,102]⟩:Str)),(4,Str.v x0),(5,vI ((k3:Nat):Int))] a/\Below w0.z w0 w/\x0.b.length<=LEN) (λ(x0:Str) a w=>Sat 40 [(4,Str.v x0)] a/\Below w0.z w0 w/\x0.b.length<=LEN) (rQ prog fn<|Q19 w0 B) L ?_ ?_ ?_ ?_ ?_
 .exact λ_ q=>⟨kaA q,br w0,lb z⟩
 .rintro k3 x0 _ _ _ H ⟨O,_,h1⟩ V;refine Wu ?_ O;refine Wq<|Wm z<|Rm z<|R z (lnR h_ z kR)<|Rl z z z<|Wx z (λ_=>?_) (λhc=>(J_ H hc).elim);refine Wk<|Wq<|Wb<|Wm z<|Rm z<|bdB V λ_ W hma=>xA (α:=UInt8) z h_ z_5 z z z kR W λ_ _ _ hb hd _=>?_;obtain rfl:=u8 hd;refine R z (l0 g_5 z<|hb.at0 z)<|R z (b_n d_5 d_3 z)<|R z (n_p z z (by decide))<|Rw z<|Wm z<|Rm z<|bdB hma λ_ ec hme=>xA (α:=UInt8) z h_ z_5 z z z kR ec λ_ _ _ hf hg _=>?_;obtain rfl:=u8 hg;refine R z (l0 g_5 z<|hf.at0 z)<|R z (b_n d_5 d_3 z)<|R z (i_2 z z (by decide))<|Ra z<|Wn (Wd (X:=noX) 0 (pl_ 14 []) mo (by kernel_rfl) λa0 a1 _=>?_);iterate 4 refine dM z z z ?_
  refine dR z z (add_ z z)<|bdB hme λ_ eh hmi=>dR z z (j_h d_9 z z z (lb z) eh)<|bdB hmi λ_ ej hmk=>dR z z (a_u z z ej) ?_;iterate 3 refine dM z z z ?_
  exact dR z z (add_ z z)<|bdB hmk λ_ el hmm=>dR z z (j_h d_9 z z z (lb z) el)<|bdB hmm λxn I hmo=>dR z z (a_u z z I)<|dQ z z z<|pD<|Wo<|Wg<|Rm z<|R z (inc_ H (lt_ (repS.len J) u_) z z)<|Ra z<|Wl (λ_ q=>⟨xn,(som hmo).symm,⟨kaA q,kW,b_p I⟩⟩)
 .rintro x0 _ _ ⟨hSp,sq,h1⟩;refine Wu ?_ hSp;refine Wq<|Wm z<|Rm z<|R z (lnR h_ z kR)<|Rl z z z<|Wx z (λhc=>(K_ hc).elim) (λ_=>?_);exact We<|λ_ q=>⟨rfl,⟨kaA q,sq,h1⟩⟩
 .rintro x0 ar _ rfl ⟨_,ss,h1⟩;have hmt:=elL G;revert ar;exact Wo<|Wm z<|Rw z<|Wr<|rS1 hmt hr z ⟨ss,z,h1⟩
 exact lqA G λ_ _ h=>h.2
structure p_3 (f:d_->Int->Val->Option Str):Prop where
  run:∀{A0 A8 A9:Option Addr}{N0 C0 N8 C8 N9 C9:Nat}{B:Zone}{x1:d_}{x2:Int}{x3:Val}{res:Str}{w0:World}(hm:f x1 x2 x3=some res)(hBw:B<=w0.z)(p1_0:rp w0 B A0 N0 C0 x1.rules)(p2_0:inI x2)(p3_0:inI x3.number)(p3_1:rp w0 B A8 N8 C8 x3.bytes)(p3_2:rp w0 B A9 N9 C9 x3.items),g_ prog 94 [(.agg #[sl A0 N0 C0]),vI x2,(.agg #[vI x3.number,sl A8 N8 C8,sl A9 N9 C9])] w0<|Q19 w0 B res
structure p_4 (f:d_->f_->Val->Option Str):Prop where
  run:∀{A0 A4 A5 A3 A6 A8 A9:Option Addr}{N0 C0 N4 C4 N5 C5 N3 C3 N6 C6 N8 C8 N9 C9:Nat}{B:Zone}{x1:d_}{x2:f_}{x3:Val}{res:Str}{w0:World}(hm:f x1 x2 x3=some res)(hBw:B<=w0.z)(p1_0:rp w0 B A0 N0 C0 x1.rules)(p2_0:x2.name.b.length<=LEN)(p2_1:inI x2.kind)(p2_2:inI x2.size)(p2_4:rp w0 B A4 N4 C4 x2.bytes)(p2_5:rp w0 B A5 N5 C5 x2.names)(p2_6:rp w0 B A3 N3 C3 x2.tags)(p2_7:rp w0 B A6 N6 C6 x2.kids)(p3_0:inI x3.number)(p3_1:rp w0 B A8 N8 C8 x3.bytes)(p3_2:rp w0 B A9 N9 C9 x3.items),g_ prog 156 [(.agg #[sl A0 N0 C0]),.agg #[Str.v x2.name,vI x2.kind,vI x2.size,vB x2.little,sl A4 N4 C4,sl A5 N5 C5,sl A3 N3 C3,sl A6 N6 C6],(.agg #[vI x3.number,sl A8 N8 C8,sl A9 N9 C9])] w0<|Q19 w0 B res
abbrev p_5 (n:Nat):Prop:=p_3 (b_T n).spec_l10Text/\p_4 (b_T n).spec_l10List
theorem T_w08 (ih:p_5 n):p_3 (b_l n<|b_T n):=by
 obtain ⟨_,am⟩:=ih;constructor;intro A0 A8 A9 N0 C0 N8 C8 N9 C9 B x1 x2 x3 res w0 hm aL aH aI G aJ aK;unfold b_l at hm;refine goG func94 z z z λfn hr=>Ws<|EvX [sl A0 N0 C0] z z z λwl _ _=>EvX [vI x3.number,sl A8 N8 C8,sl A9 N9 C9] z z z λwm _ _=>Rw z<|Ws<|Rf z a_l z<|R z (l0 a_p z kBa)<|Rm z<|bdB hm λx0 an a5=>xA (α:=f_) z Y_ l_ z z z kR an λ_ _ _ ap aq _=>?_;obtain ⟨H,I,J,L,O,V,W,Y,c9,aa,nb,cc,rfl,ar,au,av,_,_,_,_⟩:=a_T aq;refine R z (lN (vs:=vR x0 H I J L O V W Y c9 aa nb cc) G_ l_ z z fid ap)<|EvZ [(Str.v (⟨[]⟩:Str)),vI 0,vI 0,vB false,sN,sN,sN,sN] z c_t z λaM _ a6=>E0q (vR x0 H I J L O V W Y c9 aa nb cc) l_ z z a6 z λaN aw _=>Wn<|Ws<|R z (lC [sl A0 N0 C0] s_ n_ z)<|R z (lN (vs:=vR x0 H I J L O V W Y c9 aa nb cc) G_ l_ z z fid<|aw.row 0 8 z)<|R z (lC [vI x3.number,sl A8 N8 C8,sl A9 N9 C9] x_ i_ z)<|bdB a5 λ_ ax hmq=>E z (fc call156 z<|am.run (B:=B) ax kM kR ar au av kR kR kR kR G (kR (l:=x3.bytes))<|kR (l:=x3.items)) ?_;rintro _ _ ⟨_,rfl,ay⟩;refine Rw z<|Wq<|Ws<|Rf z a_r z<|R z (l0 g_3 z kBa)<|Wn<|Wb<|Ws<|Rq z z z<|Rw z<|Wc z (λhcd=>?_) (λhcd=>?_)
 .refine Ws<|Rf z c_0 z<|R z (l0 g_3 z kBa)<|bdB (ifT hmq hcd) λ_ az a8=>E z (fc call157 z<|l_9 (B:=B) az kM G) ?_;rintro _ _ ⟨_,rfl,aA⟩;exact Rw z<|Wr<|rtO<|rS1 a8 hr z ⟨kW,z,aA⟩
 have hmr:=ifF hmq hcd;refine Ws<|Rq z z z<|Rw z<|Wc z (λhce=>?_) (λhce=>?_)
 .exact Ws<|Rw z<|Wr<|rtO<|rS1 (ifT hmr hce) hr z ⟨kW,z,lb z⟩
 have hms:=ifF hmr hce;refine Ws<|Rq z z z<|Rw z<|Wc z (λhcf=>?_) (λhcf=>?_)
 .exact Wm z<|bdB (ifT hms hcf) λ_ aB a9=>R z (a_u z z aB)<|bdB a9 λ_ et ab=>R z (a_u z z et)<|Rw z<|Wr<|rtO<|rS1 ab hr z ⟨kW,z,b_p et⟩
 have hmu:=ifF hms hcf;refine Ws<|Rq z z z<|Rw z<|Wc z (λhcg=>?_) (λhcg=>?_)
 .exact Wm z<|bdB (ifT hmu hcg) λ_ aC ad=>R z (a_u z z aC)<|bdB ad λ_ ev ae=>R z (a_u z z ev)<|Rw z<|Wr<|rtO<|rS1 ae hr z ⟨kW,z,b_p ev⟩
 have hmw:=ifF hmu hcg;refine Ws<|Rq z z z<|Rw z<|Wc z (λhch=>?_) (λhch=>?_)
 .refine Ws<|Rf z c_0 z<|R z (l0 g_3 z kBa)<|Rm z<|bdB (ifT hmw hch) λ_ aD af=>E z (fc call158 z<|W_w3x (B:=B) aD kM G (lb z) ay<|lb z) ?_;rintro _ _ ⟨_,rfl,aE⟩;exact Rw z<|Wr<|rtO<|rS1 af hr z ⟨kW,z,aE⟩
 have hmx:=ifF hmw hch;refine Ws<|Rq z z z<|Rw z<|Wc z (λhci=>?_) (λhci=>?_)
 .have hmy:=ifT hmx hci;refine Wq<|Ws<|Rf z a_O z<|R z (l0 a_S z kBa)<|R z (lnR b_0 z kR)<|Rq z z z<|Wx z (λhcj=>?_) (λhcj=>?_)
  .exact Ws<|Rw z<|Wr<|rtO<|rS1 (ifT hmy hcj) hr z ⟨kW,z,lb z⟩
  exact Wk<|Wm z<|bdB (ifF hmy hcj) λ_ ez ah=>R z (a_u z z ez)<|Rw z<|Wr<|rtO<|rS1 ah hr z ⟨kW,z,b_p ez⟩
 have a0:=ifF hmx hci;refine Ws<|Rq z z z<|Rw z<|Wc z (λhck=>?_) (λhck=>?_)
 .exact Wm z<|bdB (ifT a0 hck) λ_ aF ai=>R z (a_u z z aF)<|bdB ai λ_ a2 aj=>R z (a_u z z a2)<|Rw z<|Wr<|rtO<|rS1 aj hr z ⟨kW,z,b_p a2⟩
 refine Wk<|Ws<|Rf z d_a z<|R z (l0 B_ z kBa)<|bdB (ifF a0 hck) λ_ aG ak=>E z (fc call159 z<|W_w3y (B:=B) aG kM kR) ?_;rintro _ _ ⟨_,rfl,_⟩;exact bdB ak λ_ a3 al=>R z (a_u z z a3)<|Rw z<|Wr<|rS1 al hr z ⟨kW,z,b_p a3⟩
theorem T_w1s (ih:p_5 n):p_4 (l_f n<|b_T n):=by
 obtain ⟨ad,_⟩:=ih;constructor;intro A0 A4 A5 A3 A6 A8 A9 N0 C0 N4 C4 N5 C5 N3 C3 N6 C6 N8 C8 N9 C9 B x1 x2 x3 res w0 hm aK aE W Y a0 aF aG aH aI a1 aJ V;unfold l_f at hm;refine goG func156 z z z λfn hr=>Ws<|EvX [sl A0 N0 C0] z z z λL _ _=>EvX (vR x2 A4 N4 C4 A5 N5 C5 A3 N3 C3 A6 N6 C6) z z z λO _ _=>EvX [vI x3.number,sl A8 N8 C8,sl A9 N9 C9] z z z λG _ _=>Rw z<|Ws<|Rw z<|Wq<|Ws<|Rw z<|bdB hm λ_ hun hmh=>Wf (σ:=Str) (ρ:=Str) (λ(k6:Nat)(x0:Str) a w=>Sat 46 [(3,pt w0.z),(4,pt L.z),(5,pt O.z),(7,Str.v x0),(8,vI ((k6:Nat):Int))] a/\Below G.z G w/\x0.b.length<=LEN) (λ(x0:Str) a w=>Sat 46 [(7,Str.v x0)] a/\Below G.z G w/\x0.b.length<=LEN) (rQ prog fn<|Q19 w0 B) hun ?_ ?_ ?_ ?_ ?_
 .exact λ_ q=>⟨kaA q,br G,lb z⟩
 .rintro k6 x0 _ H _ hka ⟨hSo,_,h4⟩ hmp;refine Wu ?_ hSo;refine Wq<|Wm z<|Rf z a_O z<|R z (l0 a_S z kBa)<|R z (lnR b_0 z kR)<|Rl z z z<|Wx z (λ_=>?_) (λhc=>(J_ hka hc).elim);refine Wk<|Wq<|Wb<|Wq<|Wm z<|R z (T_ z z)<|Wn<|bdB hmp λuq hui hmr=>Wt (λa w=>∃x5,x5=uq/\Sat 46 [(3,pt w0.z),(4,pt L.z),(5,pt O.z),(7,Str.v x5),(8,vI ((k6:Nat):Int))] a/\Below H.z H w/\x5.b.length<=LEN) ?_ ?_
  .refine Wc z (λhcb=>?_)<|λhcb=>?_
   .exact Wg<|Rm z<|bdB (ifT hui hcb) λxs ej hmt=>R z (a_u z z ej)<|Ra z<|Wl (λ_ q=>⟨xs,som hmt,kaA q,br H,b_p ej⟩)
   exact Z_<|λ_ q=>⟨x0,som<|ifF hui hcb,kaA q,br H,h4⟩
  rintro au I ⟨x5,rfl,_,_,hv⟩;revert au;refine Wo<|Wq<|Ws<|Rf z a_r z<|R z (l0 g_3 z kBa)<|Rq z z z<|Wn<|bdB hmr λuw huk hmx=>Wt (λa w=>∃J,J=uw/\Sat 46 [(3,pt w0.z),(4,pt L.z),(5,pt O.z),(7,Str.v J),(8,vI ((k6:Nat):Int))] a/\Below I.z I w/\J.b.length<=LEN) ?_ ?_
  .refine Wc z (λhcc=>?_)<|λhcc=>?_
   .refine Wg<|Rm z<|Rf z c_r z<|R z (l0 a_A z kBa)<|Rm z<|bdB (ifT huk hcc) λ_ ey hmz=>xA (α:=Str) z z_ z_9 z z z kR ey λ_ _ _ ae af _=>?_;obtain ⟨rfl,_⟩:=a_e af;exact R z (l0 g_9 z<|ae.at0 z)<|bdB hmz λ_ ah a2=>R z (a_u z z ah)<|bdB a2 λai el a3=>R z (a_u z z el)<|Ra z<|Wl (λ_ q=>⟨ai,som a3,kaA q,br I,b_p el⟩)
   exact Z_<|λ_ q=>⟨x5,som<|ifF huk hcc,kaA q,br I,hv⟩
  rintro aj _ ⟨J,rfl,_,_,_⟩;revert aj;refine Wo (Wd (X:=noX) 0 (.rd 0<|.rd 1<|.rd 2<|.rd 3<|.rd 4<|.rd 5<|.rd 7<|.rd 8<|.rd 9<|.rd 10<|.rd 11<|.ef 6<|.ef 12<|.rd 13<|.rd 14 .done) mo (by kernel_rfl) λaL aM _=>dM z z z<|dR z z (lC [sl A0 N0 C0] s_ n_ z)<|dR z z (lN (vs:=vR x2 A4 N4 C4 A5 N5 C5 A3 N3 C3 A6 N6 C6) G_ l_ z z fid<|kBr 0 8)<|dR z z (fd c_0 z)<|dR z z (l0 g_3 z kBa)<|dM z z z<|dR z z (fd a_O z)<|dR z z (l0 a_S z kBa)<|dM z z z ?_);refine bdB hmx λxd ak a4=>dxA (α:=Val) z z b_0 i_ z z z kR ak λ_ _ _ al am _=>?_;obtain ⟨an,ap,aq,ar,av,aw,rfl,ax,_,_⟩:=l_b am;refine dR z z (lN (vs:=[vI xd.number,sl an ap aq,sl ar av aw]) x_ i_ z z fid al)<|bdB a4 λ_ ay a5=>dE z z (fc call142 z<|f_B (B:=B) ay kM W Y a0 kR kR kR kR a1<|ic (QAO hka)<|lt_ (repS.len V) u_) iB ?_;rintro _ _ ⟨_,rfl,az⟩;refine bdB a5 λ_ aA a6=>dE z z (fc call94 z<|ad.run (B:=B) aA kM kR az ax (kR (l:=xd.bytes))<|kR (l:=xd.items)) iB ?_;rintro _ _ ⟨_,rfl,_⟩;exact bdB a6 λaB em a7=>dR z z (a_u z z em)<|dQ z z z<|pD<|Wo<|Wg<|Rm z<|R z (inc_ hka (lt_ (repS.len V) u_) z z)<|Ra z<|Wl (λ_ q=>⟨aB,(som a7).symm,⟨kaA q,kW,b_p em⟩⟩)
 .rintro x0 _ _ ⟨a8,aC,h4⟩;refine Wu ?_ a8;refine Wq<|Wm z<|Rf z a_O z<|R z (l0 a_S z kBa)<|R z (lnR b_0 z kR)<|Rl z z z<|Wx z (λhc=>(K_ hc).elim) (λ_=>?_);exact We<|λ_ q=>⟨rfl,⟨kaA q,aC,h4⟩⟩
 .rintro x0 aD _ rfl ⟨_,_,h4⟩;have a9:=elL hmh;revert aD;exact Wo<|Wm z<|Rw z<|Wr<|rS1 a9 hr z ⟨kW,z,h4⟩
 exact lqA hmh λ_ _ h=>h.2
theorem m_Z:∀n,p_5 n
  | 0=>⟨⟨λhm=>by intros;exact nomatch (show none=some _ from hm)⟩,⟨λhm=>by intros;exact nomatch (show none=some _ from hm)⟩⟩
  | n+1=>⟨T_w08<|m_Z n,T_w1s<|m_Z n⟩
theorem W_w08:p_3 (b_T n).spec_l10Text:=(m_Z n).1
theorem W_w1s:p_4 (b_T n).spec_l10List:=(m_Z n).2
theorem W_w3z {x1:d_}{x2:Int}{x3:Val}{res:Str}(hm:j_0 n x1 x2 x3=some res)(a3:B<=w0.z)(Y:rp w0 B A0 N0 C0 x1.rules)(H:inI x2)(I:inI x3.number)(a0:rp w0 B A8 N8 C8 x3.bytes)(a1:rp w0 B A9 N9 C9 x3.items):g_ prog 60 [(.agg #[sl A0 N0 C0]),vI x2,(.agg #[vI x3.number,sl A8 N8 C8,sl A9 N9 C9])] w0 (Q19 w0 B res):=by
 unfold j_0 at hm;refine goG func60 z z z λfn hr=>Ws<|EvX [sl A0 N0 C0] z z z λw1 _ _=>EvX [vI x3.number,sl A8 N8 C8,sl A9 N9 C9] z z z λw5 _ a2=>Rw z<|Wq<|Ws<|R z (lC [sl A0 N0 C0] s_ n_ z)<|Rm z<|R z (lC [vI x3.number,sl A8 N8 C8,sl A9 N9 C9] x_ i_ z)<|bdB hm λ_ O J=>EcA z (fc call93 z<|W_w3w (B:=B) O kM kR H I (kR (l:=x3.bytes))<|kR (l:=x3.items)) λ_ _=>R z (not_ z)<|Wx z (λG=>?_) (λG=>?_)
 .exact Ws<|Rw z<|Wr<|rS1 (ifT J G) hr z ⟨kW,z,lb z⟩
 refine Wk<|Ws<|R z (lC [sl A0 N0 C0] s_ n_ z)<|Rm z<|R z (lC [vI x3.number,sl A8 N8 C8,sl A9 N9 C9] x_ i_ z)<|bdB (ifF J G) λ_ V L=>E z (fc call94 z<|W_w08.run (B:=B) V kM kR H I (kR (l:=x3.bytes))<|kR (l:=x3.items)) ?_;rintro _ _ ⟨_,rfl,W⟩;exact Rw z<|Wr<|rS1 L hr z ⟨kW,z,W⟩
theorem W_w40 {x1:d_}{x2:Bt}{x3:Str}{res:Str}(hm:g_J n x1 x2 x3=some res)(a3:B<=w0.z)(a0:rp w0 B A0 N0 C0 x1.rules)(a1:rp w0 B A2 N2 C2 x2)(I:x3.b.length<=LEN):g_ prog 38 [(.agg #[sl A0 N0 C0]),sl A2 N2 C2,Str.v x3] w0 (Q19 w0 B res):=by
 unfold g_J at hm;refine goG func38 z z z λfn hr=>Ws<|EvX [sl A0 N0 C0] z z z λwe _ a2=>Rw z<|Ws<|R z (lC [sl A0 N0 C0] s_ n_ z)<|RM z z ?_;obtain ⟨G,_,ef,J⟩:=V_ hm;refine E z (fc call58 z<|W_w1r (B:=B) ef kM kR kR I) ?_;rintro _ _ ⟨_,rfl,_,hh,_,_⟩;refine Rm z<|Re z z z<|Re z z z<|EvZ [(Str.v (⟨[]⟩:Str)),vI 0,vI 0,vI 0] z l_5 z λwi _ W=>E0q [Str.v G.path,vI G.rule,vI G.start,vI G.end_] b_x z z W z λa4 _ _=>Rw z<|Wq<|Wm z<|R z (not_ z)<|Wx z (λH=>?_) (λH=>?_)
 .exact Ws<|Rw z<|Wr<|rS1 (ifT J H) hr z ⟨kW,z,lb z⟩
 refine Wk<|Ws<|R z (lC [sl A0 N0 C0] s_ n_ z)<|RM z z ?_;obtain ⟨r1,_,ek,hml⟩:=V_<|ifF J H;refine E z (fc call59 z<|W_w3u (B:=B) ek kM kR kR I) ?_;rintro _ w6 ⟨_,L,O,V,_,aa,nb,cc,_,rfl,hn,ho,hp,hq,ht⟩;obtain ⟨_,_,_,_,_⟩:=a_5 hq ht;refine Rm z<|Re z z z<|Re z z z<|EvZ [vI 0,sN,sN] z a_h z λwm _ Y=>E0q [vI r1.number,sl L O V,sl aa nb cc] i_ z z Y z λa5 hu _=>Rw z<|Ws<|R z (lC [sl A0 N0 C0] s_ n_ z)<|Rf z m_P z<|R z (l0 g_3 z kBa)<|R z (lC [vI r1.number,sl L O V,sl aa nb cc] x_ i_ z)<|bdB hml λ_ es hmv=>E z (fc call60 z<|W_w3z (B:=w6.z) es (O_ kM) (repS.mono kR kM) hh hn (or_ (kO (l:=r1.bytes))<|c_.lt ho)<|or_ (kO (l:=r1.items))<|c_.lt hp) ?_;rintro _ _ ⟨_,rfl,hw⟩;exact Rw z<|Wr<|rS1 hmv hr z ⟨kW,z,hw⟩
theorem W_w41 {x1:d_}{x2:Bt}{x3:Str}{x4:Str}{res:(List Str)}(hm:i_k n x1 x2 x3 x4=some res)(aK:B<=w0.z)(aH:rp w0 B A0 N0 C0 x1.rules)(aI:rp w0 B A2 N2 C2 x2)(a2:x3.b.length<=LEN)(aJ:x4.b.length<=LEN):g_ prog 17 [(.agg #[sl A0 N0 C0]),sl A2 N2 C2,Str.v x3,Str.v x4] w0 (Q2 w0 B res):=by
 unfold i_k at hm;refine goG func17 z z z λfn hr=>Ws<|EvX [sl A0 N0 C0] z z z λO _ _=>Rw z<|Ws<|E z (f0 (α:=Str) a_q) ?_;rintro _ _ ⟨ar,ns,cu,rfl,_,_⟩;refine Rw z<|Ws<|R z (lC [sl A0 N0 C0] s_ n_ z)<|RM z z<|bdB hm λ_ ev hmw=>E z (fc call37 z<|W_w3r (B:=B) ev kM kR kR a2) ?_;rintro _ L ⟨_,ak,nl,cm,_,rfl,W,_,_⟩;refine Rw z<|Wq<|Ws<|Rw z<|bdB hmw λ_ hux hmn=>Wf (σ:=List Str) (ρ:=List Str) (λ(kg:Nat)(x6:List Str) a w=>∃H I J G,Sat 42 [(1,sl A2 N2 C2),(3,Str.v x4),(4,pt w0.z),(9,sl H I J),(10,sl ak nl cm),(11,vI ((kg:Nat):Int))] a/\Cg [O.z] L w/\c_ w G (sl H I J) x6/\G.Nodup/\(∀k∈G,k∈[O.z]∨L.z<=k)) (λ(x6:List Str) a w=>∃H I J G,Sat 42 [(9,sl H I J)] a/\Cg [O.z] L w/\c_ w G (sl H I J) x6/\G.Nodup/\(∀k∈G,k∈[O.z]∨L.z<=k)) (rQ prog fn<|Q2 w0 B) hux ?_ ?_ ?_ ?_ ?_
 .exact λ_ q=>⟨ar,ns,cu,[O.z],kaA q,cr [O.z] L,kO,S_,sQ⟩
 .rintro kg x6 _ _ _ hko ⟨H,I,J,G,hSy,_,ha,V,hp⟩ hmz;refine Wu ?_ hSy;refine Wq<|Wm z<|Rm z<|R z (lnR d_b z<|or_ kO<|c_.lt W)<|Rl z z z<|Wx z (λ_=>?_) (λhc=>(J_ hko hc).elim);refine Wk<|Wq<|Wb<|Wq (Wd (X:=noX) 0 (.rd 0<|.rd 1<|.rd 2<|.rd 3<|.rd 4<|.rd 5<|.rd 6<|.rd 8<|.ef 7<|.rd 9 .done) mo (by kernel_rfl) λaL aM _=>dR z z (lC [sl A0 N0 C0] s_ n_ z) ?_);iterate 3 refine dM z z z ?_
  refine bdB hmz λ_ ae a3=>dxA (α:=j_) z z d_b b_x z z z (or_ (B:=bl L.z) kO<|c_.lt W) ae λ_ _ _ af ah _=>?_;obtain ⟨rfl,ai,_,_,_⟩:=h_T ah;refine dR z z (fd l_4 z)<|dR z z (l0 g_9 z<|af.at (j:=0) z)<|dM z z z<|bdB a3 λ_ aj a4=>dE z z (fc call38 z<|W_w40 (B:=B) aj kM kR kR ai) iB ?_;rintro _ wb ⟨_,rfl,_⟩;refine dR z z (a_Q z z)<|pD<|Wo<|bdB a4 λal huq a5=>Wt (λa w=>∃xc,xc=al/\∃ad ne cf Y,Sat 42 [(1,sl A2 N2 C2),(3,Str.v x4),(4,pt w0.z),(9,sl ad ne cf),(10,sl ak nl cm),(11,vI ((kg:Nat):Int))] a/\Cg G wb w/\c_ w Y (sl ad ne cf) xc/\Y.Nodup/\(∀k∈Y,k∈G∨wb.z<=k)) ?_ ?_
  .refine Wc z (λhch=>?_)<|λhch=>?_
   .refine Wg<|RM z z<|Rm z<|bdB (ifT huq hch) λam an a6=>xA (α:=j_) z d_b b_x z z z (or_ (B:=bl L.z) kO<|c_.lt W) an λ_ _ _ ap aq _=>?_;obtain ⟨rfl,ht,_,_,_⟩:=h_T aq;refine Rf z l_4 z<|R z (l0 g_9 z<|ap.at (j:=0) z)<|E z (fS [(.tmp 38)] a_q z z z (a_i z) (lb z)<|lb z) ?_;rintro _ au ⟨rfl,hi⟩;have:=hi.below;have a0:Blk au wb.z [Str.v am.path]:=hi.blk;have:=b_d hi<|b_c ht;refine bdB a6 λav aw a7=>E z (a_W (α:=Str) a_q aw z z kO V a0 (b_c ht) an_ E_) ?_;rintro _ _ ⟨ax,ay,az,aA,rfl,_,aB,aC,_⟩;exact Ra z<|Wl (λ_ q=>⟨av,som a7,ay,az,aA,ax,kaA q,kW,aB,aC,sQ⟩)
   exact Z_<|λ_ q=>⟨x6,som<|ifF huq hch,H,I,J,G,kaA q,cr G wb,kO,V,sQ⟩
  rintro aD _ ⟨xc,rfl,ad,ne,cf,Y,_,_,aE,aF,_⟩;revert aD;exact Wo<|Wg<|Rm z<|R z (inc_ hko (lt_ (c_.len W) u_) z z)<|Ra z<|Wl (λ_ q=>⟨xc,(som a5).symm,⟨ad,ne,cf,Y,kaA q,kW,aE,aF,sQ⟩⟩)
 .rintro x6 _ _ ⟨H,I,J,G,a8,_,ha,V,hp⟩;refine Wu ?_ a8;refine Wq<|Wm z<|Rm z<|R z (lnR d_b z<|or_ kO<|c_.lt W)<|Rl z z z<|Wx z (λhc=>(K_ hc).elim) (λ_=>?_);exact We<|λ_ q=>⟨rfl,⟨H,I,J,G,kaA q,kW,ha,V,sQ⟩⟩
 .rintro x6 aG _ rfl ⟨H,I,J,G,_,_,ha,V,hp⟩;have a9:=elL hmn;revert aG;exact Wo<|Wm z<|Rw z<|Wr<|rS1 a9 hr z ⟨kW,H,I,J,G,z,ha,V,sQ⟩
 exact lqA hmn λ_ _ h=>h.2
theorem W_w42 {x1:H_}{x2:Str}{x3:Str}{res:(List Str)}(hm:l_c n x1 x2 x3=some res)(b9:B<=w0.z)(b7:rp w0 B A0 N0 C0 x1.registry.versions)(b8:rp w0 B A1 N1 C1 x1.log.bytes)(a0:inI x1.log.stored)(a3:x2.b.length<=LEN)(a4:x3.b.length<=LEN):g_ prog 5 [(.agg #[sl A0 N0 C0,sl A1 N1 C1,vI x1.log.stored]),Str.v x2,Str.v x3] w0 (Q2 w0 B res):=by
 unfold l_c at hm;refine goG func5 z z z λfn hr=>Ws<|EvX [sl A0 N0 C0,sl A1 N1 C1,vI x1.log.stored] z z z λO _ _=>Rw z<|Ws<|E z (f0 (α:=Str) a_q) ?_;rintro _ ww ⟨ax,ny,cz,rfl,_,_⟩;refine Rw z<|Ws<|R z (lC [sl A0 N0 C0,sl A1 N1 C1,vI x1.log.stored] e_M d_U z)<|bdB hm λan ap a5=>E z (fc call15 z<|W_w3c (B:=B) ap kM kR kR a0) ?_;rintro _ V ⟨_,ag,nh,ci,rfl,_⟩;refine Rw z<|Wq<|Ws<|Rw z ?_;obtain ⟨_,a6,hmp⟩:=bdS a5;refine b_6 (σ:=(List Str)×Int) (ρ:=List Str) (λs a w=>un2 (λW x4=>∃H I J G,Sat 52 [(1,Str.v x2),(2,Str.v x3),(3,pt w0.z),(7,sl H I J),(8,sl ag nh ci),(9,vI x4)] a/\Cg [O.z] V w/\c_ w G (sl H I J) W/\G.Nodup/\(∀k∈G,k∈[O.z]∨V.z<=k)/\inI x4) s) (λs a w=>un2 (λW x4=>∃H I J G,Sat 52 [(7,sl H I J)] a/\Cg [O.z] V w/\c_ w G (sl H I J) W/\G.Nodup/\(∀k∈G,k∈[O.z]∨V.z<=k)/\inI x4) s) (rQ prog fn<|Q2 w0 B) a6 ?_ ?_ ?_ ?_
 .exact λ_ q=>⟨ax,ny,cz,[O.z],kaA q,cr [O.z] V,kO,S_,sQ,ii z⟩
 .rintro ⟨W,x4⟩ _ wj _ ⟨H,I,J,G,a7,_,hq,Y,aq,ht⟩ a8;refine Wu ?_ a7;refine Wq<|Wq<|bdB (a_0 a8) λar hur hms=>Wt (λa w=>∃xk,xk=ar/\Sat 52 [(1,Str.v x2),(2,Str.v x3),(3,pt w0.z),(7,sl H I J),(8,sl ag nh ci),(9,vI x4),(20,vB xk)] a/\Below wj.z wj w) ?_ ?_
  .refine Wg<|RM z z<|R z (lnR c_s z kR)<|Rl z z z<|Rm z ?_;rcases bs (decide<|x4<(an.length:Int)) with L | L
   .refine Rh z L (lC [sl A0 N0 C0,sl A1 N1 C1,vI x1.log.stored] e_M d_U z)<|bdB (ifT hur L) λau av a9=>Eg z z L z (fc call16 z<|W_w3m (B:=B) av kM kR kR a0) ?_;rintro _ _ ⟨aw,rfl⟩;exact R z (pT z L z)<|Wl (λ_ q=>⟨au,som a9,kaA q,aw⟩)
   exact Nh z L<|Nh z L<|R z (pF z L z)<|Wl (λ_ q=>⟨false,som<|ifF hur L,kaA q,br wj⟩)
  rintro ay _ ⟨xk,rfl,_,_⟩;revert ay;refine Wo<|Wc z (λhcl=>?_) (λhcl=>?_)
  .refine Wk<|Wq<|Wb<|Wq (Wd (X:=noX) 0 (pl_ 20 [17]) mo (by kernel_rfl) λba bb _=>dR z z (fd d_R z)<|dR z z (fd c_D z)<|dR z z (l0 c_Q z kBa)<|dM z z z<|dM z z z ?_);refine bdB (ifT hms hcl) λ_ az aa=>dxA (α:=o_) z z c_s b_b z z z kR az λ_ _ _ aA aB _=>?_;obtain ⟨_,_,_,rfl,_,_,_⟩:=g_O aB;refine dR z z (fd t_v z)<|dR z z (l0 g_3 z<|aA.at (j:=1) z)<|bdB aa λ_ aC ab=>dxA (α:=d_) z z b_M n_ z z z kR aC λ_ _ _ aD aE _=>?_;obtain ⟨aF,aG,aH,rfl,aI⟩:=e_s aE;refine dR z z (lN (vs:=[sl aF aG aH]) s_ n_ z z fid aD)<|dM z z z<|dM z z z<|bdB ab λ_ aJ ae=>dxA (α:=o_) z z c_s b_b z z z kR aJ λ_ _ _ aK aL _=>?_;obtain ⟨_,_,_,rfl,_,_,aM⟩:=g_O aL;refine dR z z (fd t_w z)<|dR z z (l0 B_ z<|aK.at (j:=2) z)<|dM z z z<|dM z z z<|bdB ae λ_ aN af=>dE z z (fc call17 z<|W_w41 (B:=zn B ww.z V.z) aN (f_U kM kM) (repS.mono aI f_a) aM a3 a4) iB ?_;rintro _ wb ⟨_,_,_,_,_,rfl,aO,_,_⟩;refine dR z z (lnR z_ z<|c_.rep aO)<|dR z z (T_ z z)<|pD<|Wo<|bdB af λaP huu ah=>Wt (λa w=>∃xc,xc=aP/\∃ad ne cf Sa,Sat 52 [(1,Str.v x2),(2,Str.v x3),(3,pt w0.z),(7,sl ad ne cf),(8,sl ag nh ci),(9,vI x4)] a/\Cg G wb w/\c_ w Sa (sl ad ne cf) xc/\Sa.Nodup/\(∀k∈Sa,k∈G∨wb.z<=k)) ?_ ?_
   .refine Wc z (λhcm=>?_)<|λhcm=>?_
    .refine Wg<|RM z z<|Rm z<|bdB (ifT huu hcm) λaQ aR ai=>xA (α:=o_) z c_s b_b z z z kR aR λ_ _ _ aS aT _=>?_;obtain ⟨_,_,_,rfl,hv,_,_⟩:=g_O aT;refine Rf z m_O z<|R z (l0 g_9 z<|aS.at (j:=0) z)<|E z (fS [(.tmp 48)] a_q z z z (a_i z) (lb z)<|lb z) ?_;rintro _ aU ⟨rfl,hn⟩;have:=hn.below;have a2:Blk aU wb.z [Str.v aQ.name]:=hn.blk;have:=b_d hn<|b_c hv;refine bdB ai λaV aW aj=>E z (a_W (α:=Str) a_q aW z z kO Y a2 (b_c hv) an_ E_) ?_;rintro _ _ ⟨aX,aY,aZ,b0,rfl,_,b1,b2,_⟩;exact Ra z<|Wl (λ_ q=>⟨aV,som aj,aY,aZ,b0,aX,kaA q,kW,b1,b2,sQ⟩)
    exact Z_<|λ_ q=>⟨W,som<|ifF huu hcm,H,I,J,G,kaA q,cr G wb,kO,Y,sQ⟩
   rintro b3 _ ⟨xc,rfl,ad,ne,cf,Sa,_,_,b4,b5,_⟩;revert b3;exact Wo<|Wg<|Rm z<|R z (add_ z z)<|Ra z<|Wl (λ_ q=>⟨(xc,e_ x4 1),(som ah).symm,⟨ad,ne,cf,Sa,kaA q,kW,b4,b5,sQ,iA _ _⟩⟩)
  exact We<|λ_ q=>a_X (som<|ifF hms hcl).symm ⟨H,I,J,G,kaA q,kW,kO,Y,sQ,ht⟩
 .rintro ⟨W,x4⟩ b6 _ rfl ⟨H,I,J,G,_,_,hq,Y,aq,ht⟩;have ak:=elL hmp;revert b6;refine Wo<|Wm z<|Rw z ?_;exact Wr<|rS1 (a_0 ak) hr z ⟨kW,H,I,J,G,z,hq,Y,sQ⟩
 exact lqA hmp λ_ _ h=>h.2
theorem e_n {x1:Int}{x2:Int}{x3:Int}{res:Bool}(hm:c_B x1 x2 x3=some res)(Y:B<=w0.z)(O:inI x1)(V:inI x2)(W:inI x3):g_ prog 161 [vI x1,vI x2,vI x3] w0 (Q11 w0 B res):=by
 unfold c_B at hm;refine goG func161 z z z λfn hr=>Ws<|Rw z<|Wq<|bdB hm λJ H I=>Wt (λa w=>∃x4,x4=J/\Sat 15 [(6,vB x4)] a/\Below w0.z w0 w) ?_ ?_
 .refine Wg<|RM z z<|R z (c_5 z z)<|Rm z ?_;rcases bs (decide<|x2<=x1) with G | G
  .exact Rh z G (mv z)<|Rh z G (mv z)<|Rh z G (c_5 z z)<|R z (pT z G z)<|Ra z<|Wl (λ_ q=>⟨decide<|x1<=x3,som<|ifT H G,kaA q,br w0⟩)
  iterate 3 refine Nh z G ?_
  exact R z (pF z G z)<|Ra z<|Wl (λ_ q=>⟨false,som<|ifF H G,kaA q,br w0⟩)
 rintro L _ ⟨x4,rfl,_,s6⟩;revert L;exact Wo<|Wr<|rS1 I hr z ⟨s6,z⟩
theorem p_6 {x1:d_}{x2:Int}{res:Bool}(hm:g_u x1 x2=some res)(a0:B<=w0.z)(W:rp w0 B A0 N0 C0 x1.rules)(Y:inI x2):g_ prog 108 [(.agg #[sl A0 N0 C0]),vI x2] w0 (Q11 w0 B res):=by
 unfold g_u at hm;refine goG func108 z z z λfn hr=>Ws<|EvX [sl A0 N0 C0] z z z λH _ J=>Rw z<|Wq<|bdB hm λO I L=>Wt (λa w=>∃x3,x3=O/\Sat 14 [(4,vB x3)] a/\Below H.z H w) ?_ ?_
 .refine Wg<|Rm z<|R z (b_u z z)<|Rm z ?_;rcases bs (decide<|0<=x2) with G | G
  .exact Rh z G (mv z)<|Rh z G (fd a_l z)<|Rh z G (l0 a_p z<|J.at z)<|Rh z G (lnR Y_ z kR)<|Rh z G (lss z z)<|R z (pT z G z)<|Ra z<|Wl (λ_ q=>⟨decide<|x2<(x1.rules.length:Int),som<|ifT I G,kaA q,br H⟩)
  iterate 5 refine Nh z G ?_
  exact R z (pF z G z)<|Ra z<|Wl (λ_ q=>⟨false,som<|ifF I G,kaA q,br H⟩)
 rintro V _ ⟨x3,rfl,_,_⟩;revert V;exact Wo<|Wr<|rS1 L hr z ⟨kW,z⟩
theorem n_0 {x1:Str}{res:Bool}(hm:f_m n x1=some res)(ab:B<=w0.z)(aa:x1.b.length<=LEN):g_ prog 195 [Str.v x1] w0 (Q11 w0 B res):=by
 unfold f_m at hm;refine goG func195 z z z λfn hr=>Ws<|Rw z<|Wq<|Wq<|bdB hm λus huj hmk=>Wt (λa w=>∃xd,xd=us/\Sat 43 [(0,Str.v x1),(14,vB xd)] a/\Below w0.z w0 w) ?_ ?_
 .refine Wg<|Rm z<|R z (lnT d_9 z)<|Rl z z z<|Rm z ?_;rcases bs (decide<|(x1.b.length:Int)<1) with H | H
  .iterate 3 refine Nh z H ?_
   exact R z (pT z H z)<|Wl (λ_ q=>⟨true,som<|ifT huj H,kaA q,br w0⟩)
  exact Rh z H (mv z)<|Rh z H (lnT d_9 z)<|Rh z H (T_ z z)<|R z (pF z H z)<|Wl (λ_ q=>⟨decide<|12<(x1.b.length:Int),som<|ifF huj H,kaA q,br w0⟩)
 rintro au O ⟨xd,rfl,_,st⟩;revert au;refine Wo<|Wc z (λhce=>?_) (λhce=>?_)
 .exact Ws<|Rw z<|Wr<|rS1 (ifT hmk hce) hr z ⟨st,z⟩
 refine Wk<|Wq<|Wm z<|E z (u_P d_9 z) ?_;rintro _ wf ⟨rfl,_,hv⟩;refine Wn<|bdB (ifF hmk hce) λ_ huw hml=>b_6 (σ:=Nat) (ρ:=Bool) (λ(x0:Nat) a w=>Sat 43 [(16,pt O.z)] a/\Cg [O.z] wf w/\b_h w O.z x1 x0) (λ(x0:Nat) a w=>Sat 43 [] a/\Cg [O.z] wf w/\b_h w O.z x1 x0) (rQ prog fn<|Q11 w0 B) huw ?_ ?_ ?_ ?_
 .exact λ_ q=>⟨kaA q,cr [O.z] wf,hv⟩
 .rintro x0 _ _ _ ⟨hSx,_,hg⟩ hmm;refine Wu ?_ hSx;refine Ws ?_;rcases bs (decide<|x0<x1.b.length) with V | V
  .refine E z (u_Q z hg<|of_decide_eq_true V) ?_;rintro _ wa ⟨rfl,_,_⟩;refine Re z z z<|Wn<|Wq<|Wc z (λ_=>?_) (λhc=>(c_e z hc).elim);refine Wk<|Wb<|Ws<|Re z z z<|Re z z z<|Ra z<|Rw z<|Wq<|bdB (ifT hmm V) λuy hun hmz=>Wt (λa w=>∃W,W=uy/\Sat 43 [(3,vI (x0:Int)),(4,.int .i32<|(dec x1 x0).1),(5,vB W),(16,pt O.z)] a/\Below wa.z wa w) ?_ ?_
   .refine Wg<|Rm z<|R z (b_u z z)<|Rm z ?_;rcases bs (decide<|97<=((dec x1 x0).1)) with I | I
    .exact Rh z I (mv z)<|Rh z I (c_5 z z)<|R z (pT z I z)<|Ra z<|Wl (λ_ q=>⟨decide<|((dec x1 x0).1)<=122,som<|ifT hun I,kaA q,br wa⟩)
    exact Nh z I<|Nh z I<|R z (pF z I z)<|Ra z<|Wl (λ_ q=>⟨false,som<|ifF hun I,kaA q,br wa⟩)
   rintro a4 wb ⟨W,rfl,_,_⟩;revert a4;refine Wo<|Wq<|bdB hmz λa5 huo a0=>Wt (λa w=>∃xc,xc=a5/\Sat 43 [(3,vI (x0:Int)),(5,vB W),(6,vB xc),(16,pt O.z)] a/\Below wb.z wb w) ?_ ?_
   .refine Wg<|Rm z<|R z (b_u z z)<|Rm z ?_;rcases bs (decide<|48<=((dec x1 x0).1)) with J | J
    .exact Rh z J (mv z)<|Rh z J (c_5 z z)<|R z (pT z J z)<|Ra z<|Wl (λ_ q=>⟨decide<|((dec x1 x0).1)<=57,som<|ifT huo J,kaA q,br wb⟩)
    exact Nh z J<|Nh z J<|R z (pF z J z)<|Ra z<|Wl (λ_ q=>⟨false,som<|ifF huo J,kaA q,br wb⟩)
   rintro a6 Y ⟨xc,rfl,_,_⟩;revert a6;refine Wo<|Wq<|bdB a0 λa7 hup hmq=>Wt (λa w=>∃xh,xh=a7/\Sat 43 [(16,pt O.z),(42,vB xh)] a/\Below Y.z Y w) ?_ ?_
   .refine Wg<|Rm z<|R z (not_ z)<|Rm z ?_;rcases bs (!W) with G | G
    .have hmr:=ifT hup G;refine Rh z G (mv z)<|Rh z G (not_ z)<|Rh z G (mv z) ?_;rcases bs (!xc) with L | L
     .exact Nh z L<|Nh z L<|Rh z G (pT z L z)<|R z (pT z G z)<|Wl (λ_ q=>⟨true,som<|ifT hmr L,kaA q,br Y⟩)
     exact Rh z L (mv z)<|Rh z L (eql z z)<|Rh z G (pF z L z)<|R z (pT z G z)<|Wl (λ_ q=>⟨(x0:Int)==0,som<|ifF hmr L,kaA q,br Y⟩)
    iterate 3 refine Nh z G ?_
    exact Nv z<|Nv z<|Nh z G<|R z (pF z G z)<|Wl (λ_ q=>⟨false,som<|ifF hup G,kaA q,br Y⟩)
   rintro a8 _ ⟨xh,rfl,_,_⟩;revert a8;refine Wo<|Wc z (λhci=>?_) (λhci=>?_)
   .exact Ws<|Rw z<|Wr<|rtO<|qL (som<|ifT hmq hci).symm<|a_s hr z ⟨kW,z⟩
   exact Z_<|λ_ q=>⟨x0+(dec x1 x0).2,(som<|ifF hmq hci).symm,⟨kaA q,kW,kI⟩⟩
  refine EvA z (u_R z hg<|of_decide_eq_false V) λ_ _=>Re z z z<|Wn<|Wq<|Wc z (λhc=>(c_e hc z).elim) (λ_=>?_);exact We<|λ_ q=>a_X (som<|ifF hmm V).symm ⟨q.k sn,kW,kI⟩
 .rintro x0 a9 _ rfl ⟨_,_,hg⟩;have a1:=elL hml;revert a9;exact Wo<|Ws<|Rw z<|Wr<|rS1 a1 hr z ⟨kW,z⟩
 exact lqA hml λ_ _ h=>h.2
theorem f_C {x1:f_}{x2:Bool}{x3:Bool}{x4:Bool}{x5:Bool}{x6:Int}{res:Bool}(hm:d_s x1 x2 x3 x4 x5 x6=some res)(a9:B<=w0.z)(a1:x1.name.b.length<=LEN)(a2:inI x1.kind)(a3:inI x1.size)(a4:rp w0 B AB NB CB x1.bytes)(a5:rp w0 B AA NA CA x1.names)(a6:rp w0 B AC NC CC x1.tags)(a7:rp w0 B AD ND CD x1.kids)(a8:inI x6):g_ prog 211 [(.agg #[Str.v x1.name,vI x1.kind,vI x1.size,vB x1.little,sl AB NB CB,sl AA NA CA,sl AC NC CC,sl AD ND CD]),vB x2,vB x3,vB x4,vB x5,vI x6] w0 (Q11 w0 B res):=by
 unfold d_s at hm;refine goG func211 z z z λfn hr=>Ws<|EvX (vR x1 AB NB CB AA NA CA AC NC CC AD ND CD) z z z λw9 _ a0=>Rw z<|Wq<|bdB hm λup huq hmr=>Wt (λa w=>∃xa,xa=up/\Sat 57 [(12,vB xa)] a/\Below w9.z w9 w) ?_ ?_
 .refine Wg<|RM z z<|bdB huq λuc hud hms=>e_q 18 uc 4 ?_ ?_
  .rcases bs x2 with Y | Y
   .iterate 3 refine Nh z Y ?_
    exact R z (pT z Y z)<|WLq 4 (ifT hud Y) z z z
   exact Rh z Y (fd a_V z)<|Rh z Y (l0 g_3 z<|a0.at z)<|Rh z Y (eql z z)<|R z (pF z Y z)<|WLq 4 (ifF hud Y) z z z
  refine Rm z<|bdB hms λue huf hmt=>e_q 27 ue 8 ?_ ?_
  .rcases bs uc with G | G
   .have hmg:=ifT huf G;refine Rh z G (mv z)<|Rh z G (mv z) ?_;rcases bs x3 with O | O
    .iterate 4 refine Nh z O ?_
     exact Rh z G (pT z O z)<|R z (pT z G z)<|WLq 8 (ifT hmg O) z z z
    exact Rh z O (fd b_F z)<|Rh z O (l0 B_ z<|a0.at z)<|Rh z O (lnR h_ z kR)<|Rh z O (eql z z)<|Rh z G (pF z O z)<|R z (pT z G z)<|WLq 8 (ifF hmg O) z z z
   exact Nh z G<|Nh z G<|Nv z<|Nv z<|Nv z<|Nv z<|Nh z G<|R z (pF z G z)<|WLq 8 (ifF huf G) z z z
  refine Rm z<|bdB hmt λuh hui hmu=>e_q 36 uh 8 ?_ ?_
  .rcases bs ue with H | H
   .have hmj:=ifT hui H;refine Rh z H (mv z)<|Rh z H (mv z) ?_;rcases bs x4 with V | V
    .iterate 4 refine Nh z V ?_
     exact Rh z H (pT z V z)<|R z (pT z H z)<|WLq 8 (ifT hmj V) z z z
    exact Rh z V (fd c_r z)<|Rh z V (l0 a_A z<|a0.at z)<|Rh z V (lnR z_ z kR)<|Rh z V (eql z z)<|Rh z H (pF z V z)<|R z (pT z H z)<|WLq 8 (ifF hmj V) z z z
   exact Nh z H<|Nh z H<|Nv z<|Nv z<|Nv z<|Nv z<|Nh z H<|R z (pF z H z)<|WLq 8 (ifF hui H) z z z
  refine Rm z<|bdB hmu λuk hul hmm=>e_q 45 uk 8 ?_ ?_
  .rcases bs uh with I | I
   .have hmn:=ifT hul I;refine Rh z I (mv z)<|Rh z I (mv z) ?_;rcases bs x5 with W | W
    .iterate 4 refine Nh z W ?_
     exact Rh z I (pT z W z)<|R z (pT z I z)<|WLq 8 (ifT hmn W) z z z
    exact Rh z W (fd b_G z)<|Rh z W (l0 A_ z<|a0.at z)<|Rh z W (lnR v_ z kR)<|Rh z W (eql z z)<|Rh z I (pF z W z)<|R z (pT z I z)<|WLq 8 (ifF hmn W) z z z
   exact Nh z I<|Nh z I<|Nv z<|Nv z<|Nv z<|Nv z<|Nh z I<|R z (pF z I z)<|WLq 8 (ifF hul I) z z z
  refine Rm z ?_;rcases bs uk with J | J
  .have hmo:=ifT hmm J;refine Rh z J (mv z)<|Rh z J (lss z z)<|Rh z J (mv z) ?_;rcases bs (decide<|x6<0) with L | L
   .iterate 5 refine Nh z L ?_
    exact Rh z J (pT z L z)<|R z (pT z J z)<|Ra z<|Wl (λ_ q=>⟨true,som<|ifT hmo L,kaA q,br w9⟩)
   exact Rh z L (fd Q_ z)<|Rh z L (l0 A_ z<|a0.at z)<|Rh z L (lnR v_ z kR)<|Rh z L (mv z)<|Rh z L (eql z z)<|Rh z J (pF z L z)<|R z (pT z J z)<|Ra z<|Wl (λ_ q=>⟨(x1.kids.length:Int)==x6,som<|ifF hmo L,kaA q,br w9⟩)
  iterate 3 refine Nh z J ?_
  exact Nv z<|Nv z<|Nv z<|Nv z<|Nv z<|Nh z J<|R z (pF z J z)<|Ra z<|Wl (λ_ q=>⟨false,som<|ifF hmm J,kaA q,br w9⟩)
 rintro av _ ⟨xa,rfl,_,_⟩;revert av;exact Wo<|Wr<|rS1 hmr hr z ⟨kW,z⟩
theorem h_O {x1:d_}{x2:Int}{res:Int}(hm:e_j x1 x2=some res)(a1:B<=w0.z)(Y:rp w0 B A0 N0 C0 x1.rules)(W:inI x2):g_ prog 203 [(.agg #[sl A0 N0 C0]),vI x2] w0 (Q0 w0 B res):=by
 unfold e_j at hm;refine goG func203 z z z λfn hr=>Ws<|EvX [sl A0 N0 C0] z z z λV _ a0=>Rw z<|Wq<|Wq<|bdB hm λua hub J=>Wt (λa w=>∃x3,x3=ua/\Sat 37 [(1,vI x2),(2,pt w0.z),(27,vB x3)] a/\Below V.z V w) ?_ ?_
 .refine Wg<|R z (lC [sl A0 N0 C0] s_ n_ z)<|Rm z<|bdB hub λrc ed L=>EcA z (fc call108 z<|p_6 (B:=B) ed kM kR W) λ_ s8=>R z (not_ z)<|Rm z ?_;rcases bs (!rc) with H | H
  .iterate 7 refine Nh z H ?_
   exact R z (pT z H z)<|Rm z<|Nh z z<|Nh z z<|Nh z z<|Nh z z<|Nh z z<|Nh z z<|Nh z z<|Nh z z<|R z (pT z z z)<|Wl (λ_ q=>⟨true,som<|ifT L H,kaA q,s8⟩)
  refine Rh z H (fd a_l z)<|Rh z H (l0 a_p z kBa)<|Rh z H (mv z)<|bdB (ifF L H) λxe ef O=>RXg z z H z (at_ (α:=f_) Y_ l_ z z z kR ef) ?_;rintro _ ⟨_,_,_,rfl,hg,hh,_⟩;obtain ⟨_,_,_,_,_,_,_,_,_,_,_,_,rfl,_,_,_,_,_,_,_⟩:=a_T hh;refine Rh z H (fd a_r z)<|Rh z H (l0 g_3 z<|hg.at (j:=1) z)<|Rh z H (nq z z)<|R z (pF z H z)<|Rm z ?_;rcases bs (xe.kind != 1) with G | G
  .iterate 8 refine Nh z G ?_
   exact R z (pT z G z)<|Wl (λ_ q=>⟨true,som<|ifT O G,kaA q,s8⟩)
  refine Rh z G (fd a_l z)<|Rh z G (l0 a_p z kBa)<|Rh z G (mv z)<|bdB (ifF O G) λ_ ei hmj=>RXg z z G z (at_ (α:=f_) Y_ l_ z z z kR ei) ?_;rintro _ ⟨_,_,_,rfl,hk,hl,_⟩;obtain ⟨_,_,_,_,_,_,_,_,_,_,_,_,rfl,_,_,hn,_,_,_,_⟩:=a_T hl;refine Rh z G (fd a_V z)<|Rh z G (l0 g_3 z<|hk.at (j:=2) z)<|bdB hmj λrm eo hmp=>Eg z z G z (fc call161 z<|e_n (B:=B) eo kM hn (ii z)<|ii z) ?_;rintro _ _ ⟨_,rfl⟩;exact Rh z G (not_ z)<|R z (pF z G z)<|Wl (λ_ q=>⟨!rm,som hmp,kaA q,kW⟩)
 rintro aq _ ⟨x3,rfl,_,_⟩;revert aq;refine Wo<|Wc z (λI=>?_) (λI=>?_)
 .exact Ws<|Rw z<|Wr<|rS1 (ifT J I) hr z ⟨kW,z,ii z⟩
 refine Wk<|Ws<|Rf z a_l z<|R z (l0 a_p z kBa)<|Rm z<|bdB (ifF J I) λ_ er hms=>xA (α:=f_) z Y_ l_ z z z kR er λ_ _ _ ht hu _=>?_;obtain ⟨_,_,_,_,_,_,_,_,_,_,_,_,rfl,_,_,_,_,_,_,_⟩:=a_T hu;exact Rf z a_V z<|R z (l0 g_3 z<|ht.at (j:=2) z)<|R z (h_a z z)<|bdB hms λ_ ev hmw=>R z (j_l z z<|nnS ev)<|R z (sb_ z z)<|Rw z<|Wr<|rS1 hmw hr z ⟨kW,z,iS _ _⟩
theorem W_w43 {x1:List Str}{x2:Str}{res:Bool}(hm:h_A x1 x2=some res)(a1:B<=w0.z)(H:rp w0 B A0 N0 C0 x1)(a0:x2.b.length<=LEN):g_ prog 230 [sl A0 N0 C0,Str.v x2] w0 (Q11 w0 B res):=by
 unfold h_A at hm;refine goG func230 z z z λfn hr=>Ws<|Rw z<|Wq<|Wm z<|R z (lnR z_ z H)<|Rm z<|Wn<|bdB hm λ_ O I=>Wf (σ:=Unit) (ρ:=Bool) (λ(k2:Nat)(_:Unit) a w=>Sat 17 [(1,Str.v x2),(7,sl A0 N0 C0),(8,vI (x1.length:Int)),(9,vI ((k2:Nat):Int))] a/\Below w0.z w0 w) (λ(_:Unit) a w=>Sat 17 [] a/\Below w0.z w0 w) (rQ prog fn<|Q11 w0 B) O ?_ ?_ ?_ ?_ ?_
 .exact λ_ q=>⟨kaA q,br w0⟩
 .rintro k2 _ _ _ _ J ⟨V,s5⟩ W;refine Wu ?_ V;refine Ws<|Rl z z z<|Wn<|Wq<|Wc z (λ_=>?_) (λhc=>(J_ J hc).elim);refine Wk<|Wq<|Wb<|Ws<|bdB W λ_ Y L=>xA (α:=Str) z z_ z_9 z z z kR Y λ_ _ _ ha hb _=>?_;obtain ⟨rfl,_⟩:=a_e hb;refine R z (l0 g_9 z<|ha.at0 z)<|Rw z<|Wm z<|Rm z<|R z (a_Q z z)<|Wx z (λG=>?_) (λG=>?_)
  .exact Ws<|Rw z<|Wr<|rtO<|qL (som<|ifT L G).symm<|a_s hr z ⟨s5,z⟩
  exact Wk<|Wg<|R z (inc_ J (lt_ (repS.len H) u_) z z)<|Rm z<|Wl (λ_ q=>⟨(),(som<|ifF L G).symm,⟨kaA q,s5⟩⟩)
 .rintro _ _ _ ⟨hSc,sd⟩;refine Wu ?_ hSc;refine Ws<|Rl z z z<|Wn<|Wq<|Wc z (λhc=>(K_ hc).elim) (λ_=>?_);exact We<|λ_ q=>⟨rfl,⟨q.k sn,sd⟩⟩
 .rintro _ ae _ rfl ⟨_,sf⟩;have hmg:=elL I;revert ae;exact Wo<|Ws<|Rw z<|Wr<|rS1 hmg hr z ⟨sf,z⟩
 exact lqA I λ_ _ h=>h.2
theorem W_w44 {x1:f_}{res:Bool}(hm:k_3 n x1=some res)(av:B<=w0.z)(Y:x1.name.b.length<=LEN)(a0:inI x1.kind)(a1:inI x1.size)(ap:rp w0 B AB NB CB x1.bytes)(a2:rp w0 B AA NA CA x1.names)(aq:rp w0 B AC NC CC x1.tags)(ar:rp w0 B AD ND CD x1.kids):g_ prog 212 [(.agg #[Str.v x1.name,vI x1.kind,vI x1.size,vB x1.little,sl AB NB CB,sl AA NA CA,sl AC NC CC,sl AD ND CD])] w0 (Q11 w0 B res):=by
 unfold k_3 at hm;refine goG func212 z z z λfn hr=>Ws<|EvX (vR x1 AB NB CB AA NA CA AC NC CC AD ND CD) z z z λW _ a3=>Rw z<|Wq<|Wq<|bdB hm λul hum hmb=>Wt (λa w=>∃x5,x5=ul/\Sat 44 [(1,pt w0.z),(23,vB x5)] a/\Below W.z W w) ?_ ?_
 .refine Wg<|R z (lN (vs:=vR x1 AB NB CB AA NA CA AC NC CC AD ND CD) G_ l_ z z fid<|a3.row 0 8 z)<|bdB hum λrn eo hmc=>EcA z (fc call211 z<|f_C (B:=B) eo kM Y a0 a1 kR kR kR kR<|ii z) λ_ sd=>R z (not_ z)<|Rm z ?_;rcases bs (!rn) with G | G
  .iterate 7 refine Nh z G ?_
   exact R z (pT z G z)<|Rm z<|Nh z z<|Nh z z<|Nh z z<|Nh z z<|Nh z z<|R z (pT z z z)<|Wl (λ_ q=>⟨true,som<|ifT hmc G,kaA q,sd⟩)
  have hme:=ifF hmc G;refine Rh z G (fd Q_ z)<|Rh z G (l0 A_ z kBa)<|Rh z G (lnR v_ z kR)<|Rh z G (fd c_r z)<|Rh z G (l0 a_A z kBa)<|Rh z G (lnR z_ z kR)<|Rh z G (nq z z)<|R z (pF z G z)<|Rm z ?_;rcases bs ((x1.kids.length:Int) != (x1.names.length:Int)) with I | I
  .iterate 5 refine Nh z I ?_
   exact R z (pT z I z)<|Wl (λ_ q=>⟨true,som<|ifT hme I,kaA q,sd⟩)
  refine Rh z I (fd Q_ z)<|Rh z I (l0 A_ z kBa)<|Rh z I (lnR v_ z kR)<|bdB (ifF hme I) λrp eq hmr=>Eg z z I z (fc call161 z<|e_n (B:=B) eq kM (c_3<|repS.len kR) (ii z)<|ii z) ?_;rintro _ _ ⟨_,rfl⟩;exact Rh z I (not_ z)<|R z (pF z I z)<|Wl (λ_ q=>⟨!rp,som hmr,kaA q,kW⟩)
 rintro au J ⟨x5,rfl,_,_⟩;revert au;refine Wo<|Wc z (λL=>?_) (λL=>?_)
 .exact Ws<|Rw z<|Wr<|rS1 (ifT hmb L) hr z ⟨kW,z⟩
 refine Wk<|Wq<|Ws<|Rf z c_r z<|R z (l0 a_A z kBa)<|R z (lnR z_ z kR)<|Rm z<|Wn<|bdB (ifF hmb L) λ_ hus hmf=>Wf (σ:=Unit) (ρ:=Bool) (λ(k7:Nat)(_:Unit) a w=>Sat 44 [(1,pt w0.z),(25,sl AA NA CA),(26,vI (x1.names.length:Int)),(27,vI ((k7:Nat):Int))] a/\Below J.z J w) (λ(_:Unit) a w=>Sat 44 [] a/\Below J.z J w) (rQ prog fn<|Q11 w0 B) hus ?_ ?_ ?_ ?_ ?_
 .exact λ_ q=>⟨kaA q,br J⟩
 .rintro k7 _ _ wg _ hkh ⟨hSt,_⟩ hmv;refine Wu ?_ hSt;refine Ws<|Rl z z z<|Wn<|Wq<|Wc z (λ_=>?_) (λhc=>(J_ hkh hc).elim);refine Wk<|Wq<|Wb<|Wm z<|bdB hmv λ_ ew hmx=>xA (α:=Str) z z_ z_9 z z z kR ew λ_ _ _ hy hz _=>?_;obtain ⟨rfl,hi⟩:=a_e hz;refine R z (l0 g_9 z<|hy.at0 z)<|Ra z<|Rw z<|Wq<|bdB hmx λab a4 hmj=>Wt (λa w=>∃V,V=ab/\Sat 44 [(1,pt w0.z),(25,sl AA NA CA),(26,vI (x1.names.length:Int)),(27,vI ((k7:Nat):Int)),(42,vB V)] a/\Below wg.z wg w) ?_ ?_
  .refine Wg<|Rm z<|bdB a4 λad ae hmk=>EcA z (fc call195 z<|n_0 (B:=B) ae kM hi) λ_ af=>R z (not_ z)<|Rm z ?_;rcases bs (!ad) with H | H
   .iterate 6 refine Nh z H ?_
    exact R z (pT z H z)<|Wl (λ_ q=>⟨true,som<|ifT hmk H,kaA q,af⟩)
   refine Rh z H (fd c_r z)<|Rh z H (l0 a_A z kBa)<|Rh z H (mv z)<|bdB (ifF hmk H) λ_ ah a5=>RXg z z H z (rX z_ z_9 z z kR z z ah) ?_;rintro _ ⟨_,_,_,rfl,ai⟩;refine Rh z H (mv z)<|bdB a5 λaj ak a6=>Eg z z H z (fc call230 z<|W_w43 (B:=B) ak kM ai hi) ?_;rintro _ _ ⟨_,rfl⟩;exact R z (pF z H z)<|Wl (λ_ q=>⟨aj,som a6,kaA q,kW⟩)
  rintro al _ ⟨V,rfl,_,_⟩;revert al;refine Wo<|Wc z (λO=>?_) (λO=>?_)
  .exact Ws<|Rw z<|Wr<|rtO<|qL (som<|ifT hmj O).symm<|a_s hr z ⟨kW,z⟩
  exact Wk<|Wg<|R z (inc_ hkh (lt_ (repS.len a2) u_) z z)<|Rm z<|Wl (λ_ q=>⟨(),(som<|ifF hmj O).symm,⟨kaA q,kW⟩⟩)
 .rintro _ _ _ ⟨a7,am⟩;refine Wu ?_ a7;refine Ws<|Rl z z z<|Wn<|Wq<|Wc z (λhc=>(K_ hc).elim) (λ_=>?_);exact We<|λ_ q=>⟨rfl,⟨q.k sn,am⟩⟩
 .rintro _ an _ rfl ⟨_,_⟩;have a8:=elL hmf;revert an;exact Wo<|Ws<|Rw z<|Wr<|rS1 a8 hr z ⟨kW,z⟩
 exact lqA hmf λ_ _ h=>h.2
theorem W_w45 {x1:d_}{x2:f_}{res:Bool}(hm:k_4 x1 x2=some res)(aG:B<=w0.z)(aC:rp w0 B A0 N0 C0 x1.rules)(a0:x2.name.b.length<=LEN)(a1:inI x2.kind)(a2:inI x2.size)(aD:rp w0 B A4 N4 C4 x2.bytes)(aE:rp w0 B A5 N5 C5 x2.names)(a3:rp w0 B A3 N3 C3 x2.tags)(aF:rp w0 B A6 N6 C6 x2.kids):g_ prog 213 [(.agg #[sl A0 N0 C0]),(.agg #[Str.v x2.name,vI x2.kind,vI x2.size,vB x2.little,sl A4 N4 C4,sl A5 N5 C5,sl A3 N3 C3,sl A6 N6 C6])] w0 (Q11 w0 B res):=by
 unfold k_4 at hm;refine goG func213 z z z λfn hr=>Ws<|EvX [sl A0 N0 C0] z z z λO _ _=>EvX (vR x2 A4 N4 C4 A5 N5 C5 A3 N3 C3 A6 N6 C6) z z z λw6 _ Y=>Rw z<|Wq<|Wq<|bdB hm λun huo hmf=>Wt (λa w=>∃V,V=un/\Sat 57 [(2,pt w0.z),(3,pt O.z),(21,vB V)] a/\Below w6.z w6 w) ?_ ?_
 .refine Wg<|R z (lN (vs:=vR x2 A4 N4 C4 A5 N5 C5 A3 N3 C3 A6 N6 C6) G_ l_ z z fid<|Y.row 0 8 z)<|Rf z b_G z<|R z (l0 A_ z<|Y.at z)<|R z (lnR v_ z kR)<|R z (add_ z z)<|bdB huo λrp eq hmg=>EcA z (fc call211 z<|f_C (B:=B) eq kM a0 a1 a2 kR kR kR kR<|iA _ _) λ_ sr=>R z (not_ z)<|Rm z ?_;rcases bs (!rp) with I | I
  .iterate 5 refine Nh z I ?_
   exact R z (pT z I z)<|Wl (λ_ q=>⟨true,som<|ifT hmg I,kaA q,sr⟩)
  refine Rh z I (fd b_G z)<|Rh z I (l0 A_ z kBa)<|Rh z I (lnR v_ z kR)<|bdB (ifF hmg I) λrs et hmu=>Eg z z I z (fc call161 z<|e_n (B:=B) et kM (c_3<|repS.len kR) (ii z)<|ii z) ?_;rintro _ _ ⟨_,rfl⟩;exact Rh z I (not_ z)<|R z (pF z I z)<|Wl (λ_ q=>⟨!rs,som hmu,kaA q,kW⟩)
 rintro av _ ⟨V,rfl,_,_⟩;revert av;refine Wo<|Wc z (λL=>?_) (λL=>?_)
 .exact Ws<|Rw z<|Wr<|rS1 (ifT hmf L) hr z ⟨kW,z⟩
 refine Wk<|Wq (Wd (X:=noX) 0 (pl_ 7 [5]) mo (by kernel_rfl) λaH aI _=>dR z z (lC [sl A0 N0 C0] s_ n_ z)<|dR z z (fd Q_ z)<|dR z z (l0 A_ z kBa) ?_);refine bdB (ifF hmf L) λ_ ew hmx=>dxA (α:=Int) z z v_ z_3 z z z kR ew λ_ _ _ hy hz _=>?_;obtain ⟨rfl,ah⟩:=a_z hz;refine dR z z (l0 g_3 z<|hy.at0 z)<|bdB hmx λW ai a4=>dE z z (fc call203 z<|h_O (B:=B) ai kM kR ah) iB ?_;rintro _ J ⟨_,rfl,aj⟩;refine dQ z z z<|pD<|Wo<|Wq<|Ws<|Rf z b_G z<|R z (l0 A_ z kBa)<|R z (lnR v_ z kR)<|Rm z<|Wn<|bdB a4 λ_ a5 hmh=>Wf (σ:=Unit) (ρ:=Bool) (λ(k5:Nat)(_:Unit) a w=>Sat 57 [(3,pt O.z),(5,vI W),(29,sl A3 N3 C3),(30,vI (x2.tags.length:Int)),(31,vI ((k5:Nat):Int))] a/\Below J.z J w) (λ(_:Unit) a w=>Sat 57 [(5,vI W)] a/\Below J.z J w) (rQ prog fn<|Q11 w0 B) a5 ?_ ?_ ?_ ?_ ?_
 .exact λ_ q=>⟨kaA q,br J⟩
 .rintro k5 _ _ wi _ hkj ⟨a6,_⟩ a7;refine Wu ?_ a6;refine Ws<|Rl z z z<|Wn<|Wq<|Wc z (λ_=>?_) (λhc=>(J_ hkj hc).elim);refine Wk<|Wq<|Wb<|Wm z<|bdB a7 λak al a8=>xI z v_ z_3 z z z kR al λ_ _ am an=>R z (l0 g_3 z<|am.at0 z)<|Ra z<|Rw z<|Wq<|bdB a8 λap a9 hmk=>Wt (λa w=>∃xa,xa=ap/\Sat 57 [(3,pt O.z),(5,vI W),(29,sl A3 N3 C3),(30,vI (x2.tags.length:Int)),(31,vI ((k5:Nat):Int)),(53,vB xa)] a/\Below wi.z wi w) ?_ ?_
  .refine Wg<|RM z z<|bdB a9 λaq ar hml=>EcA z (fc call161 z<|e_n (B:=B) ar kM an (ii z) aj) λ_ sb=>R z (not_ z)<|Rm z ?_;rcases bs (!aq) with H | H
   .iterate 3 refine Nh z H ?_
    exact Nv z<|Nv z<|Nv z<|Nv z<|Nv z<|Nv z<|Nv z<|Nv z<|Nh z H<|R z (pT z H z)<|Wl (λ_ q=>⟨true,som<|ifT hml H,kaA q,sb⟩)
   have hmm:=ifF hml H;refine Rh z H (mv z)<|Rh z H (T_ z z)<|Rh z H (mv z) ?_;rcases bs (decide<|0<((k5:Nat):Int)) with G | G
   .refine Rh z G (fd b_G z)<|Rh z G (l0 A_ z kBa)<|Rh z G (mv z)<|Rh z G (sb_ z z)<|bdB (ifT hmm G) λau aw aa=>RXg z z G z (at_ (α:=Int) v_ z_3 z z z kR aw) ?_;rintro _ ⟨_,_,_,rfl,ax,ay,_⟩;obtain ⟨rfl,_⟩:=a_z ay;exact Rh z G (l0 g_3 z<|ax.at0 z)<|Rh z G (mv z)<|Rh z G (b_u z z)<|Rh z H (pT z G z)<|R z (pF z H z)<|Wl (λ_ q=>⟨decide<|ak<=au,som aa,kaA q,sb⟩)
   iterate 8 refine Nh z G ?_
   exact Rh z H (pF z G z)<|R z (pF z H z)<|Wl (λ_ q=>⟨false,som<|ifF hmm G,kaA q,sb⟩)
  rintro az _ ⟨xa,rfl,_,_⟩;revert az;refine Wo<|Wc z (λhcc=>?_) (λhcc=>?_)
  .exact Ws<|Rw z<|Wr<|rtO<|qL (som<|ifT hmk hcc).symm<|a_s hr z ⟨kW,z⟩
  exact Wk<|Wg<|R z (inc_ hkj (lt_ (repS.len a3) u_) z z)<|Rm z<|Wl (λ_ q=>⟨(),(som<|ifF hmk hcc).symm,⟨kaA q,kW⟩⟩)
 .rintro _ _ _ ⟨ab,aA⟩;refine Wu ?_ ab;refine Ws<|Rl z z z<|Wn<|Wq<|Wc z (λhc=>(K_ hc).elim) (λ_=>?_);exact We<|λ_ q=>⟨rfl,⟨kaA q,aA⟩⟩
 .rintro _ aB _ rfl ⟨_,_⟩;have ad:=elL hmh;revert aB;exact Wo<|Wm z<|R z (T_ z z)<|Rw z<|Wr<|rS1 ad hr z ⟨kW,z⟩
 exact lqA hmh λ_ _ h=>h.2
theorem W_w46 {x1:d_}{x2:f_}{res:Bool}(hm:k_5 n x1 x2=some res)(bN:B<=w0.z)(bH:rp w0 B A0 N0 C0 x1.rules)(Y:x2.name.b.length<=LEN)(a0:inI x2.kind)(L:inI x2.size)(bI:rp w0 B A4 N4 C4 x2.bytes)(bJ:rp w0 B A5 N5 C5 x2.names)(bK:rp w0 B A3 N3 C3 x2.tags)(bM:rp w0 B A6 N6 C6 x2.kids):g_ prog 196 [(.agg #[sl A0 N0 C0]),(.agg #[Str.v x2.name,vI x2.kind,vI x2.size,vB x2.little,sl A4 N4 C4,sl A5 N5 C5,sl A3 N3 C3,sl A6 N6 C6])] w0 (Q11 w0 B res):=by
 unfold k_5 at hm;refine goG func196 z z z λfn hr=>Ws<|EvX [sl A0 N0 C0] z z z λwa _ _=>EvX (vR x2 A4 N4 C4 A5 N5 C5 A3 N3 C3 A6 N6 C6) z z z λJ _ a4=>Rw z<|Wq<|Ws<|Rf z a_r z<|R z (l0 g_3 z<|a4.at z)<|Wn<|Wb<|Ws<|Rq z z z<|Rw z<|Wc z (λhcb=>?_) (λhcb=>?_)
 .refine Wq<|bdB (ifT hm hcb) λaK al am=>Wt (λa w=>∃xc,xc=aK/\Sat 102 [(4,vB xc)] a/\Below J.z J w) ?_ ?_
  .refine Wg<|R z (lN (vs:=vR x2 A4 N4 C4 A5 N5 C5 A3 N3 C3 A6 N6 C6) G_ l_ z z fid<|a4.row 0 8 z)<|bdB al λaL aM hmv=>EcA z (fc call211 z<|f_C (B:=B) aM kM Y a0 L kR kR kR kR<|ii z) λ_ aN=>Rm z ?_;rcases bs aL with a1 | a1
   .refine Rh z a1 (fd a_V z)<|Rh z a1 (l0 g_3 z kBa)<|bdB (ifT hmv a1) λaO aP hmw=>Eg z z a1 z (fc call161 z<|e_n (B:=B) aP kM L (ii z)<|ii z) ?_;rintro _ _ ⟨_,rfl⟩;refine R z (pT z a1 z)<|Rm z ?_;rcases bs aO with I | I
    .have hmx:=ifT hmw I;refine Rh z I (fd e_k z)<|Rh z I (l0 g_4 z kBa)<|Rh z I (not_ z)<|Rh z I (mv z) ?_;rcases bs (!x2.little) with a2 | a2
     .iterate 3 refine Nh z a2 ?_
      exact Rh z I (pT z a2 z)<|R z (pT z I z)<|Ra z<|Wl (λ_ q=>⟨true,som<|ifT hmx a2,kaA q,kW⟩)
     exact Rh z a2 (fd a_V z)<|Rh z a2 (l0 g_3 z kBa)<|Rh z a2 (T_ z z)<|Rh z I (pF z a2 z)<|R z (pT z I z)<|Ra z<|Wl (λ_ q=>⟨decide<|1<x2.size,som<|ifF hmx a2,kaA q,kW⟩)
    iterate 4 refine Nh z I ?_
    exact Nv z<|Nv z<|Nv z<|Nh z I<|R z (pF z I z)<|Ra z<|Wl (λ_ q=>⟨false,som<|ifF hmw I,kaA q,kW⟩)
   iterate 3 refine Nh z a1 ?_
   exact R z (pF z a1 z)<|Rm z<|Nh z z<|Nh z z<|Nh z z<|Nh z z<|Nv z<|Nv z<|Nv z<|Nh z z<|R z (pF z z z)<|Ra z<|Wl (λ_ q=>⟨false,som<|ifF hmv a1,kaA q,aN⟩)
  rintro aQ _ ⟨xc,rfl,_,_⟩;revert aQ;exact Wo<|Wr<|rtO<|rS1 am hr z ⟨kW,z⟩
 have hmy:=ifF hm hcb;refine Ws<|Rq z z z<|Rw z<|Wc z (λhcd=>?_) (λhcd=>?_)
 .refine Wq<|bdB (ifT hmy hcd) λaR an ap=>Wt (λa w=>∃xe,xe=aR/\Sat 102 [(4,vB xe)] a/\Below J.z J w) ?_ ?_
  .refine Wg<|R z (lN (vs:=vR x2 A4 N4 C4 A5 N5 C5 A3 N3 C3 A6 N6 C6) G_ l_ z z fid<|a4.row 0 8 z)<|bdB an λaS aT hmz=>EcA z (fc call211 z<|f_C (B:=B) aT kM Y a0 L kR kR kR kR<|ii z) λ_ aU=>Rm z ?_;rcases bs aS with V | V
   .refine Rh z V (fd b_F z)<|Rh z V (l0 B_ z kBa)<|Rh z V (lnR h_ z kR)<|bdB (ifT hmz V) λaV aW aq=>Eg z z V z (fc call161 z<|e_n (B:=B) aW kM (c_3<|repS.len kR) (ii z)<|ii z) ?_;rintro _ _ ⟨_,rfl⟩;exact R z (pT z V z)<|Ra z<|Wl (λ_ q=>⟨aV,som aq,kaA q,kW⟩)
   iterate 4 refine Nh z V ?_
   exact R z (pF z V z)<|Ra z<|Wl (λ_ q=>⟨false,som<|ifF hmz V,kaA q,aU⟩)
  rintro aX _ ⟨xe,rfl,_,_⟩;revert aX;exact Wo<|Wr<|rtO<|rS1 ap hr z ⟨kW,z⟩
 have a5:=ifF hmy hcd;refine Ws<|Rq z z z<|Rw z<|Wc z (λhcf=>?_) (λhcf=>?_)
 .refine Wq<|bdB (ifT a5 hcf) λaY ar au=>Wt (λa w=>∃xg,xg=aY/\Sat 102 [(4,vB xg)] a/\Below J.z J w) ?_ ?_
  .refine Wg<|R z (lN (vs:=vR x2 A4 N4 C4 A5 N5 C5 A3 N3 C3 A6 N6 C6) G_ l_ z z fid<|a4.row 0 8 z)<|bdB ar λaZ b0 a6=>EcA z (fc call211 z<|f_C (B:=B) b0 kM Y a0 L kR kR kR kR<|ii z) λ_ b1=>Rm z ?_;rcases bs aZ with a3 | a3
   .refine Rh z a3 (fd a_V z)<|Rh z a3 (l0 g_3 z kBa)<|bdB (ifT a6 a3) λb2 b3 av=>Eg z z a3 z (fc call161 z<|e_n (B:=B) b3 kM L (ii z)<|ii z) ?_;rintro _ _ ⟨_,rfl⟩;exact R z (pT z a3 z)<|Ra z<|Wl (λ_ q=>⟨b2,som av,kaA q,kW⟩)
   iterate 3 refine Nh z a3 ?_
   exact R z (pF z a3 z)<|Ra z<|Wl (λ_ q=>⟨false,som<|ifF a6 a3,kaA q,b1⟩)
  rintro b4 _ ⟨xg,rfl,_,_⟩;revert b4;exact Wo<|Wr<|rtO<|rS1 au hr z ⟨kW,z⟩
 have a7:=ifF a5 hcf;refine Ws<|Rq z z z<|Rw z<|Wc z (λhch=>?_) (λhch=>?_)
 .refine Wq<|bdB (ifT a7 hch) λb5 aw ax=>Wt (λa w=>∃xi,xi=b5/\Sat 102 [(4,vB xi)] a/\Below J.z J w) ?_ ?_
  .refine Wd (X:=noX) 0 (pl_ 12 [1,8]) mo (by kernel_rfl) λbO bP _=>dR z z (lN (vs:=vR x2 A4 N4 C4 A5 N5 C5 A3 N3 C3 A6 N6 C6) G_ l_ z z fid<|kBr 0 8)<|bdB aw λb6 b7 a8=>dE z z (fc call211 z<|f_C (B:=B) b7 kM Y a0 L kR kR kR kR<|ii z) iB ?_;rintro _ _ ⟨_,rfl⟩;refine dM z z z ?_;rcases bs b6 with G | G
   .refine dRg z z z G z (lC [sl A0 N0 C0] s_ n_ z)<|dRg z z z G z (fd Q_ z)<|dRg z z z G z (l0 A_ z kBa)<|bdB (ifT a8 G) λ_ b8 ay=>a_G z z z G z (at_ (α:=Int) v_ z_3 z z z kR b8) ?_;rintro _ ⟨_,_,_,rfl,b9,ba,_⟩;obtain ⟨rfl,bb⟩:=a_z ba;refine dRg z z z G z (l0 g_3 z<|b9.at0 z)<|bdB ay λbc be az=>dEg z z z G z (fc call203 z<|h_O (B:=B) be kM kR bb) iB ?_;rintro _ _ ⟨_,rfl,_⟩;exact dRg z z z G z (T_ z z)<|dR z z (pT z G z)<|dQ z z z<|pD (λ_ q=>⟨decide<|0<bc,som az,kaA q,kW⟩)
   iterate 5 refine dRn z z z G z ?_
   exact dEn z z z G z<|dRn z z z G z<|dR z z (pF z G z)<|dQ z z z<|pD (λ_ q=>⟨false,som<|ifF a8 G,kaA q,kW⟩)
  rintro bf _ ⟨xi,rfl,_,_⟩;revert bf;exact Wo<|Wr<|rtO<|rS1 ax hr z ⟨kW,z⟩
 have a9:=ifF a7 hch;refine Ws<|Rq z z z<|Rw z<|Wc z (λhcj=>?_) (λhcj=>?_)
 .refine Wq<|bdB (ifT a9 hcj) λbg aA aB=>Wt (λa w=>∃xk,xk=bg/\Sat 102 [(4,vB xk)] a/\Below J.z J w) ?_ ?_
  .refine Wd (X:=noX) 0 (pl_ 12 [1,8]) mo (by kernel_rfl) λbR bS _=>dR z z (lN (vs:=vR x2 A4 N4 C4 A5 N5 C5 A3 N3 C3 A6 N6 C6) G_ l_ z z fid<|kBr 0 8)<|bdB aA λbh bi aa=>dE z z (fc call211 z<|f_C (B:=B) bi kM Y a0 L kR kR kR kR<|ii z) iB ?_;rintro _ _ ⟨_,rfl⟩;refine dM z z z ?_;rcases bs bh with H | H
   .refine dRg z z z H z (lC [sl A0 N0 C0] s_ n_ z)<|dRg z z z H z (fd Q_ z)<|dRg z z z H z (l0 A_ z kBa)<|bdB (ifT aa H) λ_ bj aC=>a_G z z z H z (at_ (α:=Int) v_ z_3 z z z kR bj) ?_;rintro _ ⟨_,_,_,rfl,bk,bm,_⟩;obtain ⟨rfl,bn⟩:=a_z bm;refine dRg z z z H z (l0 g_3 z<|bk.at0 z)<|bdB aC λbo bp aD=>dEg z z z H z (fc call203 z<|h_O (B:=B) bp kM kR bn) iB ?_;rintro _ _ ⟨_,rfl,_⟩;exact dRg z z z H z (T_ z z)<|dR z z (pT z H z)<|dQ z z z<|pD (λ_ q=>⟨decide<|0<bo,som aD,kaA q,kW⟩)
   iterate 5 refine dRn z z z H z ?_
   exact dEn z z z H z<|dRn z z z H z<|dR z z (pF z H z)<|dQ z z z<|pD (λ_ q=>⟨false,som<|ifF aa H,kaA q,kW⟩)
  rintro bq _ ⟨xk,rfl,_,_⟩;revert bq;exact Wo<|Wr<|rtO<|rS1 aB hr z ⟨kW,z⟩
 have ab:=ifF a9 hcj;refine Ws<|Rq z z z<|Rw z<|Wc z (λhcl=>?_) (λhcl=>?_)
 .exact Ws<|R z (lN (vs:=vR x2 A4 N4 C4 A5 N5 C5 A3 N3 C3 A6 N6 C6) G_ l_ z z fid<|a4.row 0 8 z)<|bdB (ifT ab hcl) λ_ bt aE=>EcA z (fc call212 z<|W_w44 (B:=B) bt kM Y a0 L kR kR kR kR) λ_ _=>Rw z<|Wr<|rtO<|rS1 aE hr z ⟨kW,z⟩
 have ad:=ifF ab hcl;refine Ws<|Rq z z z<|Rw z<|Wc z (λhcm=>?_) (λhcm=>?_)
 .exact Ws<|R z (lC [sl A0 N0 C0] s_ n_ z)<|R z (lN (vs:=vR x2 A4 N4 C4 A5 N5 C5 A3 N3 C3 A6 N6 C6) G_ l_ z z fid<|a4.row 0 8 z)<|bdB (ifT ad hcm) λ_ bu aF=>EcA z (fc call213 z<|W_w45 (B:=B) bu kM kR Y a0 L kR kR kR kR) λ_ _=>Rw z<|Wr<|rtO<|rS1 aF hr z ⟨kW,z⟩
 refine Wq<|Ws<|Rq z z z<|Rw z<|bdB (ifF ad hcm) λbv ae af=>Wt (λa w=>∃xn,xn=bv/\Sat 102 [(3,pt wa.z),(6,vI x2.kind),(80,vB xn)] a/\Below J.z J w) ?_ ?_
 .refine Wc z (λhco=>?_)<|λhco=>?_
  .exact Z_<|λ_ q=>⟨x2.kind==8,som<|ifT ae hco,kaA q,br J⟩
  exact Wg<|Rq z z z<|Ra z<|Wl (λ_ q=>⟨x2.kind==9,som<|ifF ae hco,kaA q,br J⟩)
 rintro bw ak ⟨xn,rfl,_,_⟩;revert bw;refine Wo<|Wc z (λhcp=>?_) (λhcp=>?_)
 .exact Ws<|R z (lN (vs:=vR x2 A4 N4 C4 A5 N5 C5 A3 N3 C3 A6 N6 C6) G_ l_ z z fid<|kBr 0 8)<|bdB (ifT af hcp) λ_ bx aG=>EcA z (fc call211 z<|f_C (B:=B) bx kM Y a0 L kR kR kR kR<|ii z) λ_ _=>Rw z<|Wr<|rtO<|rS1 aG hr z ⟨kW,z⟩
 have ah:=ifF af hcp;refine Ws<|Rq z z z<|Rw z<|Wc z (λhcq=>?_) (λhcq=>?_)
 .refine Wq<|bdB (ifT ah hcq) λbz aH aI=>Wt (λa w=>∃xr,xr=bz/\Sat 102 [(4,vB xr)] a/\Below ak.z ak w) ?_ ?_
  .refine Wg<|R z (lN (vs:=vR x2 A4 N4 C4 A5 N5 C5 A3 N3 C3 A6 N6 C6) G_ l_ z z fid<|kBr 0 8)<|bdB aH λbA bB ai=>EcA z (fc call211 z<|f_C (B:=B) bB kM Y a0 L kR kR kR kR<|ii z) λ_ ss=>Rm z ?_;rcases bs bA with W | W
   .have aj:=ifT ai W;refine Rh z W (fd b_F z)<|Rh z W (l0 B_ z kBa)<|Rh z W (lnR h_ z kR)<|Rh z W (eql z z)<|R z (pT z W z)<|Rm z ?_;rcases bs ((x2.bytes.length:Int)==1) with O | O
    .refine Rh z O (fd b_F z)<|Rh z O (l0 B_ z kBa)<|bdB (ifT aj O) λbC bD aJ=>RXg z z O z (at_ (α:=UInt8) h_ z_5 z z z kR bD) ?_;rintro _ ⟨_,_,_,rfl,bE,bF,_⟩;obtain rfl:=u8 bF;exact Rh z O (l0 g_5 z<|bE.at0 z)<|Rh z O (nq z z)<|R z (pT z O z)<|Ra z<|Wl (λ_ q=>⟨(b_ bC) != (b_ (92:UInt8)),som aJ,kaA q,ss⟩)
    iterate 5 refine Nh z O ?_
    exact R z (pF z O z)<|Ra z<|Wl (λ_ q=>⟨false,som<|ifF aj O,kaA q,ss⟩)
   iterate 4 refine Nh z W ?_
   exact R z (pF z W z)<|Rm z<|Nh z z<|Nh z z<|Nh z z<|Nh z z<|Nh z z<|R z (pF z z z)<|Ra z<|Wl (λ_ q=>⟨false,som<|ifF ai W,kaA q,ss⟩)
  rintro bG _ ⟨xr,rfl,_,_⟩;revert bG;exact Wo<|Wr<|rtO<|rS1 aI hr z ⟨kW,z⟩
 exact Wk<|Ws<|Rw z<|Wr<|rS1 (ifF ah hcq) hr z ⟨kW,z⟩
end Go.Vw
