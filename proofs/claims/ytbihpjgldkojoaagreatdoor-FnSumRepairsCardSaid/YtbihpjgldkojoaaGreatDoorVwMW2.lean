
import Derived.Test.YtbihpjgldkojoaaGreatDoorVwMW1
set_option linter.unusedVariables false
namespace Go.Vw
open Go.RowKit Dat Go.Proofs
open Go.Proofs.Tryz
open Go.Vw renaming b_c->Wq,b_t->Wg,WC.of_KC->Wo,b_5->Wl,c_N->Wc,d_F->Wr,g_h->Wu,h_U->pT,h_V->pF,g_t->fd,c_r->l1,i_t->lN,b_U->mv,d_s->asg,g_2->lnR,f_q->lss,g_w->eql,g_u->ext_,h_X->bP,g_v->add_,f_Y->inc_,e_u->not_,g_6->at_,e_W->fc,b_w->fs,e_V->fb,e_l->fa,h_O->sr,h_S->cr,h_T->cM,d_e->bM,h_H->iS,h_G->iA,h_J->br,b_R->oA,h_K->bs,ltge->lg,inor->io,g_x->nq,i_v->lnT,i_w->sb_,h_M->ar_,h_L->al_,h_N->ds,j_1->m1,h_Q->nr_,h_P->nl_,g_0->aa_,d_d->an_,d_G->Wb,f_Z->u8,h_y->pD,f_O->We,h_I->Wt,f_W->fS,e_R->or_,i_c->Wf,i_2->qL,h_x->Wd,h_Y->fN,g_1->na_,h_R->nj,f_1->f0,h_W->rX,h_Z->tl_,i_0->ic
variable {A0:Option Addr}{N0 C0:Nat}{B:Zone}{w0:World}{n:Nat}{A6:Option Addr}{N6 C6:Nat}{A9:Option Addr}{A8:Option Addr}{AA:Option Addr}{AB:Option Addr}{N9 C9:Nat}{N8 C8:Nat}{NA CA:Nat}{NB CB:Nat}{AD:Option Addr}{ND CD:Nat}{A3:Option Addr}{A4:Option Addr}{A2:Option Addr}{A5:Option Addr}{N3 C3:Nat}{N4 C4:Nat}{N2 C2:Nat}{N5 C5:Nat}{A1:Option Addr}{N1 C1:Nat}{A7:Option Addr}{N7 C7:Nat}
theorem W_w2b {x1:d_}{res:Bool}(hm:h_8 n x1=some res)(O:B<=w0.z)(Y:x1.name.b.length<=LEN)(a0:inI x1.kind)(a1:inI x1.size)(a2:repS w0 B (sl A9 N9 C9) x1.bytes)(J:repS w0 B (sl A8 N8 C8) x1.names)(a3:repS w0 B (sl AA NA CA) x1.tags)(W:repS w0 B (sl AB NB CB) x1.kids):q_ prog 139 [(.agg #[Str.v x1.name,vI x1.kind,vI x1.size,vB x1.little,sl A9 N9 C9,sl A8 N8 C8,sl AA NA CA,sl AB NB CB])] w0 (Q0 w0 B res):=by
 unfold h_8 at hm
 refine goG func139 z z z λfn hr=>Ws<|E z (fb z) ?_
 rintro _ V ⟨rfl,hi⟩;have h1:=hi.below;have ha:Blk V w0.z (vR x1 A9 N9 C9 A8 N8 C8 AA NA CA AB NB CB):=hi.blk;refine Rw z<|Wq<|Wq ?_
 obtain ⟨uy,huz,hmj⟩:=bdS hm;refine Wt (λa w=>∃(xb:Bool),xb=uy/\Sat 44 [(1,pt w0.z),(23,vB xb)] a/\Below V.z V w) ?_ ?_
 .refine Wg<|R z (lN (vs:=vR x1 A9 N9 C9 A8 N8 C8 AA NA CA AB NB CB) R_ t_ z z fid<|ha.row 0 8 z) ?_
  obtain ⟨ai,aj,hmk⟩:=bdS huz;refine E z (fc call137 z<|d_n aj (zt' O h1.s) Y a0 a1 (a2.e h1) (J.e h1) (a3.e h1) (W.e h1)<|ii z) ?_;rintro _ _ ⟨s6,rfl⟩;refine R z (not_ z)<|Rm z ?_
  rcases bs (!ai) with G | G
  .iterate 7 refine Nh z G ?_
   exact R z (pT z G z)<|Rm z<|Nh z z<|Nh z z<|Nh z z<|Nh z z<|Nh z z<|R z (pT z z z)<|Wl (λ_ q=>⟨true,som<|ifT hmk G,q.k<|s2 z z,s6⟩)
  have hml:=ifF hmk G;refine Rh z G (fd M_ z) ?_;have hd:=ha.e s6;refine Rh z G (l0 C_ z<|hd.at z) ?_;have hn:=(h1.ag B).e s6;have he:=W.g hn;refine Rh z G (lnR A_ z he)<|Rh z G (fd b_x z)<|Rh z G (l0 b_8 z<|hd.at z)<|Rh z G (lnR a_X z<|J.g hn)<|Rh z G (nq z z)<|R z (pF z G z)<|Rm z ?_
  rcases bs ((x1.kids.length:Int) != (x1.names.length:Int)) with I | I
  .iterate 5 refine Nh z I ?_
   exact R z (pT z I z)<|Wl (λ_ q=>⟨true,som<|ifT hml I,q.k<|s2 z z,s6⟩)
  refine Rh z I (fd M_ z)<|Rh z I (l0 C_ z<|hd.at z)<|Rh z I (lnR A_ z he) ?_
  obtain ⟨ak,al,a4⟩:=bdS<|ifF hml I;refine Eg z z I z (fc call122 z<|d_S al (zt' O<|lt_ h1.s s6.s) (b_2<|repS.len he) (ii z)<|ii z) ?_;rintro _ _ ⟨am,rfl⟩;exact Rh z I (not_ z)<|R z (pF z I z)<|Wl (λ_ q=>⟨!ak,som a4,q.k<|s2 z z,bup s6 am⟩)
 rintro an L ⟨xb,rfl,_,s7⟩;revert an;refine Wo<|Wc z (λhcc=>?_) (λhcc=>?_)
 .refine Ws<|Rw z ?_
  obtain rfl:=som<|ifT hmj hcc;exact Wr<|i_ hr z ⟨bup h1 s7,z⟩
 refine Wk<|Wq<|Ws<|Rf z b_x z ?_
 have ho:=ha.e s7;refine R z (l0 b_8 z<|ho.at z) ?_;have hp:=(h1.ag B).e s7;refine R z (lnR a_X z<|J.g hp)<|Rm z<|Wn ?_
 obtain ⟨_,a5,hmm⟩:=bdS<|ifF hmj hcc;refine Wf (σ:=Unit) (ρ:=Bool) (λ(kf:Nat)(_:Unit) a w=>Sat 44 [(1,pt w0.z),(25,sl A8 N8 C8),(26,vI (x1.names.length:Int)),(27,vI ((kf:Nat):Int))] a/\Below L.z L w) (λ(_:Unit) a w=>Sat 44 [] a/\Below L.z L w) (rQ prog fn<|Q0 w0 B) a5 ?_ ?_ ?_ ?_ ?_
 .exact λ_ q=>⟨q.k<|s4 z z z z,br L⟩
 .rintro kf _ _ wq _ hkr ⟨a6,s8⟩ a7;refine Wu ?_ a6;refine Ws<|Rl z z z<|Wn<|Wq<|Wc z (λ_=>?_) (λhc=>(a_n hkr hc).elim)
  refine Wk<|Wq<|Wb<|Wm z ?_
  obtain ⟨_,ao,a8⟩:=bdS a7;have ht:=hp.e s8;refine RX z (at_ (α:=Str) a_X z_9 z z z (J.g ht) ao) ?_;rintro _ ⟨_,_,_,rfl,ap,aq,_⟩;obtain ⟨rfl,hu⟩:=c_y aq;refine R z (l0 g_9 z<|ap.at0 z)<|Ra z<|Rw z<|Wq ?_
  obtain ⟨ar,a9,hms⟩:=bdS a8;refine Wt (λa w=>∃(xg:Bool),xg=ar/\Sat 44 [(1,pt w0.z),(25,sl A8 N8 C8),(26,vI (x1.names.length:Int)),(27,vI ((kf:Nat):Int)),(42,vB xg)] a/\Below wq.z wq w) ?_ ?_
  .refine Wg<|Rm z ?_
   have hv:=lt_ (lt_ h1.s s7.s) s8.s;obtain ⟨au,av,hmw⟩:=bdS a9;refine E z (fc call75 z<|j_C av (zt' O hv) hu) ?_;rintro _ _ ⟨s9,rfl⟩;refine R z (not_ z)<|Rm z ?_
   rcases bs (!au) with H | H
   .iterate 6 refine Nh z H ?_
    exact R z (pT z H z)<|Wl (λ_ q=>⟨true,som<|ifT hmw H,q.k<|s5 z z z z z,s9⟩)
   refine Rh z H (fd b_x z)<|Rh z H (l0 b_8 z<|((ho.e s8).e s9).at z)<|Rh z H (mv z) ?_
   obtain ⟨_,aw,aa⟩:=bdS<|ifF hmw H;refine RXg z z H z (rX a_X z_9 z z (J.g<|ht.e s9) z z aw) ?_;rintro _ ⟨_,_,_,rfl,ax⟩;refine Rh z H (mv z) ?_;obtain ⟨ay,az,ab⟩:=bdS aa;refine Eg z z H z (fc call79 z<|W_w1c az (zt' O<|lt_ hv s9.s) ax hu) ?_;rintro _ _ ⟨aA,rfl⟩;exact R z (pF z H z)<|Wl (λ_ q=>⟨ay,som ab,q.k<|s5 z z z z z,bup s9 aA⟩)
  rintro aB _ ⟨xg,rfl,_,sx⟩;revert aB;refine Wo<|Wc z (λhch=>?_) (λhch=>?_)
  .exact Ws<|Rw z<|Wr<|rtO<|qL (som<|ifT hms hch).symm<|i_ hr z ⟨bup (bup (bup h1 s7) s8) sx,z⟩
  exact Wk<|Wg<|R z (inc_ hkr (lt_ (repS.len J) X_) z z)<|Rm z<|Wl (λ_ q=>⟨(),(som<|ifF hms hch).symm,⟨q.k<|s4 z z z z,bup s8 sx⟩⟩)
 .rintro _ _ _ ⟨ad,aC⟩;refine Wu ?_ ad;refine Ws<|Rl z z z<|Wn<|Wq<|Wc z (λhc=>(a_o hc).elim) (λ_=>?_)
  exact We<|λ_ q=>⟨rfl,⟨q.k sn,aC⟩⟩
 .rintro _ aD _ rfl ⟨_,aE⟩;have ae:=elL hmm;revert aD;refine Wo<|Ws<|Rw z ?_
  obtain rfl:=som ae;exact Wr<|i_ hr z ⟨bup (bup h1 s7) aE,z⟩
 rintro _ _ _ _ rfl ⟨rfl,af⟩;have ah:=elR hmm;obtain rfl:=som ah;exact ⟨af,z⟩
theorem W_w2c {x1:g_}{x2:d_}{res:Bool}(hm:h_9 x1 x2=some res)(O:B<=w0.z)(a4:repS w0 B (sl A0 N0 C0) x1.rules)(a5:x2.name.b.length<=LEN)(a6:inI x2.kind)(a7:inI x2.size)(a8:repS w0 B (sl A3 N3 C3) x2.bytes)(a9:repS w0 B (sl A4 N4 C4) x2.names)(J:repS w0 B (sl A2 N2 C2) x2.tags)(V:repS w0 B (sl A5 N5 C5) x2.kids):q_ prog 140 [(.agg #[sl A0 N0 C0]),(.agg #[Str.v x2.name,vI x2.kind,vI x2.size,vB x2.little,sl A3 N3 C3,sl A4 N4 C4,sl A2 N2 C2,sl A5 N5 C5])] w0 (Q0 w0 B res):=by
 unfold h_9 at hm
 refine goG func140 z z z λfn hr=>Ws<|E z (fb z) ?_
 rintro _ L ⟨rfl,hn⟩;have h4:=hn.below;refine E z (fb z) ?_;rintro _ wg ⟨rfl,ho⟩;have h3:=ho.below;have he:Blk wg L.z (vR x2 A3 N3 C3 A4 N4 C4 A2 N2 C2 A5 N5 C5):=ho.blk;refine Rw z<|Wq<|Wq ?_
 obtain ⟨aq,aa,hmp⟩:=bdS hm;refine Wt (λa w=>∃(xh:Bool),xh=aq/\Sat 57 [(2,pt w0.z),(3,pt L.z),(21,vB xh)] a/\Below wg.z wg w) ?_ ?_
 .refine Wg<|R z (lN (vs:=vR x2 A3 N3 C3 A4 N4 C4 A2 N2 C2 A5 N5 C5) R_ t_ z z fid<|he.row 0 8 z)<|Rf z a_O z<|R z (l0 C_ z<|he.at z) ?_
  have h6:=(h4.ag B).e h3;have hq:=J.g h6;refine R z (lnR A_ z hq)<|R z (add_ z z) ?_
  have ht:=lt_ h4.s h3.s;obtain ⟨ar,au,hmr⟩:=bdS aa;refine E z (fc call137 z<|d_n au (zt' O ht) a5 a6 a7 (a8.g h6) (a9.g h6) hq (V.g h6)<|iA _ _) ?_;rintro _ _ ⟨s9,rfl⟩;refine R z (not_ z)<|Rm z ?_
  rcases bs (!ar) with I | I
  .iterate 5 refine Nh z I ?_
   exact R z (pT z I z)<|Wl (λ_ q=>⟨true,som<|ifT hmr I,q.k<|s3 z z z,s9⟩)
  refine Rh z I (fd a_O z)<|Rh z I (l0 C_ z<|(he.e s9).at z) ?_
  have hu:=J.g<|h6.e s9
  refine Rh z I (lnR A_ z hu) ?_;obtain ⟨av,aw,ab⟩:=bdS<|ifF hmr I;refine Eg z z I z (fc call122 z<|d_S aw (zt' O<|lt_ ht s9.s) (b_2<|repS.len hu) (ii z)<|ii z) ?_;rintro _ _ ⟨ax,rfl⟩;exact Rh z I (not_ z)<|R z (pF z I z)<|Wl (λ_ q=>⟨!av,som ab,q.k<|s3 z z z,bup s9 ax⟩)
 rintro ay _ ⟨xh,rfl,_,s7⟩;revert ay;refine Wo<|Wc z (λhci=>?_) (λhci=>?_)
 .refine Ws<|Rw z ?_
  obtain rfl:=som<|ifT hmp hci;exact Wr<|i_ hr z ⟨bup (bup h4 h3) s7,z⟩
 refine Wk<|Wq (Wd (X:=noX) 0 (pl_ 7 [5]) mo (by kernel_rfl) λaV s8 _=>dR z z (lN (vs:=[sl A0 N0 C0]) B_ w_ z z fid<|((((hn.blk:Blk L w0.z [sl A0 N0 C0]).e h3).e s7).e s8).row 0 1 z)<|dR z z (fd M_ z) ?_)
 have hv:=(he.e s7).e s8;refine dR z z (l0 C_ z<|hv.at z) ?_;obtain ⟨_,az,ad⟩:=bdS<|ifF hmp hci;have hj:=(((h4.ag B).e h3).e s7).e s8;refine dRX z z (at_ (α:=Int) A_ z_3 z z z (V.g hj) az) ?_;rintro _ ⟨_,_,_,rfl,aA,aB,_⟩;obtain ⟨rfl,aC⟩:=W_ aB;refine dR z z (l0 g_3 z<|aA.at0 z) ?_;have hw:=lt_ (lt_ (lt_ h4.s h3.s) s7.s) s8.s;obtain ⟨rk,aD,ae⟩:=bdS ad;refine dE z z (fc call138 z<|j_D aD (zt' O hw) (a4.g hj) aC) (.inr λ_ _ h=>x_<|h.1) ?_;rintro _ wa ⟨sb,rfl,aE⟩;refine dQ z z z<|pD<|Wo<|Wq<|Ws<|Rf z a_O z ?_
 have hx:=hv.e sb;refine R z (l0 C_ z<|hx.at z) ?_;have hy:=hj.e sb;refine R z (lnR A_ z<|J.g hy)<|Rm z<|Wn ?_
 obtain ⟨_,af,hms⟩:=bdS ae;refine Wf (σ:=Unit) (ρ:=Bool) (λ(kf:Nat)(_:Unit) a w=>Sat 57 [(3,pt L.z),(5,vI rk),(29,sl A2 N2 C2),(30,vI (x2.tags.length:Int)),(31,vI ((kf:Nat):Int))] a/\Below wa.z wa w) (λ(_:Unit) a w=>Sat 57 [(5,vI rk)] a/\Below wa.z wa w) (rQ prog fn<|Q0 w0 B) af ?_ ?_ ?_ ?_ ?_
 .exact λ_ q=>⟨q.k<|s5 z z z z z,br wa⟩
 .rintro kf _ _ wz _ W ⟨ah,sc⟩ ai;refine Wu ?_ ah;refine Ws<|Rl z z z<|Wn<|Wq<|Wc z (λ_=>?_) (λhc=>(a_n W hc).elim)
  refine Wk<|Wq<|Wb<|Wm z ?_
  obtain ⟨aF,aG,aj⟩:=bdS ai;have a2:=hy.e sc;refine RX z (at_ (α:=Int) A_ z_3 z z z (J.g a2) aG) ?_;rintro _ ⟨_,_,_,rfl,aH,aI,_⟩;obtain ⟨rfl,aJ⟩:=W_ aI;refine R z (l0 g_3 z<|aH.at0 z)<|Ra z<|Rw z<|Wq ?_
  obtain ⟨aK,ak,Y⟩:=bdS aj;refine Wt (λa w=>∃(xl:Bool),xl=aK/\Sat 57 [(3,pt L.z),(5,vI rk),(29,sl A2 N2 C2),(30,vI (x2.tags.length:Int)),(31,vI ((kf:Nat):Int)),(53,vB xl)] a/\Below wz.z wz w) ?_ ?_
  .refine Wg<|RM z z ?_
   obtain ⟨aL,aM,a0⟩:=bdS ak;refine E z (fc call122 z<|d_S aM (zt' O<|lt_ (lt_ hw sb.s) sc.s) aJ (ii z) aE) ?_;rintro _ _ ⟨sd,rfl⟩;refine R z (not_ z)<|Rm z ?_
   rcases bs (!aL) with H | H
   .iterate 3 refine Nh z H ?_
    exact Nv z<|Nv z<|Nv z<|Nv z<|Nv z<|Nv z<|Nv z<|Nv z<|Nh z H<|R z (pT z H z)<|Wl (λ_ q=>⟨true,som<|ifT a0 H,q.k<|s6 z z z z z z,sd⟩)
   have a1:=ifF a0 H;refine Rh z H (mv z)<|Rh z H (a_b z z)<|Rh z H (mv z) ?_
   rcases bs (decide<|0<((kf:Nat):Int)) with G | G
   .refine Rh z G (fd a_O z)<|Rh z G (l0 C_ z<|((hx.e sc).e sd).at z)<|Rh z G (mv z)<|Rh z G (sb_ z z) ?_
    obtain ⟨aN,aO,al⟩:=bdS<|ifT a1 G;refine RXg z z G z (at_ (α:=Int) A_ z_3 z z z (J.g<|a2.e sd) aO) ?_;rintro _ ⟨_,_,_,rfl,aP,aQ,_⟩;obtain ⟨rfl,_⟩:=W_ aQ;exact Rh z G (l0 g_3 z<|aP.at0 z)<|Rh z G (mv z)<|Rh z G (b_z z z)<|Rh z H (pT z G z)<|R z (pF z H z)<|Wl (λ_ q=>⟨decide<|aF<=aN,som al,q.k<|s6 z z z z z z,sd⟩)
   iterate 8 refine Nh z G ?_
   exact Rh z H (pF z G z)<|R z (pF z H z)<|Wl (λ_ q=>⟨false,som<|ifF a1 G,q.k<|s6 z z z z z z,sd⟩)
  rintro aR _ ⟨xl,rfl,_,a3⟩;revert aR;refine Wo<|Wc z (λhcm=>?_) (λhcm=>?_)
  .exact Ws<|Rw z<|Wr<|rtO<|qL (som<|ifT Y hcm).symm<|i_ hr z ⟨bup (bup (bup (bup (bup (bup h4 h3) s7) s8) sb) sc) a3,z⟩
  exact Wk<|Wg<|R z (inc_ W (lt_ (repS.len J) X_) z z)<|Rm z<|Wl (λ_ q=>⟨(),(som<|ifF Y hcm).symm,⟨q.k<|s5 z z z z z,bup sc a3⟩⟩)
 .rintro _ _ _ ⟨am,aS⟩;refine Wu ?_ am;refine Ws<|Rl z z z<|Wn<|Wq<|Wc z (λhc=>(a_o hc).elim) (λ_=>?_)
  exact We<|λ_ q=>⟨rfl,⟨q.k<|s1 z,aS⟩⟩
 .rintro _ aT _ rfl ⟨_,aU⟩;have an:=elL hms;revert aT;refine Wo<|Wm z<|R z (a_b z z)<|Rw z ?_
  obtain rfl:=som an;exact Wr<|i_ hr z ⟨bup (bup (bup (bup (bup h4 h3) s7) s8) sb) aU,z⟩
 rintro _ _ _ _ rfl ⟨rfl,ao⟩;have ap:=elR hms;obtain rfl:=som ap;exact ⟨ao,z⟩
theorem W_w2d {x1:g_}{x2:d_}{res:Bool}(hm:h_a n x1 x2=some res)(L:B<=w0.z)(a7:repS w0 B (sl A0 N0 C0) x1.rules)(a3:x2.name.b.length<=LEN)(a4:inI x2.kind)(V:inI x2.size)(W:repS w0 B (sl A3 N3 C3) x2.bytes)(a5:repS w0 B (sl A4 N4 C4) x2.names)(a6:repS w0 B (sl A2 N2 C2) x2.tags)(Y:repS w0 B (sl A5 N5 C5) x2.kids):q_ prog 131 [(.agg #[sl A0 N0 C0]),(.agg #[Str.v x2.name,vI x2.kind,vI x2.size,vB x2.little,sl A3 N3 C3,sl A4 N4 C4,sl A2 N2 C2,sl A5 N5 C5])] w0 (Q0 w0 B res):=by
 unfold h_a at hm
 refine goG func131 z z z λfn hr=>Ws<|E z (fb z) ?_
 rintro _ ww ⟨rfl,aJ⟩;have h1:=aJ.below;have hx:Blk ww w0.z [sl A0 N0 C0]:=aJ.blk;refine E z (fb z) ?_;rintro _ J ⟨rfl,aK⟩;have G:=aK.below;have h6:Blk J ww.z (vR x2 A3 N3 C3 A4 N4 C4 A2 N2 C2 A5 N5 C5):=aK.blk;refine Rw z<|Wq<|Ws<|Rf z a_V z<|R z (l0 g_3 z<|h6.at z)<|Wn<|Wb<|Ws<|Rq z z z<|Rw z<|Wc z (λhcy=>?_) (λhcy=>?_)
 .refine Wq ?_;obtain ⟨bp,b1,b2⟩:=bdS<|ifT hm hcy;refine Wt (λa w=>∃(xz:Bool),xz=bp/\Sat 102 [(4,vB xz)] a/\Below J.z J w) ?_ ?_
  .refine Wg<|R z (lN (vs:=vR x2 A3 N3 C3 A4 N4 C4 A2 N2 C2 A5 N5 C5) R_ t_ z z fid<|h6.row 0 8 z) ?_
   have hq:=(h1.ag B).e G;have aL:=lt_ h1.s G.s;obtain ⟨bq,bt,ap⟩:=bdS b1;refine E z (fc call137 z<|d_n bt (zt' L aL) a3 a4 V (W.g hq) (a5.g hq) (a6.g hq) (Y.g hq)<|ii z) ?_;rintro _ _ ⟨se,rfl⟩;refine Rm z ?_
   rcases bs bq with hca | hca
   .refine Rh z hca (fd a_W z) ?_;have aM:=h6.e se;refine Rh z hca (l0 g_3 z<|aM.at z) ?_;obtain ⟨bu,bv,aq⟩:=bdS<|ifT ap hca;refine Eg z z hca z (fc call122 z<|d_S bv (zt' L<|lt_ aL se.s) V (ii z)<|ii z) ?_;rintro _ _ ⟨sr,rfl⟩;refine R z (pT z hca z)<|Rm z ?_
    rcases bs bu with O | O
    .have ar:=ifT aq O;refine Rh z O (fd c_2 z) ?_;have aN:=aM.e sr;refine Rh z O (l0 g_4 z<|aN.at z)<|Rh z O (not_ z)<|Rh z O (mv z) ?_
     rcases bs (!x2.little) with hcb | hcb
     .iterate 3 refine Nh z hcb ?_
      exact Rh z O (pT z hcb z)<|R z (pT z O z)<|Ra z<|Wl (λ_ q=>⟨true,som<|ifT ar hcb,q.k<|s1 z,bup se sr⟩)
     exact Rh z hcb (fd a_W z)<|Rh z hcb (l0 g_3 z<|aN.at z)<|Rh z hcb (a_b z z)<|Rh z O (pF z hcb z)<|R z (pT z O z)<|Ra z<|Wl (λ_ q=>⟨decide<|1<x2.size,som<|ifF ar hcb,q.k<|s1 z,bup se sr⟩)
    iterate 4 refine Nh z O ?_
    exact Nv z<|Nv z<|Nv z<|Nh z O<|R z (pF z O z)<|Ra z<|Wl (λ_ q=>⟨false,som<|ifF aq O,q.k<|s1 z,bup se sr⟩)
   iterate 3 refine Nh z hca ?_
   exact R z (pF z hca z)<|Rm z<|Nh z z<|Nh z z<|Nh z z<|Nh z z<|Nv z<|Nv z<|Nv z<|Nh z z<|R z (pF z z z)<|Ra z<|Wl (λ_ q=>⟨false,som<|ifF ap hca,q.k<|s1 z,se⟩)
  rintro bw _ ⟨xz,rfl,_,bx⟩;revert bw;refine Wo ?_;obtain rfl:=som b2;exact Wr<|rtO<|i_ hr z ⟨bup (bup h1 G) bx,z⟩
 have au:=ifF hm hcy;refine Ws<|Rq z z z<|Rw z<|Wc z (λa8=>?_) (λa8=>?_)
 .refine Wq ?_;obtain ⟨bz,b3,b4⟩:=bdS<|ifT au a8;refine Wt (λa w=>∃(aj:Bool),aj=bz/\Sat 102 [(4,vB aj)] a/\Below J.z J w) ?_ ?_
  .refine Wg<|R z (lN (vs:=vR x2 A3 N3 C3 A4 N4 C4 A2 N2 C2 A5 N5 C5) R_ t_ z z fid<|h6.row 0 8 z) ?_
   have hj:=(h1.ag B).e G;have aO:=lt_ h1.s G.s;obtain ⟨bA,bB,av⟩:=bdS b3;refine E z (fc call137 z<|d_n bB (zt' L aO) a3 a4 V (W.g hj) (a5.g hj) (a6.g hj) (Y.g hj)<|ii z) ?_;rintro _ _ ⟨sk,rfl⟩;refine Rm z ?_
   rcases bs bA with a1 | a1
   .refine Rh z a1 (fd a_N z)<|Rh z a1 (l0 U_ z<|(h6.e sk).at z) ?_
    have aP:=W.g<|hj.e sk
    refine Rh z a1 (lnR s_ z aP) ?_;obtain ⟨bC,bD,b5⟩:=bdS<|ifT av a1;refine Eg z z a1 z (fc call122 z<|d_S bD (zt' L<|lt_ aO sk.s) (b_2<|repS.len aP) (ii z)<|ii z) ?_;rintro _ _ ⟨bE,rfl⟩;exact R z (pT z a1 z)<|Ra z<|Wl (λ_ q=>⟨bC,som b5,q.k<|s1 z,bup sk bE⟩)
   iterate 4 refine Nh z a1 ?_
   exact R z (pF z a1 z)<|Ra z<|Wl (λ_ q=>⟨false,som<|ifF av a1,q.k<|s1 z,sk⟩)
  rintro bF _ ⟨aj,rfl,_,bG⟩;revert bF;refine Wo ?_;obtain rfl:=som b4;exact Wr<|rtO<|i_ hr z ⟨bup (bup h1 G) bG,z⟩
 have aw:=ifF au a8;refine Ws<|Rq z z z<|Rw z<|Wc z (λa9=>?_) (λa9=>?_)
 .refine Wq ?_;obtain ⟨bH,b6,b7⟩:=bdS<|ifT aw a9;refine Wt (λa w=>∃(ak:Bool),ak=bH/\Sat 102 [(4,vB ak)] a/\Below J.z J w) ?_ ?_
  .refine Wg<|R z (lN (vs:=vR x2 A3 N3 C3 A4 N4 C4 A2 N2 C2 A5 N5 C5) R_ t_ z z fid<|h6.row 0 8 z) ?_
   have ht:=(h1.ag B).e G;have aQ:=lt_ h1.s G.s;obtain ⟨bI,bJ,ax⟩:=bdS b6;refine E z (fc call137 z<|d_n bJ (zt' L aQ) a3 a4 V (W.g ht) (a5.g ht) (a6.g ht) (Y.g ht)<|ii z) ?_;rintro _ _ ⟨ss,rfl⟩;refine Rm z ?_
   rcases bs bI with hcc | hcc
   .refine Rh z hcc (fd a_W z)<|Rh z hcc (l0 g_3 z<|(h6.e ss).at z) ?_
    obtain ⟨bK,bL,b8⟩:=bdS<|ifT ax hcc;refine Eg z z hcc z (fc call122 z<|d_S bL (zt' L<|lt_ aQ ss.s) V (ii z)<|ii z) ?_;rintro _ _ ⟨bM,rfl⟩;exact R z (pT z hcc z)<|Ra z<|Wl (λ_ q=>⟨bK,som b8,q.k<|s1 z,bup ss bM⟩)
   iterate 3 refine Nh z hcc ?_
   exact R z (pF z hcc z)<|Ra z<|Wl (λ_ q=>⟨false,som<|ifF ax hcc,q.k<|s1 z,ss⟩)
  rintro bN _ ⟨ak,rfl,_,bO⟩;revert bN;refine Wo ?_;obtain rfl:=som b7;exact Wr<|rtO<|i_ hr z ⟨bup (bup h1 G) bO,z⟩
 have ay:=ifF aw a9;refine Ws<|Rq z z z<|Rw z<|Wc z (λaa=>?_) (λaa=>?_)
 .refine Wq ?_;obtain ⟨bP,b9,ba⟩:=bdS<|ifT ay aa;refine Wt (λa w=>∃(al:Bool),al=bP/\Sat 102 [(4,vB al)] a/\Below J.z J w) ?_ ?_
  .refine Wd (X:=noX) 0 (pl_ 12 [1,8]) mo (by kernel_rfl) λcv sf _=>?_
   have aR:=h6.e sf;refine dR z z (lN (vs:=vR x2 A3 N3 C3 A4 N4 C4 A2 N2 C2 A5 N5 C5) R_ t_ z z fid<|aR.row 0 8 z) ?_;have hl:=((h1.ag B).e G).e sf;have aS:=lt_ (lt_ h1.s G.s) sf.s;obtain ⟨bQ,bR,az⟩:=bdS b9;refine dE z z (fc call137 z<|d_n bR (zt' L aS) a3 a4 V (W.g hl) (a5.g hl) (a6.g hl) (Y.g hl)<|ii z) (.inr λ_ _ h=>x_<|h.1) ?_;rintro _ _ ⟨sg,rfl⟩;refine dM z z z ?_
   rcases bs bQ with H | H
   .refine dRg z z z H z (lN (vs:=[sl A0 N0 C0]) B_ w_ z z fid<|(((hx.e G).e sf).e sg).row 0 1 z)<|dRg z z z H z (fd M_ z)<|dRg z z z H z (l0 C_ z<|(aR.e sg).at z) ?_
    obtain ⟨_,bS,bb⟩:=bdS<|ifT az H;have aT:=hl.e sg;refine c_l z z z H z (at_ (α:=Int) A_ z_3 z z z (Y.g aT) bS) ?_;rintro _ ⟨_,_,_,rfl,bT,bU,_⟩;obtain ⟨rfl,bV⟩:=W_ bU;refine dRg z z z H z (l0 g_3 z<|bT.at0 z) ?_;obtain ⟨bW,bX,bc⟩:=bdS bb;refine dEg z z z H z (fc call138 z<|j_D bX (zt' L<|lt_ aS sg.s) (a7.g aT) bV) (.inr λ_ _ h=>x_<|h.1) ?_;rintro _ _ ⟨bY,rfl,_⟩;exact dRg z z z H z (a_b z z)<|dR z z (pT z H z)<|dQ z z z<|pD (λ_ q=>⟨decide<|0<bW,som bc,q.k<|s1 z,bup (bup sf sg) bY⟩)
   iterate 5 refine dRn z z z H z ?_
   exact dEn z z z H z<|dRn z z z H z<|dR z z (pF z H z)<|dQ z z z<|pD (λ_ q=>⟨false,som<|ifF az H,q.k<|s1 z,bup sf sg⟩)
  rintro bZ _ ⟨al,rfl,_,c0⟩;revert bZ;refine Wo ?_;obtain rfl:=som ba;exact Wr<|rtO<|i_ hr z ⟨bup (bup h1 G) c0,z⟩
 have aA:=ifF ay aa;refine Ws<|Rq z z z<|Rw z<|Wc z (λab=>?_) (λab=>?_)
 .refine Wq ?_;obtain ⟨c1,be,bf⟩:=bdS<|ifT aA ab;refine Wt (λa w=>∃(am:Bool),am=c1/\Sat 102 [(4,vB am)] a/\Below J.z J w) ?_ ?_
  .refine Wd (X:=noX) 0 (pl_ 12 [1,8]) mo (by kernel_rfl) λcw sh _=>?_
   have aU:=h6.e sh;refine dR z z (lN (vs:=vR x2 A3 N3 C3 A4 N4 C4 A2 N2 C2 A5 N5 C5) R_ t_ z z fid<|aU.row 0 8 z) ?_;have hn:=((h1.ag B).e G).e sh;have aV:=lt_ (lt_ h1.s G.s) sh.s;obtain ⟨c2,c3,aB⟩:=bdS be;refine dE z z (fc call137 z<|d_n c3 (zt' L aV) a3 a4 V (W.g hn) (a5.g hn) (a6.g hn) (Y.g hn)<|ii z) (.inr λ_ _ h=>x_<|h.1) ?_;rintro _ _ ⟨si,rfl⟩;refine dM z z z ?_
   rcases bs c2 with I | I
   .refine dRg z z z I z (lN (vs:=[sl A0 N0 C0]) B_ w_ z z fid<|(((hx.e G).e sh).e si).row 0 1 z)<|dRg z z z I z (fd M_ z)<|dRg z z z I z (l0 C_ z<|(aU.e si).at z) ?_
    obtain ⟨_,c4,bg⟩:=bdS<|ifT aB I;have aW:=hn.e si;refine c_l z z z I z (at_ (α:=Int) A_ z_3 z z z (Y.g aW) c4) ?_;rintro _ ⟨_,_,_,rfl,c5,c6,_⟩;obtain ⟨rfl,c7⟩:=W_ c6;refine dRg z z z I z (l0 g_3 z<|c5.at0 z) ?_;obtain ⟨c8,c9,bh⟩:=bdS bg;refine dEg z z z I z (fc call138 z<|j_D c9 (zt' L<|lt_ aV si.s) (a7.g aW) c7) (.inr λ_ _ h=>x_<|h.1) ?_;rintro _ _ ⟨ca,rfl,_⟩;exact dRg z z z I z (a_b z z)<|dR z z (pT z I z)<|dQ z z z<|pD (λ_ q=>⟨decide<|0<c8,som bh,q.k<|s1 z,bup (bup sh si) ca⟩)
   iterate 5 refine dRn z z z I z ?_
   exact dEn z z z I z<|dRn z z z I z<|dR z z (pF z I z)<|dQ z z z<|pD (λ_ q=>⟨false,som<|ifF aB I,q.k<|s1 z,bup sh si⟩)
  rintro cb _ ⟨am,rfl,_,cc⟩;revert cb;refine Wo ?_;obtain rfl:=som bf;exact Wr<|rtO<|i_ hr z ⟨bup (bup h1 G) cc,z⟩
 have aC:=ifF aA ab;refine Ws<|Rq z z z<|Rw z<|Wc z (λad=>?_) (λad=>?_)
 .refine Ws<|R z (lN (vs:=vR x2 A3 N3 C3 A4 N4 C4 A2 N2 C2 A5 N5 C5) R_ t_ z z fid<|h6.row 0 8 z) ?_
  have hu:=(h1.ag B).e G;obtain ⟨_,cd,bi⟩:=bdS<|ifT aC ad;refine E z (fc call139 z<|W_w2b cd (zt' L<|lt_ h1.s G.s) a3 a4 V (W.g hu) (a5.g hu) (a6.g hu)<|Y.g hu) ?_;rintro _ _ ⟨ce,rfl⟩;refine Rw z ?_
  obtain rfl:=som bi;exact Wr<|rtO<|i_ hr z ⟨bup (bup h1 G) ce,z⟩
 have aD:=ifF aC ad;refine Ws<|Rq z z z<|Rw z<|Wc z (λae=>?_) (λae=>?_)
 .refine Ws<|R z (lN (vs:=[sl A0 N0 C0]) B_ w_ z z fid<|(hx.e G).row 0 1 z)<|R z (lN (vs:=vR x2 A3 N3 C3 A4 N4 C4 A2 N2 C2 A5 N5 C5) R_ t_ z z fid<|h6.row 0 8 z) ?_
  have ho:=(h1.ag B).e G;obtain ⟨_,cf,bj⟩:=bdS<|ifT aD ae;refine E z (fc call140 z<|W_w2c cf (zt' L<|lt_ h1.s G.s) (a7.g ho) a3 a4 V (W.g ho) (a5.g ho) (a6.g ho)<|Y.g ho) ?_;rintro _ _ ⟨cg,rfl⟩;refine Rw z ?_
  obtain rfl:=som bj;exact Wr<|rtO<|i_ hr z ⟨bup (bup h1 G) cg,z⟩
 refine Wq<|Ws<|Rq z z z<|Rw z ?_
 obtain ⟨ch,aE,aF⟩:=bdS<|ifF aD ae;refine Wt (λa w=>∃(an:Bool),an=ch/\Sat 102 [(3,pt ww.z),(6,vI x2.kind),(80,vB an)] a/\Below J.z J w) ?_ ?_
 .refine Wc z (λaf=>?_)<|λaf=>?_
  .exact a_c<|λ_ q=>⟨x2.kind==8,som<|ifT aE af,q.k<|s3 z z z,br J⟩
  exact Wg<|Rq z z z<|Ra z<|Wl (λ_ q=>⟨x2.kind==9,som<|ifF aE af,q.k<|s3 z z z,br J⟩)
 rintro ci aX ⟨an,rfl,_,sd⟩;revert ci;refine Wo<|Wc z (λah=>?_) (λah=>?_)
 .refine Ws<|R z (lN (vs:=vR x2 A3 N3 C3 A4 N4 C4 A2 N2 C2 A5 N5 C5) R_ t_ z z fid<|(h6.e sd).row 0 8 z) ?_
  have hv:=((h1.ag B).e G).e sd;obtain ⟨_,cj,bk⟩:=bdS<|ifT aF ah;refine E z (fc call137 z<|d_n cj (zt' L<|lt_ (lt_ h1.s G.s) sd.s) a3 a4 V (W.g hv) (a5.g hv) (a6.g hv) (Y.g hv)<|ii z) ?_;rintro _ _ ⟨ck,rfl⟩;refine Rw z ?_
  obtain rfl:=som bk;exact Wr<|rtO<|i_ hr z ⟨bup (bup (bup h1 G) sd) ck,z⟩
 have aG:=ifF aF ah;refine Ws<|Rq z z z<|Rw z<|Wc z (λai=>?_) (λai=>?_)
 .refine Wq ?_;obtain ⟨cl,bm,bn⟩:=bdS<|ifT aG ai;refine Wt (λa w=>∃(ao:Bool),ao=cl/\Sat 102 [(4,vB ao)] a/\Below aX.z aX w) ?_ ?_
  .refine Wg ?_;have aY:=h6.e sd;refine R z (lN (vs:=vR x2 A3 N3 C3 A4 N4 C4 A2 N2 C2 A5 N5 C5) R_ t_ z z fid<|aY.row 0 8 z) ?_;have hp:=((h1.ag B).e G).e sd;obtain ⟨cm,cn,aH⟩:=bdS bm;refine E z (fc call137 z<|d_n cn (zt' L<|lt_ (lt_ h1.s G.s) sd.s) a3 a4 V (W.g hp) (a5.g hp) (a6.g hp) (Y.g hp)<|ii z) ?_;rintro _ _ ⟨sm,rfl⟩;refine Rm z ?_
   rcases bs cm with a2 | a2
   .have aI:=ifT aH a2;refine Rh z a2 (fd a_N z) ?_;have aZ:=aY.e sm;refine Rh z a2 (l0 U_ z<|aZ.at z) ?_;have b0:=W.g<|hp.e sm
    refine Rh z a2 (lnR s_ z b0)<|Rh z a2 (eql z z)<|R z (pT z a2 z)<|Rm z ?_
    rcases bs ((x2.bytes.length:Int)==1) with a0 | a0
    .refine Rh z a0 (fd a_N z)<|Rh z a0 (l0 U_ z<|aZ.at z) ?_
     obtain ⟨co,cp,bo⟩:=bdS<|ifT aI a0;refine RXg z z a0 z (at_ (α:=UInt8) s_ z_5 z z z b0 cp) ?_;rintro _ ⟨_,_,_,rfl,cq,cr,_⟩;obtain rfl:=u8 cr;exact Rh z a0 (l0 g_5 z<|cq.at0 z)<|Rh z a0 (nq z z)<|R z (pT z a0 z)<|Ra z<|Wl (λ_ q=>⟨(byteI co) != (byteI (92:UInt8)),som bo,q.k<|s1 z,sm⟩)
    iterate 5 refine Nh z a0 ?_
    exact R z (pF z a0 z)<|Ra z<|Wl (λ_ q=>⟨false,som<|ifF aI a0,q.k<|s1 z,sm⟩)
   iterate 4 refine Nh z a2 ?_
   exact R z (pF z a2 z)<|Rm z<|Nh z z<|Nh z z<|Nh z z<|Nh z z<|Nh z z<|R z (pF z z z)<|Ra z<|Wl (λ_ q=>⟨false,som<|ifF aH a2,q.k<|s1 z,sm⟩)
  rintro ct _ ⟨ao,rfl,_,cu⟩;revert ct;refine Wo ?_;obtain rfl:=som bn;exact Wr<|rtO<|i_ hr z ⟨bup (bup (bup h1 G) sd) cu,z⟩
 refine Wk<|Ws<|Rw z ?_
 obtain rfl:=som<|ifF aG ai;exact Wr<|i_ hr z ⟨bup (bup h1 G) sd,z⟩
theorem W_w2e {x1:g_}{x2:Int}{res:Bool}(hm:h_b n x1 x2=some res)(V:B<=w0.z)(O:repS w0 B (sl A0 N0 C0) x1.rules)(aU:inI x2):q_ prog 123 [(.agg #[sl A0 N0 C0]),vI x2] w0 (Q0 w0 B res):=by
 unfold h_b at hm
 refine goG func123 z z z λfn hr=>Ws<|E z (fb z) ?_
 rintro _ bf ⟨rfl,am⟩;have h2:=am.below;have ho:Blk bf w0.z [sl A0 N0 C0]:=am.blk;refine Rw z<|Wq<|Ws<|R z (lN (vs:=[sl A0 N0 C0]) B_ w_ z z fid<|ho.row 0 1 z)<|Rm z ?_
 obtain ⟨_,bg,a8⟩:=bdS hm;refine E z (fc call93 z<|j_B bg (zt' V h2.s) (O.e h2) aU) ?_;rintro _ J ⟨s5,rfl⟩;refine R z (not_ z)<|Wx z (λhcp=>?_) (λhcp=>?_)
 .refine Ws<|Rw z ?_
  obtain rfl:=som<|ifT a8 hcp;exact Wr<|i_ hr z ⟨bup h2 s5,z⟩
 refine Wk<|Ws<|Rf z T_ z ?_
 have an:=ho.e s5;refine R z (l0 V_ z<|an.at z)<|Rm z ?_
 obtain ⟨L,bh,aV⟩:=bdS<|ifF a8 hcp;have ao:=(h2.ag B).e s5;refine RX z (at_ (α:=d_) N_ t_ z z z (O.g ao) bh) ?_;rintro _ ⟨_,_,_,rfl,bi,bj,_⟩;obtain ⟨aq,nr,cs,au,nt,cv,aw,nx,cy,ae,nf,cg,rfl,ap,bk,bm,bn,bo,bp,hj⟩:=a_T bj;refine R z (lN (vs:=vR L aq nr cs au nt cv aw nx cy ae nf cg) R_ t_ z z fid bi)<|E z (fa b_M) ?_
 rintro _ bq ⟨rfl,ar⟩;have h4:=ar.below;have av:Blk bq J.z [(Str.v (⟨[]⟩:Str)),vI 0,vI 0,vB false,sN,sN,sN,sN]:=ar.blk;refine E0 (fs0 (cur':=vR L aq nr cs au nt cv aw nx cy ae nf cg) t_ z z av z z z z) ?_;rintro _ ax ⟨hk,bt⟩;have h3:=bt.one;refine Wn<|Wq<|Wq ?_
 obtain ⟨bu,aW,a9⟩:=bdS aV;refine Wt (λa w=>∃(xz:Bool),xz=bu/\Sat 65 [(1,vI x2),(2,pt w0.z),(5,pt J.z),(31,vB xz)] a/\Below ax.z ax w) ?_ ?_
 .refine Wg<|Rf z d_Q z<|R z (l0 g_9 z<|hk.at z) ?_
  obtain ⟨bv,bw,aa⟩:=bdS aW;refine E z (fc call75 z<|j_C bw (zt' V<|lt_ (lt_ (lt_ h2.s s5.s) h4.s) h3.s) ap) ?_;rintro _ _ ⟨sm,rfl⟩;refine R z (not_ z)<|Rm z ?_
  rcases bs (!bv) with G | G
  .iterate 3 refine Nh z G ?_
   exact Nv z<|Nv z<|Nv z<|Nh z G<|R z (pT z G z)<|Wl (λ_ q=>⟨true,som<|ifT aa G,q.k<|s4 z z z z,sm⟩)
  have ab:=ifF aa G;refine Rh z G (fd c_2 z) ?_;have ay:=hk.e sm;refine Rh z G (l0 g_4 z<|ay.at z)<|Rh z G (mv z) ?_
  rcases bs L.little with H | H
  .exact Rh z H (fd a_V z)<|Rh z H (l0 g_3 z<|ay.at z)<|Rh z H (nq z z)<|Rh z G (pT z H z)<|R z (pF z G z)<|Wl (λ_ q=>⟨L.kind != 1,som<|ifT ab H,q.k<|s4 z z z z,sm⟩)
  iterate 3 refine Nh z H ?_
  exact Rh z G (pF z H z)<|R z (pF z G z)<|Wl (λ_ q=>⟨false,som<|ifF ab H,q.k<|s4 z z z z,sm⟩)
 rintro bx wh ⟨xz,rfl,_,s1⟩;revert bx;refine Wo<|Wc z (λW=>?_) (λW=>?_)
 .refine Ws<|Rw z ?_
  obtain rfl:=som<|ifT a9 W;exact Wr<|i_ hr z ⟨bup (bM (bup (bup h2 s5) h4) h3<|m1<|lt_ h2.s s5.s) s1,z⟩
 refine Wk<|Wq<|Ws<|Rf z T_ z ?_
 have az:=((an.e h4).c h3<|djs<|mm1 ho.lt s5.s).e s1;refine R z (l0 V_ z<|az.at z)<|Rm z ?_
 obtain ⟨bz,bA,aX⟩:=bdS<|ifF a9 W;have hd:=lt_ h2.s s5.s;have aA:∀k∈[J.z],¬B k:=or0 (a_ lr)<|m_<|zt' V hd;have aB:=((ao.e h4).c h3<|c_ aA).e s1;refine RX z (rX N_ t_ z z (O.g aB) z z bA) ?_;rintro _ ⟨bB,bC,bD,rfl,a1⟩;refine R z (lnR N_ z a1)<|Rm z<|Wn ?_
 obtain ⟨_,aY,ad⟩:=bdS aX;refine Wf (σ:=Unit) (ρ:=Bool) (λ(aC:Nat)(_:Unit) a w=>Sat 65 [(1,vI x2),(2,pt w0.z),(5,pt J.z),(35,sl bB bC bD),(36,vI (bz.length:Int)),(37,vI ((aC:Nat):Int))] a/\Below wh.z wh w) (λ(_:Unit) a w=>Sat 65 [(1,vI x2),(2,pt w0.z),(5,pt J.z)] a/\Below wh.z wh w) (rQ prog fn<|Q0 w0 B) aY ?_ ?_ ?_ ?_ ?_
 .exact λ_ q=>⟨q.k<|s6 z z z z z z,br wh⟩
 .rintro aC _ _ bE _ af ⟨aZ,sa⟩ b0;refine Wu ?_ aZ;refine Ws<|Rl z z z<|Wn<|Wq<|Wc z (λ_=>?_) (λhc=>(a_n af hc).elim)
  refine Wk<|Wq<|Wb<|Ws ?_
  obtain ⟨aD,bF,ah⟩:=bdS b0;refine RX z (at_ (α:=d_) N_ t_ z z z (a1.e sa) bF) ?_;rintro _ ⟨_,_,_,rfl,bG,bH,_⟩;obtain ⟨aE,aF,aG,aH,aI,aJ,aK,aL,aM,aN,aO,aP,rfl,_,_,_,_,_,_,_⟩:=a_T bH;refine R z (lN (vs:=vR aD aE aF aG aH aI aJ aK aL aM aN aO aP) R_ t_ z z fid bG)<|E z (fa b_M) ?_
  rintro _ bI ⟨rfl,aQ⟩;have a2:=aQ.below;refine E0 (fs0 (cur':=vR aD aE aF aG aH aI aJ aK aL aM aN aO aP) t_ z z (aQ.blk:Blk bI bE.z [(Str.v (⟨[]⟩:Str)),vI 0,vI 0,vB false,sN,sN,sN,sN]) z z z z) ?_;rintro _ _ ⟨bJ,bK⟩;have a3:=bK.one;refine Wn<|Ws<|Rf z d_Q z<|R z (l0 g_9 z<|bJ.at z)<|Rf z d_Q z<|R z (l0 g_9 z<|((((hk.e s1).e sa).e a2).c a3<|djs<|mm1 av.lt<|lt_ (lt_ h3.s s1.s) sa.s).at z)<|R z (c_a z z)<|Wx z (λY=>?_) (λY=>?_)
  .exact Ws<|Rw z<|Wr<|rtO<|qL (som<|ifT ah Y).symm<|i_ hr z ⟨bM (bup (bup (bup (bM (bup (bup h2 s5) h4) h3<|m1 hd) s1) sa) a2) a3<|m1<|lt_ (lt_ (lt_ (lt_ hd h4.s) h3.s) s1.s) sa.s,z⟩
  exact Wk<|Wg<|R z (inc_ af (lt_ (repS.len a1) X_) z z)<|Rm z<|Wl (λ_ q=>⟨(),(som<|ifF ah Y).symm,⟨q.k<|s6 z z z z z z,bM (bup sa a2) a3<|m1 sa.s⟩⟩)
 .rintro _ _ _ ⟨b1,bL⟩;refine Wu ?_ b1;refine Ws<|Rl z z z<|Wn<|Wq<|Wc z (λhc=>(a_o hc).elim) (λ_=>?_)
  exact We<|λ_ q=>⟨rfl,⟨q.k<|s3 z z z,bL⟩⟩
 .rintro _ bN wi rfl ⟨_,sb⟩;have b2:=elL ad;revert bN;refine Wo<|Wq<|Ws<|Rf z M_ z ?_
  have aR:=(hk.e s1).e sb;refine R z (l0 C_ z<|aR.at z) ?_;have a4:=(((h4.ag B).c h3<|c_ aA).e s1).e sb;refine R z (lnR A_ z<|hj.g a4)<|Rm z<|Wn ?_
  obtain ⟨_,b3,ai⟩:=bdS b2;refine Wf (σ:=Unit) (ρ:=Bool) (λ(a5:Nat)(_:Unit) a w=>Sat 65 [(1,vI x2),(2,pt w0.z),(5,pt J.z),(48,sl ae nf cg),(49,vI (L.kids.length:Int)),(50,vI ((a5:Nat):Int))] a/\Below wi.z wi w) (λ(_:Unit) a w=>Sat 65 [(2,pt w0.z),(5,pt J.z)] a/\Below wi.z wi w) (rQ prog fn<|Q0 w0 B) b3 ?_ ?_ ?_ ?_ ?_
  .exact λ_ q=>⟨q.k<|s6 z z z z z z,br wi⟩
  .rintro a5 _ _ wl _ aj ⟨b4,a6⟩ b5;refine Wu ?_ b4;refine Ws<|Rl z z z<|Wn<|Wq<|Wc z (λ_=>?_) (λhc=>(a_n aj hc).elim)
   refine Wk<|Wq<|Wb<|Ws ?_
   obtain ⟨aS,bO,b6⟩:=bdS b5;refine RX z (at_ (α:=Int) A_ z_3 z z z (hj.g<|a4.e a6) bO) ?_;rintro _ ⟨_,_,_,rfl,bP,bQ,_⟩;obtain ⟨rfl,_⟩:=W_ bQ;refine R z (l0 g_3 z<|bP.at0 z)<|Rw z<|Wq ?_
   obtain ⟨bR,ak,al⟩:=bdS b6;refine Wt (λa w=>∃(a7:Bool),a7=bR/\Sat 65 [(1,vI x2),(2,pt w0.z),(5,pt J.z),(48,sl ae nf cg),(49,vI (L.kids.length:Int)),(50,vI ((a5:Nat):Int)),(60,vB a7)] a/\Below wl.z wl w) ?_ ?_
   .refine Wg<|Rm z<|Rl z z z<|Rm z ?_
    rcases bs (decide<|aS<0) with I | I
    .iterate 3 refine Nh z I ?_
     exact R z (pT z I z)<|Wl (λ_ q=>⟨true,som<|ifT ak I,q.k<|s7 z z z z z z z,br wl⟩)
    exact Rh z I (mv z)<|Rh z I (mv z)<|Rh z I (b_z z z)<|R z (pF z I z)<|Wl (λ_ q=>⟨decide<|x2<=aS,som<|ifF ak I,q.k<|s7 z z z z z z z,br wl⟩)
   rintro bS _ ⟨a7,rfl,_,aT⟩;revert bS;refine Wo<|Wc z (λa0=>?_) (λa0=>?_)
   .exact Ws<|Rw z<|Wr<|rtO<|qL (som<|ifT al a0).symm<|i_ hr z ⟨bup (bup (bup (bup (bM (bup (bup h2 s5) h4) h3<|m1 hd) s1) sb) a6) aT,z⟩
   exact Wk<|Wg<|R z (inc_ aj (lt_ (repS.len hj) X_) z z)<|Rm z<|Wl (λ_ q=>⟨(),(som<|ifF al a0).symm,⟨q.k<|s6 z z z z z z,bup a6 aT⟩⟩)
  .rintro _ _ _ ⟨b7,bT⟩;refine Wu ?_ b7;refine Ws<|Rl z z z<|Wn<|Wq<|Wc z (λhc=>(a_o hc).elim) (λ_=>?_)
   exact We<|λ_ q=>⟨rfl,⟨q.k<|s2 z z,bT⟩⟩
  .rintro _ bU _ rfl ⟨_,sc⟩;have b8:=elL ai;revert bU;refine Wo<|Ws<|R z (lN (vs:=[sl A0 N0 C0]) B_ w_ z z fid<|((az.e sb).e sc).row 0 1 z)<|R z (lN (vs:=vR L aq nr cs au nt cv aw nx cy ae nf cg) R_ t_ z z fid<|(aR.e sc).row 0 8 z) ?_
   have hn:=a4.e sc;obtain ⟨_,bV,b9⟩:=bdS b8;refine E z (fc call131 z<|W_w2d bV (zt' V<|lt_ (lt_ (lt_ (lt_ (lt_ hd h4.s) h3.s) s1.s) sb.s) sc.s) (O.g<|(aB.e sb).e sc) ap bk bm (bn.g hn) (bo.g hn) (bp.g hn)<|hj.g hn) ?_;rintro _ _ ⟨bW,rfl⟩;refine Rw z ?_
   obtain rfl:=som b9;exact Wr<|i_ hr z ⟨bup (bup (bup (bup (bM (bup (bup h2 s5) h4) h3<|m1 hd) s1) sb) sc) bW,z⟩
  rintro _ _ _ _ rfl ⟨rfl,ba⟩;have bb:=elR ai;obtain rfl:=som bb;exact ⟨ba,z⟩
 rintro _ _ _ _ rfl ⟨rfl,bc⟩;have be:=elR ad;obtain rfl:=som be;exact ⟨bc,z⟩
theorem W_w2f {x1:g_}{res:Bool}(hm:h_c n x1=some res)(V:B<=w0.z)(H:repS w0 B (sl A0 N0 C0) x1.rules):q_ prog 92 [(.agg #[sl A0 N0 C0])] w0 (Q0 w0 B res):=by
 unfold h_c at hm
 refine goG func92 z z z λfn hr=>Ws<|E z (fb z) ?_
 rintro _ wh ⟨rfl,W⟩;have G:=W.below;have Y:Blk wh w0.z [sl A0 N0 C0]:=W.blk;refine Rw z<|Wq<|Ws<|Rf z T_ z<|R z (l0 V_ z<|Y.at z) ?_
 have h9:=H.e G;refine R z (lnR N_ z h9) ?_;obtain ⟨_,ei,hma⟩:=bdS hm;refine E z (fc call122 z<|d_S ei (zt' V G.s) (b_2<|repS.len h9) (ii z)<|ii z) ?_;rintro _ I ⟨s1,rfl⟩;refine R z (not_ z)<|Wx z (λJ=>?_) (λJ=>?_)
 .refine Ws<|Rw z ?_
  obtain rfl:=som<|ifT hma J;exact Wr<|i_ hr z ⟨bup G s1,z⟩
 refine Wk<|Wq<|Ws<|Rf z T_ z ?_
 have hb:=Y.e s1;refine R z (l0 V_ z<|hb.at z) ?_;have hd:=(G.ag B).e s1;refine R z (lnR N_ z<|H.g hd)<|Rm z<|Wn ?_
 obtain ⟨_,huj,hmc⟩:=bdS<|ifF hma J;refine Wf (σ:=Unit) (ρ:=Bool) (λ(ke:Nat)(_:Unit) a w=>Sat 20 [(1,pt w0.z),(11,vI (x1.rules.length:Int)),(12,vI ((ke:Nat):Int))] a/\Below I.z I w) (λ(_:Unit) a w=>Sat 20 [] a/\Below I.z I w) (rQ prog fn<|Q0 w0 B) huj ?_ ?_ ?_ ?_ ?_
 .exact λ_ q=>⟨q.k<|s3 z z z,br I⟩
 .rintro ke _ _ _ _ L ⟨hSk,s4⟩ hml;refine Wu ?_ hSk;refine Ws<|Rl z z z<|Wn<|Wq<|Wc z (λ_=>?_) (λhc=>(a_n L hc).elim)
  refine Wk<|Wq<|Wb<|Wm z<|Rw z<|Ws<|R z (lN (vs:=[sl A0 N0 C0]) B_ w_ z z fid<|(hb.e s4).row 0 1 z)<|Rm z ?_
  obtain ⟨_,em,hmf⟩:=bdS hml;refine E z (fc call123 z<|W_w2e em (zt' V<|lt_ (lt_ G.s s1.s) s4.s) (H.g<|hd.e s4)<|ic (Nat.le_of_lt L)<|lt_ (repS.len H) X_) ?_;rintro _ _ ⟨sg,rfl⟩;refine R z (not_ z)<|Wx z (λO=>?_) (λO=>?_)
  .exact Ws<|Rw z<|Wr<|rtO<|qL (som<|ifT hmf O).symm<|i_ hr z ⟨bup (bup (bup G s1) s4) sg,z⟩
  exact Wk<|Wg<|R z (inc_ L (lt_ (repS.len H) X_) z z)<|Rm z<|Wl (λ_ q=>⟨(),(som<|ifF hmf O).symm,⟨q.k<|s3 z z z,bup s4 sg⟩⟩)
 .rintro _ _ _ ⟨hSn,so⟩;refine Wu ?_ hSn;refine Ws<|Rl z z z<|Wn<|Wq<|Wc z (λhc=>(a_o hc).elim) (λ_=>?_)
  exact We<|λ_ q=>⟨rfl,⟨q.k sn,so⟩⟩
 .rintro _ ap _ rfl ⟨_,sq⟩;have hmr:=elL hmc;revert ap;refine Wo<|Ws<|Rw z ?_
  obtain rfl:=som hmr;exact Wr<|i_ hr z ⟨bup (bup G s1) sq,z⟩
 rintro _ _ _ _ rfl ⟨rfl,hqs⟩;have hmt:=elR hmc;obtain rfl:=som hmt;exact ⟨hqs,z⟩
theorem j_E {x1:g_}{x2:Int}{res:Bool}(hm:e_N n x1 x2=some res)(J:B<=w0.z)(I:repS w0 B (sl A0 N0 C0) x1.rules)(O:inI x2):q_ prog 70 [(.agg #[sl A0 N0 C0]),vI x2] w0 (Q0 w0 B res):=by
 unfold e_N at hm
 refine goG func70 z z z λfn hr=>Ws<|E z (fb z) ?_
 rintro _ H ⟨rfl,h5⟩;have h1:=h5.below;have h6:Blk H w0.z [sl A0 N0 C0]:=h5.blk;refine Rw z<|Wq ?_
 obtain ⟨u8,V,hma⟩:=bdS hm;refine Wt (λa w=>∃(x4:Bool),x4=u8/\Sat 12 [(4,vB x4)] a/\Below H.z H w) ?_ ?_
 .refine Wg<|R z (lN (vs:=[sl A0 N0 C0]) B_ w_ z z fid<|h6.row 0 1 z) ?_
  obtain ⟨rb,ec,L⟩:=bdS V;refine E z (fc call92 z<|W_w2f ec (zt' J h1.s)<|I.e h1) ?_;rintro _ _ ⟨s2,rfl⟩;refine Rm z ?_
  rcases bs rb with G | G
  .refine Rh z G (lN (vs:=[sl A0 N0 C0]) B_ w_ z z fid<|(h6.e s2).row 0 1 z)<|Rh z G (mv z) ?_
   obtain ⟨rd,ee,hmf⟩:=bdS<|ifT L G;refine Eg z z G z (fc call93 z<|j_B ee (zt' J<|lt_ h1.s s2.s) (I.g<|(h1.ag B).e s2) O) ?_;rintro _ _ ⟨sg,rfl⟩;exact R z (pT z G z)<|Ra z<|Wl (λ_ q=>⟨rd,som hmf,q.k<|s1 z,bup s2 sg⟩)
  iterate 3 refine Nh z G ?_
  exact R z (pF z G z)<|Ra z<|Wl (λ_ q=>⟨false,som<|ifF L G,q.k<|s1 z,s2⟩)
 rintro ah _ ⟨x4,rfl,_,si⟩;revert ah;refine Wo ?_;obtain rfl:=som hma;exact Wr<|i_ hr z ⟨bup h1 si,z⟩
def Q16 (w0:World)(B:Zone)(r:P_)(v:Value)(w':World):Prop:=Bw w0 w'/\(λG=>(.agg #[vI G.at_,vI G.code])=v/\inI G.at_/\inI G.code) r
theorem g_o {x1:a_6}{b1 o1:Nat}{x2:Int}{x3:Int}{res:P_}(hm:d_C x1 x2 x3=some res)(a0:B<=w0.z)(V:repS w0 B (sl A0 N0 C0) x1.d.rules)(I:repS w0 B (sl A1 N1 C1) x1.b)(W:inI x1.applied)(hC1:a_1 w0 b1 o1 [sl A0 N0 C0,sl A1 N1 C1,vI x1.applied])(hC1b:B b1)(J:inI x2)(Y:inI x3):q_ prog 96 [(.pointer<|some ⟨b1,o1,none⟩),vI x2,vI x3] w0 (Q16 w0 B res):=by
 unfold d_C at hm
 refine goG func96 z z z λfn hr=>Ws<|E z (fa b_y) ?_
 rintro _ L ⟨rfl,h2⟩;have G:=h2.below;have h3:Blk L w0.z [vI 0,vI 0]:=h2.blk;refine Wn<|Wq<|Wm z<|Rm z<|R z (O_ z)<|Rf z d_j z<|R z (l0 U_ z<|(hC1.e G).at (j:=1) z)<|R z (lnR s_ z<|I.e G)<|Rm z<|R z (sb_ z z)<|R z (a_b z z)<|Wx z (λH=>?_) (λH=>?_)
 .refine Wm z<|R z (bP (parts:=[(0,.tmp 16),(1,.const<|.int .i64 1)]) (cs:=[vI x2,vI 1]) c_1 z z)<|E0 (fs0 (cur':=[vI x2,vI 1]) K_ z z h3 z z z z) ?_
  rintro _ _ ⟨h5,s6⟩;refine Wn ?_;obtain rfl:=som<|ifT hm H;exact Wr<|i_ hr (v_ a_m K_ z h5 z) ⟨bM G s6.one<|a_ lr,z,J,ii z⟩
 refine Wk<|Wm z<|Rm z<|R z (add_ z z)<|R z (bP (parts:=[(0,.tmp 20),(1,.const<|.int .i64 0)]) (cs:=[vI (j_ x2 x3),vI 0]) c_1 z z)<|E0 (fs0 (cur':=[vI (j_ x2 x3),vI 0]) K_ z z h3 z z z z) ?_
 rintro _ _ ⟨O,s8⟩;refine Wn ?_;obtain rfl:=som<|ifF hm H;exact Wr<|i_ hr (v_ a_m K_ z O z) ⟨bM G s8.one<|a_ lr,z,iA _ _,ii z⟩
theorem g_p {x1:Bt}{x2:Bool}{res:Int}(hm:d_D x1 x2=some res)(W:B<=w0.z)(G:repS w0 B (sl A0 N0 C0) x1):q_ prog 58 [sl A0 N0 C0,vB x2] w0 (Q9 w0 B res):=by
 unfold d_D at hm
 refine goG func58 z z z λfn hr=>Ws<|Rw z<|Wq<|Wm z<|R z (lnR s_ z G)<|R z (a_b z z)<|Wx z (λI=>?_) (λI=>?_)
 .refine Ws<|Rw z ?_
  obtain rfl:=som<|ifT hm I;exact Wr<|i_ hr z ⟨br w0,z,ii z⟩
 refine Wk<|Ws<|Rw z<|Wq<|Wm z<|R z (lnR s_ z G)<|Rm z<|Wn ?_
 obtain ⟨_,huc,L⟩:=bdS<|ifF hm I;refine Wf (σ:=Int) (ρ:=Int) (λ(k5:Nat)(x0:Int) a w=>Sat 38 [(0,sl A0 N0 C0),(1,vB x2),(5,vI x0),(11,vI (x1.length:Int)),(12,vI ((k5:Nat):Int))] a/\Below w0.z w0 w/\inI x0) (λ(x0:Int) a w=>Sat 38 [(5,vI x0)] a/\Below w0.z w0 w/\inI x0) (rQ prog fn<|Q9 w0 B) huc ?_ ?_ ?_ ?_ ?_
 .exact λ_ q=>⟨q.k<|s5 z z z z z,br w0,ii z⟩
 .rintro k5 x0 _ H _ O ⟨hSd,s6,h2⟩ hme;refine Wu ?_ hSd;refine Ws<|Rl z z z<|Wn<|Wq<|Wc z (λ_=>?_) (λhc=>(a_n O hc).elim)
  refine Wk<|Wq<|Wb<|Wm z<|Rw z<|Wm z<|Wn ?_
  obtain ⟨uf,hua,hmg⟩:=bdS hme;refine Wt (λa w=>∃(x3:Int),x3=uf/\Sat 38 [(0,sl A0 N0 C0),(1,vB x2),(5,vI x3),(11,vI (x1.length:Int)),(12,vI ((k5:Nat):Int))] a/\Below H.z H w/\inI x3) ?_ ?_
  .refine Wc z (λJ=>?_)<|λJ=>?_
   .refine Wg<|Rm z<|R z (i_x z z (by decide))<|RM z z ?_
    have hb:=G.e s6;refine R z (lnR s_ z hb)<|R z (sb_ z z)<|Rm z<|R z (sb_ z z) ?_
    obtain ⟨xh,ei,hmj⟩:=bdS<|ifT hua J;refine RX z (at_ (α:=UInt8) s_ z_5 z z z hb ei) ?_;rintro _ ⟨_,_,_,rfl,hk,hl,_⟩;obtain rfl:=u8 hl;exact R z (l0 g_5 z<|hk.at0 z)<|R z (c_7 d_5 d_3 z)<|R z (rd_or z z)<|Ra z<|Wl (λ_ q=>⟨a_H .i64 (· ||| ·) (b_H .i64 x0 8)<|byteI xh,som hmj,q.k<|s5 z z z z z,br H,g_7 _ _ _⟩)
   refine Wg<|Rm z<|R z (i_x z z (by decide))<|RM z z ?_
   obtain ⟨xm,en,hmo⟩:=bdS<|ifF hua J;refine RX z (at_ (α:=UInt8) s_ z_5 z z z (G.e s6) en) ?_;rintro _ ⟨_,_,_,rfl,hp,hq,_⟩;obtain rfl:=u8 hq;exact R z (l0 g_5 z<|hp.at0 z)<|R z (c_7 d_5 d_3 z)<|R z (rd_or z z)<|Ra z<|Wl (λ_ q=>⟨a_H .i64 (· ||| ·) (b_H .i64 x0 8)<|byteI xm,som hmo,q.k<|s5 z z z z z,br H,g_7 _ _ _⟩)
  rintro ar _ ⟨x3,rfl,_,ss,ht⟩;revert ar;exact Wo<|Wg<|R z (inc_ O (lt_ (repS.len G) X_) z z)<|Rm z<|Wl (λ_ q=>⟨x3,(som hmg).symm,⟨q.k<|s5 z z z z z,bup s6 ss,ht⟩⟩)
 .rintro x0 _ _ ⟨hSu,sv,h2⟩;refine Wu ?_ hSu;refine Ws<|Rl z z z<|Wn<|Wq<|Wc z (λhc=>(a_o hc).elim) (λ_=>?_)
  exact We<|λ_ q=>⟨rfl,⟨q.k<|s1 z,sv,h2⟩⟩
 .rintro x0 aw _ rfl ⟨_,sx,h2⟩;have hmy:=elL L;revert aw;refine Wo<|Wm z<|Rw z ?_
  obtain rfl:=som hmy;exact Wr<|i_ hr z ⟨sx,z,h2⟩
 rintro _ _ _ _ rfl ⟨rfl,hqz⟩;have V:=elR L;obtain rfl:=som V;exact ⟨hqz,z⟩
def Q17 (w0:World)(g1:Nat)(B:Zone)(A0:Option Addr)(N0 C0:Nat)(A1:Option Addr)(N1 C1:Nat)(x1:a_6)(r:Int×P_×Int)(v:Value)(w':World):Prop:=Cg [g1] w0 w'/\un3 (λH G I=>v = .tuple #[vI H,(.agg #[vI G.at_,vI G.code])]/\inI H/\inI G.at_/\inI G.code/\inI I/\Blk w' g1 [sl A0 N0 C0,sl A1 N1 C1,vI I]) r
theorem i_l {x1:a_6}{g1:Nat}{x2:Int}{x3:Int}{res:Int×P_×Int}(hm:e_c x1 x2 x3=some res)(hB1:Blk w0 g1 [sl A0 N0 C0,sl A1 N1 C1,vI x1.applied])(L:B<=w0.z)(hBg:¬B g1)(O:repS w0 B (sl A0 N0 C0) x1.d.rules)(V:repS w0 B (sl A1 N1 C1) x1.b)(aP:inI x1.applied)(aQ:inI x2)(al:inI x3):q_ prog 94 [pt g1,vI x2,vI x3] w0 (Q17 w0 g1 B A0 N0 C0 A1 N1 C1 x1 res):=by
 unfold e_c at hm
 refine goG func94 z z z λfn hr=>Ws<|Ra z<|E z (fa b_y) ?_
 rintro _ wf ⟨rfl,ho⟩;have hb:=ho.below;have I:Blk wf w0.z [vI 0,vI 0]:=ho.blk;refine Wn<|Wm z<|R z (O_ z)<|Rf z i_d z ?_
 have hp:=hB1.e hb;refine R z (l0 g_3 z<|hp.at z)<|R z (add_ z z)<|R z (O_ z)<|Rf z i_d z<|E0 (fs0 (cur':=[sl A0 N0 C0,sl A1 N1 C1,vI<|j_ x1.applied 1]) z_3 z z hp z z z z) ?_
 rintro _ J ⟨hq,ap⟩;have h1:=ap.one;refine Wn<|Wm z<|R z (O_ z)<|Rf z l_b z<|Rf z T_ z<|R z (l0 V_ z<|hq.at z)<|Rm z ?_
 obtain ⟨xr,aq,am⟩:=bdS hm;have ht:=(hb.ag B).c h1<|c_<|a_ hBg
 refine RX z (at_ (α:=d_) N_ t_ z z z (O.g ht) aq) ?_;rintro _ ⟨_,_,_,rfl,ar,av,_⟩;obtain ⟨au,ns,cv,aw,nx,cy,az,Y,a0,a1,a2,a3,rfl,_,_,ax,_,_,_,_⟩:=a_T av;refine R z (lN (vs:=vR xr au ns cv aw nx cy az Y a0 a1 a2 a3) R_ t_ z z fid ar)<|E z (fa b_M) ?_
 rintro _ wg ⟨rfl,a4⟩;have h4:=a4.below;have a5:Blk wg J.z [(Str.v (⟨[]⟩:Str)),vI 0,vI 0,vB false,sN,sN,sN,sN]:=a4.blk;refine E0 (fs0 (cur':=vR xr au ns cv aw nx cy az Y a0 a1 a2 a3) t_ z z a5 z z z z) ?_;rintro _ a6 ⟨a7,ay⟩;have h2:=ay.one;refine Wn<|Wm z<|Rm z<|Rf z a_W z<|R z (l0 g_3 z<|a7.at z) ?_
 have hc:=lt_ hb.s h1.s;have hh:=(hq.e h4).c h2<|djs<|mm1 (Blk.lt hB1) hc
 have hi:=(ht.e h4).c h2<|c_ (or0 (a_ lr) (m_<|zt' L hc):∀k∈[J.z],¬B k)
 have hj:=lt_ (lt_ hc h4.s) h2.s;obtain ⟨H,aA,W⟩:=bdS am;refine E z (fc call96 z<|g_o (B:=w0.z) aA (b_a hj) (repS.mono (O.g hi) L) (repS.mono (V.g hi) L) (iA _ _) (hh.row 0 3 z) (Blk.lt hB1) al ax) ?_;rintro _ wa ⟨G,rfl,a8,a9⟩;refine E z (fa b_y) ?_;rintro _ wk ⟨rfl,aa⟩;have h5:=aa.below;refine E0 (fs0 (cur':=[vI H.at_,vI H.code]) K_ z z (aa.blk:Blk wk wa.z [vI 0,vI 0]) z z z z) ?_;rintro _ ab ⟨hl,aB⟩;have h6:=aB.one;refine Wn<|Wq<|Ws<|Rf z c_U z<|R z (l0 g_3 z<|hl.at z)<|R z (nq z z)<|Wx z (λhcm=>?_) (λhcm=>?_)
 .refine Wq (Wd (X:=noX) 4 (pl_ 3 [2]) mo (by kernel_rfl) λaC sd _=>dR z z (lN (vs:=[vI H.at_,vI H.code]) a_m K_ z z fid<|(hl.e sd).row 0 2 z)<|dQ z z z ?_);have ad:=mmr<|Blk.lt hB1
  refine dE0 z (fs0 (cur':=[vI H.at_,vI H.code]) K_ z z (((((((I.c h1<|atp ad).e h4).c h2<|djs<|mm1 I.lt h1.s).e G).e h5).c h6<|djs<|mm1 I.lt<|lt_ (lt_ (lt_ h1.s h4.s) h2.s) G.s).e sd) z z z z) (.inl z) ?_;rintro _ aD ⟨aE,aF⟩;have ae:=aF.one;refine pD<|Wo ?_
  obtain rfl:=som<|ifT W hcm;have af:=lt_ hj G.s;exact Wr<|a_e hr z (v_ a_m K_ z aE z) ⟨(cM (e_ (cM (e_ (e_ (cM (e_ (cM (e_ (cr [g1] w0) hb:Cg [g1] w0 wf) h1 (io sr):Cg [g1] w0 J) h4:Cg [g1] w0 wg) h2 (mor hc:∀k∈[J.z],k∈[g1]∨w0.z<=k):Cg [g1] w0 a6) G:Cg [g1] w0 wa) h5:Cg [g1] w0 wk) h6 (mor af:∀k∈[wa.z],k∈[g1]∨w0.z<=k):Cg [g1] w0 ab) sd:Cg [g1] w0 aC) ae (mor lr:∀k∈[w0.z],k∈[g1]∨w0.z<=k):Cg [g1] w0 aD),z,ii z,a8,a9,iA _ _,((((hh.e G).e h5).c h6<|djs<|mm1 (Blk.lt hB1) af).e sd).c ae<|djs ad⟩
 refine Wk<|Wq (Wd (X:=noX) 8192 (.rd 0<|.rd 1<|.rd 2<|.rd 3<|.rd 4<|.rd 5<|.rd 6<|.rd 7<|.rd 8<|.rd 9<|.rd 11<|.ef 10<|.rd 12<|.ef 13 .done) mo (by kernel_rfl) λaG s7 _=>dM z z z<|dR z z (O_ z)<|dR z z (fd d_j z) ?_)
 have he:=lt_ hj G.s;have ah:=(((hh.e G).e h5).c h6<|djs<|mm1 (Blk.lt hB1) he).e s7;refine dR z z (l0 U_ z<|ah.at z)<|dM z z z<|dR z z (fd c_B z) ?_
 have ai:=hl.e s7;refine dR z z (l0 g_3 z<|ai.at z) ?_;obtain ⟨_,aH,an⟩:=bdS<|ifF W hcm;refine dRX z z (rX s_ z_5 z z (V.g<|(((hi.e G).e h5).c h6<|c_ (or0 (a_ lr) (m_<|zt' L he):∀k∈[wa.z],¬B k)).e s7) z z aH) ?_;rintro _ ⟨_,_,_,rfl,aI⟩;refine dR z z (fd c_2 z)<|dR z z (l0 g_4 z<|((((a7.e G).e h5).c h6<|djs<|mm1 a5.lt<|lt_ h2.s G.s).e s7).at z)<|dR z z (lN (vs:=[vI H.at_,vI H.code]) a_m K_ z z fid<|ai.row 0 2 z) ?_
 obtain ⟨_,aJ,ao⟩:=bdS an;refine dE z z (fc call58 z<|g_p aJ (zt' L<|lt_ (lt_ (lt_ he h5.s) h6.s) s7.s) aI) (.inr λ_ _ h=>x_<|h.1) ?_;rintro _ aK ⟨sn,rfl,aL⟩;refine dQ z z z ?_;have aj:=mmr<|Blk.lt hB1
 refine dE0 z (fs0 (cur':=[vI H.at_,vI H.code]) K_ z z ((((((((I.c h1<|atp aj).e h4).c h2<|djs<|mm1 I.lt h1.s).e G).e h5).c h6<|djs<|mm1 I.lt<|lt_ (lt_ (lt_ h1.s h4.s) h2.s) G.s).e s7).e sn) z z z z) (.inl z) ?_;rintro _ aM ⟨aN,aO⟩;have ak:=aO.one;refine pD<|Wo ?_
 obtain rfl:=som ao;exact Wr<|a_e hr z (v_ a_m K_ z aN z) ⟨(cM (e_ (e_ (cM (e_ (e_ (cM (e_ (cM (e_ (cr [g1] w0) hb:Cg [g1] w0 wf) h1 (io sr):Cg [g1] w0 J) h4:Cg [g1] w0 wg) h2 (mor hc:∀k∈[J.z],k∈[g1]∨w0.z<=k):Cg [g1] w0 a6) G:Cg [g1] w0 wa) h5:Cg [g1] w0 wk) h6 (mor he:∀k∈[wa.z],k∈[g1]∨w0.z<=k):Cg [g1] w0 ab) s7:Cg [g1] w0 aG) sn:Cg [g1] w0 aK) ak (mor lr:∀k∈[w0.z],k∈[g1]∨w0.z<=k):Cg [g1] w0 aM),z,aL,a8,a9,iA _ _,(ah.e sn).c ak<|djs aj⟩
theorem W_w2g {x1:a_6}{b1 o1:Nat}{x2:d_}{x3:Int}{res:P_}(hm:h_d x1 x2 x3=some res)(ah:B<=w0.z)(a7:repS w0 B (sl A0 N0 C0) x1.d.rules)(W:repS w0 B (sl A1 N1 C1) x1.b)(a8:inI x1.applied)(hC1:a_1 w0 b1 o1 [sl A0 N0 C0,sl A1 N1 C1,vI x1.applied])(hC1b:B b1)(a9:x2.name.b.length<=LEN)(aa:inI x2.kind)(ab:inI x2.size)(I:repS w0 B (sl A3 N3 C3) x2.bytes)(ad:repS w0 B (sl A4 N4 C4) x2.names)(ae:repS w0 B (sl A2 N2 C2) x2.tags)(af:repS w0 B (sl A5 N5 C5) x2.kids)(Y:inI x3):q_ prog 95 [(.pointer<|some ⟨b1,o1,none⟩),.agg #[Str.v x2.name,vI x2.kind,vI x2.size,vB x2.little,sl A3 N3 C3,sl A4 N4 C4,sl A2 N2 C2,sl A5 N5 C5],vI x3] w0 (Q16 w0 B res):=by
 unfold h_d at hm
 refine goG func95 z z z λfn hr=>Ws<|E z (fb z) ?_
 rintro _ J ⟨rfl,hb⟩;have G:=hb.below;refine E z (fa b_y) ?_;rintro _ H ⟨rfl,hd⟩;have h3:=hd.below;have O:Blk H J.z [vI 0,vI 0]:=hd.blk;refine Wn<|Wq<|Ws<|Rf z a_N z ?_
 have he:=(hb.blk:Blk J w0.z (vR x2 A3 N3 C3 A4 N4 C4 A2 N2 C2 A5 N5 C5)).e h3;refine R z (l0 U_ z<|he.at z) ?_;have V:=(G.ag B).e h3;refine R z (lnR s_ z<|I.g V)<|Rm z<|Wn ?_
 obtain ⟨_,hum,hmc⟩:=bdS hm;refine Wf (σ:=Unit) (ρ:=P_) (λ(k5:Nat)(_:Unit) a w=>Sat 50 [(0,.pointer<|some ⟨b1,o1,none⟩),(2,vI x3),(4,pt w0.z),(6,pt J.z),(10,sl A3 N3 C3),(11,vI (x2.bytes.length:Int)),(12,vI ((k5:Nat):Int))] a/\Below H.z H w) (λ(_:Unit) a w=>Sat 50 [(2,vI x3),(4,pt w0.z),(6,pt J.z)] a/\Below H.z H w) (rQ prog fn<|Q16 w0 B) hum ?_ ?_ ?_ ?_ ?_
 .exact λ_ q=>⟨q.k<|s7 z z z z z z z,br H⟩
 .rintro k5 _ _ _ _ hkf ⟨hSn,s1⟩ hmo;refine Wu ?_ hSn;refine Ws<|Rl z z z<|Wn<|Wq<|Wc z (λ_=>?_) (λhc=>(a_n hkf hc).elim)
  refine Wk<|Wq<|Wb<|Wm z ?_
  obtain ⟨_,ep,hmg⟩:=bdS hmo;have hh:=V.e s1;refine RX z (at_ (α:=UInt8) s_ z_5 z z z (I.g hh) ep) ?_;rintro _ ⟨_,_,_,rfl,hq,ht,_⟩;obtain rfl:=u8 ht;refine R z (l0 g_5 z<|hq.at0 z)<|Ra z<|Rw z<|Wq<|Wm z<|Rm z<|R z (add_ z z)<|Rm z<|R z (O_ z)<|Rf z d_j z ?_
  have hi:=((hC1.e G).e h3).e s1;refine R z (l0 U_ z<|hi.at (j:=1) z) ?_;have hj:=W.g hh;refine R z (lnR s_ z hj)<|Rq z z z<|Wx z (λL=>?_) (λL=>?_)
  .refine Wm z<|R z (bP (parts:=[(0,.tmp 26),(1,.const<|.int .i64 1)]) (cs:=[vI x3,vI 1]) c_1 z z)<|E0 (fs0 (cur':=[vI x3,vI 1]) K_ z z (O.e s1) z z z z) ?_
   rintro _ _ ⟨hu,sr⟩;exact Wn<|Wr<|rtO<|qL (som<|ifT hmg L).symm<|i_ hr (v_ a_m K_ z hu z) ⟨bM (bup (bup G h3) s1) sr.one<|m1 G.s,z,Y,ii z⟩
  refine Wk<|Wm z<|R z (O_ z)<|Rf z d_j z<|R z (l0 U_ z<|hi.at (j:=1) z)<|RM z z<|R z (add_ z z) ?_
  obtain ⟨_,es,hmk⟩:=bdS<|ifF hmg L;refine RX z (at_ (α:=UInt8) s_ z_5 z z z hj es) ?_;rintro _ ⟨_,_,_,rfl,hv,hw,_⟩;obtain rfl:=u8 hw;refine R z (l0 g_5 z<|hv.at0 z)<|Rm z<|R z (nq z z)<|Wx z (λhca=>?_) (λhca=>?_)
  .refine Wm z<|Rm z<|R z (add_ z z)<|R z (bP (parts:=[(0,.tmp 41),(1,.const<|.int .i64 2)]) (cs:=[(vI<|j_ x3 ((k5:Nat):Int)),vI 2]) c_1 z z)<|E0 (fs0 (cur':=[(vI<|j_ x3 ((k5:Nat):Int)),vI 2]) K_ z z (O.e s1) z z z z) ?_
   rintro _ _ ⟨hx,sy⟩;exact Wn<|Wr<|rtO<|qL (som<|ifT hmk hca).symm<|i_ hr (v_ a_m K_ z hx z) ⟨bM (bup (bup G h3) s1) sy.one<|m1 G.s,z,iA _ _,ii z⟩
  exact Wk<|Wg<|R z (inc_ hkf (lt_ (repS.len I) X_) z z)<|Rm z<|Wl (λ_ q=>⟨(),(som<|ifF hmk hca).symm,⟨q.k<|s7 z z z z z z z,s1⟩⟩)
 .rintro _ _ _ ⟨hSz,a3⟩;refine Wu ?_ hSz;refine Ws<|Rl z z z<|Wn<|Wq<|Wc z (λhc=>(a_o hc).elim) (λ_=>?_)
  exact We<|λ_ q=>⟨rfl,⟨q.k<|s3 z z z,a3⟩⟩
 .rintro _ a4 _ rfl ⟨_,s6⟩;have a0:=elL hmc;revert a4;refine Wo<|Wm z<|Rf z a_N z<|R z (l0 U_ z<|(he.e s6).at z)<|R z (lnR s_ z<|I.g<|V.e s6)<|R z (add_ z z)<|R z (bP (parts:=[(0,.tmp 48),(1,.const<|.int .i64 0)]) (cs:=[(vI<|j_ x3 (x2.bytes.length:Int)),vI 0]) c_1 z z)<|E0 (fs0 (cur':=[(vI<|j_ x3 (x2.bytes.length:Int)),vI 0]) K_ z z (O.e s6) z z z z) ?_
  rintro _ _ ⟨a5,a6⟩;refine Wn ?_;obtain rfl:=som a0;exact Wr<|i_ hr (v_ a_m K_ z a5 z) ⟨bM (bup (bup G h3) s6) a6.one<|m1 G.s,z,iA _ _,ii z⟩
 rintro _ _ _ _ rfl ⟨rfl,a1⟩;have a2:=elR hmc;obtain rfl:=som a2;exact ⟨a1,z⟩
theorem j_F {x1:Bt}{res:Int}(hm:e_d x1=some res)(W:B<=w0.z)(G:repS w0 B (sl A0 N0 C0) x1):q_ prog 21 [sl A0 N0 C0] w0 (Q9 w0 B res):=by
 unfold e_d at hm
 refine goG func21 z z z λfn hr=>Ws<|Rw z<|Ws<|Rw z<|Wq<|Wm z<|R z (lnR s_ z G)<|Rm z<|Wn ?_
 obtain ⟨_,J,H⟩:=bdS hm;refine Wf (σ:=Int) (ρ:=Int) (λ(k3:Nat)(x0:Int) a w=>Sat 19 [(3,vI x0),(6,sl A0 N0 C0),(7,vI (x1.length:Int)),(8,vI ((k3:Nat):Int))] a/\Below w0.z w0 w/\inI x0) (λ(x0:Int) a w=>Sat 19 [(3,vI x0)] a/\Below w0.z w0 w/\inI x0) (rQ prog fn<|Q9 w0 B) J ?_ ?_ ?_ ?_ ?_
 .exact λ_ q=>⟨q.k<|s4 z z z z,br w0,ii z⟩
 .rintro k3 x0 _ _ _ I ⟨L,s5,h1⟩ O;refine Wu ?_ L;refine Ws<|Rl z z z<|Wn<|Wq<|Wc z (λ_=>?_) (λhc=>(a_n I hc).elim)
  refine Wk<|Wq<|Wb<|Ws ?_
  obtain ⟨V,ea,hmb⟩:=bdS O;refine RX z (at_ (α:=UInt8) s_ z_5 z z z (G.e s5) ea) ?_;rintro _ ⟨_,_,_,rfl,hd,he,_⟩;obtain rfl:=u8 he;exact R z (l0 g_5 z<|hd.at0 z)<|Rw z<|Wg<|RM z z<|R z (c_7 d_5 d_3 z)<|R z (add_ z z)<|Rw z<|Wg<|R z (inc_ I (lt_ (repS.len G) X_) z z)<|Rm z<|Wl (λ_ q=>⟨j_ x0<|byteI V,(som hmb).symm,⟨q.k<|s4 z z z z,s5,iA _ _⟩⟩)
 .rintro x0 _ _ ⟨hSc,sf,h1⟩;refine Wu ?_ hSc;refine Ws<|Rl z z z<|Wn<|Wq<|Wc z (λhc=>(a_o hc).elim) (λ_=>?_)
  exact We<|λ_ q=>⟨rfl,⟨q.k<|s1 z,sf,h1⟩⟩
 .rintro x0 ag _ rfl ⟨_,sh,h1⟩;have hmi:=elL H;revert ag;refine Wo<|Wm z<|R z (c_5 z z (by decide))<|Rw z ?_
  obtain rfl:=som hmi;exact Wr<|i_ hr z ⟨sh,z,c_k h1⟩
 rintro _ _ _ _ rfl ⟨rfl,hqj⟩;have hmk:=elR H;obtain rfl:=som hmk;exact ⟨hqj,z⟩
def Q18 (w0:World)(B:Zone)(r:Bt×Int×Bool)(v:Value)(w':World):Prop:=Bw w0 w'/\un3 (λJ G L=>∃a1 H I S1,v = .tuple #[sl a1 H I,vI G,vB L]/\b_ w' S1 (sl a1 H I) J/\inI G/\S1.Nodup/\(∀k∈S1,w0.z<=k)) r
theorem W_w1d {x1:Bt}{x2:Int}{x3:UInt8}{res:Bt×Int×Bool}(hm:f_G n x1 x2 x3=some res)(aq:B<=w0.z)(Y:repS w0 B (sl A0 N0 C0) x1)(a0:inI x2):q_ prog 101 [sl A0 N0 C0,vI x2,vU<|byteI x3] w0 (Q18 w0 B res):=by
 unfold f_G at hm
 refine goG func101 z z z λfn hr=>Ws<|RA z z<|Rw z<|Ws<|E z (f0 (α:=UInt8) H_) ?_
 rintro _ wg ⟨aj,nk,cl,rfl,s8,hv⟩;refine Rw z<|Wq<|Wq ?_
 obtain ⟨ar,huw,hmx⟩:=bdS hm;refine Wt (λa w=>∃(xm:Bool),xm=ar/\Sat 58 [(0,sl A0 N0 C0),(1,vI x2),(2,vU<|byteI x3),(9,sl aj nk cl),(19,vB xm)] a/\Below wg.z wg w) ?_ ?_
 .refine Wg<|Rm z<|Rl z z z<|Rm z ?_
  rcases bs (decide<|x2<0) with I | I
  .iterate 4 refine Nh z I ?_
   exact R z (pT z I z)<|Wl (λ_ q=>⟨true,som<|ifT huw I,q.k<|s5 z z z z z,br wg⟩)
  exact Rh z I (mv z)<|Rh z I (mv z)<|Rh z I (lnR s_ z<|Y.e s8)<|Rh z I (a_b z z)<|R z (pF z I z)<|Wl (λ_ q=>⟨decide<|(x1.length:Int)<x2,som<|ifF huw I,q.k<|s5 z z z z z,br wg⟩)
 rintro au G ⟨xm,rfl,_,s6⟩;revert au;refine Wo<|Wc z (λhcn=>?_) (λhcn=>?_)
 .refine Wm z<|Rm z<|RA z z<|Rw z ?_
  obtain rfl:=som<|ifT hmx hcn;exact Wr<|L_ hr z z z ⟨bup s8 s6,aj,nk,cl,[w0.z],z,hv.e s6,a0,a_p,a_ lr⟩
 refine Wk<|Wq<|Wm z<|Rw z ?_
 obtain ⟨_,ad,hmy⟩:=bdS<|ifF hmx hcn;refine c_0 (σ:=Bt×Int) (ρ:=Bt×Int×Bool) (λs a w=>un2 (λxb V=>∃J L O H,Sat 58 [(0,sl A0 N0 C0),(1,vI x2),(2,vU<|byteI x3),(9,sl J L O),(10,vI V)] a/\Cg [w0.z] G w/\b_ w H (sl J L O) xb/\H.Nodup/\(∀k∈H,k∈[w0.z]∨G.z<=k)/\inI V) s) (λs a w=>un2 (λxb V=>∃J L O H,Sat 58 [(1,vI x2)] a/\Cg [w0.z] G w/\b_ w H (sl J L O) xb/\H.Nodup/\(∀k∈H,k∈[w0.z]∨G.z<=k)/\inI V) s) (rQ prog fn<|Q18 w0 B) ad ?_ ?_ ?_ ?_
 .exact λ_ q=>⟨aj,nk,cl,[w0.z],q.k<|s5 z z z z z,cr [w0.z] G,hv.e s6,a_p,io sr,a0⟩
 .rintro ⟨xb,V⟩ _ W _ ⟨J,L,O,H,ae,sa,hc,hd,he,ho⟩ af;have hmz:=a_A af;refine Wu ?_ ae;refine Wq<|Wm z<|Rm z ?_
  have a6:=((s8.ag B).e s6).c sa<|c_ (or0 (a_ lr) (m_ aq):∀k∈[w0.z],¬B k)
  have hh:=Y.g a6;refine R z (lnR s_ z hh)<|Rl z z z<|Wx z (λhcp=>?_) (λhcp=>?_)
  .refine Wk<|Wq<|Wb<|Wq<|Wm z<|Rm z ?_
   obtain ⟨_,av,a1⟩:=bdS<|ifT hmz hcp;refine RX z (at_ (α:=UInt8) s_ z_5 z z z hh av) ?_;rintro _ ⟨_,_,_,rfl,aw,ax,_⟩;obtain rfl:=u8 ax;refine R z (l0 g_5 z<|aw.at0 z)<|Rm z<|Rq z z z<|Wx z (λhcq=>?_) (λhcq=>?_)
   .refine Wm z<|Rm z<|R z (add_ z z)<|RA z z<|Rw z ?_
    exact Wr<|rtO<|qL (som<|ifT a1 hcq).symm<|L_ hr z z z ⟨bM (bup s8 s6) sa<|a_ lr,J,L,O,H,z,hc,iA _ _,hd,(or1 he (a_ lr) (b_6<|lt_ s8.s s6.s):∀k∈H,w0.z<=k)⟩
   refine Wk<|Wq<|Wm z<|Rm z ?_
   obtain ⟨_,ay,ah⟩:=bdS<|ifF a1 hcq;refine RX z (at_ (α:=UInt8) s_ z_5 z z z hh ay) ?_;rintro _ ⟨_,_,_,rfl,az,aA,_⟩;obtain rfl:=u8 aA;refine R z (l0 g_5 z<|az.at0 z)<|Rq z z z<|Wn ?_
   obtain ⟨aB,a2,a4⟩:=bdS ah;refine Wt (λa w=>∃(xf:Int),Sum.inl xf=aB/\Sat 58 [(0,sl A0 N0 C0),(1,vI x2),(2,vU<|byteI x3),(9,sl J L O),(10,vI xf)] a/\Below W.z W w/\inI xf) ?_ ?_
   .refine Wc z (λhcr=>?_)<|λhcr=>?_
    .have a5:=ifT a2 hcr;refine Wm z<|R z (add_ z z)<|Rw z<|Wm z<|Rm z<|R z (lnR s_ z hh)<|Rq z z z<|Wx z (λhcs=>?_) (λhcs=>?_)
     .obtain rfl:=som<|ifT a5 hcs;have ai:=elR a4;exact We<|exO z (λ_ q=>b_n (som ai).symm ⟨J,L,O,H,q.k<|s1 z,(cM (cr [w0.z] G) sa (io sr):Cg [w0.z] G W),hc,hd,(or1 he (io sr) (o_ lr):∀k∈H,k∈[w0.z]∨G.z<=k),iA _ _⟩)
     exact a_c<|λ_ q=>⟨j_ V 1,som<|ifF a5 hcs,q.k<|s5 z z z z z,br W,iA _ _⟩
    exact a_c<|λ_ q=>⟨V,som<|ifF a2 hcr,q.k<|s5 z z z z z,br W,ho⟩
   rintro aC a7 ⟨xf,rfl,_,si,_⟩;have ak:=elL a4;revert aC;refine Wo<|Wg<|RM z z<|Rm z ?_
   obtain ⟨aD,aE,al⟩:=bdS ak;refine RX z (at_ (α:=UInt8) s_ z_5 z z z (Y.g<|a6.e si) aE) ?_;rintro _ ⟨_,_,_,rfl,aF,aG,_⟩;obtain rfl:=u8 aG;refine R z (l0 g_5 z<|aF.at0 z)<|E z (fS [(.tmp 53)] H_ z z z (S_ z) (lb z)<|lb z) ?_
   rintro _ a8 ⟨rfl,ht⟩;have hu:=ht.below;have aY:=a_d ht a_t;obtain ⟨aH,aI,am⟩:=bdS al;refine E z (a_i (α:=UInt8) H_ aI z z ((hc.e si).e hu) hd (ht.blk:Blk a8 a7.z [vU (byteI aD)]) a_t an_ z_) ?_;rintro _ aJ ⟨a9,aK,aL,aM,rfl,aN,aO,aP,aQ⟩;refine Rw z<|Wg<|Rm z<|R z (add_ z z)<|Ra z<|Wl ?_
   have aa:∀k∈H,k∈[w0.z]∨G.z<=k:=or1 he (io sr)<|o_ lr;exact λ_ q=>⟨(aH,j_ xf 1),(som am).symm,⟨aK,aL,aM,a9,q.k<|s5 z z z z z,(cM (e_ (e_ (cM (cr [w0.z] G) sa (io sr):Cg [w0.z] G W) si:Cg [w0.z] G a7) hu:Cg [w0.z] G a8) aN aa:Cg [w0.z] G aJ),aO,aP,(or2 aQ aa an_ (o_<|lt_ (lt_ sa.s si.s) hu.s):∀k∈a9,k∈[w0.z]∨G.z<=k),iA _ _⟩⟩
  exact We<|λ_ q=>b_n (som<|ifF hmz hcp).symm ⟨J,L,O,H,q.k<|s1 z,(cM (cr [w0.z] G) sa (io sr):Cg [w0.z] G W),hc,hd,(or1 he (io sr) (o_ lr):∀k∈H,k∈[w0.z]∨G.z<=k),ho⟩
 .rintro ⟨xb,V⟩ aR aS rfl ⟨J,L,O,H,_,ab,hc,hd,he,ho⟩;have an:=elL hmy;revert aR;refine Wo<|Ws<|E z (f0 (α:=UInt8) H_) ?_
  rintro _ _ ⟨aT,aU,aV,rfl,aW,aX⟩;refine Rm z<|RA z z<|Rw z ?_
  obtain rfl:=som<|a_A an;exact Wr<|L_ hr z z z ⟨bup (bM (bup s8 s6) ab<|a_ lr) aW,aT,aU,aV,[aS.z],z,aX,a0,a_p,m1<|lt_ (lt_ s8.s s6.s) ab.s⟩
 rintro _ _ _ _ rfl ⟨rfl,ao⟩;have ap:=elR hmy;obtain rfl:=som ap;exact ⟨ao,z⟩
def Q19 (w0:World)(g1:Nat)(B:Zone)(A0:Option Addr)(N0 C0:Nat)(A1:Option Addr)(N1 C1:Nat)(x1:a_6)(r:P_×Int)(v:Value)(w':World):Prop:=Cg [g1] w0 w'/\un2 (λG H=>(.agg #[vI G.at_,vI G.code])=v/\inI G.at_/\inI G.code/\inI H/\Blk w' g1 [sl A0 N0 C0,sl A1 N1 C1,vI H]) r
structure j_G (f:a_6->Int->Int->Option (P_×Int)):Prop where
  run:∀{A0 A1:Option Addr}{N0 C0 N1 C1 g1:Nat}{B:Zone}{x1:a_6}{x2:Int}{x3:Int}{res:P_×Int}{w0:World}(hm:f x1 x2 x3=some res)(hB1:Blk w0 g1 [sl A0 N0 C0,sl A1 N1 C1,vI x1.applied])(hBw:B<=w0.z)(hBg:¬B g1)(p1_0:repS w0 B (sl A0 N0 C0) x1.d.rules)(p1_1:repS w0 B (sl A1 N1 C1) x1.b)(p1_2:inI x1.applied)(p2_0:inI x2)(p3_0:inI x3),q_ prog 71 [pt g1,vI x2,vI x3] w0<|Q19 w0 g1 B A0 N0 C0 A1 N1 C1 x1 res
structure j_H (f:a_6->d_->Int->Option (P_×Int)):Prop where
  run:∀{A0 A1 A3 A4 A2 A5:Option Addr}{N0 C0 N1 C1 g1 N3 C3 N4 C4 N2 C2 N5 C5:Nat}{B:Zone}{x1:a_6}{x2:d_}{x3:Int}{res:P_×Int}{w0:World}(hm:f x1 x2 x3=some res)(hB1:Blk w0 g1 [sl A0 N0 C0,sl A1 N1 C1,vI x1.applied])(hBw:B<=w0.z)(hBg:¬B g1)(p1_0:repS w0 B (sl A0 N0 C0) x1.d.rules)(p1_1:repS w0 B (sl A1 N1 C1) x1.b)(p1_2:inI x1.applied)(p2_0:x2.name.b.length<=LEN)(p2_1:inI x2.kind)(p2_2:inI x2.size)(p2_4:repS w0 B (sl A3 N3 C3) x2.bytes)(p2_5:repS w0 B (sl A4 N4 C4) x2.names)(p2_6:repS w0 B (sl A2 N2 C2) x2.tags)(p2_7:repS w0 B (sl A5 N5 C5) x2.kids)(p3_0:inI x3),q_ prog 97 [pt g1,.agg #[Str.v x2.name,vI x2.kind,vI x2.size,vB x2.little,sl A3 N3 C3,sl A4 N4 C4,sl A2 N2 C2,sl A5 N5 C5],vI x3] w0<|Q19 w0 g1 B A0 N0 C0 A1 N1 C1 x1 res
structure j_I (f:a_6->d_->Int->Option (P_×Int)):Prop where
  run:∀{A0 A1 A3 A4 A2 A5:Option Addr}{N0 C0 N1 C1 g1 N3 C3 N4 C4 N2 C2 N5 C5:Nat}{B:Zone}{x1:a_6}{x2:d_}{x3:Int}{res:P_×Int}{w0:World}(hm:f x1 x2 x3=some res)(hB1:Blk w0 g1 [sl A0 N0 C0,sl A1 N1 C1,vI x1.applied])(hBw:B<=w0.z)(hBg:¬B g1)(p1_0:repS w0 B (sl A0 N0 C0) x1.d.rules)(p1_1:repS w0 B (sl A1 N1 C1) x1.b)(p1_2:inI x1.applied)(p2_0:x2.name.b.length<=LEN)(p2_1:inI x2.kind)(p2_2:inI x2.size)(p2_4:repS w0 B (sl A3 N3 C3) x2.bytes)(p2_5:repS w0 B (sl A4 N4 C4) x2.names)(p2_6:repS w0 B (sl A2 N2 C2) x2.tags)(p2_7:repS w0 B (sl A5 N5 C5) x2.kids)(p3_0:inI x3),q_ prog 98 [pt g1,.agg #[Str.v x2.name,vI x2.kind,vI x2.size,vB x2.little,sl A3 N3 C3,sl A4 N4 C4,sl A2 N2 C2,sl A5 N5 C5],vI x3] w0<|Q19 w0 g1 B A0 N0 C0 A1 N1 C1 x1 res
structure j_J (f:a_6->d_->Int->Option (P_×Int)):Prop where
  run:∀{A0 A1 A3 A4 A2 A5:Option Addr}{N0 C0 N1 C1 g1 N3 C3 N4 C4 N2 C2 N5 C5:Nat}{B:Zone}{x1:a_6}{x2:d_}{x3:Int}{res:P_×Int}{w0:World}(hm:f x1 x2 x3=some res)(hB1:Blk w0 g1 [sl A0 N0 C0,sl A1 N1 C1,vI x1.applied])(hBw:B<=w0.z)(hBg:¬B g1)(p1_0:repS w0 B (sl A0 N0 C0) x1.d.rules)(p1_1:repS w0 B (sl A1 N1 C1) x1.b)(p1_2:inI x1.applied)(p2_0:x2.name.b.length<=LEN)(p2_1:inI x2.kind)(p2_2:inI x2.size)(p2_4:repS w0 B (sl A3 N3 C3) x2.bytes)(p2_5:repS w0 B (sl A4 N4 C4) x2.names)(p2_6:repS w0 B (sl A2 N2 C2) x2.tags)(p2_7:repS w0 B (sl A5 N5 C5) x2.kids)(p3_0:inI x3),q_ prog 99 [pt g1,.agg #[Str.v x2.name,vI x2.kind,vI x2.size,vB x2.little,sl A3 N3 C3,sl A4 N4 C4,sl A2 N2 C2,sl A5 N5 C5],vI x3] w0<|Q19 w0 g1 B A0 N0 C0 A1 N1 C1 x1 res
structure j_K (f:a_6->d_->Int->Option (P_×Int)):Prop where
  run:∀{A0 A1 A3 A4 A2 A5:Option Addr}{N0 C0 N1 C1 g1 N3 C3 N4 C4 N2 C2 N5 C5:Nat}{B:Zone}{x1:a_6}{x2:d_}{x3:Int}{res:P_×Int}{w0:World}(hm:f x1 x2 x3=some res)(hB1:Blk w0 g1 [sl A0 N0 C0,sl A1 N1 C1,vI x1.applied])(hBw:B<=w0.z)(hBg:¬B g1)(p1_0:repS w0 B (sl A0 N0 C0) x1.d.rules)(p1_1:repS w0 B (sl A1 N1 C1) x1.b)(p1_2:inI x1.applied)(p2_0:x2.name.b.length<=LEN)(p2_1:inI x2.kind)(p2_2:inI x2.size)(p2_4:repS w0 B (sl A3 N3 C3) x2.bytes)(p2_5:repS w0 B (sl A4 N4 C4) x2.names)(p2_6:repS w0 B (sl A2 N2 C2) x2.tags)(p2_7:repS w0 B (sl A5 N5 C5) x2.kids)(p3_0:inI x3),q_ prog 100 [pt g1,.agg #[Str.v x2.name,vI x2.kind,vI x2.size,vB x2.little,sl A3 N3 C3,sl A4 N4 C4,sl A2 N2 C2,sl A5 N5 C5],vI x3] w0<|Q19 w0 g1 B A0 N0 C0 A1 N1 C1 x1 res
abbrev f_g (n:Nat):Prop:=j_G (a_G n).impl_checker_value/\j_H (a_G n).impl_checker_array/\j_I (a_G n).impl_checker_choice/\j_J (a_G n).impl_checker_option/\j_K (a_G n).impl_checker_checked
theorem T_w03 (ih:f_g n):j_G (h_e n<|a_G n):=by
 obtain ⟨dN,dO,dP,dS,dT⟩:=ih
 constructor
 intro A0 A1 N0 C0 N1 C1 g1 B x1 x2 x3 res w0 hm hB1 J hBg W Y cT cU a0;unfold h_e at hm
 refine goG func71 z z z λfn hr=>Ws<|E z (fa b_y) ?_
 rintro _ H ⟨rfl,bo⟩;have h1:=bo.below;have h6:Blk H w0.z [vI 0,vI 0]:=bo.blk;refine Wn<|Wm z<|R z (O_ z)<|Rf z l_b z<|Rf z T_ z ?_
 have aL:=hB1.e h1;refine R z (l0 V_ z<|aL.at z)<|Rm z ?_
 obtain ⟨xh,dU,b8⟩:=bdS hm;refine RX z (at_ (α:=d_) N_ t_ z z z (W.e h1) dU) ?_;rintro _ ⟨_,_,_,rfl,dV,dW,_⟩;obtain ⟨ao,np,cq,ar,ns,ct,au,nv,cw,ai,nj,ck,rfl,a7,a8,hz,a1,a9,aa,he⟩:=a_T dW;refine R z (lN (vs:=vR xh ao np cq ar ns ct au nv cw ai nj ck) R_ t_ z z fid dV)<|E z (fa b_M) ?_
 rintro _ O ⟨rfl,bp⟩;have h2:=bp.below;have bq:Blk O H.z [(Str.v (⟨[]⟩:Str)),vI 0,vI 0,vB false,sN,sN,sN,sN]:=bp.blk;refine E0 (fs0 (cur':=vR xh ao np cq ar ns ct au nv cw ai nj ck) t_ z z bq z z z z) ?_;rintro _ V ⟨br,dX⟩;have G:=dX.one;refine Wn<|Wq<|Ws<|Rf z a_V z<|R z (l0 g_3 z<|br.at z)<|Rq z z z<|Wx z (λaz=>?_) (λaz=>?_)
 .refine Wm z<|RM z z ?_
  have bs:=((h1.ag B).e h2).c G<|c_ (or0 (a_ lr) (m_<|zt' J h1.s):∀k∈[H.z],¬B k)
  have bt:=lt_ (lt_ h1.s h2.s) G.s;obtain ⟨_,a2,_,dY,cV⟩:=r_<|ifT b8 az;refine E z (fc call94 z<|i_l (B:=B) dY ((aL.e h2).c G<|djs<|mm1 (Blk.lt hB1) h1.s) (zt' J bt) hBg (W.g bs) (Y.g bs) cT cU a0) ?_;rintro _ aM ⟨aj,rfl,_,dZ,e0,e1,e2⟩;refine Rm z<|Re z z z<|Re z z z<|E z (fa b_y) ?_
  rintro _ bu ⟨rfl,bv⟩;have aN:=bv.below;refine Ra z<|E0 (fs0 (cur':=[vI a2.at_,vI a2.code]) K_ z z (bv.blk:Blk bu aM.z [vI 0,vI 0]) z z z z) ?_
  rintro _ e3 ⟨e4,e5⟩;have aO:=e5.one;refine Wn<|Ws<|R z (lN (vs:=[vI a2.at_,vI a2.code]) a_m K_ z z fid<|e4.row 0 2 z) ?_
  have bw:=mmr<|Blk.lt hB1
  refine E0 (fs0 (cur':=[vI a2.at_,vI a2.code]) K_ z z (((((h6.e h2).c G<|djs<|mmr h6.lt).c aj<|atp bw).e aN).c aO<|djs<|mm1 h6.lt<|lt_ (lt_ h2.s G.s) aj.s) z z z z) ?_;rintro _ e6 ⟨e7,e8⟩;have bx:=e8.one;refine Wn ?_;obtain rfl:=som cV;have bz:=lt_ bt aj.s;exact Wr<|i_ hr (v_ a_m K_ z e7 z) ⟨(cM (cM (e_ (cM (cM (e_ (e_ (cr [g1] w0) h1:Cg [g1] w0 H) h2:Cg [g1] w0 O) G (mor h1.s:∀k∈[H.z],k∈[g1]∨w0.z<=k):Cg [g1] w0 V) aj (io sr):Cg [g1] w0 aM) aN:Cg [g1] w0 bu) aO (mor bz:∀k∈[aM.z],k∈[g1]∨w0.z<=k):Cg [g1] w0 e3) bx (mor lr:∀k∈[w0.z],k∈[g1]∨w0.z<=k):Cg [g1] w0 e6),z,dZ,e0,e1,((e2.e aN).c aO<|djs<|mm1 (Blk.lt hB1) bz).c bx<|djs bw⟩
 have b9:=ifF b8 az;refine Wk<|Wm z<|R z (O_ z)<|Rf z i_d z ?_
 have bA:=mm1 (Blk.lt hB1) h1.s;have bB:=(aL.e h2).c G<|djs bA
 refine R z (l0 g_3 z<|bB.at z)<|R z (add_ z z)<|R z (O_ z)<|Rf z i_d z<|E0 (fs0 (cur':=[sl A0 N0 C0,sl A1 N1 C1,vI<|j_ x1.applied 1]) z_3 z z bB z z z z) ?_
 rintro _ I ⟨ha,e9⟩;have h3:=e9.one;refine Wn<|Wq<|Ws<|Rf z a_V z ?_
 have hb:=br.c h3<|atp bA
 refine R z (l0 g_3 z<|hb.at z)<|Wn<|Wb<|Ws<|Rq z z z<|Rw z<|Wc z (λaA=>?_) (λaA=>?_)
 .refine Wm z<|R z (lN (vs:=vR xh ao np cq ar ns ct au nv cw ai nj ck) R_ t_ z z fid<|hb.row 0 8 z)<|Rm z ?_
  have bC:∀k∈[H.z],¬B k:=or0 (a_ lr)<|m_<|zt' J h1.s;have bD:=(((h1.ag B).e h2).c G<|c_ bC).c h3<|c_<|a_ hBg
  have ak:=((h2.ag B).c G<|c_ bC).c h3<|c_<|a_ hBg
  obtain ⟨bE,ea,cW⟩:=bdS<|ifT b9 aA;refine E z (fc call95 z<|W_w2g (B:=w0.z) ea (b_a<|lt_ (lt_ (lt_ h1.s h2.s) G.s) h3.s) (repS.mono (W.g bD) J) (repS.mono (Y.g bD) J) (iA _ _) (ha.row 0 3 z) (Blk.lt hB1) a7 a8 hz (repS.mono (a1.g ak) J) (repS.mono (a9.g ak) J) (repS.mono (aa.g ak) J) (repS.mono (he.g ak) J) a0) ?_;rintro _ eb ⟨aP,rfl,ec,ed⟩;have bF:=mmr<|Blk.lt hB1
  refine E0 (fs0 (cur':=[vI bE.at_,vI bE.code]) K_ z z ((((h6.e h2).c G<|djs<|mmr h6.lt).c h3<|atp bF).e aP) z z z z) ?_;rintro _ ee ⟨ef,eg⟩;have bG:=eg.one;refine Wn ?_;obtain rfl:=som cW;exact Wr<|rtO<|i_ hr (v_ a_m K_ z ef z) ⟨(cM (e_ (cM (cM (e_ (e_ (cr [g1] w0) h1:Cg [g1] w0 H) h2:Cg [g1] w0 O) G (mor h1.s:∀k∈[H.z],k∈[g1]∨w0.z<=k):Cg [g1] w0 V) h3 (io sr):Cg [g1] w0 I) aP:Cg [g1] w0 eb) bG (mor lr:∀k∈[w0.z],k∈[g1]∨w0.z<=k):Cg [g1] w0 ee),z,ec,ed,iA _ _,(ha.e aP).c bG<|djs bF⟩
 have ba:=ifF b9 aA;refine Ws<|Rq z z z<|Rw z<|Wc z (λaB=>?_) (λaB=>?_)
 .refine Wm z<|Rm z<|Rf z a_W z<|R z (l0 g_3 z<|hb.at z) ?_
  have bH:=(((h1.ag B).e h2).c G<|c_ (or0 (a_ lr) (m_<|zt' J h1.s):∀k∈[H.z],¬B k)).c h3<|c_<|a_ hBg
  obtain ⟨bI,eh,cX⟩:=bdS<|ifT ba aB;refine E z (fc call96 z<|g_o (B:=w0.z) eh (b_a<|lt_ (lt_ (lt_ h1.s h2.s) G.s) h3.s) (repS.mono (W.g bH) J) (repS.mono (Y.g bH) J) (iA _ _) (ha.row 0 3 z) (Blk.lt hB1) a0 hz) ?_;rintro _ ei ⟨aQ,rfl,ej,ek⟩;have bJ:=mmr<|Blk.lt hB1
  refine E0 (fs0 (cur':=[vI bI.at_,vI bI.code]) K_ z z ((((h6.e h2).c G<|djs<|mmr h6.lt).c h3<|atp bJ).e aQ) z z z z) ?_;rintro _ em ⟨en,eo⟩;have bK:=eo.one;refine Wn ?_;obtain rfl:=som cX;exact Wr<|rtO<|i_ hr (v_ a_m K_ z en z) ⟨(cM (e_ (cM (cM (e_ (e_ (cr [g1] w0) h1:Cg [g1] w0 H) h2:Cg [g1] w0 O) G (mor h1.s:∀k∈[H.z],k∈[g1]∨w0.z<=k):Cg [g1] w0 V) h3 (io sr):Cg [g1] w0 I) aQ:Cg [g1] w0 ei) bK (mor lr:∀k∈[w0.z],k∈[g1]∨w0.z<=k):Cg [g1] w0 em),z,ej,ek,iA _ _,(ha.e aQ).c bK<|djs bJ⟩
 have bb:=ifF ba aB;refine Ws<|Rq z z z<|Rw z<|Wc z (λaC=>?_) (λaC=>?_)
 .refine Wm z<|Rf z M_ z<|R z (l0 C_ z<|hb.at z) ?_
  obtain ⟨_,ep,cY⟩:=bdS<|ifT bb aC;have bL:∀k∈[H.z],¬B k:=or0 (a_ lr)<|m_<|zt' J h1.s;refine RX z (at_ (α:=Int) A_ z_3 z z z (he.g<|((h2.ag B).c G<|c_ bL).c h3<|c_<|a_ hBg) ep) ?_;rintro _ ⟨_,_,_,rfl,er,es,_⟩;obtain ⟨rfl,eu⟩:=W_ es;refine R z (l0 g_3 z<|er.at0 z)<|Rm z ?_
  have aR:=(((h1.ag B).e h2).c G<|c_ bL).c h3<|c_<|a_ hBg
  have aS:=lt_ (lt_ (lt_ h1.s h2.s) G.s) h3.s;obtain ⟨_,a3,_,ew,bc⟩:=r_ cY;refine E z (fc call94 z<|i_l (B:=B) ew ha (zt' J aS) hBg (W.g aR) (Y.g aR) (iA _ _) eu a0) ?_;rintro _ a4 ⟨sf,rfl,ex,bM,ey,aT,bN⟩;refine Rm z<|Re z z z<|Re z z z<|E z (fa b_y) ?_
  rintro _ aU ⟨rfl,bO⟩;have hl:=bO.below;refine Ra z<|E0 (fs0 (cur':=[vI a3.at_,vI a3.code]) K_ z z (bO.blk:Blk aU a4.z [vI 0,vI 0]) z z z z) ?_
  rintro _ bQ ⟨aV,ez⟩;have hn:=ez.one;refine Wn<|Wq<|Ws<|Rf z c_U z<|R z (l0 g_3 z<|aV.at z)<|R z (nq z z)<|Wx z (λaD=>?_) (λaD=>?_)
  .refine Ws<|R z (lN (vs:=[vI a3.at_,vI a3.code]) a_m K_ z z fid<|aV.row 0 2 z) ?_
   have aW:=mmr<|Blk.lt hB1
   refine E0 (fs0 (cur':=[vI a3.at_,vI a3.code]) K_ z z ((((((h6.e h2).c G<|djs<|mmr h6.lt).c h3<|atp aW).c sf<|atp aW).e hl).c hn<|djs<|mm1 h6.lt<|lt_ (lt_ (lt_ h2.s G.s) h3.s) sf.s) z z z z) ?_;rintro _ eA ⟨eB,eC⟩;have bR:=eC.one;refine Wn ?_;obtain rfl:=som<|ifT bc aD;have bS:=lt_ aS sf.s;exact Wr<|rtO<|i_ hr (v_ a_m K_ z eB z) ⟨(cM (cM (e_ (cM (cM (cM (e_ (e_ (cr [g1] w0) h1:Cg [g1] w0 H) h2:Cg [g1] w0 O) G (mor h1.s:∀k∈[H.z],k∈[g1]∨w0.z<=k):Cg [g1] w0 V) h3 (io sr):Cg [g1] w0 I) sf (io sr):Cg [g1] w0 a4) hl:Cg [g1] w0 aU) hn (mor bS:∀k∈[a4.z],k∈[g1]∨w0.z<=k):Cg [g1] w0 bQ) bR (mor lr:∀k∈[w0.z],k∈[g1]∨w0.z<=k):Cg [g1] w0 eA),z,bM,ey,aT,((bN.e hl).c hn<|djs<|mm1 (Blk.lt hB1) bS).c bR<|djs aW⟩
  refine Wk<|Wm z<|Rf z c_B z<|R z (l0 g_3 z<|aV.at z)<|Rm z ?_
  have al:=lt_ aS sf.s;have bT:=(bN.e hl).c hn<|djs<|mm1 (Blk.lt hB1) al
  have bU:=((aR.c sf<|c_<|a_ hBg).e hl).c hn<|c_ (or0 (a_ lr) (m_<|zt' J al):∀k∈[a4.z],¬B k)
  obtain ⟨bV,eD,cZ⟩:=bdS<|ifF bc aD;refine E z (fc call96 z<|g_o (B:=w0.z) eD (b_a<|lt_ (lt_ al hl.s) hn.s) (repS.mono (W.g bU) J) (repS.mono (Y.g bU) J) aT (bT.row 0 3 z) (Blk.lt hB1) bM ex) ?_;rintro _ eE ⟨aX,rfl,eF,eG⟩;have aY:=mmr<|Blk.lt hB1
  refine E0 (fs0 (cur':=[vI bV.at_,vI bV.code]) K_ z z (((((((h6.e h2).c G<|djs<|mmr h6.lt).c h3<|atp aY).c sf<|atp aY).e hl).c hn<|djs<|mm1 h6.lt<|lt_ (lt_ (lt_ h2.s G.s) h3.s) sf.s).e aX) z z z z) ?_;rintro _ eH ⟨eI,eJ⟩;have bW:=eJ.one;refine Wn ?_;obtain rfl:=som cZ;exact Wr<|rtO<|i_ hr (v_ a_m K_ z eI z) ⟨(cM (e_ (cM (e_ (cM (cM (cM (e_ (e_ (cr [g1] w0) h1:Cg [g1] w0 H) h2:Cg [g1] w0 O) G (mor h1.s:∀k∈[H.z],k∈[g1]∨w0.z<=k):Cg [g1] w0 V) h3 (io sr):Cg [g1] w0 I) sf (io sr):Cg [g1] w0 a4) hl:Cg [g1] w0 aU) hn (mor al:∀k∈[a4.z],k∈[g1]∨w0.z<=k):Cg [g1] w0 bQ) aX:Cg [g1] w0 eE) bW (mor lr:∀k∈[w0.z],k∈[g1]∨w0.z<=k):Cg [g1] w0 eH),z,eF,eG,aT,(bT.e aX).c bW<|djs aY⟩
 have be:=ifF bb aC;refine Ws<|Rq z z z<|Rw z<|Wc z (λaE=>?_) (λaE=>?_)
 .refine Wm z<|R z (lN (vs:=vR xh ao np cq ar ns ct au nv cw ai nj ck) R_ t_ z z fid<|hb.row 0 8 z)<|Rm z ?_
  have bX:∀k∈[H.z],¬B k:=or0 (a_ lr)<|m_<|zt' J h1.s;have bY:=(((h1.ag B).e h2).c G<|c_ bX).c h3<|c_<|a_ hBg
  have am:=((h2.ag B).c G<|c_ bX).c h3<|c_<|a_ hBg
  obtain ⟨bZ,_,eK,d0⟩:=a_9<|ifT be aE;refine E z (fc call97 z<|dO.run (B:=B) eK ha (zt' J<|lt_ (lt_ (lt_ h1.s h2.s) G.s) h3.s) hBg (W.g bY) (Y.g bY) (iA _ _) a7 a8 hz (a1.g am) (a9.g am) (aa.g am) (he.g am) a0) ?_;rintro _ eL ⟨c0,rfl,eM,eN,eO,eP⟩;have aZ:=mmr<|Blk.lt hB1
  refine E0 (fs0 (cur':=[vI bZ.at_,vI bZ.code]) K_ z z ((((h6.e h2).c G<|djs<|mmr h6.lt).c h3<|atp aZ).c c0<|atp aZ) z z z z) ?_;rintro _ eQ ⟨eR,eS⟩;have c1:=eS.one;refine Wn ?_;obtain rfl:=som d0;exact Wr<|rtO<|i_ hr (v_ a_m K_ z eR z) ⟨(cM (cM (cM (cM (e_ (e_ (cr [g1] w0) h1:Cg [g1] w0 H) h2:Cg [g1] w0 O) G (mor h1.s:∀k∈[H.z],k∈[g1]∨w0.z<=k):Cg [g1] w0 V) h3 (io sr):Cg [g1] w0 I) c0 (io sr):Cg [g1] w0 eL) c1 (mor lr:∀k∈[w0.z],k∈[g1]∨w0.z<=k):Cg [g1] w0 eQ),z,eM,eN,eO,eP.c c1<|djs aZ⟩
 have bf:=ifF be aE;refine Ws<|Rq z z z<|Rw z<|Wc z (λaF=>?_) (λaF=>?_)
 .refine Wm z<|R z (bP (parts:=[(0,.tmp 88),(1,.const<|.int .i64 0)]) (cs:=[vI x3,vI 0]) c_1 z z)<|E z (fa b_y) ?_
  rintro _ c2 ⟨rfl,c3⟩;have hx:=c3.below;refine E0 (fs0 (cur':=[vI x3,vI 0]) K_ z z (c3.blk:Blk c2 I.z [vI 0,vI 0]) z z z z) ?_;rintro _ L ⟨eT,eU⟩;have hy:=eU.one;refine Wn<|Wq<|Ws<|Rf z M_ z<|R z (l0 C_ z<|((hb.e hx).c hy<|djs<|mm1 bq.lt<|lt_ G.s h3.s).at z) ?_
  have c4:∀k∈[H.z],¬B k:=or0 (a_ lr)<|m_<|zt' J h1.s;have ab:=lt_ (lt_ (lt_ h1.s h2.s) G.s) h3.s;have an:∀k∈[I.z],¬B k:=or0 (a_ lr)<|m_<|zt' J ab;have c5:=((((h2.ag B).c G<|c_ c4).c h3<|c_<|a_ hBg).e hx).c hy<|c_ an
  refine R z (lnR A_ z<|he.g c5)<|Rm z<|Wn ?_
  obtain ⟨_,d1,bg⟩:=bdS<|ifT bf aF;refine Wf (σ:=Int×Int×Int) (ρ:=P_×Int) (λ(c6:Nat) s a w=>un3 (λxm xc xd=>Sat 145 [(0,pt g1),(6,pt w0.z),(12,pt I.z),(91,sl ai nj ck),(92,vI (xh.kids.length:Int)),(93,vI ((c6:Nat):Int))] a/\Chg (· ∈ ([g1]++[I.z])) L w/\inI xm/\inI xc/\inI xd/\Blk w g1 [sl A0 N0 C0,sl A1 N1 C1,vI xm]/\Blk w I.z [vI xc,vI xd]) s) (λs a w=>un3 (λxm xc xd=>Sat 145 [(6,pt w0.z),(12,pt I.z)] a/\Chg (· ∈ ([g1]++[I.z])) L w/\inI xm/\inI xc/\inI xd/\Blk w g1 [sl A0 N0 C0,sl A1 N1 C1,vI xm]/\Blk w I.z [vI xc,vI xd]) s) (rQ prog fn<|Q19 w0 g1 B A0 N0 C0 A1 N1 C1 x1) d1 ?_ ?_ ?_ ?_ ?_
  .exact λ_ q=>⟨q.k<|s6 z z z z z z,cr ([g1]++[I.z]) L,iA _ _,a0,ii z,(ha.e hx).c hy<|djs<|mm1 (Blk.lt hB1) ab,eT⟩
  .rintro c6 ⟨xm,xc,xd⟩ _ c7 _ bh ⟨d2,ad,ae,af,ap,ah,a5⟩ d3;refine Wu ?_ d2;refine Ws<|Rl z z z<|Wn<|Wq<|Wc z (λ_=>?_) (λhc=>(a_n bh hc).elim)
   refine Wk<|Wq<|Wb<|Ws ?_
   obtain ⟨_,eV,d4⟩:=bdS<|a_u d3;refine RX z (at_ (α:=Int) A_ z_3 z z z (he.g<|c5.c ad<|nmA (c_<|a_ hBg)<|c_ an) eV) ?_;rintro _ ⟨_,_,_,rfl,eW,eX,_⟩;obtain ⟨rfl,eY⟩:=W_ eX;refine R z (l0 g_3 z<|eW.at0 z)<|Rw z<|Wm z<|Rm z<|Rf z c_B z<|R z (l0 g_3 z<|a5.at z) ?_
   have c8:=((((((h1.ag B).e h2).c G<|c_ c4).c h3<|c_<|a_ hBg).e hx).c hy<|c_ an).c ad<|nmA (c_<|a_ hBg)<|c_ an
   obtain ⟨aq,eZ,f0,bi⟩:=a_9 d4;refine E z (fc call71 z<|dN.run (B:=B) f0 ah (zt' J<|lt_ (lt_ (lt_ ab hx.s) hy.s) ad.s) hBg (W.g c8) (Y.g c8) ae eY af) ?_;rintro _ c9 ⟨b0,rfl,ca,cb,cc,cd⟩;have b1:=mm1 (Blk.lt hB1) ab;refine E0 (fs0 (cur':=[vI aq.at_,vI aq.code]) K_ z z (a5.c b0<|atp b1) z z z z) ?_;rintro _ ce ⟨b2,f1⟩;have av:=f1.one;refine Wn<|Ws<|Rf z c_U z<|R z (l0 g_3 z<|b2.at z)<|R z (nq z z)<|Wx z (λaG=>?_) (λaG=>?_)
   .have f2:Chg (· ∈ ([g1]++[I.z])) L c7:=cM (cr ([g1]++[I.z]) L) ad<|aa_ (io<|h_ sr)<|io<|f_ sr;exact We<|exO z (λ_ q=>b_n (som<|ifT bi aG).symm ⟨q.k<|s2 z z,(cM (cM f2 b0 (io<|h_ sr):Chg (· ∈ ([g1]++[I.z])) L c9) av (io<|f_ sr):Chg (· ∈ ([g1]++[I.z])) L ce),cc,ca,cb,cd.c av<|djs b1,b2⟩)
   refine Wk<|Wg<|R z (inc_ bh (lt_ (repS.len he) X_) z z)<|Rm z<|Wl ?_
   exact λ_ q=>⟨(eZ,aq.at_,aq.code),(som<|ifF bi aG).symm,⟨q.k<|s6 z z z z z z,(cM (cM (cM (cr ([g1]++[I.z]) L) ad (aa_ (io<|h_ sr)<|io<|f_ sr):Chg (· ∈ ([g1]++[I.z])) L c7) b0 (io<|h_ sr):Chg (· ∈ ([g1]++[I.z])) L c9) av (io<|f_ sr):Chg (· ∈ ([g1]++[I.z])) L ce),cc,ca,cb,cd.c av<|djs b1,b2⟩⟩
  .rintro ⟨xm,xc,xd⟩ _ f3 ⟨d5,f4,ae,af,ap,ah,a5⟩;refine Wu ?_ d5;refine Ws<|Rl z z z<|Wn<|Wq<|Wc z (λhc=>(a_o hc).elim) (λ_=>?_)
   exact We<|λ_ q=>⟨rfl,⟨q.k<|s2 z z,(cM (cr ([g1]++[I.z]) L) f4 (aa_ (io<|h_ sr)<|io<|f_ sr):Chg (· ∈ ([g1]++[I.z])) L f3),ae,af,ap,ah,a5⟩⟩
  .rintro ⟨xm,xc,xd⟩ f5 f6 rfl ⟨_,cf,ae,af,ap,ah,a5⟩;have d6:=elL bg;revert f5;refine Wo<|Ws<|R z (lN (vs:=[vI xc,vI xd]) a_m K_ z z fid<|a5.row 0 2 z) ?_
   have b3:=mmr<|Blk.lt hB1
   have cg:=mm1 h6.lt<|lt_ (lt_ h2.s G.s) h3.s
   refine E0 (fs0 (cur':=[vI xc,vI xd]) K_ z z ((((((h6.e h2).c G<|djs<|mmr h6.lt).c h3<|atp b3).e hx).c hy<|djs cg).c cf<|atp<|nmA b3<|ds cg) z z z z) ?_;rintro _ f7 ⟨f8,f9⟩;have ch:=f9.one;refine Wn ?_;obtain rfl:=som<|a_u d6;have ci:∀k∈[I.z],k∈[g1]∨w0.z<=k:=mor ab;exact Wr<|rtO<|i_ hr (v_ a_m K_ z f8 z) ⟨(cM (cM (cM (e_ (cM (cM (e_ (e_ (cr [g1] w0) h1:Cg [g1] w0 H) h2:Cg [g1] w0 O) G (mor h1.s:∀k∈[H.z],k∈[g1]∨w0.z<=k):Cg [g1] w0 V) h3 (io sr):Cg [g1] w0 I) hx:Cg [g1] w0 c2) hy ci:Cg [g1] w0 L) cf (aa_ (io sr) ci):Cg [g1] w0 f6) ch (mor lr:∀k∈[w0.z],k∈[g1]∨w0.z<=k):Cg [g1] w0 f7),z,af,ap,ae,ah.c ch<|djs b3⟩
  rintro _ _ _ _ rfl ⟨rfl,cN⟩;have cO:=elR bg;obtain rfl:=som cO;exact ⟨cN,z⟩
 have bj:=ifF bf aF;refine Ws<|Rq z z z<|Rw z<|Wc z (λaH=>?_) (λaH=>?_)
 .refine Wm z<|R z (lN (vs:=vR xh ao np cq ar ns ct au nv cw ai nj ck) R_ t_ z z fid<|hb.row 0 8 z)<|Rm z ?_
  have cj:∀k∈[H.z],¬B k:=or0 (a_ lr)<|m_<|zt' J h1.s;have cl:=(((h1.ag B).e h2).c G<|c_ cj).c h3<|c_<|a_ hBg
  have aw:=((h2.ag B).c G<|c_ cj).c h3<|c_<|a_ hBg
  obtain ⟨cm,_,d7,cP⟩:=a_9<|ifT bj aH;refine E z (fc call98 z<|dP.run (B:=B) d7 ha (zt' J<|lt_ (lt_ (lt_ h1.s h2.s) G.s) h3.s) hBg (W.g cl) (Y.g cl) (iA _ _) a7 a8 hz (a1.g aw) (a9.g aw) (aa.g aw) (he.g aw) a0) ?_;rintro _ d8 ⟨cn,rfl,d9,da,db,dc⟩;have b4:=mmr<|Blk.lt hB1
  refine E0 (fs0 (cur':=[vI cm.at_,vI cm.code]) K_ z z ((((h6.e h2).c G<|djs<|mmr h6.lt).c h3<|atp b4).c cn<|atp b4) z z z z) ?_;rintro _ dd ⟨de,df⟩;have co:=df.one;refine Wn ?_;obtain rfl:=som cP;exact Wr<|rtO<|i_ hr (v_ a_m K_ z de z) ⟨(cM (cM (cM (cM (e_ (e_ (cr [g1] w0) h1:Cg [g1] w0 H) h2:Cg [g1] w0 O) G (mor h1.s:∀k∈[H.z],k∈[g1]∨w0.z<=k):Cg [g1] w0 V) h3 (io sr):Cg [g1] w0 I) cn (io sr):Cg [g1] w0 d8) co (mor lr:∀k∈[w0.z],k∈[g1]∨w0.z<=k):Cg [g1] w0 dd),z,d9,da,db,dc.c co<|djs b4⟩
 have bk:=ifF bj aH;refine Ws<|Rq z z z<|Rw z<|Wc z (λaI=>?_) (λaI=>?_)
 .refine Wm z<|R z (lN (vs:=vR xh ao np cq ar ns ct au nv cw ai nj ck) R_ t_ z z fid<|hb.row 0 8 z)<|Rm z ?_
  have cp:∀k∈[H.z],¬B k:=or0 (a_ lr)<|m_<|zt' J h1.s;have cu:=(((h1.ag B).e h2).c G<|c_ cp).c h3<|c_<|a_ hBg
  have ax:=((h2.ag B).c G<|c_ cp).c h3<|c_<|a_ hBg
  obtain ⟨cv,_,dg,cQ⟩:=a_9<|ifT bk aI;refine E z (fc call99 z<|dS.run (B:=B) dg ha (zt' J<|lt_ (lt_ (lt_ h1.s h2.s) G.s) h3.s) hBg (W.g cu) (Y.g cu) (iA _ _) a7 a8 hz (a1.g ax) (a9.g ax) (aa.g ax) (he.g ax) a0) ?_;rintro _ dh ⟨cx,rfl,di,dj,dk,dl⟩;have b5:=mmr<|Blk.lt hB1
  refine E0 (fs0 (cur':=[vI cv.at_,vI cv.code]) K_ z z ((((h6.e h2).c G<|djs<|mmr h6.lt).c h3<|atp b5).c cx<|atp b5) z z z z) ?_;rintro _ dm ⟨dn,dp⟩;have cy:=dp.one;refine Wn ?_;obtain rfl:=som cQ;exact Wr<|rtO<|i_ hr (v_ a_m K_ z dn z) ⟨(cM (cM (cM (cM (e_ (e_ (cr [g1] w0) h1:Cg [g1] w0 H) h2:Cg [g1] w0 O) G (mor h1.s:∀k∈[H.z],k∈[g1]∨w0.z<=k):Cg [g1] w0 V) h3 (io sr):Cg [g1] w0 I) cx (io sr):Cg [g1] w0 dh) cy (mor lr:∀k∈[w0.z],k∈[g1]∨w0.z<=k):Cg [g1] w0 dm),z,di,dj,dk,dl.c cy<|djs b5⟩
 have bm:=ifF bk aI;refine Ws<|Rq z z z<|Rw z<|Wc z (λaJ=>?_) (λaJ=>?_)
 .refine Wm z<|R z (lN (vs:=vR xh ao np cq ar ns ct au nv cw ai nj ck) R_ t_ z z fid<|hb.row 0 8 z)<|Rm z ?_
  have cz:∀k∈[H.z],¬B k:=or0 (a_ lr)<|m_<|zt' J h1.s;have cA:=(((h1.ag B).e h2).c G<|c_ cz).c h3<|c_<|a_ hBg
  have ay:=((h2.ag B).c G<|c_ cz).c h3<|c_<|a_ hBg
  obtain ⟨cB,_,dq,cR⟩:=a_9<|ifT bm aJ;refine E z (fc call100 z<|dT.run (B:=B) dq ha (zt' J<|lt_ (lt_ (lt_ h1.s h2.s) G.s) h3.s) hBg (W.g cA) (Y.g cA) (iA _ _) a7 a8 hz (a1.g ay) (a9.g ay) (aa.g ay) (he.g ay) a0) ?_;rintro _ dr ⟨cC,rfl,dt,du,dv,dw⟩;have b6:=mmr<|Blk.lt hB1
  refine E0 (fs0 (cur':=[vI cB.at_,vI cB.code]) K_ z z ((((h6.e h2).c G<|djs<|mmr h6.lt).c h3<|atp b6).c cC<|atp b6) z z z z) ?_;rintro _ dx ⟨dy,dz⟩;have cD:=dz.one;refine Wn ?_;obtain rfl:=som cR;exact Wr<|rtO<|i_ hr (v_ a_m K_ z dy z) ⟨(cM (cM (cM (cM (e_ (e_ (cr [g1] w0) h1:Cg [g1] w0 H) h2:Cg [g1] w0 O) G (mor h1.s:∀k∈[H.z],k∈[g1]∨w0.z<=k):Cg [g1] w0 V) h3 (io sr):Cg [g1] w0 I) cC (io sr):Cg [g1] w0 dr) cD (mor lr:∀k∈[w0.z],k∈[g1]∨w0.z<=k):Cg [g1] w0 dx),z,dt,du,dv,dw.c cD<|djs b6⟩
 refine Wk<|Wq (Wd (X:=noX) 0 (pl_ 17 [9]) mo (by kernel_rfl) λcE sg _=>dM z z z<|dR z z (O_ z)<|dR z z (fd d_j z) ?_)
 have b7:=ha.e sg;refine dR z z (l0 U_ z<|b7.at z)<|dM z z z<|dR z z (fd a_N z)<|dR z z (l0 U_ z<|(hb.e sg).at z) ?_
 obtain ⟨_,dA,cS⟩:=bdS<|ifF bm aJ;have cF:∀k∈[H.z],¬B k:=or0 (a_ lr)<|m_<|zt' J h1.s;refine dRX z z (at_ (α:=UInt8) s_ z_5 z z z (a1.g<|(((h2.ag B).c G<|c_ cF).c h3<|c_<|a_ hBg).e sg) dA) ?_;rintro _ ⟨_,_,_,rfl,dB,dC,_⟩;obtain rfl:=u8 dC;refine dR z z (l0 g_5 z<|dB.at0 z) ?_;obtain ⟨_,cG,_,dD,bn⟩:=r_ cS;refine dE z z (fc call101 z<|W_w1d dD (zt' J<|lt_ (lt_ (lt_ (lt_ h1.s h2.s) G.s) h3.s) sg.s) (Y.g<|((((h1.ag B).e h2).c G<|c_ cF).c h3<|c_<|a_ hBg).e sg) a0) (.inr λ_ _ h=>x_<|h.1) ?_;rintro _ cH ⟨a6,_,_,_,_,rfl,_,dF,_,_⟩;refine dM z z z ?_
 iterate 3 refine dR z z (ext_ z z) ?_
 iterate 3 refine dQ z z z ?_
 refine pD<|Wo<|Wq<|Wm z<|R z (not_ z)<|Wx z (λaK=>?_) (λaK=>?_)
 .refine Wm z<|R z (bP (parts:=[(0,.tmp 141),(1,.const<|.int .i64 1)]) (cs:=[vI x3,vI 1]) c_1 z z) ?_
  have cI:=mmr<|Blk.lt hB1
  refine E0 (fs0 (cur':=[vI x3,vI 1]) K_ z z (((((h6.e h2).c G<|djs<|mmr h6.lt).c h3<|atp cI).e sg).e a6) z z z z) ?_;rintro _ dG ⟨dH,dI⟩;have cJ:=dI.one;refine Wn ?_;obtain rfl:=som<|ifT bn aK;exact Wr<|i_ hr (v_ a_m K_ z dH z) ⟨(cM (e_ (e_ (cM (cM (e_ (e_ (cr [g1] w0) h1:Cg [g1] w0 H) h2:Cg [g1] w0 O) G (mor h1.s:∀k∈[H.z],k∈[g1]∨w0.z<=k):Cg [g1] w0 V) h3 (io sr):Cg [g1] w0 I) sg:Cg [g1] w0 cE) a6:Cg [g1] w0 cH) cJ (mor lr:∀k∈[w0.z],k∈[g1]∨w0.z<=k):Cg [g1] w0 dG),z,a0,ii z,iA _ _,(b7.e a6).c cJ<|djs cI⟩
 refine Wk<|Wm z<|R z (bP (parts:=[(0,.tmp 143),(1,.const<|.int .i64 0)]) (cs:=[vI cG,vI 0]) c_1 z z) ?_
 have cK:=mmr<|Blk.lt hB1
 refine E0 (fs0 (cur':=[vI cG,vI 0]) K_ z z (((((h6.e h2).c G<|djs<|mmr h6.lt).c h3<|atp cK).e sg).e a6) z z z z) ?_;rintro _ dJ ⟨dK,dL⟩;have cL:=dL.one;refine Wn ?_;obtain rfl:=som<|ifF bn aK;exact Wr<|i_ hr (v_ a_m K_ z dK z) ⟨(cM (e_ (e_ (cM (cM (e_ (e_ (cr [g1] w0) h1:Cg [g1] w0 H) h2:Cg [g1] w0 O) G (mor h1.s:∀k∈[H.z],k∈[g1]∨w0.z<=k):Cg [g1] w0 V) h3 (io sr):Cg [g1] w0 I) sg:Cg [g1] w0 cE) a6:Cg [g1] w0 cH) cL (mor lr:∀k∈[w0.z],k∈[g1]∨w0.z<=k):Cg [g1] w0 dJ),z,dF,ii z,iA _ _,(b7.e a6).c cL<|djs cK⟩
theorem T_w1e (ih:f_g n):j_H (h_f n<|a_G n):=by
 obtain ⟨aP,_,_,_,_⟩:=ih
 constructor
 intro A0 A1 A3 A4 A2 A5 N0 C0 N1 C1 g1 N3 C3 N4 C4 N2 C2 N5 C5 B x1 x2 x3 res w0 hm hB1 W hBg a2 a3 aE bu bv bw bx bz bA a4 a5;unfold h_f at hm
 refine goG func97 z z z λfn hr=>Ws<|E z (fb z) ?_
 rintro _ J ⟨rfl,ab⟩;have h6:=ab.below;have ad:Blk J w0.z (vR x2 A3 N3 C3 A4 N4 C4 A2 N2 C2 A5 N5 C5):=ab.blk;refine E z (fa b_y) ?_;rintro _ wr ⟨rfl,ae⟩;have he:=ae.below;have hn:Blk wr J.z [vI 0,vI 0]:=ae.blk;refine Wn<|Wm z<|Rf z M_ z ?_
 have af:=ad.e he;refine R z (l0 C_ z<|af.at z) ?_;obtain ⟨_,aQ,aF⟩:=bdS hm;have ho:=(h6.ag B).e he;refine RX z (at_ (α:=Int) A_ z_3 z z z (a4.g ho) aQ) ?_;rintro _ ⟨_,_,_,rfl,aR,aS,_⟩;obtain ⟨rfl,aT⟩:=W_ aS;refine R z (l0 g_3 z<|aR.at0 z)<|Rm z ?_
 have hj:=lt_ h6.s he.s;obtain ⟨ah,rs,_,aU,aG⟩:=r_ aF;refine E z (fc call94 z<|i_l (B:=B) aU ((hB1.e h6).e he) (zt' W hj) hBg (a2.g ho) (a3.g ho) aE aT a5) ?_;rintro _ G ⟨I,rfl,aV,aW,aX,ai,aj⟩;refine Rm z<|Re z z z<|Re z z z<|E z (fa b_y) ?_
 rintro _ wu ⟨rfl,ak⟩;have O:=ak.below;refine Ra z<|E0 (fs0 (cur':=[vI rs.at_,vI rs.code]) K_ z z (ak.blk:Blk wu G.z [vI 0,vI 0]) z z z z) ?_
 rintro _ wg ⟨al,aY⟩;have V:=aY.one;refine Wn<|Wq<|Wq ?_
 obtain ⟨aZ,a6,a7⟩:=bdS aG;refine Wt (λa w=>∃(xv:Bool),xv=aZ/\Sat 46 [(0,pt g1),(2,vI x3),(4,pt w0.z),(6,pt J.z),(7,vI ah),(8,pt G.z),(25,vB xv)] a/\Below wg.z wg w) ?_ ?_
 .refine Wg<|Rf z c_U z<|R z (l0 g_3 z<|al.at z)<|Rq z z z<|Rm z ?_
  rcases bs (rs.code==0) with L | L
  .exact Rh z L (mv z)<|Rh z L (a_b z z)<|R z (pT z L z)<|Wl (λ_ q=>⟨decide<|40<ah,som<|ifT a6 L,q.k<|s7 z z z z z z z,br wg⟩)
  exact Nh z L<|Nh z L<|R z (pF z L z)<|Wl (λ_ q=>⟨false,som<|ifF a6 L,q.k<|s7 z z z z z z z,br wg⟩)
 rintro b0 H ⟨xv,rfl,_,s4⟩;revert b0;refine Wo<|Wc z (λhcw=>?_) (λhcw=>?_)
 .refine Wm z<|R z (bP (parts:=[(0,.tmp 26),(1,.const<|.int .i64 6)]) (cs:=[vI x3,vI 6]) c_1 z z) ?_
  have am:=mm1 (Blk.lt hB1) h6.s;refine E0 (fs0 (cur':=[vI x3,vI 6]) K_ z z ((((hn.c I<|atp am).e O).c V<|djs<|mm1 hn.lt I.s).e s4) z z z z) ?_;rintro _ b1 ⟨b2,b3⟩;have an:=b3.one;refine Wn ?_;obtain rfl:=som<|ifT a7 hcw;have ao:=lt_ hj I.s;exact Wr<|i_ hr (v_ a_m K_ z b2 z) ⟨(cM (e_ (cM (e_ (cM (e_ (e_ (cr [g1] w0) h6:Cg [g1] w0 J) he:Cg [g1] w0 wr) I (io sr):Cg [g1] w0 G) O:Cg [g1] w0 wu) V (mor ao:∀k∈[G.z],k∈[g1]∨w0.z<=k):Cg [g1] w0 wg) s4:Cg [g1] w0 H) an (mor h6.s:∀k∈[J.z],k∈[g1]∨w0.z<=k):Cg [g1] w0 b1),z,a5,ii z,ai,(((aj.e O).c V<|djs<|mm1 (Blk.lt hB1) ao).e s4).c an<|djs am⟩
 refine Wk<|Wq ?_
 obtain ⟨_,aH,a8⟩:=bdS<|ifF a7 hcw;refine c_0 (σ:=Int×Int×Int×Int) (ρ:=P_×Int) (λs a w=>un4 (λxa xf xb x5=>Sat 46 [(0,pt g1),(4,pt w0.z),(6,pt J.z),(7,vI xa),(8,pt G.z)] a/\Chg (· ∈ ([g1]++[G.z])) H w/\inI xa/\inI xf/\inI xb/\inI x5/\Blk w g1 [sl A0 N0 C0,sl A1 N1 C1,vI xf]/\Blk w G.z [vI xb,vI x5]) s) (λs a w=>un4 (λxa xf xb x5=>Sat 46 [(6,pt J.z),(8,pt G.z)] a/\Chg (· ∈ ([g1]++[G.z])) H w/\inI xa/\inI xf/\inI xb/\inI x5/\Blk w g1 [sl A0 N0 C0,sl A1 N1 C1,vI xf]/\Blk w G.z [vI xb,vI x5]) s) (rQ prog fn<|Q19 w0 g1 B A0 N0 C0 A1 N1 C1 x1) aH ?_ ?_ ?_ ?_
 .exact λ_ q=>⟨q.k<|s5 z z z z z,cr ([g1]++[G.z]) H,aV,ai,aW,aX,((aj.e O).c V<|djs<|mm1 (Blk.lt hB1)<|lt_ hj I.s).e s4,al.e s4⟩
 .rintro ⟨xa,xf,xb,x5⟩ _ wh _ ⟨aI,sk,ap,hp,hq,hx,ht,hl⟩ aJ;refine Wu ?_ aI;refine Wq<|Wq ?_
  obtain ⟨b4,a9,aa⟩:=bdS<|c_m aJ;refine Wt (λa w=>∃(xy:Bool),xy=b4/\Sat 46 [(0,pt g1),(4,pt w0.z),(6,pt J.z),(7,vI xa),(8,pt G.z),(34,vB xy)] a/\Below wh.z wh w) ?_ ?_
  .refine Wg<|Rm z<|R z (a_b z z)<|Rm z ?_
   rcases bs (decide<|0<xa) with hcc | hcc
   .exact Rh z hcc (fd c_U z)<|Rh z hcc (l0 g_3 z<|hl.at z)<|Rh z hcc (eql z z)<|R z (pT z hcc z)<|Wl (λ_ q=>⟨x5==0,som<|ifT a9 hcc,q.k<|s6 z z z z z z,br wh⟩)
   iterate 3 refine Nh z hcc ?_
   exact R z (pF z hcc z)<|Wl (λ_ q=>⟨false,som<|ifF a9 hcc,q.k<|s6 z z z z z z,br wh⟩)
  rintro b5 aq ⟨xy,rfl,_,sd⟩;revert b5;refine Wo<|Wc z (λhcz=>?_) (λhcz=>?_)
  .refine Wk<|Wq<|Wb (Wd (X:=noX) 384 (pl_ 9 [7,8]) mo (by kernel_rfl) λb6 si _=>dM z z z<|dR z z (fd M_ z) ?_)
   have ar:=mmr<|Blk.lt hB1
   have au:=mm1 ad.lt<|lt_ he.s I.s
   refine dR z z (l0 C_ z<|(((((((af.c I<|atp ar).e O).c V<|djs au).e s4).c sk<|atp<|nmA ar<|ds au).e sd).e si).at z) ?_;obtain ⟨_,b7,aK⟩:=bdS<|ifT aa hcz;have Y:=lt_ hj I.s;have av:∀k∈[G.z],¬B k:=or0 (a_ lr)<|m_<|zt' W Y;have a0:=((((((ho.c I<|c_<|a_ hBg).e O).c V<|c_ av).e s4).c sk<|nmA (c_<|a_ hBg)<|c_ av).e sd).e si;refine dRX z z (at_ (α:=Int) A_ z_3 z z z (a4.g a0) b7) ?_;rintro _ ⟨_,_,_,rfl,b8,b9,_⟩;obtain ⟨rfl,ba⟩:=W_ b9;refine dR z z (l0 g_3 z<|b8.at0 z)<|dR z z (fd c_B z) ?_
   have aw:=(hl.e sd).e si;refine dR z z (l0 g_3 z<|aw.at z) ?_;obtain ⟨rm,bb,bc,aL⟩:=a_9 aK;refine dE z z (fc call71 z<|aP.run (B:=B) bc ((ht.e sd).e si) (zt' W<|lt_ (lt_ (lt_ (lt_ (lt_ (lt_ Y O.s) V.s) s4.s) sk.s) sd.s) si.s) hBg (a2.g a0) (a3.g a0) hp ba hq) (.inl z) ?_;rintro _ be ⟨ax,rfl,bf,bg,bh,bi⟩;have ay:=mm1 (Blk.lt hB1) Y;refine dE0 z (fs0 (cur':=[vI rm.at_,vI rm.code]) K_ z z (aw.c ax<|atp ay) z z z z) (.inl z) ?_;rintro _ bj ⟨bk,bm⟩;have az:=bm.one;refine pD<|Wo<|Wg<|Rm z<|R z (sb_ z z)<|Ra z<|Wl ?_
   exact λ_ q=>⟨(J_ xa 1,bb,rm.at_,rm.code),(som aL).symm,⟨q.k<|s5 z z z z z,(cM (cM (e_ (e_ (cM (cr ([g1]++[G.z]) H) sk (aa_ (io<|h_ sr)<|io<|f_ sr):Chg (· ∈ ([g1]++[G.z])) H wh) sd:Chg (· ∈ ([g1]++[G.z])) H aq) si:Chg (· ∈ ([g1]++[G.z])) H b6) ax (io<|h_ sr):Chg (· ∈ ([g1]++[G.z])) H be) az (io<|f_ sr):Chg (· ∈ ([g1]++[G.z])) H bj),iS _ _,bh,bf,bg,bi.c az<|djs ay,bk⟩⟩
  exact We<|λ_ q=>b_n (som<|ifF aa hcz).symm ⟨q.k<|s2 z z,(e_ (cM (cr ([g1]++[G.z]) H) sk (aa_ (io<|h_ sr)<|io<|f_ sr):Chg (· ∈ ([g1]++[G.z])) H wh) sd:Chg (· ∈ ([g1]++[G.z])) H aq),ap,hp,hq,hx,ht.e sd,hl.e sd⟩
 .rintro ⟨xa,xf,xb,x5⟩ bn bo rfl ⟨_,aA,ap,hp,hq,hx,ht,hl⟩;have aM:=elL a8;revert bn;refine Wo<|Ws<|R z (lN (vs:=[vI xb,vI x5]) a_m K_ z z fid<|hl.row 0 2 z) ?_
  have a1:=mm1 (Blk.lt hB1) h6.s;have aB:=mm1 hn.lt I.s;refine E0 (fs0 (cur':=[vI xb,vI x5]) K_ z z (((((hn.c I<|atp a1).e O).c V<|djs aB).e s4).c aA<|atp<|nmA a1<|ds aB) z z z z) ?_;rintro _ bp ⟨bq,bt⟩;have aC:=bt.one;refine Wn ?_;obtain rfl:=som<|c_m aM;have aD:∀k∈[G.z],k∈[g1]∨w0.z<=k:=mor<|lt_ hj I.s;exact Wr<|i_ hr (v_ a_m K_ z bq z) ⟨(cM (cM (e_ (cM (e_ (cM (e_ (e_ (cr [g1] w0) h6:Cg [g1] w0 J) he:Cg [g1] w0 wr) I (io sr):Cg [g1] w0 G) O:Cg [g1] w0 wu) V aD:Cg [g1] w0 wg) s4:Cg [g1] w0 H) aA (aa_ (io sr) aD):Cg [g1] w0 bo) aC (mor h6.s:∀k∈[J.z],k∈[g1]∨w0.z<=k):Cg [g1] w0 bp),z,hq,hx,hp,ht.c aC<|djs a1⟩
 rintro _ _ _ _ rfl ⟨rfl,aN⟩;have aO:=elR a8;obtain rfl:=som aO;exact ⟨aN,z⟩
theorem T_w1f (ih:f_g n):j_I (h_g n<|a_G n):=by
 obtain ⟨aq,_,_,_,_⟩:=ih
 constructor
 intro A0 A1 A3 A4 A2 A5 N0 C0 N1 C1 g1 N3 C3 N4 C4 N2 C2 N5 C5 B x1 x2 x3 res w0 hm hB1 V hBg W Y ae b2 b3 b4 b5 b6 O a0 a1;unfold h_g at hm
 refine goG func98 z z z λfn hr=>Ws<|E z (fb z) ?_
 rintro _ H ⟨rfl,hq⟩;have h1:=hq.below;have ht:Blk H w0.z (vR x2 A3 N3 C3 A4 N4 C4 A2 N2 C2 A5 N5 C5):=hq.blk;refine E z (fa b_y) ?_;rintro _ wc ⟨rfl,hu⟩;have h6:=hu.below;have L:Blk wc H.z [vI 0,vI 0]:=hu.blk;refine Wn<|Wm z<|Rf z M_ z ?_
 have hv:=ht.e h6;refine R z (l0 C_ z<|hv.at z) ?_;obtain ⟨_,ar,af⟩:=bdS hm;have he:=(h1.ag B).e h6;refine RX z (at_ (α:=Int) A_ z_3 z z z (a0.g he) ar) ?_;rintro _ ⟨_,_,_,rfl,au,av,_⟩;obtain ⟨rfl,aw⟩:=W_ av;refine R z (l0 g_3 z<|au.at0 z)<|Rm z ?_
 have hg:=lt_ h1.s h6.s;obtain ⟨ax,rb,_,ay,hmr⟩:=r_ af;refine E z (fc call94 z<|i_l (B:=B) ay ((hB1.e h1).e h6) (zt' V hg) hBg (W.g he) (Y.g he) ae aw a1) ?_;rintro _ I ⟨G,rfl,_,hw,az,hh,hi⟩;refine Rm z<|Re z z z<|Re z z z<|E z (fa b_y) ?_
 rintro _ wf ⟨rfl,hx⟩;have h2:=hx.below;refine Ra z<|E0 (fs0 (cur':=[vI rb.at_,vI rb.code]) K_ z z (hx.blk:Blk wf I.z [vI 0,vI 0]) z z z z) ?_
 rintro _ J ⟨hj,aA⟩;have h3:=aA.one;refine Wn<|Wq<|Ws<|Rf z c_U z<|R z (l0 g_3 z<|hj.at z)<|R z (nq z z)<|Wx z (λhck=>?_) (λhck=>?_)
 .refine Ws<|R z (lN (vs:=[vI rb.at_,vI rb.code]) a_m K_ z z fid<|hj.row 0 2 z) ?_
  have hy:=mm1 (Blk.lt hB1) h1.s;refine E0 (fs0 (cur':=[vI rb.at_,vI rb.code]) K_ z z (((L.c G<|atp hy).e h2).c h3<|djs<|mm1 L.lt G.s) z z z z) ?_;rintro _ aB ⟨aC,aD⟩;have hz:=aD.one;refine Wn ?_;obtain rfl:=som<|ifT hmr hck;have a3:=lt_ hg G.s;exact Wr<|i_ hr (v_ a_m K_ z aC z) ⟨(cM (cM (e_ (cM (e_ (e_ (cr [g1] w0) h1:Cg [g1] w0 H) h6:Cg [g1] w0 wc) G (io sr):Cg [g1] w0 I) h2:Cg [g1] w0 wf) h3 (mor a3:∀k∈[I.z],k∈[g1]∨w0.z<=k):Cg [g1] w0 J) hz (mor h1.s:∀k∈[H.z],k∈[g1]∨w0.z<=k):Cg [g1] w0 aB),z,hw,az,hh,((hi.e h2).c h3<|djs<|mm1 (Blk.lt hB1) a3).c hz<|djs hy⟩
 refine Wk<|Wq<|Ws<|Rf z a_O z ?_
 have a4:=((hv.c G<|atp<|mmr<|Blk.lt hB1).e h2).c h3<|djs<|mm1 ht.lt<|lt_ h6.s G.s
 refine R z (l0 C_ z<|a4.at z) ?_;have hd:=lt_ hg G.s;have a5:=((he.c G<|c_<|a_ hBg).e h2).c h3<|c_ (or0 (a_ lr) (m_<|zt' V hd):∀k∈[I.z],¬B k)
 refine R z (lnR A_ z<|O.g a5)<|Rm z<|Wn ?_
 obtain ⟨_,ah,hms⟩:=bdS<|ifF hmr hck;refine Wf (σ:=Unit) (ρ:=P_×Int) (λ(a6:Nat)(_:Unit) a w=>Sat 49 [(0,pt g1),(2,vI x3),(4,pt w0.z),(6,pt H.z),(7,vI ax),(8,pt I.z),(26,sl A2 N2 C2),(27,vI (x2.tags.length:Int)),(28,vI ((a6:Nat):Int))] a/\Below J.z J w) (λ(_:Unit) a w=>Sat 49 [(2,vI x3),(6,pt H.z)] a/\Below J.z J w) (rQ prog fn<|Q19 w0 g1 B A0 N0 C0 A1 N1 C1 x1) ah ?_ ?_ ?_ ?_ ?_
 .exact λ_ q=>⟨q.k<|s9 z z z z z z z z z,br J⟩
 .rintro a6 _ _ aE _ hkl ⟨ai,s8⟩ aj;refine Wu ?_ ai;refine Ws<|Rl z z z<|Wn<|Wq<|Wc z (λ_=>?_) (λhc=>(a_n hkl hc).elim)
  refine Wk<|Wq<|Wb<|Wm z ?_
  obtain ⟨_,aF,a2⟩:=bdS aj;have a7:=a5.e s8;refine RX z (at_ (α:=Int) A_ z_3 z z z (O.g a7) aF) ?_;rintro _ ⟨_,_,_,rfl,aG,aH,_⟩;obtain ⟨rfl,_⟩:=W_ aH;refine R z (l0 g_3 z<|aG.at0 z)<|Ra z<|Rw z<|Wm z<|Rm z<|Rq z z z<|Wx z (λhcm=>?_) (λhcm=>?_)
  .refine Wq (Wd (X:=noX) 1536 (pl_ 11 [9,10]) mo (by kernel_rfl) λaI sa _=>dM z z z<|dR z z (fd M_ z)<|dR z z (l0 C_ z<|((a4.e s8).e sa).at z)<|dM z z z<|dR z z (inc_ hkl (lt_ (repS.len O) X_) z z) ?_);obtain ⟨_,aJ,ak⟩:=bdS<|ifT a2 hcm;have hn:=a7.e sa;refine dRX z z (at_ (α:=Int) A_ z_3 z z z (a0.g hn) aJ) ?_;rintro _ ⟨_,_,_,rfl,aK,aL,_⟩;obtain ⟨rfl,aM⟩:=W_ aL;refine dR z z (l0 g_3 z<|aK.at0 z)<|dR z z (fd c_B z)<|dR z z (l0 g_3 z<|((hj.e s8).e sa).at z) ?_
   obtain ⟨a8,_,aN,al⟩:=a_9 ak;refine dE z z (fc call71 z<|aq.run (B:=B) aN ((((hi.e h2).c h3<|djs<|mm1 (Blk.lt hB1) hd).e s8).e sa) (zt' V<|lt_ (lt_ (lt_ (lt_ hd h2.s) h3.s) s8.s) sa.s) hBg (W.g hn) (Y.g hn) hh aM hw) (.inl z) ?_;rintro _ aO ⟨a9,rfl,aP,aQ,aR,aS⟩;have ho:=mm1 (Blk.lt hB1) h1.s;refine dE0 z (fs0 (cur':=[vI a8.at_,vI a8.code]) K_ z z ((((((L.c G<|atp ho).e h2).c h3<|djs<|mm1 L.lt G.s).e s8).e sa).c a9<|atp ho) z z z z) (.inl z) ?_;rintro _ aT ⟨aU,aV⟩;have aa:=aV.one;refine pD<|Wo ?_
   exact Wr<|rtO<|qL (som al).symm<|i_ hr (v_ a_m K_ z aU z) ⟨(cM (cM (e_ (e_ (cM (e_ (cM (e_ (e_ (cr [g1] w0) h1:Cg [g1] w0 H) h6:Cg [g1] w0 wc) G (io sr):Cg [g1] w0 I) h2:Cg [g1] w0 wf) h3 (mor hd:∀k∈[I.z],k∈[g1]∨w0.z<=k):Cg [g1] w0 J) s8:Cg [g1] w0 aE) sa:Cg [g1] w0 aI) a9 (io sr):Cg [g1] w0 aO) aa (mor h1.s:∀k∈[H.z],k∈[g1]∨w0.z<=k):Cg [g1] w0 aT),z,aP,aQ,aR,aS.c aa<|djs ho⟩
  exact Wk<|Wg<|R z (inc_ hkl (lt_ (repS.len O) X_) z z)<|Rm z<|Wl (λ_ q=>⟨(),(som<|ifF a2 hcm).symm,⟨q.k<|s9 z z z z z z z z z,s8⟩⟩)
 .rintro _ _ _ ⟨am,aW⟩;refine Wu ?_ am;refine Ws<|Rl z z z<|Wn<|Wq<|Wc z (λhc=>(a_o hc).elim) (λ_=>?_)
  exact We<|λ_ q=>⟨rfl,⟨q.k<|s2 z z,aW⟩⟩
 .rintro _ aX aY rfl ⟨_,sp⟩;have an:=elL hms;revert aX;refine Wo<|Wm z<|R z (bP (parts:=[(0,.tmp 47),(1,.const<|.int .i64 3)]) (cs:=[vI x3,vI 3]) c_1 z z) ?_
  have ab:=mm1 (Blk.lt hB1) h1.s;refine E0 (fs0 (cur':=[vI x3,vI 3]) K_ z z ((((L.c G<|atp ab).e h2).c h3<|djs<|mm1 L.lt G.s).e sp) z z z z) ?_;rintro _ aZ ⟨b0,b1⟩;have ad:=b1.one;refine Wn ?_;obtain rfl:=som an;exact Wr<|i_ hr (v_ a_m K_ z b0 z) ⟨(cM (e_ (cM (e_ (cM (e_ (e_ (cr [g1] w0) h1:Cg [g1] w0 H) h6:Cg [g1] w0 wc) G (io sr):Cg [g1] w0 I) h2:Cg [g1] w0 wf) h3 (mor hd:∀k∈[I.z],k∈[g1]∨w0.z<=k):Cg [g1] w0 J) sp:Cg [g1] w0 aY) ad (mor h1.s:∀k∈[H.z],k∈[g1]∨w0.z<=k):Cg [g1] w0 aZ),z,a1,ii z,hh,(((hi.e h2).c h3<|djs<|mm1 (Blk.lt hB1) hd).e sp).c ad<|djs ab⟩
 rintro _ _ _ _ rfl ⟨rfl,ao⟩;have ap:=elR hms;obtain rfl:=som ap;exact ⟨ao,z⟩
theorem T_w1g (ih:f_g n):j_J (h_h n<|a_G n):=by
 obtain ⟨af,_,_,_,_⟩:=ih
 constructor
 intro A0 A1 A3 A4 A2 A5 N0 C0 N1 C1 g1 N3 C3 N4 C4 N2 C2 N5 C5 B x1 x2 x3 res w0 hm hB1 V hBg a0 W Y aP aQ aR aS aT aU a9 a1;unfold h_h at hm
 refine goG func99 z z z λfn hr=>Ws<|E z (fb z) ?_
 rintro _ J ⟨rfl,hq⟩;have h5:=hq.below;have ht:Blk J w0.z (vR x2 A3 N3 C3 A4 N4 C4 A2 N2 C2 A5 N5 C5):=hq.blk;refine E z (fa b_y) ?_;rintro _ we ⟨rfl,hu⟩;have L:=hu.below;have hc:Blk we J.z [vI 0,vI 0]:=hu.blk;refine Wn<|Wm z<|Rm z ?_
 have hf:=(hB1.e h5).e L;have hg:=(h5.ag B).e L;have hh:=lt_ h5.s L.s;obtain ⟨O,ah,aa⟩:=bdS hm;refine E z (fc call96 z<|g_o (B:=w0.z) ah (b_a hh) (repS.mono (a0.g hg) V) (repS.mono (W.g hg) V) Y (hf.row 0 3 z) (Blk.lt hB1) a1<|ii z) ?_;rintro _ I ⟨G,rfl,hv,ai⟩;refine E z (fa b_y) ?_;rintro _ wi ⟨rfl,hw⟩;have h2:=hw.below;refine E0 (fs0 (cur':=[vI O.at_,vI O.code]) K_ z z (hw.blk:Blk wi I.z [vI 0,vI 0]) z z z z) ?_;rintro _ wa ⟨hj,aj⟩;have h3:=aj.one;refine Wn<|Wq<|Wb<|Wq ?_
 obtain ⟨ak,hur,hms⟩:=bdS aa;refine Wt (λa w=>∃(xk:Bool),xk=ak/\Sat 45 [(0,pt g1),(2,vI x3),(4,pt w0.z),(6,pt J.z),(7,pt I.z),(11,vB xk)] a/\Below wa.z wa w) ?_ ?_
 .refine Wg<|Rf z c_U z<|R z (l0 g_3 z<|hj.at z)<|R z (nq z z)<|Rm z ?_
  rcases bs (O.code != 0) with H | H
  .iterate 8 refine Nh z H ?_
   exact R z (pT z H z)<|Ra z<|Wl (λ_ q=>⟨true,som<|ifT hur H,q.k<|s6 z z z z z z,br wa⟩)
  refine Rh z H (mv z)<|Rh z H (O_ z)<|Rh z H (fd d_j z) ?_
  have hx:=lt_ hh G.s;refine Rh z H (l0 U_ z<|(((hf.e G).e h2).c h3<|djs<|mm1 (Blk.lt hB1) hx).at z)<|Rh z H (mv z) ?_
  obtain ⟨al,am,ab⟩:=bdS<|ifF hur H;refine RXg z z H z (at_ (α:=UInt8) s_ z_5 z z z (W.g<|((hg.e G).e h2).c h3<|c_ (or0 (a_ lr) (m_<|zt' V hx):∀k∈[I.z],¬B k)) am) ?_;rintro _ ⟨_,_,_,rfl,an,ao,_⟩;obtain rfl:=u8 ao;exact Rh z H (l0 g_5 z<|an.at0 z)<|Rh z H (eql z z)<|R z (pF z H z)<|Ra z<|Wl (λ_ q=>⟨(byteI al)==(byteI (0:UInt8)),som ab,q.k<|s6 z z z z z z,br wa⟩)
 rintro ap wl ⟨xk,rfl,_,s4⟩;revert ap;refine Wo<|Wc z (λhcm=>?_) (λhcm=>?_)
 .refine Ws<|R z (lN (vs:=[vI O.at_,vI O.code]) a_m K_ z z fid<|(hj.e s4).row 0 2 z)<|E0 (fs0 (cur':=[vI O.at_,vI O.code]) K_ z z ((((hc.e G).e h2).c h3<|djs<|mm1 hc.lt G.s).e s4) z z z z) ?_
  rintro _ aq ⟨ar,au⟩;have hy:=au.one;refine Wn ?_;obtain rfl:=som<|ifT hms hcm;have hz:=lt_ hh G.s;exact Wr<|rtO<|i_ hr (v_ a_m K_ z ar z) ⟨(cM (e_ (cM (e_ (e_ (e_ (e_ (cr [g1] w0) h5:Cg [g1] w0 J) L:Cg [g1] w0 we) G:Cg [g1] w0 I) h2:Cg [g1] w0 wi) h3 (mor hz:∀k∈[I.z],k∈[g1]∨w0.z<=k):Cg [g1] w0 wa) s4:Cg [g1] w0 wl) hy (mor h5.s:∀k∈[J.z],k∈[g1]∨w0.z<=k):Cg [g1] w0 aq),z,hv,ai,Y,((((hf.e G).e h2).c h3<|djs<|mm1 (Blk.lt hB1) hz).e s4).c hy<|djs<|mm1 (Blk.lt hB1) h5.s⟩
 refine Wm z<|R z (O_ z)<|Rf z d_j z ?_
 have hd:=lt_ hh G.s;have hn:=(((hf.e G).e h2).c h3<|djs<|mm1 (Blk.lt hB1) hd).e s4;refine R z (l0 U_ z<|hn.at z)<|Rm z ?_
 obtain ⟨_,av,a2⟩:=bdS<|ifF hms hcm;have a3:=(((hg.e G).e h2).c h3<|c_ (or0 (a_ lr) (m_<|zt' V hd):∀k∈[I.z],¬B k)).e s4;refine RX z (at_ (α:=UInt8) s_ z_5 z z z (W.g a3) av) ?_;rintro _ ⟨_,_,_,rfl,aw,ax,_⟩;obtain rfl:=u8 ax;refine R z (l0 g_5 z<|aw.at0 z)<|R z (a_b z z)<|Rw z<|Wc z (λhco=>?_) (λhco=>?_)
 .refine Wm z<|R z (bP (parts:=[(0,.tmp 35),(1,.const<|.int .i64 4)]) (cs:=[vI x3,vI 4]) c_1 z z)<|E0 (fs0 (cur':=[vI x3,vI 4]) K_ z z ((((hc.e G).e h2).c h3<|djs<|mm1 hc.lt G.s).e s4) z z z z) ?_
  rintro _ ay ⟨az,aA⟩;have a4:=aA.one;refine Wn ?_;obtain rfl:=som<|ifT a2 hco;exact Wr<|rtO<|i_ hr (v_ a_m K_ z az z) ⟨(cM (e_ (cM (e_ (e_ (e_ (e_ (cr [g1] w0) h5:Cg [g1] w0 J) L:Cg [g1] w0 we) G:Cg [g1] w0 I) h2:Cg [g1] w0 wi) h3 (mor hd:∀k∈[I.z],k∈[g1]∨w0.z<=k):Cg [g1] w0 wa) s4:Cg [g1] w0 wl) a4 (mor h5.s:∀k∈[J.z],k∈[g1]∨w0.z<=k):Cg [g1] w0 ay),z,a1,ii z,Y,hn.c a4<|djs<|mm1 (Blk.lt hB1) h5.s⟩
 refine Wk<|Wq (Wd (X:=noX) 384 (pl_ 9 [7,8]) mo (by kernel_rfl) λaB sb _=>dM z z z<|dR z z (fd M_ z)<|dR z z (l0 C_ z<|((((((ht.e L).e G).e h2).c h3<|djs<|mm1 ht.lt<|lt_ L.s G.s).e s4).e sb).at z) ?_)
 obtain ⟨_,aC,ad⟩:=bdS<|ifF a2 hco;have hp:=a3.e sb;refine dRX z z (at_ (α:=Int) A_ z_3 z z z (a9.g hp) aC) ?_;rintro _ ⟨_,_,_,rfl,aD,aE,_⟩;obtain ⟨rfl,aF⟩:=W_ aE;refine dR z z (l0 g_3 z<|aD.at0 z)<|dR z z (fd c_B z)<|dR z z (l0 g_3 z<|((hj.e s4).e sb).at z) ?_
 obtain ⟨a5,_,aG,ae⟩:=a_9 ad;refine dE z z (fc call71 z<|af.run (B:=B) aG (hn.e sb) (zt' V<|lt_ (lt_ (lt_ (lt_ hd h2.s) h3.s) s4.s) sb.s) hBg (a0.g hp) (W.g hp) Y aF hv) (.inl z) ?_;rintro _ aH ⟨a6,rfl,aI,aJ,aK,aL⟩;have a7:=mm1 (Blk.lt hB1) h5.s;refine dE0 z (fs0 (cur':=[vI a5.at_,vI a5.code]) K_ z z ((((((hc.e G).e h2).c h3<|djs<|mm1 hc.lt G.s).e s4).e sb).c a6<|atp a7) z z z z) (.inl z) ?_;rintro _ aM ⟨aN,aO⟩;have a8:=aO.one;refine pD<|Wo ?_
 obtain rfl:=som ae;exact Wr<|i_ hr (v_ a_m K_ z aN z) ⟨(cM (cM (e_ (e_ (cM (e_ (e_ (e_ (e_ (cr [g1] w0) h5:Cg [g1] w0 J) L:Cg [g1] w0 we) G:Cg [g1] w0 I) h2:Cg [g1] w0 wi) h3 (mor hd:∀k∈[I.z],k∈[g1]∨w0.z<=k):Cg [g1] w0 wa) s4:Cg [g1] w0 wl) sb:Cg [g1] w0 aB) a6 (io sr):Cg [g1] w0 aH) a8 (mor h5.s:∀k∈[J.z],k∈[g1]∨w0.z<=k):Cg [g1] w0 aM),z,aI,aJ,aK,aL.c a8<|djs a7⟩
theorem T_w1h (ih:f_g n):j_K (h_i n<|a_G n):=by
 obtain ⟨aw,_,_,_,_⟩:=ih
 constructor
 intro A0 A1 A3 A4 A2 A5 N0 C0 N1 C1 g1 N3 C3 N4 C4 N2 C2 N5 C5 B x1 x2 x3 res w0 hm hB1 L hBg V O am b2 b3 b4 b5 b6 b7 an ao;unfold h_i at hm
 refine goG func100 z z z λfn hr=>Ws<|E z (fb z) ?_
 rintro _ I ⟨rfl,a1⟩;have h4:=a1.below;refine E z (fa b_y) ?_;rintro _ wj ⟨rfl,a2⟩;have hd:=a2.below;have ha:Blk wj I.z [vI 0,vI 0]:=a2.blk;refine Wn<|Wm z<|Rf z M_ z<|R z (l0 C_ z<|((a1.blk:Blk I w0.z (vR x2 A3 N3 C3 A4 N4 C4 A2 N2 C2 A5 N5 C5)).e hd).at z) ?_
 obtain ⟨_,ax,ap⟩:=bdS hm;have hk:=(h4.ag B).e hd;refine RX z (at_ (α:=Int) A_ z_3 z z z (an.g hk) ax) ?_;rintro _ ⟨_,_,_,rfl,ay,az,_⟩;obtain ⟨rfl,aA⟩:=W_ az;refine R z (l0 g_3 z<|ay.at0 z)<|Rm z ?_
 have hq:=lt_ h4.s hd.s;obtain ⟨rb,_,aB,W⟩:=a_9 ap;refine E z (fc call71 z<|aw.run (B:=B) aB ((hB1.e h4).e hd) (zt' L hq) hBg (V.g hk) (O.g hk) am aA ao) ?_;rintro _ J ⟨s2,rfl,ht,aC,hl,a3⟩;refine E z (fa b_y) ?_;rintro _ wm ⟨rfl,a4⟩;have h5:=a4.below;have hu:Blk wm J.z [vI 0,vI 0]:=a4.blk;refine E0 (fs0 (cur':=[vI rb.at_,vI rb.code]) K_ z z hu z z z z) ?_;rintro _ wr ⟨hh,aD⟩;have h3:=aD.one;refine Wn<|Wq<|Ws<|Rf z c_U z<|R z (l0 g_3 z<|hh.at z)<|R z (nq z z)<|Wx z (λhcs=>?_) (λhcs=>?_)
 .refine Ws<|R z (lN (vs:=[vI rb.at_,vI rb.code]) a_m K_ z z fid<|hh.row 0 2 z) ?_
  have a5:=mm1 (Blk.lt hB1) h4.s;refine E0 (fs0 (cur':=[vI rb.at_,vI rb.code]) K_ z z (((ha.c s2<|atp a5).e h5).c h3<|djs<|mm1 ha.lt s2.s) z z z z) ?_;rintro _ aE ⟨aF,aG⟩;have a6:=aG.one;refine Wn ?_;obtain rfl:=som<|ifT W hcs;have a7:=lt_ hq s2.s;exact Wr<|i_ hr (v_ a_m K_ z aF z) ⟨(cM (cM (e_ (cM (e_ (e_ (cr [g1] w0) h4:Cg [g1] w0 I) hd:Cg [g1] w0 wj) s2 (io sr):Cg [g1] w0 J) h5:Cg [g1] w0 wm) h3 (mor a7:∀k∈[J.z],k∈[g1]∨w0.z<=k):Cg [g1] w0 wr) a6 (mor h4.s:∀k∈[I.z],k∈[g1]∨w0.z<=k):Cg [g1] w0 aE),z,ht,aC,hl,((a3.e h5).c h3<|djs<|mm1 (Blk.lt hB1) a7).c a6<|djs a5⟩
 refine Wk<|Wm z<|Rf z c_B z<|R z (l0 g_3 z<|hh.at z) ?_
 have hi:=lt_ hq s2.s;have hn:=(a3.e h5).c h3<|djs<|mm1 (Blk.lt hB1) hi
 have hv:=((hk.c s2<|c_<|a_ hBg).e h5).c h3<|c_ (or0 (a_ lr) (m_<|zt' L hi):∀k∈[J.z],¬B k)
 have ho:=lt_ (lt_ hi h5.s) h3.s;obtain ⟨re,aH,aq⟩:=bdS<|ifF W hcs;refine E z (fc call96 z<|g_o (B:=w0.z) aH (b_a ho) (repS.mono (V.g hv) L) (repS.mono (O.g hv) L) hl (hn.row 0 3 z) (Blk.lt hB1) ht<|ii z) ?_;rintro _ wf ⟨s1,rfl,aI,aJ⟩;refine E z (fa b_y) ?_;rintro _ ww ⟨rfl,a8⟩;have h6:=a8.below;refine E0 (fs0 (cur':=[vI re.at_,vI re.code]) K_ z z (a8.blk:Blk ww wf.z [vI 0,vI 0]) z z z z) ?_;rintro _ wp ⟨a9,aK⟩;have H:=aK.one;refine Wn<|Wq<|Wq ?_
 obtain ⟨aL,Y,a0⟩:=bdS aq;refine Wt (λa w=>∃(xx:Bool),xx=aL/\Sat 52 [(6,pt I.z),(7,pt J.z),(8,pt wf.z),(47,vB xx)] a/\Below wp.z wp w) ?_ ?_
 .refine Wd (X:=noX) 0 (pl_ 24 [21]) mo (by kernel_rfl) λb8 sg _=>dR z z (fd c_U z)<|dR z z (l0 g_3 z<|(a9.e sg).at z)<|dR z z (eql z z)<|dM z z z ?_
  rcases bs (re.code==0) with G | G
  .refine dRg z z z G z (mv z)<|dRg z z z G z (O_ z)<|dRg z z z G z (fd d_j z) ?_
   have hy:=lt_ ho s1.s;have aa:=(((hn.e s1).e h6).c H<|djs<|mm1 (Blk.lt hB1) hy).e sg;refine dRg z z z G z (l0 U_ z<|aa.at z)<|dRg z z z G z (fd c_B z) ?_
   have ab:=(((hh.e s1).e h6).c H<|djs<|mm1 hu.lt<|lt_ h3.s s1.s).e sg;refine dRg z z z G z (l0 g_3 z<|ab.at z) ?_;obtain ⟨aM,aN,ar⟩:=bdS<|ifT Y G;have ad:=O.g<|(((hv.e s1).e h6).c H<|c_ (or0 (a_ lr) (m_<|zt' L hy):∀k∈[wf.z],¬B k)).e sg
   refine c_l z z z G z (at_ (α:=UInt8) s_ z_5 z z z ad aN) ?_;rintro _ ⟨_,_,_,rfl,aO,aP,_⟩;obtain rfl:=u8 aP;refine dRg z z z G z (l0 g_5 z<|aO.at0 z)<|dRg z z z G z (c_7 d_5 d_3 z)<|dRg z z z G z (mv z)<|dRg z z z G z (O_ z)<|dRg z z z G z (fd d_j z)<|dRg z z z G z (l0 U_ z<|aa.at z)<|dRg z z z G z (mv z)<|dRg z z z G z (fd c_B z)<|dRg z z z G z (l0 g_3 z<|ab.at z) ?_
   obtain ⟨_,aQ,au⟩:=bdS ar;refine c_l z z z G z (rX s_ z_5 z z ad z z aQ) ?_;rintro _ ⟨_,_,_,rfl,aR⟩;obtain ⟨aS,aT,av⟩:=bdS au;refine dEg z z z G z (fc call21 z<|j_F aT (zt' L<|lt_ (lt_ (lt_ hy h6.s) H.s) sg.s) aR) (.inr λ_ _ h=>x_<|h.1) ?_;rintro _ _ ⟨aU,rfl,_⟩;exact dRg z z z G z (nq z z)<|dR z z (pT z G z)<|pD (λ_ q=>⟨(byteI aM) != aS,som av,q.k<|s4 z z z z,bup sg aU⟩)
  iterate 17 refine dRn z z z G z ?_
  exact dEn z z z G z<|dRn z z z G z<|dR z z (pF z G z)<|pD (λ_ q=>⟨false,som<|ifF Y G,q.k<|s4 z z z z,sg⟩)
 rintro aV ae ⟨xx,rfl,_,sc⟩;revert aV;refine Wo<|Wc z (λhcz=>?_) (λhcz=>?_)
 .refine Ws<|Rf z c_B z<|R z (l0 g_3 z<|((((hh.e s1).e h6).c H<|djs<|mm1 hu.lt<|lt_ h3.s s1.s).e sc).at z)<|R z (bP (parts:=[(0,.tmp 49),(1,.const<|.int .i64 5)]) (cs:=[vI rb.at_,vI 5]) c_1 z z) ?_
  have af:=mm1 (Blk.lt hB1) h4.s;refine E0 (fs0 (cur':=[vI rb.at_,vI 5]) K_ z z (((((((ha.c s2<|atp af).e h5).c h3<|djs<|mm1 ha.lt s2.s).e s1).e h6).c H<|djs<|mm1 ha.lt<|lt_ (lt_ (lt_ s2.s h5.s) h3.s) s1.s).e sc) z z z z) ?_;rintro _ aW ⟨aX,aY⟩;have ah:=aY.one;refine Wn ?_;obtain rfl:=som<|ifT a0 hcz;have ai:=lt_ ho s1.s;exact Wr<|i_ hr (v_ a_m K_ z aX z) ⟨(cM (e_ (cM (e_ (e_ (cM (e_ (cM (e_ (e_ (cr [g1] w0) h4:Cg [g1] w0 I) hd:Cg [g1] w0 wj) s2 (io sr):Cg [g1] w0 J) h5:Cg [g1] w0 wm) h3 (mor hi:∀k∈[J.z],k∈[g1]∨w0.z<=k):Cg [g1] w0 wr) s1:Cg [g1] w0 wf) h6:Cg [g1] w0 ww) H (mor ai:∀k∈[wf.z],k∈[g1]∨w0.z<=k):Cg [g1] w0 wp) sc:Cg [g1] w0 ae) ah (mor h4.s:∀k∈[I.z],k∈[g1]∨w0.z<=k):Cg [g1] w0 aW),z,ht,ii z,hl,((((hn.e s1).e h6).c H<|djs<|mm1 (Blk.lt hB1) ai).e sc).c ah<|djs af⟩
 refine Wk<|Ws<|R z (lN (vs:=[vI re.at_,vI re.code]) a_m K_ z z fid<|(a9.e sc).row 0 2 z) ?_
 have aj:=mm1 (Blk.lt hB1) h4.s;refine E0 (fs0 (cur':=[vI re.at_,vI re.code]) K_ z z (((((((ha.c s2<|atp aj).e h5).c h3<|djs<|mm1 ha.lt s2.s).e s1).e h6).c H<|djs<|mm1 ha.lt<|lt_ (lt_ (lt_ s2.s h5.s) h3.s) s1.s).e sc) z z z z) ?_;rintro _ aZ ⟨b0,b1⟩;have ak:=b1.one;refine Wn ?_;obtain rfl:=som<|ifF a0 hcz;have al:=lt_ ho s1.s;exact Wr<|i_ hr (v_ a_m K_ z b0 z) ⟨(cM (e_ (cM (e_ (e_ (cM (e_ (cM (e_ (e_ (cr [g1] w0) h4:Cg [g1] w0 I) hd:Cg [g1] w0 wj) s2 (io sr):Cg [g1] w0 J) h5:Cg [g1] w0 wm) h3 (mor hi:∀k∈[J.z],k∈[g1]∨w0.z<=k):Cg [g1] w0 wr) s1:Cg [g1] w0 wf) h6:Cg [g1] w0 ww) H (mor al:∀k∈[wf.z],k∈[g1]∨w0.z<=k):Cg [g1] w0 wp) sc:Cg [g1] w0 ae) ak (mor h4.s:∀k∈[I.z],k∈[g1]∨w0.z<=k):Cg [g1] w0 aZ),z,aI,aJ,hl,((((hn.e s1).e h6).c H<|djs<|mm1 (Blk.lt hB1) al).e sc).c ak<|djs aj⟩
theorem c_V:∀n,f_g n
  | 0=>⟨⟨λhm=>by intros;exact nomatch (show none=some _ from hm)⟩,⟨λhm=>by intros;exact nomatch (show none=some _ from hm)⟩,⟨λhm=>by intros;exact nomatch (show none=some _ from hm)⟩,⟨λhm=>by intros;exact nomatch (show none=some _ from hm)⟩,⟨λhm=>by intros;exact nomatch (show none=some _ from hm)⟩⟩
  | n+1=>⟨T_w03<|c_V n,T_w1e<|c_V n,T_w1f<|c_V n,T_w1g<|c_V n,T_w1h<|c_V n⟩
theorem W_w03:j_G (a_G n).impl_checker_value:=(c_V n).1
theorem W_w1e:j_H (a_G n).impl_checker_array:=(c_V n).2.1
theorem W_w1f:j_I (a_G n).impl_checker_choice:=(c_V n).2.2.1
theorem W_w1g:j_J (a_G n).impl_checker_option:=(c_V n).2.2.2.1
theorem W_w1h:j_K (a_G n).impl_checker_checked:=(c_V n).2.2.2.2
def Q20 (w0:World)(B:Zone)(r:Int×Int)(v:Value)(w':World):Prop:=Bw w0 w'/\un2 (λG H=>v = .tuple #[vI G,vI H]/\inI G/\inI H) r
theorem i_m {x1:g_}{x2:Int}{x3:Bt}{x4:Int}{res:Int×Int}(hm:c_M n x1 x2 x3 x4=some res)(J:B<=w0.z)(Y:repS w0 B (sl A0 N0 C0) x1.rules)(a0:inI x2)(a1:repS w0 B (sl A7 N7 C7) x3)(a2:inI x4):q_ prog 51 [(.agg #[sl A0 N0 C0]),vI x2,sl A7 N7 C7,vI x4] w0 (Q20 w0 B res):=by
 unfold c_M at hm
 refine goG func51 z z z λfn hr=>Ws<|E z (fb z) ?_
 rintro _ O ⟨rfl,hb⟩;have h3:=hb.below;have hc:Blk O w0.z [sl A0 N0 C0]:=hb.blk;refine Ra z<|Rw z<|Wq<|Wq ?_
 obtain ⟨ur,hus,hmd⟩:=bdS hm;refine Wt (λa w=>∃(V:Bool),V=ur/\Sat 43 [(1,vI x2),(2,sl A7 N7 C7),(3,vI x4),(4,pt w0.z),(30,vB V)] a/\Below O.z O w) ?_ ?_
 .refine Wg<|R z (lN (vs:=[sl A0 N0 C0]) B_ w_ z z fid<|hc.row 0 1 z)<|Rm z ?_
  obtain ⟨rt,eu,hme⟩:=bdS hus;refine E z (fc call70 z<|j_E eu (zt' J h3.s) (Y.e h3) a0) ?_;rintro _ _ ⟨s4,rfl⟩;refine R z (not_ z)<|Rm z ?_
  rcases bs (!rt) with H | H
  .exact Nh z H<|Nh z H<|R z (pT z H z)<|Rm z<|Nh z z<|Nh z z<|Nh z z<|Nh z z<|R z (pT z z z)<|Rm z<|Nh z z<|Nh z z<|Nh z z<|R z (pT z z z)<|Wl (λ_ q=>⟨true,som<|ifT hme H,q.k<|s5 z z z z z,s4⟩)
  have hmf:=ifF hme H;refine Rh z H (mv z)<|Rh z H (lss z z)<|R z (pF z H z)<|Rm z ?_
  rcases bs (decide<|x4<0) with G | G
  .iterate 4 refine Nh z G ?_
   exact R z (pT z G z)<|Rm z<|Nh z z<|Nh z z<|Nh z z<|R z (pT z z z)<|Wl (λ_ q=>⟨true,som<|ifT hmf G,q.k<|s5 z z z z z,s4⟩)
  have hmg:=ifF hmf G;refine Rh z G (mv z)<|Rh z G (mv z) ?_
  have hh:=a1.g<|(h3.ag B).e s4
  refine Rh z G (lnR s_ z hh)<|Rh z G (a_b z z)<|R z (pF z G z)<|Rm z ?_
  rcases bs (decide<|(x3.length:Int)<x4) with I | I
  .iterate 3 refine Nh z I ?_
   exact R z (pT z I z)<|Wl (λ_ q=>⟨true,som<|ifT hmg I,q.k<|s5 z z z z z,s4⟩)
  exact Rh z I (mv z)<|Rh z I (lnR s_ z hh)<|Rh z I (a_b z z)<|R z (pF z I z)<|Wl (λ_ q=>⟨decide<|400<(x3.length:Int),som<|ifF hmg I,q.k<|s5 z z z z z,s4⟩)
 rintro av wi ⟨V,rfl,_,s6⟩;revert av;refine Wo<|Wc z (λL=>?_) (λL=>?_)
 .refine Ws<|Ra z<|Rw z ?_
  obtain rfl:=som<|ifT hmd L;exact Wr<|a_e hr z z ⟨bup h3 s6,z,ii z,ii z⟩
 refine Wk<|Ws<|R z (lN (vs:=[sl A0 N0 C0]) B_ w_ z z fid<|(hc.e s6).row 0 1 z)<|Rm z<|R z (bP (parts:=[(0,.tmp 31),(1,.tmp 32)]) (cs:=[sl A0 N0 C0,sl A7 N7 C7,vI 0]) o_D z z)<|E z (fb z) ?_
 rintro _ ww ⟨rfl,hj⟩;have W:=hj.below;refine Rw z<|Wm z<|RM z z ?_
 have hk:=((h3.ag B).e s6).e W;have ha:=lt_ h3.s s6.s;have hl:=lt_ ha W.s;obtain ⟨rm,_,ez,a3⟩:=a_9<|ifF hmd L;refine E z (fc call71 z<|W_w03.run (B:=B) ez (hj.blk:Blk ww wi.z [sl A0 N0 C0,sl A7 N7 C7,vI 0]) (zt' J hl) (atp (or0 (a_ lr) (m_<|zt' J ha):∀k∈[wi.z],¬B k)) (Y.g hk) (a1.g hk) (ii z) a0 a2) ?_;rintro _ a4 ⟨sn,rfl,a5,a6,_,_⟩;refine E z (fa b_y) ?_;rintro _ a7 ⟨rfl,ho⟩;refine E0 (fs0 (cur':=[vI rm.at_,vI rm.code]) K_ z z (ho.blk:Blk a7 a4.z [vI 0,vI 0]) z z z z) ?_;rintro _ _ ⟨a8,a9⟩;refine Wn<|Wq (Wd (X:=noX) 0 (pl_ 6 []) mo (by kernel_rfl) λaa sp _=>dR z z (fd c_B z) ?_)
 have hq:=a8.e sp;refine dR z z (l0 g_3 z<|hq.at z)<|dR z z (fd c_U z)<|dR z z (l0 g_3 z<|hq.at z)<|dQ z z z<|dQ z z z<|pD<|Wo ?_
 obtain rfl:=som a3;exact Wr<|a_e hr z z ⟨bup (bM (bup (bM (bup (bup h3 s6) W) sn<|m1 ha) ho.below) a9.one<|m1<|lt_ hl sn.s) sp,z,a5,a6⟩
theorem W_w1i {x1:g_}{x2:Bt}{res:Int×Int}(hm:f_k n x1 x2=some res)(Y:B<=w0.z)(V:repS w0 B (sl A0 N0 C0) x1.rules)(W:repS w0 B (sl A6 N6 C6) x2):q_ prog 27 [(.agg #[sl A0 N0 C0]),sl A6 N6 C6] w0 (Q20 w0 B res):=by
 unfold f_k at hm
 refine goG func27 z z z λfn hr=>Ws<|E z (fb z) ?_
 rintro _ wj ⟨rfl,hb⟩;have h3:=hb.below;refine Ra z<|Rw z<|Wq (Wd (X:=noX) 0 (.rd 0<|.rd 1<|.rd 3<|.ef 2<|.ef 4<|.rd 5<|.rd 6<|.rd 7<|.rd 8<|.rd 9 .done) mo (by kernel_rfl) λws s1 _=>?_)
 have hc:=(hb.blk:Blk wj w0.z [sl A0 N0 C0]).e s1;refine dR z z (lN (vs:=[sl A0 N0 C0]) B_ w_ z z fid<|hc.row 0 1 z)<|dR z z (lN (vs:=[sl A0 N0 C0]) B_ w_ z z fid<|hc.row 0 1 z)<|dM z z z ?_
 have hd:=(h3.ag B).e s1;have he:=lt_ h3.s s1.s;obtain ⟨_,el,hmm⟩:=bdS hm;refine dE z z (fc call42 z<|f_f el (zt' Y he)<|V.g hd) (.inr λ_ _ h=>x_<|h.1) ?_;rintro _ _ ⟨s4,rfl,hn⟩;have L:=hd.e s4;obtain ⟨I,H,eo,hmp⟩:=a_9 hmm;refine dE z z (fc call51 z<|i_m eo (zt' Y<|lt_ he s4.s) (V.g L) hn (W.g L)<|ii z) (.inr λ_ _ h=>x_<|h.1) ?_;rintro _ J ⟨s8,rfl,hf,hq⟩;refine dM z z z<|dR z z (ext_ z z)<|dR z z (ext_ z z)<|dQ z z z<|dQ z z z<|pD<|Wo<|Wq<|Wq ?_
 obtain ⟨ur,hug,hmh⟩:=bdS hmp;refine Wt (λa w=>∃(O:Bool),O=ur/\Sat 30 [(6,vI I),(7,vI H),(26,vB O)] a/\Below J.z J w) ?_ ?_
 .refine Wg<|RM z z<|R z (bP (parts:=[(0,.tmp 16),(1,.tmp 17)]) (cs:=[vI I,vI H]) c_1 z z)<|Rm z<|R z (lnR s_ z<|W.g<|L.e s8)<|R z (bP (parts:=[(0,.tmp 20),(1,.const<|.int .i64 0)]) (cs:=[vI (x2.length:Int),vI 0]) c_1 z z)<|R z (n_u (a:=((⟨I,H⟩:P_):P_)) (b:=((⟨(x2.length:Int),0⟩:P_):P_)) eqa_91 z z)<|Rm z ?_
  rcases bs (!decide (((⟨I,H⟩:P_):P_)=((⟨(x2.length:Int),0⟩:P_):P_))) with G | G
  .exact Rh z G (mv z)<|Rh z G (eql z z)<|R z (pT z G z)<|Wl (λ_ q=>⟨H==0,som<|ifT hug G,q.k<|s3 z z z,br J⟩)
  exact Nh z G<|Nh z G<|R z (pF z G z)<|Wl (λ_ q=>⟨false,som<|ifF hug G,q.k<|s3 z z z,br J⟩)
 rintro au _ ⟨O,rfl,_,si⟩;revert au;refine Wo<|Wc z (λhca=>?_) (λhca=>?_)
 .refine Wm z<|Ra z<|Rw z ?_
  obtain rfl:=som<|ifT hmh hca;exact Wr<|a_e hr z z ⟨bup (bup (bup (bup h3 s1) s4) s8) si,z,hf,ii z⟩
 refine Wk<|Wm z<|Rm z<|Ra z<|Rw z ?_
 obtain rfl:=som<|ifF hmh hca;exact Wr<|a_e hr z z ⟨bup (bup (bup (bup h3 s1) s4) s8) si,z,hf,hq⟩
theorem W_w2h {x1:Int}{res:Str}(hm:j_6 x1=some res)(H:B<=w0.z)(hG:Gl w0 B)(G:inI x1):q_ prog 104 [vI x1] w0 (Q4 w0 B res):=by
 unfold j_6 at hm
 refine goG func104 z z z λfn hr=>Ws<|Rw z<|Wm z ?_
 obtain ⟨_,J,I⟩:=bdS hm;refine E z (fc call124 z<|o_f (B:=B) J H hG G) ?_;rintro _ _ ⟨s2,rfl,h3⟩;refine Rw z ?_
 obtain rfl:=som I;exact Wr<|i_ hr z ⟨s2,z,h3⟩
theorem W_w2i {x1:g_}{x2:Int}{x3:Int}{res:Str}(hm:e_g n x1 x2 x3=some res)(J:B<=w0.z)(hG:Gl w0 B)(W:repS w0 B (sl A0 N0 C0) x1.rules)(ae:inI x2)(af:inI x3):q_ prog 73 [(.agg #[sl A0 N0 C0]),vI x2,vI x3] w0 (Q4 w0 B res):=by
 unfold e_g at hm
 refine goG func73 z z z λfn hr=>Ws<|E z (fb z) ?_
 rintro _ wb ⟨rfl,hn⟩;have G:=hn.below;have ho:Blk wb w0.z [sl A0 N0 C0]:=hn.blk;refine Rw z<|Wq<|Wq ?_
 obtain ⟨ak,ah,hmp⟩:=bdS hm;refine Wt (λa w=>∃(xc:Bool),xc=ak/\Sat 58 [(1,vI x2),(2,vI x3),(3,pt w0.z),(15,vB xc)] a/\Below wb.z wb w) ?_ ?_
 .refine Wg<|R z (lN (vs:=[sl A0 N0 C0]) B_ w_ z z fid<|ho.row 0 1 z)<|Rm z ?_
  obtain ⟨al,am,hmq⟩:=bdS ah;refine E z (fc call70 z<|j_E am (zt' J G.s) (W.e G) ae) ?_;rintro _ _ ⟨sr,rfl⟩;refine R z (not_ z)<|Rm z ?_
  rcases bs (!al) with I | I
  .exact Nh z I<|Nh z I<|R z (pT z I z)<|Wl (λ_ q=>⟨true,som<|ifT hmq I,q.k<|s4 z z z z,sr⟩)
  exact Rh z I (mv z)<|Rh z I (lss z z)<|R z (pF z I z)<|Wl (λ_ q=>⟨decide<|x3<0,som<|ifF hmq I,q.k<|s4 z z z z,sr⟩)
 rintro an L ⟨xc,rfl,_,s1⟩;revert an;refine Wo<|Wc z (λhcd=>?_) (λhcd=>?_)
 .refine Ws<|Rw z ?_
  obtain rfl:=som<|ifT hmp hcd;exact Wr<|i_ hr z ⟨bup G s1,z,lb z⟩
 refine Wk<|Ws<|Rf z T_ z<|R z (l0 V_ z<|(ho.e s1).at z)<|Rm z ?_
 obtain ⟨V,ao,hms⟩:=bdS<|ifF hmp hcd;refine RX z (at_ (α:=d_) N_ t_ z z z (W.g<|(G.ag B).e s1) ao) ?_;rintro _ ⟨_,_,_,rfl,ap,aq,_⟩;obtain ⟨au,nt,cv,aw,nx,cy,az,a5,a6,a7,a8,a9,rfl,_,_,_,_,aa,_,_⟩:=a_T aq;refine R z (lN (vs:=vR V au nt cv aw nx cy az a5 a6 a7 a8 a9) R_ t_ z z fid ap)<|E z (fa b_M) ?_
 rintro _ ar ⟨rfl,ab⟩;have h2:=ab.below;refine E0 (fs0 (cur':=vR V au nt cv aw nx cy az a5 a6 a7 a8 a9) t_ z z (ab.blk:Blk ar L.z [(Str.v (⟨[]⟩:Str)),vI 0,vI 0,vB false,sN,sN,sN,sN]) z z z z) ?_;rintro _ wa ⟨O,av⟩;have h3:=av.one;refine Wn<|Wq<|Wb<|Ws<|Rf z a_V z<|R z (l0 g_3 z<|O.at z)<|Rq z z z<|Rw z<|Wc z (λhce=>?_) (λhce=>?_)
 .refine Wm z ?_
  have hf:=lt_ G.s s1.s;obtain ⟨_,ax,ai⟩:=bdS<|ifT hms hce;refine E z (fc call104 z<|W_w2h ax (zt' J<|lt_ (lt_ hf h2.s) h3.s) ((((hG.e G).e s1).e h2).c h3<|c_ (or0 (a_ lr) (m_<|zt' J hf):∀k∈[L.z],¬B k)) af) ?_;rintro _ _ ⟨ay,rfl,aA⟩;refine Rw z ?_
  obtain rfl:=som ai;exact Wr<|rtO<|i_ hr z ⟨bup (bM (bup (bup G s1) h2) h3<|m1 hf) ay,z,aA⟩
 refine Wq ?_;obtain ⟨aB,Y,a0⟩:=bdS<|ifF hms hce;refine Wt (λa w=>∃(xg:Bool),xg=aB/\Sat 58 [(2,vI x3),(7,pt L.z),(27,vB xg)] a/\Below wa.z wa w) ?_ ?_
 .refine Wg<|Rf z a_V z<|R z (l0 g_3 z<|O.at z)<|Rq z z z<|Rm z ?_
  rcases bs (V.kind==6) with H | H
  .refine Rh z H (mv z)<|Rh z H (fd b_x z)<|Rh z H (l0 b_8 z<|O.at z) ?_
   exact Rh z H (lnR a_X z<|aa.g<|(h2.ag B).c h3<|c_ (or0 (a_ lr) (m_<|zt' J<|lt_ G.s s1.s):∀k∈[L.z],¬B k))<|Rh z H (lss z z)<|R z (pT z H z)<|Ra z<|Wl (λ_ q=>⟨decide<|x3<(V.names.length:Int),som<|ifT Y H,q.k<|s3 z z z,br wa⟩)
  iterate 5 refine Nh z H ?_
  exact R z (pF z H z)<|Ra z<|Wl (λ_ q=>⟨false,som<|ifF Y H,q.k<|s3 z z z,br wa⟩)
 rintro aC _ ⟨xg,rfl,_,s6⟩;revert aC;refine Wo<|Wc z (λhch=>?_) (λhch=>?_)
 .refine Ws<|Rf z b_x z<|R z (l0 b_8 z<|(O.e s6).at z)<|Rm z ?_
  obtain ⟨_,aD,aj⟩:=bdS<|ifT a0 hch;have ad:=lt_ G.s s1.s;refine RX z (at_ (α:=Str) a_X z_9 z z z (aa.g<|((h2.ag B).c h3<|c_ (or0 (a_ lr) (m_<|zt' J ad):∀k∈[L.z],¬B k)).e s6) aD) ?_;rintro _ ⟨_,_,_,rfl,aE,aF,_⟩;obtain ⟨rfl,aG⟩:=c_y aF;refine R z (l0 g_9 z<|aE.at0 z)<|Rw z ?_
  obtain rfl:=som aj;exact Wr<|rtO<|i_ hr z ⟨bup (bM (bup (bup G s1) h2) h3<|m1 ad) s6,z,aG⟩
 have a1:=ifF a0 hch;refine Wm z<|R z (a_b z z)<|Rw z<|Wc z (λhci=>?_) (λhci=>?_)
 .refine Ws<|Rw z ?_
  obtain rfl:=som<|ifT a1 hci;exact Wr<|rtO<|i_ hr z ⟨bup (bM (bup (bup G s1) h2) h3<|m1<|lt_ G.s s1.s) s6,z,lb z⟩
 have a2:=ifF a1 hci;refine Ws<|Rf z a_V z ?_
 have hj:=O.e s6;refine R z (l0 g_3 z<|hj.at z)<|Rq z z z<|Rw z<|Wc z (λhck=>?_) (λhck=>?_)
 .refine Ws<|Rw z ?_
  obtain rfl:=som<|ifT a2 hck;exact Wr<|rtO<|i_ hr z ⟨bup (bM (bup (bup G s1) h2) h3<|m1<|lt_ G.s s1.s) s6,z,lb z⟩
 have a3:=ifF a2 hck;refine Ws<|Rf z a_V z<|R z (l0 g_3 z<|hj.at z)<|Rq z z z<|Rw z<|Wc z (λhcl=>?_) (λhcl=>?_)
 .refine Ws<|Rw z ?_
  obtain rfl:=som<|ifT a3 hcl;exact Wr<|rtO<|i_ hr z ⟨bup (bM (bup (bup G s1) h2) h3<|m1<|lt_ G.s s1.s) s6,z,lb z⟩
 have a4:=ifF a3 hcl;refine Ws<|Rf z a_V z<|R z (l0 g_3 z<|hj.at z)<|Rq z z z<|Rw z<|Wc z (λhcm=>?_) (λhcm=>?_)
 .refine Ws<|Rw z ?_
  obtain rfl:=som<|ifT a4 hcm;exact Wr<|rtO<|i_ hr z ⟨bup (bM (bup (bup G s1) h2) h3<|m1<|lt_ G.s s1.s) s6,z,lb z⟩
 refine Wk<|Ws<|Rw z ?_
 obtain rfl:=som<|ifF a4 hcm;exact Wr<|i_ hr z ⟨bup (bM (bup (bup G s1) h2) h3<|m1<|lt_ G.s s1.s) s6,z,lb z⟩
theorem W_w2j {x1:Int}{x2:Int}{G H:Nat}{res:Bool}(hm:i_r x1 x2=some res)(V:B<=w0.z)(J:inI x1)(L:inI x2)(I:a_1 w0 G H [vI x2])(O:B G):q_ prog 60 [vI x1,(.pointer<|some ⟨G,H,none⟩)] w0 (Q0 w0 B res):=by
 unfold i_r at hm
 refine goG func60 z z z λfn hr=>Ws<|Rw z<|Wm z<|R z (l0 g_3 z<|I.at0 z)<|Rq z z z<|Rw z ?_
 obtain rfl:=som hm;exact Wr<|i_ hr z ⟨br w0,z⟩
theorem W_w2k {x1:List Int}{J:Int}{H L:Nat}{res:Int}(hm:g_r x1 J=some res)(a2:B<=w0.z)(I:repS w0 B (sl A0 N0 C0) x1)(p2c0_0:inI J)(a1:a_1 w0 H L [vI J])(a0:B H):q_ prog 59 [sl A0 N0 C0,(.func (.func 60) #[] #[(.pointer<|some ⟨H,L,none⟩)])] w0 (Q9 w0 B res):=by
 unfold g_r at hm
 refine goG func59 z z z λfn hr=>Ws<|Rw z<|Wq<|Wm z<|R z (lnR A_ z I)<|Rm z<|Wn ?_
 obtain ⟨_,a3,W⟩:=bdS hm;refine Wf (σ:=Unit) (ρ:=Int) (λ(k4:Nat)(_:Unit) a w=>Sat 19 [(1,.func (.func 60) #[] #[(.pointer<|some ⟨H,L,none⟩)]),(7,sl A0 N0 C0),(8,vI (x1.length:Int)),(9,vI ((k4:Nat):Int))] a/\Below w0.z w0 w) (λ(_:Unit) a w=>Sat 19 [] a/\Below w0.z w0 w) (rQ prog fn<|Q9 w0 B) a3 ?_ ?_ ?_ ?_ ?_
 .exact λ_ q=>⟨q.k<|s4 z z z z,br w0⟩
 .rintro k4 _ _ _ _ O ⟨a4,G⟩ a5;refine Wu ?_ a4;refine Ws<|Rl z z z<|Wn<|Wq<|Wc z (λ_=>?_) (λhc=>(a_n O hc).elim)
  refine Wk<|Wq<|Wb<|Wm z ?_
  obtain ⟨_,ea,hmb⟩:=bdS a5;refine RX z (at_ (α:=Int) A_ z_3 z z z (I.e G) ea) ?_;rintro _ ⟨_,_,_,rfl,hd,he,_⟩;obtain ⟨rfl,hf⟩:=W_ he;refine R z (l0 g_3 z<|hd.at0 z)<|Ra z<|Rw z<|Wm z<|Rm z ?_
  obtain ⟨_,ec,Y⟩:=bdS hmb;refine E z (j_d call60 z z<|W_w2j ec (zt' a2 G.s) hf p2c0_0 (a1.e G) a0) ?_;rintro _ _ ⟨s6,rfl⟩;refine Wx z (λV=>?_) (λV=>?_)
  .exact Wm z<|Rw z<|Wr<|rtO<|qL (som<|ifT Y V).symm<|i_ hr z ⟨bup G s6,z,ic (Nat.le_of_lt O)<|lt_ (repS.len I) X_⟩
  exact Wk<|Wg<|R z (inc_ O (lt_ (repS.len I) X_) z z)<|Rm z<|Wl (λ_ q=>⟨(),(som<|ifF Y V).symm,⟨q.k<|s4 z z z z,bup G s6⟩⟩)
 .rintro _ _ _ ⟨hSg,sh⟩;refine Wu ?_ hSg;refine Ws<|Rl z z z<|Wn<|Wq<|Wc z (λhc=>(a_o hc).elim) (λ_=>?_)
  exact We<|λ_ q=>⟨rfl,⟨q.k sn,sh⟩⟩
 .rintro _ ai _ rfl ⟨_,sj⟩;have hmk:=elL W;revert ai;refine Wo<|Ws<|Rw z ?_
  obtain rfl:=som hmk;exact Wr<|i_ hr z ⟨sj,z,ii z⟩
 rintro _ _ _ _ rfl ⟨rfl,hql⟩;have hmm:=elR W;obtain rfl:=som hmm;exact ⟨hql,z⟩
def Q21 (w0:World)(g1:Nat)(B:Zone)(A0:Option Addr)(N0 C0:Nat)(A1:Option Addr)(N1 C1:Nat)(x1:b_v)(r:Str×Int)(v:Value)(w':World):Prop:=Cg [g1] w0 w'/\un2 (λG H=>v = .tuple #[]/\G.b.length<=LEN/\inI H/\Blk w' g1 [sl A0 N0 C0,sl A1 N1 C1,Str.v G,vI H]) r
def Q22 (w0:World)(g1:Nat)(B:Zone)(A0:Option Addr)(N0 C0:Nat)(A1:Option Addr)(N1 C1:Nat)(x1:b_v)(r:Int×Bool×Str×Int)(v:Value)(w':World):Prop:=Cg [g1] w0 w'/\un4 (λG J H I=>v = .tuple #[vI G,vB J]/\inI G/\H.b.length<=LEN/\inI I/\Blk w' g1 [sl A0 N0 C0,sl A1 N1 C1,Str.v H,vI I]) r
structure j_L (f:b_v->Str->Int->Int->Option (Str×Int)):Prop where
  run:∀{A0 A1:Option Addr}{N0 C0 N1 C1 g1:Nat}{B:Zone}{x1:b_v}{x2:Str}{x3:Int}{x4:Int}{res:Str×Int}{w0:World}(hm:f x1 x2 x3 x4=some res)(hB1:Blk w0 g1 [sl A0 N0 C0,sl A1 N1 C1,Str.v x1.path,vI x1.rule])(hBw:B<=w0.z)(hBg:¬B g1)(hG:Gl w0 B)(p1_0:repS w0 B (sl A0 N0 C0) x1.d.rules)(p1_1:repS w0 B (sl A1 N1 C1) x1.b)(p1_2:x1.path.b.length<=LEN)(p1_3:inI x1.rule)(p2_0:x2.b.length<=LEN)(p3_0:inI x3)(p4_0:inI x4),q_ prog 43 [pt g1,Str.v x2,vI x3,vI x4] w0<|Q21 w0 g1 B A0 N0 C0 A1 N1 C1 x1 res
structure j_M (f:b_v->Str->Int->(List Int)->Int->Option (Int×Bool×Str×Int)):Prop where
  run:∀{A0 A1 AD:Option Addr}{N0 C0 N1 C1 g1 ND CD:Nat}{B:Zone}{x1:b_v}{x2:Str}{x3:Int}{x4:List Int}{x5:Int}{res:Int×Bool×Str×Int}{w0:World}(hm:f x1 x2 x3 x4 x5=some res)(hB1:Blk w0 g1 [sl A0 N0 C0,sl A1 N1 C1,Str.v x1.path,vI x1.rule])(hBw:B<=w0.z)(hBg:¬B g1)(hG:Gl w0 B)(p1_0:repS w0 B (sl A0 N0 C0) x1.d.rules)(p1_1:repS w0 B (sl A1 N1 C1) x1.b)(p1_2:x1.path.b.length<=LEN)(p1_3:inI x1.rule)(p2_0:x2.b.length<=LEN)(p3_0:inI x3)(p4_0:repS w0 B (sl AD ND CD) x4)(p5_0:inI x5),q_ prog 57 [pt g1,Str.v x2,vI x3,sl AD ND CD,vI x5] w0<|Q22 w0 g1 B A0 N0 C0 A1 N1 C1 x1 res
abbrev j_N (n:Nat):Prop:=j_L (a_Z n).impl_tracer_part/\j_M (a_Z n).impl_tracer_kids
theorem T_w09 (ih:j_N n):j_L (e_t n<|a_Z n):=by
 obtain ⟨_,ae⟩:=ih
 constructor
 intro A0 A1 N0 C0 N1 C1 g1 B x1 x2 x3 x4 res w0 hm hB1 V hBg hG a0 a1 f8 f9 W Y aY;unfold e_t at hm
 refine goG func43 z z z λfn hr=>Wm z<|RM z z<|Rm z<|R z (O_ z)<|Rf z l_h z<|E0 (fs0 (cur':=[sl A0 N0 C0,sl A1 N1 C1,Str.v x2,vI x1.rule]) z_9 z z hB1 z z z z) ?_
 rintro _ aL ⟨cW,cX⟩;have L:=cX.one;refine R z (O_ z)<|Rf z l_i z<|E0 (fs0 (cur':=[sl A0 N0 C0,sl A1 N1 C1,Str.v x2,vI x3]) z_3 z z cW z z z z) ?_
 rintro _ J ⟨hl,cY⟩;have O:=cY.one;refine Wn<|Wm z<|R z (O_ z)<|Rf z g_j z<|Rf z T_ z<|R z (l0 V_ z<|hl.at z)<|Rm z ?_
 obtain ⟨xm,cZ,c3⟩:=bdS hm;have hu:=(L.agc B<|c_<|a_ hBg).c O<|c_<|a_ hBg
 refine RX z (at_ (α:=d_) N_ t_ z z z (a0.g hu) cZ) ?_;rintro _ ⟨_,_,_,rfl,d0,d1,_⟩;obtain ⟨bf,bg,bh,bi,bj,bk,bm,bn,bo,bp,bq,bt,rfl,_,_,_,_,_,d2,hq⟩:=a_T d1;refine R z (lN (vs:=vR xm bf bg bh bi bj bk bm bn bo bp bq bt) R_ t_ z z fid d0)<|E z (fa b_M) ?_
 rintro _ af ⟨rfl,bu⟩;have h4:=bu.below;have bv:Blk af J.z [(Str.v (⟨[]⟩:Str)),vI 0,vI 0,vB false,sN,sN,sN,sN]:=bu.blk;refine E0 (fs0 (cur':=vR xm bf bg bh bi bj bk bm bn bo bp bq bt) t_ z z bv z z z z) ?_;rintro _ wn ⟨ah,d3⟩;have h3:=d3.one;refine Wn<|Ws<|Rf z a_V z<|R z (l0 g_3 z<|ah.at z)<|Wn<|Wb<|Wq<|Ws<|Rq z z z<|Rw z ?_
 obtain ⟨d4,aZ,c4⟩:=bdS c3;refine Wt (λa w=>∃(aM:Bool),aM=d4/\Sat 156 [(0,pt g1),(1,Str.v x2),(2,vI x3),(3,vI x4),(8,pt J.z),(32,vI xm.kind),(33,vB aM)] a/\Below wn.z wn w) ?_ ?_
 .refine Wc z (λaB=>?_)<|λaB=>?_
  .exact a_c<|λ_ q=>⟨xm.kind==6,som<|ifT aZ aB,q.k<|s7 z z z z z z z,br wn⟩
  exact Wg<|Rq z z z<|Ra z<|Wl (λ_ q=>⟨xm.kind==9,som<|ifF aZ aB,q.k<|s7 z z z z z z z,br wn⟩)
 rintro d5 I ⟨aM,rfl,_,H⟩;revert d5;refine Wo ?_;obtain ⟨d6,b0,aa⟩:=bdS c4;refine Wt (λa w=>∃(ai:Str)(aj:Int),Sum.inl (ai,aj)=d6/\Sat 156 [] a/\Cg [g1] I w/\ai.b.length<=LEN/\inI aj/\Blk w g1 [sl A0 N0 C0,sl A1 N1 C1,Str.v ai,vI aj]) ?_ ?_
 .refine Wc z (λaC=>?_)<|λaC=>?_
  .refine Wg<|RM z z<|Rm z<|Rf z M_ z<|R z (l0 C_ z<|(ah.e H).at z)<|Rm z ?_
   have aN:=lt_ L.s O.s;have aO:∀k∈[J.z],¬B k:=or0 (a_ lr)<|m_<|zt' V aN;have bw:=((hu.e h4).c h3<|c_ aO).e H;obtain ⟨_,_,d7,d8,d9,c5⟩:=bd4S<|ifT b0 aC;refine E z (fc call57 z<|ae.run (B:=B) d9 (((hl.e h4).c h3<|djs<|mm1 (Blk.lt hB1) aN).e H) (zt' V<|lt_ (lt_ (lt_ aN h4.s) h3.s) H.s) hBg (((((hG.c L<|c_<|a_ hBg).c O<|c_<|a_ hBg).e h4).c h3<|c_ aO).e H) (a0.g bw) (a1.g bw) W Y W Y (hq.g<|((h4.ag B).c h3<|c_ aO).e H) aY) ?_;rintro _ da ⟨db,rfl,_,dc,dd,de⟩;refine Wl ?_;exact λ_ q=>⟨d7,d8,som c5,q.k sn,(cM (cr [g1] I) db (io sr):Cg [g1] I da),dc,dd,de⟩
  refine Ws<|Rq z z z<|Rw z ?_
  obtain ⟨df,b1,ab⟩:=bdS<|ifF b0 aC;refine Wt (λa w=>∃(xs:Str)(xv:Int),Sum.inl (xs,xv)=df/\Sat 156 [] a/\Cg [g1] I w/\xs.b.length<=LEN/\inI xv/\Blk w g1 [sl A0 N0 C0,sl A1 N1 C1,Str.v xs,vI xv]) ?_ ?_
  .refine Wc z (λaD=>?_)<|λaD=>?_
   .refine Wq ?_;obtain ⟨dg,b2,c6⟩:=bdS<|ifT b1 aD;refine Wt (λa w=>∃(aP:Bool),aP=dg/\Sat 156 [(0,pt g1),(1,Str.v x2),(2,vI x3),(3,vI x4),(8,pt J.z),(61,vB aP)] a/\Below I.z I w) ?_ ?_
    .refine Wg<|RM z z<|R z (O_ z)<|Rf z g_k z ?_
     have bx:=lt_ L.s O.s;have bz:=((hl.e h4).c h3<|djs<|mm1 (Blk.lt hB1) bx).e H;refine R z (l0 U_ z<|bz.at z) ?_;have bA:=a1.g<|((hu.e h4).c h3<|c_ (or0 (a_ lr) (m_<|zt' V bx):∀k∈[J.z],¬B k)).e H
     refine R z (lnR s_ z bA)<|Rl z z z<|Rm z ?_
     rcases bs (decide<|x4<(x1.b.length:Int)) with hca | hca
     .refine Rh z hca (mv z)<|Rh z hca (O_ z)<|Rh z hca (fd g_k z)<|Rh z hca (l0 U_ z<|bz.at z)<|Rh z hca (mv z) ?_
      obtain ⟨dh,di,c7⟩:=bdS<|ifT b2 hca;refine RXg z z hca z (at_ (α:=UInt8) s_ z_5 z z z bA di) ?_;rintro _ ⟨_,_,_,rfl,dj,dk,_⟩;obtain rfl:=u8 dk;exact Rh z hca (l0 g_5 z<|dj.at0 z)<|Rh z hca (eql z z)<|R z (pT z hca z)<|Wl (λ_ q=>⟨(byteI dh)==(byteI (1:UInt8)),som c7,q.k<|s6 z z z z z z,br I⟩)
     iterate 8 refine Nh z hca ?_
     exact R z (pF z hca z)<|Wl (λ_ q=>⟨false,som<|ifF b2 hca,q.k<|s6 z z z z z z,br I⟩)
    rintro dl ww ⟨aP,rfl,_,sh⟩;revert dl;refine Wo ?_;obtain ⟨dm,b3,c8⟩:=bdS c6;refine Wt (λa w=>∃(xx:Str)(xy:Int),(xx,xy)=dm/\Sat 156 [] a/\Cg [g1] ww w/\xx.b.length<=LEN/\inI xy/\Blk w g1 [sl A0 N0 C0,sl A1 N1 C1,Str.v xx,vI xy]) ?_ ?_
    .refine Wc z (λaE=>?_)<|λaE=>?_
     .refine Wg<|RM z z<|Rm z<|Rf z M_ z<|R z (l0 C_ z<|((ah.e H).e sh).at z)<|Rm z<|R z (add_ z z) ?_
      have aQ:=lt_ L.s O.s;have aR:∀k∈[J.z],¬B k:=or0 (a_ lr)<|m_<|zt' V aQ;have bB:=(((hu.e h4).c h3<|c_ aR).e H).e sh;obtain ⟨_,_,dn,dp,dq,c9⟩:=bd4S<|ifT b3 aE;refine E z (fc call57 z<|ae.run (B:=B) dq ((((hl.e h4).c h3<|djs<|mm1 (Blk.lt hB1) aQ).e H).e sh) (zt' V<|lt_ (lt_ (lt_ (lt_ aQ h4.s) h3.s) H.s) sh.s) hBg ((((((hG.c L<|c_<|a_ hBg).c O<|c_<|a_ hBg).e h4).c h3<|c_ aR).e H).e sh) (a0.g bB) (a1.g bB) W Y W Y (hq.g<|(((h4.ag B).c h3<|c_ aR).e H).e sh)<|iA _ _) ?_;rintro _ dr ⟨ds,rfl,_,dt,du,dv⟩;refine Wl ?_;exact λ_ q=>⟨dn,dp,som c9,q.k sn,(cM (cr [g1] ww) ds (io sr):Cg [g1] ww dr),dt,du,dv⟩
     exact a_c<|λ_ q=>⟨x2,x3,som<|ifF b3 aE,q.k sn,cr [g1] ww,W,Y,(((hl.e h4).c h3<|djs<|mm1 (Blk.lt hB1)<|lt_ L.s O.s).e H).e sh⟩
    rintro dw dx ⟨xx,xy,rfl,_,dy,dz,dA,dB⟩;revert dw;exact λ_ q=>⟨xx,xy,som<|a_A c8,q.k sn,(cM (e_ (cr [g1] I) sh:Cg [g1] I ww) dy (io sr):Cg [g1] I dx),dz,dA,dB⟩
   refine Wq<|Ws<|Rq z z z<|Rw z ?_
   obtain ⟨dC,b4,ca⟩:=bdS<|ifF b1 aD;refine Wt (λa w=>∃(aS:Bool),aS=dC/\Sat 156 [(0,pt g1),(1,Str.v x2),(2,vI x3),(3,vI x4),(8,pt J.z),(70,vB aS)] a/\Below I.z I w) ?_ ?_
   .refine Wc z (λaF=>?_)<|λaF=>?_
    .exact a_c<|λ_ q=>⟨xm.kind==5,som<|ifT b4 aF,q.k<|s6 z z z z z z,br I⟩
    exact Wg<|Rq z z z<|Ra z<|Wl (λ_ q=>⟨xm.kind==7,som<|ifF b4 aF,q.k<|s6 z z z z z z,br I⟩)
   rintro dD wf ⟨aS,rfl,_,sd⟩;revert dD;refine Wo ?_;obtain ⟨dF,b5,ad⟩:=bdS ca;refine Wt (λa w=>∃(xz:Str)(a2:Int),Sum.inl (xz,a2)=dF/\Sat 156 [] a/\Cg [g1] wf w/\xz.b.length<=LEN/\inI a2/\Blk w g1 [sl A0 N0 C0,sl A1 N1 C1,Str.v xz,vI a2]) ?_ ?_
   .refine Wc z (λaG=>?_)<|λaG=>?_
    .refine Wq (Wd (X:=noX) 0 (pl_ 19 [13]) mo (by kernel_rfl) λaT se _=>dM z z z<|dR z z (O_ z)<|dR z z (fd g_j z) ?_);have a3:=lt_ L.s O.s;have hi:=((((hl.e h4).c h3<|djs<|mm1 (Blk.lt hB1) a3).e H).e sd).e se;refine dR z z (lN (vs:=[sl A0 N0 C0]) B_ w_ z z fid<|hi.row 0 1 z)<|dR z z (fd M_ z) ?_
     have aU:=((ah.e H).e sd).e se;refine dR z z (l0 C_ z<|aU.at z) ?_;obtain ⟨_,dG,cb⟩:=bdS<|ifT b5 aG;have ak:∀k∈[J.z],¬B k:=or0 (a_ lr)<|m_<|zt' V a3;have al:=((((h4.ag B).c h3<|c_ ak).e H).e sd).e se;refine dRX z z (at_ (α:=Int) A_ z_3 z z z (hq.g al) dG) ?_;rintro _ ⟨_,_,_,rfl,dH,dI,_⟩;obtain ⟨rfl,dJ⟩:=W_ dI;refine dR z z (l0 g_3 z<|dH.at0 z)<|dM z z z<|dR z z (O_ z)<|dR z z (fd g_k z)<|dR z z (l0 U_ z<|hi.at z)<|dM z z z ?_
     have a4:=((((hu.e h4).c h3<|c_ ak).e H).e sd).e se;have ht:=lt_ (lt_ (lt_ (lt_ (lt_ a3 h4.s) h3.s) H.s) sd.s) se.s;obtain ⟨aV,_,dK,b6⟩:=a_9 cb;refine dE z z (fc call51 z<|i_m (B:=B) (x1:=(⟨x1.d.rules⟩:g_)) dK (zt' V ht) (a0.g a4) dJ (a1.g a4) aY) (.inr λ_ _ h=>x_<|h.1) ?_;rintro _ wo ⟨s2,rfl,bC,_⟩;refine dM z z z<|dR z z (ext_ z z)<|dR z z (ext_ z z)<|dQ z z z<|dQ z z z<|pD<|Wo<|Wq<|Wm z<|R z (nq z z)<|Wx z (λaH=>?_) (λaH=>?_)
     .obtain rfl:=som<|ifT b6 aH;have cc:=elR ad;obtain rfl:=som cc;have cd:=elR ab;obtain rfl:=som cd;have ce:=elR aa;obtain rfl:=som ce;exact Wr<|rtO<|ret0 hr ⟨(e_ (e_ (e_ (e_ (cM (e_ (cM (cM (cr [g1] w0) L (io sr):Cg [g1] w0 aL) O (io sr):Cg [g1] w0 J) h4:Cg [g1] w0 af) h3 (mor a3:∀k∈[J.z],k∈[g1]∨w0.z<=k):Cg [g1] w0 wn) H:Cg [g1] w0 I) sd:Cg [g1] w0 wf) se:Cg [g1] w0 aT) s2:Cg [g1] w0 wo),z,W,Y,hi.e s2⟩
     refine Wk<|Wq ?_
     obtain ⟨dL,cf,b7⟩:=bdS<|ifF b6 aH;refine Wt (λa w=>∃(am:Int),am=dL/\∃(an:Nat),Sat 156 [(0,pt g1),(1,Str.v x2),(2,vI x3),(8,pt J.z),(9,vI aV),(11,pt an)] a/\Below wo.z wo w/\inI am/\Blk w an [vI am]/\wo.z<=an) ?_ ?_
     .refine Wd (X:=noX) 2097152 (.rd 0<|.rd 1<|.rd 2<|.rd 3<|.rd 4<|.rd 5<|.rd 6<|.rd 7<|.rd 8<|.rd 9<|.rd 10<|.rd 11<|.rd 12<|.rd 13<|.rd 14<|.rd 15<|.rd 16<|.rd 17<|.rd 18<|.br 19 (.ef 20<|.ef 21 .done) 20<|.ef 19<|.ef 21 .done) mo (by kernel_rfl) λbD sg _=>dM z z z<|dR z z (O_ z)<|dR z z (fd g_k z) ?_
      have bE:=(hi.e s2).e sg;refine dR z z (l0 U_ z<|bE.at z)<|dM z z z<|dM z z z ?_
      obtain ⟨_,dN,cg⟩:=bdS cf;have bF:=(a4.e s2).e sg;refine dRX z z (rX s_ z_5 z z (a1.g bF) z z dN) ?_;rintro _ ⟨_,_,_,rfl,bG⟩;refine dM z z z<|dR z z (O_ z)<|dR z z (fd g_j z)<|dR z z (fd T_ z)<|dR z z (l0 V_ z<|bE.at z)<|dR z z (fd M_ z)<|dR z z (l0 C_ z<|((aU.e s2).e sg).at z) ?_
      obtain ⟨_,dO,ch⟩:=bdS cg;refine dRX z z (at_ (α:=Int) A_ z_3 z z z (hq.g<|(al.e s2).e sg) dO) ?_;rintro _ ⟨_,_,_,rfl,dP,dS,_⟩;obtain ⟨rfl,_⟩:=W_ dS;refine dR z z (l0 g_3 z<|dP.at0 z) ?_;obtain ⟨_,dT,b8⟩:=bdS ch;refine dRX z z (at_ (α:=d_) N_ t_ z z z (a0.g bF) dT) ?_;rintro _ ⟨_,_,_,rfl,dU,dV,_⟩;obtain ⟨_,_,_,_,_,_,_,_,_,_,_,_,rfl,_,_,_,_,_,_,_⟩:=a_T dV;refine dR z z (fd c_2 z)<|dR z z (l0 g_4 z<|dU.at (j:=3) z)<|b_u ?_ ?_
      .obtain ⟨bH,dW,ci⟩:=bdS b8;refine dE z z (fc call58 z<|g_p dW (zt' V<|lt_ (lt_ ht s2.s) sg.s) bG) (.inr λ_ _ h=>x_<|h.1) ?_;rintro _ bI ⟨bJ,rfl,dX⟩;refine dE z z (fa i_h) (.inr λ_ _ h=>x_<|h.2.below) ?_;rintro _ dY ⟨rfl,bK⟩;refine dE0 z (fs0 (cur':=[vI bH]) z_3 z z (bK.blk:Blk dY bI.z [vI 0]) z z z z) (.inl z) ?_;rintro _ _ ⟨dZ,e0⟩;refine pD ?_;have bL:=m1<|lt_ sg.s bJ.s
       exact λ_ q=>⟨bH,som ci,bI.z,q.k<|s6 z z z z z z,bM (bup (bup sg bJ) bK.below) e0.one bL,dX,dZ,atp bL⟩
      refine dE z z (fa i_h) (.inr λ_ _ h=>x_<|h.2.below) ?_;rintro _ e1 ⟨rfl,bN⟩;have aW:=bN.below;obtain ⟨bO,e2,cj⟩:=bdS b8;refine dE z z (fc call58 z<|g_p e2 (zt' V<|lt_ (lt_ (lt_ ht s2.s) sg.s) aW.s)<|bG.e aW) (.inr λ_ _ h=>x_<|h.1) ?_;rintro _ _ ⟨bP,rfl,e3⟩;refine dE0 z (fs0 (cur':=[vI bO]) z_3 z z ((bN.blk:Blk e1 bD.z [vI 0]).e bP) z z z z) (.inl z) ?_;rintro _ _ ⟨e4,e5⟩;refine pD ?_;have bQ:=m1 sg.s;exact λ_ q=>⟨bO,som cj,bD.z,q.k<|s6 z z z z z z,bM (bup (bup sg aW) bP) e5.one bQ,e3,e4,atp bQ⟩
     rintro e6 G ⟨am,rfl,an,_,s9,e7,ao,e8⟩;revert e6;refine Wo<|Wq<|Ws<|Rf z a_V z ?_
     have ap:=(aU.e s2).e s9;refine R z (l0 g_3 z<|ap.at z)<|Rq z z z<|Wx z (λaI=>?_) (λaI=>?_)
     .refine Wq<|Ws<|Rf z a_O z<|R z (l0 C_ z<|ap.at z)<|R z (j_c z) ?_
      have bR:=(al.e s2).e s9;have bS:=lt_ (lt_ ht s2.s) s9.s;obtain ⟨_,e9,ck⟩:=bdS<|ifT b7 aI;refine E z (fc call59 z<|W_w2k (B:=zn B wo.z G.z) e9 (a_P (zt' V bS) lr) (repS.mono (d2.g bR) a_r) e7 (ao.row 0 1 z)<|atp<|zin (B:=B) (a_ e8)<|a_<|Blk.lt ao) ?_;rintro _ a5 ⟨sj,rfl,_⟩;refine Rw z<|Wm z<|R z (b_z z z)<|Wn ?_
      obtain ⟨ea,b9,cl⟩:=bdS ck;refine Wt (λa w=>∃(aq:Str)(ar:Int),(aq,ar)=ea/\Sat 156 [] a/\Cg [g1] a5 w/\aq.b.length<=LEN/\inI ar/\Blk w g1 [sl A0 N0 C0,sl A1 N1 C1,Str.v aq,vI ar]) ?_ ?_
      .refine Wc z (λaJ=>?_)<|λaJ=>?_
       .refine Wg<|RM z z<|Rm z<|Rf z M_ z<|R z (l0 C_ z<|(ap.e sj).at z)<|Rm z<|R z (add_ z z)<|Rm z<|R z (add_ z z) ?_
        obtain ⟨_,eb,cm⟩:=bdS<|ifT b9 aJ;refine RX z (rX A_ z_3 z z (hq.g<|bR.e sj) z z eb) ?_;rintro _ ⟨_,_,_,rfl,ec⟩;refine Rm z ?_;have bT:=((a4.e s2).e s9).e sj;obtain ⟨_,_,ed,ee,eg,cn⟩:=bd4S cm;refine E z (fc call57 z<|ae.run (B:=B) eg (((hi.e s2).e s9).e sj) (zt' V<|lt_ bS sj.s) hBg ((((((((((hG.c L<|c_<|a_ hBg).c O<|c_<|a_ hBg).e h4).c h3<|c_ ak).e H).e sd).e se).e s2).e s9).e sj) (a0.g bT) (a1.g bT) W Y W Y ec bC) ?_;rintro _ eh ⟨ei,rfl,_,ej,ek,em⟩;refine Wl ?_;exact λ_ q=>⟨ed,ee,som cn,q.k sn,(cM (cr [g1] a5) ei (io sr):Cg [g1] a5 eh),ej,ek,em⟩
       exact a_c<|λ_ q=>⟨x2,x3,som<|ifF b9 aJ,q.k sn,cr [g1] a5,W,Y,((hi.e s2).e s9).e sj⟩
      rintro en eo ⟨aq,ar,rfl,_,ep,er,es,eu⟩;revert en;refine Wo ?_;obtain rfl:=som<|a_A cl;have co:=elR ad;obtain rfl:=som co;have cp:=elR ab;obtain rfl:=som cp;have cq:=elR aa;obtain rfl:=som cq;exact Wr<|rtO<|ret0 hr ⟨(cM (e_ (e_ (e_ (e_ (e_ (e_ (cM (e_ (cM (cM (cr [g1] w0) L (io sr):Cg [g1] w0 aL) O (io sr):Cg [g1] w0 J) h4:Cg [g1] w0 af) h3 (mor a3:∀k∈[J.z],k∈[g1]∨w0.z<=k):Cg [g1] w0 wn) H:Cg [g1] w0 I) sd:Cg [g1] w0 wf) se:Cg [g1] w0 aT) s2:Cg [g1] w0 wo) s9:Cg [g1] w0 G) sj:Cg [g1] w0 a5) ep (io sr):Cg [g1] w0 eo),z,er,es,eu⟩
     refine Wk<|Ws<|R z (l0 g_3 z<|ao.at z)<|R z (c_F z z)<|Wn ?_
     obtain ⟨ew,ba,bb⟩:=bdS<|ifF b7 aI;refine Wt (λa w=>∃(a6:Str)(a7:Int),Sum.inl (a6,a7)=ew/\Sat 156 [] a/\Cg [g1] G w/\a6.b.length<=LEN/\inI a7/\Blk w g1 [sl A0 N0 C0,sl A1 N1 C1,Str.v a6,vI a7]) ?_ ?_
     .refine Wc z (λaK=>?_)<|λaK=>?_
      .refine Ws<|R z (l0 g_3 z<|ao.at z) ?_
       obtain ⟨ex,ey,ct⟩:=bdS<|ifT ba aK;refine E z (j_h (α:=Int) a_v (λ_=>a_K<|ii z) ey z z) ?_;rintro _ wb ⟨au,av,aw,rfl,sk,ax⟩;refine Rw z<|Wq<|Wm z<|R z (lnR A_ z<|or_ ax<|zin (B:=B) (a_ lr)<|b_.lt ax)<|Rm z<|Wn ?_
       obtain ⟨_,cu,bc⟩:=bdS ct;refine Wf (σ:=List Int) (ρ:=Str×Int) (λ(bU:Nat)(xr:List Int) a w=>∃(Sc:List Nat),Sat 156 [(0,pt g1),(1,Str.v x2),(2,vI x3),(8,pt J.z),(9,vI aV),(13,sl au av aw),(138,vI (ex.length:Int)),(139,vI ((bU:Nat):Int))] a/\Cg [G.z] wb w/\b_ w Sc (sl au av aw) xr/\Sc.Nodup/\(∀k∈Sc,k∈[G.z]∨wb.z<=k)) (λ(xr:List Int) a w=>∃(Sc:List Nat),Sat 156 [(0,pt g1),(1,Str.v x2),(2,vI x3),(9,vI aV),(13,sl au av aw)] a/\Cg [G.z] wb w/\b_ w Sc (sl au av aw) xr/\Sc.Nodup/\(∀k∈Sc,k∈[G.z]∨wb.z<=k)) (rQ prog fn<|Q21 w0 g1 B A0 N0 C0 A1 N1 C1 x1) cu ?_ ?_ ?_ ?_ ?_
       .exact λ_ q=>⟨[G.z],q.k<|s8 z z z z z z z z,cr [G.z] wb,ax,a_p,io sr⟩
       .rintro bU xr _ ez _ be ⟨Sc,cv,ay,hp,az,a8⟩ cw;refine Wu ?_ cv;refine Ws<|Rl z z z<|Wn<|Wq<|Wc z (λ_=>?_) (λhc=>(a_n be hc).elim)
        refine Wk<|Wq<|Wb<|Wm z<|Rw z<|Wg<|RM z z<|Rf z M_ z<|R z (l0 C_ z<|((ap.e sk).c ay<|djs<|mm1 bv.lt<|lt_ (lt_ (lt_ (lt_ (lt_ h3.s H.s) sd.s) se.s) s2.s) s9.s).at z) ?_
        obtain ⟨_,eA,cx⟩:=bdS cw;refine RX z (at_ (α:=Int) A_ z_3 z z z (hq.g<|(((al.e s2).e s9).e sk).c ay<|c_ (or0 (a_ lr) (m_<|zt' V<|lt_ (lt_ ht s2.s) s9.s):∀k∈[G.z],¬B k)) eA) ?_;rintro _ ⟨_,_,_,rfl,eB,eC,_⟩;obtain ⟨rfl,eD⟩:=W_ eC;refine R z (l0 g_3 z<|eB.at0 z) ?_;obtain ⟨eE,bV,cy⟩:=bdS cx;refine RX z (e_o (α:=Int) A_ z_3 z z hp bV) ?_;rintro _ ⟨_,eF,rfl⟩;refine E0 (e_p (α:=Int) z_3 z eF z z z bV hp az (a_K eD) an_ z_) ?_;rintro _ eG ⟨bW,eH,eI,eJ,eK⟩;refine Wn<|Wg<|R z (inc_ be (lt_ (b_.len ax) X_) z z)<|Rm z<|Wl ?_
        have bX:∀k∈Sc,k∈[G.z]∨wb.z<=k:=or1 a8 (io sr)<|o_ lr;exact λ_ q=>⟨eE,(som cy).symm,⟨bW,q.k<|s8 z z z z z z z z,(cM (cM (cr [G.z] wb) ay (io sr):Cg [G.z] wb ez) eH bX:Cg [G.z] wb eG),eI,eJ,(or2 eK bX an_ (o_ ay.s):∀k∈bW,k∈[G.z]∨wb.z<=k)⟩⟩
       .rintro xr _ eL ⟨Sc,cz,eM,hp,az,a8⟩;refine Wu ?_ cz;refine Ws<|Rl z z z<|Wn<|Wq<|Wc z (λhc=>(a_o hc).elim) (λ_=>?_)
        exact We<|λ_ q=>⟨rfl,⟨Sc,q.k<|s5 z z z z z,(cM (cr [G.z] wb) eM (io sr):Cg [G.z] wb eL),hp,az,(or1 a8 (io sr) (o_ lr):∀k∈Sc,k∈[G.z]∨wb.z<=k)⟩⟩
       .rintro xr eN aX rfl ⟨Sc,_,a9,hp,az,a8⟩;have cA:=elL bc;revert eN;refine Wo<|Wg<|RM z z<|RM z z<|Rm z ?_
        have aA:=lt_ (lt_ ht s2.s) s9.s;have bY:∀k∈[G.z],¬B k:=or0 (a_ lr)<|m_<|zt' V aA;have bZ:=(((a4.e s2).e s9).e sk).c a9<|c_ bY
        obtain ⟨_,_,eO,eP,eQ,cB⟩:=bd4S cA;refine E z (fc call57 z<|ae.run (B:=zn B G.z aX.z) eQ ((((hi.e s2).e s9).e sk).c a9<|djs<|mm1 (Blk.lt hB1) aA) (a_P (zt' V<|lt_ (lt_ aA sk.s) a9.s) lr) (atp ((b_7 (a_ hBg) (a_<|Blk.lt hB1) aA):∀k∈[g1],¬(zn B G.z aX.z) k)) ((((((((((((hG.c L<|c_<|a_ hBg).c O<|c_<|a_ hBg).e h4).c h3<|c_ ak).e H).e sd).e se).e s2).e s9).e sk).c a9<|c_ bY).mono a_r) (repS.mono (a0.g bZ) a_r) (repS.mono (a1.g bZ) a_r) W Y W Y (or_ hp<|zin (B:=B) (or1 a8 (a_ lr) (b_6 sk.s):∀k∈Sc,G.z<=k)<|b_.lt hp) bC) ?_;rintro _ eR ⟨eS,rfl,_,eT,eU,eV⟩;refine Wl ?_;exact λ_ q=>⟨eO,eP,som cB,q.k sn,(cM (cM (e_ (cr [g1] G) sk:Cg [g1] G wb) a9 (mor lr:∀k∈[G.z],k∈[g1]∨G.z<=k):Cg [g1] G aX) eS (io sr):Cg [g1] G eR),eT,eU,eV⟩
       rintro _ _ _ _ rfl ⟨rfl,cC⟩;have cD:=elR bc;obtain rfl:=som cD;have cE:=elR bb;obtain rfl:=som cE;have cF:=elR ad;obtain rfl:=som cF;have cG:=elR ab;obtain rfl:=som cG;have cH:=elR aa;obtain rfl:=som cH;exact ⟨cC,z⟩
      exact a_c<|λ_ q=>⟨x2,x3,som<|ifF ba aK,q.k sn,cr [g1] G,W,Y,(hi.e s2).e s9⟩
     rintro eW eX ⟨a6,a7,rfl,_,eY,eZ,f0,f1⟩;have cI:=elL bb;revert eW;exact λ_ q=>⟨a6,a7,som<|a_A cI,q.k sn,(cM (e_ (e_ (e_ (cr [g1] wf) se:Cg [g1] wf aT) s2:Cg [g1] wf wo) s9:Cg [g1] wf G) eY (io sr):Cg [g1] wf eX),eZ,f0,f1⟩
    exact a_c<|λ_ q=>⟨x2,x3,som<|ifF b5 aG,q.k sn,cr [g1] wf,W,Y,(((hl.e h4).c h3<|djs<|mm1 (Blk.lt hB1)<|lt_ L.s O.s).e H).e sd⟩
   rintro f2 f3 ⟨xz,a2,rfl,_,f4,f5,f6,f7⟩;have c0:=elL ad;revert f2;exact λ_ q=>⟨xz,a2,som<|a_A c0,q.k sn,(cM (e_ (cr [g1] I) sd:Cg [g1] I wf) f4 (io sr):Cg [g1] I f3),f5,f6,f7⟩
  rintro cJ cK ⟨xs,xv,rfl,_,cL,cN,cO,cP⟩;have c1:=elL ab;revert cJ;exact λ_ q=>⟨xs,xv,som<|a_A c1,q.k sn,(cM (cr [g1] I) cL (io sr):Cg [g1] I cK),cN,cO,cP⟩
 rintro cQ cR ⟨ai,aj,rfl,_,cS,cT,cU,cV⟩;have c2:=elL aa;revert cQ;obtain rfl:=som<|a_A c2;exact ret0 hr ⟨(cM (e_ (cM (e_ (cM (cM (cr [g1] w0) L (io sr):Cg [g1] w0 aL) O (io sr):Cg [g1] w0 J) h4:Cg [g1] w0 af) h3 (mor (lt_ L.s O.s):∀k∈[J.z],k∈[g1]∨w0.z<=k):Cg [g1] w0 wn) H:Cg [g1] w0 I) cS (io sr):Cg [g1] w0 cR),z,cT,cU,cV⟩
theorem T_w1j (ih:j_N n):j_M (d_r n<|a_Z n):=by
 obtain ⟨ab,_⟩:=ih
 constructor
 intro A0 A1 AD N0 C0 N1 C1 g1 ND CD B x1 x2 x3 x4 x5 res w0 hm hB1 I hBg hG H W Y a0 ap a1 G a2;unfold d_r at hm
 refine goG func57 z z z λfn hr=>Ws<|Ra z<|Rw z<|Wq<|Wm z<|R z (lnR A_ z G)<|Rm z<|Wn ?_
 obtain ⟨_,hul,hma⟩:=bdS hm;refine Wf (σ:=Int) (ρ:=Int×Bool×Str×Int) (λ(kb:Nat)(x0:Int) a w=>Sat 57 [(0,pt g1),(1,Str.v x2),(2,vI x3),(4,vI x0),(16,sl AD ND CD),(17,vI (x4.length:Int)),(18,vI ((kb:Nat):Int))] a/\Below w0.z w0 w/\inI x0) (λ(x0:Int) a w=>Sat 57 [(4,vI x0)] a/\Below w0.z w0 w/\inI x0) (rQ prog fn<|Q22 w0 g1 B A0 N0 C0 A1 N1 C1 x1) hul ?_ ?_ ?_ ?_ ?_
 .exact λ_ q=>⟨q.k<|s7 z z z z z z z,br w0,a2⟩
 .rintro kb x0 _ wn _ J ⟨hSo,s2,h1⟩ hmp;refine Wu ?_ hSo;refine Ws<|Rl z z z<|Wn<|Wq<|Wc z (λ_=>?_) (λhc=>(a_n J hc).elim)
  refine Wk<|Wq<|Wb<|Wm z ?_
  obtain ⟨_,eq,hmr⟩:=bdS hmp;refine RX z (at_ (α:=Int) A_ z_3 z z z (G.e s2) eq) ?_;rintro _ ⟨_,_,_,rfl,ht,hu,_⟩;obtain ⟨rfl,hd⟩:=W_ hu;refine R z (l0 g_3 z<|ht.at0 z)<|Ra z<|Rw z<|Wq (Wd (X:=noX) 0 (pl_ 16 [10]) mo (by kernel_rfl) λws s3 _=>dM z z z<|dR z z (O_ z)<|dR z z (fd g_j z) ?_)
  have O:=(hB1.e s2).e s3;refine dR z z (lN (vs:=[sl A0 N0 C0]) B_ w_ z z fid<|O.row 0 1 z)<|dM z z z<|dM z z z<|dR z z (O_ z)<|dR z z (fd g_k z)<|dR z z (l0 U_ z<|O.at z)<|dM z z z ?_
  have V:=(s2.ag B).e s3;have he:=lt_ s2.s s3.s;obtain ⟨rv,_,ew,hmc⟩:=a_9 hmr;refine dE z z (fc call51 z<|i_m (B:=B) (x1:=(⟨x1.d.rules⟩:g_)) ew (zt' I he) (H.g V) hd (W.g V) h1) (.inr λ_ _ h=>x_<|h.1) ?_;rintro _ wx ⟨s4,rfl,hy,_⟩;refine dM z z z<|dR z z (ext_ z z)<|dR z z (ext_ z z)<|dQ z z z<|dQ z z z<|pD<|Wo<|Wq<|Wm z<|R z (nq z z)<|Wx z (λL=>?_) (λL=>?_)
  .refine Wm z<|Rm z ?_
   obtain ⟨_,ez,a3⟩:=bdS<|ifT hmc L;refine R z (f_4 z z ez)<|Rm z<|R z (O_ z)<|Rf z g_j z ?_
   have hf:=O.e s4;refine R z (lN (vs:=[sl A0 N0 C0]) B_ w_ z z fid<|hf.row 0 1 z)<|RM z z ?_
   have hg:=V.e s4;have hh:=((hG.e s2).e s3).e s4;have hi:=lt_ he s4.s;obtain ⟨_,ad,a4⟩:=bdS a3;refine E z (fc call73 z<|W_w2i (B:=B) (x1:=(⟨x1.d.rules⟩:g_)) ad (zt' I hi) hh (H.g hg) a1<|ic (Nat.le_of_lt J)<|lt_ (repS.len G) X_) ?_;rintro _ ae ⟨s5,rfl,_⟩;obtain ⟨_,ej,a5⟩:=bdS a4;refine R z (f_4 z z ej)<|RM z z ?_
   have hk:=hg.e s5;obtain ⟨_,_,af,a6⟩:=a_9 a5;refine E z (fc call43 z<|ab.run (B:=B) af (hf.e s5) (zt' I<|lt_ hi s5.s) hBg (hh.e s5) (H.g hk) (W.g hk) Y a0 (f_0 ej) hd h1) ?_;rintro _ ah ⟨ai,rfl,aj,ak,al⟩;refine Wn<|Wm z<|Ra z<|Rw z ?_
   exact Wr<|rtO<|qL (som a6).symm<|a_e hr z z ⟨(cM (e_ (e_ (e_ (e_ (cr [g1] w0) s2:Cg [g1] w0 wn) s3:Cg [g1] w0 ws) s4:Cg [g1] w0 wx) s5:Cg [g1] w0 ae) ai (io sr):Cg [g1] w0 ah),z,h1,aj,ak,al⟩
  exact Wk<|Wg<|Rm z<|Rw z<|Wg<|R z (inc_ J (lt_ (repS.len G) X_) z z)<|Rm z<|Wl (λ_ q=>⟨rv,(som<|ifF hmc L).symm,⟨q.k<|s7 z z z z z z z,bup (bup s2 s3) s4,hy⟩⟩)
 .rintro x0 _ _ ⟨a7,am,h1⟩;refine Wu ?_ a7;refine Ws<|Rl z z z<|Wn<|Wq<|Wc z (λhc=>(a_o hc).elim) (λ_=>?_)
  exact We<|λ_ q=>⟨rfl,⟨q.k<|s1 z,am,h1⟩⟩
 .rintro x0 an ao rfl ⟨_,sm,h1⟩;have a8:=elL hma;revert an;refine Wo<|Wm z<|Ra z<|Rw z ?_
  obtain rfl:=som a8;exact Wr<|a_e hr z z ⟨(e_ (cr [g1] w0) sm:Cg [g1] w0 ao),z,h1,Y,a0,hB1.e sm⟩
 rintro _ _ _ _ rfl ⟨rfl,a9⟩;have aa:=elR hma;obtain rfl:=som aa;exact ⟨a9,z⟩
theorem i_n:∀n,j_N n
  | 0=>⟨⟨λhm=>by intros;exact nomatch (show none=some _ from hm)⟩,⟨λhm=>by intros;exact nomatch (show none=some _ from hm)⟩⟩
  | n+1=>⟨T_w09<|i_n n,T_w1j<|i_n n⟩
theorem W_w09:j_L (a_Z n).impl_tracer_part:=(i_n n).1
theorem W_w1j:j_M (a_Z n).impl_tracer_kids:=(i_n n).2
def Q23 (w0:World)(B:Zone)(r:e_U)(v:Value)(w':World):Prop:=Bw w0 w'/\(λG=>(.agg #[vI G.code,vI G.position,Str.v G.path,vI G.rule])=v/\inI G.code/\inI G.position/\G.path.b.length<=LEN/\inI G.rule) r
theorem W_w2l {x1:g_}{x2:Bt}{res:e_U}(hm:f_l n x1 x2=some res)(O:B<=w0.z)(hG:Gl w0 B)(W:repS w0 B (sl A0 N0 C0) x1.rules)(Y:repS w0 B (sl A6 N6 C6) x2):q_ prog 19 [(.agg #[sl A0 N0 C0]),sl A6 N6 C6] w0 (Q23 w0 B res):=by
 unfold f_l at hm
 refine goG func19 z z z λfn hr=>Ws<|E z (fb z) ?_
 rintro _ wf ⟨rfl,hu⟩;have hg:=hu.below;have hv:Blk wf w0.z [sl A0 N0 C0]:=hu.blk;refine E z (fa j_q) ?_;rintro _ ax ⟨rfl,hw⟩;have V:=hw.below;have hx:Blk ax wf.z [vI 0,vI 0,Str.v (⟨[]⟩:Str),vI 0]:=hw.blk;refine Wn<|Ws ?_
 have hy:=hv.e V;refine R z (lN (vs:=[sl A0 N0 C0]) B_ w_ z z fid<|hy.row 0 1 z)<|Rm z ?_
 have hk:=(hg.ag B).e V;have hz:=lt_ hg.s V.s;obtain ⟨L,I,ay,ao⟩:=a_9 hm;refine E z (fc call27 z<|W_w1i ay (zt' O hz) (W.g hk)<|Y.g hk) ?_;rintro _ _ ⟨s7,rfl,az,aA⟩;refine Rm z<|Re z z z<|Re z z z<|Ra z<|Rw z<|Wm z<|Rm z ?_
 have a3:=hy.e s7;refine R z (lN (vs:=[sl A0 N0 C0]) B_ w_ z z fid<|a3.row 0 1 z) ?_;have a4:=hk.e s7;have hl:=lt_ hz s7.s;obtain ⟨rj,aB,ap⟩:=bdS ao;refine E z (fc call42 z<|f_f aB (zt' O hl)<|W.g a4) ?_;rintro _ G ⟨s6,rfl,aC⟩;refine R z (bP (parts:=[(0,.tmp 15),(1,.tmp 16),(3,.tmp 18)]) (cs:=[vI I,vI L,Str.v (⟨[]⟩:Str),vI rj]) o_H z z)<|E z (fa j_q) ?_
 rintro _ aD ⟨rfl,a5⟩;have ha:=a5.below;have a6:Blk aD G.z [vI 0,vI 0,Str.v (⟨[]⟩:Str),vI 0]:=a5.blk;refine E0 (fs0 (cur':=[vI I,vI L,Str.v (⟨[]⟩:Str),vI rj]) z_49 z z a6 z z z z) ?_;rintro _ J ⟨hn,aE⟩;have h5:=aE.one;refine Wn<|Wq<|Wm z<|Wn<|Wb<|Ws<|Rq z z z<|Rw z ?_
 obtain ⟨aF,a0,aq⟩:=bdS ap;refine Wt (λa w=>∃(xb:Str)(xc:Int),(xb,xc)=aF/\Sat 46 [(4,pt wf.z),(7,pt G.z)] a/\Cg [G.z] J w/\xb.b.length<=LEN/\inI xc/\Blk w G.z [vI I,vI L,Str.v xb,vI xc]) ?_ ?_
 .refine Wc z (λhcm=>?_)<|λhcm=>?_
  .refine Wg<|Rf z l_f z<|E0 (fs0 (cur':=[vI I,vI L,Str.v (⟨[]⟩:Str),vI (-1)]) z_3 z z hn z z z z) ?_
   rintro _ aG ⟨aH,aI⟩;refine Wl ?_;exact λ_ q=>⟨(⟨[]⟩:Str),(-1),som<|ifT a0 hcm,q.k<|s2 z z,(cM (cr [G.z] J) aI.one (io sr):Cg [G.z] J aG),lb z,ii z,aH⟩
  refine Wq<|Ws<|Rq z z z<|Rw z ?_
  obtain ⟨aJ,a1,ar⟩:=bdS<|ifF a0 hcm;refine Wt (λa w=>∃(xo:Bool),xo=aJ/\Sat 46 [(1,sl A6 N6 C6),(2,pt w0.z),(4,pt wf.z),(7,pt G.z),(42,vB xo)] a/\Below J.z J w) ?_ ?_
  .refine Wc z (λhcp=>?_)<|λhcp=>?_
   .exact a_c<|λ_ q=>⟨I==0,som<|ifT a1 hcp,q.k<|s5 z z z z z,br J⟩
   exact Wg<|Rq z z z<|Ra z<|Wl (λ_ q=>⟨I==7,som<|ifF a1 hcp,q.k<|s5 z z z z z,br J⟩)
  rintro aK H ⟨xo,rfl,_,s8⟩;revert aK;refine Wo ?_;obtain ⟨aL,a2,au⟩:=bdS ar;refine Wt (λa w=>∃(xh:Str)(xi:Int),(xh,xi)=aL/\Sat 46 [(4,pt wf.z),(7,pt G.z)] a/\Cg [G.z] H w/\xh.b.length<=LEN/\inI xi/\Blk w G.z [vI I,vI L,Str.v xh,vI xi]) ?_ ?_
  .refine Wc z (λhcq=>?_)<|λhcq=>?_
   .exact a_c<|λ_ q=>⟨(⟨[]⟩:Str),rj,som<|ifT a2 hcq,q.k<|s2 z z,cr [G.z] H,lb z,aC,hn.e s8⟩
   refine Ws ?_;have a7:=(((a3.e s6).e ha).c h5<|djs<|mm1 hv.lt<|lt_ (lt_ V.s s7.s) s6.s).e s8;refine R z (lN (vs:=[sl A0 N0 C0]) B_ w_ z z fid<|a7.row 0 1 z)<|Rm z<|R z (bP (parts:=[(0,.tmp 21),(1,.tmp 22)]) (cs:=[sl A0 N0 C0,sl A6 N6 C6,Str.v (⟨[]⟩:Str),vI 0]) o_J z z)<|E z (fb z) ?_
   rintro _ a8 ⟨rfl,a9⟩;have hd:=a9.below;refine Rw z<|Wm z<|R z (lN (vs:=[sl A0 N0 C0]) B_ w_ z z fid<|(a7.e hd).row 0 1 z) ?_
   have aa:=lt_ hl s6.s;have ab:∀k∈[G.z],¬B k:=or0 (a_ lr)<|m_<|zt' O aa;have ad:=((((a4.e s6).e ha).c h5<|c_ ab).e s8).e hd;have ae:=lt_ (lt_ (lt_ aa ha.s) h5.s) s8.s;have af:=lt_ ae hd.s;obtain ⟨_,aM,av⟩:=bdS<|ifF a2 hcq;refine E z (fc call42 z<|f_f aM (zt' O af)<|W.g ad) ?_;rintro _ aN ⟨se,rfl,aO⟩;have ah:=ad.e se;obtain ⟨rr,ai,aP,aw⟩:=a_9 av;refine E z (fc call43 z<|W_w09.run (B:=B) aP ((a9.blk:Blk a8 H.z [sl A0 N0 C0,sl A6 N6 C6,Str.v (⟨[]⟩:Str),vI 0]).e se) (zt' O<|lt_ af se.s) (atp (or0 (a_ lr) (m_<|zt' O ae):∀k∈[H.z],¬B k)) (((((((((hG.e hg).e V).e s7).e s6).e ha).c h5<|c_ ab).e s8).e hd).e se) (W.g ah) (Y.g ah) (lb z) (ii z) (lb z) aO<|ii z) ?_;rintro _ aQ ⟨aj,rfl,aR,aS,aT⟩;refine Wn (Wd (X:=(· ∈ [G.z])) 0 (pl_ 12 [9,11]) mo (by kernel_rfl) λaU ss _=>dM z z z<|dR z z (O_ z)<|dR z z (fd l_h z) ?_);have ak:=aT.e ss;have ht:=mm1 a6.lt<|lt_ h5.s s8.s
   refine dR z z (l1 g_9 z (atp ht)<|ak.at z)<|dM z z z<|dR z z (O_ z)<|dR z z (fd l_i z)<|dR z z (l1 g_3 z (atp ht)<|ak.at z)<|dR z z (fd l_e z)<|dE0 z (fs0 (cur':=[vI I,vI L,Str.v rr,vI rj]) z_9 z z (((((hn.e s8).e hd).e se).c aj<|djs ht).e ss) z z z z) (.inr λ_ _ h=>i_4 (List.mem_singleton.2 z) h.2) ?_
   rintro _ aV ⟨aW,aX⟩;refine dR z z (fd l_f z)<|dE0 z (fs0 (cur':=[vI I,vI L,Str.v rr,vI ai]) z_3 z z aW z z z z) (.inr λ_ _ h=>i_4 (List.mem_singleton.2 z) h.2) ?_
   rintro _ aY ⟨aZ,b0⟩;refine pD ?_;exact λ_ q=>⟨rr,ai,som aw,q.k<|s2 z z,(cM (cM (e_ (cM (e_ (e_ (cr [G.z] H) hd:Cg [G.z] H a8) se:Cg [G.z] H aN) aj (mor lr:∀k∈[H.z],k∈[G.z]∨H.z<=k):Cg [G.z] H aQ) ss:Cg [G.z] H aU) aX.one (io sr):Cg [G.z] H aV) b0.one (io sr):Cg [G.z] H aY),aR,aS,aZ⟩
  rintro b1 b2 ⟨xh,xi,rfl,_,b3,b4,b5,b6⟩;revert b1;exact λ_ q=>⟨xh,xi,som<|a_A au,q.k<|s2 z z,(cM (e_ (cr [G.z] J) s8:Cg [G.z] J H) b3 (io sr):Cg [G.z] J b2),b4,b5,b6⟩
 rintro b7 _ ⟨xb,xc,rfl,_,al,b8,b9,ba⟩;revert b7;refine Wo<|Ws<|R z (lN (vs:=[vI I,vI L,Str.v xb,vI xc]) g_49 z_49 z z fid<|ba.row 0 4 z) ?_
 have am:=mm1 hx.lt<|lt_ s7.s s6.s
 refine E0 (fs0 (cur':=[vI I,vI L,Str.v xb,vI xc]) z_49 z z (((((hx.e s7).e s6).e ha).c h5<|djs am).c al<|djs am) z z z z) ?_;rintro _ _ ⟨bb,bc⟩;refine Wn ?_;obtain rfl:=som<|a_A aq;have an:=m1<|lt_ hl s6.s
 exact Wr<|i_ hr (v_ g_49 z_49 z bb z) ⟨bM (bM (bM (bup (bup (bup (bup hg V) s7) s6) ha) h5 an) al an) bc.one<|m1 hg.s,z,aA,az,b8,b9⟩
def Q24 (w0:World)(B:Zone)(r:(List Str))(v:Value)(w':World):Prop:=Bw w0 w'/\(λI=>∃a1 G H S1,(sl a1 G H)=v/\b_ w' S1 (sl a1 G H) I/\S1.Nodup/\(∀k∈S1,w0.z<=k)) r
theorem W_w2m {x1:Str}{x2:UInt8}{res:(List Str)}(hm:f_E x1 x2=some res)(aW:B<=w0.z)(L:x1.b.length<=LEN):q_ prog 106 [Str.v x1,vU<|byteI x2] w0 (Q24 w0 B res):=by
 unfold f_E at hm
 refine goG func106 z z z λfn hr=>Ws<|Rw z<|Ws<|E z (f0 (α:=Str) b_9) ?_
 rintro _ H ⟨aj,ak,al,rfl,sk,am⟩;refine Rw z<|Ws<|Rw z<|Wq<|Ws<|Rw z ?_
 obtain ⟨_,a3,hmr⟩:=bdS hm;refine Wf (σ:=(List Str)×Int) (ρ:=List Str) (λ(kd:Nat) s a w=>un2 (λV x5=>∃a2 I J G,Sat 35 [(0,Str.v x1),(1,vU<|byteI x2),(5,sl a2 I J),(6,vI x5),(7,vI ((kd:Nat):Int))] a/\Cg [w0.z] H w/\b_ w G (sl a2 I J) V/\G.Nodup/\(∀k∈G,k∈[w0.z]∨H.z<=k)/\inI x5) s) (λs a w=>un2 (λV x5=>∃a2 I J G,Sat 35 [(0,Str.v x1),(5,sl a2 I J),(6,vI x5)] a/\Cg [w0.z] H w/\b_ w G (sl a2 I J) V/\G.Nodup/\(∀k∈G,k∈[w0.z]∨H.z<=k)/\inI x5) s) (rQ prog fn<|Q24 w0 B) a3 ?_ ?_ ?_ ?_ ?_
 .exact λ_ q=>⟨aj,ak,al,[w0.z],q.k<|s5 z z z z z,cr [w0.z] H,am,a_p,io sr,ii z⟩
 .rintro kd ⟨V,x5⟩ _ O _ hke ⟨a2,I,J,G,a4,ss,W,Y,hb,hf⟩ a5;refine Wu ?_ a4;refine Wq<|Wm z<|Rm z<|R z (lnT d_9 z)<|Rl z z z<|Wx z (λ_=>?_) (λhc=>(a_n hke hc).elim)
  refine Wk<|Wq<|Wb<|Wm z<|Rm z ?_
  obtain ⟨_,eu,a6⟩:=bdS<|a_A a5;refine R z (c_X d_9 z z (a_M eu).1 (a_M eu).2.1)<|Rm z<|Rq z z z<|Wn ?_
  obtain ⟨an,huv,a7⟩:=bdS a6;refine Wt (λa w=>∃(xg:List Str)(xc:Int),(xg,xc)=an/\∃ah ni cj Sa,Sat 35 [(0,Str.v x1),(1,vU<|byteI x2),(5,sl ah ni cj),(6,vI xc),(7,vI ((kd:Nat):Int))] a/\Cg G O w/\b_ w Sa (sl ah ni cj) xg/\Sa.Nodup/\(∀k∈Sa,k∈G∨O.z<=k)/\inI xc) ?_ ?_
  .refine Wc z (λhcl=>?_)<|λhcl=>?_
   .refine Wm z<|RM z z<|Rm z ?_
    obtain ⟨ao,em,a8⟩:=bdS<|ifT huv hcl;refine R z (l_o d_9 z z z L em)<|E z (fS [(.tmp 24)] b_9 z z z (S_ z) (lb z)<|lb z) ?_
    rintro _ ww ⟨rfl,hn⟩;have ho:=hn.below;have aX:=a_d hn<|b_K<|i_3 em L
    obtain ⟨ap,aq,a9⟩:=bdS a8;refine E z (a_i (α:=Str) b_9 aq z z (W.e ho) Y (hn.blk:Blk ww O.z [Str.v ao]) (b_K<|i_3 em L) an_ z_) ?_;rintro _ ar ⟨Sx,au,av,aw,rfl,ax,ay,az,aA⟩;refine Rw z<|Wg<|Rm z<|R z (inc_ hke (lt_ L X_) z z)<|Ra z<|Wl ?_
    exact λ_ q=>⟨ap,((kd+1:Nat):Int),som a9,au,av,aw,Sx,q.k<|s5 z z z z z,(cM (e_ (cr G O) ho:Cg G O ww) ax (io sr):Cg G O ar),ay,az,(or2 aA (io sr) an_ (o_ ho.s):∀k∈Sx,k∈G∨O.z<=k),ic (Nat.succ_le_of_lt hke)<|lt_ L X_⟩
   exact a_c<|λ_ q=>⟨V,x5,som<|ifF huv hcl,a2,I,J,G,q.k<|s5 z z z z z,cr G O,W,Y,io sr,hf⟩
  rintro aB aC ⟨xg,xc,rfl,ah,ni,cj,Sa,_,aD,aE,aF,aG,aH⟩;revert aB;refine Wo<|Wg<|Rm z<|R z (inc_ hke (lt_ L X_) z z)<|Ra z<|Wl ?_
  have hy:∀k∈G,k∈[w0.z]∨H.z<=k:=or1 hb (io sr)<|o_ lr;exact λ_ q=>⟨(xg,xc),(som<|a_A a7).symm,⟨ah,ni,cj,Sa,q.k<|s5 z z z z z,(cM (cM (cr [w0.z] H) ss (io sr):Cg [w0.z] H O) aD hy:Cg [w0.z] H aC),aE,aF,(or1 aG hy (o_ ss.s):∀k∈Sa,k∈[w0.z]∨H.z<=k),aH⟩⟩
 .rintro ⟨V,x5⟩ _ aI ⟨a2,I,J,G,aa,aJ,W,Y,hb,hf⟩;refine Wu ?_ aa;refine Wq<|Wm z<|Rm z<|R z (lnT d_9 z)<|Rl z z z<|Wx z (λhc=>(a_o hc).elim) (λ_=>?_)
  exact We<|λ_ q=>⟨rfl,⟨a2,I,J,G,q.k<|s3 z z z,(cM (cr [w0.z] H) aJ (io sr):Cg [w0.z] H aI),W,Y,(or1 hb (io sr) (o_ lr):∀k∈G,k∈[w0.z]∨H.z<=k),hf⟩⟩
 .rintro ⟨V,x5⟩ aK aL rfl ⟨a2,I,J,G,_,sz,W,Y,hb,hf⟩;have ab:=elL hmr;revert aK;refine Wo<|Wm z<|RM z z ?_
  obtain ⟨aM,ep,ad⟩:=bdS<|a_A ab;refine R z (l_o d_9 z z z L ep)<|E z (fS [(.tmp 32)] b_9 z z z (S_ z) (lb z)<|lb z) ?_
  rintro _ aN ⟨rfl,hq⟩;have ht:=hq.below;have aY:=a_d hq<|b_K<|i_3 ep L
  obtain ⟨_,aO,ae⟩:=bdS ad;refine E z (a_i (α:=Str) b_9 aO z z (W.e ht) Y (hq.blk:Blk aN aL.z [Str.v aM]) (b_K<|i_3 ep L) an_ z_) ?_;rintro _ _ ⟨a0,aP,aQ,aR,rfl,aS,aT,aU,aV⟩;refine Rw z ?_
  obtain rfl:=som ae;have a1:∀k∈G,w0.z<=k:=or1 hb (a_ lr)<|b_6 sk.s;exact Wr<|i_ hr z ⟨bM (bup (bM sk sz<|a_ lr) ht) aS a1,aP,aQ,aR,a0,z,aT,aU,(or2 aV a1 an_ (b_6<|lt_ (lt_ sk.s sz.s) ht.s):∀k∈a0,w0.z<=k)⟩
 rintro _ _ _ _ rfl ⟨rfl,af⟩;have ai:=elR hmr;obtain rfl:=som ai;exact ⟨af,z⟩
def Q25 (w0:World)(B:Zone)(r:Int×Bool)(v:Value)(w':World):Prop:=Bw w0 w'/\un2 (λG H=>v = .tuple #[vI G,vB H]/\inI G) r
theorem W_w1k {x1:Str}{res:Int×Bool}(hm:f_F x1=some res)(af:B<=w0.z)(Y:x1.b.length<=LEN):q_ prog 76 [Str.v x1] w0 (Q25 w0 B res):=by
 unfold f_F at hm
 refine goG func76 z z z λfn hr=>Ws<|Ra z<|Rw z<|Wq<|Wq ?_
 obtain ⟨uv,huf,hmg⟩:=bdS hm;refine Wt (λa w=>∃(W:Bool),W=uv/\Sat 50 [(0,Str.v x1),(22,vB W)] a/\Below w0.z w0 w) ?_ ?_
 .refine Wg<|Rm z<|R z (c_a z z)<|Rm z ?_
  rcases bs (x1.b==(⟨[]⟩:Str).b) with I | I
  .iterate 3 refine Nh z I ?_
   exact R z (pT z I z)<|Rm z<|Nh z z<|Nh z z<|Nh z z<|Nh z z<|Nv z<|Nv z<|Nv z<|Nh z z<|R z (pT z z z)<|Wl (λ_ q=>⟨true,som<|ifT huf I,q.k<|s2 z z,br w0⟩)
  have hmh:=ifF huf I;refine Rh z I (mv z)<|Rh z I (lnT d_9 z)<|Rh z I (a_b z z)<|R z (pF z I z)<|Rm z ?_
  rcases bs (decide<|13<(x1.b.length:Int)) with G | G
  .iterate 4 refine Nh z G ?_
   exact Nv z<|Nv z<|Nv z<|Nh z G<|R z (pT z G z)<|Wl (λ_ q=>⟨true,som<|ifT hmh G,q.k<|s2 z z,br w0⟩)
  refine Rh z G (mv z) ?_;obtain ⟨xw,ei,hmj⟩:=bdS<|ifF hmh G;refine Rh z G (c_X d_9 z z (a_M ei).1 (a_M ei).2.1)<|Rh z G (eql z z)<|Rh z G (mv z) ?_
  rcases bs ((byteI xw)==(byteI (48:UInt8))) with J | J
  .exact Rh z J (mv z)<|Rh z J (lnT d_9 z)<|Rh z J (a_b z z)<|Rh z G (pT z J z)<|R z (pF z G z)<|Wl (λ_ q=>⟨decide<|1<(x1.b.length:Int),som<|ifT hmj J,q.k<|s2 z z,br w0⟩)
  iterate 3 refine Nh z J ?_
  exact Rh z G (pF z J z)<|R z (pF z G z)<|Wl (λ_ q=>⟨false,som<|ifF hmj J,q.k<|s2 z z,br w0⟩)
 rintro ax L ⟨W,rfl,_,s6⟩;revert ax;refine Wo<|Wc z (λhca=>?_) (λhca=>?_)
 .refine Ws<|Ra z<|Rw z ?_
  obtain rfl:=som<|ifT hmg hca;exact Wr<|a_e hr z z ⟨s6,z,ii z⟩
 refine Wk<|Ws<|Rw z<|Wq<|Ws<|Rw z ?_
 obtain ⟨_,huy,hmk⟩:=bdS<|ifF hmg hca;refine Wf (σ:=Int) (ρ:=Int×Bool) (λ(kb:Nat)(x2:Int) a w=>Sat 50 [(0,Str.v x1),(4,vI x2),(5,vI ((kb:Nat):Int))] a/\Below L.z L w/\inI x2) (λ(x2:Int) a w=>Sat 50 [(4,vI x2)] a/\Below L.z L w/\inI x2) (rQ prog fn<|Q25 w0 B) huy ?_ ?_ ?_ ?_ ?_
 .exact λ_ q=>⟨q.k<|s3 z z z,br L,ii z⟩
 .rintro kb x2 _ O _ hkl ⟨hSz,sm,V⟩ a0;refine Wu ?_ hSz;refine Wq<|Wm z<|Rm z<|R z (lnT d_9 z)<|Rl z z z<|Wx z (λ_=>?_) (λhc=>(a_n hkl hc).elim)
  refine Wk<|Wq<|Wb<|Wq<|Wq ?_
  obtain ⟨a7,a1,hmn⟩:=bdS a0;refine Wt (λa w=>∃(xc:Bool),xc=a7/\Sat 50 [(0,Str.v x1),(4,vI x2),(5,vI ((kb:Nat):Int)),(38,vB xc)] a/\Below O.z O w) ?_ ?_
  .refine Wg<|RM z z ?_
   obtain ⟨a8,eo,hmp⟩:=bdS a1;refine R z (c_X d_9 z z (a_M eo).1 (a_M eo).2.1)<|Rl z z z<|Rm z ?_
   rcases bs (decide<|(byteI a8)<(byteI (48:UInt8))) with H | H
   .iterate 4 refine Nh z H ?_
    exact R z (pT z H z)<|Wl (λ_ q=>⟨true,som<|ifT hmp H,q.k<|s4 z z z z,br O⟩)
   refine Rh z H (mv z)<|Rh z H (mv z) ?_
   obtain ⟨a9,eq,a2⟩:=bdS<|ifF hmp H;exact Rh z H (c_X d_9 z z (a_M eq).1 (a_M eq).2.1)<|Rh z H (a_b z z)<|R z (pF z H z)<|Wl (λ_ q=>⟨decide<|(byteI (57:UInt8))<(byteI a9),som a2,q.k<|s4 z z z z,br O⟩)
  rintro aa _ ⟨xc,rfl,_,sr⟩;revert aa;refine Wo<|Wc z (λhcd=>?_) (λhcd=>?_)
  .exact Ws<|Ra z<|Rw z<|Wr<|rtO<|qL (som<|ifT hmn hcd).symm<|a_e hr z z ⟨bup (bup s6 sm) sr,z,ii z⟩
  refine Wk<|Wg<|Rm z<|R z (c_E z z)<|RM z z ?_
  obtain ⟨ab,es,a3⟩:=bdS<|ifF hmn hcd;exact R z (c_X d_9 z z (a_M es).1 (a_M es).2.1)<|R z (n_y z z)<|R z (c_7 d_5 d_3 z)<|R z (add_ z z)<|Rw z<|Wg<|Rm z<|R z (inc_ hkl (lt_ Y X_) z z)<|Ra z<|Wl (λ_ q=>⟨j_ (a_f 10 x2)<|byteI<|mkB (byteI ab - byteI (48:UInt8)),(som a3).symm,⟨q.k<|s3 z z z,bup sm sr,iA _ _⟩⟩)
 .rintro x2 _ _ ⟨a4,ad,V⟩;refine Wu ?_ a4;refine Wq<|Wm z<|Rm z<|R z (lnT d_9 z)<|Rl z z z<|Wx z (λhc=>(a_o hc).elim) (λ_=>?_)
  exact We<|λ_ q=>⟨rfl,⟨q.k<|s1 z,ad,V⟩⟩
 .rintro x2 ae _ rfl ⟨_,st,V⟩;have hmu:=elL hmk;revert ae;refine Wo<|Wq<|Wm z<|R z (a_b z z)<|Wx z (λhce=>?_) (λhce=>?_)
  .refine Ws<|Ra z<|Rw z ?_
   obtain rfl:=som<|ifT hmu hce;exact Wr<|a_e hr z z ⟨bup s6 st,z,ii z⟩
  refine Wk<|Wm z<|Ra z<|Rw z ?_
  obtain rfl:=som<|ifF hmu hce;exact Wr<|a_e hr z z ⟨bup s6 st,z,V⟩
 rintro _ _ _ _ rfl ⟨rfl,a5⟩;have a6:=elR hmk;obtain rfl:=som a6;exact ⟨a5,z⟩
theorem W_w2n {x1:Str}{res:Bool}(hm:e_K n x1=some res)(O:B<=w0.z)(L:x1.b.length<=LEN):q_ prog 62 [Str.v x1] w0 (Q0 w0 B res):=by
 unfold e_K at hm
 refine goG func62 z z z λfn hr=>Ws<|Rw z<|Wq<|Wq ?_
 obtain ⟨ub,huc,V⟩:=bdS hm;refine Wt (λa w=>∃(x4:Bool),x4=ub/\Sat 25 [(0,Str.v x1),(18,vB x4)] a/\Below w0.z w0 w) ?_ ?_
 .refine Wg<|Rm z ?_
  obtain ⟨rd,ee,W⟩:=bdS huc;refine E z (fc call75 z<|j_C (B:=B) ee O L) ?_;rintro _ _ ⟨s3,rfl⟩;refine Rm z ?_
  rcases bs rd with G | G
  .exact Nh z G<|Nh z G<|R z (pT z G z)<|Rm z<|Nh z z<|Nh z z<|R z (pT z z z)<|Rm z<|Nh z z<|Nh z z<|R z (pT z z z)<|Wl (λ_ q=>⟨true,som<|ifT W G,q.k<|s2 z z,s3⟩)
  have Y:=ifF W G;refine Rh z G (mv z)<|Rh z G (c_a z z)<|R z (pF z G z)<|Rm z ?_
  rcases bs (x1.b==(⟨[42]⟩:Str).b) with H | H
  .exact Nh z H<|Nh z H<|R z (pT z H z)<|Rm z<|Nh z z<|Nh z z<|R z (pT z z z)<|Wl (λ_ q=>⟨true,som<|ifT Y H,q.k<|s2 z z,s3⟩)
  have hma:=ifF Y H;refine Rh z H (mv z)<|Rh z H (c_a z z)<|R z (pF z H z)<|Rm z ?_
  rcases bs (x1.b==(⟨[63]⟩:Str).b) with I | I
  .exact Nh z I<|Nh z I<|R z (pT z I z)<|Wl (λ_ q=>⟨true,som<|ifT hma I,q.k<|s2 z z,s3⟩)
  exact Rh z I (mv z)<|Rh z I (c_a z z)<|R z (pF z I z)<|Wl (λ_ q=>⟨x1.b==(⟨[43]⟩:Str).b,som<|ifF hma I,q.k<|s2 z z,s3⟩)
 rintro af _ ⟨x4,rfl,_,s5⟩;revert af;refine Wo<|Wc z (λJ=>?_) (λJ=>?_)
 .refine Ws<|Rw z ?_
  obtain rfl:=som<|ifT V J;exact Wr<|i_ hr z ⟨s5,z⟩
 refine Wk<|Wm z ?_
 obtain ⟨_,_,eg,hmh⟩:=a_9<|ifF V J;refine E z (fc call76 z<|W_w1k eg (zt' O s5.s) L) ?_;rintro _ _ ⟨si,rfl,_⟩;refine Rm z<|Re z z z<|Re z z z<|Ra z<|Rw z<|Wm z<|Rw z ?_
 obtain rfl:=som hmh;exact Wr<|i_ hr z ⟨bup s5 si,z⟩
def Q26 (w0:World)(B:Zone)(r:(List Str)×Bool)(v:Value)(w':World):Prop:=Bw w0 w'/\un2 (λI J=>∃(a1:Option Addr)(G H:Nat)(S1:List Nat),v = .tuple #[(sl a1 G H),(vB J)]/\b_ w' S1 (sl a1 G H) I/\S1.Nodup/\(∀k∈S1,w0.heap.size<=k)) r
theorem o_U {w:World}{gp b:Nat}{s:Str}{l0 parts:List Str}(hs:s.b.length<=LEN)(hm:f_E s (47:UInt8)=some l0)(hsl:slc l0 1 (l0.length:Int)=some parts)(hp:Blk w gp [Str.v s])(hb:b<w.heap.size)(hrow:∀g,c_K w b g->g<w.heap.size) :
    SeqStopsK (α:={x:Str // x∈parts/\x.b.length<=LEN}) Fence.wide 1 Tryz.prog 105 [pt gp].toArray (λx=>#[x.1.v]) (KpS b) (λxs=>xs.map (·.1)=parts) (λ_=>True) parts.length w:=by
  intro l J Jx W hW hJ hJx hY h0;have hpW:=hp.ext hW
  have hrowW:∀g,c_K W b g->g<W.heap.size:=λg ⟨n,c,h⟩=>by
    have h':w.cell? ⟨b,0,none⟩=some (sl (some ⟨g,0,none⟩) n c):=(World.cell?_of_block (w:=w) (w':=W) (a:=⟨b,0,none⟩)<|hW.block b hb).symm.trans h;exact Nat.lt_of_lt_of_le (hrow g ⟨n,c,h'⟩) hW.size
  have hbW:=Nat.lt_of_lt_of_le hb hW.size
  have hc:q_ Tryz.prog 105 [.func (.yield l) #[] #[],pt gp] W (λ_ W'=>(∃xs:List {x:Str // x∈parts/\x.b.length<=LEN},xs.map (·.1)=parts/\J xs W')∨(∃pre,True/\Jx pre W')):=by
    obtain ⟨fn,hf,hbd,hN,hr⟩:=fnE Tryz.func105;refine j_o hf (hbd.trans rfl) (hN.trans rfl) (Nat.le_of_ble_eq_true rfl) ?_;refine b_c<|b_t ?_;refine R rfl (c_r g_9 rfl (λh=>h)<|hpW.at rfl) ?_;refine E rfl (e_W Tryz.call106 rfl<|W_w2m (B:=W.heap.size) hm zr hs) ?_;rintro _ W1 ⟨s1,a1,n1,c1,S1,rfl,ho,nd,hge⟩;refine RX rfl (r_e a_X z_9 rfl ho rfl rfl hsl) ?_;intro v7 hv7;obtain ⟨ao7,c7,rfl,_⟩:=id hv7;refine R rfl (g_2 a_X rfl<|hv7.repS (B:=W1.heap.size)<|λk hk=>ho.lt k hk) ?_;refine R rfl (b_U rfl) ?_;refine b_5<|WC.of_KC ?_;have hJ1:J [] W1:=hJ [] W W1 none h0 (Below.grows s1) (λr h=>by cases h);have hb1:b∉S1:=λh=>absurd (hge b h)<|Nat.not_le.2 hbW
    have hr1:∀g,c_K W1 b g->g∉S1:=λg ⟨n,c,h⟩ hg=>by
      have h':W.cell? ⟨b,0,none⟩=some (sl (some ⟨g,0,none⟩) n c):=(World.cell?_of_block (w:=W) (w':=W1) (a:=⟨b,0,none⟩)<|s1.block b hbW).symm.trans h;exact absurd (hge g hg)<|Nat.not_le.2<|hrowW g ⟨n,c,h'⟩
    have hlenL:parts.length<=9223372036854775807:=Nat.le_trans (by obtain ⟨_,_,_,_,h,_⟩:=hv7;exact h) X_;refine d_G λa ha=>?_
    refine Code.wp_mono (Q:=Exit.then noK<|λex a w=>(ex = .exit 0/\b_Z Tryz.prog fn (λ_ W'=>(∃xs:List {x:Str // x∈parts/\x.b.length<=LEN},xs.map (·.1)=parts/\J xs W')∨(∃pre,True/\Jx pre W')) a w)∨(ex = .ret/\b_Z Tryz.prog fn (λ_ W'=>(∃xs:List {x:Str // x∈parts/\x.b.length<=LEN},xs.map (·.1)=parts/\J xs W')∨(∃pre,True/\Jx pre W')) a w)) (λex a' w' q=>?_)<|wp_loop_ghost (λm a w=>∃(k:Nat)(pre:List {x:Str // x∈parts/\x.b.length<=LEN}),k+m=parts.length/\pre.map (·.1)=parts.take k/\Sat 18 [(9,vI (k:Int)),(8,vI (parts.length:Int)),(7,sl ao7 parts.length c7),(0,.func (.yield l) #[] #[])] a/\J pre w/\b_ w S1 (sl a1 n1 c1) l0/\(∀g,c_K w b g->g∉S1)/\d_z w (· ∈ S1) (sl ao7 parts.length c7) parts) parts.length ?_ ?_
    . cases ex with
      | normal=>exact (show False from q).elim
      | exit i =>
        rcases q with ⟨h,q⟩ | ⟨h,_⟩
        . cases h;exact q
        . cases h
      | ret =>
        rcases q with ⟨h,_⟩ | ⟨_,q⟩
        . cases h
        . exact q
      | _=>rcases q with ⟨h,_⟩ | ⟨h,_⟩ <;> cases h
    . exact ⟨0,[],by omega,by simp,ha.weaken<|sc rfl<|sc rfl<|sc rfl<|sc rfl sn,hJ1,ho,hr1,hv7⟩
    . rintro m a w ⟨k,pre,hkm,hpre,hsat,hJw,how,hrw,hvw⟩
      refine g_h (N:=18) (e:=[(9,vI (k:Int)),(8,vI (parts.length:Int)),(7,sl ao7 parts.length c7),(0,.func (.yield l) #[] #[])]) ?_ hsat;refine b_c<|b_t<|R rfl (f_q rfl rfl)<|b_5<|WC.of_KC ?_;refine b_c<|c_N rfl (λhc=>?_)<|λhc=>?_
      . have hk:k<parts.length:=by simpa using hc
        obtain ⟨m,rfl⟩:∃m',m=m'+1:=⟨m - 1,by omega⟩;refine a_c<|WC.of_KC ?_;refine b_c<|d_G ?_;refine b_c<|b_t ?_;have hrep:=hvw.repS (B:=w.heap.size)<|λk hk=>how.lt k hk;have hidx:idx parts (k:Int)=some parts[k]:=by rw [k_Y];simp [hk]
        refine RX rfl (g_6 (α:=Str) a_X z_9 rfl rfl rfl hrep hidx) ?_;rintro _ ⟨bb,oo,cs,rfl,hc1,hrr,hlt⟩;obtain ⟨rfl,hxl⟩:=c_y hrr;refine R rfl (c_r g_9 rfl (λh=>h)<|hc1.at0 rfl) ?_;refine R rfl (d_s rfl) ?_;refine b_5<|WC.of_KC ?_;refine b_c<|r_7 ?_;refine i_Z rfl (b_U rfl) ?_;refine i_Z rfl (b_U rfl) ?_
        have hpl:pre.length=k:=by
          have:=congrArg List.length hpre
          simp at this;omega
        refine r_8 (S:=λv w'=>(v=vB true/\J (pre++[⟨parts[k],List.getElem_mem hk,hxl⟩]) w'/\KpS b w w')∨(v=vB false/\Jx (pre++[⟨parts[k],List.getElem_mem hk,hxl⟩]) w')) rfl rfl rfl (hY pre ⟨parts[k],List.getElem_mem hk,hxl⟩ w hJw (by omega)) (λe w' h=>?_) ?_
        . rcases h with ⟨rfl,h⟩ | ⟨rfl,h⟩
          . exact ⟨_,rfl,.inl ⟨rfl,h⟩⟩
          . exact ⟨_,rfl,.inr ⟨rfl,h⟩⟩
        rintro v w' (⟨rfl,hJ',hK⟩ | ⟨rfl,hX⟩)
        . refine i_Z rfl (e_u rfl) ?_
          refine m_R<|WC.of_KC ?_;refine c_N rfl (λh=>by cases h)<|λ_=>?_;refine a_c<|WC.of_KC ?_;refine b_t<|R rfl (f_Y hk hlenL rfl rfl)<|R rfl (b_U rfl) ?_;obtain ⟨ho',hr'⟩:=hK.own how hb1 hrw
          have hv':d_z w' (· ∈ S1) (sl ao7 parts.length c7) parts:=hvw.stay λg hg=>hK.chg.block g (how.lt g hg) λhm=>by
            rcases hm with rfl | hm | ⟨o,ho2,hcl⟩
            . exact hb1 hg
            . exact hrw g hm hg
            . obtain ⟨cur,hB⟩:=f_x how g hg
              rw [hB.isCells ho2] at hcl;cases hcl
          refine b_5 λa' ha'=>⟨m,Nat.lt_succ_self _,k+1,pre++[⟨parts[k],List.getElem_mem hk,hxl⟩],by omega,?_,ha'.weaken<|sc rfl<|sc rfl<|sc rfl<|sc rfl sn,hJ',ho',hr',hv'⟩
          rw [List.map_append,hpre,List.take_add_one,List.getElem?_eq_getElem hk];rfl
        . refine i_Z rfl (e_u rfl) ?_
          refine m_R<|WC.of_KC ?_;refine c_N rfl (λ_=>?_) (λh=>by cases h);exact d_F<|rtO λa' ha'=>.inr ⟨rfl,ret0 hr (.inr ⟨_,trivial,hX⟩) a' ha'⟩
      . have hk:¬k<parts.length:=by simpa using hc
        have:k=parts.length:=by omega
        subst this;refine f_O λa' ha'=>.inl ⟨rfl,ret0 hr (.inl ⟨pre,?_,hJw⟩) a' ha'⟩
        rw [hpre,List.take_length]
  refine callsIn_wide.2<|hc.run.mono λe w' ⟨v,he,h⟩=>⟨⟨v,he⟩,h⟩
theorem l_n {w0 W W':World}{row:Option Nat}(h:Below w0.heap.size w0 W)(hg:W.grownBy W' row)(hr:∀r,row=some r->w0.heap.size<=r):Below w0.heap.size w0 W':=d_K h (k_G hg) λk hk e=>absurd (hr k e)<|Nat.not_le.2 hk
def o_V (w0:World)(s:Str)(v:Value)(w':World):Prop:=v = .func (.func 105) #[] #[pt w0.heap.size]/\Blk w' w0.heap.size [Str.v s]/\Bw w0 w'
theorem o_W {w0:World}{s:Str}:q_ Tryz.prog 74 [Str.v s] w0 (o_V w0 s):=by
  obtain ⟨_,hf,hb,hN,hr⟩:=fnE Tryz.func74;refine j_o hf (hb.trans rfl) (hN.trans rfl) (Nat.le_of_ble_eq_true rfl) ?_;refine b_c<|b_t ?_;refine E rfl (e_V rfl) ?_;rintro _ G ⟨rfl,h1⟩;refine R rfl (d_s rfl) ?_;refine b_5<|WC.of_KC ?_;refine b_c<|b_t ?_;refine R rfl (j_c rfl) ?_;refine R rfl (d_s rfl) ?_;refine b_5<|WC.of_KC ?_;exact d_F<|i_ hr rfl ⟨rfl,(h1.blk:Blk G w0.heap.size [Str.v s]),h1.below⟩
theorem W_w2o {n:Nat}{B:Zone}{x1:Str}{res:(List Str)×Bool}{w0:World}(hm:j_3 n x1=some res)(hBw:B<=w0.heap.size)(p1_0:x1.b.length<=LEN):q_ Tryz.prog 61 [(Str.v x1),.func (.func 62) #[] #[]] w0 (Q26 w0 B res):=by
  unfold j_3 at hm
  obtain ⟨fn,hf,hb,hN,hr⟩:=fnE Tryz.func61;refine r_b hf (hb.trans rfl) (hN.trans rfl) (Nat.le_of_ble_eq_true rfl) ?_
  -- the cells
  refine b_c<|b_t ?_;refine E rfl (e_V rfl) ?_;rintro _ w1 ⟨rfl,h1⟩;have b3:Blk w1 w0.heap.size [.func (.func 62) #[] #[]]:=h1.blk;refine E rfl (e_l l_j) ?_;rintro _ w2 ⟨rfl,h2⟩;have b4:Blk w2 w1.heap.size [.slice none 0 0]:=h2.blk;refine E rfl (e_l zero_4) ?_;rintro _ w3 ⟨rfl,h3⟩;have b5:Blk w3 w2.heap.size [vB false]:=h3.blk;refine b_5<|WC.of_KC ?_;refine b_c<|b_t ?_;refine E rfl (f_1 (α:=Str) b_9) ?_;rintro _ w4 ⟨a,m,c,rfl,s4,ho4⟩;refine E rfl (e_l l_j) ?_;rintro _ w5 ⟨rfl,h5⟩;have b6:Blk w5 w4.heap.size [.slice none 0 0]:=h5.blk;refine E0 (b_w (cur':=[.slice a m c]) c_C rfl rfl b6 rfl (Nat.le_of_ble_eq_true rfl) (b_R rfl) rfl) ?_;rintro _ w6 ⟨c6,s6⟩;have t6:=s6.one;refine b_5<|WC.of_KC ?_
  -- what is known behind
  have g1:=h1.below;have g2:=h2.below;have g3:=h3.below;have g5:=h5.below;have z1:=h1.size;have z2:=h2.size;have z3:=h3.size;have z5:=h5.size;have z4:=s4.size;have z6:=s6.size
  have hz:w0.heap.size<w1.heap.size/\w1.heap.size<w2.heap.size/\w2.heap.size<w3.heap.size/\w3.heap.size<w4.heap.size/\w4.heap.size<w6.heap.size:=by
    have:=ho4.lt _ List.mem_cons_self
    omega
  have k3:Blk w6 w0.heap.size [.func (.func 62) #[] #[]]:=((((b3.ext g2).ext g3).ext s4).ext g5).chg s6 (by omega);have k4:Blk w6 w1.heap.size [.slice none 0 0]:=(((b4.ext g3).ext s4).ext g5).chg s6 (by omega);have k5:Blk w6 w2.heap.size [vB false]:=((b5.ext s4).ext g5).chg s6 (by omega);have kS:b_ w6 [w3.heap.size] (sl a m c) ([]:List Str):=(ho4.ext g5).chg s6 (λk hk=>by have:=List.mem_singleton.1 hk;omega);have kB:Below w0.heap.size w0 w6:=d_e (bup (bup (bup (bup g1 g2) g3) s4) g5) t6 (λk hk=>by have:=List.mem_singleton.1 hk;omega)
  clear b3 b4 b5 b6 ho4 h1 h2 h3 h5 s4 s6 t6 g1 g2 g3 g5 z1 z2 z3 z4 z5 z6
  -- the first look
  refine b_c<|b_c<|b_t ?_;refine R rfl (b_U rfl) ?_;refine R rfl (c_a rfl rfl) ?_;refine b_5<|WC.of_KC ?_;refine c_N rfl (λhc=>?_)<|λhc=>?_
  . obtain rfl:=som (ifT hm hc)
    refine b_c<|b_t ?_;refine R rfl (c_r b_8 rfl (λh=>h)<|c6.at rfl) ?_;refine E0 (b_w (cur':=[.slice a m c]) c_C rfl rfl k4 rfl (Nat.le_of_ble_eq_true rfl) (b_R rfl) rfl) ?_;rintro _ w7 ⟨c7,s7⟩;refine E0 (b_w (cur':=[vB true]) z_4 rfl rfl (k5.chg s7 (by omega)) rfl (Nat.le_of_ble_eq_true rfl) (b_R rfl) rfl) ?_;rintro _ w8 ⟨c8,s8⟩;refine b_5<|WC.of_KC ?_;refine d_F λa' ha'=>retM<|a_e hr (d_M (n:=1) b_8 rfl<|c7.chg s8 (by omega)) (d_M (n:=1) g_4 rfl c8) ⟨d_e (d_e kB s7.one (λk hk=>by have:=List.mem_singleton.1 hk;omega)) s8.one (λk hk=>by have:=List.mem_singleton.1 hk;omega),?_⟩ a' ha'
    exact ⟨a,m,c,_,rfl,(kS.chg s7 (λk hk=>by have:=List.mem_singleton.1 hk;omega)).chg s8 (λk hk=>by have:=List.mem_singleton.1 hk;omega),(by simp),λk hk=>by have:=List.mem_singleton.1 hk;omega⟩
  replace hm:=ifF hm hc;refine a_c<|WC.of_KC ?_
  -- the first byte
  refine b_c<|b_c<|b_t ?_;refine R rfl (b_U rfl) ?_;obtain ⟨x13,e13,hm⟩:=bdS hm;refine R rfl (c_X d_9 rfl rfl (a_M e13).1 (a_M e13).2.1) ?_;refine R rfl (g_x rfl rfl) ?_;refine b_5<|WC.of_KC ?_;refine c_N rfl (λhc=>?_)<|λhc=>?_
  . obtain rfl:=som (ifT hm hc)
    refine b_c<|b_t ?_;refine R rfl (c_r b_8 rfl (λh=>h)<|c6.at rfl) ?_;refine E0 (b_w (cur':=[.slice a m c]) c_C rfl rfl k4 rfl (Nat.le_of_ble_eq_true rfl) (b_R rfl) rfl) ?_;rintro _ w7 ⟨c7,s7⟩;refine E0 (b_w (cur':=[vB false]) z_4 rfl rfl (k5.chg s7 (by omega)) rfl (Nat.le_of_ble_eq_true rfl) (b_R rfl) rfl) ?_;rintro _ w8 ⟨c8,s8⟩;refine b_5<|WC.of_KC ?_;refine d_F λa' ha'=>retM<|a_e hr (d_M (n:=1) b_8 rfl<|c7.chg s8 (by omega)) (d_M (n:=1) g_4 rfl c8) ⟨d_e (d_e kB s7.one (λk hk=>by have:=List.mem_singleton.1 hk;omega)) s8.one (λk hk=>by have:=List.mem_singleton.1 hk;omega),?_⟩ a' ha'
    exact ⟨a,m,c,_,rfl,(kS.chg s7 (λk hk=>by have:=List.mem_singleton.1 hk;omega)).chg s8 (λk hk=>by have:=List.mem_singleton.1 hk;omega),(by simp),λk hk=>by have:=List.mem_singleton.1 hk;omega⟩
  replace hm:=ifF hm hc;refine a_c<|WC.of_KC ?_;obtain ⟨l0,hsp,hm⟩:=bdS hm;obtain ⟨parts,hsl,hm⟩:=bdS hm;obtain ⟨oks,hok,hm⟩:=bdS hm
  split at hm
  case isFalse=>cases hm
  rename_i hlim
  obtain rfl:=som hm;obtain ⟨hacc,hall⟩:=m_X hok
  -- the loop
  refine b_c<|b_c<|b_t ?_;refine R rfl (b_U rfl) ?_;refine E rfl (e_W Tryz.call74 rfl o_W) ?_;rintro _ w7 ⟨rfl,bp,s7⟩;refine b_5<|WC.of_KC ?_;replace k3:=k3.ext s7;replace k4:=k4.ext s7;replace k5:=k5.ext s7;replace c6:=c6.ext s7;replace kS:=kS.ext s7;replace kB:=bup kB<|s7.mono<|Nat.le_refl _;have z7:=s7.size
  have hrow:∀g,c_K w7 w4.heap.size g->g<w7.heap.size:=λg hg=>by
    have h1:=m_U c6 hg;exact kS.lt _<|(j_0 kS).2 g 0 none h1
  generalize w1.heap.size=q4 at *
  generalize w2.heap.size=q5 at *
  generalize w4.heap.size=q6 at *
  refine r_c (α:={x:Str // x∈parts/\x.b.length<=LEN}) (f:=λx=>x.1) (gf:=105) (lb:=[pt w6.heap.size]) (b:=q6) (M:=parts.length) (S:=λxs=>xs.map (·.1)=parts) (Sp:=λ_=>True) rfl Tryz.call105 rfl rfl (by omega)
    (o_U p1_0 hsp hsl bp (by omega) hrow)
    (λpre W=>(∀x∈pre,(e_K n x.1).getD false=true)/\(∃(a:Option Addr)(m c:Nat)(S:List Nat),Blk W q6 [.slice a m c]/\b_ W S (sl a m c) (pre.map (·.1))/\S.Nodup/\(∀k∈S,q5<k/\k ≠ q6))/\Blk W w0.heap.size [.func (.func 62) #[] #[]]/\Blk W q4 [.slice none 0 0]/\Blk W q5 [vB false]/\Below w0.heap.size w0 W)
    (λpre W=>(∃x∈pre,(e_K n x.1).getD false=false)/\(∃(a:Option Addr)(m c:Nat)(S:List Nat),Blk W q4 [.slice a m c]/\b_ W S (sl a m c) ([]:List Str)/\S.Nodup/\(∀k∈S,w0.heap.size<=k))/\Blk W q5 [vB false]/\Below w0.heap.size w0 W)
    ?_ ?_ ?_ ?_ ?_ ?_
  . rintro pre W W' row ⟨h1,⟨a,m,c,S,h2,h3,h4,h5⟩,h6,h7,h8,h9⟩ hg hr
    have hr':=λr e=>(hr r e).2
    exact ⟨h1,⟨a,m,c,S,h2.grown hg hr',m_W h3 hg hr',h4,h5⟩,h6.grown hg hr',h7.grown hg hr',h8.grown hg hr',l_n h9 hg λr e=>Nat.le_trans (by omega) (hr r e).1⟩
  . rintro pre W W' row ⟨h1,⟨a,m,c,S,h2,h3,h4,h5⟩,h8,h9⟩ hg hr
    have hr':=λr e=>(hr r e).2
    exact ⟨h1,⟨a,m,c,S,h2.grown hg hr',m_W h3 hg hr',h4,h5⟩,h8.grown hg hr',l_n h9 hg λr e=>Nat.le_trans (by omega) (hr r e).1⟩
  . exact ⟨λx hx=>(by cases hx),⟨a,m,c,_,c6,kS,(by simp),λk hk=>by have:=List.mem_singleton.1 hk;omega⟩,k3,k4,k5,kB⟩
  . rintro l pre ⟨x,hx,hxl⟩ W ⟨h1,⟨a,m,c,S,h2,h3,h4,h5⟩,h6,h7,h8,h9⟩ hlt
    refine r_6<|k_F<|k_F<|k_E rfl (λ_ _ h=>by cases h.1) ?_;refine R rfl (c_r g_86 rfl (λh=>h)<|h6.at rfl) ?_;refine R rfl (b_U rfl) ?_;refine E rfl (j_d (caps:=[]) Tryz.call62 rfl rfl<|W_w2n (hacc x hx) zr hxl) ?_;rintro _ W1 ⟨s1,rfl⟩;refine R rfl (e_u rfl) ?_;refine b_5<|WCI.of_KC ?_;have y1:=s1.size;have hq6:=h2.lt;have hw0.heap.size:=h6.lt;have hq4:=h7.lt;have hq5:=h8.lt;refine r_3 rfl (λhc=>?_)<|λhc=>?_
    . refine k_F (k_E rfl (λ_ _ h=>by cases h.1) ?_)
      refine E rfl (f_1 (α:=Str) b_9) ?_;rintro _ W2 ⟨a2,m2,c2,rfl,s2,ho2⟩;refine E0 (b_w (cur':=[.slice a2 m2 c2]) c_C rfl rfl ((h7.ext s1).ext s2) rfl (Nat.le_of_ble_eq_true rfl) (b_R rfl) rfl) ?_;rintro _ W3 ⟨c3,s3⟩;refine E0 (b_w (cur':=[vB false]) z_4 rfl rfl (((h8.ext s1).ext s2).chg s3 (by omega)) rfl (Nat.le_of_ble_eq_true rfl) (b_R rfl) rfl) ?_;rintro _ W4 ⟨c4,s4⟩;refine b_5<|WCI.of_KC ?_;have hW:Below W.heap.size W W2:=bup s1 s2
      have hc4:Chg (λk=>k=q4∨k=q5) W W4:=by
        have e1:Chg (λk=>k=q4∨k=q5) W W2:=(Chg.refl _ W).ext hW;refine (e1.comp s3 λk _ hk=>.inl hk).comp s4 λk _ hk=>.inr hk
      refine r_5 λ_ q=>⟨rfl,m_V hc4 λk _ hk=>?_,⟨⟨x,hx,hxl⟩,by simp,by simpa using hc⟩,⟨a2,m2,c2,_,c3.chg s4 (by omega),(ho2.chg s3 λk hk=>by have:=List.mem_singleton.1 hk;omega).chg s4 λk hk=>by have:=List.mem_singleton.1 hk;omega,(by simp),λk hk=>by have:=List.mem_singleton.1 hk;omega⟩,c4,?_⟩
      . rcases hk with rfl | rfl
        . exact ⟨_,h7⟩
        . exact ⟨_,h8⟩
      . exact d_K h9 hc4 λk hk hm=>by rcases hm with rfl | rfl <;> omega
    . refine r_4 (WCI.of_KC ?_)
      refine k_E rfl (λ_ _ h=>by cases h.1) ?_
      have hpsh:psh (pre.map (·.1)) x=some (pre.map (·.1)++[x]):=by
        unfold psh
        rw [if_pos (by rw [List.length_map];omega)]
      refine R rfl (c_r b_8 rfl (λh=>h)<|(h2.ext s1).at rfl) ?_;refine R rfl (b_U rfl) ?_;refine E rfl (f_W [(.tmp 25)] b_9 rfl rfl rfl (S_ rfl) (Nat.le_of_ble_eq_true rfl)<|Nat.le_of_ble_eq_true rfl) ?_;rintro _ W2 ⟨rfl,hb⟩;have s2:=hb.below;have y2:=s2.size;refine E rfl (a_i (α:=Str) b_9 hpsh rfl rfl ((h3.ext s1).ext s2) h4 hb.blk (b_K hxl) d_d z_) ?_;rintro _ W3 ⟨S',a',n',c',rfl,s3,ho3,nd3,hs3⟩;have y3:=s3.size
      have n3:∀k,k<W.heap.size->k<=q5∨k=q6->k∉S':=λk hk hq hm=>by
        rcases hs3 k hm with h | h | h
        . have:=h5 k h;omega
        . cases h
        . omega
      refine E0 (b_w (cur':=[.slice a' n' c']) c_C rfl rfl (((h2.ext s1).ext s2).chg s3 (λhm=>(h5 _ hm).2 rfl)) rfl (Nat.le_of_ble_eq_true rfl) (b_R rfl) rfl) ?_;rintro _ W4 ⟨c4,s4⟩;have hW:Below W.heap.size W W2:=bup s1 s2
      have hc4:Chg (λk=>k=q6∨k∈S) W W4:=by
        have e1:Chg (λk=>k=q6∨k∈S) W W2:=(Chg.refl _ W).ext hW;refine (e1.comp s3 λk _ hk=>.inr hk).comp s4 λk _ hk=>.inl hk
      have ho4:b_ W4 S' (sl a' n' c') (pre.map (·.1)++[x]):=ho3.chg s4 λk hk he=>n3 q6 hq6 (.inr rfl)<|he ▸ hk
      have hs4:∀k∈S',k∈S∨W.heap.size<=k:=λk hk=>by
        rcases hs3 k hk with h | h | h
        . exact .inl h
        . cases h
        . exact .inr (by omega)
      have k4:∀k,k<=q5->¬(k=q6∨k∈S):=λk hk hm=>by
        rcases hm with rfl | hm
        . omega
        . have:=h5 k hm;omega
      refine b_5 λa'' ha''=>⟨m_V hc4 λk _ hk=>?_,KpS.of_chg h2 h3 c4 ho4 hs4 hc4,λy hy=>?_,⟨a',n',c',S',c4,by simpa using ho4,nd3,λk hk=>?_⟩,h6.chg hc4<|k4 _ (by omega),h7.chg hc4<|k4 _ (by omega),h8.chg hc4<|k4 _ (by omega),d_K h9 hc4 λk hk hm=>k4 k (by omega) hm⟩
      . rcases hk with rfl | hk
        . exact ⟨_,h2⟩
        . exact f_x h3 k hk
      . rcases List.mem_append.1 hy with hy | hy
        . exact h1 y hy
        . obtain rfl:=List.mem_singleton.1 hy
          simpa using hc
      . rcases hs4 k hk with h | h
        . exact h5 k h
        . omega
  . rintro D xs W hD hxs ⟨h1,⟨a,m,c,S,h2,h3,h4,h5⟩,h6,h7,h8,h9⟩ hdef a0 ha0
    have hw0.heap.size:=h6.lt;have hq4:=h7.lt;have hq5:=h8.lt;refine tailD ?_ ha0;refine R rfl (c_r b_8 rfl (λh=>h)<|h2.at rfl) ?_;refine E0 (b_w (cur':=[.slice a m c]) c_C rfl rfl h7 rfl (Nat.le_of_ble_eq_true rfl) (b_R rfl) rfl) ?_;rintro _ W1 ⟨c7,s7⟩;refine E0 (b_w (cur':=[vB true]) z_4 rfl rfl (h8.chg s7 (by omega)) rfl (Nat.le_of_ble_eq_true rfl) (b_R rfl) rfl) ?_;rintro _ W2 ⟨c8,s8⟩;have hDlt:=(Array.getElem?_eq_some_iff.1 hdef).1;have hdef2:W2.heap[D]? = some (.deferred<|some []):=((s8.block D (Nat.lt_of_lt_of_le hDlt s7.size) (by omega)).trans (s7.block D hDlt (by omega))).trans hdef
    have hDS:∀k∈S,k ≠ D:=λk hk e=>by
      obtain ⟨cur,hB⟩:=f_x h3 k hk;have:=(e ▸ hB).isCells hdef
      cases this
    have hoks:oks.all id=true:=hall.2 λy hy=>by
      rw [← hxs] at hy
      obtain ⟨z,hz,rfl⟩:=List.mem_map.1 hy;exact h1 z hz
    rw [if_pos hoks]
    refine b_5 λa' ha'=>⟨ha'.defers,hdef2,?_⟩
    have hp:=m_S W2 D<|.deferred none;obtain ⟨_,v,e1,e2⟩:=a_e (R:=Q26 w0 B (parts,true)) hr (d_M (n:=1) b_8 rfl<|(c7.chg s8 (by omega)).chg hp (by omega)) (d_M (n:=1) g_4 rfl<|c8.chg hp (by omega)) ⟨d_K (d_K (d_K h9 s7 λk hk e=>by omega) s8 λk hk e=>by omega) hp λk hk e=>by omega,a,m,c,S,rfl,((hxs ▸ h3).chg s7 λk hk e=>by have:=h5 k hk;omega).chg s8 (λk hk e=>by have:=h5 k hk;omega) |>.chg hp λk hk e=>hDS k hk e,h4,λk hk=>by have:=h5 k hk;omega⟩ a' ha';exact ⟨v,e1,e2⟩
  . rintro D pre W hD _ ⟨⟨⟨x,hx,hxl⟩,hxm,hxb⟩,⟨a,m,c,S,h2,h3,h4,h5⟩,h8,h9⟩ hdef a0 ha0
    have hq4:=h2.lt;have hq5:=h8.lt
    have hDS:∀k∈S,k ≠ D:=λk hk e=>by
      obtain ⟨cur,hB⟩:=f_x h3 k hk;have:=(e ▸ hB).isCells hdef
      cases this
    have hoks:¬oks.all id=true:=λh=>by
      have:=hall.1 h x hx
      rw [this] at hxb;cases hxb
    rw [if_neg hoks]
    have hp:=m_S W D<|.deferred none;obtain ⟨_,v,e1,e2⟩:=a_e (R:=Q26 w0 B ([],false)) hr (d_M (n:=1) b_8 rfl<|h2.chg hp (by omega)) (d_M (n:=1) g_4 rfl<|h8.chg hp (by omega)) ⟨d_K h9 hp λk hk e=>by omega,a,m,c,S,rfl,h3.chg hp λk hk e=>hDS k hk e,h4,h5⟩ a0 ha0;exact retD ha0.defers hdef e1 e2
def Q27 (w0:World)(B:Zone)(r:(List Str)×Bool)(v:Value)(w':World):Prop:=Bw w0 w'/\un2 (λI J=>∃a1 G H S1,v = .tuple #[sl a1 G H,vB J]/\b_ w' S1 (sl a1 G H) I/\S1.Nodup/\(∀k∈S1,w0.z<=k)) r
theorem W_w2p {x1:Str}{res:(List Str)×Bool}(hm:h_7 n x1=some res)(H:B<=w0.z)(G:x1.b.length<=LEN):q_ prog 44 [Str.v x1] w0 (Q27 w0 B res):=by
 unfold h_7 at hm
 refine goG func44 z z z λfn hr=>Ws<|Ra z<|Rw z<|Wm z ?_
 obtain ⟨_,_,J,I⟩:=a_9 hm;refine E z (fc call61 z<|W_w2o (B:=B) J H G) ?_;rintro _ _ ⟨s2,L,O,V,W,rfl,Y,h8,h9⟩;refine Re z z z<|Re z z z<|Ra z<|Rw z ?_
 obtain rfl:=som I;exact Wr<|a_e hr z z ⟨s2,L,O,V,W,z,Y,h8,h9⟩
def Q28 (w0:World)(g1:Nat)(B:Zone)(A0:Option Addr)(N0 C0:Nat)(A1:Option Addr)(N1 C1:Nat)(x1:b_h)(r:Bool×Int)(v:Value)(w':World):Prop:=Cg [g1] w0 w'/\un2 (λH G=>(vB H)=v/\inI G/\Blk w' g1 [sl A0 N0 C0,sl A1 N1 C1,vI x1.rule,vI G]) r
theorem j_O {x1:b_h}{g1:Nat}{x2:Int}{res:Bool×Int}(hm:d_E n x1 x2=some res)(hB1:Blk w0 g1 [sl A0 N0 C0,sl A1 N1 C1,vI x1.rule,vI x1.at_])(O:B<=w0.z)(hBg:¬B g1)(H:repS w0 B (sl A0 N0 C0) x1.d.rules)(I:repS w0 B (sl A1 N1 C1) x1.b)(a0:inI x1.rule)(J:inI x1.at_)(L:inI x2):q_ prog 78 [pt g1,vI x2] w0 (Q28 w0 g1 B A0 N0 C0 A1 N1 C1 x1 res):=by
 unfold d_E at hm
 refine goG func78 z z z λfn hr=>Ws<|Rw z<|Wq (Wd (X:=noX) 0 (pl_ 19 [13]) mo (by kernel_rfl) λW G _=>dM z z z<|dR z z (O_ z)<|dR z z (fd j_p z) ?_)
 have h1:=hB1.e G;refine dR z z (lN (vs:=[sl A0 N0 C0]) B_ w_ z z fid<|h1.row 0 1 z)<|dM z z z<|dM z z z<|dR z z (O_ z)<|dR z z (fd i_g z)<|dR z z (l0 U_ z<|h1.at z)<|dM z z z<|dR z z (O_ z)<|dR z z (fd d_l z)<|dR z z (l0 g_3 z<|h1.at z) ?_
 obtain ⟨Y,_,e5,V⟩:=a_9 hm;refine dE z z (fc call51 z<|i_m (B:=B) (x1:=(⟨x1.d.rules⟩:g_)) e5 (zt' O G.s) (H.e G) L (I.e G) J) (.inr λ_ _ h=>x_<|h.1) ?_;rintro _ w7 ⟨s2,rfl,h8,_⟩;refine dM z z z<|dR z z (ext_ z z)<|dR z z (ext_ z z)<|dQ z z z<|dQ z z z<|pD<|Wo<|Wm z<|Rm z<|R z (O_ z)<|Rf z d_l z<|E0 (fs0 (cur':=[sl A0 N0 C0,sl A1 N1 C1,vI x1.rule,vI Y]) z_3 z z (h1.e s2) z z z z) ?_
 rintro _ w9 ⟨ha,sb⟩;refine Wn<|Wm z<|Rq z z z<|Rw z ?_
 obtain rfl:=som V;exact Wr<|i_ hr z ⟨(cM (e_ (e_ (cr [g1] w0) G:Cg [g1] w0 W) s2:Cg [g1] w0 w7) sb.one (io sr):Cg [g1] w0 w9),z,h8,ha⟩
def Q29 (w0:World)(g1:Nat)(B:Zone)(A0:Option Addr)(N0 C0:Nat)(A1:Option Addr)(N1 C1:Nat)(x1:b_h)(r:Int×Bool×Int)(v:Value)(w':World):Prop:=Cg [g1] w0 w'/\un3 (λG I H=>v = .tuple #[vI G,vB I]/\inI G/\inI H/\Blk w' g1 [sl A0 N0 C0,sl A1 N1 C1,vI x1.rule,vI H]) r
theorem W_w1l {x1:b_h}{g1:Nat}{x2:Int}{res:Int×Bool×Int}(hm:f_I n x1 x2=some res)(hB1:Blk w0 g1 [sl A0 N0 C0,sl A1 N1 C1,vI x1.rule,vI x1.at_])(L:B<=w0.z)(hBg:¬B g1)(I:repS w0 B (sl A0 N0 C0) x1.d.rules)(J:repS w0 B (sl A1 N1 C1) x1.b)(a0:inI x1.rule)(a1:inI x1.at_)(a2:inI x2):q_ prog 77 [pt g1,vI x2] w0 (Q29 w0 g1 B A0 N0 C0 A1 N1 C1 x1 res):=by
 unfold f_I at hm
 refine goG func77 z z z λfn hr=>Ws<|Ra z<|Rw z<|Wm z<|R z (O_ z)<|Rf z d_l z<|R z (l0 g_3 z<|hB1.at z)<|Rw z<|Wq<|Wm z<|Rm z ?_
 obtain ⟨_,_,ea,O⟩:=a_9 hm;refine E z (fc call78 z<|j_O (B:=B) ea hB1 L hBg I J a0 a1 a2) ?_;rintro _ V ⟨G,rfl,h6,W⟩;refine R z (not_ z)<|Wx z (λH=>?_) (λH=>?_)
 .refine Ws<|Ra z<|Rw z ?_
  obtain rfl:=som<|ifT O H;exact Wr<|a_e hr z z ⟨(cM (cr [g1] w0) G (io sr):Cg [g1] w0 V),z,ii z,h6,W⟩
 refine Wk<|Wq (Wd (X:=noX) 0 (pl_ 22 [19]) mo (by kernel_rfl) λwc s1 _=>dM z z z<|dR z z (O_ z)<|dR z z (fd i_g z) ?_)
 have h2:=W.e s1;refine dR z z (l0 U_ z<|h2.at z)<|dM z z z<|dM z z z<|dR z z (O_ z)<|dR z z (fd d_l z)<|dR z z (l0 g_3 z<|h2.at z) ?_
 obtain ⟨_,ed,hme⟩:=bdS<|ifF O H;have Y:=(G.agc B<|c_<|a_ hBg).e s1;refine dRX z z (rX s_ z_5 z z (J.g Y) z z ed) ?_;rintro _ ⟨_,_,_,rfl,hf⟩;refine dM z z z<|dR z z (O_ z)<|dR z z (fd j_p z)<|dR z z (fd T_ z)<|dR z z (l0 V_ z<|h2.at z)<|dM z z z ?_
 obtain ⟨_,eg,hmh⟩:=bdS hme;refine dRX z z (at_ (α:=d_) N_ t_ z z z (I.g Y) eg) ?_;rintro _ ⟨_,_,_,rfl,hi,hj,_⟩;obtain ⟨_,_,_,_,_,_,_,_,_,_,_,_,rfl,_,_,_,_,_,_,_⟩:=a_T hj;refine dR z z (fd c_2 z)<|dR z z (l0 g_4 z<|hi.at (j:=3) z) ?_
 obtain ⟨_,ek,hml⟩:=bdS hmh;refine dE z z (fc call58 z<|g_p ek (zt' L<|lt_ G.s s1.s) hf) (.inr λ_ _ h=>x_<|h.1) ?_;rintro _ wm ⟨s9,rfl,hn⟩;refine dQ z z z<|dQ z z z<|pD<|Wo ?_
 obtain rfl:=som hml;exact Wr<|a_e hr z z ⟨(e_ (e_ (cM (cr [g1] w0) G (io sr):Cg [g1] w0 V) s1:Cg [g1] w0 wc) s9:Cg [g1] w0 wm),z,hn,h6,h2.e s9⟩
def Q30 (w0:World)(g1:Nat)(B:Zone)(A0:Option Addr)(N0 C0:Nat)(A1:Option Addr)(N1 C1:Nat)(x1:b_h)(r:Bool×Int×Int)(v:Value)(w':World):Prop:=Cg [g1] w0 w'/\un3 (λI G H=>(vB I)=v/\inI G/\inI H/\Blk w' g1 [sl A0 N0 C0,sl A1 N1 C1,vI G,vI H]) r
theorem W_w2q {x1:b_h}{g1:Nat}{x2:d_}{x3:Str}{res:Bool×Int×Int}(hm:h_j n x1 x2 x3=some res)(hB1:Blk w0 g1 [sl A0 N0 C0,sl A1 N1 C1,vI x1.rule,vI x1.at_])(a0:B<=w0.z)(hBg:¬B g1)(a1:repS w0 B (sl A0 N0 C0) x1.d.rules)(a2:repS w0 B (sl A1 N1 C1) x1.b)(W:inI x1.rule)(a9:inI x1.at_)(aO:x2.name.b.length<=LEN)(aP:inI x2.kind)(aQ:inI x2.size)(aR:repS w0 B (sl A3 N3 C3) x2.bytes)(aS:repS w0 B (sl A4 N4 C4) x2.names)(aT:repS w0 B (sl A2 N2 C2) x2.tags)(Y:repS w0 B (sl A5 N5 C5) x2.kids)(aa:x3.b.length<=LEN):q_ prog 63 [pt g1,.agg #[Str.v x2.name,vI x2.kind,vI x2.size,vB x2.little,sl A3 N3 C3,sl A4 N4 C4,sl A2 N2 C2,sl A5 N5 C5],Str.v x3] w0 (Q30 w0 g1 B A0 N0 C0 A1 N1 C1 x1 res):=by
 unfold h_j at hm
 refine goG func63 z z z λfn hr=>Ws<|E z (fb z) ?_
 rintro _ wb ⟨rfl,hn⟩;have V:=hn.below;refine Rw z<|n_Z 0 z<|Wm z ?_
 obtain ⟨rm,an,ao,ab⟩:=a_9 hm;refine E z (fc call76 z<|W_w1k ao (zt' a0 V.s) aa) ?_;rintro _ we ⟨s9,rfl,ap⟩;refine Rm z<|Re z z z<|Re z z z<|Ra z<|Rw z<|Wm z<|Rf z M_ z ?_
 have hf:=(hn.blk:Blk wb w0.z (vR x2 A3 N3 C3 A4 N4 C4 A2 N2 C2 A5 N5 C5)).e s9;refine R z (l0 C_ z<|hf.at z) ?_;obtain ⟨_,aq,ad⟩:=bdS ab;have ha:=(V.ag B).e s9;refine RX z (at_ (α:=Int) A_ z_3 z z z (Y.g ha) aq) ?_;rintro _ ⟨_,_,_,rfl,ar,au,_⟩;obtain ⟨rfl,av⟩:=W_ au;refine R z (l0 g_3 z<|ar.at0 z) ?_;have ho:=lt_ V.s s9.s;obtain ⟨rp,aw,_,ax,ae⟩:=r_ ad;refine E z (fc call77 z<|W_w1l (B:=B) ax ((hB1.e V).e s9) (zt' a0 ho) hBg (a1.g ha) (a2.g ha) W a9 av) ?_;rintro _ L ⟨s5,rfl,_,hq,ht⟩;refine Rm z<|Re z z z<|Re z z z<|Ra z<|Rw z<|Wq<|Wq ?_
 obtain ⟨ay,hur,hms⟩:=bdS ae;refine Wt (λa w=>∃(xg:Bool),xg=ay/\Sat 58 [(0,pt g1),(4,pt w0.z),(7,vI rm),(39,vB xg)] a/\Below L.z L w) ?_ ?_
 .refine Wg<|Rm z<|R z (not_ z)<|Rm z ?_
  rcases bs (!an) with H | H
  .exact Nh z H<|Nh z H<|R z (pT z H z)<|Rm z<|Nh z z<|Nh z z<|R z (pT z z z)<|Rm z<|Nh z z<|Nh z z<|Nh z z<|R z (pT z z z)<|Wl (λ_ q=>⟨true,som<|ifT hur H,q.k<|s4 z z z z,br L⟩)
  have hmu:=ifF hur H;refine Rh z H (mv z)<|Rh z H (not_ z)<|R z (pF z H z)<|Rm z ?_
  rcases bs (!aw) with I | I
  .exact Nh z I<|Nh z I<|R z (pT z I z)<|Rm z<|Nh z z<|Nh z z<|Nh z z<|R z (pT z z z)<|Wl (λ_ q=>⟨true,som<|ifT hmu I,q.k<|s4 z z z z,br L⟩)
  have hmv:=ifF hmu I;refine Rh z I (mv z)<|Rh z I (a_b z z)<|R z (pF z I z)<|Rm z ?_
  rcases bs (decide<|40<rp) with J | J
  .iterate 3 refine Nh z J ?_
   exact R z (pT z J z)<|Wl (λ_ q=>⟨true,som<|ifT hmv J,q.k<|s4 z z z z,br L⟩)
  exact Rh z J (mv z)<|Rh z J (mv z)<|Rh z J (b_z z z)<|R z (pF z J z)<|Wl (λ_ q=>⟨decide<|rp<=rm,som<|ifF hmv J,q.k<|s4 z z z z,br L⟩)
 rintro az O ⟨xg,rfl,_,G⟩;revert az;refine Wo<|Wc z (λhch=>?_) (λhch=>?_)
 .refine Ws<|Rw z ?_
  obtain rfl:=som<|ifT hms hch;exact j_l<|i_ hr z ⟨(e_ (cM (e_ (e_ (cr [g1] w0) V:Cg [g1] w0 wb) s9:Cg [g1] w0 we) s5 (io sr):Cg [g1] w0 L) G:Cg [g1] w0 O),z,W,hq,ht.e G⟩
 refine Wk ?_;obtain ⟨_,af,ah⟩:=gotoS<|ifF hms hch;refine o_0 (σ:=Int×Int) (ρ:=Bool×Int×Int) (λs a w=>un2 (λxc xd=>Sat 58 [(0,pt g1),(4,pt w0.z),(7,vI xc)] a/\Cg [g1] O w/\inI xc/\inI xd/\Blk w g1 [sl A0 N0 C0,sl A1 N1 C1,vI x1.rule,vI xd]) s) (rQ prog fn<|Q30 w0 g1 B A0 N0 C0 A1 N1 C1 x1) af ?_ ?_ ?_
 .exact λ_ q=>⟨q.k<|s3 z z z,cr [g1] O,ap,hq,ht.e G⟩
 .rintro ⟨xc,xd⟩ _ wi _ ⟨ai,s7,_,hw,hx⟩ aj;have hmy:=a_A aj;refine Wu ?_ ai;refine Wq<|Wm z<|R z (a_b z z)<|Wx z (λhcj=>?_) (λhcj=>?_)
  .refine Wq<|Wm z<|Rf z M_ z ?_
   have hz:=mmr<|Blk.lt hB1
   refine R z (l0 C_ z<|(((hf.c s5<|atp hz).e G).c s7<|atp hz).at z) ?_;obtain ⟨_,aA,ak⟩:=bdS<|ifT hmy hcj;have hk:=((ha.c s5<|c_<|a_ hBg).e G).c s7<|c_<|a_ hBg
   refine RX z (at_ (α:=Int) A_ z_3 z z z (Y.g hk) aA) ?_;rintro _ ⟨_,_,_,rfl,aB,aC,_⟩;obtain ⟨rfl,aD⟩:=W_ aC;refine R z (l0 g_3 z<|aB.at0 z) ?_;obtain ⟨_,aE,aF,a3⟩:=a_9 ak;refine E z (fc call78 z<|j_O (B:=B) aF hx (zt' a0<|lt_ (lt_ (lt_ ho s5.s) G.s) s7.s) hBg (a1.g hk) (a2.g hk) W hw aD) ?_;rintro _ a4 ⟨a5,rfl,a6,a7⟩;refine R z (not_ z)<|Wx z (λhcl=>?_) (λhcl=>?_)
   .refine Ws<|Rw z ?_
    exact j_l<|qL (som<|ifT a3 hcl).symm<|i_ hr z ⟨(cM (cM (e_ (cM (e_ (e_ (cr [g1] w0) V:Cg [g1] w0 wb) s9:Cg [g1] w0 we) s5 (io sr):Cg [g1] w0 L) G:Cg [g1] w0 O) s7 (io sr):Cg [g1] w0 wi) a5 (io sr):Cg [g1] w0 a4),z,W,a6,a7⟩
   refine Wk<|Wm z<|R z (sb_ z z)<|Rw z ?_
   exact o_1 λ_ q=>⟨rfl,(J_ xc 1,aE),(som<|ifF a3 hcl).symm,⟨q.k<|s3 z z z,(cM (cM (cr [g1] O) s7 (io sr):Cg [g1] O wi) a5 (io sr):Cg [g1] O a4),iS _ _,a6,a7⟩⟩
  refine Wk<|Wm z<|Rf z M_ z ?_
  have a8:=mmr<|Blk.lt hB1
  refine R z (l0 C_ z<|(((hf.c s5<|atp a8).e G).c s7<|atp a8).at z) ?_;obtain ⟨aG,aH,al⟩:=bdS<|ifF hmy hcj;refine RX z (at_ (α:=Int) A_ z_3 z z z (Y.g<|((ha.c s5<|c_<|a_ hBg).e G).c s7<|c_<|a_ hBg) aH) ?_;rintro _ ⟨_,_,_,rfl,aI,aJ,_⟩;obtain ⟨rfl,aK⟩:=W_ aJ;refine R z (l0 g_3 z<|aI.at0 z)<|R z (O_ z)<|Rf z g_l z<|E0 (fs0 (cur':=[sl A0 N0 C0,sl A1 N1 C1,vI aG,vI xd]) z_3 z z hx z z z z) ?_
  rintro _ aL ⟨aM,aN⟩;refine Wn<|Ws<|Rw z ?_
  exact j_l<|qL (som al).symm<|i_ hr z ⟨(cM (cM (e_ (cM (e_ (e_ (cr [g1] w0) V:Cg [g1] w0 wb) s9:Cg [g1] w0 we) s5 (io sr):Cg [g1] w0 L) G:Cg [g1] w0 O) s7 (io sr):Cg [g1] w0 wi) aN.one (io sr):Cg [g1] w0 aL),z,aK,hw,aM⟩
 rintro _ _ _ ⟨rfl,am⟩;obtain rfl:=som ah;exact ⟨am,z⟩
theorem W_w2r {x1:b_h}{g1:Nat}{x2:d_}{x3:Str}{res:Bool×Int×Int}(hm:h_k n x1 x2 x3=some res)(hB1:Blk w0 g1 [sl A0 N0 C0,sl A1 N1 C1,vI x1.rule,vI x1.at_])(Y:B<=w0.z)(hBg:¬B g1)(a0:repS w0 B (sl A0 N0 C0) x1.d.rules)(a1:repS w0 B (sl A1 N1 C1) x1.b)(O:inI x1.rule)(a2:inI x1.at_)(aK:x2.name.b.length<=LEN)(aL:inI x2.kind)(aM:inI x2.size)(aN:repS w0 B (sl A3 N3 C3) x2.bytes)(V:repS w0 B (sl A4 N4 C4) x2.names)(aO:repS w0 B (sl A2 N2 C2) x2.tags)(W:repS w0 B (sl A5 N5 C5) x2.kids)(a3:x3.b.length<=LEN):q_ prog 64 [pt g1,.agg #[Str.v x2.name,vI x2.kind,vI x2.size,vB x2.little,sl A3 N3 C3,sl A4 N4 C4,sl A2 N2 C2,sl A5 N5 C5],Str.v x3] w0 (Q30 w0 g1 B A0 N0 C0 A1 N1 C1 x1 res):=by
 unfold h_k at hm
 refine goG func64 z z z λfn hr=>Ws<|E z (fb z) ?_
 rintro _ H ⟨rfl,hh⟩;have h3:=hh.below;have ha:Blk H w0.z (vR x2 A3 N3 C3 A4 N4 C4 A2 N2 C2 A5 N5 C5):=hh.blk;refine Rw z<|Wq<|Ws<|Rf z b_x z<|R z (l0 b_8 z<|ha.at z)<|R z (lnR a_X z<|V.e h3)<|Rm z<|Wn ?_
 obtain ⟨_,huv,hmi⟩:=bdS hm;refine Wf (σ:=Int) (ρ:=Bool×Int×Int) (λ(kb:Nat)(x4:Int) a w=>Sat 44 [(0,pt g1),(2,Str.v x3),(4,pt w0.z),(10,sl A4 N4 C4),(11,vI (x2.names.length:Int)),(12,vI ((kb:Nat):Int))] a/\Cg [g1] H w/\inI x4/\Blk w g1 [sl A0 N0 C0,sl A1 N1 C1,vI x1.rule,vI x4]) (λ(x4:Int) a w=>Sat 44 [] a/\Cg [g1] H w/\inI x4/\Blk w g1 [sl A0 N0 C0,sl A1 N1 C1,vI x1.rule,vI x4]) (rQ prog fn<|Q30 w0 g1 B A0 N0 C0 A1 N1 C1 x1) huv ?_ ?_ ?_ ?_ ?_
 .exact λ_ q=>⟨q.k<|s6 z z z z z z,cr [g1] H,a2,hB1.e h3⟩
 .rintro kb x4 _ I _ hkj ⟨hSw,s5,h6,J⟩ hmx;refine Wu ?_ hSw;refine Ws<|Rl z z z<|Wn<|Wq<|Wc z (λ_=>?_) (λhc=>(a_n hkj hc).elim)
  refine Wk<|Wq<|Wb<|Wm z ?_
  obtain ⟨_,ey,hmk⟩:=bdS hmx;have hd:=(h3.ag B).c s5<|c_<|a_ hBg
  have hl:=V.g hd;refine RX z (at_ (α:=Str) a_X z_9 z z z hl ey) ?_;rintro _ ⟨_,_,_,rfl,hz,ae,_⟩;obtain ⟨rfl,_⟩:=c_y ae;refine R z (l0 g_9 z<|hz.at0 z)<|Ra z<|Rw z<|Wq<|Wm z<|Rm z<|R z (c_a z z)<|Wx z (λhcc=>?_) (λhcc=>?_)
  .refine Wm z<|Rf z M_ z<|R z (l0 C_ z<|(ha.c s5<|atp<|mmr<|Blk.lt hB1).at z)<|Rm z ?_
   obtain ⟨af,ah,a4⟩:=bdS<|ifT hmk hcc;refine RX z (at_ (α:=Int) A_ z_3 z z z (W.g hd) ah) ?_;rintro _ ⟨_,_,_,rfl,ai,aj,_⟩;obtain ⟨rfl,ak⟩:=W_ aj;refine R z (l0 g_3 z<|ai.at0 z)<|R z (O_ z)<|Rf z g_l z<|E0 (fs0 (cur':=[sl A0 N0 C0,sl A1 N1 C1,vI af,vI x4]) z_3 z z J z z z z) ?_
   rintro _ al ⟨am,an⟩;refine Wn<|Ws<|Rw z ?_
   exact Wr<|rtO<|qL (som a4).symm<|i_ hr z ⟨(cM (cM (e_ (cr [g1] w0) h3:Cg [g1] w0 H) s5 (io sr):Cg [g1] w0 I) an.one (io sr):Cg [g1] w0 al),z,ak,h6,am⟩
  refine Wk<|Wq ?_
  obtain ⟨ao,a5,a6⟩:=bdS<|ifF hmk hcc;refine Wt (λa w=>∃(xe:Bool)(L:Int),(xe,L)=ao/\Sat 44 [(0,pt g1),(2,Str.v x3),(4,pt w0.z),(10,sl A4 N4 C4),(11,vI (x2.names.length:Int)),(12,vI ((kb:Nat):Int)),(42,vB xe)] a/\Cg [g1] I w/\inI L/\Blk w g1 [sl A0 N0 C0,sl A1 N1 C1,vI x1.rule,vI L]) ?_ ?_
  .refine Wg<|Rf z b_x z ?_
   have hn:=ha.c s5<|atp<|mmr<|Blk.lt hB1
   refine R z (l0 b_8 z<|hn.at z)<|Rm z ?_
   have ho:=lt_ h3.s s5.s;obtain ⟨ap,aq,hmm⟩:=bdS a5;refine E z (fc call79 z<|W_w1c aq (zt' Y ho) hl a3) ?_;rintro _ wp ⟨s8,rfl⟩;refine R z (not_ z)<|Rm z ?_
   rcases bs (!ap) with G | G
   .iterate 8 refine Nh z G ?_
    refine R z (pT z G z)<|Wl ?_
    exact λ_ q=>⟨true,x4,som<|ifT hmm G,q.k<|s7 z z z z z z z,(e_ (cr [g1] I) s8:Cg [g1] I wp),h6,J.e s8⟩
   refine Rh z G (mv z)<|Rh z G (fd M_ z)<|Rh z G (l0 C_ z<|(hn.e s8).at z)<|Rh z G (mv z) ?_
   obtain ⟨_,ar,a7⟩:=bdS<|ifF hmm G;have hf:=hd.e s8;refine RXg z z G z (at_ (α:=Int) A_ z_3 z z z (W.g hf) ar) ?_;rintro _ ⟨_,_,_,rfl,au,av,_⟩;obtain ⟨rfl,aw⟩:=W_ av;refine Rh z G (l0 g_3 z<|au.at0 z) ?_;obtain ⟨ax,ay,az,a8⟩:=a_9 a7;refine Eg z z G z (fc call78 z<|j_O (B:=B) az (J.e s8) (zt' Y<|lt_ ho s8.s) hBg (a0.g hf) (a1.g hf) O h6 aw) ?_;rintro _ aA ⟨aB,rfl,aC,aD⟩;refine Rh z G (not_ z)<|R z (pF z G z)<|Wl ?_
   exact λ_ q=>⟨!ax,ay,som a8,q.k<|s7 z z z z z z z,(cM (e_ (cr [g1] I) s8:Cg [g1] I wp) aB (io sr):Cg [g1] I aA),aC,aD⟩
  rintro aE wq ⟨xe,L,rfl,_,ss,ht,hu⟩;have hmr:=a_A a6;revert aE;refine Wo<|Wc z (λhcg=>?_) (λhcg=>?_)
  .refine Ws<|Rw z ?_
   exact Wr<|rtO<|qL (som<|ifT hmr hcg).symm<|i_ hr z ⟨(cM (cM (e_ (cr [g1] w0) h3:Cg [g1] w0 H) s5 (io sr):Cg [g1] w0 I) ss (io sr):Cg [g1] w0 wq),z,O,ht,hu⟩
  refine Wk<|Wg<|R z (inc_ hkj (lt_ (repS.len V) X_) z z)<|Rm z<|Wl ?_
  exact λ_ q=>⟨L,(som<|ifF hmr hcg).symm,⟨q.k<|s6 z z z z z z,(cM (cM (cr [g1] H) s5 (io sr):Cg [g1] H I) ss (io sr):Cg [g1] H wq),ht,hu⟩⟩
 .rintro x4 _ aF ⟨a9,aG,h6,J⟩;refine Wu ?_ a9;refine Ws<|Rl z z z<|Wn<|Wq<|Wc z (λhc=>(a_o hc).elim) (λ_=>?_)
  exact We<|λ_ q=>⟨rfl,⟨q.k sn,(cM (cr [g1] H) aG (io sr):Cg [g1] H aF),h6,J⟩⟩
 .rintro x4 aH aI rfl ⟨_,aJ,h6,J⟩;have aa:=elL hmi;revert aH;refine Wo<|Ws<|Rw z ?_
  obtain rfl:=som aa;exact Wr<|i_ hr z ⟨(cM (e_ (cr [g1] w0) h3:Cg [g1] w0 H) aJ (io sr):Cg [g1] w0 aI),z,O,h6,J⟩
 rintro _ _ _ _ rfl ⟨rfl,ab⟩;have ad:=elR hmi;obtain rfl:=som ad;exact ⟨ab,z⟩
theorem W_w2s {x1:Int}{x2:Int}{G H:Nat}{res:Bool}(hm:j_4 x1 x2=some res)(V:B<=w0.z)(J:inI x1)(L:inI x2)(I:a_1 w0 G H [vI x2])(O:B G):q_ prog 80 [vI x1,(.pointer<|some ⟨G,H,none⟩)] w0 (Q0 w0 B res):=by
 unfold j_4 at hm
 refine goG func80 z z z λfn hr=>Ws<|Rw z<|Wm z<|R z (l0 g_3 z<|I.at0 z)<|Rq z z z<|Rw z ?_
 obtain rfl:=som hm;exact Wr<|i_ hr z ⟨br w0,z⟩
theorem W_w2t {x1:List Int}{J:Int}{H L:Nat}{res:Int}(hm:h_l x1 J=some res)(a2:B<=w0.z)(I:repS w0 B (sl A0 N0 C0) x1)(p2c0_0:inI J)(a1:a_1 w0 H L [vI J])(a0:B H):q_ prog 59 [sl A0 N0 C0,(.func (.func 80) #[] #[(.pointer<|some ⟨H,L,none⟩)])] w0 (Q9 w0 B res):=by
 unfold h_l at hm
 refine goG func59 z z z λfn hr=>Ws<|Rw z<|Wq<|Wm z<|R z (lnR A_ z I)<|Rm z<|Wn ?_
 obtain ⟨_,a3,W⟩:=bdS hm;refine Wf (σ:=Unit) (ρ:=Int) (λ(k4:Nat)(_:Unit) a w=>Sat 19 [(1,.func (.func 80) #[] #[(.pointer<|some ⟨H,L,none⟩)]),(7,sl A0 N0 C0),(8,vI (x1.length:Int)),(9,vI ((k4:Nat):Int))] a/\Below w0.z w0 w) (λ(_:Unit) a w=>Sat 19 [] a/\Below w0.z w0 w) (rQ prog fn<|Q9 w0 B) a3 ?_ ?_ ?_ ?_ ?_
 .exact λ_ q=>⟨q.k<|s4 z z z z,br w0⟩
 .rintro k4 _ _ _ _ O ⟨a4,G⟩ a5;refine Wu ?_ a4;refine Ws<|Rl z z z<|Wn<|Wq<|Wc z (λ_=>?_) (λhc=>(a_n O hc).elim)
  refine Wk<|Wq<|Wb<|Wm z ?_
  obtain ⟨_,ea,hmb⟩:=bdS a5;refine RX z (at_ (α:=Int) A_ z_3 z z z (I.e G) ea) ?_;rintro _ ⟨_,_,_,rfl,hd,he,_⟩;obtain ⟨rfl,hf⟩:=W_ he;refine R z (l0 g_3 z<|hd.at0 z)<|Ra z<|Rw z<|Wm z<|Rm z ?_
  obtain ⟨_,ec,Y⟩:=bdS hmb;refine E z (j_d call80 z z<|W_w2s ec (zt' a2 G.s) hf p2c0_0 (a1.e G) a0) ?_;rintro _ _ ⟨s6,rfl⟩;refine Wx z (λV=>?_) (λV=>?_)
  .exact Wm z<|Rw z<|Wr<|rtO<|qL (som<|ifT Y V).symm<|i_ hr z ⟨bup G s6,z,ic (Nat.le_of_lt O)<|lt_ (repS.len I) X_⟩
  exact Wk<|Wg<|R z (inc_ O (lt_ (repS.len I) X_) z z)<|Rm z<|Wl (λ_ q=>⟨(),(som<|ifF Y V).symm,⟨q.k<|s4 z z z z,bup G s6⟩⟩)
 .rintro _ _ _ ⟨hSg,sh⟩;refine Wu ?_ hSg;refine Ws<|Rl z z z<|Wn<|Wq<|Wc z (λhc=>(a_o hc).elim) (λ_=>?_)
  exact We<|λ_ q=>⟨rfl,⟨q.k sn,sh⟩⟩
 .rintro _ ai _ rfl ⟨_,sj⟩;have hmk:=elL W;revert ai;refine Wo<|Ws<|Rw z ?_
  obtain rfl:=som hmk;exact Wr<|i_ hr z ⟨sj,z,ii z⟩
 rintro _ _ _ _ rfl ⟨rfl,hql⟩;have hmm:=elR W;obtain rfl:=som hmm;exact ⟨hql,z⟩
theorem W_w2u {x1:b_h}{g1:Nat}{x2:d_}{res:Bool×Int×Int}(hm:h_m n x1 x2=some res)(hB1:Blk w0 g1 [sl A0 N0 C0,sl A1 N1 C1,vI x1.rule,vI x1.at_])(L:B<=w0.z)(hBg:¬B g1)(W:repS w0 B (sl A0 N0 C0) x1.d.rules)(Y:repS w0 B (sl A1 N1 C1) x1.b)(O:inI x1.rule)(a0:inI x1.at_)(al:x2.name.b.length<=LEN)(am:inI x2.kind)(an:inI x2.size)(ao:repS w0 B (sl A3 N3 C3) x2.bytes)(ap:repS w0 B (sl A4 N4 C4) x2.names)(a1:repS w0 B (sl A2 N2 C2) x2.tags)(V:repS w0 B (sl A5 N5 C5) x2.kids):q_ prog 65 [pt g1,(.agg #[Str.v x2.name,vI x2.kind,vI x2.size,vB x2.little,sl A3 N3 C3,sl A4 N4 C4,sl A2 N2 C2,sl A5 N5 C5])] w0 (Q30 w0 g1 B A0 N0 C0 A1 N1 C1 x1 res):=by
 unfold h_m at hm
 refine goG func65 z z z λfn hr=>Ws<|E z (fb z) ?_
 rintro _ wb ⟨rfl,hf⟩;have H:=hf.below;have hc:Blk wb w0.z (vR x2 A3 N3 C3 A4 N4 C4 A2 N2 C2 A5 N5 C5):=hf.blk;refine Rw z<|Wm z<|Rf z M_ z<|R z (l0 C_ z<|hc.at z) ?_
 obtain ⟨_,er,hms⟩:=bdS hm;refine RX z (at_ (α:=Int) A_ z_3 z z z (V.e H) er) ?_;rintro _ ⟨_,_,_,rfl,ht,hu,_⟩;obtain ⟨rfl,hv⟩:=W_ hu;refine R z (l0 g_3 z<|ht.at0 z) ?_;obtain ⟨rx,ry,rz,ew,a2⟩:=r_ hms;refine E z (fc call77 z<|W_w1l (B:=B) ew (hB1.e H) (zt' L H.s) hBg (W.e H) (Y.e H) O a0 hv) ?_;rintro _ I ⟨s5,rfl,a5,hg,hh⟩;refine Rm z<|Re z z z<|Re z z z<|E z (fa i_h) ?_
 rintro _ wa ⟨rfl,hi⟩;have h2:=hi.below;have hj:Blk wa I.z [vI 0]:=hi.blk;refine E0 (fs0 (cur':=[vI rx]) z_3 z z hj z z z z) ?_;rintro _ wk ⟨a6,a7⟩;have h3:=a7.one;refine Rw z<|Ws<|Rf z a_O z ?_
 have hl:=((hc.c s5<|atp<|mmr<|Blk.lt hB1).e h2).c h3<|djs<|mm1 hc.lt s5.s
 refine R z (l0 C_ z<|hl.at z)<|R z (j_c z) ?_
 have h6:=lt_ H.s s5.s;have hn:=(((H.ag B).c s5<|c_<|a_ hBg).e h2).c h3<|c_ (or0 (a_ lr) (m_<|zt' L h6):∀k∈[I.z],¬B k)
 obtain ⟨rm,a8,a3⟩:=bdS a2;refine E z (fc call59 z<|W_w2t (B:=wa.z) a8 (b_a h3.s) (repS.mono (a1.g hn)<|zt' L<|lt_ h6 h2.s) a5 (a6.row 0 1 z) hj.lt) ?_;rintro _ J ⟨s8,rfl,_⟩;refine Rw z<|Wq<|Wq ?_
 obtain ⟨a9,huo,hmp⟩:=bdS a3;refine Wt (λa w=>∃(xd:Bool),xd=a9/\Sat 36 [(0,pt g1),(3,pt w0.z),(7,vI rm),(26,vB xd)] a/\Below J.z J w) ?_ ?_
 .refine Wg<|Rm z<|R z (not_ z)<|Rm z ?_
  rcases bs (!ry) with G | G
  .exact Nh z G<|Nh z G<|R z (pT z G z)<|Wl (λ_ q=>⟨true,som<|ifT huo G,q.k<|s4 z z z z,br J⟩)
  exact Rh z G (mv z)<|Rh z G (lss z z)<|R z (pF z G z)<|Wl (λ_ q=>⟨decide<|rm<0,som<|ifF huo G,q.k<|s4 z z z z,br J⟩)
 rintro aa wq ⟨xd,rfl,_,s9⟩;revert aa;refine Wo<|Wc z (λhce=>?_) (λhce=>?_)
 .refine Ws<|Rw z ?_
  obtain rfl:=som<|ifT hmp hce;exact Wr<|i_ hr z ⟨(e_ (e_ (cM (e_ (cM (e_ (cr [g1] w0) H:Cg [g1] w0 wb) s5 (io sr):Cg [g1] w0 I) h2:Cg [g1] w0 wa) h3 (mor h6:∀k∈[I.z],k∈[g1]∨w0.z<=k):Cg [g1] w0 wk) s8:Cg [g1] w0 J) s9:Cg [g1] w0 wq),z,O,hg,(((hh.e h2).c h3<|djs<|mm1 (Blk.lt hB1) h6).e s8).e s9⟩
 refine Wk<|Wm z<|Rf z M_ z<|R z (l0 C_ z<|((hl.e s8).e s9).at z)<|Rm z<|R z (add_ z z) ?_
 obtain ⟨ab,ad,a4⟩:=bdS<|ifF hmp hce;refine RX z (at_ (α:=Int) A_ z_3 z z z (V.g<|(hn.e s8).e s9) ad) ?_;rintro _ ⟨_,_,_,rfl,ae,af,_⟩;obtain ⟨rfl,ah⟩:=W_ af;refine R z (l0 g_3 z<|ae.at0 z)<|R z (O_ z)<|Rf z g_l z<|E0 (fs0 (cur':=[sl A0 N0 C0,sl A1 N1 C1,vI ab,vI rz]) z_3 z z ((((hh.e h2).c h3<|djs<|mm1 (Blk.lt hB1) h6).e s8).e s9) z z z z) ?_
 rintro _ ai ⟨aj,ak⟩;refine Wn<|Ws<|Rw z ?_
 obtain rfl:=som a4;exact Wr<|i_ hr z ⟨(cM (e_ (e_ (cM (e_ (cM (e_ (cr [g1] w0) H:Cg [g1] w0 wb) s5 (io sr):Cg [g1] w0 I) h2:Cg [g1] w0 wa) h3 (mor h6:∀k∈[I.z],k∈[g1]∨w0.z<=k):Cg [g1] w0 wk) s8:Cg [g1] w0 J) s9:Cg [g1] w0 wq) ak.one (io sr):Cg [g1] w0 ai),z,ah,hg,aj⟩
theorem W_w2v {x1:b_h}{g1:Nat}{x2:Str}{res:Bool×Int×Int}(hm:f_J n x1 x2=some res)(hB1:Blk w0 g1 [sl A0 N0 C0,sl A1 N1 C1,vI x1.rule,vI x1.at_])(V:B<=w0.z)(hBg:¬B g1)(a0:repS w0 B (sl A0 N0 C0) x1.d.rules)(a1:repS w0 B (sl A1 N1 C1) x1.b)(Y:inI x1.rule)(W:inI x1.at_)(au:x2.b.length<=LEN):q_ prog 45 [pt g1,Str.v x2] w0 (Q30 w0 g1 B A0 N0 C0 A1 N1 C1 x1 res):=by
 unfold f_J at hm
 refine goG func45 z z z λfn hr=>Ws<|Rw z<|Wq (Wd (X:=noX) 4096 (pl_ 13 [11,12]) mo (by kernel_rfl) λH G _=>dM z z z<|dR z z (O_ z)<|dR z z (fd j_p z)<|dR z z (fd T_ z) ?_)
 have L:=hB1.e G;refine dR z z (l0 V_ z<|L.at z)<|dM z z z<|dR z z (O_ z)<|dR z z (fd g_l z)<|dR z z (l0 g_3 z<|L.at z) ?_
 obtain ⟨xe,aZ,av⟩:=bdS hm;refine dRX z z (at_ (α:=d_) N_ t_ z z z (a0.e G) aZ) ?_;rintro _ ⟨_,_,_,rfl,b0,b1,_⟩;obtain ⟨ah,ni,cj,ak,nl,cm,an,no,cp,aq,nr,cs,rfl,ab,ad,ae,af,ai,aj,hu⟩:=a_T b1;refine dR z z (lN (vs:=vR xe ah ni cj ak nl cm an no cp aq nr cs) R_ t_ z z fid b0)<|dE z z (fa b_M) (.inr λ_ _ h=>x_<|h.2.below) ?_
 rintro _ wg ⟨rfl,aF⟩;have h1:=aF.below;refine dE0 z (fs0 (cur':=vR xe ah ni cj ak nl cm an no cp aq nr cs) t_ z z (aF.blk:Blk wg H.z [(Str.v (⟨[]⟩:Str)),vI 0,vI 0,vB false,sN,sN,sN,sN]) z z z z) (.inl z) ?_;rintro _ O ⟨ha,b2⟩;have h2:=b2.one;refine pD<|Wo<|Wq<|Wb<|Ws<|Rf z a_V z<|R z (l0 g_3 z<|ha.at z)<|Rq z z z<|Rw z<|Wc z (λa4=>?_) (λa4=>?_)
 .refine Wm z<|R z (lN (vs:=vR xe ah ni cj ak nl cm an no cp aq nr cs) R_ t_ z z fid<|ha.row 0 8 z)<|Rm z ?_
  have aG:∀k∈[H.z],¬B k:=or0 (a_ lr)<|m_<|zt' V G.s;have aH:=((G.ag B).e h1).c h2<|c_ aG
  have hv:=(h1.ag B).c h2<|c_ aG
  obtain ⟨_,_,_,b3,aQ⟩:=r_<|ifT av a4;refine E z (fc call63 z<|W_w2q (B:=B) b3 ((L.e h1).c h2<|djs<|mm1 (Blk.lt hB1) G.s) (zt' V<|lt_ (lt_ G.s h1.s) h2.s) hBg (a0.g aH) (a1.g aH) Y W ab ad ae (af.g hv) (ai.g hv) (aj.g hv) (hu.g hv) au) ?_;rintro _ b4 ⟨b5,rfl,b6,b7,b8⟩;refine Rw z ?_
  obtain rfl:=som aQ;exact Wr<|rtO<|i_ hr z ⟨(cM (cM (e_ (e_ (cr [g1] w0) G:Cg [g1] w0 H) h1:Cg [g1] w0 wg) h2 (mor G.s:∀k∈[H.z],k∈[g1]∨w0.z<=k):Cg [g1] w0 O) b5 (io sr):Cg [g1] w0 b4),z,b6,b7,b8⟩
 have aw:=ifF av a4;refine Ws<|Rf z a_V z<|R z (l0 g_3 z<|ha.at z)<|Rq z z z<|Rw z<|Wc z (λa5=>?_) (λa5=>?_)
 .refine Wm z<|R z (lN (vs:=vR xe ah ni cj ak nl cm an no cp aq nr cs) R_ t_ z z fid<|ha.row 0 8 z)<|Rm z ?_
  have aI:∀k∈[H.z],¬B k:=or0 (a_ lr)<|m_<|zt' V G.s;have aJ:=((G.ag B).e h1).c h2<|c_ aI
  have hw:=(h1.ag B).c h2<|c_ aI
  obtain ⟨_,_,_,b9,aR⟩:=r_<|ifT aw a5;refine E z (fc call64 z<|W_w2r (B:=B) b9 ((L.e h1).c h2<|djs<|mm1 (Blk.lt hB1) G.s) (zt' V<|lt_ (lt_ G.s h1.s) h2.s) hBg (a0.g aJ) (a1.g aJ) Y W ab ad ae (af.g hw) (ai.g hw) (aj.g hw) (hu.g hw) au) ?_;rintro _ ba ⟨bb,rfl,bc,be,bf⟩;refine Rw z ?_
  obtain rfl:=som aR;exact Wr<|rtO<|i_ hr z ⟨(cM (cM (e_ (e_ (cr [g1] w0) G:Cg [g1] w0 H) h1:Cg [g1] w0 wg) h2 (mor G.s:∀k∈[H.z],k∈[g1]∨w0.z<=k):Cg [g1] w0 O) bb (io sr):Cg [g1] w0 ba),z,bc,be,bf⟩
 refine Wq ?_;obtain ⟨bg,ax,ay⟩:=bdS<|ifF aw a5;refine Wt (λa w=>∃(al:Bool),al=bg/\Sat 97 [(0,pt g1),(1,Str.v x2),(5,pt H.z),(33,vB al)] a/\Below O.z O w) ?_ ?_
 .refine Wg<|Rf z a_V z<|R z (l0 g_3 z<|ha.at z)<|Rq z z z<|Rm z ?_
  rcases bs (xe.kind==7) with hcb | hcb
  .exact Rh z hcb (mv z)<|Rh z hcb (c_a z z)<|R z (pT z hcb z)<|Ra z<|Wl (λ_ q=>⟨x2.b==(⟨[42]⟩:Str).b,som<|ifT ax hcb,q.k<|s4 z z z z,br O⟩)
  exact Nh z hcb<|Nh z hcb<|R z (pF z hcb z)<|Ra z<|Wl (λ_ q=>⟨false,som<|ifF ax hcb,q.k<|s4 z z z z,br O⟩)
 rintro bh wf ⟨al,rfl,_,s5⟩;revert bh;refine Wo<|Wc z (λa6=>?_) (λa6=>?_)
 .refine Wm z<|R z (lN (vs:=vR xe ah ni cj ak nl cm an no cp aq nr cs) R_ t_ z z fid<|(ha.e s5).row 0 8 z) ?_
  have aK:∀k∈[H.z],¬B k:=or0 (a_ lr)<|m_<|zt' V G.s;have aL:=(((G.ag B).e h1).c h2<|c_ aK).e s5;have hx:=((h1.ag B).c h2<|c_ aK).e s5;obtain ⟨_,_,_,bi,aS⟩:=r_<|ifT ay a6;refine E z (fc call65 z<|W_w2u (B:=B) bi (((L.e h1).c h2<|djs<|mm1 (Blk.lt hB1) G.s).e s5) (zt' V<|lt_ (lt_ (lt_ G.s h1.s) h2.s) s5.s) hBg (a0.g aL) (a1.g aL) Y W ab ad ae (af.g hx) (ai.g hx) (aj.g hx)<|hu.g hx) ?_;rintro _ bj ⟨bk,rfl,bm,bn,bo⟩;refine Rw z ?_
  obtain rfl:=som aS;exact Wr<|rtO<|i_ hr z ⟨(cM (e_ (cM (e_ (e_ (cr [g1] w0) G:Cg [g1] w0 H) h1:Cg [g1] w0 wg) h2 (mor G.s:∀k∈[H.z],k∈[g1]∨w0.z<=k):Cg [g1] w0 O) s5:Cg [g1] w0 wf) bk (io sr):Cg [g1] w0 bj),z,bm,bn,bo⟩
 refine Wq ?_;obtain ⟨bp,az,aT⟩:=bdS<|ifF ay a6;refine Wt (λa w=>∃(am:Bool),am=bp/\Sat 97 [(0,pt g1),(1,Str.v x2),(5,pt H.z),(44,vB am)] a/\Below wf.z wf w) ?_ ?_
 .refine Wg<|Rf z a_V z<|R z (l0 g_3 z<|(ha.e s5).at z)<|Rq z z z<|Rm z ?_
  rcases bs (xe.kind==8) with hcc | hcc
  .exact Rh z hcc (mv z)<|Rh z hcc (c_a z z)<|R z (pT z hcc z)<|Ra z<|Wl (λ_ q=>⟨x2.b==(⟨[63]⟩:Str).b,som<|ifT az hcc,q.k<|s4 z z z z,br wf⟩)
  exact Nh z hcc<|Nh z hcc<|R z (pF z hcc z)<|Ra z<|Wl (λ_ q=>⟨false,som<|ifF az hcc,q.k<|s4 z z z z,br wf⟩)
 rintro bq J ⟨am,rfl,_,s7⟩;revert bq;refine Wo ?_;obtain ⟨bt,aA,a7⟩:=bdS aT;refine Wt (λa w=>∃(xt:Int),Sum.inl xt=bt/\Sat 97 [(0,pt g1),(5,pt H.z)] a/\Cg [g1] J w/\inI xt/\Blk w g1 [sl A0 N0 C0,sl A1 N1 C1,vI x1.rule,vI xt]) ?_ ?_
 .refine Wc z (λa8=>?_)<|λa8=>?_
  .refine Wq<|Wq ?_
   obtain ⟨bu,aB,aC⟩:=bdS<|ifT aA a8;refine Wt (λa w=>∃(ao:Bool),ao=bu/\Sat 97 [(0,pt g1),(5,pt H.z),(74,vB ao)] a/\Below J.z J w) ?_ ?_
   .refine Wd (X:=noX) 0 (pl_ 23 []) mo (by kernel_rfl) λbS sy _=>dM z z z<|dR z z (O_ z)<|dR z z (fd d_l z) ?_
    have hz:=((((L.e h1).c h2<|djs<|mm1 (Blk.lt hB1) G.s).e s5).e s7).e sy;refine dR z z (l0 g_3 z<|hz.at z)<|dM z z z<|dR z z (O_ z)<|dR z z (fd i_g z)<|dR z z (l0 U_ z<|hz.at z) ?_
    have aM:=a1.g<|(((((G.ag B).e h1).c h2<|c_ (or0 (a_ lr) (m_<|zt' V G.s):∀k∈[H.z],¬B k)).e s5).e s7).e sy
    refine dR z z (lnR s_ z aM)<|dR z z (b_z z z)<|dM z z z ?_
    rcases bs (decide<|(x1.b.length:Int)<=x1.at_) with I | I
    .iterate 11 refine dRn z z z I z ?_
     exact dR z z (pT z I z)<|pD (λ_ q=>⟨true,som<|ifT aB I,q.k<|s3 z z z,sy⟩)
    refine dRg z z z I z (mv z)<|dRg z z z I z (O_ z)<|dRg z z z I z (fd i_g z)<|dRg z z z I z (l0 U_ z<|hz.at z)<|dRg z z z I z (mv z)<|dRg z z z I z (O_ z)<|dRg z z z I z (fd d_l z)<|dRg z z z I z (l0 g_3 z<|hz.at z) ?_
    obtain ⟨bv,bw,aU⟩:=bdS<|ifF aB I;refine c_l z z z I z (at_ (α:=UInt8) s_ z_5 z z z aM bw) ?_;rintro _ ⟨_,_,_,rfl,bx,bz,_⟩;obtain rfl:=u8 bz;exact dRg z z z I z (l0 g_5 z<|bx.at0 z)<|dRg z z z I z (nq z z)<|dR z z (pF z I z)<|pD (λ_ q=>⟨(byteI bv) != (byteI (1:UInt8)),som aU,q.k<|s3 z z z,sy⟩)
   rintro bA aN ⟨ao,rfl,_,a2⟩;revert bA;refine Wo<|Wc z (λa9=>?_) (λa9=>?_)
   .refine Ws<|Rw z ?_
    obtain rfl:=som<|ifT aC a9;have aV:=elR a7;obtain rfl:=som aV;exact Wr<|rtO<|i_ hr z ⟨(e_ (e_ (e_ (cM (e_ (e_ (cr [g1] w0) G:Cg [g1] w0 H) h1:Cg [g1] w0 wg) h2 (mor G.s:∀k∈[H.z],k∈[g1]∨w0.z<=k):Cg [g1] w0 O) s5:Cg [g1] w0 wf) s7:Cg [g1] w0 J) a2:Cg [g1] w0 aN),z,Y,W,((((L.e h1).c h2<|djs<|mm1 (Blk.lt hB1) G.s).e s5).e s7).e a2⟩
   refine Wk<|Wg<|Rm z<|R z (O_ z)<|Rf z d_l z ?_
   have aO:=((((L.e h1).c h2<|djs<|mm1 (Blk.lt hB1) G.s).e s5).e s7).e a2;refine R z (l0 g_3 z<|aO.at z)<|R z (add_ z z)<|R z (O_ z)<|Rf z d_l z<|E0 (fs0 (cur':=[sl A0 N0 C0,sl A1 N1 C1,vI x1.rule,vI<|j_ x1.at_ 1]) z_3 z z aO z z z z) ?_
   rintro _ bB ⟨bC,bD⟩;refine Wl ?_;exact λ_ q=>⟨j_ x1.at_ 1,som<|ifF aC a9,q.k<|s2 z z,(cM (e_ (cr [g1] J) a2:Cg [g1] J aN) bD.one (io sr):Cg [g1] J bB),iA _ _,bC⟩
  refine Wq ?_;obtain ⟨bE,aD,aE⟩:=bdS<|ifF aA a8;refine Wt (λa w=>∃(ap:Bool),ap=bE/\Sat 97 [(0,pt g1),(5,pt H.z),(82,vB ap)] a/\Below J.z J w) ?_ ?_
  .refine Wg<|Rf z a_V z<|R z (l0 g_3 z<|((ha.e s5).e s7).at z)<|Rq z z z<|Rm z ?_
   rcases bs (xe.kind==9) with hcd | hcd
   .exact Rh z hcd (mv z)<|Rh z hcd (c_a z z)<|R z (pT z hcd z)<|Ra z<|Wl (λ_ q=>⟨x2.b==(⟨[43]⟩:Str).b,som<|ifT aD hcd,q.k<|s3 z z z,br J⟩)
   exact Nh z hcd<|Nh z hcd<|R z (pF z hcd z)<|Ra z<|Wl (λ_ q=>⟨false,som<|ifF aD hcd,q.k<|s3 z z z,br J⟩)
  rintro bF aP ⟨ap,rfl,_,a3⟩;revert bF;refine Wo<|Wc z (λaa=>?_) (λaa=>?_)
  .refine a_c ?_;exact λ_ q=>⟨x1.at_,som<|ifT aE aa,q.k<|s2 z z,(e_ (cr [g1] J) a3:Cg [g1] J aP),W,((((L.e h1).c h2<|djs<|mm1 (Blk.lt hB1) G.s).e s5).e s7).e a3⟩
  refine Ws<|Rw z ?_
  obtain rfl:=som<|ifF aE aa;have aW:=elR a7;obtain rfl:=som aW;exact Wr<|rtO<|i_ hr z ⟨(e_ (e_ (e_ (cM (e_ (e_ (cr [g1] w0) G:Cg [g1] w0 H) h1:Cg [g1] w0 wg) h2 (mor G.s:∀k∈[H.z],k∈[g1]∨w0.z<=k):Cg [g1] w0 O) s5:Cg [g1] w0 wf) s7:Cg [g1] w0 J) a3:Cg [g1] w0 aP),z,Y,W,((((L.e h1).c h2<|djs<|mm1 (Blk.lt hB1) G.s).e s5).e s7).e a3⟩
 rintro bG bH ⟨xt,rfl,_,ar,bI,bJ⟩;have aX:=elL a7;revert bG;refine Wo<|Wm z<|Rf z M_ z<|R z (l0 C_ z<|(((ha.e s5).e s7).c ar<|atp<|mm1 (Blk.lt hB1) G.s).at z) ?_
 obtain ⟨bK,bL,aY⟩:=bdS aX;refine RX z (at_ (α:=Int) A_ z_3 z z z (hu.g<|((((h1.ag B).c h2<|c_ (or0 (a_ lr) (m_<|zt' V G.s):∀k∈[H.z],¬B k)).e s5).e s7).c ar<|c_<|a_ hBg) bL) ?_;rintro _ ⟨_,_,_,rfl,bM,bN,_⟩;obtain ⟨rfl,bO⟩:=W_ bN;refine R z (l0 g_3 z<|bM.at0 z)<|R z (O_ z)<|Rf z g_l z<|E0 (fs0 (cur':=[sl A0 N0 C0,sl A1 N1 C1,vI bK,vI xt]) z_3 z z bJ z z z z) ?_
 rintro _ bP ⟨bQ,bR⟩;refine Wn<|Ws<|Rw z ?_
 obtain rfl:=som aY;exact Wr<|i_ hr z ⟨(cM (cM (e_ (e_ (cM (e_ (e_ (cr [g1] w0) G:Cg [g1] w0 H) h1:Cg [g1] w0 wg) h2 (mor G.s:∀k∈[H.z],k∈[g1]∨w0.z<=k):Cg [g1] w0 O) s5:Cg [g1] w0 wf) s7:Cg [g1] w0 J) ar (io sr):Cg [g1] w0 bH) bR.one (io sr):Cg [g1] w0 bP),z,bO,bI,bQ⟩
theorem W_w2w {x1:g_}{x2:Bt}{x3:Str}{res:Int×Bool}(hm:f_m n x1 x2 x3=some res)(O:B<=w0.z)(V:repS w0 B (sl A0 N0 C0) x1.rules)(a0:repS w0 B (sl A6 N6 C6) x2)(a1:x3.b.length<=LEN):q_ prog 20 [(.agg #[sl A0 N0 C0]),sl A6 N6 C6,Str.v x3] w0 (Q25 w0 B res):=by
 unfold f_m at hm
 refine goG func20 z z z λfn hr=>Ws<|E z (fb z) ?_
 rintro _ af ⟨rfl,hn⟩;have hf:=hn.below;refine Ra z<|Rw z<|Wm z ?_
 obtain ⟨rm,_,ah,a2⟩:=a_9 hm;refine E z (fc call44 z<|W_w2p ah (zt' O hf.s) a1) ?_;rintro _ _ ⟨sg,ao,np,cq,_,rfl,ha,_,_⟩;refine Rm z<|Re z z z<|Re z z z<|Ra z<|Rw z<|Wq (Wd (X:=noX) 0 (pl_ 7 [3,5]) mo (by kernel_rfl) λaL s6 _=>?_)
 have ht:=((hn.blk:Blk af w0.z [sl A0 N0 C0]).e sg).e s6;refine dR z z (lN (vs:=[sl A0 N0 C0]) B_ w_ z z fid<|ht.row 0 1 z)<|dM z z z<|dR z z (lN (vs:=[sl A0 N0 C0]) B_ w_ z z fid<|ht.row 0 1 z) ?_
 have hu:=((hf.ag B).e sg).e s6;have hk:=lt_ (lt_ hf.s sg.s) s6.s;obtain ⟨rr,ai,a3⟩:=bdS a2;refine dE z z (fc call42 z<|f_f ai (zt' O hk)<|V.g hu) (.inr λ_ _ h=>x_<|h.1) ?_;rintro _ G ⟨s7,rfl,aj⟩;refine dR z z (bP (parts:=[(0,.tmp 18),(1,.tmp 19),(2,.tmp 21)]) (cs:=[sl A0 N0 C0,sl A6 N6 C6,vI rr,vI 0]) o_K z z)<|dE z z (fb z) (.inr λ_ _ h=>x_<|h.2.below) ?_
 rintro _ I ⟨rfl,hv⟩;have hh:=hv.below;refine dQ z z z<|pD<|Wo<|Wq<|Wm z ?_
 have hw:=((ha.e s6).e s7).e hh;refine R z (lnR a_X z<|or_ hw<|b_.lt ha)<|Rm z<|Wn ?_
 obtain ⟨_,a4,hms⟩:=bdS a3;refine Wf (σ:=Bool×Int×Int) (ρ:=Int×Bool) (λ(kl:Nat) s a w=>un3 (λx5 x0 x4=>Sat 42 [(9,vB x5),(10,pt G.z),(24,sl ao np cq),(25,vI (rm.length:Int)),(26,vI ((kl:Nat):Int))] a/\Cg [G.z] I w/\inI x0/\inI x4/\Blk w G.z [sl A0 N0 C0,sl A6 N6 C6,vI x0,vI x4]) s) (λs a w=>un3 (λx5 x0 x4=>Sat 42 [(9,vB x5),(10,pt G.z)] a/\Cg [G.z] I w/\inI x0/\inI x4/\Blk w G.z [sl A0 N0 C0,sl A6 N6 C6,vI x0,vI x4]) s) (rQ prog fn<|Q25 w0 B) a4 ?_ ?_ ?_ ?_ ?_
 .exact λ_ q=>⟨q.k<|s5 z z z z z,cr [G.z] I,aj,ii z,(hv.blk:Blk I G.z [sl A0 N0 C0,sl A6 N6 C6,vI rr,vI 0])⟩
 .rintro kl ⟨x5,x0,x4⟩ _ wb _ hkx ⟨a5,si,hd,J,L⟩ a6;refine Wu ?_ a5;refine Ws<|Rl z z z<|Wn<|Wq<|Wc z (λ_=>?_) (λhc=>(a_n hkx hc).elim)
  refine Wk<|Wq<|Wb<|Ws ?_
  obtain ⟨_,ak,a7⟩:=bdS<|a_u a6;refine RX z (at_ (α:=Str) a_X z_9 z z z (or_ (hw.c si<|ds<|mno (b_.lt ha)<|lt_ s6.s s7.s)<|b_.lt ha) ak) ?_;rintro _ ⟨_,_,_,rfl,al,am,_⟩;obtain ⟨rfl,an⟩:=c_y am;refine R z (l0 g_9 z<|al.at0 z)<|Rw z ?_
  obtain ⟨ap,huy,a8⟩:=bdS a7;refine Wt (λa w=>∃(xj:Bool)(xc:Int)(xe:Int),(xj,xc,xe)=ap/\Sat 42 [(9,vB xj),(10,pt G.z),(24,sl ao np cq),(25,vI (rm.length:Int)),(26,vI ((kl:Nat):Int))] a/\Cg [G.z] wb w/\inI xc/\inI xe/\Blk w G.z [sl A0 N0 C0,sl A6 N6 C6,vI xc,vI xe]) ?_ ?_
  .refine Wg<|RM z z ?_
   rcases bs x5 with H | H
   .refine Rh z H (mv z)<|Rh z H (mv z) ?_
    have hz:=lt_ hk s7.s;have W:∀k∈[G.z],¬B k:=or0 (a_ lr)<|m_<|zt' O hz;have Y:=((hu.e s7).e hh).c si<|c_ W
    obtain ⟨aq,ar,au,av,a9⟩:=r_<|ifT huy H;refine Eg z z H z (fc call45 z<|W_w2v (B:=B) av L (zt' O<|lt_ (lt_ hz hh.s) si.s) (atp W) (V.g Y) (a0.g Y) hd J an) ?_;rintro _ aw ⟨ax,rfl,ay,az,aA⟩;refine R z (pT z H z)<|Ra z<|Wl ?_
    exact λ_ q=>⟨aq,ar,au,som a9,q.k<|s5 z z z z z,(cM (cr [G.z] wb) ax (io sr):Cg [G.z] wb aw),ay,az,aA⟩
   iterate 3 refine Nh z H ?_
   exact R z (pF z H z)<|Ra z<|Wl (λ_ q=>⟨false,x0,x4,som<|ifF huy H,q.k<|s5 z z z z z,cr [G.z] wb,hd,J,L⟩)
  rintro aB aC ⟨xj,xc,xe,rfl,_,aD,aE,aF,aG⟩;revert aB;refine Wo<|Wg<|R z (inc_ hkx (lt_ (b_.len ha) X_) z z)<|Rm z<|Wl ?_
  exact λ_ q=>⟨(xj,xc,xe),(som<|a_u a8).symm,⟨q.k<|s5 z z z z z,(cM (cM (cr [G.z] I) si (io sr):Cg [G.z] I wb) aD (io sr):Cg [G.z] I aC),aE,aF,aG⟩⟩
 .rintro ⟨x5,x0,x4⟩ _ aH ⟨aa,aI,hd,J,L⟩;refine Wu ?_ aa;refine Ws<|Rl z z z<|Wn<|Wq<|Wc z (λhc=>(a_o hc).elim) (λ_=>?_)
  exact We<|λ_ q=>⟨rfl,⟨q.k<|s2 z z,(cM (cr [G.z] I) aI (io sr):Cg [G.z] I aH),hd,J,L⟩⟩
 .rintro ⟨x5,x0,x4⟩ aJ _ rfl ⟨_,aK,hd,J,L⟩;have ab:=elL hms;revert aJ;refine Wo<|Wm z<|R z (O_ z)<|Rf z d_l z<|R z (l0 g_3 z<|L.at z)<|Rm z<|Ra z<|Rw z ?_
  obtain rfl:=som<|a_u ab;exact Wr<|a_e hr z z ⟨bM (bup (bup (bup (bup hf sg) s6) s7) hh) aK<|m1<|lt_ hk s7.s,z,J⟩
 rintro _ _ _ _ rfl ⟨rfl,ad⟩;have ae:=elR hms;obtain rfl:=som ae;exact ⟨ad,z⟩
def Q31 (w0:World)(B:Zone)(r:(Option<|Int×Int))(v:Value)(w':World):Prop:=Bw w0 w'/\(λG=>∃(v1:Value)(S1:List Nat),v1=v/\a_U 125 w' S1 v1 G/\(∀k∈S1,w0.z<=k)) r
theorem d_T {x1:Int}{x2:Int}{res:(Option<|Int×Int)}(hm:b_Q x1 x2=some res)(L:B<=w0.z)(H:inI x1)(I:inI x2):q_ prog 115 [vI x1,vI x2] w0 (Q31 w0 B res):=by
 unfold b_Q at hm
 refine goG func115 z z z λfn hr=>Ws<|Rw z<|Wm z<|Rm z<|R z (bP (parts:=[(0,.tmp 5),(1,.tmp 6)]) (cs:=[vI x1,vI x2]) o_F z z)<|E z (fb z) ?_
 rintro _ J ⟨rfl,G⟩;refine R z (l_t d_125 (λ_ h=>by cases h) z)<|Rw z ?_
 obtain rfl:=som hm;exact Wr<|i_ hr z ⟨G.below,.iface 125<|pt w0.z,[w0.z],z,n_R (G.blk:Blk J w0.z [vI x1,vI x2]) H I z,a_ lr⟩
def Q32 (w0:World)(B:Zone)(r:Bt×(Option<|Int×Int))(v:Value)(w':World):Prop:=Bw w0 w'/\un2 (λI J=>∃(a1:Option Addr)(G H:Nat)(v2:Value)(S2:List Nat),v = .tuple #[sl a1 G H,v2]/\repS w' w'.z (sl a1 G H) I/\a_U 125 w' S2 v2 J/\(∀k∈S2,w0.z<=k)) r
theorem i_o {x1:a_z}{b1 o1:Nat}{x2:Int}{x3:Int}{res:Bt×(Option<|Int×Int)}(hm:e_e x1 x2 x3=some res)(I:B<=w0.z)(a0:repS w0 B (sl A0 N0 C0) x1.d.rules)(H:repS w0 B (sl A1 N1 C1) x1.b)(hC1:a_1 w0 b1 o1 [sl A0 N0 C0,sl A1 N1 C1])(hC1b:B b1)(J:inI x2)(a1:inI x3):q_ prog 125 [(.pointer<|some ⟨b1,o1,none⟩),vI x2,vI x3] w0 (Q32 w0 B res):=by
 unfold e_e at hm
 refine goG func125 z z z λfn hr=>Ws<|Ra z<|Rw z<|Wq<|Wm z<|Rm z<|R z (O_ z)<|Rf z f_a z<|R z (l0 U_ z<|hC1.at (j:=1) z)<|R z (lnR s_ z H)<|Rm z<|R z (sb_ z z)<|R z (a_b z z)<|Wx z (λG=>?_) (λG=>?_)
 .refine Wm z ?_
  obtain ⟨_,V,L⟩:=bdS<|ifT hm G;refine E z (fc call115 z<|d_T (B:=B) V I J<|ii z) ?_;rintro _ _ ⟨s1,v4,W,rfl,h6,Y⟩;refine Ra z<|Rw z ?_
  obtain rfl:=som L;exact Wr<|a_e hr z z ⟨s1,none,0,0,v4,W,z,repS.mono (or_ onL an_)<|b_a s1.s,h6,Y⟩
 refine Wk<|Wm z<|R z (O_ z)<|Rf z f_a z<|R z (l0 U_ z<|hC1.at (j:=1) z)<|RM z z<|Rm z<|R z (add_ z z) ?_
 obtain ⟨_,e8,O⟩:=bdS<|ifF hm G;refine RX z (rX s_ z_5 z z H z z e8) ?_;rintro _ ⟨aa,nb,cc,rfl,hd⟩;refine Ra z<|Rw z ?_
 obtain rfl:=som O;exact Wr<|a_e hr z z ⟨br w0,aa,nb,cc,.nilIface,([]:List Nat),z,repS.mono hd I,d_N,an_⟩
def Q33 (w0:World)(B:Zone)(r:Int×Int×(Option<|Int×Int))(v:Value)(w':World):Prop:=Bw w0 w'/\un3 (λG H I=>∃(v1:Value)(S1:List Nat),v = .tuple #[vI G,vI H,v1]/\inI G/\inI H/\a_U 125 w' S1 v1 I/\(∀k∈S1,w0.z<=k)) r
theorem i_p {x1:a_z}{b1 o1:Nat}{x2:Int}{x3:Int}{res:Int×Int×(Option<|Int×Int)}(hm:e_f x1 x2 x3=some res)(L:B<=w0.z)(I:repS w0 B (sl A0 N0 C0) x1.d.rules)(a0:repS w0 B (sl A1 N1 C1) x1.b)(hC1:a_1 w0 b1 o1 [sl A0 N0 C0,sl A1 N1 C1])(hC1b:B b1)(ab:inI x2)(J:inI x3):q_ prog 107 [(.pointer<|some ⟨b1,o1,none⟩),vI x2,vI x3] w0 (Q33 w0 B res):=by
 unfold e_f at hm
 refine goG func107 z z z λfn hr=>Ws<|RA z z<|Rw z<|Wm z<|R z (O_ z)<|Rf z l_c z<|Rf z T_ z<|R z (l0 V_ z<|hC1.at (j:=0) z)<|Rm z ?_
 obtain ⟨x5,eq,hmr⟩:=bdS hm;refine RX z (at_ (α:=d_) N_ t_ z z z I eq) ?_;rintro _ ⟨_,_,_,rfl,ht,hu,_⟩;obtain ⟨O,V,W,Y,na,cb,ac,nd,ce,af,ng,ch,rfl,_,_,hv,_,_,_,_⟩:=a_T hu;refine R z (lN (vs:=vR x5 O V W Y na cb ac nd ce af ng ch) R_ t_ z z fid ht)<|E z (fa b_M) ?_
 rintro _ ws ⟨rfl,hi⟩;have G:=hi.below;refine E0 (fs0 (cur':=vR x5 O V W Y na cb ac nd ce af ng ch) t_ z z (hi.blk:Blk ws w0.z [(Str.v (⟨[]⟩:Str)),vI 0,vI 0,vB false,sN,sN,sN,sN]) z z z z) ?_;rintro _ _ ⟨hj,sx⟩;have h1:=sx.one;refine Wn<|Wm z<|Rm z<|Rf z a_W z<|R z (l0 g_3 z<|hj.at z) ?_
 have hk:∀k∈[w0.z],¬B k:=or0 (a_ lr)<|m_ L;have hl:=(G.ag B).c h1<|c_ hk
 have hn:=lt_ G.s h1.s;obtain ⟨_,_,ey,hmm⟩:=a_9 hmr;refine E z (fc call125 z<|i_o ey (zt' L hn) (I.g hl) (a0.g hl) ((hC1.e G).c h1<|(c_ hk) _ hC1b) hC1b J hv) ?_;rintro _ wz ⟨s3,_,_,_,a2,a3,rfl,a4,ho,a5⟩;refine Rm z<|Re z z z<|Re z z z<|Ra z<|Rw z<|Wq<|Wm z<|R z (d_g d_m z z ho)<|Wx z (λH=>?_) (λH=>?_)
 .refine Wm z<|Rm z<|RA z z<|Rw z ?_
  obtain rfl:=som<|ifT hmm H;exact Wr<|L_ hr z z z ⟨bup (bM G h1<|a_ lr) s3,a2,a3,z,ii z,J,ho,p_ a5 hn⟩
 refine Wk<|Wq (Wd (X:=noX) 0 (.rd 0<|.rd 1<|.rd 2<|.rd 4<|.rd 5<|.rd 6<|.rd 7<|.ef 3<|.rd 8<|.rd 9<|.rd 10 .done) mo (by kernel_rfl) λad s2 _=>dM z z z<|dR z z (fd c_2 z) ?_)
 have hp:=(hj.e s3).e s2;refine dR z z (l0 g_4 z<|hp.at z)<|dM z z z<|dR z z (fd a_W z)<|dR z z (l0 g_3 z<|hp.at z)<|dR z z (add_ z z) ?_
 obtain ⟨_,a7,a1⟩:=bdS<|ifF hmm H;refine dE z z (fc call58 z<|g_p (B:=wz.z) a7 (b_a s2.s)<|a4.e s2) (.inr λ_ _ h=>x_<|h.1) ?_;rintro _ _ ⟨a8,rfl,aa⟩
 iterate 3 refine dQ z z z ?_
 refine pD<|Wo ?_
 obtain rfl:=som a1;exact Wr<|L_ hr z z z ⟨bup (bup (bup (bM G h1<|a_ lr) s3) s2) a8,.nilIface,([]:List Nat),z,aa,iA _ _,d_N,an_⟩
def Q34 (w0:World)(B:Zone)(r:Int×(Option<|Int×Int))(v:Value)(w':World):Prop:=Bw w0 w'/\un2 (λG H=>∃(v1:Value)(S1:List Nat),v = .tuple #[vI G,v1]/\inI G/\a_U 125 w' S1 v1 H/\(∀k∈S1,w0.z<=k)) r
theorem W_w2x {x1:a_z}{b1 o1:Nat}{x2:d_}{x3:Int}{res:Int×(Option<|Int×Int)}(hm:h_n x1 x2 x3=some res)(V:B<=w0.z)(ad:repS w0 B (sl A0 N0 C0) x1.d.rules)(a0:repS w0 B (sl A1 N1 C1) x1.b)(hC1:a_1 w0 b1 o1 [sl A0 N0 C0,sl A1 N1 C1])(hC1b:B b1)(ae:x2.name.b.length<=LEN)(af:inI x2.kind)(ah:inI x2.size)(I:repS w0 B (sl A3 N3 C3) x2.bytes)(ai:repS w0 B (sl A4 N4 C4) x2.names)(aj:repS w0 B (sl A2 N2 C2) x2.tags)(ak:repS w0 B (sl A5 N5 C5) x2.kids)(J:inI x3):q_ prog 108 [(.pointer<|some ⟨b1,o1,none⟩),.agg #[Str.v x2.name,vI x2.kind,vI x2.size,vB x2.little,sl A3 N3 C3,sl A4 N4 C4,sl A2 N2 C2,sl A5 N5 C5],vI x3] w0 (Q34 w0 B res):=by
 unfold h_n at hm
 refine goG func108 z z z λfn hr=>Ws<|E z (fb z) ?_
 rintro _ H ⟨rfl,h6⟩;have G:=h6.below;have Y:Blk H w0.z (vR x2 A3 N3 C3 A4 N4 C4 A2 N2 C2 A5 N5 C5):=h6.blk;refine Ra z<|Rw z<|Wq<|Ws<|Rf z a_N z<|R z (l0 U_ z<|Y.at z)<|R z (lnR s_ z<|I.e G)<|Rm z<|Wn ?_
 obtain ⟨_,hui,W⟩:=bdS hm;refine Wf (σ:=Unit) (ρ:=Int×(Option<|Int×Int)) (λ(k9:Nat)(_:Unit) a w=>Sat 52 [(0,.pointer<|some ⟨b1,o1,none⟩),(2,vI x3),(4,pt w0.z),(11,sl A3 N3 C3),(12,vI (x2.bytes.length:Int)),(13,vI ((k9:Nat):Int))] a/\Below H.z H w) (λ(_:Unit) a w=>Sat 52 [(2,vI x3),(4,pt w0.z)] a/\Below H.z H w) (rQ prog fn<|Q34 w0 B) hui ?_ ?_ ?_ ?_ ?_
 .exact λ_ q=>⟨q.k<|s6 z z z z z z,br H⟩
 .rintro k9 _ _ _ _ hka ⟨hSj,s1⟩ hmk;refine Wu ?_ hSj;refine Ws<|Rl z z z<|Wn<|Wq<|Wc z (λ_=>?_) (λhc=>(a_n hka hc).elim)
  refine Wk<|Wq<|Wb<|Wm z ?_
  obtain ⟨_,el,hmb⟩:=bdS hmk;have hd:=(G.ag B).e s1;refine RX z (at_ (α:=UInt8) s_ z_5 z z z (I.g hd) el) ?_;rintro _ ⟨_,_,_,rfl,hn,ho,_⟩;obtain rfl:=u8 ho;refine R z (l0 g_5 z<|hn.at0 z)<|Ra z<|Rw z<|Wq<|Wm z<|Rm z<|R z (add_ z z)<|Rm z<|R z (O_ z)<|Rf z f_a z ?_
  have he:=(hC1.e G).e s1;refine R z (l0 U_ z<|he.at (j:=1) z) ?_;have hf:=a0.g hd;refine R z (lnR s_ z hf)<|R z (b_z z z)<|Wx z (λL=>?_) (λL=>?_)
  .refine Wm z<|Rm z ?_
   have hg:=lt_ G.s s1.s;obtain ⟨_,em,hmp⟩:=bdS<|ifT hmb L;refine E z (fc call115 z<|d_T em (zt' V hg) J<|ii z) ?_;rintro _ _ ⟨sq,vr,Ss,rfl,ht,hu⟩;exact Ra z<|Rw z<|Wr<|rtO<|qL (som hmp).symm<|a_e hr z z ⟨bup (bup G s1) sq,vr,Ss,z,J,ht,p_ hu hg⟩
  refine Wk<|Wm z<|R z (O_ z)<|Rf z f_a z<|R z (l0 U_ z<|he.at (j:=1) z)<|RM z z<|R z (add_ z z) ?_
  obtain ⟨_,ev,hmc⟩:=bdS<|ifF hmb L;refine RX z (at_ (α:=UInt8) s_ z_5 z z z hf ev) ?_;rintro _ ⟨_,_,_,rfl,hw,hx,_⟩;obtain rfl:=u8 hx;refine R z (l0 g_5 z<|hw.at0 z)<|Rm z<|R z (nq z z)<|Wx z (λO=>?_) (λO=>?_)
  .refine Wm z<|RM z z<|R z (add_ z z) ?_
   have hh:=lt_ G.s s1.s;obtain ⟨_,ey,hmz⟩:=bdS<|ifT hmc O;refine E z (fc call115 z<|d_T ey (zt' V hh) (iA _ _)<|ii z) ?_;rintro _ _ ⟨a5,a6,a7,rfl,a8,a9⟩;exact Ra z<|Rw z<|Wr<|rtO<|qL (som hmz).symm<|a_e hr z z ⟨bup (bup G s1) a5,a6,a7,z,J,a8,p_ a9 hh⟩
  exact Wk<|Wg<|R z (inc_ hka (lt_ (repS.len I) X_) z z)<|Rm z<|Wl (λ_ q=>⟨(),(som<|ifF hmc O).symm,⟨q.k<|s6 z z z z z z,s1⟩⟩)
 .rintro _ _ _ ⟨a1,aa⟩;refine Wu ?_ a1;refine Ws<|Rl z z z<|Wn<|Wq<|Wc z (λhc=>(a_o hc).elim) (λ_=>?_)
  exact We<|λ_ q=>⟨rfl,⟨q.k<|s2 z z,aa⟩⟩
 .rintro _ ab _ rfl ⟨_,s5⟩;have a2:=elL W;revert ab;refine Wo<|Wm z<|Rf z a_N z<|R z (l0 U_ z<|(Y.e s5).at z)<|R z (lnR s_ z<|I.g<|(G.ag B).e s5)<|R z (add_ z z)<|Ra z<|Rw z ?_
  obtain rfl:=som a2;exact Wr<|a_e hr z z ⟨bup G s5,.nilIface,([]:List Nat),z,iA _ _,d_N,an_⟩
 rintro _ _ _ _ rfl ⟨rfl,a3⟩;have a4:=elR W;obtain rfl:=som a4;exact ⟨a3,z⟩
def Q35 (w0:World)(B:Zone)(r:Val×Int×(Option<|Int×Int))(v:Value)(w':World):Prop:=Bw w0 w'/\un3 (λG H V=>∃(a1:Option Addr)(I J:Nat)(S1:List Nat)(a2:Option Addr)(L O:Nat)(S2:List Nat)(v3:Value)(S3:List Nat),v = .tuple #[(.agg #[vI G.number,sl a1 I J,sl a2 L O]),vI H,v3]/\inI G.number/\b_ w' S1 (sl a1 I J) G.bytes/\b_ w' S2 (sl a2 L O) G.items/\inI H/\a_U 125 w' S3 v3 V/\(∀k∈S3,w0.z<=k)/\(S1++S2).Nodup/\(∀k∈(S1++S2),w0.z<=k)) r
end Go.Vw
