
import Derived.Test.YtbhbfaljeoeciaaGreatDoorVb9
set_option linter.unusedVariables false
namespace Go.Vw
open Go.RowKit Dat Go.Proofs
open Go.Proofs.Tryz
open Go.Vw renaming f_U->Wq,f_W->Wg,WC.of_KC->Wo,e_R->Wl,f_V->Wc,h_F->Wr,i_p->Wu,i_6->pT,i_7->pF,g_j->fd,g_k->l1,i_t->lN,f_1->mv,f_2->asg,i_8->lnR,g_p->lss,g_o->eql,g_l->ext_,i_b->bP,g_m->add_,h_T->inc_,i_x->not_,i_9->at_,h_N->fc,e_S->fs,h_M->fb,h_L->fa,h_Z->sr,i_4->cr,i_5->cM,i_3->bM,h_R->iS,h_Q->iA,g_0->br,g_6->oA,h_V->bs,ltge->lg,inor->io,i_w->nq,i_u->lnT,i_v->sb_,h_X->ar_,h_W->al_,h_Y->ds,j_1->m1,i_1->nr_,i_0->nl_,g_7->aa_,all_nil->an_,e_Q->Wb,g_2->u8,h_J->pD,h_G->We,h_S->Wt,h_O->fS,e_E->or_,i_q->Wf,i_h->qL,h_I->Wd,i_c->fN,g_8->na_,i_2->nj,i_d->f0,i_a->rX,i_e->tl_,i_f->ic
variable {A0:Option Addr}{N0 C0:Nat}{B:Zone}{w0:World}{AC:Option Addr}{AB:Option Addr}{AD:Option Addr}{AE:Option Addr}{NC CC:Nat}{NB CB:Nat}{ND CD:Nat}{NE CE:Nat}{A3:Option Addr}{A2:Option Addr}{A1:Option Addr}{A4:Option Addr}{N3 C3:Nat}{N2 C2:Nat}{N1 C1:Nat}{N4 C4:Nat}{A9:Option Addr}{N9 C9:Nat}{A6:Option Addr}{N6 C6:Nat}{n:Nat}{A5:Option Addr}{A7:Option Addr}{N5 C5:Nat}{N7 C7:Nat}{AA:Option Addr}{AF:Option Addr}{NA CA:Nat}{NF CF:Nat}{A8:Option Addr}{N8 C8:Nat}
theorem T_w0a (ih:k_J n):k_H (a_S n<|b_g n):=by
 obtain ⟨_,aC⟩:=ih
 constructor
 intro A0 A5 A7 N0 C0 N5 C5 N7 C7 B x1 x2 x3 res w0 hm H V b4 O W Y;unfold a_S at hm
 refine goG func36 z z z fun fn hr=>Ws<|E z (fb z) ?_
 rintro _ ww ⟨rfl,hx⟩;have h4:=hx.below;have hy:Blk ww w0.z [sl A0 N0 C0]:=hx.blk;refine E z (fb z) ?_;rintro _ wa ⟨rfl,hz⟩;have h3:=hz.below;have a8:Blk wa ww.z [vI x3.number,sl A5 N5 C5,sl A7 N7 C7]:=hz.blk;refine Rw z<|Ws<|Rf z a_9 z ?_
 have a9:=hy.e h3;refine R z (l0 a_b z<|a9.at z)<|Rm z ?_
 obtain ⟨xb,aD,ao⟩:=bdS hm;have aa:=(h4.ag B).e h3;refine RX z (at_ (α:=g_) a_3 t_ z z z (V.g aa) aD) ?_;rintro _ ⟨_,_,_,rfl,aE,aF,_⟩;obtain ⟨ac,nd,ce,af,ng,ch,ai,nj,ck,al,nm,cn,rfl,aG,aH,aI,aJ,aK,aL,aM⟩:=a_v aF;refine R z (lN (vs:=vR xb ac nd ce af ng ch ai nj ck al nm cn) D_ t_ z z fid aE)<|E z (fa b_Y) ?_
 rintro _ aN ⟨rfl,ab⟩;have h1:=ab.below;refine E0 (fs0 (cur':=vR xb ac nd ce af ng ch ai nj ck al nm cn) t_ z z (ab.blk:Blk aN wa.z [(Str.v (⟨[]⟩:Str)),vI 0,vI 0,vB false,sl none 0 0,sl none 0 0,sl none 0 0,sl none 0 0]) z z z z) ?_;rintro _ _ ⟨ad,aO⟩;have h2:=aO.one;refine Wn<|Ws<|R z (lN (vs:=[sl A0 N0 C0]) w_ v_ z z fid<|((a9.e h1).c h2<|djs<|mm1 hy.lt h3.s).row 0 1 z)<|R z (lN (vs:=vR xb ac nd ce af ng ch ai nj ck al nm cn) D_ t_ z z fid<|ad.row 0 8 z) ?_
 have h6:=(a8.e h1).c h2<|djs<|mmr a8.lt
 refine R z (lN (vs:=[vI x3.number,sl A5 N5 C5,sl A7 N7 C7]) i_ b_ z z fid<|h6.row 0 3 z) ?_;have h5:=lt_ h4.s h3.s;have ae:∀k∈[wa.z],¬B k:=or0 (d_ lr)<|p_<|zt' H h5;have I:=(aa.e h1).c h2<|e_ ae
 have J:=(h1.ag B).c h2<|e_ ae
 have L:=lt_ (lt_ h5 h1.s) h2.s;obtain ⟨_,aP,a0⟩:=bdS ao;refine E z (fc call58 z<|aC.run aP (zt' H L) (V.g I) aG aH aI (aJ.g J) (aK.g J) (aL.g J) (aM.g J) O (W.g I)<|Y.g I) ?_;rintro _ _ ⟨G,rfl,aQ⟩;refine Rw z<|Wq<|Ws<|Rf z a_M z<|R z (l0 g_3 z<|(ad.e G).at z)<|Wn<|Wb<|Ws<|Rq z z z<|Rw z<|Wc z (fun hco=>?_) (fun hco=>?_)
 ·refine Ws<|Rf z a_F z<|R z (l0 g_3 z<|(h6.e G).at z) ?_
  obtain ⟨_,aR,ap⟩:=bdS<|ifT a0 hco;refine E z (fc call59 z<|W_w1n aR (zt' H<|lt_ L G.s) O) ?_;rintro _ _ ⟨aS,rfl,aT⟩;refine Rw z ?_
  obtain rfl:=som ap;exact Wr<|rtO<|f_ hr z ⟨bup (bup (bM (bup (bup h4 h3) h1) h2<|m1 h5) G) aS,z,aT⟩
 have a1:=ifF a0 hco;refine Ws<|Rq z z z<|Rw z<|Wc z (fun hcp=>?_) (fun hcp=>?_)
 ·refine Ws<|Rw z ?_
  obtain rfl:=som<|ifT a1 hcp;exact Wr<|rtO<|f_ hr z ⟨bup (bM (bup (bup h4 h3) h1) h2<|m1 h5) G,z,lb z⟩
 have a2:=ifF a1 hcp;refine Ws<|Rq z z z<|Rw z<|Wc z (fun hcq=>?_) (fun hcq=>?_)
 ·refine Wm z ?_
  obtain ⟨_,aU,aq⟩:=bdS<|ifT a2 hcq;refine R z (a_o z z aU) ?_;obtain ⟨_,ah,ar⟩:=bdS aq;refine R z (a_o z z ah)<|Rw z ?_
  obtain rfl:=som ar;exact Wr<|rtO<|f_ hr z ⟨bup (bM (bup (bup h4 h3) h1) h2<|m1 h5) G,z,b_8 ah⟩
 have a3:=ifF a2 hcq;refine Ws<|Rq z z z<|Rw z<|Wc z (fun hcr=>?_) (fun hcr=>?_)
 ·refine Wm z ?_
  obtain ⟨_,aV,au⟩:=bdS<|ifT a3 hcr;refine R z (a_o z z aV) ?_;obtain ⟨_,aj,av⟩:=bdS au;refine R z (a_o z z aj)<|Rw z ?_
  obtain rfl:=som av;exact Wr<|rtO<|f_ hr z ⟨bup (bM (bup (bup h4 h3) h1) h2<|m1 h5) G,z,b_8 aj⟩
 have a4:=ifF a3 hcr;refine Ws<|Rq z z z<|Rw z<|Wc z (fun hcs=>?_) (fun hcs=>?_)
 ·refine Ws<|Rf z a_F z<|R z (l0 g_3 z<|(h6.e G).at z)<|Rm z ?_
  obtain ⟨_,aW,aw⟩:=bdS<|ifT a4 hcs;refine E z (fc call60 z<|W_w33 aW (zt' H<|lt_ L G.s) O (lb z) aQ<|lb z) ?_;rintro _ _ ⟨aX,rfl,aY⟩;refine Rw z ?_
  obtain rfl:=som aw;exact Wr<|rtO<|f_ hr z ⟨bup (bup (bM (bup (bup h4 h3) h1) h2<|m1 h5) G) aX,z,aY⟩
 have a5:=ifF a4 hcs;refine Ws<|Rq z z z<|Rw z<|Wc z (fun hct=>?_) (fun hct=>?_)
 ·have a6:=ifT a5 hct;refine Wq<|Ws<|Rf z Q_ z<|R z (l0 X_ z<|(h6.e G).at z)<|R z (lnR Y_ z<|Y.g<|I.e G)<|Rq z z z<|Wx z (fun hcu=>?_) (fun hcu=>?_)
  ·refine Ws<|Rw z ?_
   obtain rfl:=som<|ifT a6 hcu;exact Wr<|rtO<|f_ hr z ⟨bup (bM (bup (bup h4 h3) h1) h2<|m1 h5) G,z,lb z⟩
  refine Wk<|Wm z ?_
  obtain ⟨_,ak,ax⟩:=bdS<|ifF a6 hcu;refine R z (a_o z z ak)<|Rw z ?_
  obtain rfl:=som ax;exact Wr<|rtO<|f_ hr z ⟨bup (bM (bup (bup h4 h3) h1) h2<|m1 h5) G,z,b_8 ak⟩
 have a7:=ifF a5 hct;refine Ws<|Rq z z z<|Rw z<|Wc z (fun hcv=>?_) (fun hcv=>?_)
 ·refine Wm z ?_
  obtain ⟨_,aZ,ay⟩:=bdS<|ifT a7 hcv;refine R z (a_o z z aZ) ?_;obtain ⟨_,am,az⟩:=bdS ay;refine R z (a_o z z am)<|Rw z ?_
  obtain rfl:=som az;exact Wr<|rtO<|f_ hr z ⟨bup (bM (bup (bup h4 h3) h1) h2<|m1 h5) G,z,b_8 am⟩
 refine Wk<|Ws<|Rf z a_B z<|R z (l0 J_ z<|(h6.e G).at z) ?_
 obtain ⟨_,b0,aA⟩:=bdS<|ifF a7 hcv;refine E z (fc call61 z<|W_w34 b0 (zt' H<|lt_ L G.s)<|W.g<|I.e G) ?_;rintro _ _ ⟨b3,rfl,_⟩;obtain ⟨_,an,aB⟩:=bdS aA;refine R z (a_o z z an)<|Rw z ?_
 obtain rfl:=som aB;exact Wr<|f_ hr z ⟨bup (bup (bM (bup (bup h4 h3) h1) h2<|m1 h5) G) b3,z,b_8 an⟩
theorem T_w1o (ih:k_J n):k_I (h_t n<|b_g n):=by
 obtain ⟨aq,_⟩:=ih
 constructor
 intro A0 A3 A2 A1 A4 A5 A7 N0 C0 N3 C3 N2 C2 N1 C1 N4 C4 N5 C5 N7 C7 B x1 x2 x3 res w0 hm O Y a0 a1 a2 a3 L a4 a5 a6 aY H;unfold h_t at hm
 refine goG func58 z z z fun fn hr=>Ws<|E z (fb z) ?_
 rintro _ I ⟨rfl,hp⟩;have he:=hp.below;refine E z (fb z) ?_;rintro _ J ⟨rfl,hq⟩;have ha:=hq.below;refine E z (fb z) ?_;rintro _ G ⟨rfl,ht⟩;have h3:=ht.below;have hu:Blk G J.z [vI x3.number,sl A5 N5 C5,sl A7 N7 C7]:=ht.blk;refine Rw z<|Ws<|Rw z<|Wq<|Ws<|Rw z ?_
 obtain ⟨_,a7,hmr⟩:=bdS hm;refine Wf (σ:=Str) (ρ:=Str) (fun (kf:Nat)(x0:Str) a w=>Sat 46 [(3,pt w0.z),(4,pt I.z),(5,pt J.z),(7,Str.v x0),(8,vI ((kf:Nat):Int))] a/\Below G.z G w/\x0.b.length<=LEN) (fun (x0:Str) a w=>Sat 46 [(7,Str.v x0)] a/\Below G.z G w/\x0.b.length<=LEN) (rQ prog fn<|Q12 w0 B) a7 ?_ ?_ ?_ ?_ ?_
 ·exact fun _ q=>⟨q.k<|s5 z z z z z,br G,lb z⟩
 ·rintro kf x0 _ wg _ hkj ⟨a8,s4,hb⟩ a9;refine Wu ?_ a8;refine Wq<|Wm z<|Rf z Q_ z ?_
  have hv:=hu.e s4;refine R z (l0 X_ z<|hv.at z) ?_;have hk:=(((he.ag B).e ha).e h3).e s4;refine R z (lnR Y_ z<|H.g hk)<|Rl z z z<|Wx z (fun _=>?_) (fun hc=>(a_0 hkj hc).elim)
  refine Wk<|Wq<|Wb<|Wq<|Wm z<|R z (a_C z z)<|Wn ?_
  obtain ⟨ar,hus,aa⟩:=bdS a9;refine Wt (fun a w=>∃(xc:Str),xc=ar/\Sat 46 [(3,pt w0.z),(4,pt I.z),(5,pt J.z),(7,Str.v xc),(8,vI ((kf:Nat):Int))] a/\Below wg.z wg w/\xc.b.length<=LEN) ?_ ?_
  ·refine Wc z (fun hcl=>?_)<|fun hcl=>?_
   ·refine Wg<|Rm z ?_
    obtain ⟨au,ew,ab⟩:=bdS<|ifT hus hcl;exact R z (a_o z z ew)<|Ra z<|Wl (fun _ q=>⟨au,som ab,q.k<|s5 z z z z z,br wg,b_8 ew⟩)
   exact a_I<|fun _ q=>⟨x0,som<|ifF hus hcl,q.k<|s5 z z z z z,br wg,hb⟩
  rintro av wh ⟨xc,rfl,_,s2,aw⟩;revert av;refine Wo<|Wq<|Ws<|Rf z a_M z ?_
  have hn:=(((hq.blk:Blk J I.z (vR x2 A3 N3 C3 A2 N2 C2 A1 N1 C1 A4 N4 C4)).e h3).e s4).e s2;refine R z (l0 g_3 z<|hn.at z)<|Rq z z z<|Wn ?_
  obtain ⟨ax,hux,ad⟩:=bdS aa;refine Wt (fun a w=>∃(xi:Str),xi=ax/\Sat 46 [(3,pt w0.z),(4,pt I.z),(5,pt J.z),(7,Str.v xi),(8,vI ((kf:Nat):Int))] a/\Below wh.z wh w/\xi.b.length<=LEN) ?_ ?_
  ·refine Wc z (fun hcm=>?_)<|fun hcm=>?_
   ·refine Wg<|Rm z<|Rf z c_b z<|R z (l0 b_L z<|hn.at z)<|Rm z ?_
    obtain ⟨_,ay,ae⟩:=bdS<|ifT hux hcm;refine RX z (at_ (α:=Str) a_d z_9 z z z (L.g<|hk.e s2) ay) ?_;rintro _ ⟨_,_,_,rfl,az,aA,_⟩;obtain ⟨rfl,_⟩:=b_P aA;refine R z (l0 g_9 z<|az.at0 z) ?_;obtain ⟨_,aB,af⟩:=bdS ae;refine R z (a_o z z aB) ?_;obtain ⟨aC,ey,ah⟩:=bdS af;exact R z (a_o z z ey)<|Ra z<|Wl (fun _ q=>⟨aC,som ah,q.k<|s5 z z z z z,br wh,b_8 ey⟩)
   exact a_I<|fun _ q=>⟨xc,som<|ifF hux hcm,q.k<|s5 z z z z z,br wh,aw⟩
  rintro aD _ ⟨xi,rfl,_,s6,_⟩;revert aD;refine Wo (Wd (X:=noX) 0 (.rd 0<|.rd 1<|.rd 2<|.rd 3<|.rd 4<|.rd 5<|.rd 7<|.rd 8<|.rd 9<|.rd 10<|.rd 11<|.ef 6<|.ef 12<|.rd 13<|.rd 14 .done) mo (by kernel_rfl) fun aZ s7 _=>dM z z z<|dR z z (lN (vs:=[sl A0 N0 C0]) w_ v_ z z fid<|(((((((hp.blk:Blk I w0.z [sl A0 N0 C0]).e ha).e h3).e s4).e s2).e s6).e s7).row 0 1 z)<|dR z z (lN (vs:=vR x2 A3 N3 C3 A2 N2 C2 A1 N1 C1 A4 N4 C4) D_ t_ z z fid<|((hn.e s6).e s7).row 0 8 z)<|dR z z (fd a_F z) ?_);have hz:=((hv.e s2).e s6).e s7;refine dR z z (l0 g_3 z<|hz.at z)<|dM z z z<|dR z z (fd Q_ z)<|dR z z (l0 X_ z<|hz.at z)<|dM z z z ?_
  obtain ⟨aE,aF,ai⟩:=bdS ad;have h5:=((hk.e s2).e s6).e s7;refine dRX z z (at_ (α:=Val) Y_ b_ z z z (H.g h5) aF) ?_;rintro _ ⟨_,_,_,rfl,aG,aH,_⟩;obtain ⟨aI,aJ,aK,aL,aM,aN,rfl,aO,aP,aQ⟩:=d_f aH;refine dR z z (lN (vs:=[vI aE.number,sl aI aJ aK,sl aL aM aN]) i_ b_ z z fid aG) ?_;have V:=lt_ (lt_ (lt_ (lt_ (lt_ (lt_ he.s ha.s) h3.s) s4.s) s2.s) s6.s) s7.s;obtain ⟨_,aR,aj⟩:=bdS ai;refine dE z z (fc call97 z<|e_5 aR (zt' O V) a0 a1 a2 (a3.g h5) (L.g h5) (a4.g h5) (a5.g h5) a6<|ic (Nat.le_of_lt hkj)<|lt_ (repS.len H) G_) (.inr fun _ _ h=>o_<|h.1) ?_;rintro _ _ ⟨sd,rfl,aS⟩;obtain ⟨_,aT,ak⟩:=bdS aj;refine dE z z (fc call36 z<|aq.run aT (zt' O<|lt_ V sd.s) (Y.g<|h5.e sd) aS aO (aP.e sd)<|aQ.e sd) (.inr fun _ _ h=>o_<|h.1) ?_;rintro _ _ ⟨aU,rfl,_⟩;obtain ⟨aV,W,al⟩:=bdS ak;exact dR z z (a_o z z W)<|dQ z z z<|pD<|Wo<|Wg<|Rm z<|R z (inc_ hkj (lt_ (repS.len H) G_) z z)<|Ra z<|Wl (fun _ q=>⟨aV,(som al).symm,⟨q.k<|s5 z z z z z,bup (bup (bup (bup (bup s4 s2) s6) s7) sd) aU,b_8 W⟩⟩)
 ·rintro x0 _ _ ⟨am,so,hb⟩;refine Wu ?_ am;refine Wq<|Wm z<|Rf z Q_ z<|R z (l0 X_ z<|(hu.e so).at z)<|R z (lnR Y_ z<|H.g<|(((he.ag B).e ha).e h3).e so)<|Rl z z z<|Wx z (fun hc=>(a_1 hc).elim) (fun _=>?_)
  exact We<|fun _ q=>⟨rfl,⟨q.k<|s1 z,so,hb⟩⟩
 ·rintro x0 aW _ rfl ⟨_,aX,hb⟩;have an:=elL hmr;revert aW;refine Wo<|Wm z<|Rw z ?_
  obtain rfl:=som an;exact Wr<|f_ hr z ⟨bup (bup (bup he ha) h3) aX,z,hb⟩
 rintro _ _ _ _ rfl ⟨rfl,ao⟩;have ap:=elR hmr;obtain rfl:=som ap;exact ⟨ao,z⟩
theorem j_h:∀n,k_J n
  | 0=>⟨⟨fun hm=>by intros;exact nomatch (show none=some _ from hm)⟩,⟨fun hm=>by intros;exact nomatch (show none=some _ from hm)⟩⟩
  | n+1=>⟨T_w0a<|j_h n,T_w1o<|j_h n⟩
theorem W_w0a:k_H (b_g n).spec_l10Text:=(j_h n).1
theorem W_w1o:k_I (b_g n).spec_l10List:=(j_h n).2
theorem h_z {x1:c_}{x2:Int}{x3:Val}{res:Str}(hm:e_H n x1 x2 x3=some res)(W:B<=w0.z)(I:repS w0 B (sl A0 N0 C0) x1.rules)(J:inI x2)(L:inI x3.number)(O:repS w0 B (sl A5 N5 C5) x3.bytes)(V:repS w0 B (sl A7 N7 C7) x3.items):l_ prog 16 [(.agg #[sl A0 N0 C0]),vI x2,(.agg #[vI x3.number,sl A5 N5 C5,sl A7 N7 C7])] w0 (Q12 w0 B res):=by
 unfold e_H at hm
 refine goG func16 z z z fun fn hr=>Ws<|E z (fb z) ?_
 rintro _ Y ⟨rfl,h7⟩;have h2:=h7.below;refine E z (fb z) ?_;rintro _ we ⟨rfl,h8⟩;have h1:=h8.below;have h9:Blk we Y.z [vI x3.number,sl A5 N5 C5,sl A7 N7 C7]:=h8.blk;refine Rw z<|Wq<|Ws ?_
 have ha:=(h7.blk:Blk Y w0.z [sl A0 N0 C0]).e h1;refine R z (lN (vs:=[sl A0 N0 C0]) w_ v_ z z fid<|ha.row 0 1 z)<|Rm z<|R z (lN (vs:=[vI x3.number,sl A5 N5 C5,sl A7 N7 C7]) i_ b_ z z fid<|h9.row 0 3 z) ?_
 have h3:=(h2.ag B).e h1;have hb:=lt_ h2.s h1.s;obtain ⟨_,ef,hmc⟩:=bdS hm;refine E z (fc call35 z<|W_w1k ef (zt' W hb) (I.g h3) J L (O.g h3)<|V.g h3) ?_;rintro _ _ ⟨G,rfl⟩;refine R z (not_ z)<|Wx z (fun H=>?_) (fun H=>?_)
 ·refine Ws<|Rw z ?_
  obtain rfl:=som<|ifT hmc H;exact Wr<|f_ hr z ⟨bup (bup h2 h1) G,z,lb z⟩
 refine Wk<|Ws<|R z (lN (vs:=[sl A0 N0 C0]) w_ v_ z z fid<|(ha.e G).row 0 1 z)<|Rm z<|R z (lN (vs:=[vI x3.number,sl A5 N5 C5,sl A7 N7 C7]) i_ b_ z z fid<|(h9.e G).row 0 3 z) ?_
 have h5:=h3.e G;obtain ⟨_,eg,hmh⟩:=bdS<|ifF hmc H;refine E z (fc call36 z<|W_w0a.run eg (zt' W<|lt_ hb G.s) (I.g h5) J L (O.g h5)<|V.g h5) ?_;rintro _ _ ⟨si,rfl,hj⟩;refine Rw z ?_
 obtain rfl:=som hmh;exact Wr<|f_ hr z ⟨bup (bup (bup h2 h1) G) si,z,hj⟩
def Q13 (w0:World)(B:Zone)(r:Int×Int)(v:Value)(w':World):Prop:=Bw w0 w'/\un2 (fun G H=>v = .tuple #[vI G,vI H]/\inI G/\inI H) r
theorem W_w1p {x1:Str}{x2:Int}{res:Int×Int}(hm:e_N n x1 x2=some res)(a0:B<=w0.z)(a2:x1.b.length<=LEN)(O:inI x2):l_ prog 54 [Str.v x1,vI x2] w0 (Q13 w0 B res):=by
 unfold e_N at hm
 refine goG func54 z z z fun fn hr=>Ws<|Ra z<|Rw z<|Ws<|Rw z<|Wm z<|Rw z<|Wq ?_
 obtain ⟨_,hul,hmb⟩:=bdS hm;refine b_S (σ:=Int×Int) (ρ:=Int×Int) (fun s a w=>un2 (fun x4 x0=>Sat 44 [(0,Str.v x1),(1,vI x2),(6,vI x4),(7,vI x0)] a/\Below w0.z w0 w/\inI x4/\inI x0) s) (fun s a w=>un2 (fun x4 x0=>Sat 44 [(6,vI x4),(7,vI x0)] a/\Below w0.z w0 w/\inI x4/\inI x0) s) (rQ prog fn<|Q13 w0 B) hul ?_ ?_ ?_ ?_
 ·exact fun _ q=>⟨q.k<|s4 z z z z,br w0,ii z,O⟩
 ·rintro ⟨x4,x0⟩ _ wc _ ⟨hSm,s7,J,h5⟩ hmn;refine Wu ?_ hSm;refine Wq<|Wq ?_
  obtain ⟨up,huq,hmd⟩:=bdS<|a_t hmn;refine Wt (fun a w=>∃(L:Bool),L=up/\Sat 44 [(0,Str.v x1),(1,vI x2),(6,vI x4),(7,vI x0),(31,vB L)] a/\Below wc.z wc w) ?_ ?_
  ·refine Wg<|RM z z<|R z (lnT d_9 z)<|R z (sb_ z z) ?_
   obtain ⟨rr,es,hme⟩:=bdS huq;refine E z (fc call50 z<|b_l es (zt' a0 s7.s) h5 (ii z)<|iS _ _) ?_;rintro _ _ ⟨s6,rfl⟩;refine Rm z ?_
   rcases bs rr with G | G
   ·have hmf:=ifT hme G;refine Rh z G (mv z)<|Rh z G (mv z)<|Rh z G (add_ z z)<|Rh z G (lss z z)<|R z (pT z G z)<|Rm z ?_
    rcases bs (decide<|x0<(m_ x2 10)) with H | H
    ·refine Rh z H (mv z)<|Rh z H (mv z) ?_
     obtain ⟨xt,eg,hmh⟩:=bdS<|ifT hmf H;refine Rh z H (b_a d_9 z z (a_4 eg).1 (a_4 eg).2.1)<|Rh z H (a_z z z)<|R z (pT z H z)<|Rm z ?_
     rcases bs (decide<|(byteI (48:UInt8))<=(byteI xt)) with I | I
     ·refine Rh z I (mv z)<|Rh z I (mv z) ?_
      obtain ⟨xu,ei,hmv⟩:=bdS<|ifT hmh I;exact Rh z I (b_a d_9 z z (a_4 ei).1 (a_4 ei).2.1)<|Rh z I (b_o z z)<|R z (pT z I z)<|Wl (fun _ q=>⟨decide<|(byteI xu)<=(byteI (57:UInt8)),som hmv,q.k<|s5 z z z z z,s6⟩)
     iterate 4 refine Nh z I ?_
     exact R z (pF z I z)<|Wl (fun _ q=>⟨false,som<|ifF hmh I,q.k<|s5 z z z z z,s6⟩)
    iterate 4 refine Nh z H ?_
    exact R z (pF z H z)<|Rm z<|Nh z z<|Nh z z<|Nh z z<|Nh z z<|R z (pF z z z)<|Wl (fun _ q=>⟨false,som<|ifF hmf H,q.k<|s5 z z z z z,s6⟩)
   iterate 4 refine Nh z G ?_
   exact R z (pF z G z)<|Rm z<|Nh z z<|Nh z z<|Nh z z<|Nh z z<|R z (pF z z z)<|Rm z<|Nh z z<|Nh z z<|Nh z z<|Nh z z<|R z (pF z z z)<|Wl (fun _ q=>⟨false,som<|ifF hme G,q.k<|s5 z z z z z,s6⟩)
  rintro aw _ ⟨L,rfl,_,sj⟩;revert aw;refine Wo<|Wc z (fun hca=>?_) (fun hca=>?_)
  ·refine Wk<|Wb<|Wm z<|R z (d_p z z)<|RM z z ?_
   obtain ⟨xx,ek,hmy⟩:=bdS<|ifT hmd hca;exact R z (b_a d_9 z z (a_4 ek).1 (a_4 ek).2.1)<|R z (e_W z z)<|R z (b_E d_5 d_3 z)<|R z (add_ z z)<|Rw z<|Wg<|Rm z<|R z (add_ z z)<|Ra z<|Wl (fun _ q=>⟨(m_ (a_f x4 10) (byteI<|mkB (byteI xx - byteI (48:UInt8))),m_ x0 1),(som hmy).symm,⟨q.k<|s4 z z z z,bup s7 sj,iA _ _,iA _ _⟩⟩)
  exact We<|fun _ q=>b_F (som<|ifF hmd hca).symm ⟨q.k<|s2 z z,bup s7 sj,J,h5⟩
 ·rintro ⟨x4,x0⟩ az _ rfl ⟨_,a1,J,h5⟩;have V:=elL hmb;revert az;refine Wo<|Wm z<|Rm z<|Ra z<|Rw z ?_
  obtain rfl:=som<|a_t V;exact Wr<|F_ hr z z ⟨a1,z,J,h5⟩
 rintro _ _ _ _ rfl ⟨rfl,W⟩;have Y:=elR hmb;obtain rfl:=som Y;exact ⟨W,z⟩
theorem W_w1q {x1:Str}{x2:Int}{x3:UInt8}{res:Bool}(hm:d_k x1 x2 x3=some res)(a0:B<=w0.z)(W:x1.b.length<=LEN)(Y:inI x2):l_ prog 96 [Str.v x1,vI x2,vU<|byteI x3] w0 (Q7 w0 B res):=by
 unfold d_k at hm
 refine goG func96 z z z fun fn hr=>Ws<|Rw z<|Wq ?_
 obtain ⟨O,H,J⟩:=bdS hm;refine Wt (fun a w=>∃(x4:Bool),x4=O/\Sat 18 [(6,vB x4)] a/\Below w0.z w0 w) ?_ ?_
 ·refine Wg<|RM z z<|R z (lnT d_9 z)<|Rl z z z<|Rm z ?_
  rcases bs (decide<|x2<(x1.b.length:Int)) with G | G
  ·refine Rh z G (mv z)<|Rh z G (mv z) ?_
   obtain ⟨x6,I,L⟩:=bdS<|ifT H G;exact Rh z G (b_a d_9 z z (a_4 I).1 (a_4 I).2.1)<|Rh z G (mv z)<|Rh z G (eql z z)<|R z (pT z G z)<|Ra z<|Wl (fun _ q=>⟨(byteI x6)==(byteI x3),som L,q.k<|s1 z,br w0⟩)
  iterate 5 refine Nh z G ?_
  exact R z (pF z G z)<|Ra z<|Wl (fun _ q=>⟨false,som<|ifF H G,q.k<|s1 z,br w0⟩)
 rintro V _ ⟨x4,rfl,_,s9⟩;revert V;refine Wo ?_;obtain rfl:=som J;exact Wr<|f_ hr z ⟨s9,z⟩
theorem j_i {x1:UInt8}{res:Int}(hm:d_D x1=some res)(W:B<=w0.z):l_ prog 98 [vU (byteI x1)] w0 (Q0 w0 B res):=by
 unfold d_D at hm
 refine goG func98 z z z fun fn hr=>Ws<|Rw z<|Wq<|Wb<|Wq ?_
 obtain ⟨ud,O,V⟩:=bdS hm;refine Wt (fun a w=>∃(x3:Bool),x3=ud/\Sat 24 [(0,vU<|byteI x1),(3,vB x3)] a/\Below w0.z w0 w) ?_ ?_
 ·refine Wg<|Rm z<|R z (a_z z z)<|Rm z ?_
  rcases bs (decide<|(byteI (48:UInt8))<=(byteI x1)) with G | G
  ·exact Rh z G (mv z)<|Rh z G (b_o z z)<|R z (pT z G z)<|Ra z<|Wl (fun _ q=>⟨decide<|(byteI x1)<=(byteI (57:UInt8)),som<|ifT O G,q.k<|s2 z z,br w0⟩)
  exact Nh z G<|Nh z G<|R z (pF z G z)<|Ra z<|Wl (fun _ q=>⟨false,som<|ifF O G,q.k<|s2 z z,br w0⟩)
 rintro ae I ⟨x3,rfl,_,s4⟩;revert ae;refine Wo<|Wc z (fun J=>?_) (fun J=>?_)
 ·refine Wm z<|R z (e_W z z)<|R z (b_E d_5 d_3 z)<|Rw z ?_
  obtain rfl:=som<|ifT V J;exact Wr<|rtO<|f_ hr z ⟨s4,z,j_B _⟩
 refine Wq ?_;obtain ⟨uf,hua,hmb⟩:=bdS<|ifF V J;refine Wt (fun a w=>∃(x6:Bool),x6=uf/\Sat 24 [(0,vU<|byteI x1),(13,vB x6)] a/\Below I.z I w) ?_ ?_
 ·refine Wg<|Rm z<|R z (a_z z z)<|Rm z ?_
  rcases bs (decide<|(byteI (97:UInt8))<=(byteI x1)) with H | H
  ·exact Rh z H (mv z)<|Rh z H (b_o z z)<|R z (pT z H z)<|Ra z<|Wl (fun _ q=>⟨decide<|(byteI x1)<=(byteI (102:UInt8)),som<|ifT hua H,q.k<|s2 z z,br I⟩)
  exact Nh z H<|Nh z H<|R z (pF z H z)<|Ra z<|Wl (fun _ q=>⟨false,som<|ifF hua H,q.k<|s2 z z,br I⟩)
 rintro ag _ ⟨x6,rfl,_,sc⟩;revert ag;refine Wo<|Wc z (fun L=>?_) (fun L=>?_)
 ·refine Wm z<|R z (e_W z z)<|R z (b_E d_5 d_3 z)<|R z (add_ z z)<|Rw z ?_
  obtain rfl:=som<|ifT hmb L;exact Wr<|rtO<|f_ hr z ⟨bup s4 sc,z,iA _ _⟩
 refine Wk<|Ws<|Rw z ?_
 obtain rfl:=som<|ifF hmb L;exact Wr<|f_ hr z ⟨bup s4 sc,z,ii z⟩
theorem W_w35 {x1:Str}{res:(List UInt8)×Bool}(hm:f_A n x1=some res)(Y:B<=w0.z)(aI:x1.b.length<=LEN):l_ prog 99 [Str.v x1] w0 (Q11 w0 B res):=by
 unfold f_A at hm
 refine goG func99 z z z fun fn hr=>Ws<|Ra z<|Rw z<|Ws<|E z (f0 (α:=UInt8) I_) ?_
 rintro _ G ⟨aq,nr,cs,rfl,s7,ht⟩;refine Rw z<|Wq<|Wm z<|R z (lnT d_9 z)<|R z (g_n z z (by decide))<|R z (nq z z)<|Wx z (fun hch=>?_) (fun hch=>?_)
 ·refine Wm z<|Ra z<|Rw z ?_
  obtain rfl:=som<|ifT hm hch;exact Wr<|F_ hr z z ⟨s7,aq,nr,cs,[w0.z],z,ht,a_e,d_ lr⟩
 refine Wk<|Wq<|Ws<|Rw z ?_
 obtain ⟨_,a6,hmu⟩:=bdS<|ifF hm hch;refine b_S (σ:=(List UInt8)×Int) (ρ:=(List UInt8)×Bool) (fun s a w=>un2 (fun O x6=>∃a2 I J H,Sat 45 [(0,Str.v x1),(4,sl a2 I J),(5,vI x6)] a/\Chg (· ∈ [w0.z]) G w/\a_ w H (sl a2 I J) O/\H.Nodup/\(∀k∈H,k∈[w0.z]∨G.z<=k)/\inI x6) s) (fun s a w=>un2 (fun O x6=>∃a2 I J H,Sat 45 [(4,sl a2 I J)] a/\Chg (· ∈ [w0.z]) G w/\a_ w H (sl a2 I J) O/\H.Nodup/\(∀k∈H,k∈[w0.z]∨G.z<=k)/\inI x6) s) (rQ prog fn<|Q11 w0 B) a6 ?_ ?_ ?_ ?_
 ·exact fun _ q=>⟨aq,nr,cs,[w0.z],q.k<|s3 z z z,cr [w0.z] G,ht,a_e,io sr,ii z⟩
 ·rintro ⟨O,x6⟩ _ wv _ ⟨a2,I,J,H,a7,s9,he,hf,hg,hw⟩ a8;have hmx:=a_t a8;refine Wu ?_ a7;refine Wq<|Wm z<|Rm z<|R z (lnT d_9 z)<|Rl z z z<|Wx z (fun hci=>?_) (fun hci=>?_)
  ·refine Wk<|Wq<|Wb<|Wm z<|Rm z ?_
   obtain ⟨_,ey,a9⟩:=bdS<|ifT hmx hci;refine R z (b_a d_9 z z (a_4 ey).1 (a_4 ey).2.1) ?_;have hz:=lt_ s7.s s9.s;obtain ⟨rj,aj,aa⟩:=bdS a9;refine E z (fc call98 z<|j_i (B:=B) aj<|zt' Y hz) ?_;rintro _ ak ⟨sa,rfl,_⟩;refine Rw z<|Wm z<|Rm z<|R z (add_ z z) ?_
   obtain ⟨_,a0,ab⟩:=bdS aa;refine R z (b_a d_9 z z (a_4 a0).1 (a_4 a0).2.1) ?_;have a1:=lt_ hz sa.s;obtain ⟨rk,al,ad⟩:=bdS ab;refine E z (fc call98 z<|j_i (B:=B) al<|zt' Y a1) ?_;rintro _ wb ⟨sc,rfl,_⟩;refine Rw z<|Wq<|Wq ?_
   obtain ⟨am,V,W⟩:=bdS ad;refine Wt (fun a w=>∃(xl:Bool),xl=am/\Sat 45 [(0,Str.v x1),(4,sl a2 I J),(5,vI x6),(6,vI rj),(7,vI rk),(34,vB xl)] a/\Below wb.z wb w) ?_ ?_
   ·refine Wg<|Rm z<|Rl z z z<|Rm z ?_
    rcases bs (decide<|rj<0) with L | L
    ·exact Nh z L<|Nh z L<|R z (pT z L z)<|Wl (fun _ q=>⟨true,som<|ifT V L,q.k<|s6 z z z z z z,br wb⟩)
    exact Rh z L (mv z)<|Rh z L (lss z z)<|R z (pF z L z)<|Wl (fun _ q=>⟨decide<|rk<0,som<|ifF V L,q.k<|s6 z z z z z z,br wb⟩)
   rintro an wm ⟨xl,rfl,_,sd⟩;revert an;refine Wo<|Wc z (fun hcn=>?_) (fun hcn=>?_)
   ·refine Ws<|E z (f0 (α:=UInt8) I_) ?_
    rintro _ _ ⟨ao,ap,ar,rfl,au,av⟩;exact Ra z<|Rw z<|Wr<|rtO<|qL (som<|ifT W hcn).symm<|F_ hr z z ⟨bup (bup (bup (bup (bM s7 s9<|d_ lr) sa) sc) sd) au,ao,ap,ar,[wm.z],z,av,a_e,m1<|lt_ (lt_ a1 sc.s) sd.s⟩
   refine Wk<|Wg<|RM z z<|R z (d_p z z)<|Rm z<|R z (add_ z z)<|R z (d_m d_3 d_5 z)<|E z (fS [(.tmp 41)] I_ z z z (a_J z) (lb z)<|lb z) ?_
   rintro _ a3 ⟨rfl,ho⟩;have hp:=ho.below;have aJ:=b_0 ho a_s;obtain ⟨aw,ax,ae⟩:=bdS<|ifF W hcn;refine E z (b_i (α:=UInt8) I_ ax z z ((((he.e sa).e sc).e sd).e hp) hf (ho.blk:Blk a3 wm.z [(vU<|byteI<|mkB<|m_ (a_f rj 16) rk)]) a_s an_ K_) ?_;rintro _ ay ⟨a4,az,aA,aB,rfl,aC,aD,aE,aF⟩;refine Rw z<|Wg<|Rm z<|R z (add_ z z)<|Ra z<|Wl ?_
   have a5:∀k∈H,k∈[w0.z]∨G.z<=k:=or1 hg (io sr)<|q_ lr;exact fun _ q=>⟨(aw,m_ x6 2),(som ae).symm,⟨az,aA,aB,a4,q.k<|s3 z z z,(cM (k_ (k_ (k_ (k_ (cM (cr [w0.z] G) s9 (io sr):Chg (· ∈ [w0.z]) G wv) sa:Chg (· ∈ [w0.z]) G ak) sc:Chg (· ∈ [w0.z]) G wb) sd:Chg (· ∈ [w0.z]) G wm) hp:Chg (· ∈ [w0.z]) G a3) aC a5:Chg (· ∈ [w0.z]) G ay),aD,aE,(or2 aF a5 an_ (q_<|lt_ (lt_ (lt_ (lt_ s9.s sa.s) sc.s) sd.s) hp.s):∀k∈a4,k∈[w0.z]∨G.z<=k),iA _ _⟩⟩
  exact We<|fun _ q=>b_F (som<|ifF hmx hci).symm ⟨a2,I,J,H,q.k<|s1 z,(cM (cr [w0.z] G) s9 (io sr):Chg (· ∈ [w0.z]) G wv),he,hf,(or1 hg (io sr) (q_ lr):∀k∈H,k∈[w0.z]∨G.z<=k),hw⟩
 ·rintro ⟨O,x6⟩ aG _ rfl ⟨a2,I,J,H,_,aH,he,hf,hg,hw⟩;have af:=elL hmu;revert aG;refine Wo<|Wm z<|Ra z<|Rw z ?_
  obtain rfl:=som<|a_t af;exact Wr<|F_ hr z z ⟨bM s7 aH<|d_ lr,a2,I,J,H,z,he,hf,(or1 hg (d_ lr) (b_9 s7.s):∀k∈H,w0.z<=k)⟩
 rintro _ _ _ _ rfl ⟨rfl,ah⟩;have ai:=elR hmu;obtain rfl:=som ai;exact ⟨ah,z⟩
def Q14 (w0:World)(B:Zone)(r:(List UInt8)×Int)(v:Value)(w':World):Prop:=Bw w0 w'/\un2 (fun L G=>∃H I J S1,v = .tuple #[sl H I J,vI G]/\a_ w' S1 (sl H I J) L/\inI G/\S1.Nodup/\(∀k∈S1,w0.z<=k)) r
theorem W_w36 {x1:Str}{x2:Int}{res:(List UInt8)×Int}(hm:f_B n x1 x2=some res)(J:B<=w0.z)(L:x1.b.length<=LEN)(O:inI x2):l_ prog 56 [Str.v x1,vI x2] w0 (Q14 w0 B res):=by
 unfold f_B at hm
 refine goG func56 z z z fun fn hr=>Ws<|Ra z<|Rw z<|Wq<|Wm z<|Rm z<|R z (lnT d_9 z) ?_
 obtain ⟨_,eo,hmc⟩:=bdS hm;refine E z (fc call50 z<|b_l (B:=B) eo J O (ii z)<|b_h L) ?_;rintro _ I ⟨s5,rfl⟩;refine R z (not_ z)<|Wx z (fun V=>?_) (fun V=>?_)
 ·refine Ws<|E z (f0 (α:=UInt8) I_) ?_
  rintro _ _ ⟨ap,nq,cr,rfl,ss,ht⟩;refine Rm z<|Ra z<|Rw z ?_
  obtain rfl:=som<|ifT hmc V;exact Wr<|F_ hr z z ⟨bup s5 ss,ap,nq,cr,[I.z],z,ht,O,a_e,m1 s5.s⟩
 refine Wk<|Wm z<|Rw z<|Wq ?_
 obtain ⟨_,huu,hmd⟩:=bdS<|ifF hmc V;refine b_S (σ:=Int) (ρ:=(List UInt8)×Int) (fun (x3:Int) a w=>Sat 49 [(0,Str.v x1),(1,vI x2),(6,vI x3)] a/\Below I.z I w/\inI x3) (fun (x3:Int) a w=>Sat 49 [(0,Str.v x1),(1,vI x2),(6,vI x3)] a/\Below I.z I w/\inI x3) (rQ prog fn<|Q14 w0 B) huu ?_ ?_ ?_ ?_
 ·exact fun _ q=>⟨q.k<|s3 z z z,br I,O⟩
 ·rintro x3 _ W _ ⟨hSv,s7,Y⟩ hmw;refine Wu ?_ hSv;refine Wq<|Wq ?_
  obtain ⟨ux,hue,hmf⟩:=bdS hmw;refine Wt (fun a w=>∃(x9:Bool),x9=ux/\Sat 49 [(0,Str.v x1),(1,vI x2),(6,vI x3),(36,vB x9)] a/\Below W.z W w) ?_ ?_
  ·refine Wg<|Rm z<|R z (add_ z z)<|Rm z<|R z (lnT d_9 z)<|Rl z z z<|Rm z ?_
   rcases bs (decide<|(m_ x3 1)<(x1.b.length:Int)) with H | H
   ·refine Rh z H (mv z)<|Rh z H (mv z) ?_
    obtain ⟨_,eg,hmy⟩:=bdS<|ifT hue H;refine Rh z H (b_a d_9 z z (a_4 eg).1 (a_4 eg).2.1) ?_;have hh:=lt_ s5.s s7.s;obtain ⟨rz,a7,hmi⟩:=bdS hmy;refine Eg z z H z (fc call98 z<|j_i (B:=B) a7<|zt' J hh) ?_;rintro _ _ ⟨sa,rfl,_⟩;refine Rh z H (a_z z z)<|R z (pT z H z)<|Rm z ?_
    rcases bs (decide<|0<=rz) with G | G
    ·refine Rh z G (mv z)<|Rh z G (mv z)<|Rh z G (add_ z z) ?_
     obtain ⟨_,ej,a0⟩:=bdS<|ifT hmi G;refine Rh z G (b_a d_9 z z (a_4 ej).1 (a_4 ej).2.1) ?_;obtain ⟨a8,a9,a1⟩:=bdS a0;refine Eg z z G z (fc call98 z<|j_i (B:=B) a9<|zt' J<|lt_ hh sa.s) ?_;rintro _ _ ⟨aa,rfl,_⟩;exact Rh z G (a_z z z)<|R z (pT z G z)<|Wl (fun _ q=>⟨decide<|0<=a8,som a1,q.k<|s4 z z z z,bup sa aa⟩)
    iterate 6 refine Nh z G ?_
    exact R z (pF z G z)<|Wl (fun _ q=>⟨false,som<|ifF hmi G,q.k<|s4 z z z z,sa⟩)
   iterate 5 refine Nh z H ?_
   exact R z (pF z H z)<|Rm z<|Nh z z<|Nh z z<|Nh z z<|Nh z z<|Nh z z<|Nh z z<|R z (pF z z z)<|Wl (fun _ q=>⟨false,som<|ifF hue H,q.k<|s4 z z z z,br W⟩)
  rintro ab _ ⟨x9,rfl,_,sk⟩;revert ab;refine Wo<|Wc z (fun hcb=>?_) (fun hcb=>?_)
  ·exact Wk<|Wb<|Wg<|Rm z<|R z (add_ z z)<|Ra z<|Wl (fun _ q=>⟨m_ x3 2,(som<|ifT hmf hcb).symm,⟨q.k<|s3 z z z,bup s7 sk,iA _ _⟩⟩)
  exact We<|fun _ q=>b_F (som<|ifF hmf hcb).symm ⟨q.k<|s3 z z z,bup s7 sk,Y⟩
 ·rintro x3 ad _ rfl ⟨_,sl,Y⟩;have a2:=elL hmd;revert ad;refine Wo<|Wm z<|RM z z ?_
  obtain ⟨_,em,a3⟩:=bdS a2;refine R z (i_r d_9 z z z L em) ?_;have hn:=lt_ s5.s sl.s;obtain ⟨_,_,ae,a4⟩:=V_ a3;refine E z (fc call99 z<|W_w35 ae (zt' J hn)<|o_n em L) ?_;rintro _ _ ⟨af,ah,ai,aj,ak,rfl,al,am,an⟩;refine Rm z<|Re z z z<|Re z z z<|Ra z<|Rw z<|Wm z<|Rm z<|Ra z<|Rw z ?_
  obtain rfl:=som a4;exact Wr<|F_ hr z z ⟨bup (bup s5 sl) af,ah,ai,aj,ak,z,al,Y,am,j_ an hn⟩
 rintro _ _ _ _ rfl ⟨rfl,a5⟩;have a6:=elR hmd;obtain rfl:=som a6;exact ⟨a5,z⟩
def Q15 (w0:World)(B:Zone)(r:Val×Int)(v:Value)(w':World):Prop:=Bw w0 w'/\un2 (fun G H=>∃I J L S1 a2 O V S2,v = .tuple #[(.agg #[vI G.number,sl I J L,sl a2 O V]),vI H]/\inI G.number/\a_ w' S1 (sl I J L) G.bytes/\a_ w' S2 (sl a2 O V) G.items/\inI H/\(S1++S2).Nodup/\(∀k∈(S1++S2),w0.z<=k)) r
def Q16 (w0:World)(B:Zone)(r:(List Val)×Int)(v:Value)(w':World):Prop:=Bw w0 w'/\un2 (fun L G=>∃H I J S1,v = .tuple #[sl H I J,vI G]/\a_ w' S1 (sl H I J) L/\inI G/\S1.Nodup/\(∀k∈S1,w0.z<=k)) r
structure k_K (f:c_->Int->Str->Int->Option (Val×Int)):Prop where
  run:∀{A0:Option Addr}{N0 C0:Nat}{B:Zone}{x1:c_}{x2:Int}{x3:Str}{x4:Int}{res:Val×Int}{w0:World}(hm:f x1 x2 x3 x4=some res)(hBw:B<=w0.z)(p1_0:repS w0 B (sl A0 N0 C0) x1.rules)(p2_0:inI x2)(p3_0:x3.b.length<=LEN)(p4_0:inI x4),l_ prog 34 [(.agg #[sl A0 N0 C0]),vI x2,Str.v x3,vI x4] w0<|Q15 w0 B res
structure k_L (f:c_->g_->Int->Str->Int->UInt8->Option ((List Val)×Int)):Prop where
  run:∀{A0 A3 A2 A1 A4:Option Addr}{N0 C0 N3 C3 N2 C2 N1 C1 N4 C4:Nat}{B:Zone}{x1:c_}{x2:g_}{x3:Int}{x4:Str}{x5:Int}{x6:UInt8}{res:(List Val)×Int}{w0:World}(hm:f x1 x2 x3 x4 x5 x6=some res)(hBw:B<=w0.z)(p1_0:repS w0 B (sl A0 N0 C0) x1.rules)(p2_0:x2.name.b.length<=LEN)(p2_1:inI x2.kind)(p2_2:inI x2.size)(p2_4:repS w0 B (sl A3 N3 C3) x2.bytes)(p2_5:repS w0 B (sl A2 N2 C2) x2.names)(p2_6:repS w0 B (sl A1 N1 C1) x2.tags)(p2_7:repS w0 B (sl A4 N4 C4) x2.kids)(p3_0:inI x3)(p4_0:x4.b.length<=LEN)(p5_0:inI x5),l_ prog 55 [(.agg #[sl A0 N0 C0]),.agg #[Str.v x2.name,vI x2.kind,vI x2.size,vB x2.little,sl A3 N3 C3,sl A2 N2 C2,sl A1 N1 C1,sl A4 N4 C4],vI x3,Str.v x4,vI x5,vU<|byteI x6] w0<|Q16 w0 B res
abbrev k_M (n:Nat):Prop:=k_K (b_Z n).spec_l10Read/\k_L (b_Z n).spec_l10Items
theorem T_w0b (ih:k_M n):k_K (f_C n<|b_Z n):=by
 obtain ⟨al,b6⟩:=ih
 constructor
 intro A0 N0 C0 B x1 x2 x3 x4 res w0 hm H L he J cf;unfold f_C at hm
 refine goG func34 z z z fun fn hr=>Ws<|E z (fb z) ?_
 rintro _ wq ⟨rfl,cr⟩;have h6:=cr.below;have I:Blk wq w0.z [sl A0 N0 C0]:=cr.blk;refine E z (fa E_) ?_;rintro _ wn ⟨rfl,ct⟩;have h5:=ct.below;have h4:Blk wn wq.z [vI 0,sl none 0 0,sl none 0 0]:=ct.blk;refine Rw z<|Ws<|Rf z a_9 z ?_
 have ht:=I.e h5;refine R z (l0 a_b z<|ht.at z)<|Rm z ?_
 obtain ⟨xx,g7,cg⟩:=bdS hm;have hk:=(h6.ag B).e h5;refine RX z (at_ (α:=g_) a_3 t_ z z z (L.g hk) g7) ?_;rintro _ ⟨_,_,_,rfl,g8,g9,_⟩;obtain ⟨ay,nz,O,V,W,Y,a0,a1,a2,a3,a4,a5,rfl,b7,b8,b9,ba,bb,bc,a6⟩:=a_v g9;refine R z (lN (vs:=vR xx ay nz O V W Y a0 a1 a2 a3 a4 a5) D_ t_ z z fid g8)<|E z (fa b_Y) ?_
 rintro _ ga ⟨rfl,cu⟩;have h2:=cu.below;have am:Blk ga wn.z [(Str.v (⟨[]⟩:Str)),vI 0,vI 0,vB false,sl none 0 0,sl none 0 0,sl none 0 0,sl none 0 0]:=cu.blk;refine E0 (fs0 (cur':=vR xx ay nz O V W Y a0 a1 a2 a3 a4 a5) t_ z z am z z z z) ?_;rintro _ wc ⟨gb,gc⟩;have G:=gc.one;refine Wn<|Ws<|R z (bP (parts:=[]) (cs:=[vI 0,sl none 0 0,sl none 0 0]) P_ z z)<|E z (fa E_) ?_
 rintro _ ge ⟨rfl,cv⟩;have h3:=cv.below;have hb:Blk ge wc.z [vI 0,sl none 0 0,sl none 0 0]:=cv.blk;refine E0 (fs0 (cur':=[vI 0,sl none 0 0,sl none 0 0]) b_ z z hb z z z z) ?_;rintro _ wa ⟨hd,gf⟩;have h1:=gf.one;refine Wn<|Wq<|Wm z<|Rm z<|R z (lnT d_9 z)<|R z (a_z z z)<|Wx z (fun aV=>?_) (fun aV=>?_)
 ·refine Ws<|R z (lN (vs:=[vI 0,sl none 0 0,sl none 0 0]) i_ b_ z z fid<|hd.row 0 3 z)<|Rm z<|R z (lnT d_9 z)<|R z (add_ z z)<|E0 (fs0 (cur':=[vI 0,sl none 0 0,sl none 0 0]) b_ z z ((((h4.e h2).c G<|djs<|mmr h4.lt).e h3).c h1<|djs<|mm1 h4.lt<|lt_ h2.s G.s) z z z z) ?_
  rintro _ _ ⟨gg,gh⟩;refine Rw z ?_
  obtain rfl:=som<|ifT cg aV;have cw:=lt_ h6.s h5.s;exact Wr<|F_ hr (u_ i_ b_ z gg z) z ⟨bM (bM (bup (bM (bup (bup h6 h5) h2) G<|m1 cw) h3) h1<|m1<|lt_ (lt_ cw h2.s) G.s) gh.one<|m1 h6.s,none,0,0,[],none,0,0,[],z,ii z,onL,onL,iA _ _,nd0,al0⟩
 have ch:=ifF cg aV;refine Wk<|Wq<|Ws<|Rf z a_M z ?_
 have cx:=mm1 am.lt G.s;have hu:=(gb.e h3).c h1<|djs cx
 refine R z (l0 g_3 z<|hu.at z)<|Wn<|Wb<|Ws<|Rq z z z<|Rw z<|Wc z (fun aW=>?_) (fun aW=>?_)
 ·refine Wm z<|Rm z ?_
  have cy:=lt_ h6.s h5.s;have cz:=lt_ (lt_ cy h2.s) G.s;obtain ⟨be,_,gi,eE⟩:=V_<|ifT ch aW;refine E z (fc call54 z<|W_w1p gi (zt' H<|lt_ (lt_ cz h3.s) h1.s) J cf) ?_;rintro _ _ ⟨bf,rfl,gj,gk⟩;refine Rm z<|Re z z z<|Re z z z<|Ra z<|Rw z<|Wm z<|Rf z a_F z<|E0 (fs0 (cur':=[vI be,sl none 0 0,sl none 0 0]) z_3 z z (hd.e bf) z z z z) ?_
  rintro _ _ ⟨gl,gm⟩;have cA:=gm.one;refine Wn<|Ws<|R z (lN (vs:=[vI be,sl none 0 0,sl none 0 0]) i_ b_ z z fid<|gl.row 0 3 z)<|Rm z ?_
  have cB:=mm1 h4.lt<|lt_ h2.s G.s
  refine E0 (fs0 (cur':=[vI be,sl none 0 0,sl none 0 0]) b_ z z ((((((h4.e h2).c G<|djs<|mmr h4.lt).e h3).c h1<|djs cB).e bf).c cA<|djs cB) z z z z) ?_;rintro _ _ ⟨gn,gp⟩;refine Rw z ?_
  obtain rfl:=som eE;have cC:=m1 cz;exact Wr<|rtO<|F_ hr (u_ i_ b_ z gn z) z ⟨bM (bM (bup (bM (bup (bM (bup (bup h6 h5) h2) G<|m1 cy) h3) h1 cC) bf) cA cC) gp.one<|m1 h6.s,none,0,0,[],none,0,0,[],z,gj,onL,onL,gk,nd0,al0⟩
 have ci:=ifF ch aW;refine Ws<|Rq z z z<|Rw z<|Wc z (fun aX=>?_) (fun aX=>?_)
 ·refine Ws<|R z (lN (vs:=[vI 0,sl none 0 0,sl none 0 0]) i_ b_ z z fid<|hd.row 0 3 z)<|Rm z<|R z (add_ z z)<|E0 (fs0 (cur':=[vI 0,sl none 0 0,sl none 0 0]) b_ z z ((((h4.e h2).c G<|djs<|mmr h4.lt).e h3).c h1<|djs<|mm1 h4.lt<|lt_ h2.s G.s) z z z z) ?_
  rintro _ _ ⟨gq,gs⟩;refine Rw z ?_
  obtain rfl:=som<|ifT ci aX;have cD:=lt_ h6.s h5.s;exact Wr<|rtO<|F_ hr (u_ i_ b_ z gq z) z ⟨bM (bM (bup (bM (bup (bup h6 h5) h2) G<|m1 cD) h3) h1<|m1<|lt_ (lt_ cD h2.s) G.s) gs.one<|m1 h6.s,none,0,0,[],none,0,0,[],z,ii z,onL,onL,iA _ _,nd0,al0⟩
 have cj:=ifF ci aX;refine Ws<|Rq z z z<|Rw z<|Wc z (fun aY=>?_) (fun aY=>?_)
 ·refine Ws<|R z (lN (vs:=[sl A0 N0 C0]) w_ v_ z z fid<|((((ht.e h2).c G<|djs<|mm1 I.lt h5.s).e h3).c h1<|djs<|mm1 I.lt<|lt_ (lt_ h5.s h2.s) G.s).row 0 1 z)<|R z (lN (vs:=vR xx ay nz O V W Y a0 a1 a2 a3 a4 a5) D_ t_ z z fid<|hu.row 0 8 z)<|RM z z<|R z (add_ z z) ?_
  have bg:=lt_ h6.s h5.s;have cE:∀k∈[wn.z],¬B k:=or0 (d_ lr)<|p_<|zt' H bg;have bh:=lt_ (lt_ bg h2.s) G.s;have cF:∀k∈[wc.z],¬B k:=or0 (d_ lr)<|p_<|zt' H bh;have an:=(((h2.ag B).c G<|e_ cE).e h3).c h1<|e_ cF
  have cG:=lt_ (lt_ bh h3.s) h1.s;obtain ⟨_,_,gt,eF⟩:=V_<|ifT cj aY;refine E z (fc call55 z<|b6.run gt (zt' H cG) (L.g<|(((hk.e h2).c G<|e_ cE).e h3).c h1<|e_ cF) b7 b8 b9 (ba.g an) (bb.g an) (bc.g an) (a6.g an) (ii z) J<|iA _ _) ?_;rintro _ _ ⟨bi,ao,ap,aq,gu,rfl,gw,gx,gy,bj⟩;refine Rm z<|Re z z z<|Re z z z<|Ra z<|Rw z<|Wm z<|Rf z Q_ z<|E0 (fs0 (cur':=[vI 0,sl none 0 0,sl ao ap aq]) d_h z z (hd.e bi) z z z z) ?_
  rintro _ _ ⟨gz,gA⟩;have bk:=gA.one;refine Wn<|Ws<|R z (lN (vs:=[vI 0,sl none 0 0,sl ao ap aq]) i_ b_ z z fid<|gz.row 0 3 z)<|Rm z ?_
  have cH:=lt_ h2.s G.s;have cI:=mm1 h4.lt cH;refine E0 (fs0 (cur':=[vI 0,sl none 0 0,sl ao ap aq]) b_ z z ((((((h4.e h2).c G<|djs<|mmr h4.lt).e h3).c h1<|djs cI).e bi).c bk<|djs cI) z z z z) ?_;rintro _ _ ⟨gB,gC⟩;have cJ:=gC.one;refine Rw z ?_
  obtain rfl:=som eF;have cK:=m1 bh;exact Wr<|rtO<|F_ hr (u_ i_ b_ z gB z) z ⟨bM (bM (bup (bM (bup (bM (bup (bup h6 h5) h2) G<|m1 bg) h3) h1 cK) bi) bk cK) cJ<|m1 h6.s,none,0,0,[],ao,ap,aq,gu,z,ii z,onL,(gw.c bk<|h_ bj hb.lt h1.s).c cJ<|h_ bj h4.lt<|lt_ (lt_ cH h3.s) h1.s,gx,na_ K_ gy an_,aa_ an_<|j_ bj cG⟩
 have ck:=ifF cj aY;refine Ws<|Rq z z z<|Rw z<|Wc z (fun aZ=>?_) (fun aZ=>?_)
 ·refine Ws<|R z (lN (vs:=[sl A0 N0 C0]) w_ v_ z z fid<|((((ht.e h2).c G<|djs<|mm1 I.lt h5.s).e h3).c h1<|djs<|mm1 I.lt<|lt_ (lt_ h5.s h2.s) G.s).row 0 1 z)<|R z (lN (vs:=vR xx ay nz O V W Y a0 a1 a2 a3 a4 a5) D_ t_ z z fid<|hu.row 0 8 z)<|RM z z<|R z (add_ z z) ?_
  have bm:=lt_ h6.s h5.s;have cL:∀k∈[wn.z],¬B k:=or0 (d_ lr)<|p_<|zt' H bm;have bn:=lt_ (lt_ bm h2.s) G.s;have cM:∀k∈[wc.z],¬B k:=or0 (d_ lr)<|p_<|zt' H bn;have ar:=(((h2.ag B).c G<|e_ cL).e h3).c h1<|e_ cM
  have cN:=lt_ (lt_ bn h3.s) h1.s;obtain ⟨_,_,gD,eG⟩:=V_<|ifT ck aZ;refine E z (fc call55 z<|b6.run gD (zt' H cN) (L.g<|(((hk.e h2).c G<|e_ cL).e h3).c h1<|e_ cM) b7 b8 b9 (ba.g ar) (bb.g ar) (bc.g ar) (a6.g ar) (ii z) J<|iA _ _) ?_;rintro _ _ ⟨bo,au,av,aw,gE,rfl,gF,gG,gH,bp⟩;refine Rm z<|Re z z z<|Re z z z<|Ra z<|Rw z<|Wm z<|Rf z Q_ z<|E0 (fs0 (cur':=[vI 0,sl none 0 0,sl au av aw]) d_h z z (hd.e bo) z z z z) ?_
  rintro _ _ ⟨gI,gJ⟩;have bq:=gJ.one;refine Wn<|Ws<|R z (lN (vs:=[vI 0,sl none 0 0,sl au av aw]) i_ b_ z z fid<|gI.row 0 3 z)<|Rm z ?_
  have cO:=lt_ h2.s G.s;have cP:=mm1 h4.lt cO;refine E0 (fs0 (cur':=[vI 0,sl none 0 0,sl au av aw]) b_ z z ((((((h4.e h2).c G<|djs<|mmr h4.lt).e h3).c h1<|djs cP).e bo).c bq<|djs cP) z z z z) ?_;rintro _ _ ⟨gK,gL⟩;have cQ:=gL.one;refine Rw z ?_
  obtain rfl:=som eG;have cR:=m1 bn;exact Wr<|rtO<|F_ hr (u_ i_ b_ z gK z) z ⟨bM (bM (bup (bM (bup (bM (bup (bup h6 h5) h2) G<|m1 bm) h3) h1 cR) bo) bq cR) cQ<|m1 h6.s,none,0,0,[],au,av,aw,gE,z,ii z,onL,(gF.c bq<|h_ bp hb.lt h1.s).c cQ<|h_ bp h4.lt<|lt_ (lt_ cO h3.s) h1.s,gG,na_ K_ gH an_,aa_ an_<|j_ bp cN⟩
 have cl:=ifF ck aZ;refine Ws<|Rq z z z<|Rw z<|Wc z (fun b0=>?_) (fun b0=>?_)
 ·refine Wm z<|Rm z ?_
  have bs:=lt_ h6.s h5.s;have bt:=lt_ (lt_ bs h2.s) G.s;have cS:=lt_ (lt_ bt h3.s) h1.s;obtain ⟨ax,_,gM,eH⟩:=V_<|ifT cl b0;refine E z (fc call54 z<|W_w1p gM (zt' H cS) J cf) ?_;rintro _ _ ⟨se,rfl,cT,_⟩;refine Rm z<|Re z z z<|Re z z z<|Ra z<|Rw z<|Wm z<|Rf z a_F z<|E0 (fs0 (cur':=[vI ax,sl none 0 0,sl none 0 0]) z_3 z z (hd.e se) z z z z) ?_
  rintro _ _ ⟨gN,gO⟩;have hj:=gO.one;refine Wn<|Ws ?_
  have cU:=mm1 I.lt<|lt_ (lt_ h5.s h2.s) G.s
  refine R z (lN (vs:=[sl A0 N0 C0]) w_ v_ z z fid<|((((((ht.e h2).c G<|djs<|mm1 I.lt h5.s).e h3).c h1<|djs cU).e se).c hj<|djs cU).row 0 1 z)<|R z (lN (vs:=vR xx ay nz O V W Y a0 a1 a2 a3 a4 a5) D_ t_ z z fid<|((hu.e se).c hj<|djs cx).row 0 8 z)<|RM z z<|Rm z<|R z (add_ z z) ?_
  have cV:∀k∈[wn.z],¬B k:=or0 (d_ lr)<|p_<|zt' H bs;have az:∀k∈[wc.z],¬B k:=or0 (d_ lr)<|p_<|zt' H bt;have aA:=(((((h2.ag B).c G<|e_ cV).e h3).c h1<|e_ az).e se).c hj<|e_ az
  have cW:=lt_ (lt_ cS se.s) hj.s;obtain ⟨_,_,gP,eI⟩:=V_ eH;refine E z (fc call55 z<|b6.run gP (zt' H cW) (L.g<|(((((hk.e h2).c G<|e_ cV).e h3).c h1<|e_ az).e se).c hj<|e_ az) b7 b8 b9 (ba.g aA) (bb.g aA) (bc.g aA) (a6.g aA) cT J<|iA _ _) ?_;rintro _ _ ⟨bu,aB,aC,aD,gQ,rfl,gR,gS,gT,bv⟩;refine Rm z<|Re z z z<|Re z z z<|Ra z<|Rw z<|Wm z<|Rf z Q_ z<|E0 (fs0 (cur':=[vI ax,sl none 0 0,sl aB aC aD]) d_h z z (gN.e bu) z z z z) ?_
  rintro _ _ ⟨gU,gV⟩;have bw:=gV.one;refine Wn<|Ws<|R z (lN (vs:=[vI ax,sl none 0 0,sl aB aC aD]) i_ b_ z z fid<|gU.row 0 3 z)<|Rm z ?_
  have cX:=lt_ h2.s G.s;have bx:=mm1 h4.lt cX;refine E0 (fs0 (cur':=[vI ax,sl none 0 0,sl aB aC aD]) b_ z z ((((((((h4.e h2).c G<|djs<|mmr h4.lt).e h3).c h1<|djs bx).e se).c hj<|djs bx).e bu).c bw<|djs bx) z z z z) ?_;rintro _ _ ⟨gW,gX⟩;have cY:=gX.one;refine Rw z ?_
  obtain rfl:=som eI;have bz:=m1 bt;exact Wr<|rtO<|F_ hr (u_ i_ b_ z gW z) z ⟨bM (bM (bup (bM (bup (bM (bup (bM (bup (bup h6 h5) h2) G<|m1 bs) h3) h1 bz) se) hj bz) bu) bw bz) cY<|m1 h6.s,none,0,0,[],aB,aC,aD,gQ,z,cT,onL,(gR.c bw<|h_ bv hb.lt<|lt_ (lt_ h1.s se.s) hj.s).c cY<|h_ bv h4.lt<|lt_ (lt_ (lt_ (lt_ cX h3.s) h1.s) se.s) hj.s,gS,na_ K_ gT an_,aa_ an_<|j_ bv cW⟩
 have cm:=ifF cl b0;refine Ws<|Rq z z z<|Rw z<|Wc z (fun b3=>?_) (fun b3=>?_)
 ·refine Wq<|Wm z<|Rm z ?_
  obtain ⟨_,cZ,cn⟩:=bdS<|ifT cm b3;refine R z (b_a d_9 z z (a_4 cZ).1 (a_4 cZ).2.1)<|Rq z z z<|Wx z (fun b4=>?_) (fun b4=>?_)
  ·refine Ws<|R z (lN (vs:=[vI 0,sl none 0 0,sl none 0 0]) i_ b_ z z fid<|hd.row 0 3 z)<|Rm z<|R z (add_ z z)<|E0 (fs0 (cur':=[vI 0,sl none 0 0,sl none 0 0]) b_ z z ((((h4.e h2).c G<|djs<|mmr h4.lt).e h3).c h1<|djs<|mm1 h4.lt<|lt_ h2.s G.s) z z z z) ?_
   rintro _ _ ⟨gY,gZ⟩;refine Rw z ?_
   obtain rfl:=som<|ifT cn b4;have d0:=lt_ h6.s h5.s;exact Wr<|rtO<|F_ hr (u_ i_ b_ z gY z) z ⟨bM (bM (bup (bM (bup (bup h6 h5) h2) G<|m1 d0) h3) h1<|m1<|lt_ (lt_ d0 h2.s) G.s) gZ.one<|m1 h6.s,none,0,0,[],none,0,0,[],z,ii z,onL,onL,iA _ _,nd0,al0⟩
  refine Wk<|Wq ?_
  obtain ⟨h7,eJ,eK⟩:=bdS<|ifF cn b4;refine Wt (fun a w=>∃(xo:Int)(aE:List UInt8)(aF:List Val)(aG:Int),(xo,aE,aF,aG)=h7/\∃a7 a8 a9 Sf aa ab ad Sg gr,Sat 172 [(8,pt wq.z),(11,pt wc.z),(22,pt gr),(23,vI aG)] a/\Below wa.z wa w/\inI xo/\a_ w Sf (sl a7 a8 a9) aE/\Sf.Nodup/\(∀k∈Sf,wa.z<=k)/\a_ w Sg (sl aa ab ad) aF/\Sg.Nodup/\(∀k∈Sg,wa.z<=k)/\(∀k∈Sg,k∉Sf)/\inI aG/\Blk w gr [vI xo,sl a7 a8 a9,sl aa ab ad]/\wa.z<=gr/\(∀k∈Sf,k∉[gr])/\(∀k∈Sg,k∉[gr])) ?_ ?_
  ·refine Wd (X:=fun k=>k∈([]:List Nat)∨wa.z<=k) 0 (.rd 0<|.rd 1<|.rd 2<|.rd 3<|.rd 4<|.rd 5<|.rd 6<|.rd 7<|.br 8 (.rd 9<|.rd 10<|.rd 11<|.ef 12<|.ef 13<|.rd 14 .done) 12<|.ef 8<|.rd 9<|.rd 10<|.rd 11<|.ef 13<|.rd 14 .done) mo (by kernel_rfl) fun d1 s7 _=>?_
   have d2:=lt_ (lt_ h5.s h2.s) G.s;refine dR z z (lN (vs:=[sl A0 N0 C0]) w_ v_ z z (b_t nm0<|Nat.lt_of_lt_of_le I.lt<|lt_ (lt_ d2 h3.s) h1.s)<|(((((ht.e h2).c G<|djs<|mm1 I.lt h5.s).e h3).c h1<|djs<|mm1 I.lt d2).e s7).row 0 1 z)<|dR z z (fd R_ z)<|dR z z (l1 A_ z (b_t nm0<|Nat.lt_of_lt_of_le am.lt<|lt_ (lt_ G.s h3.s) h1.s)<|(hu.e s7).at z) ?_
   obtain ⟨_,h8,co⟩:=bdS eJ;have d3:=lt_ h6.s h5.s;have bA:∀k∈[wn.z],¬B k:=or0 (d_ lr)<|p_<|zt' H d3;have d4:=lt_ (lt_ d3 h2.s) G.s;have bB:∀k∈[wc.z],¬B k:=or0 (d_ lr)<|p_<|zt' H d4;refine dRX z z (at_ (α:=Int) y_ z_3 z z z (a6.g<|((((h2.ag B).c G<|e_ bA).e h3).c h1<|e_ bB).e s7) h8) ?_;rintro _ ⟨_,_,_,rfl,ha,hc,eL⟩;obtain ⟨rfl,d5⟩:=T_ hc;have bC:=lt_ (lt_ d4 h3.s) h1.s;refine dR z z (l1 g_3 z (b_t nm0<|zap (zt' H bC) eL)<|ha.at0 z)<|dM z z z<|dM z z z<|dR z z (add_ z z)<|b_x ?_ ?_
   ·obtain ⟨aH,eM,eN,ex⟩:=V_ co;refine dE z z (fc call34 z<|al.run eN (zt' H<|lt_ bC s7.s) (L.g<|((((hk.e h2).c G<|e_ bA).e h3).c h1<|e_ bB).e s7) d5 J<|iA _ _) (.inr fun _ _ h=>o_<|h.1) ?_;rintro _ d6 ⟨d7,d8,d9,da,eO,db,dc,dd,eP,rfl,eQ,de,df,eR,bD,dg⟩;refine dM z z z<|dR z z (ext_ z z)<|dR z z (ext_ z z)<|dE z z (fa E_) (.inr fun _ _ h=>o_<|h.2.below) ?_
    rintro _ eS ⟨rfl,dh⟩;have bE:=dh.below;have bF:=m1<|lt_ s7.s d7.s
    refine dE0 z (fs0 (cur':=[vI aH.number,sl d8 d9 da,sl db dc dd]) b_ z z (dh.blk:Blk eS d6.z [vI 0,sl none 0 0,sl none 0 0]) z z z z) (.inr fun _ _ h=>b_1 (atp bF) h.2) ?_;rintro _ _ ⟨eT,eU⟩;have bG:=eU.one;refine dQ z z z<|pD ?_
    have di:=mnr<|a_.lt de
    have dj:=mnr<|a_.lt df
    exact fun _ q=>⟨aH.number,aH.bytes,aH.items,eM,som ex,d8,d9,da,eO,db,dc,dd,eP,d6.z,q.k<|s4 z z z z,bM (bup (bup s7 d7) bE) bG bF,eQ,(de.e bE).c bG<|ds di,nl_ bD,j_ (al_ dg) s7.s,(df.e bE).c bG<|ds dj,nr_ bD,j_ (ar_ dg) s7.s,ds<|nj bD,eR,eT,atp bF,ds di,ds dj⟩
   refine dE z z (fa E_) (.inr fun _ _ h=>o_<|h.2.below) ?_;rintro _ eV ⟨rfl,dk⟩;have aI:=dk.below;have bH:Blk eV d1.z [vI 0,sl none 0 0,sl none 0 0]:=dk.blk;obtain ⟨aJ,eW,eX,ey⟩:=V_ co;refine dE z z (fc call34 z<|al.run eX (zt' H<|lt_ (lt_ bC s7.s) aI.s) (L.g<|(((((hk.e h2).c G<|e_ bA).e h3).c h1<|e_ bB).e s7).e aI) d5 J<|iA _ _) (.inr fun _ _ h=>o_<|h.1) ?_;rintro _ _ ⟨dl,dm,dn,dp,eY,dq,dr,dt,eZ,rfl,f0,f1,f2,f3,bI,aK⟩;refine dM z z z<|dR z z (ext_ z z)<|dR z z (ext_ z z) ?_
   have bJ:=m1 s7.s;refine dE0 z (fs0 (cur':=[vI aJ.number,sl dm dn dp,sl dq dr dt]) b_ z z (bH.e dl) z z z z) (.inr fun _ _ h=>b_1 (atp bJ) h.2) ?_;rintro _ _ ⟨f4,f5⟩;have bK:=f5.one;refine dQ z z z<|pD ?_
   have du:=h_ (al_ aK) bH.lt lr;have dv:=lt_ s7.s aI.s;have dw:=h_ (ar_ aK) bH.lt lr;exact fun _ q=>⟨aJ.number,aJ.bytes,aJ.items,eW,som ey,dm,dn,dp,eY,dq,dr,dt,eZ,d1.z,q.k<|s4 z z z z,bM (bup (bup s7 aI) dl) bK bJ,f0,f1.c bK du,nl_ bI,j_ (al_ aK) dv,f2.c bK dw,nr_ bI,j_ (ar_ aK) dv,ds<|nj bI,f3,f4,atp bJ,du,dw⟩
  rintro f6 wl ⟨xo,aE,aF,aG,rfl,a7,a8,a9,Sf,aa,ab,ad,Sg,gr,_,ss,f7,dx,f8,bL,dy,f9,bN,fe,ff,fg,_,_,_⟩;revert f6;refine Wo<|Ws<|R z (lN (vs:=[vI xo,sl a7 a8 a9,sl aa ab ad]) i_ b_ z z fid<|fg.row 0 3 z)<|E z (fS [(.tmp 136)] c_a z z z (a_J z) (lb z)<|lb z) ?_
  rintro _ fh ⟨rfl,bO⟩;have bQ:=bO.below;have hf:Blk fh wl.z [vI xo,sl a7 a8 a9,sl aa ab ad]:=bO.blk;refine Rf z Q_ z<|E0 (fs0 (cur':=[vI 0,sl none 0 0,sl (some ⟨wl.z,0,none⟩) 1 1]) d_h z z ((hd.e ss).e bQ) z z z z) ?_
  rintro _ _ ⟨fi,fj⟩;have bR:=fj.one;refine Wn<|Ws<|R z (lN (vs:=[vI 0,sl none 0 0,sl (some ⟨wl.z,0,none⟩) 1 1]) i_ b_ z z fid<|fi.row 0 3 z)<|Rm z ?_
  have dz:=lt_ h2.s G.s;have dA:=mm1 h4.lt dz;refine E0 (fs0 (cur':=[vI 0,sl none 0 0,sl (some ⟨wl.z,0,none⟩) 1 1]) b_ z z (((((((h4.e h2).c G<|djs<|mmr h4.lt).e h3).c h1<|djs dA).e ss).e bQ).c bR<|djs dA) z z z z) ?_;rintro _ _ ⟨fk,fl⟩;have dB:=fl.one;refine Rw z ?_
  obtain rfl:=som<|un4S eK;have bS:=lt_ (lt_ dz h3.s) h1.s;have dC:=lt_ h6.s h5.s;have dD:=lt_ (lt_ dC h2.s) G.s;have dF:=m1 dD;have bT:=lt_ (lt_ dD h3.s) h1.s;exact Wr<|rtO<|F_ hr (u_ i_ b_ z fk z) z ⟨bM (bM (bup (bup (bM (bup (bM (bup (bup h6 h5) h2) G<|m1 dC) h3) h1 dF) ss) bQ) bR dF) dB<|m1 h6.s,none,0,0,[],some ⟨wl.z,0,none⟩,1,1,(wl.z::(Sf++Sg)),z,ii z,onL,((b_0 bO<|e_0 (x:=(⟨xo,aE,aF⟩:Val)) (S1:=Sf) (S2:=Sg) f7 dx dy).c bR (or1 c_1 (aa_ (h_ bL hb.lt h1.s)<|h_ bN hb.lt h1.s) (S_ (d_ hb.lt)<|lt_ h1.s ss.s):∀k∈(wl.z::(Sf++Sg)),k∉[wc.z])).c dB (or1 c_1 (aa_ (h_ bL h4.lt bS)<|h_ bN h4.lt bS) (S_ (d_ h4.lt)<|lt_ bS ss.s):∀k∈(wl.z::(Sf++Sg)),k∉[wq.z]),ff,na_ K_ (j_C (na_ f8 f9<|ds fe)<|aa_ (a_.lt dx)<|a_.lt dy) an_,aa_ an_<|a_l c_1 (aa_ (j_ bL bT)<|j_ bN bT)<|lt_ bT ss.s⟩
 have cp:=ifF cm b3;refine Ws<|Rq z z z<|Rw z<|Wc z (fun b5=>?_) (fun b5=>?_)
 ·refine Wq ?_;obtain ⟨fm,ez,eA⟩:=bdS<|ifT cp b5;refine Wt (fun a w=>∃(xp:Int)(aL:List UInt8)(aM:List Val)(aN:Int),(xp,aL,aM,aN)=fm/\∃ae af ah Sh ai aj ak Si gv,Sat 172 [(8,pt wq.z),(11,pt wc.z),(24,pt gv),(25,vI aN)] a/\Below wa.z wa w/\inI xp/\a_ w Sh (sl ae af ah) aL/\Sh.Nodup/\(∀k∈Sh,wa.z<=k)/\a_ w Si (sl ai aj ak) aM/\Si.Nodup/\(∀k∈Si,wa.z<=k)/\(∀k∈Si,k∉Sh)/\inI aN/\Blk w gv [vI xp,sl ae af ah,sl ai aj ak]/\wa.z<=gv/\(∀k∈Sh,k∉[gv])/\(∀k∈Si,k∉[gv])) ?_ ?_
  ·refine Wd (X:=fun k=>k∈([]:List Nat)∨wa.z<=k) 0 (.rd 0<|.rd 1<|.rd 2<|.rd 3<|.rd 4<|.rd 5<|.rd 6<|.rd 7<|.br 8 (.rd 9<|.rd 10<|.rd 11<|.ef 12<|.ef 13<|.rd 14 .done) 12<|.ef 8<|.rd 9<|.rd 10<|.rd 11<|.ef 13<|.rd 14 .done) mo (by kernel_rfl) fun dG s8 _=>?_
   have dH:=lt_ (lt_ h5.s h2.s) G.s;refine dR z z (lN (vs:=[sl A0 N0 C0]) w_ v_ z z (b_t nm0<|Nat.lt_of_lt_of_le I.lt<|lt_ (lt_ dH h3.s) h1.s)<|(((((ht.e h2).c G<|djs<|mm1 I.lt h5.s).e h3).c h1<|djs<|mm1 I.lt dH).e s8).row 0 1 z)<|dR z z (fd R_ z)<|dR z z (l1 A_ z (b_t nm0<|Nat.lt_of_lt_of_le am.lt<|lt_ (lt_ G.s h3.s) h1.s)<|(hu.e s8).at z) ?_
   obtain ⟨_,fo,cq⟩:=bdS ez;have dI:=lt_ h6.s h5.s;have bU:∀k∈[wn.z],¬B k:=or0 (d_ lr)<|p_<|zt' H dI;have dJ:=lt_ (lt_ dI h2.s) G.s;have bV:∀k∈[wc.z],¬B k:=or0 (d_ lr)<|p_<|zt' H dJ;refine dRX z z (at_ (α:=Int) y_ z_3 z z z (a6.g<|((((h2.ag B).c G<|e_ bU).e h3).c h1<|e_ bV).e s8) fo) ?_;rintro _ ⟨_,_,_,rfl,fp,fq,fr⟩;obtain ⟨rfl,dK⟩:=T_ fq;have bW:=lt_ (lt_ dJ h3.s) h1.s;refine dR z z (l1 g_3 z (b_t nm0<|zap (zt' H bW) fr)<|fp.at0 z)<|dM z z z<|dM z z z<|dR z z (add_ z z)<|b_x ?_ ?_
   ·obtain ⟨aO,fs,ft,eB⟩:=V_ cq;refine dE z z (fc call34 z<|al.run ft (zt' H<|lt_ bW s8.s) (L.g<|((((hk.e h2).c G<|e_ bU).e h3).c h1<|e_ bV).e s8) dK J<|iA _ _) (.inr fun _ _ h=>o_<|h.1) ?_;rintro _ dL ⟨dN,dO,dP,dS,fu,dT,dU,dV,fv,rfl,fw,dW,dX,fx,bX,dY⟩;refine dM z z z<|dR z z (ext_ z z)<|dR z z (ext_ z z)<|dE z z (fa E_) (.inr fun _ _ h=>o_<|h.2.below) ?_
    rintro _ fy ⟨rfl,dZ⟩;have bY:=dZ.below;have bZ:=m1<|lt_ s8.s dN.s
    refine dE0 z (fs0 (cur':=[vI aO.number,sl dO dP dS,sl dT dU dV]) b_ z z (dZ.blk:Blk fy dL.z [vI 0,sl none 0 0,sl none 0 0]) z z z z) (.inr fun _ _ h=>b_1 (atp bZ) h.2) ?_;rintro _ _ ⟨fz,fA⟩;have c0:=fA.one;refine dQ z z z<|pD ?_
    have e0:=mnr<|a_.lt dW
    have e1:=mnr<|a_.lt dX
    exact fun _ q=>⟨aO.number,aO.bytes,aO.items,fs,som eB,dO,dP,dS,fu,dT,dU,dV,fv,dL.z,q.k<|s4 z z z z,bM (bup (bup s8 dN) bY) c0 bZ,fw,(dW.e bY).c c0<|ds e0,nl_ bX,j_ (al_ dY) s8.s,(dX.e bY).c c0<|ds e1,nr_ bX,j_ (ar_ dY) s8.s,ds<|nj bX,fx,fz,atp bZ,ds e0,ds e1⟩
   refine dE z z (fa E_) (.inr fun _ _ h=>o_<|h.2.below) ?_;rintro _ fB ⟨rfl,e2⟩;have aP:=e2.below;have c1:Blk fB dG.z [vI 0,sl none 0 0,sl none 0 0]:=e2.blk;obtain ⟨aQ,fC,fD,eC⟩:=V_ cq;refine dE z z (fc call34 z<|al.run fD (zt' H<|lt_ (lt_ bW s8.s) aP.s) (L.g<|(((((hk.e h2).c G<|e_ bU).e h3).c h1<|e_ bV).e s8).e aP) dK J<|iA _ _) (.inr fun _ _ h=>o_<|h.1) ?_;rintro _ _ ⟨e3,e4,e5,e6,fE,e7,e8,e9,fF,rfl,fG,fH,fI,fJ,c2,aR⟩;refine dM z z z<|dR z z (ext_ z z)<|dR z z (ext_ z z) ?_
   have c3:=m1 s8.s;refine dE0 z (fs0 (cur':=[vI aQ.number,sl e4 e5 e6,sl e7 e8 e9]) b_ z z (c1.e e3) z z z z) (.inr fun _ _ h=>b_1 (atp c3) h.2) ?_;rintro _ _ ⟨fK,fL⟩;have c4:=fL.one;refine dQ z z z<|pD ?_
   have ea:=h_ (al_ aR) c1.lt lr;have eb:=lt_ s8.s aP.s;have ec:=h_ (ar_ aR) c1.lt lr;exact fun _ q=>⟨aQ.number,aQ.bytes,aQ.items,fC,som eC,e4,e5,e6,fE,e7,e8,e9,fF,dG.z,q.k<|s4 z z z z,bM (bup (bup s8 aP) e3) c4 c3,fG,fH.c c4 ea,nl_ c2,j_ (al_ aR) eb,fI.c c4 ec,nr_ c2,j_ (ar_ aR) eb,ds<|nj c2,fJ,fK,atp c3,ea,ec⟩
  rintro fM wm ⟨xp,aL,aM,aN,rfl,ae,af,ah,Sh,ai,aj,ak,Si,gv,_,sw,fN,ed,fO,c5,ee,fP,c6,fQ,_,fR,_,_,_⟩;revert fM;refine Wo<|Ws<|R z (lN (vs:=[vI xp,sl ae af ah,sl ai aj ak]) i_ b_ z z fid<|fR.row 0 3 z)<|E z (fS [(.tmp 155)] c_a z z z (a_J z) (lb z)<|lb z) ?_
  rintro _ fT ⟨rfl,c7⟩;have c8:=c7.below;have hg:Blk fT wm.z [vI xp,sl ae af ah,sl ai aj ak]:=c7.blk;refine Rf z Q_ z<|E0 (fs0 (cur':=[vI 0,sl none 0 0,sl (some ⟨wm.z,0,none⟩) 1 1]) d_h z z ((hd.e sw).e c8) z z z z) ?_
  rintro _ _ ⟨fU,fV⟩;have c9:=fV.one;refine Wn<|Ws<|R z (lN (vs:=[vI 0,sl none 0 0,sl (some ⟨wm.z,0,none⟩) 1 1]) i_ b_ z z fid<|fU.row 0 3 z)<|Rm z<|R z (add_ z z) ?_
  have eg:=lt_ h2.s G.s;have eh:=mm1 h4.lt eg;refine E0 (fs0 (cur':=[vI 0,sl none 0 0,sl (some ⟨wm.z,0,none⟩) 1 1]) b_ z z (((((((h4.e h2).c G<|djs<|mmr h4.lt).e h3).c h1<|djs eh).e sw).e c8).c c9<|djs eh) z z z z) ?_;rintro _ _ ⟨fW,fX⟩;have ei:=fX.one;refine Rw z ?_
  obtain rfl:=som<|un4S eA;have ca:=lt_ (lt_ eg h3.s) h1.s;have ej:=lt_ h6.s h5.s;have ek:=lt_ (lt_ ej h2.s) G.s;have em:=m1 ek;have cb:=lt_ (lt_ ek h3.s) h1.s;exact Wr<|rtO<|F_ hr (u_ i_ b_ z fW z) z ⟨bM (bM (bup (bup (bM (bup (bM (bup (bup h6 h5) h2) G<|m1 ej) h3) h1 em) sw) c8) c9 em) ei<|m1 h6.s,none,0,0,[],some ⟨wm.z,0,none⟩,1,1,(wm.z::(Sh++Si)),z,ii z,onL,((b_0 c7<|e_0 (x:=(⟨xp,aL,aM⟩:Val)) (S1:=Sh) (S2:=Si) fN ed ee).c c9 (or1 c_1 (aa_ (h_ c5 hb.lt h1.s)<|h_ c6 hb.lt h1.s) (S_ (d_ hb.lt)<|lt_ h1.s sw.s):∀k∈(wm.z::(Sh++Si)),k∉[wc.z])).c ei (or1 c_1 (aa_ (h_ c5 h4.lt ca)<|h_ c6 h4.lt ca) (S_ (d_ h4.lt)<|lt_ ca sw.s):∀k∈(wm.z::(Sh++Si)),k∉[wq.z]),iA _ _,na_ K_ (j_C (na_ fO fP<|ds fQ)<|aa_ (a_.lt ed)<|a_.lt ee) an_,aa_ an_<|a_l c_1 (aa_ (j_ c5 cb)<|j_ c6 cb)<|lt_ cb sw.s⟩
 refine Wk<|Wm z<|Rm z<|R z (add_ z z) ?_
 have en:=lt_ h6.s h5.s;have eo:=lt_ (lt_ en h2.s) G.s;have ep:=lt_ (lt_ eo h3.s) h1.s;obtain ⟨_,_,fY,eD⟩:=V_<|ifF cp b5;refine E z (fc call56 z<|W_w36 fY (zt' H ep) J<|iA _ _) ?_;rintro _ _ ⟨cc,aS,aT,aU,fZ,rfl,g0,g1,g2,cd⟩;refine Rm z<|Re z z z<|Re z z z<|Ra z<|Rw z<|Wm z<|Rf z a_B z<|E0 (fs0 (cur':=[vI 0,sl aS aT aU,sl none 0 0]) z_25 z z (hd.e cc) z z z z) ?_
 rintro _ _ ⟨g3,g4⟩;have ce:=g4.one;refine Wn<|Ws<|R z (lN (vs:=[vI 0,sl aS aT aU,sl none 0 0]) i_ b_ z z fid<|g3.row 0 3 z)<|Rm z ?_
 have er:=lt_ h2.s G.s;have es:=mm1 h4.lt er;refine E0 (fs0 (cur':=[vI 0,sl aS aT aU,sl none 0 0]) b_ z z ((((((h4.e h2).c G<|djs<|mmr h4.lt).e h3).c h1<|djs es).e cc).c ce<|djs es) z z z z) ?_;rintro _ _ ⟨g5,g6⟩;have eu:=g6.one;refine Rw z ?_
 obtain rfl:=som eD;have ew:=m1 eo;exact Wr<|F_ hr (u_ i_ b_ z g5 z) z ⟨bM (bM (bup (bM (bup (bM (bup (bup h6 h5) h2) G<|m1 en) h3) h1 ew) cc) ce ew) eu<|m1 h6.s,aS,aT,aU,fZ,none,0,0,[],z,ii z,(g0.c ce<|h_ cd hb.lt h1.s).c eu<|h_ cd h4.lt<|lt_ (lt_ er h3.s) h1.s,onL,g1,na_ g2 K_<|nmN _,aa_ (j_ cd ep) an_⟩
theorem T_w1r (ih:k_M n):k_L (f_D n<|b_Z n):=by
 obtain ⟨bz,_⟩:=ih
 constructor
 intro A0 A3 A2 A1 A4 N0 C0 N3 C3 N2 C2 N1 C1 N4 C4 B x1 x2 x3 x4 x5 x6 res w0 hm a1 b7 b8 b9 ba bb aw bc be bf a6 bg;unfold f_D at hm
 refine goG func55 z z z fun fn hr=>Ws<|E z (fb z) ?_
 rintro _ wi ⟨rfl,aG⟩;have hh:=aG.below;have aH:Blk wi w0.z [sl A0 N0 C0]:=aG.blk;refine E z (fb z) ?_;rintro _ G ⟨rfl,aI⟩;have Y:=aI.below;have aJ:Blk G wi.z (vR x2 A3 N3 C3 A2 N2 C2 A1 N1 C1 A4 N4 C4):=aI.blk;refine Ra z<|Rw z<|Ws<|E z (f0 (α:=Val) c_a) ?_
 rintro _ H ⟨bA,bB,bC,rfl,sd,bD⟩;refine Rw z<|Wq ?_
 obtain ⟨_,bh,ax⟩:=bdS hm;refine b_S (σ:=Int×(List Val)) (ρ:=(List Val)×Int) (fun s a w=>un2 (fun W xm=>∃I J L O,Sat 88 [(2,vI x3),(3,Str.v x4),(4,vI W),(5,vU<|byteI x6),(6,pt w0.z),(7,pt wi.z),(14,sl I J L)] a/\Chg (· ∈ [G.z]) H w/\inI W/\a_ w O (sl I J L) xm/\O.Nodup/\(∀k∈O,k∈[G.z]∨H.z<=k)) s) (fun s a w=>un2 (fun W xm=>∃I J L O,Sat 88 [(4,vI W),(14,sl I J L)] a/\Chg (· ∈ [G.z]) H w/\inI W/\a_ w O (sl I J L) xm/\O.Nodup/\(∀k∈O,k∈[G.z]∨H.z<=k)) s) (rQ prog fn<|Q16 w0 B) bh ?_ ?_ ?_ ?_
 ·exact fun _ q=>⟨bA,bB,bC,[G.z],q.k<|s7 z z z z z z z,cr [G.z] H,bg,bD,a_e,io sr⟩
 ·rintro ⟨W,xm⟩ _ wx _ ⟨I,J,L,O,bi,sc,hu,V,ho,hp⟩ bj;refine Wu ?_ bi;refine Wq<|Wq ?_
  obtain ⟨bE,bk,ay⟩:=bdS<|a_t bj;refine Wt (fun a w=>∃(ad:Bool),ad=bE/\Sat 88 [(2,vI x3),(3,Str.v x4),(4,vI W),(5,vU<|byteI x6),(6,pt w0.z),(7,pt wi.z),(14,sl I J L),(29,vB ad)] a/\Below wx.z wx w) ?_ ?_
  ·refine Wg<|RM z z<|Rm z ?_
   obtain ⟨bF,bG,az⟩:=bdS bk;refine E z (fc call96 z<|W_w1q bG (zt' a1<|lt_ (lt_ (lt_ hh.s Y.s) sd.s) sc.s) a6 hu) ?_;rintro _ _ ⟨aK,rfl⟩;refine R z (not_ z)<|Rm z ?_
   rcases bs (!bF) with hce | hce
   ·exact Rh z hce (mv z)<|Rh z hce (mv z)<|Rh z hce (lnT d_9 z)<|Rh z hce (lss z z)<|R z (pT z hce z)<|Wl (fun _ q=>⟨decide<|W<(x4.b.length:Int),som<|ifT az hce,q.k<|s8 z z z z z z z z,aK⟩)
   iterate 4 refine Nh z hce ?_
   exact R z (pF z hce z)<|Wl (fun _ q=>⟨false,som<|ifF az hce,q.k<|s8 z z z z z z z z,aK⟩)
  rintro bH wr ⟨ad,rfl,_,s6⟩;revert bH;refine Wo<|Wc z (fun a7=>?_) (fun a7=>?_)
  ·refine Wk<|Wb<|Wq<|Wm z ?_
   have ae:=V.e s6;refine R z (lnR Y_ z<|or_ ae<|a_.lt V)<|R z (a_C z z)<|Wn ?_
   obtain ⟨bI,aA,aB⟩:=bdS<|ifT ay a7;refine Wt (fun a w=>∃(xj:Int),Sum.inl xj=bI/\Sat 88 [(2,vI x3),(3,Str.v x4),(4,vI xj),(5,vU<|byteI x6),(6,pt w0.z),(7,pt wi.z),(14,sl I J L)] a/\Below wr.z wr w/\inI xj) ?_ ?_
   ·refine Wc z (fun a8=>?_)<|fun a8=>?_
    ·refine Wq<|Wm z<|Rm z ?_
     have aL:=lt_ hh.s Y.s;have aM:=lt_ aL sd.s;obtain ⟨_,bJ,aC⟩:=bdS<|ifT aA a8;refine E z (fc call96 z<|W_w1q bJ (zt' a1<|lt_ (lt_ aM sc.s) s6.s) a6 hu) ?_;rintro _ _ ⟨af,rfl⟩;refine R z (not_ z)<|Wx z (fun a9=>?_) (fun a9=>?_)
     ·refine Wm z<|Rm z<|R z (lnT d_9 z)<|R z (add_ z z)<|Ra z<|Rw z ?_
      obtain rfl:=som<|ifT aC a9;have bm:=elR aB;have aN:=m1 aL;exact Wr<|rtO<|qL (som bm).symm<|F_ hr z z ⟨bup (bup (bM (bup (bup hh Y) sd) sc aN) s6) af,I,J,L,O,z,ae.e af,iA _ _,ho,a_l hp aN aM⟩
     exact Wk<|Wg<|Rm z<|R z (add_ z z)<|Ra z<|Wl (fun _ q=>⟨m_ W 1,som<|ifF aC a9,q.k<|s7 z z z z z z z,af,iA _ _⟩)
    exact a_I<|fun _ q=>⟨W,som<|ifF aA a8,q.k<|s7 z z z z z z z,br wr,hu⟩
   rintro bK bL ⟨xj,rfl,_,sf,bN⟩;have bn:=elL aB;revert bK;refine Wo<|Ws ?_
   have aO:=(((aJ.e sd).c sc<|djs<|mmr aJ.lt).e s6).e sf;refine R z (lN (vs:=vR x2 A3 N3 C3 A2 N2 C2 A1 N1 C1 A4 N4 C4) D_ t_ z z fid<|aO.row 0 8 z)<|RM z z ?_
   have hq:=ae.e sf;refine R z (lnR Y_ z<|or_ hq<|a_.lt V) ?_;have ah:=lt_ hh.s Y.s;have ht:=(((((hh.ag B).e Y).e sd).c sc<|e_ (or0 (d_ lr) (p_<|zt' a1 ah):∀k∈[G.z],¬B k)).e s6).e sf;have aP:=lt_ ah sd.s;have aQ:=lt_ (lt_ (lt_ aP sc.s) s6.s) sf.s;obtain ⟨ai,bO,bo⟩:=bdS bn;refine E z (fc call97 z<|e_5 bO (zt' a1 aQ) b8 b9 ba (bb.g ht) (aw.g ht) (bc.g ht) (be.g ht) bf<|b_h<|repS.len<|or_ hq<|a_.lt V) ?_;rintro _ ws ⟨sa,rfl,bP⟩;refine Rw z<|Wq<|Wq ?_
   obtain ⟨bQ,aD,aE⟩:=bdS bo;refine Wt (fun a w=>∃(aj:Bool),aj=bQ/\Sat 88 [(2,vI x3),(3,Str.v x4),(4,vI xj),(5,vU<|byteI x6),(6,pt w0.z),(7,pt wi.z),(14,sl I J L),(15,vI ai),(54,vB aj)] a/\Below ws.z ws w) ?_ ?_
   ·refine Wg<|Rm z<|Rl z z z<|Rm z ?_
    rcases bs (decide<|ai<0) with hcg | hcg
    ·iterate 3 refine Nh z hcg ?_
     exact R z (pT z hcg z)<|Wl (fun _ q=>⟨true,som<|ifT aD hcg,q.k<|s9 z z z z z z z z z,br ws⟩)
    exact Rh z hcg (mv z)<|Rh z hcg (lnR Y_ z<|or_ (hq.e sa)<|a_.lt V)<|Rh z hcg (a_C z z)<|R z (pF z hcg z)<|Wl (fun _ q=>⟨decide<|40<(xm.length:Int),som<|ifF aD hcg,q.k<|s9 z z z z z z z z z,br ws⟩)
   rintro bR wv ⟨aj,rfl,_,sb⟩;revert bR;refine Wo<|Wc z (fun aa=>?_) (fun aa=>?_)
   ·refine Wm z<|Rm z<|R z (lnT d_9 z)<|R z (add_ z z)<|Ra z<|Rw z ?_
    have aR:=m1 ah;exact Wr<|rtO<|qL (som<|ifT aE aa).symm<|F_ hr z z ⟨bup (bup (bup (bup (bM (bup (bup hh Y) sd) sc aR) s6) sf) sa) sb,I,J,L,O,z,(hq.e sa).e sb,iA _ _,ho,a_l hp aR aP⟩
   refine Wk<|Wq<|Ws<|Rf z a_M z ?_
   have aS:=(aO.e sa).e sb;refine R z (l0 g_3 z<|aS.at z)<|Rq z z z<|Wn ?_
   obtain ⟨bS,aF,bp⟩:=bdS<|ifF aE aa;refine Wt (fun a w=>∃(xy:Int),xy=bS/\Sat 88 [(2,vI x3),(3,Str.v x4),(4,vI xy),(5,vU<|byteI x6),(6,pt w0.z),(7,pt wi.z),(14,sl I J L),(15,vI ai)] a/\Below wv.z wv w/\inI xy) ?_ ?_
   ·refine Wc z (fun ab=>?_)<|fun ab=>?_
    ·refine Wg<|Rm z<|Rf z c_b z<|R z (l0 b_L z<|aS.at z)<|Rm z<|R z (lnR Y_ z<|or_ ((hq.e sa).e sb)<|a_.lt V) ?_
     obtain ⟨bT,bU,bq⟩:=bdS<|ifT aF ab;refine RX z (at_ (α:=Str) a_d z_9 z z z (aw.g<|(ht.e sa).e sb) bU) ?_;rintro _ ⟨_,_,_,rfl,bV,bW,_⟩;obtain ⟨rfl,_⟩:=b_P bW;exact R z (l0 g_9 z<|bV.at0 z)<|R z (lnT d_9 z)<|R z (add_ z z)<|R z (add_ z z)<|Ra z<|Wl (fun _ q=>⟨m_ (m_ xj (bT.b.length:Int)) 1,som bq,q.k<|s8 z z z z z z z z,br wv,iA _ _⟩)
    exact a_I<|fun _ q=>⟨xj,som<|ifF aF ab,q.k<|s8 z z z z z z z z,br wv,bN⟩
   rintro bX bY ⟨xy,rfl,_,sk,bZ⟩;revert bX;refine Wo<|Ws<|R z (lN (vs:=[sl A0 N0 C0]) w_ v_ z z fid<|((((((((aH.e Y).e sd).c sc<|djs<|mm1 aH.lt Y.s).e s6).e sf).e sa).e sb).e sk).row 0 1 z)<|RM z z<|Rm z ?_
   obtain ⟨rz,c0,c1,bt⟩:=V_ bp;refine E z (fc call34 z<|bz.run c1 (zt' a1<|lt_ (lt_ (lt_ aQ sa.s) sb.s) sk.s) (b7.g<|((ht.e sa).e sb).e sk) bP a6 bZ) ?_;rintro _ ak ⟨a2,al,am,an,aT,ao,ap,aq,aU,rfl,c2,a3,a4,c3,ar,a5⟩;refine Rm z<|Re z z z<|Re z z z<|E z (fa E_) ?_
   rintro _ aV ⟨rfl,aW⟩;have hl:=aW.below;refine E0 (fs0 (cur':=[vI rz.number,sl al am an,sl ao ap aq]) b_ z z (aW.blk:Blk aV ak.z [vI 0,sl none 0 0,sl none 0 0]) z z z z) ?_;rintro _ aX ⟨c5,c6⟩;have hn:=c6.one;refine Rw z<|Wm z<|R z (lN (vs:=[vI rz.number,sl al am an,sl ao ap aq]) i_ b_ z z fid<|c5.row 0 3 z)<|E z (fS [(.tmp 81)] c_a z z z (a_J z) (lb z)<|lb z) ?_
   rintro _ aY ⟨rfl,aZ⟩;have hw:=aZ.below;have cj:=(a3.e hl).c hn<|ds<|mnr<|a_.lt a3
   have ck:=(a4.e hl).c hn<|ds<|mnr<|a_.lt a4
   have au:=lt_ (lt_ (lt_ (lt_ s6.s sf.s) sa.s) sb.s) sk.s;obtain ⟨c7,c8,bu⟩:=bdS bt;refine E z (b_i (α:=Val) c_a c8 z z (((((((hq.e sa).e sb).e sk).e a2).e hl).c hn<|ds<|mno (a_.lt V)<|lt_ au a2.s).e hw) ho (aZ.blk:Blk aY aX.z [vI rz.number,sl al am an,sl ao ap aq]) (e_0 (x:=rz) (S1:=aT) (S2:=aU) c2 (((a3.e hl).c hn<|ds<|mnr<|a_.lt a3).e hw)<|((a4.e hl).c hn<|ds<|mnr<|a_.lt a4).e hw) (aa_ (a_Y (al_ a5) (a_.lt V) au)<|a_Y (ar_ a5) (a_.lt V) au)<|na_ (nl_ ar) (nr_ ar)<|nj ar) ?_;rintro _ c9 ⟨b0,ca,cb,cc,rfl,cd,ce,cf,cg⟩;refine Rw z<|Wg<|Rm z<|Ra z<|Wl ?_
   have av:=lt_ (lt_ (lt_ (lt_ (lt_ sc.s s6.s) sf.s) sa.s) sb.s) sk.s;have b3:=lt_ av a2.s;have b4:∀k∈O,k∈[G.z]∨H.z<=k:=or1 hp (io sr)<|q_ lr;exact fun _ q=>⟨(c0,c7),(som bu).symm,⟨ca,cb,cc,b0,q.k<|s7 z z z z z z z,(cM (k_ (cM (k_ (k_ (k_ (k_ (k_ (k_ (k_ (cM (cr [G.z] H) sc (io sr):Chg (· ∈ [G.z]) H wx) s6:Chg (· ∈ [G.z]) H wr) sf:Chg (· ∈ [G.z]) H bL) sa:Chg (· ∈ [G.z]) H ws) sb:Chg (· ∈ [G.z]) H wv) sk:Chg (· ∈ [G.z]) H bY) a2:Chg (· ∈ [G.z]) H ak) hl:Chg (· ∈ [G.z]) H aV) hn (mor b3:∀k∈[ak.z],k∈[G.z]∨H.z<=k):Chg (· ∈ [G.z]) H aX) hw:Chg (· ∈ [G.z]) H aY) cd b4:Chg (· ∈ [G.z]) H c9),c3,ce,cf,(or2 cg b4 (aa_ (or0 (al_ a5) (q_ av):∀k∈aT,k∈[G.z]∨H.z<=k) (or0 (ar_ a5) (q_ av):∀k∈aU,k∈[G.z]∨H.z<=k)) (q_<|lt_ (lt_ (lt_ b3 hl.s) hn.s) hw.s):∀k∈b0,k∈[G.z]∨H.z<=k)⟩⟩
  exact We<|fun _ q=>b_F (som<|ifF ay a7).symm ⟨I,J,L,O,q.k<|s2 z z,(k_ (cM (cr [G.z] H) sc (io sr):Chg (· ∈ [G.z]) H wx) s6:Chg (· ∈ [G.z]) H wr),hu,V.e s6,ho,(or1 hp (io sr) (q_ lr):∀k∈O,k∈[G.z]∨H.z<=k)⟩
 ·rintro ⟨W,xm⟩ ch _ rfl ⟨I,J,L,O,_,ci,hu,V,ho,hp⟩;have bv:=elL ax;revert ch;refine Wo<|Wm z<|Rm z<|R z (add_ z z)<|Ra z<|Rw z ?_
  obtain rfl:=som<|a_t bv;have b5:=lt_ hh.s Y.s;have b6:=m1 b5;exact Wr<|F_ hr z z ⟨bM (bup (bup hh Y) sd) ci b6,I,J,L,O,z,V,iA _ _,ho,a_l hp b6<|lt_ b5 sd.s⟩
 rintro _ _ _ _ rfl ⟨rfl,bw⟩;have bx:=elR ax;obtain rfl:=som bx;exact ⟨bw,z⟩
theorem j_j:∀n,k_M n
  | 0=>⟨⟨fun hm=>by intros;exact nomatch (show none=some _ from hm)⟩,⟨fun hm=>by intros;exact nomatch (show none=some _ from hm)⟩⟩
  | n+1=>⟨T_w0b<|j_j n,T_w1r<|j_j n⟩
theorem W_w0b:k_K (b_Z n).spec_l10Read:=(j_j n).1
theorem W_w1r:k_L (b_Z n).spec_l10Items:=(j_j n).2
def Q17 (w0:World)(B:Zone)(r:Val×Bool)(v:Value)(w':World):Prop:=Bw w0 w'/\un2 (fun G V=>∃H I J S1 a2 L O S2,v = .tuple #[(.agg #[vI G.number,sl H I J,sl a2 L O]),vB V]/\inI G.number/\a_ w' S1 (sl H I J) G.bytes/\a_ w' S2 (sl a2 L O) G.items/\(S1++S2).Nodup/\(∀k∈(S1++S2),w0.z<=k)) r
theorem h_A {x1:c_}{x2:Int}{x3:Str}{res:Val×Bool}(hm:f_E n x1 x2 x3=some res)(W:B<=w0.z)(O:repS w0 B (sl A0 N0 C0) x1.rules)(V:inI x2)(a9:x3.b.length<=LEN):l_ prog 14 [(.agg #[sl A0 N0 C0]),vI x2,Str.v x3] w0 (Q17 w0 B res):=by
 unfold f_E at hm
 refine goG func14 z z z fun fn hr=>Ws<|E z (fb z) ?_
 rintro _ wm ⟨rfl,hu⟩;have h6:=hu.below;have hv:Blk wm w0.z [sl A0 N0 C0]:=hu.blk;refine E z (fa E_) ?_;rintro _ ad ⟨rfl,hw⟩;have J:=hw.below;have L:Blk ad wm.z [vI 0,sl none 0 0,sl none 0 0]:=hw.blk;refine Rw z<|Wq<|Ws ?_
 have hx:=hv.e J;refine R z (lN (vs:=[sl A0 N0 C0]) w_ v_ z z fid<|hx.row 0 1 z)<|Rm z ?_
 have hy:=(h6.ag B).e J;have hz:=lt_ h6.s J.s;obtain ⟨_,af,hms⟩:=bdS hm;refine E z (fc call33 z<|k_x af (zt' W hz) (O.g hy) V) ?_;rintro _ _ ⟨G,rfl⟩;refine R z (not_ z)<|Wx z (fun hcn=>?_) (fun hcn=>?_)
 ·refine Ws<|R z (bP (parts:=[]) (cs:=[vI 0,sl none 0 0,sl none 0 0]) P_ z z)<|E0 (fs0 (cur':=[vI 0,sl none 0 0,sl none 0 0]) b_ z z (L.e G) z z z z) ?_
  rintro _ _ ⟨ah,ai⟩;refine Rw z ?_
  obtain rfl:=som<|ifT hms hcn;exact Wr<|F_ hr (u_ i_ b_ z ah z) z ⟨bM (bup (bup h6 J) G) ai.one<|m1 h6.s,none,0,0,[],none,0,0,[],z,ii z,onL,onL,nd0,al0⟩
 refine Wk<|Ws ?_
 have a2:=hx.e G;refine R z (lN (vs:=[sl A0 N0 C0]) w_ v_ z z fid<|a2.row 0 1 z)<|RM z z ?_
 have a3:=hy.e G;have ha:=lt_ hz G.s;obtain ⟨rj,aj,ak,aa⟩:=V_<|ifF hms hcn;refine E z (fc call34 z<|W_w0b.run ak (zt' W ha) (O.g a3) V a9<|ii z) ?_;rintro _ wk ⟨s1,ab,nc,cd,al,ae,nf,cg,am,rfl,a4,hh,hi,_,ho,hl⟩;refine Rm z<|Re z z z<|Re z z z<|E z (fa E_) ?_
 rintro _ an ⟨rfl,a5⟩;have h3:=a5.below;refine E0 (fs0 (cur':=[vI rj.number,sl ab nc cd,sl ae nf cg]) b_ z z (a5.blk:Blk an wk.z [vI 0,sl none 0 0,sl none 0 0]) z z z z) ?_;rintro _ wp ⟨a6,ao⟩;have h4:=ao.one;refine Rw z<|Wq<|Wq ?_
 obtain ⟨ap,Y,a0⟩:=bdS aa;refine Wt (fun a w=>∃(xq:Bool),xq=ap/\Sat 40 [(6,pt wm.z),(8,pt wk.z),(37,vB xq)] a/\Below wp.z wp w) ?_ ?_
 ·refine Wg<|RM z z<|R z (lnT d_9 z)<|R z (nq z z)<|Rm z ?_
  rcases bs (aj != (x3.b.length:Int)) with H | H
  ·iterate 6 refine Nh z H ?_
   exact R z (pT z H z)<|Rm z<|Nh z z<|Nh z z<|R z (pT z z z)<|Wl (fun _ q=>⟨true,som<|ifT Y H,q.k<|s3 z z z,br wp⟩)
  refine Rh z H (lN (vs:=[sl A0 N0 C0]) w_ v_ z z fid<|(((a2.e s1).e h3).c h4<|djs<|mm1 hv.lt<|lt_ (lt_ J.s G.s) s1.s).row 0 1 z)<|Rh z H (mv z)<|Rh z H (lN (vs:=[vI rj.number,sl ab nc cd,sl ae nf cg]) i_ b_ z z fid<|a6.row 0 3 z) ?_
  have a7:=zt' W<|lt_ ha s1.s
  obtain ⟨aq,ar,a1⟩:=bdS<|ifF Y H;refine Eg z z H z (fc call16 z<|h_z (B:=wk.z) ar (M_<|lt_ h3.s h4.s) (repS.mono (O.g<|((a3.e s1).e h3).c h4<|e_ (or0 (d_ lr) (p_ a7):∀k∈[wk.z],¬B k)) a7) V a4 (or_ ((hh.e h3).c h4<|ds<|mnr<|a_.lt hh)<|a_.lt hh)<|or_ ((hi.e h3).c h4<|ds<|mnr<|a_.lt hi)<|a_.lt hi) ?_;rintro _ _ ⟨a8,rfl,_⟩;refine Rh z H (mv z)<|Rh z H (g_q z z)<|R z (pF z H z)<|Rm z ?_
  rcases bs (aq.b != x3.b) with I | I
  ·exact Nh z I<|Nh z I<|R z (pT z I z)<|Wl (fun _ q=>⟨true,som<|ifT a1 I,q.k<|s3 z z z,a8⟩)
  exact Rh z I (mv z)<|Rh z I (e_l z z)<|R z (pF z I z)<|Wl (fun _ q=>⟨x3.b==(⟨[]⟩:Str).b,som<|ifF a1 I,q.k<|s3 z z z,a8⟩)
 rintro au _ ⟨xq,rfl,_,s9⟩;revert au;refine Wo<|Wc z (fun hcr=>?_) (fun hcr=>?_)
 ·refine Ws<|R z (bP (parts:=[]) (cs:=[vI 0,sl none 0 0,sl none 0 0]) P_ z z)<|E0 (fs0 (cur':=[vI 0,sl none 0 0,sl none 0 0]) b_ z z (((((L.e G).e s1).e h3).c h4<|djs<|mm1 L.lt<|lt_ G.s s1.s).e s9) z z z z) ?_
  rintro _ _ ⟨av,aw⟩;refine Rw z ?_
  obtain rfl:=som<|ifT a0 hcr;exact Wr<|F_ hr (u_ i_ b_ z av z) z ⟨bM (bup (bM (bup (bup (bup (bup h6 J) G) s1) h3) h4<|m1<|lt_ ha s1.s) s9) aw.one<|m1 h6.s,none,0,0,[],none,0,0,[],z,ii z,onL,onL,nd0,al0⟩
 refine Wk<|Ws<|R z (lN (vs:=[vI rj.number,sl ab nc cd,sl ae nf cg]) i_ b_ z z fid<|(a6.e s9).row 0 3 z)<|E0 (fs0 (cur':=[vI rj.number,sl ab nc cd,sl ae nf cg]) b_ z z (((((L.e G).e s1).e h3).c h4<|djs<|mm1 L.lt<|lt_ G.s s1.s).e s9) z z z z) ?_
 rintro _ _ ⟨ax,ay⟩;have ht:=ay.one;refine Rw z ?_
 obtain rfl:=som<|ifF a0 hcr;exact Wr<|F_ hr (u_ i_ b_ z ax z) z ⟨bM (bup (bM (bup (bup (bup (bup h6 J) G) s1) h3) h4<|m1<|lt_ ha s1.s) s9) ht<|m1 h6.s,ab,nc,cd,al,ae,nf,cg,am,z,a4,(((hh.e h3).c h4<|ds<|mnr<|a_.lt hh).e s9).c ht<|h_ (al_ hl) L.lt G.s,(((hi.e h3).c h4<|ds<|mnr<|a_.lt hi).e s9).c ht<|h_ (ar_ hl) L.lt G.s,na_ (nl_ ho) (nr_ ho)<|nj ho,aa_ (j_ (al_ hl) ha)<|j_ (ar_ hl) ha⟩
theorem W_w1s {x1:List UInt8}{x2:List UInt8}{res:Bool}(hm:d_e x1 x2=some res)(a0:B<=w0.z)(G:repS w0 B (sl A0 N0 C0) x1)(L:repS w0 B (sl A6 N6 C6) x2):l_ prog 37 [sl A0 N0 C0,sl A6 N6 C6] w0 (Q7 w0 B res):=by
 unfold d_e at hm
 refine goG func37 z z z fun fn hr=>Ws<|Rw z<|Wq<|Wm z<|R z (lnR n_ z G)<|Rm z<|R z (lnR n_ z L)<|R z (nq z z)<|Wx z (fun I=>?_) (fun I=>?_)
 ·refine Ws<|Rw z ?_
  obtain rfl:=som<|ifT hm I;exact Wr<|f_ hr z ⟨br w0,z⟩
 refine Wk<|Wq<|Ws<|Rw z ?_
 obtain ⟨_,hua,O⟩:=bdS<|ifF hm I;refine Wf (σ:=Unit) (ρ:=Bool) (fun (k5:Nat)(_:Unit) a w=>Sat 26 [(0,sl A0 N0 C0),(1,sl A6 N6 C6),(5,vI ((k5:Nat):Int))] a/\Below w0.z w0 w) (fun (_:Unit) a w=>Sat 26 [] a/\Below w0.z w0 w) (rQ prog fn<|Q7 w0 B) hua ?_ ?_ ?_ ?_ ?_
 ·exact fun _ q=>⟨q.k<|s3 z z z,br w0⟩
 ·rintro k5 _ _ _ _ V ⟨hSb,H⟩ hmc;refine Wu ?_ hSb;refine Wq<|Wm z<|Rm z<|R z (lnR n_ z<|G.e H)<|Rl z z z<|Wx z (fun _=>?_) (fun hc=>(a_0 V hc).elim)
  refine Wk<|Wq<|Wb<|Wq (Wd (X:=noX) 0 (pl_ 9 []) mo (by kernel_rfl) fun wu s2 _=>dM z z z<|dM z z z ?_)
  obtain ⟨_,ed,hme⟩:=bdS hmc;have Y:=(H.ag B).e s2;refine dRX z z (at_ (α:=UInt8) n_ z_5 z z z (G.g Y) ed) ?_;rintro _ ⟨_,_,_,rfl,hf,hg,_⟩;obtain rfl:=u8 hg;refine dR z z (l0 g_5 z<|hf.at0 z)<|dM z z z<|dM z z z ?_
  obtain ⟨_,eh,W⟩:=bdS hme;refine dRX z z (at_ (α:=UInt8) n_ z_5 z z z (L.g Y) eh) ?_;rintro _ ⟨_,_,_,rfl,hi,hj,_⟩;obtain rfl:=u8 hj;refine dR z z (l0 g_5 z<|hi.at0 z)<|dR z z (nq z z)<|pD<|Wo<|Wc z (fun J=>?_) (fun J=>?_)
  ·exact Ws<|Rw z<|Wr<|rtO<|qL (som<|ifT W J).symm<|f_ hr z ⟨bup H s2,z⟩
  exact Wk<|Wg<|Rm z<|R z (inc_ V (lt_ (repS.len G) G_) z z)<|Ra z<|Wl (fun _ q=>⟨(),(som<|ifF W J).symm,⟨q.k<|s3 z z z,bup H s2⟩⟩)
 ·rintro _ _ _ ⟨hSk,s9⟩;refine Wu ?_ hSk;refine Wq<|Wm z<|Rm z<|R z (lnR n_ z<|G.e s9)<|Rl z z z<|Wx z (fun hc=>(a_1 hc).elim) (fun _=>?_)
  exact We<|fun _ q=>⟨rfl,⟨q.k sn,s9⟩⟩
 ·rintro _ al _ rfl ⟨_,sm⟩;have hmn:=elL O;revert al;refine Wo<|Ws<|Rw z ?_
  obtain rfl:=som hmn;exact Wr<|f_ hr z ⟨sm,z⟩
 rintro _ _ _ _ rfl ⟨rfl,hqo⟩;have hmp:=elR O;obtain rfl:=som hmp;exact ⟨hqo,z⟩
structure k_N (f:Val->Val->Option Bool):Prop where
  run:∀{A8 AG AA AF:Option Addr}{N8 C8 NG CG NA CA NF CF:Nat}{B:Zone}{x1:Val}{x2:Val}{res:Bool}{w0:World}(hm:f x1 x2=some res)(hBw:B<=w0.z)(p1_0:inI x1.number)(p1_1:repS w0 B (sl A8 N8 C8) x1.bytes)(p1_2:repS w0 B (sl AG NG CG) x1.items)(p2_0:inI x2.number)(p2_1:repS w0 B (sl AA NA CA) x2.bytes)(p2_2:repS w0 B (sl AF NF CF) x2.items),l_ prog 19 [(.agg #[vI x1.number,sl A8 N8 C8,sl AG NG CG]),(.agg #[vI x2.number,sl AA NA CA,sl AF NF CF])] w0<|Q7 w0 B res
abbrev n_s (n:Nat):Prop:=k_N (c_m n).spec_EqualValues
theorem T_w0g (a9:n_s n):k_N (c_d n<|c_m n):=by
 constructor
 intro A8 AG AA AF N8 C8 NG CG NA CA NF CF B x1 x2 res w0 hm V aI W I aJ Y O;unfold c_d at hm
 refine goG func19 z z z fun fn hr=>Ws<|E z (fb z) ?_
 rintro _ L ⟨rfl,hj⟩;have h3:=hj.below;have hd:Blk L w0.z [vI x1.number,sl A8 N8 C8,sl AG NG CG]:=hj.blk;refine E z (fb z) ?_;rintro _ wa ⟨rfl,hk⟩;have h2:=hk.below;have hb:Blk wa L.z [vI x2.number,sl AA NA CA,sl AF NF CF]:=hk.blk;refine Rw z<|Wq<|Wq ?_
 obtain ⟨ux,hul,hmm⟩:=bdS hm;refine Wt (fun a w=>∃(xc:Bool),xc=ux/\Sat 47 [(2,pt w0.z),(3,pt L.z),(27,vB xc)] a/\Below wa.z wa w) ?_ ?_
 ·refine Wg<|Rf z a_F z ?_
  have he:=hd.e h2;refine R z (l0 g_3 z<|he.at z)<|Rf z a_F z<|R z (l0 g_3 z<|hb.at z)<|R z (nq z z)<|Rm z ?_
  rcases bs (x1.number != x2.number) with H | H
  ·iterate 6 refine Nh z H ?_
   exact R z (pT z H z)<|Rm z<|Nh z z<|Nh z z<|Nh z z<|Nh z z<|Nh z z<|Nh z z<|Nh z z<|R z (pT z z z)<|Wl (fun _ q=>⟨true,som<|ifT hul H,q.k<|s3 z z z,br wa⟩)
  refine Rh z H (fd a_B z)<|Rh z H (l0 J_ z<|he.at z)<|Rh z H (fd a_B z)<|Rh z H (l0 J_ z<|hb.at z) ?_
  have hf:=(h3.ag B).e h2;obtain ⟨ry,ez,hmn⟩:=bdS<|ifF hul H;refine Eg z z H z (fc call37 z<|W_w1s ez (zt' V<|lt_ h3.s h2.s) (W.g hf)<|Y.g hf) ?_;rintro _ _ ⟨s7,rfl⟩;refine Rh z H (not_ z)<|R z (pF z H z)<|Rm z ?_
  rcases bs (!ry) with G | G
  ·iterate 7 refine Nh z G ?_
   exact R z (pT z G z)<|Wl (fun _ q=>⟨true,som<|ifT hmn G,q.k<|s3 z z z,s7⟩)
  refine Rh z G (fd Q_ z)<|Rh z G (l0 X_ z<|(he.e s7).at z) ?_
  have ho:=hf.e s7;exact Rh z G (lnR Y_ z<|I.g ho)<|Rh z G (fd Q_ z)<|Rh z G (l0 X_ z<|(hb.e s7).at z)<|Rh z G (lnR Y_ z<|O.g ho)<|Rh z G (nq z z)<|R z (pF z G z)<|Wl (fun _ q=>⟨(x1.items.length:Int) != (x2.items.length:Int),som<|ifF hmn G,q.k<|s3 z z z,s7⟩)
 rintro aa J ⟨xc,rfl,_,s4⟩;revert aa;refine Wo<|Wc z (fun hcg=>?_) (fun hcg=>?_)
 ·refine Ws<|Rw z ?_
  obtain rfl:=som<|ifT hmm hcg;exact Wr<|f_ hr z ⟨bup (bup h3 h2) s4,z⟩
 refine Wk<|Wq<|Ws<|Rw z ?_
 obtain ⟨_,a0,hmp⟩:=bdS<|ifF hmm hcg;refine Wf (σ:=Unit) (ρ:=Bool) (fun (kq:Nat)(_:Unit) a w=>Sat 47 [(2,pt w0.z),(3,pt L.z),(5,vI ((kq:Nat):Int))] a/\Below J.z J w) (fun (_:Unit) a w=>Sat 47 [] a/\Below J.z J w) (rQ prog fn<|Q7 w0 B) a0 ?_ ?_ ?_ ?_ ?_
 ·exact fun _ q=>⟨q.k<|s3 z z z,br J⟩
 ·rintro kq _ _ _ _ hkr ⟨a1,s5⟩ a2;refine Wu ?_ a1;refine Wq<|Wm z<|Rf z Q_ z ?_
  have ht:=((hd.e h2).e s4).e s5;refine R z (l0 X_ z<|ht.at z) ?_;have hu:=(((h3.ag B).e h2).e s4).e s5;refine R z (lnR Y_ z<|I.g hu)<|Rl z z z<|Wx z (fun _=>?_) (fun hc=>(a_0 hkr hc).elim)
  refine Wk<|Wq<|Wb<|Wq (Wd (X:=noX) 0 (pl_ 12 [10]) mo (by kernel_rfl) fun aK s6 _=>dR z z (fd Q_ z)<|dR z z (l0 X_ z<|(ht.e s6).at z)<|dM z z z ?_)
  obtain ⟨ab,ad,a3⟩:=bdS a2;have hv:=hu.e s6;refine dRX z z (at_ (α:=Val) Y_ b_ z z z (I.g hv) ad) ?_;rintro _ ⟨_,_,_,rfl,ae,af,_⟩;obtain ⟨ah,ai,aj,ak,al,am,rfl,an,ao,ap⟩:=d_f af;refine dR z z (lN (vs:=[vI ab.number,sl ah ai aj,sl ak al am]) i_ b_ z z fid ae)<|dR z z (fd Q_ z)<|dR z z (l0 X_ z<|(((hb.e s4).e s5).e s6).at z)<|dM z z z ?_
  obtain ⟨aq,ar,a4⟩:=bdS a3;refine dRX z z (at_ (α:=Val) Y_ b_ z z z (O.g hv) ar) ?_;rintro _ ⟨_,_,_,rfl,au,av,_⟩;obtain ⟨aw,ax,ay,az,aA,aB,rfl,aC,aD,aE⟩:=d_f av;refine dR z z (lN (vs:=[vI aq.number,sl aw ax ay,sl az aA aB]) i_ b_ z z fid au) ?_;obtain ⟨_,aF,hms⟩:=bdS a4;refine dE z z (fc call19 z<|a9.run aF (zt' V<|lt_ (lt_ (lt_ (lt_ h3.s h2.s) s4.s) s5.s) s6.s) an ao ap aC aD aE) (.inr fun _ _ h=>o_<|h.1) ?_;rintro _ _ ⟨sw,rfl⟩;refine dR z z (not_ z)<|pD<|Wo<|Wc z (fun hch=>?_) (fun hch=>?_)
  ·exact Ws<|Rw z<|Wr<|rtO<|qL (som<|ifT hms hch).symm<|f_ hr z ⟨bup (bup (bup (bup (bup h3 h2) s4) s5) s6) sw,z⟩
  exact Wk<|Wg<|Rm z<|R z (inc_ hkr (lt_ (repS.len I) G_) z z)<|Ra z<|Wl (fun _ q=>⟨(),(som<|ifF hms hch).symm,⟨q.k<|s3 z z z,bup (bup s5 s6) sw⟩⟩)
 ·rintro _ _ _ ⟨a5,si⟩;refine Wu ?_ a5;refine Wq<|Wm z<|Rf z Q_ z<|R z (l0 X_ z<|(((hd.e h2).e s4).e si).at z)<|R z (lnR Y_ z<|I.g<|(((h3.ag B).e h2).e s4).e si)<|Rl z z z<|Wx z (fun hc=>(a_1 hc).elim) (fun _=>?_)
  exact We<|fun _ q=>⟨rfl,⟨q.k sn,si⟩⟩
 ·rintro _ aG _ rfl ⟨_,aH⟩;have a6:=elL hmp;revert aG;refine Wo<|Ws<|Rw z ?_
  obtain rfl:=som a6;exact Wr<|f_ hr z ⟨bup (bup (bup h3 h2) s4) aH,z⟩
 rintro _ _ _ _ rfl ⟨rfl,a7⟩;have a8:=elR hmp;obtain rfl:=som a8;exact ⟨a7,z⟩
theorem A_w0g:∀n,n_s n
  | 0=>⟨fun hm=>by intros;exact nomatch (show none=some _ from hm)⟩
  | n+1=>T_w0g<|A_w0g n
theorem W_w0g:k_N (c_m n).spec_EqualValues:=A_w0g n
theorem W_w37 {x1:c_}{x2:List UInt8}{x3:List UInt8}{res:Bool}(hm:f_F n x1 x2 x3=some res)(L:B<=w0.z)(O:repS w0 B (sl A0 N0 C0) x1.rules)(a3:repS w0 B (sl A6 N6 C6) x2)(a4:repS w0 B (sl A9 N9 C9) x3):l_ prog 17 [(.agg #[sl A0 N0 C0]),sl A6 N6 C6,sl A9 N9 C9] w0 (Q7 w0 B res):=by
 unfold f_F at hm
 refine goG func17 z z z fun fn hr=>Ws<|E z (fb z) ?_
 rintro _ a9 ⟨rfl,hi⟩;have I:=hi.below;have hd:Blk a9 w0.z [sl A0 N0 C0]:=hi.blk;refine Rw z<|Ws<|R z (lN (vs:=[sl A0 N0 C0]) w_ v_ z z fid<|hd.row 0 1 z)<|Rm z ?_
 obtain ⟨rj,_,aa,ab,a5⟩:=O_ hm;refine E z (fc call12 z<|j_f ab (zt' L I.s) (O.e I)<|a3.e I) ?_;rintro _ wk ⟨s8,al,nm,cn,_,ao,np,cq,_,rfl,ad,J,ha,_,_,_,_⟩;refine Rm z ?_
 iterate 3 refine Re z z z ?_
 refine E z (fa E_) ?_;rintro _ ae ⟨rfl,ht⟩;have h3:=ht.below;have hu:Blk ae wk.z [vI 0,sl none 0 0,sl none 0 0]:=ht.blk;refine E0 (fs0 (cur':=[vI rj.number,sl al nm cn,sl ao np cq]) b_ z z hu z z z z) ?_;rintro _ _ ⟨af,ah⟩;have h2:=ah.one;refine Ra z<|Rw z<|Ws<|R z (lN (vs:=[sl A0 N0 C0]) w_ v_ z z fid<|(((hd.e s8).e h3).c h2<|djs<|mm1 hd.lt s8.s).row 0 1 z)<|Rm z ?_
 have he:=lt_ I.s s8.s;have hv:=(((I.ag B).e s8).e h3).c h2<|e_ (or0 (d_ lr) (p_<|zt' L he):∀k∈[wk.z],¬B k)
 have hw:=lt_ (lt_ he h3.s) h2.s;obtain ⟨rr,_,ai,aj,a6⟩:=O_ a5;refine E z (fc call12 z<|j_f aj (zt' L hw) (O.g hv)<|a4.g hv) ?_;rintro _ ws ⟨s4,ax,ny,cz,_,Y,a0,a1,_,rfl,ak,hf,hg,_,_,_,_⟩;refine Rm z ?_
 iterate 3 refine Re z z z ?_
 refine E z (fa E_) ?_;rintro _ am ⟨rfl,a2⟩;have h5:=a2.below;refine E0 (fs0 (cur':=[vI rr.number,sl ax ny cz,sl Y a0 a1]) b_ z z (a2.blk:Blk am ws.z [vI 0,sl none 0 0,sl none 0 0]) z z z z) ?_;rintro _ wb ⟨an,ap⟩;have h6:=ap.one;refine Ra z<|Rw z<|Wq ?_
 obtain ⟨aq,V,a7⟩:=bdS a6;refine Wt (fun a w=>∃(xh:Bool),xh=aq/\Sat 38 [(6,vB xh)] a/\Below wb.z wb w) ?_ ?_
 ·refine Wg<|Rm z<|Rq z z z<|Rm z ?_
  rcases bs (aa==0) with G | G
  ·have W:=ifT V G;refine Rh z G (mv z)<|Rh z G (eql z z)<|R z (pT z G z)<|Rm z ?_
   rcases bs (ai==0) with H | H
   ·refine Rh z H (lN (vs:=[vI rj.number,sl al nm cn,sl ao np cq]) i_ b_ z z fid<|(((af.e s4).e h5).c h6<|djs<|mm1 hu.lt<|lt_ h2.s s4.s).row 0 3 z)<|Rh z H (lN (vs:=[vI rr.number,sl ax ny cz,sl Y a0 a1]) i_ b_ z z fid<|an.row 0 3 z) ?_
    have hc:=lt_ (lt_ h3.s h2.s) s4.s;obtain ⟨ar,au,a8⟩:=bdS<|ifT W H;refine Eg z z H z (fc call19 z<|W_w0g.run (B:=ws.z) au (M_<|lt_ h5.s h6.s) ad (repS.mono (or_ (((((J.e h3).c h2<|ds<|mnr<|a_.lt J).e s4).e h5).c h6<|ds<|mno (a_.lt J) hc)<|a_.lt J)<|M_ hc) (repS.mono (or_ (((((ha.e h3).c h2<|ds<|mnr<|a_.lt ha).e s4).e h5).c h6<|ds<|mno (a_.lt ha) hc)<|a_.lt ha)<|M_ hc) ak (or_ ((hf.e h5).c h6<|ds<|mnr<|a_.lt hf)<|a_.lt hf)<|or_ ((hg.e h5).c h6<|ds<|mnr<|a_.lt hg)<|a_.lt hg) ?_;rintro _ _ ⟨av,rfl⟩;exact R z (pT z H z)<|Ra z<|Wl (fun _ q=>⟨ar,som a8,q.k<|s1 z,av⟩)
   iterate 3 refine Nh z H ?_
   exact R z (pF z H z)<|Ra z<|Wl (fun _ q=>⟨false,som<|ifF W H,q.k<|s1 z,br wb⟩)
  exact Nh z G<|Nh z G<|R z (pF z G z)<|Rm z<|Nh z z<|Nh z z<|Nh z z<|R z (pF z z z)<|Ra z<|Wl (fun _ q=>⟨false,som<|ifF V G,q.k<|s1 z,br wb⟩)
 rintro aw _ ⟨xh,rfl,_,ay⟩;revert aw;refine Wo ?_;obtain rfl:=som a7;exact Wr<|f_ hr z ⟨bup (bM (bup (bup (bM (bup (bup I s8) h3) h2<|m1 he) s4) h5) h6<|m1<|lt_ hw s4.s) ay,z⟩
theorem W_w38 {x1:c_}{x2:List UInt8}{res:Bool}(hm:f_G n x1 x2=some res)(J:B<=w0.z)(O:repS w0 B (sl A0 N0 C0) x1.rules)(I:repS w0 B (sl A6 N6 C6) x2):l_ prog 18 [(.agg #[sl A0 N0 C0]),sl A6 N6 C6] w0 (Q7 w0 B res):=by
 unfold f_G at hm
 refine goG func18 z z z fun fn hr=>Ws<|E z (fb z) ?_
 rintro _ V ⟨rfl,h5⟩;have h1:=h5.below;refine Rw z<|Ws<|R z (lN (vs:=[sl A0 N0 C0]) w_ v_ z z fid<|(h5.blk:Blk V w0.z [sl A0 N0 C0]).row 0 1 z)<|Rm z ?_
 obtain ⟨_,W,ea,hmb⟩:=V_ hm;refine E z (fc call13 z<|W_w1m ea (zt' J h1.s) (O.e h1)<|I.e h1) ?_;rintro _ H ⟨s3,_,_,_,_,rfl,hc,_,_⟩;refine Rm z<|Re z z z<|Re z z z<|Ra z<|Rw z<|Wq ?_
 obtain ⟨ud,L,hme⟩:=bdS hmb;refine Wt (fun a w=>∃(x4:Bool),x4=ud/\Sat 19 [(4,vB x4)] a/\Below H.z H w) ?_ ?_
 ·refine Wg<|RM z z ?_
  rcases bs W with G | G
  ·refine Rh z G (mv z)<|Rh z G (mv z) ?_
   obtain ⟨rf,eg,hmh⟩:=bdS<|ifT L G;refine Eg z z G z (fc call37 z<|W_w1s (B:=H.z) eg zr (a_.rep hc)<|repS.mono (I.g<|(h1.ag B).e s3)<|zt' J<|lt_ h1.s s3.s) ?_;rintro _ _ ⟨si,rfl⟩;exact R z (pT z G z)<|Ra z<|Wl (fun _ q=>⟨rf,som hmh,q.k<|s1 z,si⟩)
  iterate 3 refine Nh z G ?_
  exact R z (pF z G z)<|Ra z<|Wl (fun _ q=>⟨false,som<|ifF L G,q.k<|s1 z,br H⟩)
 rintro aj _ ⟨x4,rfl,_,sk⟩;revert aj;refine Wo ?_;obtain rfl:=som hme;exact Wr<|f_ hr z ⟨bup (bup h1 s3) sk,z⟩
theorem W_w39 {x1:c_}{x2:List UInt8}{res:Bool}(hm:f_H n x1 x2=some res)(J:B<=w0.z)(H:repS w0 B (sl A0 N0 C0) x1.rules)(al:repS w0 B (sl A6 N6 C6) x2):l_ prog 5 [(.agg #[sl A0 N0 C0]),sl A6 N6 C6] w0 (Q7 w0 B res):=by
 unfold f_H at hm
 refine goG func5 z z z fun fn hr=>Ws<|E z (fb z) ?_
 rintro _ cY ⟨rfl,bc⟩;have hh:=bc.below;have L:Blk cY w0.z [sl A0 N0 C0]:=bc.blk;refine Rw z<|Ws<|R z (lN (vs:=[sl A0 N0 C0]) w_ v_ z z fid<|L.row 0 1 z)<|Rm z ?_
 obtain ⟨an,_,_,cZ,b3⟩:=O_ hm;refine E z (fc call12 z<|j_f cZ (zt' J hh.s) (H.e hh)<|al.e hh) ?_;rintro _ wl ⟨si,ao,ap,aq,_,ar,au,av,_,rfl,hx,h6,I,_,_,_,_⟩;refine Rm z ?_
 iterate 3 refine Re z z z ?_
 refine E z (fa E_) ?_;rintro _ d0 ⟨rfl,be⟩;have h3:=be.below;have bf:Blk d0 wl.z [vI 0,sl none 0 0,sl none 0 0]:=be.blk;refine E0 (fs0 (cur':=[vI an.number,sl ao ap aq,sl ar au av]) b_ z z bf z z z z) ?_;rintro _ _ ⟨bg,d1⟩;have h1:=d1.one;refine Ra z<|Rw z<|Wq<|Wm z<|R z (nq z z)<|Wx z (fun am=>?_) (fun am=>?_)
 ·refine Ws<|Rw z ?_
  obtain rfl:=som<|ifT b3 am;exact Wr<|f_ hr z ⟨bM (bup (bup hh si) h3) h1<|m1<|lt_ hh.s si.s,z⟩
 refine Wk<|Ws ?_
 have aw:=((L.e si).e h3).c h1<|djs<|mm1 L.lt si.s
 refine R z (lN (vs:=[sl A0 N0 C0]) w_ v_ z z fid<|aw.row 0 1 z)<|Rm z ?_
 have ax:=lt_ hh.s si.s;have hy:=zt' J ax;have hz:=(((hh.ag B).e si).e h3).c h1<|e_ (or0 (d_ lr) (p_ hy):∀k∈[wl.z],¬B k)
 have O:=lt_ (lt_ ax h3.s) h1.s;obtain ⟨_,bh,d2,cJ⟩:=V_<|ifF b3 am;refine E z (fc call13 z<|W_w1m d2 (zt' J O) (H.g hz)<|al.g hz) ?_;rintro _ wj ⟨s2,d3,d4,d5,_,rfl,ay,_,_⟩;refine Rm z<|Re z z z<|Re z z z<|Ra z<|Rw z<|Wq ?_
 obtain ⟨d6,b4,cK⟩:=bdS cJ;refine Wt (fun a w=>∃(xr:Int)(V:List UInt8)(W:List Val)(Y:Bool),(xr,V,W,Y)=d6/\∃a0 a1 a2 Ss a3 a4 a5 St gu,Sat 59 [(1,sl A6 N6 C6),(2,pt w0.z),(5,pt wl.z),(8,sl d3 d4 d5),(9,vB bh),(10,pt gu),(11,vB Y)] a/\Below wj.z wj w/\inI xr/\a_ w Ss (sl a0 a1 a2) V/\Ss.Nodup/\(∀k∈Ss,wj.z<=k)/\a_ w St (sl a3 a4 a5) W/\St.Nodup/\(∀k∈St,wj.z<=k)/\(∀k∈St,k∉Ss)/\Blk w gu [vI xr,sl a0 a1 a2,sl a3 a4 a5]/\wj.z<=gu/\(∀k∈Ss,k∉[gu])/\(∀k∈St,k∉[gu])) ?_ ?_
 ·refine Wd (X:=fun k=>k∈([]:List Nat)∨wj.z<=k) 0 (.rd 0<|.rd 1<|.rd 3<|.rd 4<|.rd 6<|.br 2 (.br 5 (.br 7 (.br 8 (.rd 9<|.rd 10<|.rd 11<|.ef 12<|.ef 13<|.rd 14 .done) 12<|.ef 8<|.rd 9<|.rd 10<|.rd 11<|.ef 13<|.rd 14 .done) 12<|.ef 7<|.ef 8<|.rd 9<|.rd 10<|.rd 11<|.ef 13<|.rd 14 .done) 12<|.ef 5<|.ef 7<|.ef 8<|.rd 9<|.rd 10<|.rd 11<|.ef 13<|.rd 14 .done) 12<|.ef 2<|.ef 5<|.ef 7<|.ef 8<|.rd 9<|.rd 10<|.rd 11<|.ef 13<|.rd 14 .done) mo (by kernel_rfl) fun bi G _=>?_
  iterate 4 refine dR z z (lN (vs:=[sl A0 N0 C0]) w_ v_ z z (b_t nm0<|Nat.lt_of_lt_of_le L.lt (lt_ (lt_ (lt_ si.s h3.s) h1.s) s2.s))<|((aw.e s2).e G).row 0 1 z) ?_
  refine dR z z (lN (vs:=[vI an.number,sl ao ap aq,sl ar au av]) i_ b_ z z (b_t nm0<|Nat.lt_of_lt_of_le bf.lt<|lt_ h1.s s2.s)<|((bg.e s2).e G).row 0 3 z)<|b_x ?_ ?_
  ·have az:=(hz.e s2).e G;have aA:=lt_ (lt_ O s2.s) G.s;obtain ⟨_,d7,b5⟩:=bdS b4;refine dE z z (fc call15 z<|e_4 d7 (zt' J aA)<|H.g az) (.inr fun _ _ h=>o_<|h.1) ?_;rintro _ bj ⟨s4,rfl,a6⟩;refine b_x ?_ ?_
   ·have aB:=az.e s4;have a7:=lt_ aA s4.s;obtain ⟨_,d8,b6⟩:=bdS b5;refine dE z z (fc call15 z<|e_4 d8 (zt' J a7)<|H.g aB) (.inr fun _ _ h=>o_<|h.1) ?_;rintro _ bk ⟨s5,rfl,bm⟩;refine b_x ?_ ?_
    ·have aC:=aB.e s5;obtain ⟨_,d9,b7⟩:=bdS b6;refine dE z z (fc call16 z<|h_z (B:=wl.z) d9 (M_<|lt_ (lt_ (lt_ (lt_ (lt_ h3.s h1.s) s2.s) G.s) s4.s) s5.s) (repS.mono (H.g aC) hy) bm hx (or_ ((((((h6.e h3).c h1<|ds<|mnr<|a_.lt h6).e s2).e G).e s4).e s5)<|a_.lt h6)<|or_ ((((((I.e h3).c h1<|ds<|mnr<|a_.lt I).e s2).e G).e s4).e s5)<|a_.lt I) (.inr fun _ _ h=>o_<|h.1) ?_;rintro _ bn ⟨sk,rfl,bo⟩;refine b_x ?_ ?_
     ·obtain ⟨a8,da,db,cL⟩:=V_ b7;refine dE z z (fc call14 z<|h_A db (zt' J<|lt_ (lt_ a7 s5.s) sk.s) (H.g<|aC.e sk) a6 bo) (.inr fun _ _ h=>o_<|h.1) ?_;rintro _ bp ⟨bq,bt,bu,bv,dc,bw,bx,bz,dd,rfl,de,bA,bB,aD,bC⟩;refine dM z z z<|dR z z (ext_ z z)<|dR z z (ext_ z z)<|dE z z (fa E_) (.inr fun _ _ h=>o_<|h.2.below) ?_
      rintro _ df ⟨rfl,bD⟩;have aE:=bD.below;have aF:=lt_ (lt_ (lt_ G.s s4.s) s5.s) sk.s;have aG:=m1<|lt_ aF bq.s
      refine dE0 z (fs0 (cur':=[vI a8.number,sl bt bu bv,sl bw bx bz]) b_ z z (bD.blk:Blk df bp.z [vI 0,sl none 0 0,sl none 0 0]) z z z z) (.inr fun _ _ h=>b_1 (atp aG) h.2) ?_;rintro _ _ ⟨dg,dh⟩;have aH:=dh.one;refine dQ z z z<|pD ?_
      have bE:=mnr<|a_.lt bA
      have bF:=mnr<|a_.lt bB
      exact fun _ q=>⟨a8.number,a8.bytes,a8.items,da,som cL,bt,bu,bv,dc,bw,bx,bz,dd,bp.z,q.k<|s7 z z z z z z z,bM (bup (bup (bup (bup (bup G s4) s5) sk) bq) aE) aH aG,de,(bA.e aE).c aH<|ds bE,nl_ aD,j_ (al_ bC) aF,(bB.e aE).c aH<|ds bF,nr_ aD,j_ (ar_ bC) aF,ds<|nj aD,dg,atp aG,ds bE,ds bF⟩
     refine dE z z (fa E_) (.inr fun _ _ h=>o_<|h.2.below) ?_;rintro _ di ⟨rfl,bG⟩;have a9:=bG.below;have aI:Blk di bn.z [vI 0,sl none 0 0,sl none 0 0]:=bG.blk;obtain ⟨aa,dj,dk,cM⟩:=V_ b7;refine dE z z (fc call14 z<|h_A dk (zt' J<|lt_ (lt_ (lt_ a7 s5.s) sk.s) a9.s) (H.g<|(aC.e sk).e a9) a6 bo) (.inr fun _ _ h=>o_<|h.1) ?_;rintro _ _ ⟨bH,bI,bJ,bK,dl,bL,bN,bO,dm,rfl,dn,dp,dq,aJ,ab⟩;refine dM z z z<|dR z z (ext_ z z)<|dR z z (ext_ z z) ?_
     have bP:=lt_ (lt_ (lt_ G.s s4.s) s5.s) sk.s;have aK:=m1 bP;refine dE0 z (fs0 (cur':=[vI aa.number,sl bI bJ bK,sl bL bN bO]) b_ z z (aI.e bH) z z z z) (.inr fun _ _ h=>b_1 (atp aK) h.2) ?_;rintro _ _ ⟨dr,dt⟩;have aL:=dt.one;refine dQ z z z<|pD ?_
     have bQ:=h_ (al_ ab) aI.lt lr;have bR:=lt_ bP a9.s;have bS:=h_ (ar_ ab) aI.lt lr;exact fun _ q=>⟨aa.number,aa.bytes,aa.items,dj,som cM,bI,bJ,bK,dl,bL,bN,bO,dm,bn.z,q.k<|s7 z z z z z z z,bM (bup (bup (bup (bup (bup G s4) s5) sk) a9) bH) aL aK,dn,dp.c aL bQ,nl_ aJ,j_ (al_ ab) bR,dq.c aL bS,nr_ aJ,j_ (ar_ ab) bR,ds<|nj aJ,dr,atp aK,bQ,bS⟩
    refine dE z z (fa E_) (.inr fun _ _ h=>o_<|h.2.below) ?_;rintro _ du ⟨rfl,bT⟩;have hn:=bT.below;have aM:Blk du bk.z [vI 0,sl none 0 0,sl none 0 0]:=bT.blk;have bU:=(aB.e s5).e hn;obtain ⟨_,dv,cN⟩:=bdS b6;refine dE z z (fc call16 z<|h_z (B:=wl.z) dv (M_<|lt_ (lt_ (lt_ (lt_ (lt_ (lt_ h3.s h1.s) s2.s) G.s) s4.s) s5.s) hn.s) (repS.mono (H.g bU) hy) bm hx (or_ (((((((h6.e h3).c h1<|ds<|mnr<|a_.lt h6).e s2).e G).e s4).e s5).e hn)<|a_.lt h6)<|or_ (((((((I.e h3).c h1<|ds<|mnr<|a_.lt I).e s2).e G).e s4).e s5).e hn)<|a_.lt I) (.inr fun _ _ h=>o_<|h.1) ?_;rintro _ _ ⟨sm,rfl,dw⟩;obtain ⟨ad,dx,dy,cO⟩:=V_ cN;refine dE z z (fc call14 z<|h_A dy (zt' J<|lt_ (lt_ (lt_ a7 s5.s) hn.s) sm.s) (H.g<|bU.e sm) a6 dw) (.inr fun _ _ h=>o_<|h.1) ?_;rintro _ _ ⟨bV,bW,bX,bY,dz,bZ,c0,c1,dA,rfl,dB,dC,dD,aN,ae⟩;refine dM z z z<|dR z z (ext_ z z)<|dR z z (ext_ z z) ?_
    have c2:=lt_ (lt_ G.s s4.s) s5.s;have aO:=m1 c2;refine dE0 z (fs0 (cur':=[vI ad.number,sl bW bX bY,sl bZ c0 c1]) b_ z z ((aM.e sm).e bV) z z z z) (.inr fun _ _ h=>b_1 (atp aO) h.2) ?_;rintro _ _ ⟨dF,dG⟩;have aP:=dG.one;refine dQ z z z<|pD ?_
    have c3:=h_ (al_ ae) aM.lt sm.s;have c4:=lt_ (lt_ c2 hn.s) sm.s;have c5:=h_ (ar_ ae) aM.lt sm.s;exact fun _ q=>⟨ad.number,ad.bytes,ad.items,dx,som cO,bW,bX,bY,dz,bZ,c0,c1,dA,bk.z,q.k<|s7 z z z z z z z,bM (bup (bup (bup (bup (bup G s4) s5) hn) sm) bV) aP aO,dB,dC.c aP c3,nl_ aN,j_ (al_ ae) c4,dD.c aP c5,nr_ aN,j_ (ar_ ae) c4,ds<|nj aN,dF,atp aO,c3,c5⟩
   refine dE z z (fa E_) (.inr fun _ _ h=>o_<|h.2.below) ?_;rintro _ dH ⟨rfl,c6⟩;have ho:=c6.below;have aQ:Blk dH bj.z [vI 0,sl none 0 0,sl none 0 0]:=c6.blk;have c7:=(az.e s4).e ho;have c8:=lt_ (lt_ aA s4.s) ho.s;obtain ⟨_,dI,cP⟩:=bdS b5;refine dE z z (fc call15 z<|e_4 dI (zt' J c8)<|H.g c7) (.inr fun _ _ h=>o_<|h.1) ?_;rintro _ _ ⟨sc,rfl,dJ⟩;have c9:=c7.e sc;obtain ⟨_,dK,cQ⟩:=bdS cP;refine dE z z (fc call16 z<|h_z (B:=wl.z) dK (M_<|lt_ (lt_ (lt_ (lt_ (lt_ (lt_ h3.s h1.s) s2.s) G.s) s4.s) ho.s) sc.s) (repS.mono (H.g c9) hy) dJ hx (or_ (((((((h6.e h3).c h1<|ds<|mnr<|a_.lt h6).e s2).e G).e s4).e ho).e sc)<|a_.lt h6)<|or_ (((((((I.e h3).c h1<|ds<|mnr<|a_.lt I).e s2).e G).e s4).e ho).e sc)<|a_.lt I) (.inr fun _ _ h=>o_<|h.1) ?_;rintro _ _ ⟨sv,rfl,dL⟩;obtain ⟨af,dN,dO,cR⟩:=V_ cQ;refine dE z z (fc call14 z<|h_A dO (zt' J<|lt_ (lt_ c8 sc.s) sv.s) (H.g<|c9.e sv) a6 dL) (.inr fun _ _ h=>o_<|h.1) ?_;rintro _ _ ⟨ca,cb,cc,cd,dP,ce,cf,cg,dS,rfl,dT,dU,dV,aR,ah⟩;refine dM z z z<|dR z z (ext_ z z)<|dR z z (ext_ z z) ?_
   have ch:=lt_ G.s s4.s;have aS:=m1 ch;refine dE0 z (fs0 (cur':=[vI af.number,sl cb cc cd,sl ce cf cg]) b_ z z (((aQ.e sc).e sv).e ca) z z z z) (.inr fun _ _ h=>b_1 (atp aS) h.2) ?_;rintro _ _ ⟨dW,dX⟩;have aT:=dX.one;refine dQ z z z<|pD ?_
   have ci:=lt_ sc.s sv.s;have cj:=h_ (al_ ah) aQ.lt ci;have ck:=lt_ (lt_ (lt_ ch ho.s) sc.s) sv.s;have cl:=h_ (ar_ ah) aQ.lt ci;exact fun _ q=>⟨af.number,af.bytes,af.items,dN,som cR,cb,cc,cd,dP,ce,cf,cg,dS,bj.z,q.k<|s7 z z z z z z z,bM (bup (bup (bup (bup (bup G s4) ho) sc) sv) ca) aT aS,dT,dU.c aT cj,nl_ aR,j_ (al_ ah) ck,dV.c aT cl,nr_ aR,j_ (ar_ ah) ck,ds<|nj aR,dW,atp aS,cj,cl⟩
  refine dE z z (fa E_) (.inr fun _ _ h=>o_<|h.2.below) ?_;rintro _ dY ⟨rfl,cm⟩;have hp:=cm.below;have aU:Blk dY bi.z [vI 0,sl none 0 0,sl none 0 0]:=cm.blk;have cn:=((hz.e s2).e G).e hp;have co:=lt_ (lt_ (lt_ O s2.s) G.s) hp.s;obtain ⟨_,dZ,cS⟩:=bdS b4;refine dE z z (fc call15 z<|e_4 dZ (zt' J co)<|H.g cn) (.inr fun _ _ h=>o_<|h.1) ?_;rintro _ _ ⟨sd,rfl,e0⟩;have cp:=cn.e sd;have cq:=lt_ co sd.s;obtain ⟨_,e1,cT⟩:=bdS cS;refine dE z z (fc call15 z<|e_4 e1 (zt' J cq)<|H.g cp) (.inr fun _ _ h=>o_<|h.1) ?_;rintro _ _ ⟨se,rfl,e2⟩;have cr:=cp.e se;obtain ⟨_,e3,cU⟩:=bdS cT;refine dE z z (fc call16 z<|h_z (B:=wl.z) e3 (M_<|lt_ (lt_ (lt_ (lt_ (lt_ (lt_ h3.s h1.s) s2.s) G.s) hp.s) sd.s) se.s) (repS.mono (H.g cr) hy) e2 hx (or_ (((((((h6.e h3).c h1<|ds<|mnr<|a_.lt h6).e s2).e G).e hp).e sd).e se)<|a_.lt h6)<|or_ (((((((I.e h3).c h1<|ds<|mnr<|a_.lt I).e s2).e G).e hp).e sd).e se)<|a_.lt I) (.inr fun _ _ h=>o_<|h.1) ?_;rintro _ _ ⟨sw,rfl,e4⟩;obtain ⟨ai,e5,e6,cV⟩:=V_ cU;refine dE z z (fc call14 z<|h_A e6 (zt' J<|lt_ (lt_ cq se.s) sw.s) (H.g<|cr.e sw) e0 e4) (.inr fun _ _ h=>o_<|h.1) ?_;rintro _ _ ⟨ct,cu,cv,cw,e7,cx,cy,cz,e8,rfl,e9,ea,eb,aV,aj⟩;refine dM z z z<|dR z z (ext_ z z)<|dR z z (ext_ z z) ?_
  have aW:=m1 G.s;refine dE0 z (fs0 (cur':=[vI ai.number,sl cu cv cw,sl cx cy cz]) b_ z z ((((aU.e sd).e se).e sw).e ct) z z z z) (.inr fun _ _ h=>b_1 (atp aW) h.2) ?_;rintro _ _ ⟨ec,ed⟩;have aX:=ed.one;refine dQ z z z<|pD ?_
  have cA:=lt_ (lt_ sd.s se.s) sw.s;have cB:=h_ (al_ aj) aU.lt cA;have cC:=lt_ (lt_ (lt_ (lt_ G.s hp.s) sd.s) se.s) sw.s;have cD:=h_ (ar_ aj) aU.lt cA;exact fun _ q=>⟨ai.number,ai.bytes,ai.items,e5,som cV,cu,cv,cw,e7,cx,cy,cz,e8,bi.z,q.k<|s7 z z z z z z z,bM (bup (bup (bup (bup (bup G hp) sd) se) sw) ct) aX aW,e9,ea.c aX cB,nl_ aV,j_ (al_ aj) cC,eb.c aX cD,nr_ aV,j_ (ar_ aj) cC,ds<|nj aV,ec,atp aW,cB,cD⟩
 rintro ee ak ⟨xr,V,W,Y,rfl,a0,a1,a2,Ss,a3,a4,a5,St,gu,_,s9,eg,cE,_,_,cF,_,_,_,eh,_,_,_⟩;revert ee;refine Wo<|Wq ?_
 obtain ⟨ei,b8,cW⟩:=bdS<|un4S cK;refine Wt (fun a w=>∃(aY:Bool),aY=ei/\Sat 59 [(4,vB aY)] a/\Below ak.z ak w) ?_ ?_
 ·refine Wg<|RM z z ?_
  rcases bs bh with hca | hca
  ·have cG:=(aw.e s2).e s9;refine Rh z hca (lN (vs:=[sl A0 N0 C0]) w_ v_ z z fid<|cG.row 0 1 z)<|Rh z hca (mv z)<|Rh z hca (mv z) ?_
   have aZ:=(hz.e s2).e s9;have cH:=ay.e s9;have b0:=zt' J<|lt_ O s2.s
   obtain ⟨ej,ek,b9⟩:=bdS<|ifT b8 hca;refine Eg z z hca z (fc call17 z<|W_w37 (B:=wj.z) ek (M_ s9.s) (repS.mono (H.g aZ) b0) (repS.mono (al.g aZ) b0)<|or_ cH<|a_.lt ay) ?_;rintro _ _ ⟨s8,rfl⟩;refine R z (pT z hca z)<|Rm z ?_
   rcases bs ej with hcf | hcf
   ·refine Rh z hcf (lN (vs:=[sl A0 N0 C0]) w_ v_ z z fid<|(cG.e s8).row 0 1 z)<|Rh z hcf (mv z) ?_
    obtain ⟨em,en,ba⟩:=bdS<|ifT b9 hcf;refine Eg z z hcf z (fc call18 z<|W_w38 (B:=wj.z) en (M_<|lt_ s9.s s8.s) (repS.mono (H.g<|aZ.e s8) b0)<|or_ (cH.e s8)<|a_.lt ay) ?_;rintro _ _ ⟨sb,rfl⟩;refine R z (pT z hcf z)<|Rm z ?_
    rcases bs em with hcq | hcq
    ·have bb:=ifT ba hcq;refine Rh z hcq (mv z)<|R z (pT z hcq z)<|Rm z ?_
     rcases bs Y with hcg | hcg
     ·refine Rh z hcg (lN (vs:=[vI an.number,sl ao ap aq,sl ar au av]) i_ b_ z z fid<|((((bg.e s2).e s9).e s8).e sb).row 0 3 z)<|Rh z hcg (lN (vs:=[vI xr,sl a0 a1 a2,sl a3 a4 a5]) i_ b_ z z fid<|((eh.e s8).e sb).row 0 3 z) ?_
      have cI:=lt_ (lt_ (lt_ h3.s h1.s) s2.s) s9.s;obtain ⟨eo,ep,cX⟩:=bdS<|ifT bb hcg;refine Eg z z hcg z (fc call19 z<|W_w0g.run (B:=ak.z) (x2:=(⟨xr,V,W⟩:Val)) ep (M_<|lt_ s8.s sb.s) hx (repS.mono (or_ ((((((h6.e h3).c h1<|ds<|mnr<|a_.lt h6).e s2).e s9).e s8).e sb)<|a_.lt h6)<|M_ cI) (repS.mono (or_ ((((((I.e h3).c h1<|ds<|mnr<|a_.lt I).e s2).e s9).e s8).e sb)<|a_.lt I)<|M_ cI) eg (or_ ((cE.e s8).e sb)<|a_.lt cE)<|or_ ((cF.e s8).e sb)<|a_.lt cF) ?_;rintro _ _ ⟨er,rfl⟩;exact R z (pT z hcg z)<|Ra z<|Wl (fun _ q=>⟨eo,som cX,q.k<|s1 z,bup (bup s8 sb) er⟩)
     iterate 3 refine Nh z hcg ?_
     exact R z (pF z hcg z)<|Ra z<|Wl (fun _ q=>⟨false,som<|ifF bb hcg,q.k<|s1 z,bup s8 sb⟩)
    exact Nh z hcq<|R z (pF z hcq z)<|Rm z<|Nh z z<|Nh z z<|Nh z z<|R z (pF z z z)<|Ra z<|Wl (fun _ q=>⟨false,som<|ifF ba hcq,q.k<|s1 z,bup s8 sb⟩)
   iterate 3 refine Nh z hcf ?_
   exact R z (pF z hcf z)<|Rm z<|Nh z z<|R z (pF z z z)<|Rm z<|Nh z z<|Nh z z<|Nh z z<|R z (pF z z z)<|Ra z<|Wl (fun _ q=>⟨false,som<|ifF b9 hcf,q.k<|s1 z,s8⟩)
  iterate 4 refine Nh z hca ?_
  exact R z (pF z hca z)<|Rm z<|Nh z z<|Nh z z<|Nh z z<|R z (pF z z z)<|Rm z<|Nh z z<|R z (pF z z z)<|Rm z<|Nh z z<|Nh z z<|Nh z z<|R z (pF z z z)<|Ra z<|Wl (fun _ q=>⟨false,som<|ifF b8 hca,q.k<|s1 z,br ak⟩)
 rintro es _ ⟨aY,rfl,_,eu⟩;revert es;refine Wo ?_;obtain rfl:=som cW;exact Wr<|f_ hr z ⟨bup (bup (bup (bM (bup (bup hh si) h3) h1<|m1 ax) s2) s9) eu,z⟩
theorem e_6 {x1:c_}{res:Int}(hm:d_W x1=some res)(J:B<=w0.z)(H:repS w0 B (sl A0 N0 C0) x1.rules):l_ prog 24 [(.agg #[sl A0 N0 C0])] w0 (Q0 w0 B res):=by
 unfold d_W at hm
 refine goG func24 z z z fun fn hr=>Ws<|E z (fb z) ?_
 rintro _ I ⟨rfl,G⟩;have h1:=G.below;refine Rw z<|Ws<|Rf z a_9 z<|R z (l0 a_b z<|(G.blk:Blk I w0.z [sl A0 N0 C0]).at z)<|R z (lnR a_3 z<|H.e h1)<|R z (sb_ z z)<|Rw z ?_
 obtain rfl:=som hm;exact Wr<|f_ hr z ⟨h1,z,iS _ _⟩
theorem d_j {x1:Int}{x2:Int}{x3:Int}{res:Bool}(hm:b_X x1 x2 x3=some res)(Y:B<=w0.z)(O:inI x1)(V:inI x2)(W:inI x3):l_ prog 117 [vI x1,vI x2,vI x3] w0 (Q7 w0 B res):=by
 unfold b_X at hm
 refine goG func117 z z z fun fn hr=>Ws<|Rw z<|Wq ?_
 obtain ⟨J,H,I⟩:=bdS hm;refine Wt (fun a w=>∃(x4:Bool),x4=J/\Sat 15 [(6,vB x4)] a/\Below w0.z w0 w) ?_ ?_
 ·refine Wg<|RM z z<|R z (b_o z z)<|Rm z ?_
  rcases bs (decide<|x2<=x1) with G | G
  ·exact Rh z G (mv z)<|Rh z G (mv z)<|Rh z G (b_o z z)<|R z (pT z G z)<|Ra z<|Wl (fun _ q=>⟨decide<|x1<=x3,som<|ifT H G,q.k<|s1 z,br w0⟩)
  iterate 3 refine Nh z G ?_
  exact R z (pF z G z)<|Ra z<|Wl (fun _ q=>⟨false,som<|ifF H G,q.k<|s1 z,br w0⟩)
 rintro L _ ⟨x4,rfl,_,s6⟩;revert L;refine Wo ?_;obtain rfl:=som I;exact Wr<|f_ hr z ⟨s6,z⟩
theorem k_O {x1:c_}{x2:Int}{res:Bool}(hm:d_V x1 x2=some res)(Y:B<=w0.z)(J:repS w0 B (sl A0 N0 C0) x1.rules)(W:inI x2):l_ prog 68 [(.agg #[sl A0 N0 C0]),vI x2] w0 (Q7 w0 B res):=by
 unfold d_V at hm
 refine goG func68 z z z fun fn hr=>Ws<|E z (fb z) ?_
 rintro _ H ⟨rfl,h2⟩;have h4:=h2.below;refine Rw z<|Wq ?_
 obtain ⟨O,I,L⟩:=bdS hm;refine Wt (fun a w=>∃(x3:Bool),x3=O/\Sat 14 [(4,vB x3)] a/\Below H.z H w) ?_ ?_
 ·refine Wg<|Rm z<|R z (a_z z z)<|Rm z ?_
  rcases bs (decide<|0<=x2) with G | G
  ·exact Rh z G (mv z)<|Rh z G (fd a_9 z)<|Rh z G (l0 a_b z<|(h2.blk:Blk H w0.z [sl A0 N0 C0]).at z)<|Rh z G (lnR a_3 z<|J.e h4)<|Rh z G (lss z z)<|R z (pT z G z)<|Ra z<|Wl (fun _ q=>⟨decide<|x2<(x1.rules.length:Int),som<|ifT I G,q.k<|s1 z,br H⟩)
  iterate 5 refine Nh z G ?_
  exact R z (pF z G z)<|Ra z<|Wl (fun _ q=>⟨false,som<|ifF I G,q.k<|s1 z,br H⟩)
 rintro V _ ⟨x3,rfl,_,sa⟩;revert V;refine Wo ?_;obtain rfl:=som L;exact Wr<|f_ hr z ⟨bup h4 sa,z⟩
theorem W_w1t {x1:Str}{res:Bool}(hm:e_x n x1=some res)(ap:B<=w0.z)(ao:x1.b.length<=LEN):l_ prog 143 [Str.v x1] w0 (Q7 w0 B res):=by
 unfold e_x at hm
 refine goG func143 z z z fun fn hr=>Ws<|Rw z<|Wq<|Wq ?_
 obtain ⟨a8,huo,hmp⟩:=bdS hm;refine Wt (fun a w=>∃(xg:Bool),xg=a8/\Sat 43 [(0,Str.v x1),(14,vB xg)] a/\Below w0.z w0 w) ?_ ?_
 ·refine Wg<|Rm z<|R z (lnT d_9 z)<|Rl z z z<|Rm z ?_
  rcases bs (decide<|(x1.b.length:Int)<1) with J | J
  ·iterate 3 refine Nh z J ?_
   exact R z (pT z J z)<|Wl (fun _ q=>⟨true,som<|ifT huo J,q.k<|s2 z z,br w0⟩)
  exact Rh z J (mv z)<|Rh z J (lnT d_9 z)<|Rh z J (a_C z z)<|R z (pF z J z)<|Wl (fun _ q=>⟨decide<|12<(x1.b.length:Int),som<|ifF huo J,q.k<|s2 z z,br w0⟩)
 rintro a9 G ⟨xg,rfl,_,s9⟩;revert a9;refine Wo<|Wc z (fun hch=>?_) (fun hch=>?_)
 ·refine Ws<|Rw z ?_
  obtain rfl:=som<|ifT hmp hch;exact Wr<|f_ hr z ⟨s9,z⟩
 refine Wk<|Wq<|Wm z<|E z (o_s d_9 z) ?_
 rintro _ I ⟨rfl,sq,aa⟩;refine Wn ?_;obtain ⟨_,a1,hmr⟩:=bdS<|ifF hmp hch;refine b_S (σ:=Nat) (ρ:=Bool) (fun (x0:Nat) a w=>Sat 43 [(16,pt G.z)] a/\Chg (· ∈ [G.z]) I w/\b_m w G.z x1 x0) (fun (x0:Nat) a w=>Sat 43 [] a/\Chg (· ∈ [G.z]) I w/\b_m w G.z x1 x0) (rQ prog fn<|Q7 w0 B) a1 ?_ ?_ ?_ ?_
 ·exact fun _ q=>⟨q.k<|s1 z,cr [G.z] I,aa⟩
 ·rintro x0 _ ws _ ⟨a2,si,he⟩ hmt;refine Wu ?_ a2;refine Ws ?_
  rcases bs (decide<|x0<x1.b.length) with hca | hca
  ·refine E z (o_t z he<|of_decide_eq_true hca) ?_;rintro _ wb ⟨rfl,ab,su⟩;refine Re z z z<|Wn<|Wq<|Wc z (fun _=>?_) (fun hc=>(a_w z hc).elim)
   refine Wk<|Wb<|Ws<|Re z z z<|Re z z z<|Ra z<|Rw z<|Wq ?_
   obtain ⟨ad,huv,a3⟩:=bdS<|ifT hmt hca;refine Wt (fun a w=>∃(xc:Bool),xc=ad/\Sat 43 [(3,vI (x0:Int)),(4,.int .i32<|(dec x1 x0).1),(5,vB xc),(16,pt G.z)] a/\Below wb.z wb w) ?_ ?_
   ·refine Wg<|Rm z<|R z (a_z z z)<|Rm z ?_
    rcases bs (decide<|97<=((dec x1 x0).1)) with L | L
    ·exact Rh z L (mv z)<|Rh z L (b_o z z)<|R z (pT z L z)<|Ra z<|Wl (fun _ q=>⟨decide<|((dec x1 x0).1)<=122,som<|ifT huv L,q.k<|s4 z z z z,br wb⟩)
    exact Nh z L<|Nh z L<|R z (pF z L z)<|Ra z<|Wl (fun _ q=>⟨false,som<|ifF huv L,q.k<|s4 z z z z,br wb⟩)
   rintro ae wd ⟨xc,rfl,_,sj⟩;revert ae;refine Wo<|Wq ?_
   obtain ⟨af,huw,a4⟩:=bdS a3;refine Wt (fun a w=>∃(xf:Bool),xf=af/\Sat 43 [(3,vI (x0:Int)),(5,vB xc),(6,vB xf),(16,pt G.z)] a/\Below wd.z wd w) ?_ ?_
   ·refine Wg<|Rm z<|R z (a_z z z)<|Rm z ?_
    rcases bs (decide<|48<=((dec x1 x0).1)) with O | O
    ·exact Rh z O (mv z)<|Rh z O (b_o z z)<|R z (pT z O z)<|Ra z<|Wl (fun _ q=>⟨decide<|((dec x1 x0).1)<=57,som<|ifT huw O,q.k<|s4 z z z z,br wd⟩)
    exact Nh z O<|Nh z O<|R z (pF z O z)<|Ra z<|Wl (fun _ q=>⟨false,som<|ifF huw O,q.k<|s4 z z z z,br wd⟩)
   rintro ah W ⟨xf,rfl,_,sk⟩;revert ah;refine Wo<|Wq ?_
   obtain ⟨ai,hux,hmy⟩:=bdS a4;refine Wt (fun a w=>∃(xl:Bool),xl=ai/\Sat 43 [(16,pt G.z),(42,vB xl)] a/\Below W.z W w) ?_ ?_
   ·refine Wg<|Rm z<|R z (not_ z)<|Rm z ?_
    rcases bs (!xc) with H | H
    ·have hmz:=ifT hux H;refine Rh z H (mv z)<|Rh z H (not_ z)<|Rh z H (mv z) ?_
     rcases bs (!xf) with V | V
     ·exact Nh z V<|Nh z V<|Rh z H (pT z V z)<|R z (pT z H z)<|Wl (fun _ q=>⟨true,som<|ifT hmz V,q.k<|s2 z z,br W⟩)
     exact Rh z V (mv z)<|Rh z V (eql z z)<|Rh z H (pF z V z)<|R z (pT z H z)<|Wl (fun _ q=>⟨(x0:Int)==0,som<|ifF hmz V,q.k<|s2 z z,br W⟩)
    iterate 3 refine Nh z H ?_
    exact Nv z<|Nv z<|Nh z H<|R z (pF z H z)<|Wl (fun _ q=>⟨false,som<|ifF hux H,q.k<|s2 z z,br W⟩)
   rintro aj ak ⟨xl,rfl,_,sm⟩;revert aj;refine Wo<|Wc z (fun hcn=>?_) (fun hcn=>?_)
   ·refine Ws<|Rw z ?_
    have Y:=m1 s9.s;exact Wr<|rtO<|qL (som<|ifT hmy hcn).symm<|f_ hr z ⟨bup (bup (bup (bM (bM (bup s9 sq) si Y) su Y) sj) sk) sm,z⟩
   refine a_I ?_;exact fun _ q=>⟨x0+(dec x1 x0).2,(som<|ifF hmy hcn).symm,⟨q.k<|s1 z,(k_ (k_ (k_ (cM (cM (cr [G.z] I) si (io sr):Chg (· ∈ [G.z]) I ws) su (io sr):Chg (· ∈ [G.z]) I wb) sj:Chg (· ∈ [G.z]) I wd) sk:Chg (· ∈ [G.z]) I W) sm:Chg (· ∈ [G.z]) I ak),((ab.e sj).e sk).e sm⟩⟩
  refine E z (o_u z he<|of_decide_eq_false hca) ?_;rintro _ al ⟨rfl,a0⟩;refine Re z z z<|Wn<|Wq<|Wc z (fun hc=>(a_w hc z).elim) (fun _=>?_)
  exact We<|fun _ q=>b_F (som<|ifF hmt hca).symm ⟨q.k sn,(k_ (cM (cr [G.z] I) si (io sr):Chg (· ∈ [G.z]) I ws) a0:Chg (· ∈ [G.z]) I al),he.e a0⟩
 ·rintro x0 am _ rfl ⟨_,an,he⟩;have a5:=elL hmr;revert am;refine Wo<|Ws<|Rw z ?_
  obtain rfl:=som a5;exact Wr<|f_ hr z ⟨bM (bup s9 sq) an<|m1 s9.s,z⟩
 rintro _ _ _ _ rfl ⟨rfl,a6⟩;have a7:=elR hmr;obtain rfl:=som a7;exact ⟨a6,z⟩
theorem d_C {x1:g_}{x2:Bool}{x3:Bool}{x4:Bool}{x5:Bool}{x6:Int}{res:Bool}(hm:c_l x1 x2 x3 x4 x5 x6=some res)(a8:B<=w0.z)(a4:x1.name.b.length<=LEN)(a5:inI x1.kind)(a6:inI x1.size)(a0:repS w0 B (sl AC NC CC) x1.bytes)(a1:repS w0 B (sl AB NB CB) x1.names)(a2:repS w0 B (sl AD ND CD) x1.tags)(a3:repS w0 B (sl AE NE CE) x1.kids)(a7:inI x6):l_ prog 158 [(.agg #[Str.v x1.name,vI x1.kind,vI x1.size,vB x1.little,sl AC NC CC,sl AB NB CB,sl AD ND CD,sl AE NE CE]),vB x2,vB x3,vB x4,vB x5,vI x6] w0 (Q7 w0 B res):=by
 unfold c_l at hm
 refine goG func158 z z z fun fn hr=>Ws<|E z (fb z) ?_
 rintro _ w9 ⟨rfl,hd⟩;have ha:=hd.below;have hb:Blk w9 w0.z (vR x1 AC NC CC AB NB CB AD ND CD AE NE CE):=hd.blk;refine Rw z<|Wq ?_
 obtain ⟨ur,hus,hmt⟩:=bdS hm;refine Wt (fun a w=>∃(xc:Bool),xc=ur/\Sat 57 [(12,vB xc)] a/\Below w9.z w9 w) ?_ ?_
 ·refine Wg<|RM z z ?_
  obtain ⟨ue,huf,hmu⟩:=bdS hus;refine c_T 18 ue 4 ?_ ?_
  ·rcases bs x2 with Y | Y
   ·iterate 3 refine Nh z Y ?_
    exact R z (pT z Y z)<|WLq 4 (ifT huf Y) z z z
   exact Rh z Y (fd a_G z)<|Rh z Y (l0 g_3 z<|hb.at z)<|Rh z Y (eql z z)<|R z (pF z Y z)<|WLq 4 (ifF huf Y) z z z
  refine Rm z ?_;obtain ⟨ug,huh,hmv⟩:=bdS hmu;refine c_T 27 ug 8 ?_ ?_
  ·rcases bs ue with G | G
   ·have hmi:=ifT huh G;refine Rh z G (mv z)<|Rh z G (mv z) ?_
    rcases bs x3 with O | O
    ·iterate 4 refine Nh z O ?_
     exact Rh z G (pT z O z)<|R z (pT z G z)<|WLq 8 (ifT hmi O) z z z
    exact Rh z O (fd a_Z z)<|Rh z O (l0 J_ z<|hb.at z)<|Rh z O (lnR n_ z<|a0.e ha)<|Rh z O (eql z z)<|Rh z G (pF z O z)<|R z (pT z G z)<|WLq 8 (ifF hmi O) z z z
   exact Nh z G<|Nh z G<|Nv z<|Nv z<|Nv z<|Nv z<|Nh z G<|R z (pF z G z)<|WLq 8 (ifF huh G) z z z
  refine Rm z ?_;obtain ⟨uj,huk,hmw⟩:=bdS hmv;refine c_T 36 uj 8 ?_ ?_
  ·rcases bs ug with H | H
   ·have hml:=ifT huk H;refine Rh z H (mv z)<|Rh z H (mv z) ?_
    rcases bs x4 with V | V
    ·iterate 4 refine Nh z V ?_
     exact Rh z H (pT z V z)<|R z (pT z H z)<|WLq 8 (ifT hml V) z z z
    exact Rh z V (fd c_b z)<|Rh z V (l0 b_L z<|hb.at z)<|Rh z V (lnR a_d z<|a1.e ha)<|Rh z V (eql z z)<|Rh z H (pF z V z)<|R z (pT z H z)<|WLq 8 (ifF hml V) z z z
   exact Nh z H<|Nh z H<|Nv z<|Nv z<|Nv z<|Nv z<|Nh z H<|R z (pF z H z)<|WLq 8 (ifF huk H) z z z
  refine Rm z ?_;obtain ⟨um,hun,hmo⟩:=bdS hmw;refine c_T 45 um 8 ?_ ?_
  ·rcases bs uj with I | I
   ·have hmp:=ifT hun I;refine Rh z I (mv z)<|Rh z I (mv z) ?_
    rcases bs x5 with W | W
    ·iterate 4 refine Nh z W ?_
     exact Rh z I (pT z W z)<|R z (pT z I z)<|WLq 8 (ifT hmp W) z z z
    exact Rh z W (fd b_f z)<|Rh z W (l0 A_ z<|hb.at z)<|Rh z W (lnR y_ z<|a2.e ha)<|Rh z W (eql z z)<|Rh z I (pF z W z)<|R z (pT z I z)<|WLq 8 (ifF hmp W) z z z
   exact Nh z I<|Nh z I<|Nv z<|Nv z<|Nv z<|Nv z<|Nh z I<|R z (pF z I z)<|WLq 8 (ifF hun I) z z z
  refine Rm z ?_
  rcases bs um with J | J
  ·have hmq:=ifT hmo J;refine Rh z J (mv z)<|Rh z J (lss z z)<|Rh z J (mv z) ?_
   rcases bs (decide<|x6<0) with L | L
   ·iterate 5 refine Nh z L ?_
    exact Rh z J (pT z L z)<|R z (pT z J z)<|Ra z<|Wl (fun _ q=>⟨true,som<|ifT hmq L,q.k<|s1 z,br w9⟩)
   exact Rh z L (fd R_ z)<|Rh z L (l0 A_ z<|hb.at z)<|Rh z L (lnR y_ z<|a3.e ha)<|Rh z L (mv z)<|Rh z L (eql z z)<|Rh z J (pF z L z)<|R z (pT z J z)<|Ra z<|Wl (fun _ q=>⟨(x1.kids.length:Int)==x6,som<|ifF hmq L,q.k<|s1 z,br w9⟩)
  iterate 3 refine Nh z J ?_
  exact Nv z<|Nv z<|Nv z<|Nv z<|Nv z<|Nh z J<|R z (pF z J z)<|Ra z<|Wl (fun _ q=>⟨false,som<|ifF hmo J,q.k<|s1 z,br w9⟩)
 rintro ax _ ⟨xc,rfl,_,sy⟩;revert ax;refine Wo ?_;obtain rfl:=som hmt;exact Wr<|f_ hr z ⟨bup ha sy,z⟩
theorem e_J {x1:c_}{x2:Int}{res:Int}(hm:c_P x1 x2=some res)(V:B<=w0.z)(I:repS w0 B (sl A0 N0 C0) x1.rules)(Y:inI x2):l_ prog 145 [(.agg #[sl A0 N0 C0]),vI x2] w0 (Q0 w0 B res):=by
 unfold c_P at hm
 refine goG func145 z z z fun fn hr=>Ws<|E z (fb z) ?_
 rintro _ L ⟨rfl,W⟩;have h2:=W.below;have h6:Blk L w0.z [sl A0 N0 C0]:=W.blk;refine Rw z<|Wq<|Wq ?_
 obtain ⟨uf,hug,hma⟩:=bdS hm;refine Wt (fun a w=>∃(O:Bool),O=uf/\Sat 37 [(1,vI x2),(2,pt w0.z),(27,vB O)] a/\Below L.z L w) ?_ ?_
 ·refine Wg<|R z (lN (vs:=[sl A0 N0 C0]) w_ v_ z z fid<|h6.row 0 1 z)<|Rm z ?_
  obtain ⟨rh,ei,hmb⟩:=bdS hug;refine E z (fc call68 z<|k_O ei (zt' V h2.s) (I.e h2) Y) ?_;rintro _ _ ⟨s4,rfl⟩;refine R z (not_ z)<|Rm z ?_
  rcases bs (!rh) with H | H
  ·iterate 7 refine Nh z H ?_
   exact R z (pT z H z)<|Rm z<|Nh z z<|Nh z z<|Nh z z<|Nh z z<|Nh z z<|Nh z z<|Nh z z<|Nh z z<|R z (pT z z z)<|Wl (fun _ q=>⟨true,som<|ifT hmb H,q.k<|s3 z z z,s4⟩)
  refine Rh z H (fd a_9 z) ?_;have hc:=h6.e s4;refine Rh z H (l0 a_b z<|hc.at z)<|Rh z H (mv z) ?_
  obtain ⟨xj,ek,hmd⟩:=bdS<|ifF hmb H;have he:=I.g<|(h2.ag B).e s4
  refine RXg z z H z (at_ (α:=g_) a_3 t_ z z z he ek) ?_;rintro _ ⟨_,_,_,rfl,hl,hn,_⟩;obtain ⟨_,_,_,_,_,_,_,_,_,_,_,_,rfl,_,_,_,_,_,_,_⟩:=a_v hn;refine Rh z H (fd a_M z)<|Rh z H (l0 g_3 z<|hl.at (j:=1) z)<|Rh z H (nq z z)<|R z (pF z H z)<|Rm z ?_
  rcases bs (xj.kind != 1) with G | G
  ·iterate 8 refine Nh z G ?_
   exact R z (pT z G z)<|Wl (fun _ q=>⟨true,som<|ifT hmd G,q.k<|s3 z z z,s4⟩)
  refine Rh z G (fd a_9 z)<|Rh z G (l0 a_b z<|hc.at z)<|Rh z G (mv z) ?_
  obtain ⟨_,em,hmo⟩:=bdS<|ifF hmd G;refine RXg z z G z (at_ (α:=g_) a_3 t_ z z z he em) ?_;rintro _ ⟨_,_,_,rfl,hp,hq,_⟩;obtain ⟨_,_,_,_,_,_,_,_,_,_,_,_,rfl,_,_,ht,_,_,_,_⟩:=a_v hq;refine Rh z G (fd a_G z)<|Rh z G (l0 g_3 z<|hp.at (j:=2) z) ?_
  obtain ⟨rr,es,hmu⟩:=bdS hmo;refine Eg z z G z (fc call117 z<|d_j es (zt' V<|lt_ h2.s s4.s) ht (ii z)<|ii z) ?_;rintro _ _ ⟨sv,rfl⟩;exact Rh z G (not_ z)<|R z (pF z G z)<|Wl (fun _ q=>⟨!rr,som hmu,q.k<|s3 z z z,bup s4 sv⟩)
 rintro aw _ ⟨O,rfl,_,s5⟩;revert aw;refine Wo<|Wc z (fun J=>?_) (fun J=>?_)
 ·refine Ws<|Rw z ?_
  obtain rfl:=som<|ifT hma J;exact Wr<|f_ hr z ⟨bup h2 s5,z,ii z⟩
 refine Wk<|Ws<|Rf z a_9 z<|R z (l0 a_b z<|(h6.e s5).at z)<|Rm z ?_
 obtain ⟨_,ex,hmy⟩:=bdS<|ifF hma J;refine RX z (at_ (α:=g_) a_3 t_ z z z (I.g<|(h2.ag B).e s5) ex) ?_;rintro _ ⟨_,_,_,rfl,hz,a1,_⟩;obtain ⟨_,_,_,_,_,_,_,_,_,_,_,_,rfl,_,_,_,_,_,_,_⟩:=a_v a1;refine Rf z a_G z<|R z (l0 g_3 z<|hz.at (j:=2) z)<|R z (d_p z z) ?_
 obtain ⟨_,a2,a0⟩:=bdS hmy;refine R z (f_3 z z<|nnS a2)<|R z (sb_ z z)<|Rw z ?_
 obtain rfl:=som a0;exact Wr<|f_ hr z ⟨bup h2 s5,z,iS _ _⟩
theorem W_w3a {x1:List Str}{x2:Str}{res:Bool}(hm:f_p x1 x2=some res)(a1:B<=w0.z)(G:repS w0 B (sl A0 N0 C0) x1)(a0:x2.b.length<=LEN):l_ prog 167 [sl A0 N0 C0,Str.v x2] w0 (Q7 w0 B res):=by
 unfold f_p at hm
 refine goG func167 z z z fun fn hr=>Ws<|Rw z<|Wq<|Wm z<|R z (lnR a_d z G)<|Rm z<|Wn ?_
 obtain ⟨_,V,J⟩:=bdS hm;refine Wf (σ:=Unit) (ρ:=Bool) (fun (k3:Nat)(_:Unit) a w=>Sat 17 [(1,Str.v x2),(7,sl A0 N0 C0),(8,vI (x1.length:Int)),(9,vI ((k3:Nat):Int))] a/\Below w0.z w0 w) (fun (_:Unit) a w=>Sat 17 [] a/\Below w0.z w0 w) (rQ prog fn<|Q7 w0 B) V ?_ ?_ ?_ ?_ ?_
 ·exact fun _ q=>⟨q.k<|s4 z z z z,br w0⟩
 ·rintro k3 _ _ _ _ L ⟨W,I⟩ Y;refine Wu ?_ W;refine Ws<|Rl z z z<|Wn<|Wq<|Wc z (fun _=>?_) (fun hc=>(a_0 L hc).elim)
  refine Wk<|Wq<|Wb<|Ws ?_
  obtain ⟨_,e9,O⟩:=bdS Y;refine RX z (at_ (α:=Str) a_d z_9 z z z (G.e I) e9) ?_;rintro _ ⟨_,_,_,rfl,ha,hb,_⟩;obtain ⟨rfl,_⟩:=b_P hb;refine R z (l0 g_9 z<|ha.at0 z)<|Rw z<|Wm z<|Rm z<|R z (e_l z z)<|Wx z (fun H=>?_) (fun H=>?_)
  ·exact Ws<|Rw z<|Wr<|rtO<|qL (som<|ifT O H).symm<|f_ hr z ⟨I,z⟩
  exact Wk<|Wg<|R z (inc_ L (lt_ (repS.len G) G_) z z)<|Rm z<|Wl (fun _ q=>⟨(),(som<|ifF O H).symm,⟨q.k<|s4 z z z z,I⟩⟩)
 ·rintro _ _ _ ⟨hSc,sd⟩;refine Wu ?_ hSc;refine Ws<|Rl z z z<|Wn<|Wq<|Wc z (fun hc=>(a_1 hc).elim) (fun _=>?_)
  exact We<|fun _ q=>⟨rfl,⟨q.k sn,sd⟩⟩
 ·rintro _ ae _ rfl ⟨_,sf⟩;have hmg:=elL J;revert ae;refine Wo<|Ws<|Rw z ?_
  obtain rfl:=som hmg;exact Wr<|f_ hr z ⟨sf,z⟩
 rintro _ _ _ _ rfl ⟨rfl,hqh⟩;have hmi:=elR J;obtain rfl:=som hmi;exact ⟨hqh,z⟩
theorem W_w3b {x1:g_}{res:Bool}(hm:h_8 n x1=some res)(O:B<=w0.z)(Y:x1.name.b.length<=LEN)(a0:inI x1.kind)(a1:inI x1.size)(a2:repS w0 B (sl AC NC CC) x1.bytes)(J:repS w0 B (sl AB NB CB) x1.names)(a3:repS w0 B (sl AD ND CD) x1.tags)(W:repS w0 B (sl AE NE CE) x1.kids):l_ prog 159 [(.agg #[Str.v x1.name,vI x1.kind,vI x1.size,vB x1.little,sl AC NC CC,sl AB NB CB,sl AD ND CD,sl AE NE CE])] w0 (Q7 w0 B res):=by
 unfold h_8 at hm
 refine goG func159 z z z fun fn hr=>Ws<|E z (fb z) ?_
 rintro _ V ⟨rfl,hi⟩;have h1:=hi.below;have ha:Blk V w0.z (vR x1 AC NC CC AB NB CB AD ND CD AE NE CE):=hi.blk;refine Rw z<|Wq<|Wq ?_
 obtain ⟨uy,huz,hmj⟩:=bdS hm;refine Wt (fun a w=>∃(xb:Bool),xb=uy/\Sat 44 [(1,pt w0.z),(23,vB xb)] a/\Below V.z V w) ?_ ?_
 ·refine Wg<|R z (lN (vs:=vR x1 AC NC CC AB NB CB AD ND CD AE NE CE) D_ t_ z z fid<|ha.row 0 8 z) ?_
  obtain ⟨ai,aj,hmk⟩:=bdS huz;refine E z (fc call158 z<|d_C aj (zt' O h1.s) Y a0 a1 (a2.e h1) (J.e h1) (a3.e h1) (W.e h1)<|ii z) ?_;rintro _ _ ⟨s6,rfl⟩;refine R z (not_ z)<|Rm z ?_
  rcases bs (!ai) with G | G
  ·iterate 7 refine Nh z G ?_
   exact R z (pT z G z)<|Rm z<|Nh z z<|Nh z z<|Nh z z<|Nh z z<|Nh z z<|R z (pT z z z)<|Wl (fun _ q=>⟨true,som<|ifT hmk G,q.k<|s2 z z,s6⟩)
  have hml:=ifF hmk G;refine Rh z G (fd R_ z) ?_;have hd:=ha.e s6;refine Rh z G (l0 A_ z<|hd.at z) ?_;have hn:=(h1.ag B).e s6;have he:=W.g hn;refine Rh z G (lnR y_ z he)<|Rh z G (fd c_b z)<|Rh z G (l0 b_L z<|hd.at z)<|Rh z G (lnR a_d z<|J.g hn)<|Rh z G (nq z z)<|R z (pF z G z)<|Rm z ?_
  rcases bs ((x1.kids.length:Int) != (x1.names.length:Int)) with I | I
  ·iterate 5 refine Nh z I ?_
   exact R z (pT z I z)<|Wl (fun _ q=>⟨true,som<|ifT hml I,q.k<|s2 z z,s6⟩)
  refine Rh z I (fd R_ z)<|Rh z I (l0 A_ z<|hd.at z)<|Rh z I (lnR y_ z he) ?_
  obtain ⟨ak,al,a4⟩:=bdS<|ifF hml I;refine Eg z z I z (fc call117 z<|d_j al (zt' O<|lt_ h1.s s6.s) (b_h<|repS.len he) (ii z)<|ii z) ?_;rintro _ _ ⟨am,rfl⟩;exact Rh z I (not_ z)<|R z (pF z I z)<|Wl (fun _ q=>⟨!ak,som a4,q.k<|s2 z z,bup s6 am⟩)
 rintro an L ⟨xb,rfl,_,s7⟩;revert an;refine Wo<|Wc z (fun hcc=>?_) (fun hcc=>?_)
 ·refine Ws<|Rw z ?_
  obtain rfl:=som<|ifT hmj hcc;exact Wr<|f_ hr z ⟨bup h1 s7,z⟩
 refine Wk<|Wq<|Ws<|Rf z c_b z ?_
 have ho:=ha.e s7;refine R z (l0 b_L z<|ho.at z) ?_;have hp:=(h1.ag B).e s7;refine R z (lnR a_d z<|J.g hp)<|Rm z<|Wn ?_
 obtain ⟨_,a5,hmm⟩:=bdS<|ifF hmj hcc;refine Wf (σ:=Unit) (ρ:=Bool) (fun (kf:Nat)(_:Unit) a w=>Sat 44 [(1,pt w0.z),(25,sl AB NB CB),(26,vI (x1.names.length:Int)),(27,vI ((kf:Nat):Int))] a/\Below L.z L w) (fun (_:Unit) a w=>Sat 44 [] a/\Below L.z L w) (rQ prog fn<|Q7 w0 B) a5 ?_ ?_ ?_ ?_ ?_
 ·exact fun _ q=>⟨q.k<|s4 z z z z,br L⟩
 ·rintro kf _ _ wq _ hkr ⟨a6,s8⟩ a7;refine Wu ?_ a6;refine Ws<|Rl z z z<|Wn<|Wq<|Wc z (fun _=>?_) (fun hc=>(a_0 hkr hc).elim)
  refine Wk<|Wq<|Wb<|Wm z ?_
  obtain ⟨_,ao,a8⟩:=bdS a7;have ht:=hp.e s8;refine RX z (at_ (α:=Str) a_d z_9 z z z (J.g ht) ao) ?_;rintro _ ⟨_,_,_,rfl,ap,aq,_⟩;obtain ⟨rfl,hu⟩:=b_P aq;refine R z (l0 g_9 z<|ap.at0 z)<|Ra z<|Rw z<|Wq ?_
  obtain ⟨ar,a9,hms⟩:=bdS a8;refine Wt (fun a w=>∃(xg:Bool),xg=ar/\Sat 44 [(1,pt w0.z),(25,sl AB NB CB),(26,vI (x1.names.length:Int)),(27,vI ((kf:Nat):Int)),(42,vB xg)] a/\Below wq.z wq w) ?_ ?_
  ·refine Wg<|Rm z ?_
   have hv:=lt_ (lt_ h1.s s7.s) s8.s;obtain ⟨au,av,hmw⟩:=bdS a9;refine E z (fc call143 z<|W_w1t av (zt' O hv) hu) ?_;rintro _ _ ⟨s9,rfl⟩;refine R z (not_ z)<|Rm z ?_
   rcases bs (!au) with H | H
   ·iterate 6 refine Nh z H ?_
    exact R z (pT z H z)<|Wl (fun _ q=>⟨true,som<|ifT hmw H,q.k<|s5 z z z z z,s9⟩)
   refine Rh z H (fd c_b z)<|Rh z H (l0 b_L z<|((ho.e s8).e s9).at z)<|Rh z H (mv z) ?_
   obtain ⟨_,aw,aa⟩:=bdS<|ifF hmw H;refine RXg z z H z (rX a_d z_9 z z (J.g<|ht.e s9) z z aw) ?_;rintro _ ⟨_,_,_,rfl,ax⟩;refine Rh z H (mv z) ?_;obtain ⟨ay,az,ab⟩:=bdS aa;refine Eg z z H z (fc call167 z<|W_w3a az (zt' O<|lt_ hv s9.s) ax hu) ?_;rintro _ _ ⟨aA,rfl⟩;exact R z (pF z H z)<|Wl (fun _ q=>⟨ay,som ab,q.k<|s5 z z z z z,bup s9 aA⟩)
  rintro aB _ ⟨xg,rfl,_,sx⟩;revert aB;refine Wo<|Wc z (fun hch=>?_) (fun hch=>?_)
  ·exact Ws<|Rw z<|Wr<|rtO<|qL (som<|ifT hms hch).symm<|f_ hr z ⟨bup (bup (bup h1 s7) s8) sx,z⟩
  exact Wk<|Wg<|R z (inc_ hkr (lt_ (repS.len J) G_) z z)<|Rm z<|Wl (fun _ q=>⟨(),(som<|ifF hms hch).symm,⟨q.k<|s4 z z z z,bup s8 sx⟩⟩)
 ·rintro _ _ _ ⟨ad,aC⟩;refine Wu ?_ ad;refine Ws<|Rl z z z<|Wn<|Wq<|Wc z (fun hc=>(a_1 hc).elim) (fun _=>?_)
  exact We<|fun _ q=>⟨rfl,⟨q.k sn,aC⟩⟩
 ·rintro _ aD _ rfl ⟨_,aE⟩;have ae:=elL hmm;revert aD;refine Wo<|Ws<|Rw z ?_
  obtain rfl:=som ae;exact Wr<|f_ hr z ⟨bup (bup h1 s7) aE,z⟩
 rintro _ _ _ _ rfl ⟨rfl,af⟩;have ah:=elR hmm;obtain rfl:=som ah;exact ⟨af,z⟩
theorem W_w3c {x1:c_}{x2:g_}{res:Bool}(hm:h_9 x1 x2=some res)(O:B<=w0.z)(a4:repS w0 B (sl A0 N0 C0) x1.rules)(a5:x2.name.b.length<=LEN)(a6:inI x2.kind)(a7:inI x2.size)(a8:repS w0 B (sl A3 N3 C3) x2.bytes)(a9:repS w0 B (sl A2 N2 C2) x2.names)(J:repS w0 B (sl A1 N1 C1) x2.tags)(V:repS w0 B (sl A4 N4 C4) x2.kids):l_ prog 160 [(.agg #[sl A0 N0 C0]),(.agg #[Str.v x2.name,vI x2.kind,vI x2.size,vB x2.little,sl A3 N3 C3,sl A2 N2 C2,sl A1 N1 C1,sl A4 N4 C4])] w0 (Q7 w0 B res):=by
 unfold h_9 at hm
 refine goG func160 z z z fun fn hr=>Ws<|E z (fb z) ?_
 rintro _ L ⟨rfl,hn⟩;have h4:=hn.below;refine E z (fb z) ?_;rintro _ wg ⟨rfl,ho⟩;have h3:=ho.below;have he:Blk wg L.z (vR x2 A3 N3 C3 A2 N2 C2 A1 N1 C1 A4 N4 C4):=ho.blk;refine Rw z<|Wq<|Wq ?_
 obtain ⟨aq,aa,hmp⟩:=bdS hm;refine Wt (fun a w=>∃(xh:Bool),xh=aq/\Sat 57 [(2,pt w0.z),(3,pt L.z),(21,vB xh)] a/\Below wg.z wg w) ?_ ?_
 ·refine Wg<|R z (lN (vs:=vR x2 A3 N3 C3 A2 N2 C2 A1 N1 C1 A4 N4 C4) D_ t_ z z fid<|he.row 0 8 z)<|Rf z b_f z<|R z (l0 A_ z<|he.at z) ?_
  have h6:=(h4.ag B).e h3;have hq:=J.g h6;refine R z (lnR y_ z hq)<|R z (add_ z z) ?_
  have ht:=lt_ h4.s h3.s;obtain ⟨ar,au,hmr⟩:=bdS aa;refine E z (fc call158 z<|d_C au (zt' O ht) a5 a6 a7 (a8.g h6) (a9.g h6) hq (V.g h6)<|iA _ _) ?_;rintro _ _ ⟨s9,rfl⟩;refine R z (not_ z)<|Rm z ?_
  rcases bs (!ar) with I | I
  ·iterate 5 refine Nh z I ?_
   exact R z (pT z I z)<|Wl (fun _ q=>⟨true,som<|ifT hmr I,q.k<|s3 z z z,s9⟩)
  refine Rh z I (fd b_f z)<|Rh z I (l0 A_ z<|(he.e s9).at z) ?_
  have hu:=J.g<|h6.e s9
  refine Rh z I (lnR y_ z hu) ?_;obtain ⟨av,aw,ab⟩:=bdS<|ifF hmr I;refine Eg z z I z (fc call117 z<|d_j aw (zt' O<|lt_ ht s9.s) (b_h<|repS.len hu) (ii z)<|ii z) ?_;rintro _ _ ⟨ax,rfl⟩;exact Rh z I (not_ z)<|R z (pF z I z)<|Wl (fun _ q=>⟨!av,som ab,q.k<|s3 z z z,bup s9 ax⟩)
 rintro ay _ ⟨xh,rfl,_,s7⟩;revert ay;refine Wo<|Wc z (fun hci=>?_) (fun hci=>?_)
 ·refine Ws<|Rw z ?_
  obtain rfl:=som<|ifT hmp hci;exact Wr<|f_ hr z ⟨bup (bup h4 h3) s7,z⟩
 refine Wk<|Wq (Wd (X:=noX) 0 (pl_ 7 [5]) mo (by kernel_rfl) fun aV s8 _=>dR z z (lN (vs:=[sl A0 N0 C0]) w_ v_ z z fid<|((((hn.blk:Blk L w0.z [sl A0 N0 C0]).e h3).e s7).e s8).row 0 1 z)<|dR z z (fd R_ z) ?_)
 have hv:=(he.e s7).e s8;refine dR z z (l0 A_ z<|hv.at z) ?_;obtain ⟨_,az,ad⟩:=bdS<|ifF hmp hci;have hj:=(((h4.ag B).e h3).e s7).e s8;refine dRX z z (at_ (α:=Int) y_ z_3 z z z (V.g hj) az) ?_;rintro _ ⟨_,_,_,rfl,aA,aB,_⟩;obtain ⟨rfl,aC⟩:=T_ aB;refine dR z z (l0 g_3 z<|aA.at0 z) ?_;have hw:=lt_ (lt_ (lt_ h4.s h3.s) s7.s) s8.s;obtain ⟨rk,aD,ae⟩:=bdS ad;refine dE z z (fc call145 z<|e_J aD (zt' O hw) (a4.g hj) aC) (.inr fun _ _ h=>o_<|h.1) ?_;rintro _ wa ⟨sb,rfl,aE⟩;refine dQ z z z<|pD<|Wo<|Wq<|Ws<|Rf z b_f z ?_
 have hx:=hv.e sb;refine R z (l0 A_ z<|hx.at z) ?_;have hy:=hj.e sb;refine R z (lnR y_ z<|J.g hy)<|Rm z<|Wn ?_
 obtain ⟨_,af,hms⟩:=bdS ae;refine Wf (σ:=Unit) (ρ:=Bool) (fun (kf:Nat)(_:Unit) a w=>Sat 57 [(3,pt L.z),(5,vI rk),(29,sl A1 N1 C1),(30,vI (x2.tags.length:Int)),(31,vI ((kf:Nat):Int))] a/\Below wa.z wa w) (fun (_:Unit) a w=>Sat 57 [(5,vI rk)] a/\Below wa.z wa w) (rQ prog fn<|Q7 w0 B) af ?_ ?_ ?_ ?_ ?_
 ·exact fun _ q=>⟨q.k<|s5 z z z z z,br wa⟩
 ·rintro kf _ _ wz _ W ⟨ah,sc⟩ ai;refine Wu ?_ ah;refine Ws<|Rl z z z<|Wn<|Wq<|Wc z (fun _=>?_) (fun hc=>(a_0 W hc).elim)
  refine Wk<|Wq<|Wb<|Wm z ?_
  obtain ⟨aF,aG,aj⟩:=bdS ai;have a2:=hy.e sc;refine RX z (at_ (α:=Int) y_ z_3 z z z (J.g a2) aG) ?_;rintro _ ⟨_,_,_,rfl,aH,aI,_⟩;obtain ⟨rfl,aJ⟩:=T_ aI;refine R z (l0 g_3 z<|aH.at0 z)<|Ra z<|Rw z<|Wq ?_
  obtain ⟨aK,ak,Y⟩:=bdS aj;refine Wt (fun a w=>∃(xl:Bool),xl=aK/\Sat 57 [(3,pt L.z),(5,vI rk),(29,sl A1 N1 C1),(30,vI (x2.tags.length:Int)),(31,vI ((kf:Nat):Int)),(53,vB xl)] a/\Below wz.z wz w) ?_ ?_
  ·refine Wg<|RM z z ?_
   obtain ⟨aL,aM,a0⟩:=bdS ak;refine E z (fc call117 z<|d_j aM (zt' O<|lt_ (lt_ hw sb.s) sc.s) aJ (ii z) aE) ?_;rintro _ _ ⟨sd,rfl⟩;refine R z (not_ z)<|Rm z ?_
   rcases bs (!aL) with H | H
   ·iterate 3 refine Nh z H ?_
    exact Nv z<|Nv z<|Nv z<|Nv z<|Nv z<|Nv z<|Nv z<|Nv z<|Nh z H<|R z (pT z H z)<|Wl (fun _ q=>⟨true,som<|ifT a0 H,q.k<|s6 z z z z z z,sd⟩)
   have a1:=ifF a0 H;refine Rh z H (mv z)<|Rh z H (a_C z z)<|Rh z H (mv z) ?_
   rcases bs (decide<|0<((kf:Nat):Int)) with G | G
   ·refine Rh z G (fd b_f z)<|Rh z G (l0 A_ z<|((hx.e sc).e sd).at z)<|Rh z G (mv z)<|Rh z G (sb_ z z) ?_
    obtain ⟨aN,aO,al⟩:=bdS<|ifT a1 G;refine RXg z z G z (at_ (α:=Int) y_ z_3 z z z (J.g<|a2.e sd) aO) ?_;rintro _ ⟨_,_,_,rfl,aP,aQ,_⟩;obtain ⟨rfl,_⟩:=T_ aQ;exact Rh z G (l0 g_3 z<|aP.at0 z)<|Rh z G (mv z)<|Rh z G (a_z z z)<|Rh z H (pT z G z)<|R z (pF z H z)<|Wl (fun _ q=>⟨decide<|aF<=aN,som al,q.k<|s6 z z z z z z,sd⟩)
   iterate 8 refine Nh z G ?_
   exact Rh z H (pF z G z)<|R z (pF z H z)<|Wl (fun _ q=>⟨false,som<|ifF a1 G,q.k<|s6 z z z z z z,sd⟩)
  rintro aR _ ⟨xl,rfl,_,a3⟩;revert aR;refine Wo<|Wc z (fun hcm=>?_) (fun hcm=>?_)
  ·exact Ws<|Rw z<|Wr<|rtO<|qL (som<|ifT Y hcm).symm<|f_ hr z ⟨bup (bup (bup (bup (bup (bup h4 h3) s7) s8) sb) sc) a3,z⟩
  exact Wk<|Wg<|R z (inc_ W (lt_ (repS.len J) G_) z z)<|Rm z<|Wl (fun _ q=>⟨(),(som<|ifF Y hcm).symm,⟨q.k<|s5 z z z z z,bup sc a3⟩⟩)
 ·rintro _ _ _ ⟨am,aS⟩;refine Wu ?_ am;refine Ws<|Rl z z z<|Wn<|Wq<|Wc z (fun hc=>(a_1 hc).elim) (fun _=>?_)
  exact We<|fun _ q=>⟨rfl,⟨q.k<|s1 z,aS⟩⟩
 ·rintro _ aT _ rfl ⟨_,aU⟩;have an:=elL hms;revert aT;refine Wo<|Wm z<|R z (a_C z z)<|Rw z ?_
  obtain rfl:=som an;exact Wr<|f_ hr z ⟨bup (bup (bup (bup (bup h4 h3) s7) s8) sb) aU,z⟩
 rintro _ _ _ _ rfl ⟨rfl,ao⟩;have ap:=elR hms;obtain rfl:=som ap;exact ⟨ao,z⟩
theorem W_w3d {x1:c_}{x2:g_}{res:Bool}(hm:h_a n x1 x2=some res)(L:B<=w0.z)(a7:repS w0 B (sl A0 N0 C0) x1.rules)(a3:x2.name.b.length<=LEN)(a4:inI x2.kind)(V:inI x2.size)(W:repS w0 B (sl A3 N3 C3) x2.bytes)(a5:repS w0 B (sl A2 N2 C2) x2.names)(a6:repS w0 B (sl A1 N1 C1) x2.tags)(Y:repS w0 B (sl A4 N4 C4) x2.kids):l_ prog 144 [(.agg #[sl A0 N0 C0]),(.agg #[Str.v x2.name,vI x2.kind,vI x2.size,vB x2.little,sl A3 N3 C3,sl A2 N2 C2,sl A1 N1 C1,sl A4 N4 C4])] w0 (Q7 w0 B res):=by
 unfold h_a at hm
 refine goG func144 z z z fun fn hr=>Ws<|E z (fb z) ?_
 rintro _ ww ⟨rfl,aJ⟩;have h1:=aJ.below;have hx:Blk ww w0.z [sl A0 N0 C0]:=aJ.blk;refine E z (fb z) ?_;rintro _ J ⟨rfl,aK⟩;have G:=aK.below;have h6:Blk J ww.z (vR x2 A3 N3 C3 A2 N2 C2 A1 N1 C1 A4 N4 C4):=aK.blk;refine Rw z<|Wq<|Ws<|Rf z a_M z<|R z (l0 g_3 z<|h6.at z)<|Wn<|Wb<|Ws<|Rq z z z<|Rw z<|Wc z (fun hcy=>?_) (fun hcy=>?_)
 ·refine Wq ?_;obtain ⟨bt,b3,b4⟩:=bdS<|ifT hm hcy;refine Wt (fun a w=>∃(xz:Bool),xz=bt/\Sat 102 [(4,vB xz)] a/\Below J.z J w) ?_ ?_
  ·refine Wg<|R z (lN (vs:=vR x2 A3 N3 C3 A2 N2 C2 A1 N1 C1 A4 N4 C4) D_ t_ z z fid<|h6.row 0 8 z) ?_
   have hq:=(h1.ag B).e G;have aL:=lt_ h1.s G.s;obtain ⟨bu,bv,ap⟩:=bdS b3;refine E z (fc call158 z<|d_C bv (zt' L aL) a3 a4 V (W.g hq) (a5.g hq) (a6.g hq) (Y.g hq)<|ii z) ?_;rintro _ _ ⟨se,rfl⟩;refine Rm z ?_
   rcases bs bu with hca | hca
   ·refine Rh z hca (fd a_G z) ?_;have aM:=h6.e se;refine Rh z hca (l0 g_3 z<|aM.at z) ?_;obtain ⟨bw,bx,aq⟩:=bdS<|ifT ap hca;refine Eg z z hca z (fc call117 z<|d_j bx (zt' L<|lt_ aL se.s) V (ii z)<|ii z) ?_;rintro _ _ ⟨sr,rfl⟩;refine R z (pT z hca z)<|Rm z ?_
    rcases bs bw with O | O
    ·have ar:=ifT aq O;refine Rh z O (fd c_R z) ?_;have aN:=aM.e sr;refine Rh z O (l0 g_4 z<|aN.at z)<|Rh z O (not_ z)<|Rh z O (mv z) ?_
     rcases bs (!x2.little) with hcb | hcb
     ·iterate 3 refine Nh z hcb ?_
      exact Rh z O (pT z hcb z)<|R z (pT z O z)<|Ra z<|Wl (fun _ q=>⟨true,som<|ifT ar hcb,q.k<|s1 z,bup se sr⟩)
     exact Rh z hcb (fd a_G z)<|Rh z hcb (l0 g_3 z<|aN.at z)<|Rh z hcb (a_C z z)<|Rh z O (pF z hcb z)<|R z (pT z O z)<|Ra z<|Wl (fun _ q=>⟨decide<|1<x2.size,som<|ifF ar hcb,q.k<|s1 z,bup se sr⟩)
    iterate 4 refine Nh z O ?_
    exact Nv z<|Nv z<|Nv z<|Nh z O<|R z (pF z O z)<|Ra z<|Wl (fun _ q=>⟨false,som<|ifF aq O,q.k<|s1 z,bup se sr⟩)
   iterate 3 refine Nh z hca ?_
   exact R z (pF z hca z)<|Rm z<|Nh z z<|Nh z z<|Nh z z<|Nh z z<|Nv z<|Nv z<|Nv z<|Nh z z<|R z (pF z z z)<|Ra z<|Wl (fun _ q=>⟨false,som<|ifF ap hca,q.k<|s1 z,se⟩)
  rintro bz _ ⟨xz,rfl,_,bA⟩;revert bz;refine Wo ?_;obtain rfl:=som b4;exact Wr<|rtO<|f_ hr z ⟨bup (bup h1 G) bA,z⟩
 have au:=ifF hm hcy;refine Ws<|Rq z z z<|Rw z<|Wc z (fun a8=>?_) (fun a8=>?_)
 ·refine Wq ?_;obtain ⟨bB,b5,b6⟩:=bdS<|ifT au a8;refine Wt (fun a w=>∃(aj:Bool),aj=bB/\Sat 102 [(4,vB aj)] a/\Below J.z J w) ?_ ?_
  ·refine Wg<|R z (lN (vs:=vR x2 A3 N3 C3 A2 N2 C2 A1 N1 C1 A4 N4 C4) D_ t_ z z fid<|h6.row 0 8 z) ?_
   have hj:=(h1.ag B).e G;have aO:=lt_ h1.s G.s;obtain ⟨bC,bD,av⟩:=bdS b5;refine E z (fc call158 z<|d_C bD (zt' L aO) a3 a4 V (W.g hj) (a5.g hj) (a6.g hj) (Y.g hj)<|ii z) ?_;rintro _ _ ⟨sk,rfl⟩;refine Rm z ?_
   rcases bs bC with a1 | a1
   ·refine Rh z a1 (fd a_Z z)<|Rh z a1 (l0 J_ z<|(h6.e sk).at z) ?_
    have aP:=W.g<|hj.e sk
    refine Rh z a1 (lnR n_ z aP) ?_;obtain ⟨bE,bF,b7⟩:=bdS<|ifT av a1;refine Eg z z a1 z (fc call117 z<|d_j bF (zt' L<|lt_ aO sk.s) (b_h<|repS.len aP) (ii z)<|ii z) ?_;rintro _ _ ⟨bG,rfl⟩;exact R z (pT z a1 z)<|Ra z<|Wl (fun _ q=>⟨bE,som b7,q.k<|s1 z,bup sk bG⟩)
   iterate 4 refine Nh z a1 ?_
   exact R z (pF z a1 z)<|Ra z<|Wl (fun _ q=>⟨false,som<|ifF av a1,q.k<|s1 z,sk⟩)
  rintro bH _ ⟨aj,rfl,_,bI⟩;revert bH;refine Wo ?_;obtain rfl:=som b6;exact Wr<|rtO<|f_ hr z ⟨bup (bup h1 G) bI,z⟩
 have aw:=ifF au a8;refine Ws<|Rq z z z<|Rw z<|Wc z (fun a9=>?_) (fun a9=>?_)
 ·refine Wq ?_;obtain ⟨bJ,b8,b9⟩:=bdS<|ifT aw a9;refine Wt (fun a w=>∃(ak:Bool),ak=bJ/\Sat 102 [(4,vB ak)] a/\Below J.z J w) ?_ ?_
  ·refine Wg<|R z (lN (vs:=vR x2 A3 N3 C3 A2 N2 C2 A1 N1 C1 A4 N4 C4) D_ t_ z z fid<|h6.row 0 8 z) ?_
   have ht:=(h1.ag B).e G;have aQ:=lt_ h1.s G.s;obtain ⟨bK,bL,ax⟩:=bdS b8;refine E z (fc call158 z<|d_C bL (zt' L aQ) a3 a4 V (W.g ht) (a5.g ht) (a6.g ht) (Y.g ht)<|ii z) ?_;rintro _ _ ⟨ss,rfl⟩;refine Rm z ?_
   rcases bs bK with hcc | hcc
   ·refine Rh z hcc (fd a_G z)<|Rh z hcc (l0 g_3 z<|(h6.e ss).at z) ?_
    obtain ⟨bM,bN,ba⟩:=bdS<|ifT ax hcc;refine Eg z z hcc z (fc call117 z<|d_j bN (zt' L<|lt_ aQ ss.s) V (ii z)<|ii z) ?_;rintro _ _ ⟨bO,rfl⟩;exact R z (pT z hcc z)<|Ra z<|Wl (fun _ q=>⟨bM,som ba,q.k<|s1 z,bup ss bO⟩)
   iterate 3 refine Nh z hcc ?_
   exact R z (pF z hcc z)<|Ra z<|Wl (fun _ q=>⟨false,som<|ifF ax hcc,q.k<|s1 z,ss⟩)
  rintro bP _ ⟨ak,rfl,_,bQ⟩;revert bP;refine Wo ?_;obtain rfl:=som b9;exact Wr<|rtO<|f_ hr z ⟨bup (bup h1 G) bQ,z⟩
 have ay:=ifF aw a9;refine Ws<|Rq z z z<|Rw z<|Wc z (fun aa=>?_) (fun aa=>?_)
 ·refine Wq ?_;obtain ⟨bR,bb,bc⟩:=bdS<|ifT ay aa;refine Wt (fun a w=>∃(al:Bool),al=bR/\Sat 102 [(4,vB al)] a/\Below J.z J w) ?_ ?_
  ·refine Wd (X:=noX) 0 (pl_ 12 [1,8]) mo (by kernel_rfl) fun cx sf _=>?_
   have aR:=h6.e sf;refine dR z z (lN (vs:=vR x2 A3 N3 C3 A2 N2 C2 A1 N1 C1 A4 N4 C4) D_ t_ z z fid<|aR.row 0 8 z) ?_;have hl:=((h1.ag B).e G).e sf;have aS:=lt_ (lt_ h1.s G.s) sf.s;obtain ⟨bS,bT,az⟩:=bdS bb;refine dE z z (fc call158 z<|d_C bT (zt' L aS) a3 a4 V (W.g hl) (a5.g hl) (a6.g hl) (Y.g hl)<|ii z) (.inr fun _ _ h=>o_<|h.1) ?_;rintro _ _ ⟨sg,rfl⟩;refine dM z z z ?_
   rcases bs bS with H | H
   ·refine dRg z z z H z (lN (vs:=[sl A0 N0 C0]) w_ v_ z z fid<|(((hx.e G).e sf).e sg).row 0 1 z)<|dRg z z z H z (fd R_ z)<|dRg z z z H z (l0 A_ z<|(aR.e sg).at z) ?_
    obtain ⟨_,bU,be⟩:=bdS<|ifT az H;have aT:=hl.e sg;refine c_n z z z H z (at_ (α:=Int) y_ z_3 z z z (Y.g aT) bU) ?_;rintro _ ⟨_,_,_,rfl,bV,bW,_⟩;obtain ⟨rfl,bX⟩:=T_ bW;refine dRg z z z H z (l0 g_3 z<|bV.at0 z) ?_;obtain ⟨bY,bZ,bf⟩:=bdS be;refine dEg z z z H z (fc call145 z<|e_J bZ (zt' L<|lt_ aS sg.s) (a7.g aT) bX) (.inr fun _ _ h=>o_<|h.1) ?_;rintro _ _ ⟨c0,rfl,_⟩;exact dRg z z z H z (a_C z z)<|dR z z (pT z H z)<|dQ z z z<|pD (fun _ q=>⟨decide<|0<bY,som bf,q.k<|s1 z,bup (bup sf sg) c0⟩)
   iterate 5 refine dRn z z z H z ?_
   exact dEn z z z H z<|dRn z z z H z<|dR z z (pF z H z)<|dQ z z z<|pD (fun _ q=>⟨false,som<|ifF az H,q.k<|s1 z,bup sf sg⟩)
  rintro c1 _ ⟨al,rfl,_,c2⟩;revert c1;refine Wo ?_;obtain rfl:=som bc;exact Wr<|rtO<|f_ hr z ⟨bup (bup h1 G) c2,z⟩
 have aA:=ifF ay aa;refine Ws<|Rq z z z<|Rw z<|Wc z (fun ab=>?_) (fun ab=>?_)
 ·refine Wq ?_;obtain ⟨c3,bg,bh⟩:=bdS<|ifT aA ab;refine Wt (fun a w=>∃(am:Bool),am=c3/\Sat 102 [(4,vB am)] a/\Below J.z J w) ?_ ?_
  ·refine Wd (X:=noX) 0 (pl_ 12 [1,8]) mo (by kernel_rfl) fun cy sh _=>?_
   have aU:=h6.e sh;refine dR z z (lN (vs:=vR x2 A3 N3 C3 A2 N2 C2 A1 N1 C1 A4 N4 C4) D_ t_ z z fid<|aU.row 0 8 z) ?_;have hn:=((h1.ag B).e G).e sh;have aV:=lt_ (lt_ h1.s G.s) sh.s;obtain ⟨c4,c5,aB⟩:=bdS bg;refine dE z z (fc call158 z<|d_C c5 (zt' L aV) a3 a4 V (W.g hn) (a5.g hn) (a6.g hn) (Y.g hn)<|ii z) (.inr fun _ _ h=>o_<|h.1) ?_;rintro _ _ ⟨si,rfl⟩;refine dM z z z ?_
   rcases bs c4 with I | I
   ·refine dRg z z z I z (lN (vs:=[sl A0 N0 C0]) w_ v_ z z fid<|(((hx.e G).e sh).e si).row 0 1 z)<|dRg z z z I z (fd R_ z)<|dRg z z z I z (l0 A_ z<|(aU.e si).at z) ?_
    obtain ⟨_,c6,bi⟩:=bdS<|ifT aB I;have aW:=hn.e si;refine c_n z z z I z (at_ (α:=Int) y_ z_3 z z z (Y.g aW) c6) ?_;rintro _ ⟨_,_,_,rfl,c7,c8,_⟩;obtain ⟨rfl,c9⟩:=T_ c8;refine dRg z z z I z (l0 g_3 z<|c7.at0 z) ?_;obtain ⟨ca,cb,bj⟩:=bdS bi;refine dEg z z z I z (fc call145 z<|e_J cb (zt' L<|lt_ aV si.s) (a7.g aW) c9) (.inr fun _ _ h=>o_<|h.1) ?_;rintro _ _ ⟨cc,rfl,_⟩;exact dRg z z z I z (a_C z z)<|dR z z (pT z I z)<|dQ z z z<|pD (fun _ q=>⟨decide<|0<ca,som bj,q.k<|s1 z,bup (bup sh si) cc⟩)
   iterate 5 refine dRn z z z I z ?_
   exact dEn z z z I z<|dRn z z z I z<|dR z z (pF z I z)<|dQ z z z<|pD (fun _ q=>⟨false,som<|ifF aB I,q.k<|s1 z,bup sh si⟩)
  rintro cd _ ⟨am,rfl,_,ce⟩;revert cd;refine Wo ?_;obtain rfl:=som bh;exact Wr<|rtO<|f_ hr z ⟨bup (bup h1 G) ce,z⟩
 have aC:=ifF aA ab;refine Ws<|Rq z z z<|Rw z<|Wc z (fun ad=>?_) (fun ad=>?_)
 ·refine Ws<|R z (lN (vs:=vR x2 A3 N3 C3 A2 N2 C2 A1 N1 C1 A4 N4 C4) D_ t_ z z fid<|h6.row 0 8 z) ?_
  have hu:=(h1.ag B).e G;obtain ⟨_,cf,bk⟩:=bdS<|ifT aC ad;refine E z (fc call159 z<|W_w3b cf (zt' L<|lt_ h1.s G.s) a3 a4 V (W.g hu) (a5.g hu) (a6.g hu)<|Y.g hu) ?_;rintro _ _ ⟨cg,rfl⟩;refine Rw z ?_
  obtain rfl:=som bk;exact Wr<|rtO<|f_ hr z ⟨bup (bup h1 G) cg,z⟩
 have aD:=ifF aC ad;refine Ws<|Rq z z z<|Rw z<|Wc z (fun ae=>?_) (fun ae=>?_)
 ·refine Ws<|R z (lN (vs:=[sl A0 N0 C0]) w_ v_ z z fid<|(hx.e G).row 0 1 z)<|R z (lN (vs:=vR x2 A3 N3 C3 A2 N2 C2 A1 N1 C1 A4 N4 C4) D_ t_ z z fid<|h6.row 0 8 z) ?_
  have ho:=(h1.ag B).e G;obtain ⟨_,ch,bm⟩:=bdS<|ifT aD ae;refine E z (fc call160 z<|W_w3c ch (zt' L<|lt_ h1.s G.s) (a7.g ho) a3 a4 V (W.g ho) (a5.g ho) (a6.g ho)<|Y.g ho) ?_;rintro _ _ ⟨ci,rfl⟩;refine Rw z ?_
  obtain rfl:=som bm;exact Wr<|rtO<|f_ hr z ⟨bup (bup h1 G) ci,z⟩
 refine Wq<|Ws<|Rq z z z<|Rw z ?_
 obtain ⟨cj,aE,aF⟩:=bdS<|ifF aD ae;refine Wt (fun a w=>∃(an:Bool),an=cj/\Sat 102 [(3,pt ww.z),(6,vI x2.kind),(80,vB an)] a/\Below J.z J w) ?_ ?_
 ·refine Wc z (fun af=>?_)<|fun af=>?_
  ·exact a_I<|fun _ q=>⟨x2.kind==8,som<|ifT aE af,q.k<|s3 z z z,br J⟩
  exact Wg<|Rq z z z<|Ra z<|Wl (fun _ q=>⟨x2.kind==9,som<|ifF aE af,q.k<|s3 z z z,br J⟩)
 rintro ck aX ⟨an,rfl,_,sd⟩;revert ck;refine Wo<|Wc z (fun ah=>?_) (fun ah=>?_)
 ·refine Ws<|R z (lN (vs:=vR x2 A3 N3 C3 A2 N2 C2 A1 N1 C1 A4 N4 C4) D_ t_ z z fid<|(h6.e sd).row 0 8 z) ?_
  have hv:=((h1.ag B).e G).e sd;obtain ⟨_,cl,bn⟩:=bdS<|ifT aF ah;refine E z (fc call158 z<|d_C cl (zt' L<|lt_ (lt_ h1.s G.s) sd.s) a3 a4 V (W.g hv) (a5.g hv) (a6.g hv) (Y.g hv)<|ii z) ?_;rintro _ _ ⟨cm,rfl⟩;refine Rw z ?_
  obtain rfl:=som bn;exact Wr<|rtO<|f_ hr z ⟨bup (bup (bup h1 G) sd) cm,z⟩
 have aG:=ifF aF ah;refine Ws<|Rq z z z<|Rw z<|Wc z (fun ai=>?_) (fun ai=>?_)
 ·refine Wq ?_;obtain ⟨cn,bo,bp⟩:=bdS<|ifT aG ai;refine Wt (fun a w=>∃(ao:Bool),ao=cn/\Sat 102 [(4,vB ao)] a/\Below aX.z aX w) ?_ ?_
  ·refine Wg ?_;have aY:=h6.e sd;refine R z (lN (vs:=vR x2 A3 N3 C3 A2 N2 C2 A1 N1 C1 A4 N4 C4) D_ t_ z z fid<|aY.row 0 8 z) ?_;have hp:=((h1.ag B).e G).e sd;obtain ⟨co,cp,aH⟩:=bdS bo;refine E z (fc call158 z<|d_C cp (zt' L<|lt_ (lt_ h1.s G.s) sd.s) a3 a4 V (W.g hp) (a5.g hp) (a6.g hp) (Y.g hp)<|ii z) ?_;rintro _ _ ⟨sm,rfl⟩;refine Rm z ?_
   rcases bs co with a2 | a2
   ·have aI:=ifT aH a2;refine Rh z a2 (fd a_Z z) ?_;have aZ:=aY.e sm;refine Rh z a2 (l0 J_ z<|aZ.at z) ?_;have b0:=W.g<|hp.e sm
    refine Rh z a2 (lnR n_ z b0)<|Rh z a2 (eql z z)<|R z (pT z a2 z)<|Rm z ?_
    rcases bs ((x2.bytes.length:Int)==1) with a0 | a0
    ·refine Rh z a0 (fd a_Z z)<|Rh z a0 (l0 J_ z<|aZ.at z) ?_
     obtain ⟨cq,cr,bq⟩:=bdS<|ifT aI a0;refine RXg z z a0 z (at_ (α:=UInt8) n_ z_5 z z z b0 cr) ?_;rintro _ ⟨_,_,_,rfl,ct,cu,_⟩;obtain rfl:=u8 cu;exact Rh z a0 (l0 g_5 z<|ct.at0 z)<|Rh z a0 (nq z z)<|R z (pT z a0 z)<|Ra z<|Wl (fun _ q=>⟨(byteI cq) != (byteI (92:UInt8)),som bq,q.k<|s1 z,sm⟩)
    iterate 5 refine Nh z a0 ?_
    exact R z (pF z a0 z)<|Ra z<|Wl (fun _ q=>⟨false,som<|ifF aI a0,q.k<|s1 z,sm⟩)
   iterate 4 refine Nh z a2 ?_
   exact R z (pF z a2 z)<|Rm z<|Nh z z<|Nh z z<|Nh z z<|Nh z z<|Nh z z<|R z (pF z z z)<|Ra z<|Wl (fun _ q=>⟨false,som<|ifF aH a2,q.k<|s1 z,sm⟩)
  rintro cv _ ⟨ao,rfl,_,cw⟩;revert cv;refine Wo ?_;obtain rfl:=som bp;exact Wr<|rtO<|f_ hr z ⟨bup (bup (bup h1 G) sd) cw,z⟩
 refine Wk<|Ws<|Rw z ?_
 obtain rfl:=som<|ifF aG ai;exact Wr<|f_ hr z ⟨bup (bup h1 G) sd,z⟩
theorem W_w3e {x1:c_}{x2:Int}{res:Bool}(hm:h_b n x1 x2=some res)(V:B<=w0.z)(O:repS w0 B (sl A0 N0 C0) x1.rules)(aU:inI x2):l_ prog 118 [(.agg #[sl A0 N0 C0]),vI x2] w0 (Q7 w0 B res):=by
 unfold h_b at hm
 refine goG func118 z z z fun fn hr=>Ws<|E z (fb z) ?_
 rintro _ bh ⟨rfl,am⟩;have h2:=am.below;have ho:Blk bh w0.z [sl A0 N0 C0]:=am.blk;refine Rw z<|Wq<|Ws<|R z (lN (vs:=[sl A0 N0 C0]) w_ v_ z z fid<|ho.row 0 1 z)<|Rm z ?_
 obtain ⟨_,bi,a8⟩:=bdS hm;refine E z (fc call68 z<|k_O bi (zt' V h2.s) (O.e h2) aU) ?_;rintro _ J ⟨s5,rfl⟩;refine R z (not_ z)<|Wx z (fun hcp=>?_) (fun hcp=>?_)
 ·refine Ws<|Rw z ?_
  obtain rfl:=som<|ifT a8 hcp;exact Wr<|f_ hr z ⟨bup h2 s5,z⟩
 refine Wk<|Ws<|Rf z a_9 z ?_
 have an:=ho.e s5;refine R z (l0 a_b z<|an.at z)<|Rm z ?_
 obtain ⟨L,bj,aV⟩:=bdS<|ifF a8 hcp;have ao:=(h2.ag B).e s5;refine RX z (at_ (α:=g_) a_3 t_ z z z (O.g ao) bj) ?_;rintro _ ⟨_,_,_,rfl,bk,bm,_⟩;obtain ⟨aq,nr,cs,au,nt,cv,aw,nx,cy,ae,nf,cg,rfl,ap,bn,bo,bp,bq,bt,hj⟩:=a_v bm;refine R z (lN (vs:=vR L aq nr cs au nt cv aw nx cy ae nf cg) D_ t_ z z fid bk)<|E z (fa b_Y) ?_
 rintro _ bu ⟨rfl,ar⟩;have h4:=ar.below;have av:Blk bu J.z [(Str.v (⟨[]⟩:Str)),vI 0,vI 0,vB false,sl none 0 0,sl none 0 0,sl none 0 0,sl none 0 0]:=ar.blk;refine E0 (fs0 (cur':=vR L aq nr cs au nt cv aw nx cy ae nf cg) t_ z z av z z z z) ?_;rintro _ ax ⟨hk,bv⟩;have h3:=bv.one;refine Wn<|Wq<|Wq ?_
 obtain ⟨bw,aW,a9⟩:=bdS aV;refine Wt (fun a w=>∃(xz:Bool),xz=bw/\Sat 65 [(1,vI x2),(2,pt w0.z),(5,pt J.z),(31,vB xz)] a/\Below ax.z ax w) ?_ ?_
 ·refine Wg<|Rf z d_z z<|R z (l0 g_9 z<|hk.at z) ?_
  obtain ⟨bx,bz,aa⟩:=bdS aW;refine E z (fc call143 z<|W_w1t bz (zt' V<|lt_ (lt_ (lt_ h2.s s5.s) h4.s) h3.s) ap) ?_;rintro _ _ ⟨sm,rfl⟩;refine R z (not_ z)<|Rm z ?_
  rcases bs (!bx) with G | G
  ·iterate 3 refine Nh z G ?_
   exact Nv z<|Nv z<|Nv z<|Nh z G<|R z (pT z G z)<|Wl (fun _ q=>⟨true,som<|ifT aa G,q.k<|s4 z z z z,sm⟩)
  have ab:=ifF aa G;refine Rh z G (fd c_R z) ?_;have ay:=hk.e sm;refine Rh z G (l0 g_4 z<|ay.at z)<|Rh z G (mv z) ?_
  rcases bs L.little with H | H
  ·exact Rh z H (fd a_M z)<|Rh z H (l0 g_3 z<|ay.at z)<|Rh z H (nq z z)<|Rh z G (pT z H z)<|R z (pF z G z)<|Wl (fun _ q=>⟨L.kind != 1,som<|ifT ab H,q.k<|s4 z z z z,sm⟩)
  iterate 3 refine Nh z H ?_
  exact Rh z G (pF z H z)<|R z (pF z G z)<|Wl (fun _ q=>⟨false,som<|ifF ab H,q.k<|s4 z z z z,sm⟩)
 rintro bA wh ⟨xz,rfl,_,s1⟩;revert bA;refine Wo<|Wc z (fun W=>?_) (fun W=>?_)
 ·refine Ws<|Rw z ?_
  obtain rfl:=som<|ifT a9 W;exact Wr<|f_ hr z ⟨bup (bM (bup (bup h2 s5) h4) h3<|m1<|lt_ h2.s s5.s) s1,z⟩
 refine Wk<|Wq<|Ws<|Rf z a_9 z ?_
 have az:=((an.e h4).c h3<|djs<|mm1 ho.lt s5.s).e s1;refine R z (l0 a_b z<|az.at z)<|Rm z ?_
 obtain ⟨bB,bC,aX⟩:=bdS<|ifF a9 W;have hd:=lt_ h2.s s5.s;have aA:∀k∈[J.z],¬B k:=or0 (d_ lr)<|p_<|zt' V hd;have aB:=((ao.e h4).c h3<|e_ aA).e s1;refine RX z (rX a_3 t_ z z (O.g aB) z z bC) ?_;rintro _ ⟨bD,bE,bF,rfl,a1⟩;refine R z (lnR a_3 z a1)<|Rm z<|Wn ?_
 obtain ⟨_,aY,ad⟩:=bdS aX;refine Wf (σ:=Unit) (ρ:=Bool) (fun (aC:Nat)(_:Unit) a w=>Sat 65 [(1,vI x2),(2,pt w0.z),(5,pt J.z),(35,sl bD bE bF),(36,vI (bB.length:Int)),(37,vI ((aC:Nat):Int))] a/\Below wh.z wh w) (fun (_:Unit) a w=>Sat 65 [(1,vI x2),(2,pt w0.z),(5,pt J.z)] a/\Below wh.z wh w) (rQ prog fn<|Q7 w0 B) aY ?_ ?_ ?_ ?_ ?_
 ·exact fun _ q=>⟨q.k<|s6 z z z z z z,br wh⟩
 ·rintro aC _ _ bG _ af ⟨aZ,sa⟩ b0;refine Wu ?_ aZ;refine Ws<|Rl z z z<|Wn<|Wq<|Wc z (fun _=>?_) (fun hc=>(a_0 af hc).elim)
  refine Wk<|Wq<|Wb<|Ws ?_
  obtain ⟨aD,bH,ah⟩:=bdS b0;refine RX z (at_ (α:=g_) a_3 t_ z z z (a1.e sa) bH) ?_;rintro _ ⟨_,_,_,rfl,bI,bJ,_⟩;obtain ⟨aE,aF,aG,aH,aI,aJ,aK,aL,aM,aN,aO,aP,rfl,_,_,_,_,_,_,_⟩:=a_v bJ;refine R z (lN (vs:=vR aD aE aF aG aH aI aJ aK aL aM aN aO aP) D_ t_ z z fid bI)<|E z (fa b_Y) ?_
  rintro _ bK ⟨rfl,aQ⟩;have a2:=aQ.below;refine E0 (fs0 (cur':=vR aD aE aF aG aH aI aJ aK aL aM aN aO aP) t_ z z (aQ.blk:Blk bK bG.z [(Str.v (⟨[]⟩:Str)),vI 0,vI 0,vB false,sl none 0 0,sl none 0 0,sl none 0 0,sl none 0 0]) z z z z) ?_;rintro _ _ ⟨bL,bN⟩;have a3:=bN.one;refine Wn<|Ws<|Rf z d_z z<|R z (l0 g_9 z<|bL.at z)<|Rf z d_z z<|R z (l0 g_9 z<|((((hk.e s1).e sa).e a2).c a3<|djs<|mm1 av.lt<|lt_ (lt_ h3.s s1.s) sa.s).at z)<|R z (e_l z z)<|Wx z (fun Y=>?_) (fun Y=>?_)
  ·exact Ws<|Rw z<|Wr<|rtO<|qL (som<|ifT ah Y).symm<|f_ hr z ⟨bM (bup (bup (bup (bM (bup (bup h2 s5) h4) h3<|m1 hd) s1) sa) a2) a3<|m1<|lt_ (lt_ (lt_ (lt_ hd h4.s) h3.s) s1.s) sa.s,z⟩
  exact Wk<|Wg<|R z (inc_ af (lt_ (repS.len a1) G_) z z)<|Rm z<|Wl (fun _ q=>⟨(),(som<|ifF ah Y).symm,⟨q.k<|s6 z z z z z z,bM (bup sa a2) a3<|m1 sa.s⟩⟩)
 ·rintro _ _ _ ⟨b3,bO⟩;refine Wu ?_ b3;refine Ws<|Rl z z z<|Wn<|Wq<|Wc z (fun hc=>(a_1 hc).elim) (fun _=>?_)
  exact We<|fun _ q=>⟨rfl,⟨q.k<|s3 z z z,bO⟩⟩
 ·rintro _ bP wi rfl ⟨_,sb⟩;have b4:=elL ad;revert bP;refine Wo<|Wq<|Ws<|Rf z R_ z ?_
  have aR:=(hk.e s1).e sb;refine R z (l0 A_ z<|aR.at z) ?_;have a4:=(((h4.ag B).c h3<|e_ aA).e s1).e sb;refine R z (lnR y_ z<|hj.g a4)<|Rm z<|Wn ?_
  obtain ⟨_,b5,ai⟩:=bdS b4;refine Wf (σ:=Unit) (ρ:=Bool) (fun (a5:Nat)(_:Unit) a w=>Sat 65 [(1,vI x2),(2,pt w0.z),(5,pt J.z),(48,sl ae nf cg),(49,vI (L.kids.length:Int)),(50,vI ((a5:Nat):Int))] a/\Below wi.z wi w) (fun (_:Unit) a w=>Sat 65 [(2,pt w0.z),(5,pt J.z)] a/\Below wi.z wi w) (rQ prog fn<|Q7 w0 B) b5 ?_ ?_ ?_ ?_ ?_
  ·exact fun _ q=>⟨q.k<|s6 z z z z z z,br wi⟩
  ·rintro a5 _ _ wl _ aj ⟨b6,a6⟩ b7;refine Wu ?_ b6;refine Ws<|Rl z z z<|Wn<|Wq<|Wc z (fun _=>?_) (fun hc=>(a_0 aj hc).elim)
   refine Wk<|Wq<|Wb<|Ws ?_
   obtain ⟨aS,bQ,b8⟩:=bdS b7;refine RX z (at_ (α:=Int) y_ z_3 z z z (hj.g<|a4.e a6) bQ) ?_;rintro _ ⟨_,_,_,rfl,bR,bS,_⟩;obtain ⟨rfl,_⟩:=T_ bS;refine R z (l0 g_3 z<|bR.at0 z)<|Rw z<|Wq ?_
   obtain ⟨bT,ak,al⟩:=bdS b8;refine Wt (fun a w=>∃(a7:Bool),a7=bT/\Sat 65 [(1,vI x2),(2,pt w0.z),(5,pt J.z),(48,sl ae nf cg),(49,vI (L.kids.length:Int)),(50,vI ((a5:Nat):Int)),(60,vB a7)] a/\Below wl.z wl w) ?_ ?_
   ·refine Wg<|Rm z<|Rl z z z<|Rm z ?_
    rcases bs (decide<|aS<0) with I | I
    ·iterate 3 refine Nh z I ?_
     exact R z (pT z I z)<|Wl (fun _ q=>⟨true,som<|ifT ak I,q.k<|s7 z z z z z z z,br wl⟩)
    exact Rh z I (mv z)<|Rh z I (mv z)<|Rh z I (a_z z z)<|R z (pF z I z)<|Wl (fun _ q=>⟨decide<|x2<=aS,som<|ifF ak I,q.k<|s7 z z z z z z z,br wl⟩)
   rintro bU _ ⟨a7,rfl,_,aT⟩;revert bU;refine Wo<|Wc z (fun a0=>?_) (fun a0=>?_)
   ·exact Ws<|Rw z<|Wr<|rtO<|qL (som<|ifT al a0).symm<|f_ hr z ⟨bup (bup (bup (bup (bM (bup (bup h2 s5) h4) h3<|m1 hd) s1) sb) a6) aT,z⟩
   exact Wk<|Wg<|R z (inc_ aj (lt_ (repS.len hj) G_) z z)<|Rm z<|Wl (fun _ q=>⟨(),(som<|ifF al a0).symm,⟨q.k<|s6 z z z z z z,bup a6 aT⟩⟩)
  ·rintro _ _ _ ⟨b9,bV⟩;refine Wu ?_ b9;refine Ws<|Rl z z z<|Wn<|Wq<|Wc z (fun hc=>(a_1 hc).elim) (fun _=>?_)
   exact We<|fun _ q=>⟨rfl,⟨q.k<|s2 z z,bV⟩⟩
  ·rintro _ bW _ rfl ⟨_,sc⟩;have ba:=elL ai;revert bW;refine Wo<|Ws<|R z (lN (vs:=[sl A0 N0 C0]) w_ v_ z z fid<|((az.e sb).e sc).row 0 1 z)<|R z (lN (vs:=vR L aq nr cs au nt cv aw nx cy ae nf cg) D_ t_ z z fid<|(aR.e sc).row 0 8 z) ?_
   have hn:=a4.e sc;obtain ⟨_,bX,bb⟩:=bdS ba;refine E z (fc call144 z<|W_w3d bX (zt' V<|lt_ (lt_ (lt_ (lt_ (lt_ hd h4.s) h3.s) s1.s) sb.s) sc.s) (O.g<|(aB.e sb).e sc) ap bn bo (bp.g hn) (bq.g hn) (bt.g hn)<|hj.g hn) ?_;rintro _ _ ⟨bY,rfl⟩;refine Rw z ?_
   obtain rfl:=som bb;exact Wr<|f_ hr z ⟨bup (bup (bup (bup (bM (bup (bup h2 s5) h4) h3<|m1 hd) s1) sb) sc) bY,z⟩
  rintro _ _ _ _ rfl ⟨rfl,bc⟩;have be:=elR ai;obtain rfl:=som be;exact ⟨bc,z⟩
 rintro _ _ _ _ rfl ⟨rfl,bf⟩;have bg:=elR ad;obtain rfl:=som bg;exact ⟨bf,z⟩
theorem W_w3f {x1:c_}{res:Bool}(hm:h_c n x1=some res)(V:B<=w0.z)(H:repS w0 B (sl A0 N0 C0) x1.rules):l_ prog 67 [(.agg #[sl A0 N0 C0])] w0 (Q7 w0 B res):=by
 unfold h_c at hm
 refine goG func67 z z z fun fn hr=>Ws<|E z (fb z) ?_
 rintro _ wh ⟨rfl,W⟩;have G:=W.below;have Y:Blk wh w0.z [sl A0 N0 C0]:=W.blk;refine Rw z<|Wq<|Ws<|Rf z a_9 z<|R z (l0 a_b z<|Y.at z) ?_
 have h9:=H.e G;refine R z (lnR a_3 z h9) ?_;obtain ⟨_,ei,hma⟩:=bdS hm;refine E z (fc call117 z<|d_j ei (zt' V G.s) (b_h<|repS.len h9) (ii z)<|ii z) ?_;rintro _ I ⟨s1,rfl⟩;refine R z (not_ z)<|Wx z (fun J=>?_) (fun J=>?_)
 ·refine Ws<|Rw z ?_
  obtain rfl:=som<|ifT hma J;exact Wr<|f_ hr z ⟨bup G s1,z⟩
 refine Wk<|Wq<|Ws<|Rf z a_9 z ?_
 have hb:=Y.e s1;refine R z (l0 a_b z<|hb.at z) ?_;have hd:=(G.ag B).e s1;refine R z (lnR a_3 z<|H.g hd)<|Rm z<|Wn ?_
 obtain ⟨_,huj,hmc⟩:=bdS<|ifF hma J;refine Wf (σ:=Unit) (ρ:=Bool) (fun (ke:Nat)(_:Unit) a w=>Sat 20 [(1,pt w0.z),(11,vI (x1.rules.length:Int)),(12,vI ((ke:Nat):Int))] a/\Below I.z I w) (fun (_:Unit) a w=>Sat 20 [] a/\Below I.z I w) (rQ prog fn<|Q7 w0 B) huj ?_ ?_ ?_ ?_ ?_
 ·exact fun _ q=>⟨q.k<|s3 z z z,br I⟩
 ·rintro ke _ _ _ _ L ⟨hSk,s4⟩ hml;refine Wu ?_ hSk;refine Ws<|Rl z z z<|Wn<|Wq<|Wc z (fun _=>?_) (fun hc=>(a_0 L hc).elim)
  refine Wk<|Wq<|Wb<|Wm z<|Rw z<|Ws<|R z (lN (vs:=[sl A0 N0 C0]) w_ v_ z z fid<|(hb.e s4).row 0 1 z)<|Rm z ?_
  obtain ⟨_,em,hmf⟩:=bdS hml;refine E z (fc call118 z<|W_w3e em (zt' V<|lt_ (lt_ G.s s1.s) s4.s) (H.g<|hd.e s4)<|ic (Nat.le_of_lt L)<|lt_ (repS.len H) G_) ?_;rintro _ _ ⟨sg,rfl⟩;refine R z (not_ z)<|Wx z (fun O=>?_) (fun O=>?_)
  ·exact Ws<|Rw z<|Wr<|rtO<|qL (som<|ifT hmf O).symm<|f_ hr z ⟨bup (bup (bup G s1) s4) sg,z⟩
  exact Wk<|Wg<|R z (inc_ L (lt_ (repS.len H) G_) z z)<|Rm z<|Wl (fun _ q=>⟨(),(som<|ifF hmf O).symm,⟨q.k<|s3 z z z,bup s4 sg⟩⟩)
 ·rintro _ _ _ ⟨hSn,so⟩;refine Wu ?_ hSn;refine Ws<|Rl z z z<|Wn<|Wq<|Wc z (fun hc=>(a_1 hc).elim) (fun _=>?_)
  exact We<|fun _ q=>⟨rfl,⟨q.k sn,so⟩⟩
 ·rintro _ ap _ rfl ⟨_,sq⟩;have hmr:=elL hmc;revert ap;refine Wo<|Ws<|Rw z ?_
  obtain rfl:=som hmr;exact Wr<|f_ hr z ⟨bup (bup G s1) sq,z⟩
 rintro _ _ _ _ rfl ⟨rfl,hqs⟩;have hmt:=elR hmc;obtain rfl:=som hmt;exact ⟨hqs,z⟩
theorem k_P {x1:c_}{x2:Int}{res:Bool}(hm:e_y n x1 x2=some res)(J:B<=w0.z)(I:repS w0 B (sl A0 N0 C0) x1.rules)(O:inI x2):l_ prog 41 [(.agg #[sl A0 N0 C0]),vI x2] w0 (Q7 w0 B res):=by
 unfold e_y at hm
 refine goG func41 z z z fun fn hr=>Ws<|E z (fb z) ?_
 rintro _ H ⟨rfl,h5⟩;have h1:=h5.below;have h6:Blk H w0.z [sl A0 N0 C0]:=h5.blk;refine Rw z<|Wq ?_
 obtain ⟨u8,V,hma⟩:=bdS hm;refine Wt (fun a w=>∃(x4:Bool),x4=u8/\Sat 12 [(4,vB x4)] a/\Below H.z H w) ?_ ?_
 ·refine Wg<|R z (lN (vs:=[sl A0 N0 C0]) w_ v_ z z fid<|h6.row 0 1 z) ?_
  obtain ⟨rb,ec,L⟩:=bdS V;refine E z (fc call67 z<|W_w3f ec (zt' J h1.s)<|I.e h1) ?_;rintro _ _ ⟨s2,rfl⟩;refine Rm z ?_
  rcases bs rb with G | G
  ·refine Rh z G (lN (vs:=[sl A0 N0 C0]) w_ v_ z z fid<|(h6.e s2).row 0 1 z)<|Rh z G (mv z) ?_
   obtain ⟨rd,ee,hmf⟩:=bdS<|ifT L G;refine Eg z z G z (fc call68 z<|k_O ee (zt' J<|lt_ h1.s s2.s) (I.g<|(h1.ag B).e s2) O) ?_;rintro _ _ ⟨sg,rfl⟩;exact R z (pT z G z)<|Ra z<|Wl (fun _ q=>⟨rd,som hmf,q.k<|s1 z,bup s2 sg⟩)
  iterate 3 refine Nh z G ?_
  exact R z (pF z G z)<|Ra z<|Wl (fun _ q=>⟨false,som<|ifF L G,q.k<|s1 z,s2⟩)
 rintro ah _ ⟨x4,rfl,_,si⟩;revert ah;refine Wo ?_;obtain rfl:=som hma;exact Wr<|f_ hr z ⟨bup h1 si,z⟩
def Q18 (w0:World)(B:Zone)(r:(Option<|Int×Int))(v:Value)(w':World):Prop:=Bw w0 w'/\(fun G=>∃(v1:Value)(S1:List Nat),v1=v/\a_x 97 w' S1 v1 G/\(∀k∈S1,w0.z<=k)) r
theorem e_7 {x1:Int}{x2:Int}{res:(Option<|Int×Int)}(hm:b_K x1 x2=some res)(L:B<=w0.z)(H:inI x1)(I:inI x2):l_ prog 110 [vI x1,vI x2] w0 (Q18 w0 B res):=by
 unfold b_K at hm
 refine goG func110 z z z fun fn hr=>Ws<|Rw z<|Wm z<|Rm z<|R z (bP (parts:=[(0,.tmp 5),(1,.tmp 6)]) (cs:=[vI x1,vI x2]) r_f z z)<|E z (fb z) ?_
 rintro _ J ⟨rfl,G⟩;refine R z (c_Y d_97 (fun _ h=>by cases h) z)<|Rw z ?_
 obtain rfl:=som hm;exact Wr<|f_ hr z ⟨G.below,.iface 97<|pt w0.z,[w0.z],z,o_p (G.blk:Blk J w0.z [vI x1,vI x2]) H I z,d_ lr⟩
def Q19 (w0:World)(B:Zone)(r:(List UInt8)×(Option<|Int×Int))(v:Value)(w':World):Prop:=Bw w0 w'/\un2 (fun J L=>∃(G:Option Addr)(H I:Nat)(v2:Value)(S2:List Nat),v = .tuple #[sl G H I,v2]/\repS w' w'.z (sl G H I) J/\a_x 97 w' S2 v2 L/\(∀k∈S2,w0.z<=k)) r
theorem j_k {x1:a_n}{b1 o1:Nat}{x2:Int}{x3:Int}{res:(List UInt8)×(Option<|Int×Int)}(hm:d_X x1 x2 x3=some res)(I:B<=w0.z)(a0:repS w0 B (sl A0 N0 C0) x1.d.rules)(H:repS w0 B (sl A8 N8 C8) x1.b)(hC1:L_ w0 b1 o1 [sl A0 N0 C0,sl A8 N8 C8])(hC1b:B b1)(J:inI x2)(a1:inI x3):l_ prog 132 [(.pointer<|some ⟨b1,o1,none⟩),vI x2,vI x3] w0 (Q19 w0 B res):=by
 unfold d_X at hm
 refine goG func132 z z z fun fn hr=>Ws<|Ra z<|Rw z<|Wq<|Wm z<|Rm z<|R z (C_ z)<|Rf z f_x z<|R z (l0 J_ z<|hC1.at (j:=1) z)<|R z (lnR n_ z H)<|Rm z<|R z (sb_ z z)<|R z (a_C z z)<|Wx z (fun G=>?_) (fun G=>?_)
 ·refine Wm z ?_
  obtain ⟨_,V,L⟩:=bdS<|ifT hm G;refine E z (fc call110 z<|e_7 (B:=B) V I J<|ii z) ?_;rintro _ _ ⟨s1,v4,W,rfl,h6,Y⟩;refine Ra z<|Rw z ?_
  obtain rfl:=som L;exact Wr<|F_ hr z z ⟨s1,none,0,0,v4,W,z,repS.mono (or_ onL an_)<|M_ s1.s,h6,Y⟩
 refine Wk<|Wm z<|R z (C_ z)<|Rf z f_x z<|R z (l0 J_ z<|hC1.at (j:=1) z)<|RM z z<|Rm z<|R z (add_ z z) ?_
 obtain ⟨_,e8,O⟩:=bdS<|ifF hm G;refine RX z (rX n_ z_5 z z H z z e8) ?_;rintro _ ⟨aa,nb,cc,rfl,hd⟩;refine Ra z<|Rw z ?_
 obtain rfl:=som O;exact Wr<|F_ hr z z ⟨br w0,aa,nb,cc,.nilIface,([]:List Nat),z,repS.mono hd I,d_I,an_⟩
theorem W_w3g {x1:List UInt8}{x2:Bool}{res:Int}(hm:h_d x1 x2=some res)(W:B<=w0.z)(G:repS w0 B (sl A0 N0 C0) x1):l_ prog 133 [sl A0 N0 C0,vB x2] w0 (Q0 w0 B res):=by
 unfold h_d at hm
 refine goG func133 z z z fun fn hr=>Ws<|Rw z<|Wq<|Wm z<|R z (lnR n_ z G)<|R z (a_C z z)<|Wx z (fun I=>?_) (fun I=>?_)
 ·refine Ws<|Rw z ?_
  obtain rfl:=som<|ifT hm I;exact Wr<|f_ hr z ⟨br w0,z,ii z⟩
 refine Wk<|Ws<|Rw z<|Wq<|Wm z<|R z (lnR n_ z G)<|Rm z<|Wn ?_
 obtain ⟨_,huc,L⟩:=bdS<|ifF hm I;refine Wf (σ:=Int) (ρ:=Int) (fun (k5:Nat)(x0:Int) a w=>Sat 38 [(0,sl A0 N0 C0),(1,vB x2),(5,vI x0),(11,vI (x1.length:Int)),(12,vI ((k5:Nat):Int))] a/\Below w0.z w0 w/\inI x0) (fun (x0:Int) a w=>Sat 38 [(5,vI x0)] a/\Below w0.z w0 w/\inI x0) (rQ prog fn<|Q0 w0 B) huc ?_ ?_ ?_ ?_ ?_
 ·exact fun _ q=>⟨q.k<|s5 z z z z z,br w0,ii z⟩
 ·rintro k5 x0 _ H _ O ⟨hSd,s6,h2⟩ hme;refine Wu ?_ hSd;refine Ws<|Rl z z z<|Wn<|Wq<|Wc z (fun _=>?_) (fun hc=>(a_0 O hc).elim)
  refine Wk<|Wq<|Wb<|Wm z<|Rw z<|Wm z<|Wn ?_
  obtain ⟨uf,hua,hmg⟩:=bdS hme;refine Wt (fun a w=>∃(x3:Int),x3=uf/\Sat 38 [(0,sl A0 N0 C0),(1,vB x2),(5,vI x3),(11,vI (x1.length:Int)),(12,vI ((k5:Nat):Int))] a/\Below H.z H w/\inI x3) ?_ ?_
  ·refine Wc z (fun J=>?_)<|fun J=>?_
   ·refine Wg<|Rm z<|R z (f_3 z z (by decide))<|RM z z ?_
    have hb:=G.e s6;refine R z (lnR n_ z hb)<|R z (sb_ z z)<|Rm z<|R z (sb_ z z) ?_
    obtain ⟨xh,ei,hmj⟩:=bdS<|ifT hua J;refine RX z (at_ (α:=UInt8) n_ z_5 z z z hb ei) ?_;rintro _ ⟨_,_,_,rfl,hk,hl,_⟩;obtain rfl:=u8 hl;exact R z (l0 g_5 z<|hk.at0 z)<|R z (b_E d_5 d_3 z)<|R z (j_I z z)<|Ra z<|Wl (fun _ q=>⟨b_n .i64 (· ||| ·) (b_3 .i64 x0 8)<|byteI xh,som hmj,q.k<|s5 z z z z z,br H,l_A _ _ _⟩)
   refine Wg<|Rm z<|R z (f_3 z z (by decide))<|RM z z ?_
   obtain ⟨xm,en,hmo⟩:=bdS<|ifF hua J;refine RX z (at_ (α:=UInt8) n_ z_5 z z z (G.e s6) en) ?_;rintro _ ⟨_,_,_,rfl,hp,hq,_⟩;obtain rfl:=u8 hq;exact R z (l0 g_5 z<|hp.at0 z)<|R z (b_E d_5 d_3 z)<|R z (j_I z z)<|Ra z<|Wl (fun _ q=>⟨b_n .i64 (· ||| ·) (b_3 .i64 x0 8)<|byteI xm,som hmo,q.k<|s5 z z z z z,br H,l_A _ _ _⟩)
  rintro ar _ ⟨x3,rfl,_,ss,ht⟩;revert ar;exact Wo<|Wg<|R z (inc_ O (lt_ (repS.len G) G_) z z)<|Rm z<|Wl (fun _ q=>⟨x3,(som hmg).symm,⟨q.k<|s5 z z z z z,bup s6 ss,ht⟩⟩)
 ·rintro x0 _ _ ⟨hSu,sv,h2⟩;refine Wu ?_ hSu;refine Ws<|Rl z z z<|Wn<|Wq<|Wc z (fun hc=>(a_1 hc).elim) (fun _=>?_)
  exact We<|fun _ q=>⟨rfl,⟨q.k<|s1 z,sv,h2⟩⟩
 ·rintro x0 aw _ rfl ⟨_,sx,h2⟩;have hmy:=elL L;revert aw;refine Wo<|Wm z<|Rw z ?_
  obtain rfl:=som hmy;exact Wr<|f_ hr z ⟨sx,z,h2⟩
 rintro _ _ _ _ rfl ⟨rfl,hqz⟩;have V:=elR L;obtain rfl:=som V;exact ⟨hqz,z⟩
def Q20 (w0:World)(B:Zone)(r:Int×Int×(Option<|Int×Int))(v:Value)(w':World):Prop:=Bw w0 w'/\un3 (fun G H I=>∃(v1:Value)(S1:List Nat),v = .tuple #[vI G,vI H,v1]/\inI G/\inI H/\a_x 97 w' S1 v1 I/\(∀k∈S1,w0.z<=k)) r
theorem j_l {x1:a_n}{b1 o1:Nat}{x2:Int}{x3:Int}{res:Int×Int×(Option<|Int×Int)}(hm:d_Y x1 x2 x3=some res)(L:B<=w0.z)(I:repS w0 B (sl A0 N0 C0) x1.d.rules)(a0:repS w0 B (sl A8 N8 C8) x1.b)(hC1:L_ w0 b1 o1 [sl A0 N0 C0,sl A8 N8 C8])(hC1b:B b1)(ab:inI x2)(J:inI x3):l_ prog 101 [(.pointer<|some ⟨b1,o1,none⟩),vI x2,vI x3] w0 (Q20 w0 B res):=by
 unfold d_Y at hm
 refine goG func101 z z z fun fn hr=>Ws<|RA z z<|Rw z<|Wm z<|R z (C_ z)<|Rf z n_m z<|Rf z a_9 z<|R z (l0 a_b z<|hC1.at (j:=0) z)<|Rm z ?_
 obtain ⟨x5,eq,hmr⟩:=bdS hm;refine RX z (at_ (α:=g_) a_3 t_ z z z I eq) ?_;rintro _ ⟨_,_,_,rfl,ht,hu,_⟩;obtain ⟨O,V,W,Y,na,cb,ac,nd,ce,af,ng,ch,rfl,_,_,hv,_,_,_,_⟩:=a_v hu;refine R z (lN (vs:=vR x5 O V W Y na cb ac nd ce af ng ch) D_ t_ z z fid ht)<|E z (fa b_Y) ?_
 rintro _ ws ⟨rfl,hi⟩;have G:=hi.below;refine E0 (fs0 (cur':=vR x5 O V W Y na cb ac nd ce af ng ch) t_ z z (hi.blk:Blk ws w0.z [(Str.v (⟨[]⟩:Str)),vI 0,vI 0,vB false,sl none 0 0,sl none 0 0,sl none 0 0,sl none 0 0]) z z z z) ?_;rintro _ _ ⟨hj,sx⟩;have h1:=sx.one;refine Wn<|Wm z<|Rm z<|Rf z a_G z<|R z (l0 g_3 z<|hj.at z) ?_
 have hk:∀k∈[w0.z],¬B k:=or0 (d_ lr)<|p_ L;have hl:=(G.ag B).c h1<|e_ hk
 have hn:=lt_ G.s h1.s;obtain ⟨_,_,ey,hmm⟩:=V_ hmr;refine E z (fc call132 z<|j_k ey (zt' L hn) (I.g hl) (a0.g hl) ((hC1.e G).c h1<|(e_ hk) _ hC1b) hC1b J hv) ?_;rintro _ wz ⟨s3,_,_,_,a2,a3,rfl,a4,ho,a5⟩;refine Rm z<|Re z z z<|Re z z z<|Ra z<|Rw z<|Wq<|Wm z<|R z (d_n d_A z z ho)<|Wx z (fun H=>?_) (fun H=>?_)
 ·refine Wm z<|Rm z<|RA z z<|Rw z ?_
  obtain rfl:=som<|ifT hmm H;exact Wr<|B_ hr z z z ⟨bup (bM G h1<|d_ lr) s3,a2,a3,z,ii z,J,ho,j_ a5 hn⟩
 refine Wk<|Wq (Wd (X:=noX) 0 (.rd 0<|.rd 1<|.rd 2<|.rd 4<|.rd 5<|.rd 6<|.rd 7<|.ef 3<|.rd 8<|.rd 9<|.rd 10 .done) mo (by kernel_rfl) fun ad s2 _=>dM z z z<|dR z z (fd c_R z) ?_)
 have hp:=(hj.e s3).e s2;refine dR z z (l0 g_4 z<|hp.at z)<|dM z z z<|dR z z (fd a_G z)<|dR z z (l0 g_3 z<|hp.at z)<|dR z z (add_ z z) ?_
 obtain ⟨_,a7,a1⟩:=bdS<|ifF hmm H;refine dE z z (fc call133 z<|W_w3g (B:=wz.z) a7 (M_ s2.s)<|a4.e s2) (.inr fun _ _ h=>o_<|h.1) ?_;rintro _ _ ⟨a8,rfl,aa⟩
 iterate 3 refine dQ z z z ?_
 refine pD<|Wo ?_
 obtain rfl:=som a1;exact Wr<|B_ hr z z z ⟨bup (bup (bup (bM G h1<|d_ lr) s3) s2) a8,.nilIface,([]:List Nat),z,aa,iA _ _,d_I,an_⟩
def Q21 (w0:World)(B:Zone)(r:Int×(Option<|Int×Int))(v:Value)(w':World):Prop:=Bw w0 w'/\un2 (fun G H=>∃(v1:Value)(S1:List Nat),v = .tuple #[vI G,v1]/\inI G/\a_x 97 w' S1 v1 H/\(∀k∈S1,w0.z<=k)) r
theorem W_w3h {x1:a_n}{b1 o1:Nat}{x2:g_}{x3:Int}{res:Int×(Option<|Int×Int)}(hm:h_f x1 x2 x3=some res)(V:B<=w0.z)(ad:repS w0 B (sl A0 N0 C0) x1.d.rules)(a0:repS w0 B (sl A8 N8 C8) x1.b)(hC1:L_ w0 b1 o1 [sl A0 N0 C0,sl A8 N8 C8])(hC1b:B b1)(ae:x2.name.b.length<=LEN)(af:inI x2.kind)(ah:inI x2.size)(I:repS w0 B (sl A3 N3 C3) x2.bytes)(ai:repS w0 B (sl A2 N2 C2) x2.names)(aj:repS w0 B (sl A1 N1 C1) x2.tags)(ak:repS w0 B (sl A4 N4 C4) x2.kids)(J:inI x3):l_ prog 102 [(.pointer<|some ⟨b1,o1,none⟩),.agg #[Str.v x2.name,vI x2.kind,vI x2.size,vB x2.little,sl A3 N3 C3,sl A2 N2 C2,sl A1 N1 C1,sl A4 N4 C4],vI x3] w0 (Q21 w0 B res):=by
 unfold h_f at hm
 refine goG func102 z z z fun fn hr=>Ws<|E z (fb z) ?_
 rintro _ H ⟨rfl,h6⟩;have G:=h6.below;have Y:Blk H w0.z (vR x2 A3 N3 C3 A2 N2 C2 A1 N1 C1 A4 N4 C4):=h6.blk;refine Ra z<|Rw z<|Wq<|Ws<|Rf z a_Z z<|R z (l0 J_ z<|Y.at z)<|R z (lnR n_ z<|I.e G)<|Rm z<|Wn ?_
 obtain ⟨_,hui,W⟩:=bdS hm;refine Wf (σ:=Unit) (ρ:=Int×(Option<|Int×Int)) (fun (k9:Nat)(_:Unit) a w=>Sat 52 [(0,.pointer<|some ⟨b1,o1,none⟩),(2,vI x3),(4,pt w0.z),(11,sl A3 N3 C3),(12,vI (x2.bytes.length:Int)),(13,vI ((k9:Nat):Int))] a/\Below H.z H w) (fun (_:Unit) a w=>Sat 52 [(2,vI x3),(4,pt w0.z)] a/\Below H.z H w) (rQ prog fn<|Q21 w0 B) hui ?_ ?_ ?_ ?_ ?_
 ·exact fun _ q=>⟨q.k<|s6 z z z z z z,br H⟩
 ·rintro k9 _ _ _ _ hka ⟨hSj,s1⟩ hmk;refine Wu ?_ hSj;refine Ws<|Rl z z z<|Wn<|Wq<|Wc z (fun _=>?_) (fun hc=>(a_0 hka hc).elim)
  refine Wk<|Wq<|Wb<|Wm z ?_
  obtain ⟨_,el,hmb⟩:=bdS hmk;have hd:=(G.ag B).e s1;refine RX z (at_ (α:=UInt8) n_ z_5 z z z (I.g hd) el) ?_;rintro _ ⟨_,_,_,rfl,hn,ho,_⟩;obtain rfl:=u8 ho;refine R z (l0 g_5 z<|hn.at0 z)<|Ra z<|Rw z<|Wq<|Wm z<|Rm z<|R z (add_ z z)<|Rm z<|R z (C_ z)<|Rf z f_x z ?_
  have he:=(hC1.e G).e s1;refine R z (l0 J_ z<|he.at (j:=1) z) ?_;have hf:=a0.g hd;refine R z (lnR n_ z hf)<|R z (a_z z z)<|Wx z (fun L=>?_) (fun L=>?_)
  ·refine Wm z<|Rm z ?_
   have hg:=lt_ G.s s1.s;obtain ⟨_,em,hmp⟩:=bdS<|ifT hmb L;refine E z (fc call110 z<|e_7 em (zt' V hg) J<|ii z) ?_;rintro _ _ ⟨sq,vr,Ss,rfl,ht,hu⟩;exact Ra z<|Rw z<|Wr<|rtO<|qL (som hmp).symm<|F_ hr z z ⟨bup (bup G s1) sq,vr,Ss,z,J,ht,j_ hu hg⟩
  refine Wk<|Wm z<|R z (C_ z)<|Rf z f_x z<|R z (l0 J_ z<|he.at (j:=1) z)<|RM z z<|R z (add_ z z) ?_
  obtain ⟨_,ev,hmc⟩:=bdS<|ifF hmb L;refine RX z (at_ (α:=UInt8) n_ z_5 z z z hf ev) ?_;rintro _ ⟨_,_,_,rfl,hw,hx,_⟩;obtain rfl:=u8 hx;refine R z (l0 g_5 z<|hw.at0 z)<|Rm z<|R z (nq z z)<|Wx z (fun O=>?_) (fun O=>?_)
  ·refine Wm z<|RM z z<|R z (add_ z z) ?_
   have hh:=lt_ G.s s1.s;obtain ⟨_,ey,hmz⟩:=bdS<|ifT hmc O;refine E z (fc call110 z<|e_7 ey (zt' V hh) (iA _ _)<|ii z) ?_;rintro _ _ ⟨a5,a6,a7,rfl,a8,a9⟩;exact Ra z<|Rw z<|Wr<|rtO<|qL (som hmz).symm<|F_ hr z z ⟨bup (bup G s1) a5,a6,a7,z,J,a8,j_ a9 hh⟩
  exact Wk<|Wg<|R z (inc_ hka (lt_ (repS.len I) G_) z z)<|Rm z<|Wl (fun _ q=>⟨(),(som<|ifF hmc O).symm,⟨q.k<|s6 z z z z z z,s1⟩⟩)
 ·rintro _ _ _ ⟨a1,aa⟩;refine Wu ?_ a1;refine Ws<|Rl z z z<|Wn<|Wq<|Wc z (fun hc=>(a_1 hc).elim) (fun _=>?_)
  exact We<|fun _ q=>⟨rfl,⟨q.k<|s2 z z,aa⟩⟩
 ·rintro _ ab _ rfl ⟨_,s5⟩;have a2:=elL W;revert ab;refine Wo<|Wm z<|Rf z a_Z z<|R z (l0 J_ z<|(Y.e s5).at z)<|R z (lnR n_ z<|I.g<|(G.ag B).e s5)<|R z (add_ z z)<|Ra z<|Rw z ?_
  obtain rfl:=som a2;exact Wr<|F_ hr z z ⟨bup G s5,.nilIface,([]:List Nat),z,iA _ _,d_I,an_⟩
 rintro _ _ _ _ rfl ⟨rfl,a3⟩;have a4:=elR W;obtain rfl:=som a4;exact ⟨a3,z⟩
def Q22 (w0:World)(B:Zone)(r:Val×Int×(Option<|Int×Int))(v:Value)(w':World):Prop:=Bw w0 w'/\un3 (fun G H W=>∃(I:Option Addr)(J L:Nat)(S1:List Nat)(a2:Option Addr)(O V:Nat)(S2:List Nat)(v3:Value)(S3:List Nat),v = .tuple #[(.agg #[vI G.number,sl I J L,sl a2 O V]),vI H,v3]/\inI G.number/\a_ w' S1 (sl I J L) G.bytes/\a_ w' S2 (sl a2 O V) G.items/\inI H/\a_x 97 w' S3 v3 W/\(∀k∈S3,w0.z<=k)/\(S1++S2).Nodup/\(∀k∈(S1++S2),w0.z<=k)) r
theorem W_w1u {x1:a_n}{b1 o1:Nat}{x2:Int}{x3:Int}{res:Val×Int×(Option<|Int×Int)}(hm:f_q x1 x2 x3=some res)(a2:B<=w0.z)(Y:repS w0 B (sl A0 N0 C0) x1.d.rules)(a0:repS w0 B (sl A8 N8 C8) x1.b)(hC1:L_ w0 b1 o1 [sl A0 N0 C0,sl A8 N8 C8])(hC1b:B b1)(O:inI x2)(a1:inI x3):l_ prog 103 [(.pointer<|some ⟨b1,o1,none⟩),vI x2,vI x3] w0 (Q22 w0 B res):=by
 unfold f_q at hm
 refine goG func103 z z z fun fn hr=>Ws<|E z (fa E_) ?_
 rintro _ wk ⟨rfl,W⟩;have G:=W.below;have h2:Blk wk w0.z [vI 0,sl none 0 0,sl none 0 0]:=W.blk;refine Ra z<|Rw z<|Wm z<|RM z z ?_
 obtain ⟨_,_,el,V⟩:=V_ hm;refine E z (fc call132 z<|j_k el (zt' a2 G.s) (Y.e G) (a0.e G) (hC1.e G) hC1b O a1) ?_;rintro _ _ ⟨s1,_,_,_,vm,Sn,rfl,ho,ha,hb⟩;refine Rm z<|Re z z z<|Re z z z<|Ra z<|Rw z<|Wq<|Wm z<|R z (d_n d_A z z ha)<|Wx z (fun H=>?_) (fun H=>?_)
 ·refine Ws<|R z (bP (parts:=[]) (cs:=[vI 0,sl none 0 0,sl none 0 0]) P_ z z)<|RM z z<|E0 (fs0 (cur':=[vI 0,sl none 0 0,sl none 0 0]) b_ z z (h2.e s1) z z z z) ?_
  rintro _ _ ⟨hp,sq⟩;have hc:=sq.one;refine Ra z<|Rw z ?_
  obtain rfl:=som<|ifT V H;exact Wr<|B_ hr (u_ i_ b_ z hp z) z z ⟨bM (bup G s1) hc<|d_ lr,none,0,0,[],none,0,0,[],vm,Sn,z,ii z,onL,onL,O,ha.c hc<|h_ hb h2.lt lr,j_ hb G.s,nd0,al0⟩
 refine Wk<|Ws<|E z (f0 (α:=UInt8) I_) ?_
 rintro _ _ ⟨_,_,_,rfl,s3,ht⟩;refine Rm z ?_;obtain ⟨_,er,hms⟩:=bdS<|ifF V H;refine E z (fN (α:=UInt8) I_ er z z ht a_e<|ho.e s3) ?_;rintro _ _ ⟨Sd,I,J,L,rfl,se,hu,hv,hf⟩;refine R z (bP (parts:=[(1,.tmp 25)]) (cs:=[vI 0,sl I J L,sl none 0 0]) P_ z z)<|RM z z<|R z (add_ z z) ?_
 have hg:=mm1 h2.lt s1.s;refine E0 (fs0 (cur':=[vI 0,sl I J L,sl none 0 0]) b_ z z (((h2.e s1).e s3).c se<|djs hg) z z z z) ?_;rintro _ _ ⟨hw,sx⟩;have hh:=sx.one;refine Ra z<|Rw z ?_
 obtain rfl:=som hms;have hi:=lt_ G.s s1.s;have hj:=m1 hi;exact Wr<|B_ hr (u_ i_ b_ z hw z) z z ⟨bM (bM (bup (bup G s1) s3) se hj) hh<|d_ lr,I,J,L,Sd,none,0,0,[],.nilIface,([]:List Nat),z,ii z,hu.c hh (or1 hf hg (S_ (d_ h2.lt)<|lt_ s1.s s3.s):∀k∈Sd,k∉[w0.z]),onL,iA _ _,d_I,an_,na_ hv K_<|nmN _,aa_ (a_l hf hj<|lt_ hi s3.s) an_⟩
theorem W_w1v {x1:List UInt8}{res:Int}(hm:e_z x1=some res)(W:B<=w0.z)(G:repS w0 B (sl A0 N0 C0) x1):l_ prog 134 [sl A0 N0 C0] w0 (Q0 w0 B res):=by
 unfold e_z at hm
 refine goG func134 z z z fun fn hr=>Ws<|Rw z<|Ws<|Rw z<|Wq<|Wm z<|R z (lnR n_ z G)<|Rm z<|Wn ?_
 obtain ⟨_,J,H⟩:=bdS hm;refine Wf (σ:=Int) (ρ:=Int) (fun (k3:Nat)(x0:Int) a w=>Sat 19 [(3,vI x0),(6,sl A0 N0 C0),(7,vI (x1.length:Int)),(8,vI ((k3:Nat):Int))] a/\Below w0.z w0 w/\inI x0) (fun (x0:Int) a w=>Sat 19 [(3,vI x0)] a/\Below w0.z w0 w/\inI x0) (rQ prog fn<|Q0 w0 B) J ?_ ?_ ?_ ?_ ?_
 ·exact fun _ q=>⟨q.k<|s4 z z z z,br w0,ii z⟩
 ·rintro k3 x0 _ _ _ I ⟨L,s5,h1⟩ O;refine Wu ?_ L;refine Ws<|Rl z z z<|Wn<|Wq<|Wc z (fun _=>?_) (fun hc=>(a_0 I hc).elim)
  refine Wk<|Wq<|Wb<|Ws ?_
  obtain ⟨V,ea,hmb⟩:=bdS O;refine RX z (at_ (α:=UInt8) n_ z_5 z z z (G.e s5) ea) ?_;rintro _ ⟨_,_,_,rfl,hd,he,_⟩;obtain rfl:=u8 he;exact R z (l0 g_5 z<|hd.at0 z)<|Rw z<|Wg<|RM z z<|R z (b_E d_5 d_3 z)<|R z (add_ z z)<|Rw z<|Wg<|R z (inc_ I (lt_ (repS.len G) G_) z z)<|Rm z<|Wl (fun _ q=>⟨m_ x0<|byteI V,(som hmb).symm,⟨q.k<|s4 z z z z,s5,iA _ _⟩⟩)
 ·rintro x0 _ _ ⟨hSc,sf,h1⟩;refine Wu ?_ hSc;refine Ws<|Rl z z z<|Wn<|Wq<|Wc z (fun hc=>(a_1 hc).elim) (fun _=>?_)
  exact We<|fun _ q=>⟨rfl,⟨q.k<|s1 z,sf,h1⟩⟩
 ·rintro x0 ag _ rfl ⟨_,sh,h1⟩;have hmi:=elL H;revert ag;refine Wo<|Wm z<|R z (g_n z z (by decide))<|Rw z ?_
  obtain rfl:=som hmi;exact Wr<|f_ hr z ⟨sh,z,j_A h1⟩
 rintro _ _ _ _ rfl ⟨rfl,hqj⟩;have hmk:=elR H;obtain rfl:=som hmk;exact ⟨hqj,z⟩
theorem W_w3i {x1:List UInt8}{x2:Int}{x3:UInt8}{res:(List UInt8)×Int×Bool}(hm:h_e n x1 x2 x3=some res)(aq:B<=w0.z)(Y:repS w0 B (sl A0 N0 C0) x1)(a0:inI x2):l_ prog 109 [sl A0 N0 C0,vI x2,vU<|byteI x3] w0 (Q10 w0 B res):=by
 unfold h_e at hm
 refine goG func109 z z z fun fn hr=>Ws<|RA z z<|Rw z<|Ws<|E z (f0 (α:=UInt8) I_) ?_
 rintro _ wg ⟨aj,nk,cl,rfl,s8,hv⟩;refine Rw z<|Wq<|Wq ?_
 obtain ⟨ar,huw,hmx⟩:=bdS hm;refine Wt (fun a w=>∃(xm:Bool),xm=ar/\Sat 58 [(0,sl A0 N0 C0),(1,vI x2),(2,vU<|byteI x3),(9,sl aj nk cl),(19,vB xm)] a/\Below wg.z wg w) ?_ ?_
 ·refine Wg<|Rm z<|Rl z z z<|Rm z ?_
  rcases bs (decide<|x2<0) with I | I
  ·iterate 4 refine Nh z I ?_
   exact R z (pT z I z)<|Wl (fun _ q=>⟨true,som<|ifT huw I,q.k<|s5 z z z z z,br wg⟩)
  exact Rh z I (mv z)<|Rh z I (mv z)<|Rh z I (lnR n_ z<|Y.e s8)<|Rh z I (a_C z z)<|R z (pF z I z)<|Wl (fun _ q=>⟨decide<|(x1.length:Int)<x2,som<|ifF huw I,q.k<|s5 z z z z z,br wg⟩)
 rintro au G ⟨xm,rfl,_,s6⟩;revert au;refine Wo<|Wc z (fun hcn=>?_) (fun hcn=>?_)
 ·refine Wm z<|Rm z<|RA z z<|Rw z ?_
  obtain rfl:=som<|ifT hmx hcn;exact Wr<|B_ hr z z z ⟨bup s8 s6,aj,nk,cl,[w0.z],z,hv.e s6,a0,a_e,d_ lr⟩
 refine Wk<|Wq<|Wm z<|Rw z ?_
 obtain ⟨_,ad,hmy⟩:=bdS<|ifF hmx hcn;refine b_S (σ:=(List UInt8)×Int) (ρ:=(List UInt8)×Int×Bool) (fun s a w=>un2 (fun xb V=>∃J L O H,Sat 58 [(0,sl A0 N0 C0),(1,vI x2),(2,vU<|byteI x3),(9,sl J L O),(10,vI V)] a/\Chg (· ∈ [w0.z]) G w/\a_ w H (sl J L O) xb/\H.Nodup/\(∀k∈H,k∈[w0.z]∨G.z<=k)/\inI V) s) (fun s a w=>un2 (fun xb V=>∃J L O H,Sat 58 [(1,vI x2)] a/\Chg (· ∈ [w0.z]) G w/\a_ w H (sl J L O) xb/\H.Nodup/\(∀k∈H,k∈[w0.z]∨G.z<=k)/\inI V) s) (rQ prog fn<|Q10 w0 B) ad ?_ ?_ ?_ ?_
 ·exact fun _ q=>⟨aj,nk,cl,[w0.z],q.k<|s5 z z z z z,cr [w0.z] G,hv.e s6,a_e,io sr,a0⟩
 ·rintro ⟨xb,V⟩ _ W _ ⟨J,L,O,H,ae,sa,hc,hd,he,ho⟩ af;have hmz:=a_t af;refine Wu ?_ ae;refine Wq<|Wm z<|Rm z ?_
  have a6:=((s8.ag B).e s6).c sa<|e_ (or0 (d_ lr) (p_ aq):∀k∈[w0.z],¬B k)
  have hh:=Y.g a6;refine R z (lnR n_ z hh)<|Rl z z z<|Wx z (fun hcp=>?_) (fun hcp=>?_)
  ·refine Wk<|Wq<|Wb<|Wq<|Wm z<|Rm z ?_
   obtain ⟨_,av,a1⟩:=bdS<|ifT hmz hcp;refine RX z (at_ (α:=UInt8) n_ z_5 z z z hh av) ?_;rintro _ ⟨_,_,_,rfl,aw,ax,_⟩;obtain rfl:=u8 ax;refine R z (l0 g_5 z<|aw.at0 z)<|Rm z<|Rq z z z<|Wx z (fun hcq=>?_) (fun hcq=>?_)
   ·refine Wm z<|Rm z<|R z (add_ z z)<|RA z z<|Rw z ?_
    exact Wr<|rtO<|qL (som<|ifT a1 hcq).symm<|B_ hr z z z ⟨bM (bup s8 s6) sa<|d_ lr,J,L,O,H,z,hc,iA _ _,hd,(or1 he (d_ lr) (b_9<|lt_ s8.s s6.s):∀k∈H,w0.z<=k)⟩
   refine Wk<|Wq<|Wm z<|Rm z ?_
   obtain ⟨_,ay,ah⟩:=bdS<|ifF a1 hcq;refine RX z (at_ (α:=UInt8) n_ z_5 z z z hh ay) ?_;rintro _ ⟨_,_,_,rfl,az,aA,_⟩;obtain rfl:=u8 aA;refine R z (l0 g_5 z<|az.at0 z)<|Rq z z z<|Wn ?_
   obtain ⟨aB,a2,a4⟩:=bdS ah;refine Wt (fun a w=>∃(xf:Int),Sum.inl xf=aB/\Sat 58 [(0,sl A0 N0 C0),(1,vI x2),(2,vU<|byteI x3),(9,sl J L O),(10,vI xf)] a/\Below W.z W w/\inI xf) ?_ ?_
   ·refine Wc z (fun hcr=>?_)<|fun hcr=>?_
    ·have a5:=ifT a2 hcr;refine Wm z<|R z (add_ z z)<|Rw z<|Wm z<|Rm z<|R z (lnR n_ z hh)<|Rq z z z<|Wx z (fun hcs=>?_) (fun hcs=>?_)
     ·obtain rfl:=som<|ifT a5 hcs;have ai:=elR a4;exact We<|exO z (fun _ q=>b_F (som ai).symm ⟨J,L,O,H,q.k<|s1 z,(cM (cr [w0.z] G) sa (io sr):Chg (· ∈ [w0.z]) G W),hc,hd,(or1 he (io sr) (q_ lr):∀k∈H,k∈[w0.z]∨G.z<=k),iA _ _⟩)
     exact a_I<|fun _ q=>⟨m_ V 1,som<|ifF a5 hcs,q.k<|s5 z z z z z,br W,iA _ _⟩
    exact a_I<|fun _ q=>⟨V,som<|ifF a2 hcr,q.k<|s5 z z z z z,br W,ho⟩
   rintro aC a7 ⟨xf,rfl,_,si,_⟩;have ak:=elL a4;revert aC;refine Wo<|Wg<|RM z z<|Rm z ?_
   obtain ⟨aD,aE,al⟩:=bdS ak;refine RX z (at_ (α:=UInt8) n_ z_5 z z z (Y.g<|a6.e si) aE) ?_;rintro _ ⟨_,_,_,rfl,aF,aG,_⟩;obtain rfl:=u8 aG;refine R z (l0 g_5 z<|aF.at0 z)<|E z (fS [(.tmp 53)] I_ z z z (a_J z) (lb z)<|lb z) ?_
   rintro _ a8 ⟨rfl,ht⟩;have hu:=ht.below;have aY:=b_0 ht a_s;obtain ⟨aH,aI,am⟩:=bdS al;refine E z (b_i (α:=UInt8) I_ aI z z ((hc.e si).e hu) hd (ht.blk:Blk a8 a7.z [vU (byteI aD)]) a_s an_ K_) ?_;rintro _ aJ ⟨a9,aK,aL,aM,rfl,aN,aO,aP,aQ⟩;refine Rw z<|Wg<|Rm z<|R z (add_ z z)<|Ra z<|Wl ?_
   have aa:∀k∈H,k∈[w0.z]∨G.z<=k:=or1 he (io sr)<|q_ lr;exact fun _ q=>⟨(aH,m_ xf 1),(som am).symm,⟨aK,aL,aM,a9,q.k<|s5 z z z z z,(cM (k_ (k_ (cM (cr [w0.z] G) sa (io sr):Chg (· ∈ [w0.z]) G W) si:Chg (· ∈ [w0.z]) G a7) hu:Chg (· ∈ [w0.z]) G a8) aN aa:Chg (· ∈ [w0.z]) G aJ),aO,aP,(or2 aQ aa an_ (q_<|lt_ (lt_ sa.s si.s) hu.s):∀k∈a9,k∈[w0.z]∨G.z<=k),iA _ _⟩⟩
  exact We<|fun _ q=>b_F (som<|ifF hmz hcp).symm ⟨J,L,O,H,q.k<|s1 z,(cM (cr [w0.z] G) sa (io sr):Chg (· ∈ [w0.z]) G W),hc,hd,(or1 he (io sr) (q_ lr):∀k∈H,k∈[w0.z]∨G.z<=k),ho⟩
 ·rintro ⟨xb,V⟩ aR aS rfl ⟨J,L,O,H,_,ab,hc,hd,he,ho⟩;have an:=elL hmy;revert aR;refine Wo<|Ws<|E z (f0 (α:=UInt8) I_) ?_
  rintro _ _ ⟨aT,aU,aV,rfl,aW,aX⟩;refine Rm z<|RA z z<|Rw z ?_
  obtain rfl:=som<|a_t an;exact Wr<|B_ hr z z z ⟨bup (bM (bup s8 s6) ab<|d_ lr) aW,aT,aU,aV,[aS.z],z,aX,a0,a_e,m1<|lt_ (lt_ s8.s s6.s) ab.s⟩
 rintro _ _ _ _ rfl ⟨rfl,ao⟩;have ap:=elR hmy;obtain rfl:=som ap;exact ⟨ao,z⟩
def Q23 (w0:World)(B:Zone)(S2_1:List Nat)(S2_2:List Nat)(r:Val×Int×(Option<|Int×Int))(v:Value)(w':World):Prop:=Chg (· ∈ (S2_1++S2_2)) w0 w'/\un3 (fun G H W=>∃(I:Option Addr)(J L:Nat)(S1:List Nat)(a2:Option Addr)(O V:Nat)(S2:List Nat)(v3:Value)(S3:List Nat),v = .tuple #[(.agg #[vI G.number,sl I J L,sl a2 O V]),vI H,v3]/\inI G.number/\a_ w' S1 (sl I J L) G.bytes/\a_ w' S2 (sl a2 O V) G.items/\inI H/\a_x 97 w' S3 v3 W/\(∀k∈S3,w0.z<=k)/\(S1++S2).Nodup/\(∀k∈(S1++S2),k∈(S2_1++S2_2)∨w0.z<=k)) r
structure k_Q (f:a_n->Int->Int->Option (Val×Int×(Option<|Int×Int))):Prop where
  run:∀{A0 A8:Option Addr}{N0 C0 N8 C8 b1 o1:Nat}{B:Zone}{x1:a_n}{x2:Int}{x3:Int}{res:Val×Int×(Option<|Int×Int)}{w0:World}(hm:f x1 x2 x3=some res)(hBw:B<=w0.z)(p1_0:repS w0 B (sl A0 N0 C0) x1.d.rules)(p1_1:repS w0 B (sl A8 N8 C8) x1.b)(hC1:L_ w0 b1 o1 [sl A0 N0 C0,sl A8 N8 C8])(hC1b:B b1)(p2_0:inI x2)(p3_0:inI x3),l_ prog 64 [(.pointer<|some ⟨b1,o1,none⟩),vI x2,vI x3] w0<|Q22 w0 B res
structure k_R (f:a_n->g_->Int->Option (Val×Int×(Option<|Int×Int))):Prop where
  run:∀{A0 A8 A3 A2 A1 A4:Option Addr}{N0 C0 N8 C8 b1 o1 N3 C3 N2 C2 N1 C1 N4 C4:Nat}{B:Zone}{x1:a_n}{x2:g_}{x3:Int}{res:Val×Int×(Option<|Int×Int)}{w0:World}(hm:f x1 x2 x3=some res)(hBw:B<=w0.z)(p1_0:repS w0 B (sl A0 N0 C0) x1.d.rules)(p1_1:repS w0 B (sl A8 N8 C8) x1.b)(hC1:L_ w0 b1 o1 [sl A0 N0 C0,sl A8 N8 C8])(hC1b:B b1)(p2_0:x2.name.b.length<=LEN)(p2_1:inI x2.kind)(p2_2:inI x2.size)(p2_4:repS w0 B (sl A3 N3 C3) x2.bytes)(p2_5:repS w0 B (sl A2 N2 C2) x2.names)(p2_6:repS w0 B (sl A1 N1 C1) x2.tags)(p2_7:repS w0 B (sl A4 N4 C4) x2.kids)(p3_0:inI x3),l_ prog 104 [(.pointer<|some ⟨b1,o1,none⟩),.agg #[Str.v x2.name,vI x2.kind,vI x2.size,vB x2.little,sl A3 N3 C3,sl A2 N2 C2,sl A1 N1 C1,sl A4 N4 C4],vI x3] w0<|Q22 w0 B res
structure k_S (f:a_n->Val->(List Int)->Int->Option (Val×Int×(Option<|Int×Int))):Prop where
  run:∀{A0 A8 AA AF A9:Option Addr}{N0 C0 N8 C8 b1 o1 NA CA NF CF N9 C9:Nat}{S2_1 S2_2:List Nat}{B:Zone}{x1:a_n}{x2:Val}{x3:List Int}{x4:Int}{res:Val×Int×(Option<|Int×Int)}{w0:World}(hm:f x1 x2 x3 x4=some res)(hBw:B<=w0.z)(p1_0:repS w0 B (sl A0 N0 C0) x1.d.rules)(p1_1:repS w0 B (sl A8 N8 C8) x1.b)(hC1:L_ w0 b1 o1 [sl A0 N0 C0,sl A8 N8 C8])(hC1b:B b1)(p2_0:inI x2.number)(p2_1:a_ w0 S2_1 (sl AA NA CA) x2.bytes)(p2_1n:S2_1.Nodup)(p2_1g:∀k∈S2_1,¬B k)(p2_2:a_ w0 S2_2 (sl AF NF CF) x2.items)(p2_2n:S2_2.Nodup)(p2_2g:∀k∈S2_2,¬B k)(p2_2d1:∀k∈S2_2,k∉S2_1)(p3_0:repS w0 B (sl A9 N9 C9) x3)(p4_0:inI x4),l_ prog 105 [(.pointer<|some ⟨b1,o1,none⟩),.agg #[vI x2.number,sl AA NA CA,sl AF NF CF],sl A9 N9 C9,vI x4] w0<|Q23 w0 B S2_1 S2_2 res
structure k_T (f:a_n->g_->Int->Option (Val×Int×(Option<|Int×Int))):Prop where
  run:∀{A0 A8 A3 A2 A1 A4:Option Addr}{N0 C0 N8 C8 b1 o1 N3 C3 N2 C2 N1 C1 N4 C4:Nat}{B:Zone}{x1:a_n}{x2:g_}{x3:Int}{res:Val×Int×(Option<|Int×Int)}{w0:World}(hm:f x1 x2 x3=some res)(hBw:B<=w0.z)(p1_0:repS w0 B (sl A0 N0 C0) x1.d.rules)(p1_1:repS w0 B (sl A8 N8 C8) x1.b)(hC1:L_ w0 b1 o1 [sl A0 N0 C0,sl A8 N8 C8])(hC1b:B b1)(p2_0:x2.name.b.length<=LEN)(p2_1:inI x2.kind)(p2_2:inI x2.size)(p2_4:repS w0 B (sl A3 N3 C3) x2.bytes)(p2_5:repS w0 B (sl A2 N2 C2) x2.names)(p2_6:repS w0 B (sl A1 N1 C1) x2.tags)(p2_7:repS w0 B (sl A4 N4 C4) x2.kids)(p3_0:inI x3),l_ prog 106 [(.pointer<|some ⟨b1,o1,none⟩),.agg #[Str.v x2.name,vI x2.kind,vI x2.size,vB x2.little,sl A3 N3 C3,sl A2 N2 C2,sl A1 N1 C1,sl A4 N4 C4],vI x3] w0<|Q22 w0 B res
structure k_U (f:a_n->g_->Int->Option (Val×Int×(Option<|Int×Int))):Prop where
  run:∀{A0 A8 A3 A2 A1 A4:Option Addr}{N0 C0 N8 C8 b1 o1 N3 C3 N2 C2 N1 C1 N4 C4:Nat}{B:Zone}{x1:a_n}{x2:g_}{x3:Int}{res:Val×Int×(Option<|Int×Int)}{w0:World}(hm:f x1 x2 x3=some res)(hBw:B<=w0.z)(p1_0:repS w0 B (sl A0 N0 C0) x1.d.rules)(p1_1:repS w0 B (sl A8 N8 C8) x1.b)(hC1:L_ w0 b1 o1 [sl A0 N0 C0,sl A8 N8 C8])(hC1b:B b1)(p2_0:x2.name.b.length<=LEN)(p2_1:inI x2.kind)(p2_2:inI x2.size)(p2_4:repS w0 B (sl A3 N3 C3) x2.bytes)(p2_5:repS w0 B (sl A2 N2 C2) x2.names)(p2_6:repS w0 B (sl A1 N1 C1) x2.tags)(p2_7:repS w0 B (sl A4 N4 C4) x2.kids)(p3_0:inI x3),l_ prog 107 [(.pointer<|some ⟨b1,o1,none⟩),.agg #[Str.v x2.name,vI x2.kind,vI x2.size,vB x2.little,sl A3 N3 C3,sl A2 N2 C2,sl A1 N1 C1,sl A4 N4 C4],vI x3] w0<|Q22 w0 B res
structure k_V (f:a_n->g_->Int->Option (Val×Int×(Option<|Int×Int))):Prop where
  run:∀{A0 A8 A3 A2 A1 A4:Option Addr}{N0 C0 N8 C8 b1 o1 N3 C3 N2 C2 N1 C1 N4 C4:Nat}{B:Zone}{x1:a_n}{x2:g_}{x3:Int}{res:Val×Int×(Option<|Int×Int)}{w0:World}(hm:f x1 x2 x3=some res)(hBw:B<=w0.z)(p1_0:repS w0 B (sl A0 N0 C0) x1.d.rules)(p1_1:repS w0 B (sl A8 N8 C8) x1.b)(hC1:L_ w0 b1 o1 [sl A0 N0 C0,sl A8 N8 C8])(hC1b:B b1)(p2_0:x2.name.b.length<=LEN)(p2_1:inI x2.kind)(p2_2:inI x2.size)(p2_4:repS w0 B (sl A3 N3 C3) x2.bytes)(p2_5:repS w0 B (sl A2 N2 C2) x2.names)(p2_6:repS w0 B (sl A1 N1 C1) x2.tags)(p2_7:repS w0 B (sl A4 N4 C4) x2.kids)(p3_0:inI x3),l_ prog 108 [(.pointer<|some ⟨b1,o1,none⟩),.agg #[Str.v x2.name,vI x2.kind,vI x2.size,vB x2.little,sl A3 N3 C3,sl A2 N2 C2,sl A1 N1 C1,sl A4 N4 C4],vI x3] w0<|Q22 w0 B res
abbrev e_K (n:Nat):Prop:=k_Q (a_8 n).impl_fileReader_value/\k_R (a_8 n).impl_fileReader_array/\k_S (a_8 n).impl_fileReader_items/\k_T (a_8 n).impl_fileReader_choice/\k_U (a_8 n).impl_fileReader_option/\k_V (a_8 n).impl_fileReader_checked
theorem T_w01 (ih:e_K n):k_Q (h_g n<|a_8 n):=by
 obtain ⟨_,d6,d7,d8,d9,da⟩:=ih
 constructor
 intro A0 A8 N0 C0 N8 C8 b1 o1 B x1 x2 x3 res w0 hm H L O hC1 hC1b cT I;unfold h_g at hm
 refine goG func64 z z z fun fn hr=>Ws<|E z (fa E_) ?_
 rintro _ J ⟨rfl,bi⟩;have h2:=bi.below;have h3:Blk J w0.z [vI 0,sl none 0 0,sl none 0 0]:=bi.blk;refine Ra z<|Rw z<|Wm z<|R z (C_ z)<|Rf z n_m z<|Rf z a_9 z ?_
 have h5:=hC1.e h2;refine R z (l0 a_b z<|h5.at (j:=0) z)<|Rm z ?_
 obtain ⟨W,db,b6⟩:=bdS hm;refine RX z (at_ (α:=g_) a_3 t_ z z z (L.e h2) db) ?_;rintro _ ⟨_,_,_,rfl,dc,dd,_⟩;obtain ⟨aa,nb,cc,ad,ne,cf,ah,ng,ci,aj,nk,cl,rfl,hq,ht,ho,hp,hu,hv,hn⟩:=a_v dd;refine R z (lN (vs:=vR W aa nb cc ad ne cf ah ng ci aj nk cl) D_ t_ z z fid dc)<|E z (fa b_Y) ?_
 rintro _ de ⟨rfl,bj⟩;have G:=bj.below;refine E0 (fs0 (cur':=vR W aa nb cc ad ne cf ah ng ci aj nk cl) t_ z z (bj.blk:Blk de J.z [(Str.v (⟨[]⟩:Str)),vI 0,vI 0,vB false,sl none 0 0,sl none 0 0,sl none 0 0,sl none 0 0]) z z z z) ?_;rintro _ _ ⟨V,df⟩;have h1:=df.one;refine Wn<|Wq<|Ws<|Rf z a_M z<|R z (l0 g_3 z<|V.at z)<|Wn<|Wb<|Ws<|Rq z z z<|Rw z<|Wc z (fun hcr=>?_) (fun hcr=>?_)
 ·refine Wm z<|RM z z ?_
  have bk:∀k∈[J.z],¬B k:=or0 (d_ lr)<|p_<|zt' H h2.s;have bm:=((h2.ag B).e G).c h1<|e_ bk
  have bn:=lt_ (lt_ h2.s G.s) h1.s;obtain ⟨bo,_,_,dg,cU⟩:=O_<|ifT b6 hcr;refine E z (fc call101 z<|j_l dg (zt' H bn) (L.g bm) (O.g bm) ((h5.e G).c h1<|(e_ bk) _ hC1b) hC1b cT I) ?_;rintro _ _ ⟨bp,dh,di,rfl,dj,dk,dl,bq⟩;refine Rm z ?_
  iterate 3 refine Re z z z ?_
  refine RA z z<|Rw z<|Wm z<|R z (bP (parts:=[(0,.tmp 41)]) (cs:=[vI bo,sl none 0 0,sl none 0 0]) P_ z z)<|RM z z<|E0 (fs0 (cur':=[vI bo,sl none 0 0,sl none 0 0]) b_ z z (((h3.e G).c h1<|djs<|mmr h3.lt).e bp) z z z z) ?_
  rintro _ _ ⟨dm,dn⟩;have br:=dn.one;refine Ra z<|Rw z ?_
  obtain rfl:=som cU;exact Wr<|rtO<|B_ hr (u_ i_ b_ z dm z) z z ⟨bM (bup (bM (bup h2 G) h1<|m1 h2.s) bp) br<|d_ lr,none,0,0,[],none,0,0,[],dh,di,z,dj,onL,onL,dk,dl.c br<|h_ bq h3.lt<|lt_ G.s h1.s,j_ bq bn,nd0,al0⟩
 have b7:=ifF b6 hcr;refine Ws<|Rq z z z<|Rw z<|Wc z (fun hcs=>?_) (fun hcs=>?_)
 ·refine Wm z<|R z (lN (vs:=vR W aa nb cc ad ne cf ah ng ci aj nk cl) D_ t_ z z fid<|V.row 0 8 z)<|Rm z ?_
  have aC:∀k∈[J.z],¬B k:=or0 (d_ lr)<|p_<|zt' H h2.s;have bs:=((h2.ag B).e G).c h1<|e_ aC
  have hw:=(G.ag B).c h1<|e_ aC
  have bt:=lt_ (lt_ h2.s G.s) h1.s;obtain ⟨_,_,dp,cV⟩:=V_<|ifT b7 hcs;refine E z (fc call102 z<|W_w3h dp (zt' H bt) (L.g bs) (O.g bs) ((h5.e G).c h1<|(e_ aC) _ hC1b) hC1b hq ht ho (hp.g hw) (hu.g hw) (hv.g hw) (hn.g hw) I) ?_;rintro _ _ ⟨bu,dq,dr,rfl,ds,dt,bv⟩;refine Rm z<|Re z z z<|Re z z z<|Ra z<|Rw z<|Ws<|R z (bP (parts:=[]) (cs:=[vI 0,sl none 0 0,sl none 0 0]) P_ z z)<|RM z z<|E0 (fs0 (cur':=[vI 0,sl none 0 0,sl none 0 0]) b_ z z (((h3.e G).c h1<|djs<|mmr h3.lt).e bu) z z z z) ?_
  rintro _ _ ⟨du,dv⟩;have bw:=dv.one;refine Ra z<|Rw z ?_
  obtain rfl:=som cV;exact Wr<|rtO<|B_ hr (u_ i_ b_ z du z) z z ⟨bM (bup (bM (bup h2 G) h1<|m1 h2.s) bu) bw<|d_ lr,none,0,0,[],none,0,0,[],dq,dr,z,ii z,onL,onL,ds,dt.c bw<|h_ bv h3.lt<|lt_ G.s h1.s,j_ bv bt,nd0,al0⟩
 have b8:=ifF b7 hcs;refine Ws<|Rq z z z<|Rw z<|Wc z (fun ar=>?_) (fun ar=>?_)
 ·refine Wm z<|Rm z<|Rf z a_G z<|R z (l0 g_3 z<|V.at z) ?_
  have bx:∀k∈[J.z],¬B k:=or0 (d_ lr)<|p_<|zt' H h2.s;have bz:=((h2.ag B).e G).c h1<|e_ bx
  have hx:=lt_ (lt_ h2.s G.s) h1.s;obtain ⟨dw,_,_,dx,cW⟩:=O_<|ifT b8 ar;refine E z (fc call103 z<|W_w1u dx (zt' H hx) (L.g bz) (O.g bz) ((h5.e G).c h1<|(e_ bx) _ hC1b) hC1b I ho) ?_;rintro _ _ ⟨bA,bB,bC,bD,dy,bE,bF,bG,dz,dA,dB,rfl,dC,dD,dF,dG,dH,bH,aD,hy⟩
  iterate 3 refine Re z z z ?_
  refine E0 (fs0 (cur':=[vI dw.number,sl bB bC bD,sl bE bF bG]) b_ z z (((h3.e G).c h1<|djs<|mmr h3.lt).e bA) z z z z) ?_;rintro _ _ ⟨dI,dJ⟩;have hz:=dJ.one;refine Ra z<|Rw z ?_
  obtain rfl:=som cW;have aE:=lt_ G.s h1.s;exact Wr<|rtO<|B_ hr (u_ i_ b_ z dI z) z z ⟨bM (bup (bM (bup h2 G) h1<|m1 h2.s) bA) hz<|d_ lr,bB,bC,bD,dy,bE,bF,bG,dz,dA,dB,z,dC,dD.c hz<|h_ (al_ hy) h3.lt aE,dF.c hz<|h_ (ar_ hy) h3.lt aE,dG,dH.c hz<|h_ bH h3.lt aE,j_ bH hx,na_ (nl_ aD) (nr_ aD)<|nj aD,aa_ (j_ (al_ hy) hx)<|j_ (ar_ hy) hx⟩
 have b9:=ifF b8 ar;refine Ws<|Rq z z z<|Rw z<|Wc z (fun au=>?_) (fun au=>?_)
 ·refine Wm z<|Rf z R_ z<|R z (l0 A_ z<|V.at z) ?_
  obtain ⟨_,dK,cX⟩:=bdS<|ifT b9 au;have aF:∀k∈[J.z],¬B k:=or0 (d_ lr)<|p_<|zt' H h2.s;refine RX z (at_ (α:=Int) y_ z_3 z z z (hn.g<|(G.ag B).c h1<|e_ aF) dK) ?_;rintro _ ⟨_,_,_,rfl,dL,dN,_⟩;obtain ⟨rfl,dO⟩:=T_ dN;refine R z (l0 g_3 z<|dL.at0 z)<|Rm z ?_
  have bI:=(h5.e G).c h1<|(e_ aF) _ hC1b
  have aG:=((h2.ag B).e G).c h1<|e_ aF
  have aH:=lt_ (lt_ h2.s G.s) h1.s;obtain ⟨_,_,_,dP,ba⟩:=O_ cX;refine E z (fc call101 z<|j_l dP (zt' H aH) (L.g aG) (O.g aG) bI hC1b dO I) ?_;rintro _ _ ⟨s8,dS,dT,rfl,dU,dV,bJ,bK⟩;refine Rm z ?_
  iterate 3 refine Re z z z ?_
  refine RA z z<|Rw z<|Wq<|Wm z<|R z (d_n d_A z z bJ)<|Wx z (fun av=>?_) (fun av=>?_)
  ·refine Ws<|R z (bP (parts:=[]) (cs:=[vI 0,sl none 0 0,sl none 0 0]) P_ z z)<|RM z z<|E0 (fs0 (cur':=[vI 0,sl none 0 0,sl none 0 0]) b_ z z (((h3.e G).c h1<|djs<|mmr h3.lt).e s8) z z z z) ?_
   rintro _ _ ⟨dW,dX⟩;have bL:=dX.one;refine Ra z<|Rw z ?_
   obtain rfl:=som<|ifT ba av;exact Wr<|rtO<|B_ hr (u_ i_ b_ z dW z) z z ⟨bM (bup (bM (bup h2 G) h1<|m1 h2.s) s8) bL<|d_ lr,none,0,0,[],none,0,0,[],dS,dT,z,ii z,onL,onL,I,bJ.c bL<|h_ bK h3.lt<|lt_ G.s h1.s,j_ bK aH,nd0,al0⟩
  refine Wk<|Wm z<|RM z z ?_
  have bN:=aG.e s8;have Y:=lt_ aH s8.s;obtain ⟨dY,_,_,dZ,cY⟩:=O_<|ifF ba av;refine E z (fc call103 z<|W_w1u dZ (zt' H Y) (L.g bN) (O.g bN) (bI.e s8) hC1b dV dU) ?_;rintro _ _ ⟨bO,bQ,bR,bS,e0,bT,bU,bV,e1,e2,e3,rfl,e4,e5,e6,e7,e8,bW,aI,a0⟩
  iterate 3 refine Re z z z ?_
  refine E0 (fs0 (cur':=[vI dY.number,sl bQ bR bS,sl bT bU bV]) b_ z z ((((h3.e G).c h1<|djs<|mmr h3.lt).e s8).e bO) z z z z) ?_;rintro _ _ ⟨e9,ea⟩;have a1:=ea.one;refine Ra z<|Rw z ?_
  obtain rfl:=som cY;have aJ:=lt_ (lt_ G.s h1.s) s8.s;exact Wr<|rtO<|B_ hr (u_ i_ b_ z e9 z) z z ⟨bM (bup (bup (bM (bup h2 G) h1<|m1 h2.s) s8) bO) a1<|d_ lr,bQ,bR,bS,e0,bT,bU,bV,e1,e2,e3,z,e4,e5.c a1<|h_ (al_ a0) h3.lt aJ,e6.c a1<|h_ (ar_ a0) h3.lt aJ,e7,e8.c a1<|h_ bW h3.lt aJ,j_ bW Y,na_ (nl_ aI) (nr_ aI)<|nj aI,aa_ (j_ (al_ a0) Y)<|j_ (ar_ a0) Y⟩
 have bb:=ifF b9 au;refine Ws<|Rq z z z<|Rw z<|Wc z (fun aw=>?_) (fun aw=>?_)
 ·refine Wm z<|R z (lN (vs:=vR W aa nb cc ad ne cf ah ng ci aj nk cl) D_ t_ z z fid<|V.row 0 8 z)<|Rm z ?_
  have aK:∀k∈[J.z],¬B k:=or0 (d_ lr)<|p_<|zt' H h2.s;have bX:=((h2.ag B).e G).c h1<|e_ aK
  have a2:=(G.ag B).c h1<|e_ aK
  have a3:=lt_ (lt_ h2.s G.s) h1.s;obtain ⟨eb,_,_,ec,cZ⟩:=O_<|ifT bb aw;refine E z (fc call104 z<|d6.run ec (zt' H a3) (L.g bX) (O.g bX) ((h5.e G).c h1<|(e_ aK) _ hC1b) hC1b hq ht ho (hp.g a2) (hu.g a2) (hv.g a2) (hn.g a2) I) ?_;rintro _ _ ⟨bY,bZ,c0,c1,ed,c2,c3,c4,ee,ef,eg,rfl,eh,ei,ej,ek,em,c5,aL,a4⟩
  iterate 3 refine Re z z z ?_
  refine E0 (fs0 (cur':=[vI eb.number,sl bZ c0 c1,sl c2 c3 c4]) b_ z z (((h3.e G).c h1<|djs<|mmr h3.lt).e bY) z z z z) ?_;rintro _ _ ⟨en,eo⟩;have a5:=eo.one;refine Ra z<|Rw z ?_
  obtain rfl:=som cZ;have aM:=lt_ G.s h1.s;exact Wr<|rtO<|B_ hr (u_ i_ b_ z en z) z z ⟨bM (bup (bM (bup h2 G) h1<|m1 h2.s) bY) a5<|d_ lr,bZ,c0,c1,ed,c2,c3,c4,ee,ef,eg,z,eh,ei.c a5<|h_ (al_ a4) h3.lt aM,ej.c a5<|h_ (ar_ a4) h3.lt aM,ek,em.c a5<|h_ c5 h3.lt aM,j_ c5 a3,na_ (nl_ aL) (nr_ aL)<|nj aL,aa_ (j_ (al_ a4) a3)<|j_ (ar_ a4) a3⟩
 have bc:=ifF bb aw;refine Ws<|Rq z z z<|Rw z<|Wc z (fun ax=>?_) (fun ax=>?_)
 ·refine Wm z<|R z (bP (parts:=[]) (cs:=[vI 0,sl none 0 0,sl none 0 0]) P_ z z)<|Rf z R_ z<|R z (l0 A_ z<|V.at z)<|Rm z ?_
  have aN:∀k∈[J.z],¬B k:=or0 (d_ lr)<|p_<|zt' H h2.s;have c6:=((h2.ag B).e G).c h1<|e_ aN
  have a6:=lt_ (lt_ h2.s G.s) h1.s;obtain ⟨ep,_,_,er,d0⟩:=O_<|ifT bc ax;refine E z (fc call105 z<|d7.run (B:=B) (x2:=(⟨0,([]:List UInt8),([]:List Val)⟩:Val)) er (zt' H a6) (L.g c6) (O.g c6) ((h5.e G).c h1<|(e_ aN) _ hC1b) hC1b (ii z) onL K_ an_ onL K_ an_ an_ (hn.g<|(G.ag B).c h1<|e_ aN) I) ?_;rintro _ _ ⟨c7,c8,c9,ca,cb,cd,ce,cg,ch,es,eu,rfl,ew,ex,ey,ez,eA,cj,aO,a7⟩
  iterate 3 refine Re z z z ?_
  refine E0 (fs0 (cur':=[vI ep.number,sl c8 c9 ca,sl cd ce cg]) b_ z z (((h3.e G).c h1<|djs<|mmr h3.lt).c c7<|atp<|nmA (nmN _)<|nmN _) z z z z) ?_;rintro _ _ ⟨eB,eC⟩;have a8:=eC.one;refine Ra z<|Rw z ?_
  obtain rfl:=som d0;have aP:=lt_ G.s h1.s;exact Wr<|rtO<|B_ hr (u_ i_ b_ z eB z) z z ⟨bM (bM (bM (bup h2 G) h1<|m1 h2.s) c7 al0) a8<|d_ lr,c8,c9,ca,cb,cd,ce,cg,ch,es,eu,z,ew,ex.c a8 (or1 (al_ a7) al0 (S_ (d_ h3.lt) aP):∀k∈cb,k∉[w0.z]),ey.c a8 (or1 (ar_ a7) al0 (S_ (d_ h3.lt) aP):∀k∈ch,k∉[w0.z]),ez,eA.c a8<|h_ cj h3.lt aP,j_ cj a6,na_ (nl_ aO) (nr_ aO)<|nj aO,aa_ (a_l (al_ a7) al0 a6)<|a_l (ar_ a7) al0 a6⟩
 have be:=ifF bc ax;refine Ws<|Rq z z z<|Rw z<|Wc z (fun ay=>?_) (fun ay=>?_)
 ·refine Wm z<|R z (lN (vs:=vR W aa nb cc ad ne cf ah ng ci aj nk cl) D_ t_ z z fid<|V.row 0 8 z)<|Rm z ?_
  have aQ:∀k∈[J.z],¬B k:=or0 (d_ lr)<|p_<|zt' H h2.s;have ck:=((h2.ag B).e G).c h1<|e_ aQ
  have a9:=(G.ag B).c h1<|e_ aQ
  have ab:=lt_ (lt_ h2.s G.s) h1.s;obtain ⟨eD,_,_,eE,d1⟩:=O_<|ifT be ay;refine E z (fc call106 z<|d8.run eE (zt' H ab) (L.g ck) (O.g ck) ((h5.e G).c h1<|(e_ aQ) _ hC1b) hC1b hq ht ho (hp.g a9) (hu.g a9) (hv.g a9) (hn.g a9) I) ?_;rintro _ _ ⟨cm,cn,co,cp,eF,cq,cr,ct,eG,eH,eI,rfl,eJ,eK,eL,eM,eN,cu,aR,ae⟩
  iterate 3 refine Re z z z ?_
  refine E0 (fs0 (cur':=[vI eD.number,sl cn co cp,sl cq cr ct]) b_ z z (((h3.e G).c h1<|djs<|mmr h3.lt).e cm) z z z z) ?_;rintro _ _ ⟨eO,eP⟩;have af:=eP.one;refine Ra z<|Rw z ?_
  obtain rfl:=som d1;have aS:=lt_ G.s h1.s;exact Wr<|rtO<|B_ hr (u_ i_ b_ z eO z) z z ⟨bM (bup (bM (bup h2 G) h1<|m1 h2.s) cm) af<|d_ lr,cn,co,cp,eF,cq,cr,ct,eG,eH,eI,z,eJ,eK.c af<|h_ (al_ ae) h3.lt aS,eL.c af<|h_ (ar_ ae) h3.lt aS,eM,eN.c af<|h_ cu h3.lt aS,j_ cu ab,na_ (nl_ aR) (nr_ aR)<|nj aR,aa_ (j_ (al_ ae) ab)<|j_ (ar_ ae) ab⟩
 have bf:=ifF be ay;refine Ws<|Rq z z z<|Rw z<|Wc z (fun az=>?_) (fun az=>?_)
 ·refine Wm z<|R z (lN (vs:=vR W aa nb cc ad ne cf ah ng ci aj nk cl) D_ t_ z z fid<|V.row 0 8 z)<|Rm z ?_
  have aT:∀k∈[J.z],¬B k:=or0 (d_ lr)<|p_<|zt' H h2.s;have cv:=((h2.ag B).e G).c h1<|e_ aT
  have ai:=(G.ag B).c h1<|e_ aT
  have ak:=lt_ (lt_ h2.s G.s) h1.s;obtain ⟨eQ,_,_,eR,d2⟩:=O_<|ifT bf az;refine E z (fc call107 z<|d9.run eR (zt' H ak) (L.g cv) (O.g cv) ((h5.e G).c h1<|(e_ aT) _ hC1b) hC1b hq ht ho (hp.g ai) (hu.g ai) (hv.g ai) (hn.g ai) I) ?_;rintro _ _ ⟨cw,cx,cy,cz,eS,cA,cB,cC,eT,eU,eV,rfl,eW,eX,eY,eZ,f0,cD,aU,al⟩
  iterate 3 refine Re z z z ?_
  refine E0 (fs0 (cur':=[vI eQ.number,sl cx cy cz,sl cA cB cC]) b_ z z (((h3.e G).c h1<|djs<|mmr h3.lt).e cw) z z z z) ?_;rintro _ _ ⟨f1,f2⟩;have am:=f2.one;refine Ra z<|Rw z ?_
  obtain rfl:=som d2;have aV:=lt_ G.s h1.s;exact Wr<|rtO<|B_ hr (u_ i_ b_ z f1 z) z z ⟨bM (bup (bM (bup h2 G) h1<|m1 h2.s) cw) am<|d_ lr,cx,cy,cz,eS,cA,cB,cC,eT,eU,eV,z,eW,eX.c am<|h_ (al_ al) h3.lt aV,eY.c am<|h_ (ar_ al) h3.lt aV,eZ,f0.c am<|h_ cD h3.lt aV,j_ cD ak,na_ (nl_ aU) (nr_ aU)<|nj aU,aa_ (j_ (al_ al) ak)<|j_ (ar_ al) ak⟩
 have bg:=ifF bf az;refine Ws<|Rq z z z<|Rw z<|Wc z (fun aA=>?_) (fun aA=>?_)
 ·refine Wm z<|R z (lN (vs:=vR W aa nb cc ad ne cf ah ng ci aj nk cl) D_ t_ z z fid<|V.row 0 8 z)<|Rm z ?_
  have aW:∀k∈[J.z],¬B k:=or0 (d_ lr)<|p_<|zt' H h2.s;have cE:=((h2.ag B).e G).c h1<|e_ aW
  have an:=(G.ag B).c h1<|e_ aW
  have ao:=lt_ (lt_ h2.s G.s) h1.s;obtain ⟨f3,_,_,f4,d3⟩:=O_<|ifT bg aA;refine E z (fc call108 z<|da.run f4 (zt' H ao) (L.g cE) (O.g cE) ((h5.e G).c h1<|(e_ aW) _ hC1b) hC1b hq ht ho (hp.g an) (hu.g an) (hv.g an) (hn.g an) I) ?_;rintro _ _ ⟨cF,cG,cH,cI,f5,cJ,cK,cL,f6,f7,f8,rfl,f9,fb,fe,ff,fg,cM,aX,ap⟩
  iterate 3 refine Re z z z ?_
  refine E0 (fs0 (cur':=[vI f3.number,sl cG cH cI,sl cJ cK cL]) b_ z z (((h3.e G).c h1<|djs<|mmr h3.lt).e cF) z z z z) ?_;rintro _ _ ⟨fh,fi⟩;have aq:=fi.one;refine Ra z<|Rw z ?_
  obtain rfl:=som d3;have aY:=lt_ G.s h1.s;exact Wr<|rtO<|B_ hr (u_ i_ b_ z fh z) z z ⟨bM (bup (bM (bup h2 G) h1<|m1 h2.s) cF) aq<|d_ lr,cG,cH,cI,f5,cJ,cK,cL,f6,f7,f8,z,f9,fb.c aq<|h_ (al_ ap) h3.lt aY,fe.c aq<|h_ (ar_ ap) h3.lt aY,ff,fg.c aq<|h_ cM h3.lt aY,j_ cM ao,na_ (nl_ aX) (nr_ aX)<|nj aX,aa_ (j_ (al_ ap) ao)<|j_ (ar_ ap) ao⟩
 refine Wk<|Wq (Wd (X:=noX) 0 (pl_ 17 [9]) mo (by kernel_rfl) fun fA s6 _=>dM z z z<|dR z z (C_ z)<|dR z z (fd f_x z) ?_)
 have aZ:∀k∈[J.z],¬B k:=or0 (d_ lr)<|p_<|zt' H h2.s;refine dR z z (l0 J_ z<|(((h5.e G).c h1<|(e_ aZ) _ hC1b).e s6).at (j:=1) z)<|dM z z z<|dR z z (fd a_Z z)<|dR z z (l0 J_ z<|(V.e s6).at z) ?_
 obtain ⟨_,fj,d4⟩:=bdS<|ifF bg aA;refine dRX z z (at_ (α:=UInt8) n_ z_5 z z z (hp.g<|((G.ag B).c h1<|e_ aZ).e s6) fj) ?_;rintro _ ⟨_,_,_,rfl,fk,fl,_⟩;obtain rfl:=u8 fl;refine dR z z (l0 g_5 z<|fk.at0 z) ?_;have b0:=lt_ (lt_ (lt_ h2.s G.s) h1.s) s6.s;obtain ⟨_,_,_,fm,bh⟩:=O_ d4;refine dE z z (fc call109 z<|W_w3i fm (zt' H b0) (O.g<|(((h2.ag B).e G).c h1<|e_ aZ).e s6) I) (.inr fun _ _ h=>o_<|h.1) ?_;rintro _ _ ⟨sm,b3,b4,b5,fo,rfl,fp,fq,fr,cN⟩;refine dM z z z ?_
 iterate 3 refine dR z z (ext_ z z) ?_
 iterate 3 refine dQ z z z ?_
 refine pD<|Wo<|Wq<|Wm z<|R z (not_ z)<|Wx z (fun aB=>?_) (fun aB=>?_)
 ·refine Ws<|R z (bP (parts:=[]) (cs:=[vI 0,sl none 0 0,sl none 0 0]) P_ z z)<|RM z z ?_
  have cO:=lt_ b0 sm.s;obtain ⟨_,fs,d5⟩:=bdS<|ifT bh aB;refine E z (fc call110 z<|e_7 fs (zt' H cO) I<|ii z) ?_;rintro _ _ ⟨cP,ft,fu,rfl,fv,cQ⟩;refine E0 (fs0 (cur':=[vI 0,sl none 0 0,sl none 0 0]) b_ z z (((((h3.e G).c h1<|djs<|mmr h3.lt).e s6).e sm).e cP) z z z z) ?_;rintro _ _ ⟨fw,fx⟩;have cR:=fx.one;refine Ra z<|Rw z ?_
  obtain rfl:=som d5;exact Wr<|B_ hr (u_ i_ b_ z fw z) z z ⟨bM (bup (bup (bup (bM (bup h2 G) h1<|m1 h2.s) s6) sm) cP) cR<|d_ lr,none,0,0,[],none,0,0,[],ft,fu,z,ii z,onL,onL,I,fv.c cR<|h_ cQ h3.lt<|lt_ (lt_ (lt_ G.s h1.s) s6.s) sm.s,j_ cQ cO,nd0,al0⟩
 refine Wk<|Wm z<|R z (bP (parts:=[(1,.tmp 159)]) (cs:=[vI 0,sl b3 b4 b5,sl none 0 0]) P_ z z)<|Rm z<|E0 (fs0 (cur':=[vI 0,sl b3 b4 b5,sl none 0 0]) b_ z z ((((h3.e G).c h1<|djs<|mmr h3.lt).e s6).e sm) z z z z) ?_
 rintro _ _ ⟨fy,fz⟩;have cS:=fz.one;refine Ra z<|Rw z ?_
 obtain rfl:=som<|ifF bh aB;exact Wr<|B_ hr (u_ i_ b_ z fy z) z z ⟨bM (bup (bup (bM (bup h2 G) h1<|m1 h2.s) s6) sm) cS<|d_ lr,b3,b4,b5,fo,none,0,0,[],.nilIface,([]:List Nat),z,ii z,fp.c cS<|h_ cN h3.lt<|lt_ (lt_ G.s h1.s) s6.s,onL,fq,d_I,an_,na_ fr K_<|nmN _,aa_ (j_ cN b0) an_⟩
theorem T_w1w (ih:e_K n):k_R (h_h n<|a_8 n):=by
 obtain ⟨_,_,aJ,_,_,_⟩:=ih
 constructor
 intro A0 A8 A3 A2 A1 A4 N0 C0 N8 C8 b1 o1 N3 C3 N2 C2 N1 C1 N4 C4 B x1 x2 x3 res w0 hm O W Y hC1 hC1b bz bA bB bC bD bE a0 V;unfold h_h at hm
 refine goG func104 z z z fun fn hr=>Ws<|E z (fb z) ?_
 rintro _ J ⟨rfl,hw⟩;have h4:=hw.below;have hx:Blk J w0.z (vR x2 A3 N3 C3 A2 N2 C2 A1 N1 C1 A4 N4 C4):=hw.blk;refine E z (fa E_) ?_;rintro _ aK ⟨rfl,hy⟩;have h6:=hy.below;have h5:Blk aK J.z [vI 0,sl none 0 0,sl none 0 0]:=hy.blk;refine Ra z<|Rw z<|Wm z<|Rf z R_ z ?_
 have hz:=hx.e h6;refine R z (l0 A_ z<|hz.at z) ?_;obtain ⟨_,aL,aw⟩:=bdS hm;have hd:=(h4.ag B).e h6;refine RX z (at_ (α:=Int) y_ z_3 z z z (a0.g hd) aL) ?_;rintro _ ⟨_,_,_,rfl,aM,aN,_⟩;obtain ⟨rfl,aO⟩:=T_ aN;refine R z (l0 g_3 z<|aM.at0 z)<|Rm z ?_
 have a4:=(hC1.e h4).e h6;have he:=lt_ h4.s h6.s;obtain ⟨_,rr,_,aP,hms⟩:=O_ aw;refine E z (fc call101 z<|j_l aP (zt' O he) (W.g hd) (Y.g hd) a4 hC1b aO V) ?_;rintro _ H ⟨G,aQ,aR,rfl,_,aS,a5,a6⟩;refine Rm z ?_
 iterate 3 refine Re z z z ?_
 refine RA z z<|Rw z<|Wq<|Wm z<|R z (d_n d_A z z a5)<|Wx z (fun hcm=>?_) (fun hcm=>?_)
 ·refine Ws<|R z (bP (parts:=[]) (cs:=[vI 0,sl none 0 0,sl none 0 0]) P_ z z)<|RM z z<|E0 (fs0 (cur':=[vI 0,sl none 0 0,sl none 0 0]) b_ z z (h5.e G) z z z z) ?_
  rintro _ _ ⟨aT,aU⟩;have a7:=aU.one;refine Ra z<|Rw z ?_
  obtain rfl:=som<|ifT hms hcm;exact Wr<|B_ hr (u_ i_ b_ z aT z) z z ⟨bM (bup (bup h4 h6) G) a7<|m1 h4.s,none,0,0,[],none,0,0,[],aQ,aR,z,ii z,onL,onL,V,a5.c a7<|h_ a6 h5.lt lr,j_ a6 he,nd0,al0⟩
 have a1:=ifF hms hcm;refine Wk<|Wq<|Wm z<|R z (a_C z z)<|Wx z (fun hco=>?_) (fun hco=>?_)
 ·refine Ws<|R z (bP (parts:=[]) (cs:=[vI 0,sl none 0 0,sl none 0 0]) P_ z z)<|RM z z ?_
  have a8:=lt_ he G.s;obtain ⟨_,aV,ax⟩:=bdS<|ifT a1 hco;refine E z (fc call110 z<|e_7 aV (zt' O a8) V<|ii z) ?_;rintro _ _ ⟨a9,aW,aX,rfl,aY,aa⟩;refine E0 (fs0 (cur':=[vI 0,sl none 0 0,sl none 0 0]) b_ z z ((h5.e G).e a9) z z z z) ?_;rintro _ _ ⟨aZ,b0⟩;have ab:=b0.one;refine Ra z<|Rw z ?_
  obtain rfl:=som ax;exact Wr<|B_ hr (u_ i_ b_ z aZ z) z z ⟨bM (bup (bup (bup h4 h6) G) a9) ab<|m1 h4.s,none,0,0,[],none,0,0,[],aW,aX,z,ii z,onL,onL,V,aY.c ab<|h_ aa h5.lt G.s,j_ aa a8,nd0,al0⟩
 refine Wk<|Wm z ?_
 obtain ⟨b3,b4,ay⟩:=bdS<|ifF a1 hco;refine E z (e_X (α:=Int) k_n (fun _=>e_c<|ii z) b4 z z) ?_;rintro _ I ⟨ac,nf,cg,rfl,s8,hp⟩;refine Rw z<|Wq<|Wm z<|R z (lnR y_ z<|a_.rep hp)<|Rm z<|Wn ?_
 obtain ⟨_,az,a2⟩:=bdS ay;refine Wf (σ:=List Int) (ρ:=Val×Int×(Option<|Int×Int)) (fun (ad:Nat)(L:List Int) a w=>∃(S3:List Nat),Sat 59 [(0,.pointer<|some ⟨b1,o1,none⟩),(4,pt w0.z),(6,pt J.z),(10,vI rr),(12,sl ac nf cg),(39,vI (b3.length:Int)),(40,vI ((ad:Nat):Int))] a/\Chg (· ∈ [H.z]) I w/\a_ w S3 (sl ac nf cg) L/\S3.Nodup/\(∀k∈S3,k∈[H.z]∨I.z<=k)) (fun (L:List Int) a w=>∃(S3:List Nat),Sat 59 [(0,.pointer<|some ⟨b1,o1,none⟩),(6,pt J.z),(10,vI rr),(12,sl ac nf cg)] a/\Chg (· ∈ [H.z]) I w/\a_ w S3 (sl ac nf cg) L/\S3.Nodup/\(∀k∈S3,k∈[H.z]∨I.z<=k)) (rQ prog fn<|Q22 w0 B) az ?_ ?_ ?_ ?_ ?_
 ·exact fun _ q=>⟨[H.z],q.k<|s7 z z z z z z z,cr [H.z] I,hp,a_e,io sr⟩
 ·rintro ad L _ b5 _ a3 ⟨S3,aA,sh,ha,hi,hj⟩ aB;refine Wu ?_ aA;refine Ws<|Rl z z z<|Wn<|Wq<|Wc z (fun _=>?_) (fun hc=>(a_0 a3 hc).elim)
  refine Wk<|Wq<|Wb<|Wm z<|Rw z<|Wg<|RM z z<|Rf z R_ z<|R z (l0 A_ z<|(((hz.e G).e s8).c sh<|djs<|mm1 hx.lt<|lt_ h6.s G.s).at z) ?_
  obtain ⟨_,b6,aC⟩:=bdS aB;refine RX z (at_ (α:=Int) y_ z_3 z z z (a0.g<|((hd.e G).e s8).c sh<|e_ (or0 (d_ lr) (p_<|zt' O<|lt_ he G.s):∀k∈[H.z],¬B k)) b6) ?_;rintro _ ⟨_,_,_,rfl,b7,b8,_⟩;obtain ⟨rfl,b9⟩:=T_ b8;refine R z (l0 g_3 z<|b7.at0 z) ?_;obtain ⟨ba,ae,aD⟩:=bdS aC;refine RX z (c_W (α:=Int) y_ z_3 z z ha ae) ?_;rintro _ ⟨_,bb,rfl⟩;refine E0 (c_X (α:=Int) z_3 z bb z z z ae ha hi (e_c b9) an_ K_) ?_;rintro _ bc ⟨af,be,bf,bg,bh⟩;refine Wn<|Wg<|R z (inc_ a3 (lt_ (a_.len hp) G_) z z)<|Rm z<|Wl ?_
  have ah:∀k∈S3,k∈[H.z]∨I.z<=k:=or1 hj (io sr)<|q_ lr;exact fun _ q=>⟨ba,(som aD).symm,⟨af,q.k<|s7 z z z z z z z,(cM (cM (cr [H.z] I) sh (io sr):Chg (· ∈ [H.z]) I b5) be ah:Chg (· ∈ [H.z]) I bc),bf,bg,(or2 bh ah an_ (q_ sh.s):∀k∈af,k∈[H.z]∨I.z<=k)⟩⟩
 ·rintro L _ bi ⟨S3,aE,bj,ha,hi,hj⟩;refine Wu ?_ aE;refine Ws<|Rl z z z<|Wn<|Wq<|Wc z (fun hc=>(a_1 hc).elim) (fun _=>?_)
  exact We<|fun _ q=>⟨rfl,⟨S3,q.k<|s4 z z z z,(cM (cr [H.z] I) bj (io sr):Chg (· ∈ [H.z]) I bi),ha,hi,(or1 hj (io sr) (q_ lr):∀k∈S3,k∈[H.z]∨I.z<=k)⟩⟩
 ·rintro L bk bm rfl ⟨S3,_,sb,ha,hi,hj⟩;have aF:=elL a2;revert bk;refine Wo<|Wm z<|R z (bP (parts:=[]) (cs:=[vI 0,sl none 0 0,sl none 0 0]) P_ z z)<|RM z z ?_
  have hq:=lt_ he G.s;have ai:∀k∈[H.z],¬B k:=or0 (d_ lr)<|p_<|zt' O hq;have aj:=((hd.e G).e s8).c sb<|e_ ai
  have hk:=lt_ (lt_ hq s8.s) sb.s;have ht:=zt' O hk;obtain ⟨bn,_,_,bo,aG⟩:=O_ aF;refine E z (fc call105 z<|aJ.run (B:=bm.z) (x2:=(⟨0,([]:List UInt8),([]:List Val)⟩:Val)) bo zr (repS.mono (W.g aj) ht) (repS.mono (Y.g aj) ht) (((a4.e G).e s8).c sb<|(e_ ai) _ hC1b) (zap' ht hC1b) (ii z) onL K_ (nbl an_) onL K_ (nbl an_) an_ (a_.rep ha) aS) ?_;rintro _ _ ⟨ak,al,am,an,ao,ap,aq,ar,au,bp,bq,rfl,br,bs,bt,bu,bv,av,hu,hl⟩
  iterate 3 refine Re z z z ?_
  refine E0 (fs0 (cur':=[vI bn.number,sl al am an,sl ap aq ar]) b_ z z ((((h5.e G).e s8).c sb<|djs<|mm1 h5.lt G.s).c ak<|atp<|nmA (nmN _)<|nmN _) z z z z) ?_;rintro _ _ ⟨bw,bx⟩;have hn:=bx.one;refine Ra z<|Rw z ?_
  obtain rfl:=som aG;have hv:=lt_ (lt_ G.s s8.s) sb.s;exact Wr<|B_ hr (u_ i_ b_ z bw z) z z ⟨bM (bM (bM (bup (bup (bup h4 h6) G) s8) sb<|m1 hq) ak al0) hn<|m1 h4.s,al,am,an,ao,ap,aq,ar,au,bp,bq,z,br,bs.c hn (or1 (al_ hl) al0 (S_ (d_ h5.lt) hv):∀k∈ao,k∉[J.z]),bt.c hn (or1 (ar_ hl) al0 (S_ (d_ h5.lt) hv):∀k∈au,k∉[J.z]),bu,bv.c hn<|h_ av h5.lt hv,j_ av hk,na_ (nl_ hu) (nr_ hu)<|nj hu,aa_ (a_l (al_ hl) al0 hk)<|a_l (ar_ hl) al0 hk⟩
 rintro _ _ _ _ rfl ⟨rfl,aH⟩;have aI:=elR a2;obtain rfl:=som aI;exact ⟨aH,z⟩
theorem T_w1x (ih:e_K n):k_S (h_i n<|a_8 n):=by
 obtain ⟨aY,_,_,_,_,_⟩:=ih
 constructor
 intro A0 A8 AA AF A9 N0 C0 N8 C8 b1 o1 NA CA NF CF N9 C9 S2_1 S2_2 B x1 x2 x3 x4 res w0 hm ae aL aM hC1 hC1b aN Y p2_1n p2_1g a0 p2_2n p2_2g p2_2d1 a1 aO;unfold h_i at hm
 refine goG func105 z z z fun fn hr=>Ws<|E z (fb z) ?_
 rintro _ wb ⟨rfl,af⟩;have h2:=af.below;have he:Blk wb w0.z [vI x2.number,sl AA NA CA,sl AF NF CF]:=af.blk;refine E z (fa E_) ?_;rintro _ G ⟨rfl,ah⟩;have W:=ah.below;have hk:Blk G wb.z [vI 0,sl none 0 0,sl none 0 0]:=ah.blk;refine Ra z<|Rw z<|Wq<|Wm z ?_
 have ai:=(h2.ag B).e W;refine R z (lnR y_ z<|a1.g ai)<|Rm z<|Wn ?_
 obtain ⟨_,aP,aa⟩:=bdS hm;refine Wf (σ:=Int×(List Val)) (ρ:=Val×Int×(Option<|Int×Int)) (fun (aj:Nat) s a w=>un2 (fun xc xh=>∃I J L H,Sat 45 [(0,.pointer<|some ⟨b1,o1,none⟩),(3,vI xc),(5,pt w0.z),(8,pt wb.z),(16,sl A9 N9 C9),(17,vI (x3.length:Int)),(18,vI ((aj:Nat):Int))] a/\Chg (· ∈ (S2_2++[w0.z])) G w/\inI xc/\a_ w H (sl I J L) xh/\H.Nodup/\(∀k∈H,k∈S2_2∨G.z<=k)/\Blk w w0.z [vI x2.number,sl AA NA CA,sl I J L]) s) (fun s a w=>un2 (fun xc xh=>∃I J L H,Sat 45 [(3,vI xc),(5,pt w0.z),(8,pt wb.z)] a/\Chg (· ∈ (S2_2++[w0.z])) G w/\inI xc/\a_ w H (sl I J L) xh/\H.Nodup/\(∀k∈H,k∈S2_2∨G.z<=k)/\Blk w w0.z [vI x2.number,sl AA NA CA,sl I J L]) s) (rQ prog fn<|Q23 w0 B S2_1 S2_2) aP ?_ ?_ ?_ ?_ ?_
 ·exact fun _ q=>⟨AF,NF,CF,S2_2,q.k<|s7 z z z z z z z,cr (S2_2++[w0.z]) G,aO,(a0.e h2).e W,p2_2n,io sr,he.e W⟩
 ·rintro aj ⟨xc,xh⟩ _ ak _ ab ⟨I,J,L,H,aQ,s6,hi,hf,hl,hd,hn⟩ aR;refine Wu ?_ aQ;refine Ws<|Rl z z z<|Wn<|Wq<|Wc z (fun _=>?_) (fun hc=>(a_0 ab hc).elim)
  refine Wk<|Wq<|Wb<|Ws ?_
  obtain ⟨_,aZ,aS⟩:=bdS<|a_t aR;have al:∀k∈[w0.z],¬B k:=or0 (d_ lr)<|p_ ae;have ht:=ai.c s6<|nmA (e_ p2_2g)<|e_ al
  refine RX z (at_ (α:=Int) y_ z_3 z z z (a1.g ht) aZ) ?_;rintro _ ⟨_,_,_,rfl,b0,b3,_⟩;obtain ⟨rfl,b4⟩:=T_ b3;refine R z (l0 g_3 z<|b0.at0 z)<|Rw z<|Wm z<|RM z z ?_
  have hu:=lt_ (lt_ h2.s W.s) s6.s;obtain ⟨ro,b5,_,b6,ad⟩:=O_ aS;refine E z (fc call64 z<|aY.run b6 (zt' ae hu) (aL.g ht) (aM.g ht) (((hC1.e h2).e W).c s6<|(nmA (e_ p2_2g)<|e_ al) _ hC1b) hC1b b4 hi) ?_;rintro _ wm ⟨sa,ar,ns,cv,am,aw,nx,cy,an,b7,b8,rfl,b9,hp,hq,ba,ao,ap,hz,hj⟩;refine Rm z ?_
  iterate 3 refine Re z z z ?_
  refine E z (fa E_) ?_;rintro _ a4 ⟨rfl,aq⟩;have O:=aq.below;refine E0 (fs0 (cur':=[vI ro.number,sl ar ns cv,sl aw nx cy]) b_ z z (aq.blk:Blk a4 wm.z [vI 0,sl none 0 0,sl none 0 0]) z z z z) ?_;rintro _ a5 ⟨bb,bc⟩;have V:=bc.one;refine Ra z<|Rw z<|Wq<|Wm z ?_
  have au:=(ao.e O).c V<|ds<|mnr<|a_x.lt ao
  refine R z (d_n d_A z z au)<|Wx z (fun a2=>?_) (fun a2=>?_)
  ·refine Ws<|R z (bP (parts:=[]) (cs:=[vI 0,sl none 0 0,sl none 0 0]) P_ z z)<|RM z z ?_
   refine E0 (fs0 (cur':=[vI 0,sl none 0 0,sl none 0 0]) b_ z z ((((hk.c s6<|atp<|nmA (mno (a_.lt a0) h2.s)<|mmr he.lt).e sa).e O).c V<|djs<|mm1 hk.lt<|lt_ s6.s sa.s) z z z z) ?_;rintro _ be ⟨bf,bg⟩;have av:=bg.one;refine Ra z<|Rw z ?_
   exact Wr<|rtO<|qL (som<|ifT ad a2).symm<|B_ hr (u_ i_ b_ z bf z) z z ⟨(cM (cM (k_ (k_ (cM (k_ (k_ (cr (S2_1++S2_2) w0) h2:Chg (· ∈ (S2_1++S2_2)) w0 wb) W:Chg (· ∈ (S2_1++S2_2)) w0 G) s6 (aa_ (io<|a_c sr) (mor lr:∀k∈[w0.z],k∈(S2_1++S2_2)∨w0.z<=k)):Chg (· ∈ (S2_1++S2_2)) w0 ak) sa:Chg (· ∈ (S2_1++S2_2)) w0 wm) O:Chg (· ∈ (S2_1++S2_2)) w0 a4) V (mor (lt_ hu sa.s):∀k∈[wm.z],k∈(S2_1++S2_2)∨w0.z<=k):Chg (· ∈ (S2_1++S2_2)) w0 a5) av (mor h2.s:∀k∈[wb.z],k∈(S2_1++S2_2)∨w0.z<=k):Chg (· ∈ (S2_1++S2_2)) w0 be),none,0,0,[],none,0,0,[],b7,b8,z,ii z,onL,onL,hi,au.c av<|h_ ap hk.lt s6.s,j_ ap hu,nd0,al0⟩
  refine Wk<|Ws<|Rf z Q_ z ?_
  have a6:=lt_ W.s s6.s;have ax:=lt_ a6 sa.s;have ay:=((hn.e sa).e O).c V<|djs<|mm1 he.lt ax
  refine R z (l0 X_ z<|ay.at z)<|R z (lN (vs:=[vI ro.number,sl ar ns cv,sl aw nx cy]) i_ b_ z z fid<|bb.row 0 3 z)<|E z (fS [(.tmp 37)] c_a z z z (a_J z) (lb z)<|lb z) ?_
  rintro _ az ⟨rfl,aA⟩;have hg:=aA.below;have bx:=(hp.e O).c V<|ds<|mnr<|a_.lt hp
  have bz:=(hq.e O).c V<|ds<|mnr<|a_.lt hq
  obtain ⟨bh,bi,aT⟩:=bdS<|ifF ad a2;refine E z (b_i (α:=Val) c_a bi z z ((((hf.e sa).e O).c V<|ds<|mno (a_.lt hf) sa.s).e hg) hl (aA.blk:Blk az a5.z [vI ro.number,sl ar ns cv,sl aw nx cy]) (e_0 (x:=ro) (S1:=am) (S2:=an) b9 (((hp.e O).c V<|ds<|mnr<|a_.lt hp).e hg)<|((hq.e O).c V<|ds<|mnr<|a_.lt hq).e hg) (aa_ (a_Y (al_ hj) (a_.lt hf) lr)<|a_Y (ar_ hj) (a_.lt hf) lr)<|na_ (nl_ hz) (nr_ hz)<|nj hz) ?_;rintro _ bj ⟨a7,aB,aC,aD,rfl,aE,bk,bm,aF⟩;refine Rf z Q_ z ?_;have aG:∀k∈H,k∉[w0.z]:=or1 hd (ds<|mnr<|a_.lt a0)<|S_ (d_ he.lt) W.s;refine E0 (fs0 (cur':=[vI x2.number,sl AA NA CA,sl aB aC aD]) d_h z z ((ay.e hg).c aE<|djs aG) z z z z) ?_;rintro _ bn ⟨bo,bp⟩;have aH:=bp.one;refine Wn<|Wg<|Rm z<|Rw z<|Wg<|R z (inc_ ab (lt_ (repS.len a1) G_) z z)<|Rm z<|Wl ?_
  have aI:=lt_ s6.s sa.s;exact fun _ q=>⟨(b5,bh),(som aT).symm,⟨aB,aC,aD,a7,q.k<|s7 z z z z z z z,(cM (cM (k_ (cM (k_ (k_ (cM (cr (S2_2++[w0.z]) G) s6 (aa_ (io<|a_5 sr)<|io<|a_c sr):Chg (· ∈ (S2_2++[w0.z])) G ak) sa:Chg (· ∈ (S2_2++[w0.z])) G wm) O:Chg (· ∈ (S2_2++[w0.z])) G a4) V (mor aI:∀k∈[wm.z],k∈(S2_2++[w0.z])∨G.z<=k):Chg (· ∈ (S2_2++[w0.z])) G a5) hg:Chg (· ∈ (S2_2++[w0.z])) G az) aE (or1 hd (io<|a_5 sr) (q_ lr):∀k∈H,k∈(S2_2++[w0.z])∨G.z<=k):Chg (· ∈ (S2_2++[w0.z])) G bj) aH (io<|a_c sr):Chg (· ∈ (S2_2++[w0.z])) G bn),ba,bk.c aH (or2 aF aG (aa_ (h_ (al_ hj) he.lt a6)<|h_ (ar_ hj) he.lt a6) (S_ (d_ he.lt)<|lt_ (lt_ (lt_ ax O.s) V.s) hg.s):∀k∈a7,k∉[w0.z]),bm,(or2 aF (or1 hd (io sr) (q_ lr):∀k∈H,k∈S2_2∨G.z<=k) (aa_ (or0 (al_ hj) (q_ s6.s):∀k∈am,k∈S2_2∨G.z<=k) (or0 (ar_ hj) (q_ s6.s):∀k∈an,k∈S2_2∨G.z<=k)) (q_<|lt_ (lt_ (lt_ aI O.s) V.s) hg.s):∀k∈a7,k∈S2_2∨G.z<=k),bo⟩⟩
 ·rintro ⟨xc,xh⟩ _ bq ⟨I,J,L,H,aU,br,hi,hf,hl,hd,hn⟩;refine Wu ?_ aU;refine Ws<|Rl z z z<|Wn<|Wq<|Wc z (fun hc=>(a_1 hc).elim) (fun _=>?_)
  exact We<|fun _ q=>⟨rfl,⟨I,J,L,H,q.k<|s3 z z z,(cM (cr (S2_2++[w0.z]) G) br (aa_ (io<|a_5 sr)<|io<|a_c sr):Chg (· ∈ (S2_2++[w0.z])) G bq),hi,hf,hl,(or1 hd (io sr) (q_ lr):∀k∈H,k∈S2_2∨G.z<=k),hn⟩⟩
 ·rintro ⟨xc,xh⟩ bs bt rfl ⟨I,J,L,H,_,a8,hi,hf,hl,hd,hn⟩;have aV:=elL aa;revert bs;refine Wo<|Ws<|R z (lN (vs:=[vI x2.number,sl AA NA CA,sl I J L]) i_ b_ z z fid<|hn.row 0 3 z)<|Rm z ?_
  have aJ:=mno (a_.lt a0) h2.s;refine E0 (fs0 (cur':=[vI x2.number,sl AA NA CA,sl I J L]) b_ z z (hk.c a8<|atp<|nmA aJ<|mmr he.lt) z z z z) ?_;rintro _ bu ⟨bv,bw⟩;have a9:=bw.one;refine Ra z<|Rw z ?_
  obtain rfl:=som<|a_t aV;have aK:=lt_ h2.s W.s;exact Wr<|B_ hr (u_ i_ b_ z bv z) z z ⟨(cM (cM (k_ (k_ (cr (S2_1++S2_2) w0) h2:Chg (· ∈ (S2_1++S2_2)) w0 wb) W:Chg (· ∈ (S2_1++S2_2)) w0 G) a8 (aa_ (io<|a_c sr) (mor lr:∀k∈[w0.z],k∈(S2_1++S2_2)∨w0.z<=k)):Chg (· ∈ (S2_1++S2_2)) w0 bt) a9 (mor h2.s:∀k∈[wb.z],k∈(S2_1++S2_2)∨w0.z<=k):Chg (· ∈ (S2_1++S2_2)) w0 bu),AA,NA,CA,S2_1,I,J,L,H,.nilIface,([]:List Nat),z,aN,(((Y.e h2).e W).c a8<|nmA (ds p2_2d1)<|ds<|mnr<|a_.lt Y).c a9<|ds<|mno (a_.lt Y) h2.s,hf.c a9 (or1 hd (ds aJ) (S_ (d_ hk.lt) lr):∀k∈H,k∉[wb.z]),hi,d_I,an_,na_ p2_1n hl<|ds<|o1no hd p2_2d1 (a_.lt Y) aK,aa_ (io<|a_5 sr) (or1 hd (io<|a_c sr) (q_ aK):∀k∈H,k∈(S2_1++S2_2)∨w0.z<=k)⟩
 rintro _ _ _ _ rfl ⟨rfl,aW⟩;have aX:=elR aa;obtain rfl:=som aX;exact ⟨aW,z⟩
theorem T_w1y (ih:e_K n):k_T (h_j n<|a_8 n):=by
 obtain ⟨_,_,ar,_,_,_⟩:=ih
 constructor
 intro A0 A8 A3 A2 A1 A4 N0 C0 N8 C8 b1 o1 N3 C3 N2 C2 N1 C1 N4 C4 B x1 x2 x3 res w0 hm Y a0 a1 hC1 hC1b b8 b9 ba bb bc J a2 L;unfold h_j at hm
 refine goG func106 z z z fun fn hr=>Ws<|E z (fb z) ?_
 rintro _ H ⟨rfl,hk⟩;have h1:=hk.below;refine E z (fa E_) ?_;rintro _ au ⟨rfl,hl⟩;have h4:=hl.below;have h2:Blk au H.z [vI 0,sl none 0 0,sl none 0 0]:=hl.blk;refine Ra z<|Rw z<|Wm z<|Rf z R_ z ?_
 have hn:=(hk.blk:Blk H w0.z (vR x2 A3 N3 C3 A2 N2 C2 A1 N1 C1 A4 N4 C4)).e h4;refine R z (l0 A_ z<|hn.at z) ?_;obtain ⟨_,av,af⟩:=bdS hm;have O:=(h1.ag B).e h4;refine RX z (at_ (α:=Int) y_ z_3 z z z (a2.g O) av) ?_;rintro _ ⟨_,_,_,rfl,aw,ax,_⟩;obtain ⟨rfl,az⟩:=T_ ax;refine R z (l0 g_3 z<|aw.at0 z)<|Rm z ?_
 have ho:=(hC1.e h1).e h4;have V:=lt_ h1.s h4.s;obtain ⟨re,aA,_,aB,hmm⟩:=O_ af;refine E z (fc call101 z<|j_l aB (zt' Y V) (a0.g O) (a1.g O) ho hC1b az L) ?_;rintro _ I ⟨G,aC,aD,rfl,aE,aF,hp,hq⟩;refine Rm z ?_
 iterate 3 refine Re z z z ?_
 refine RA z z<|Rw z<|Wq<|Wm z<|R z (d_n d_A z z hp)<|Wx z (fun hcf=>?_) (fun hcf=>?_)
 ·refine Ws<|R z (bP (parts:=[]) (cs:=[vI 0,sl none 0 0,sl none 0 0]) P_ z z)<|RM z z<|E0 (fs0 (cur':=[vI 0,sl none 0 0,sl none 0 0]) b_ z z (h2.e G) z z z z) ?_
  rintro _ _ ⟨aG,aH⟩;have ht:=aH.one;refine Ra z<|Rw z ?_
  obtain rfl:=som<|ifT hmm hcf;exact Wr<|B_ hr (u_ i_ b_ z aG z) z z ⟨bM (bup (bup h1 h4) G) ht<|m1 h1.s,none,0,0,[],none,0,0,[],aC,aD,z,ii z,onL,onL,L,hp.c ht<|h_ hq h2.lt lr,j_ hq V,nd0,al0⟩
 refine Wk<|Wq<|Ws<|Rf z b_f z ?_
 have hu:=hn.e G;refine R z (l0 A_ z<|hu.at z) ?_;have hv:=O.e G;refine R z (lnR y_ z<|J.g hv)<|Rm z<|Wn ?_
 obtain ⟨_,ah,hmr⟩:=bdS<|ifF hmm hcf;refine Wf (σ:=Unit) (ρ:=Val×Int×(Option<|Int×Int)) (fun (ks:Nat)(_:Unit) a w=>Sat 61 [(0,.pointer<|some ⟨b1,o1,none⟩),(2,vI x3),(4,pt w0.z),(6,pt H.z),(9,vI re),(10,vI aA),(31,sl A1 N1 C1),(32,vI (x2.tags.length:Int)),(33,vI ((ks:Nat):Int))] a/\Below I.z I w) (fun (_:Unit) a w=>Sat 61 [(2,vI x3),(6,pt H.z)] a/\Below I.z I w) (rQ prog fn<|Q22 w0 B) ah ?_ ?_ ?_ ?_ ?_
 ·exact fun _ q=>⟨q.k<|s9 z z z z z z z z z,br I⟩
 ·rintro ks _ _ _ _ hkg ⟨ai,s3⟩ aj;refine Wu ?_ ai;refine Ws<|Rl z z z<|Wn<|Wq<|Wc z (fun _=>?_) (fun hc=>(a_0 hkg hc).elim)
  refine Wk<|Wq<|Wb<|Wm z ?_
  obtain ⟨_,aI,hmw⟩:=bdS aj;have W:=hv.e s3;refine RX z (at_ (α:=Int) y_ z_3 z z z (J.g W) aI) ?_;rintro _ ⟨_,_,_,rfl,aJ,aK,_⟩;obtain ⟨rfl,_⟩:=T_ aK;refine R z (l0 g_3 z<|aJ.at0 z)<|Ra z<|Rw z<|Wm z<|Rm z<|Rq z z z<|Wx z (fun hch=>?_) (fun hch=>?_)
  ·refine Wm z<|Rm z<|R z (bP (parts:=[(0,.tmp 42)]) (cs:=[vI re,sl none 0 0,sl none 0 0]) P_ z z)<|Rf z R_ z<|R z (l0 A_ z<|(hu.e s3).at z)<|Rm z<|R z (inc_ hkg (lt_ (repS.len J) G_) z z)<|Rm z<|R z (add_ z z) ?_
   obtain ⟨_,aL,ak⟩:=bdS<|ifT hmw hch;refine RX z (rX y_ z_3 z z (a2.g W) z z aL) ?_;rintro _ ⟨_,_,_,rfl,aM⟩;refine Rm z ?_;have ha:=lt_ (lt_ V G.s) s3.s;obtain ⟨aN,_,_,aO,al⟩:=O_ ak;refine E z (fc call105 z<|ar.run (B:=B) (x2:=(⟨re,([]:List UInt8),([]:List Val)⟩:Val)) aO (zt' Y ha) (a0.g W) (a1.g W) ((ho.e G).e s3) hC1b aE onL K_ an_ onL K_ an_ an_ aM aF) ?_;rintro _ _ ⟨sx,ay,nz,a3,a4,a5,a6,a7,a8,aP,aQ,rfl,aR,aS,aT,aU,aV,a9,hi,hb⟩
   iterate 3 refine Re z z z ?_
   refine E0 (fs0 (cur':=[vI aN.number,sl ay nz a3,sl a5 a6 a7]) b_ z z (((h2.e G).e s3).c sx<|atp<|nmA (nmN _)<|nmN _) z z z z) ?_;rintro _ _ ⟨aW,aX⟩;have hd:=aX.one;refine Ra z<|Rw z ?_
   have hj:=lt_ G.s s3.s;exact Wr<|rtO<|qL (som al).symm<|B_ hr (u_ i_ b_ z aW z) z z ⟨bM (bM (bup (bup (bup h1 h4) G) s3) sx al0) hd<|m1 h1.s,ay,nz,a3,a4,a5,a6,a7,a8,aP,aQ,z,aR,aS.c hd (or1 (al_ hb) al0 (S_ (d_ h2.lt) hj):∀k∈a4,k∉[H.z]),aT.c hd (or1 (ar_ hb) al0 (S_ (d_ h2.lt) hj):∀k∈a8,k∉[H.z]),aU,aV.c hd<|h_ a9 h2.lt hj,j_ a9 ha,na_ (nl_ hi) (nr_ hi)<|nj hi,aa_ (a_l (al_ hb) al0 ha)<|a_l (ar_ hb) al0 ha⟩
  exact Wk<|Wg<|R z (inc_ hkg (lt_ (repS.len J) G_) z z)<|Rm z<|Wl (fun _ q=>⟨(),(som<|ifF hmw hch).symm,⟨q.k<|s9 z z z z z z z z z,s3⟩⟩)
 ·rintro _ _ _ ⟨am,aY⟩;refine Wu ?_ am;refine Ws<|Rl z z z<|Wn<|Wq<|Wc z (fun hc=>(a_1 hc).elim) (fun _=>?_)
  exact We<|fun _ q=>⟨rfl,⟨q.k<|s2 z z,aY⟩⟩
 ·rintro _ aZ _ rfl ⟨_,sc⟩;have an:=elL hmr;revert aZ;refine Wo<|Ws<|R z (bP (parts:=[]) (cs:=[vI 0,sl none 0 0,sl none 0 0]) P_ z z)<|RM z z ?_
  have aa:=lt_ (lt_ V G.s) sc.s;obtain ⟨_,b0,ao⟩:=bdS an;refine E z (fc call110 z<|e_7 b0 (zt' Y aa) L<|ii z) ?_;rintro _ _ ⟨ab,b3,b4,rfl,b5,ad⟩;refine E0 (fs0 (cur':=[vI 0,sl none 0 0,sl none 0 0]) b_ z z (((h2.e G).e sc).e ab) z z z z) ?_;rintro _ _ ⟨b6,b7⟩;have ae:=b7.one;refine Ra z<|Rw z ?_
  obtain rfl:=som ao;exact Wr<|B_ hr (u_ i_ b_ z b6 z) z z ⟨bM (bup (bup (bup (bup h1 h4) G) sc) ab) ae<|m1 h1.s,none,0,0,[],none,0,0,[],b3,b4,z,ii z,onL,onL,L,b5.c ae<|h_ ad h2.lt<|lt_ G.s sc.s,j_ ad aa,nd0,al0⟩
 rintro _ _ _ _ rfl ⟨rfl,ap⟩;have aq:=elR hmr;obtain rfl:=som aq;exact ⟨ap,z⟩
theorem T_w1z (ih:e_K n):k_U (h_k n<|a_8 n):=by
 obtain ⟨_,_,a6,_,_,_⟩:=ih
 constructor
 intro A0 A8 A3 A2 A1 A4 N0 C0 N8 C8 b1 o1 N3 C3 N2 C2 N1 C1 N4 C4 B x1 x2 x3 res w0 hm O W Y hC1 hC1b aI aJ aK aL aM aN a3 H;unfold h_k at hm
 refine goG func107 z z z fun fn hr=>Ws<|E z (fb z) ?_
 rintro _ I ⟨rfl,hf⟩;have h1:=hf.below;refine E z (fa E_) ?_;rintro _ a7 ⟨rfl,hg⟩;have h3:=hg.below;have h2:Blk a7 I.z [vI 0,sl none 0 0,sl none 0 0]:=hg.blk;refine Ra z<|Rw z<|Wm z<|Rm z ?_
 have hh:=(hC1.e h1).e h3;have V:=(h1.ag B).e h3;have h5:=lt_ h1.s h3.s;obtain ⟨_,_,a8,hmi⟩:=V_ hm;refine E z (fc call132 z<|j_k a8 (zt' O h5) (W.g V) (Y.g V) hh hC1b H<|ii z) ?_;rintro _ _ ⟨G,_,_,_,a9,aa,rfl,hj,hk,hl⟩;refine Rm z<|Re z z z<|Re z z z<|Ra z<|Rw z<|Wq<|Wb<|Wm z<|R z (d_n d_A z z hk)<|Rw z<|Wc z (fun hca=>?_) (fun hca=>?_)
 ·refine Ws<|R z (bP (parts:=[]) (cs:=[vI 0,sl none 0 0,sl none 0 0]) P_ z z)<|RM z z<|E0 (fs0 (cur':=[vI 0,sl none 0 0,sl none 0 0]) b_ z z (h2.e G) z z z z) ?_
  rintro _ _ ⟨ab,ad⟩;have hn:=ad.one;refine Ra z<|Rw z ?_
  obtain rfl:=som<|ifT hmi hca;exact Wr<|rtO<|B_ hr (u_ i_ b_ z ab z) z z ⟨bM (bup (bup h1 h3) G) hn<|m1 h1.s,none,0,0,[],none,0,0,[],a9,aa,z,ii z,onL,onL,H,hk.c hn<|h_ hl h2.lt lr,j_ hl h5,nd0,al0⟩
 refine Wm z ?_
 obtain ⟨_,ae,hmm⟩:=bdS<|ifF hmi hca;refine RX z (at_ (α:=UInt8) n_ z_5 z z z hj ae) ?_;rintro _ ⟨_,_,_,rfl,af,ah,_⟩;obtain rfl:=u8 ah;refine R z (l0 g_5 z<|af.at0 z)<|R z (a_C z z)<|Rw z<|Wc z (fun hcb=>?_) (fun hcb=>?_)
 ·refine Ws<|R z (bP (parts:=[]) (cs:=[vI 0,sl none 0 0,sl none 0 0]) P_ z z)<|RM z z ?_
  have ho:=lt_ h5 G.s;obtain ⟨_,ai,a4⟩:=bdS<|ifT hmm hcb;refine E z (fc call110 z<|e_7 ai (zt' O ho) H<|ii z) ?_;rintro _ _ ⟨sp,aj,ak,rfl,al,hq⟩;refine E0 (fs0 (cur':=[vI 0,sl none 0 0,sl none 0 0]) b_ z z ((h2.e G).e sp) z z z z) ?_;rintro _ _ ⟨am,an⟩;have ht:=an.one;refine Ra z<|Rw z ?_
  obtain rfl:=som a4;exact Wr<|rtO<|B_ hr (u_ i_ b_ z am z) z z ⟨bM (bup (bup (bup h1 h3) G) sp) ht<|m1 h1.s,none,0,0,[],none,0,0,[],aj,ak,z,ii z,onL,onL,H,al.c ht<|h_ hq h2.lt G.s,j_ hq ho,nd0,al0⟩
 refine Wm z ?_
 obtain ⟨_,ao,hmr⟩:=bdS<|ifF hmm hcb;refine RX z (at_ (α:=UInt8) n_ z_5 z z z hj ao) ?_;rintro _ ⟨_,_,_,rfl,ap,aq,_⟩;obtain rfl:=u8 aq;refine R z (l0 g_5 z<|ap.at0 z)<|Rq z z z<|Rw z<|Wc z (fun hcc=>?_) (fun hcc=>?_)
 ·refine Ws<|R z (bP (parts:=[]) (cs:=[vI 0,sl none 0 0,sl none 0 0]) P_ z z)<|Rm z<|R z (add_ z z)<|E0 (fs0 (cur':=[vI 0,sl none 0 0,sl none 0 0]) b_ z z (h2.e G) z z z z) ?_
  rintro _ _ ⟨ar,av⟩;refine Ra z<|Rw z ?_
  obtain rfl:=som<|ifT hmr hcc;exact Wr<|rtO<|B_ hr (u_ i_ b_ z ar z) z z ⟨bM (bup (bup h1 h3) G) av.one<|m1 h1.s,none,0,0,[],none,0,0,[],.nilIface,([]:List Nat),z,ii z,onL,onL,iA _ _,d_I,an_,nd0,al0⟩
 refine Wk<|Wm z<|R z (bP (parts:=[]) (cs:=[vI 0,sl none 0 0,sl none 0 0]) P_ z z)<|Rf z R_ z<|R z (l0 A_ z<|(((hf.blk:Blk I w0.z (vR x2 A3 N3 C3 A2 N2 C2 A1 N1 C1 A4 N4 C4)).e h3).e G).at z)<|Rm z<|R z (add_ z z) ?_
 have hd:=V.e G;have h6:=lt_ h5 G.s;obtain ⟨aw,_,_,ax,a5⟩:=O_<|ifF hmr hcc;refine E z (fc call105 z<|a6.run (B:=B) (x2:=(⟨0,([]:List UInt8),([]:List Val)⟩:Val)) ax (zt' O h6) (W.g hd) (Y.g hd) (hh.e G) hC1b (ii z) onL K_ an_ onL K_ an_ an_ (a3.g hd)<|iA _ _) ?_;rintro _ _ ⟨ss,au,nv,cw,Sx,ay,nz,a0,a1,az,aA,rfl,aB,aC,aD,aE,aF,a2,he,J⟩
 iterate 3 refine Re z z z ?_
 refine E0 (fs0 (cur':=[vI aw.number,sl au nv cw,sl ay nz a0]) b_ z z ((h2.e G).c ss<|atp<|nmA (nmN _)<|nmN _) z z z z) ?_;rintro _ _ ⟨aG,aH⟩;have L:=aH.one;refine Ra z<|Rw z ?_
 obtain rfl:=som a5;exact Wr<|B_ hr (u_ i_ b_ z aG z) z z ⟨bM (bM (bup (bup h1 h3) G) ss al0) L<|m1 h1.s,au,nv,cw,Sx,ay,nz,a0,a1,az,aA,z,aB,aC.c L (or1 (al_ J) al0 (S_ (d_ h2.lt) G.s):∀k∈Sx,k∉[I.z]),aD.c L (or1 (ar_ J) al0 (S_ (d_ h2.lt) G.s):∀k∈a1,k∉[I.z]),aE,aF.c L<|h_ a2 h2.lt G.s,j_ a2 h6,na_ (nl_ he) (nr_ he)<|nj he,aa_ (a_l (al_ J) al0 h6)<|a_l (ar_ J) al0 h6⟩
theorem T_w20 (ih:e_K n):k_V (h_l n<|a_8 n):=by
 obtain ⟨_,_,ap,_,_,_⟩:=ih
 constructor
 intro A0 A8 A3 A2 A1 A4 N0 C0 N8 C8 b1 o1 N3 C3 N2 C2 N1 C1 N4 C4 B x1 x2 x3 res w0 hm J V O hC1 hC1b aW aX aY aZ b0 b3 al L;unfold h_l at hm
 refine goG func108 z z z fun fn hr=>Ws<|E z (fb z) ?_
 rintro _ wb ⟨rfl,hu⟩;have h6:=hu.below;refine E z (fa E_) ?_;rintro _ aq ⟨rfl,hv⟩;have H:=hv.below;have h3:Blk aq wb.z [vI 0,sl none 0 0,sl none 0 0]:=hv.blk;refine Ra z<|Rw z<|Wm z<|R z (bP (parts:=[]) (cs:=[vI 0,sl none 0 0,sl none 0 0]) P_ z z)<|Rf z R_ z<|R z (l0 A_ z<|((hu.blk:Blk wb w0.z (vR x2 A3 N3 C3 A2 N2 C2 A1 N1 C1 A4 N4 C4)).e H).at z)<|Rm z ?_
 have hw:=(hC1.e h6).e H;have hc:=(h6.ag B).e H;have I:=lt_ h6.s H.s;obtain ⟨rk,_,_,ar,hmr⟩:=O_ hm;refine E z (fc call105 z<|ap.run (B:=B) (x2:=(⟨0,([]:List UInt8),([]:List Val)⟩:Val)) ar (zt' J I) (V.g hc) (O.g hc) hw hC1b (ii z) onL K_ an_ onL K_ an_ an_ (al.g hc) L) ?_;rintro _ ws ⟨G,ad,ne,cf,Sx,ah,ng,ci,Sy,au,av,rfl,aw,hz,a0,a1,a2,a3,hl,hj⟩;refine Rm z ?_
 iterate 3 refine Re z z z ?_
 refine E z (fa E_) ?_;rintro _ ax ⟨rfl,a4⟩;have h1:=a4.below;refine E0 (fs0 (cur':=[vI rk.number,sl ad ne cf,sl ah ng ci]) b_ z z (a4.blk:Blk ax ws.z [vI 0,sl none 0 0,sl none 0 0]) z z z z) ?_;rintro _ _ ⟨ay,az⟩;have h2:=az.one;refine Ra z<|Rw z<|Wq<|Wm z ?_
 have a5:=(a2.e h1).c h2<|ds<|mnr<|a_x.lt a2
 refine R z (d_n d_A z z a5)<|Wx z (fun hcm=>?_) (fun hcm=>?_)
 ·refine Ws<|R z (bP (parts:=[]) (cs:=[vI 0,sl none 0 0,sl none 0 0]) P_ z z)<|RM z z<|E0 (fs0 (cur':=[vI 0,sl none 0 0,sl none 0 0]) b_ z z (((h3.c G<|atp<|nmA (nmN _)<|nmN _).e h1).c h2<|djs<|mm1 h3.lt G.s) z z z z) ?_
  rintro _ _ ⟨aA,aB⟩;have a6:=aB.one;refine Ra z<|Rw z ?_
  obtain rfl:=som<|ifT hmr hcm;exact Wr<|B_ hr (u_ i_ b_ z aA z) z z ⟨bM (bM (bup (bM (bup h6 H) G al0) h1) h2<|m1<|lt_ I G.s) a6<|m1 h6.s,none,0,0,[],none,0,0,[],au,av,z,ii z,onL,onL,L,a5.c a6<|h_ a3 h3.lt lr,j_ a3 I,nd0,al0⟩
 refine Wk<|Wm z<|Rm z ?_
 have ha:=lt_ I G.s;have a7:∀k∈[ws.z],¬B k:=or0 (d_ lr)<|p_<|zt' J ha;have a8:=((hw.c G<|(nmA (e_ an_)<|e_ an_) _ hC1b).e h1).c h2<|(e_ a7) _ hC1b
 have hn:=((hc.c G<|nmA (e_ an_)<|e_ an_).e h1).c h2<|e_ a7
 have ho:=lt_ (lt_ ha h1.s) h2.s;obtain ⟨_,_,aC,W⟩:=V_<|ifF hmr hcm;refine E z (fc call132 z<|j_k aC (zt' J ho) (V.g hn) (O.g hn) a8 hC1b a1<|ii z) ?_;rintro _ _ ⟨s4,_,_,_,aD,aE,rfl,aF,a9,aa⟩;refine Rm z<|Re z z z<|Re z z z<|Ra z<|Rw z<|Wq<|Wm z<|R z (d_n d_A z z a9)<|Wx z (fun hcp=>?_) (fun hcp=>?_)
 ·refine Ws<|R z (bP (parts:=[]) (cs:=[vI 0,sl none 0 0,sl none 0 0]) P_ z z)<|RM z z<|E0 (fs0 (cur':=[vI 0,sl none 0 0,sl none 0 0]) b_ z z ((((h3.c G<|atp<|nmA (nmN _)<|nmN _).e h1).c h2<|djs<|mm1 h3.lt G.s).e s4) z z z z) ?_
  rintro _ _ ⟨aG,aH⟩;have ab:=aH.one;refine Ra z<|Rw z ?_
  obtain rfl:=som<|ifT W hcp;exact Wr<|B_ hr (u_ i_ b_ z aG z) z z ⟨bM (bup (bM (bup (bM (bup h6 H) G al0) h1) h2<|m1 ha) s4) ab<|m1 h6.s,none,0,0,[],none,0,0,[],aD,aE,z,ii z,onL,onL,L,a9.c ab<|h_ aa h3.lt<|lt_ (lt_ G.s h1.s) h2.s,j_ aa ho,nd0,al0⟩
 refine Wk<|Wq<|Wq (Wd (X:=noX) 0 (pl_ 13 [11]) mo (by kernel_rfl) fun b4 s5 _=>dM z z z ?_)
 obtain ⟨_,aI,am⟩:=bdS<|ifF W hcp;refine dRX z z (at_ (α:=UInt8) n_ z_5 z z z (aF.e s5) aI) ?_;rintro _ ⟨_,_,_,rfl,aJ,aK,_⟩;obtain rfl:=u8 aK;refine dR z z (l0 g_5 z<|aJ.at0 z)<|dR z z (b_E d_5 d_3 z)<|dM z z z<|dR z z (C_ z)<|dR z z (fd f_x z)<|dR z z (l0 J_ z<|((a8.e s4).e s5).at (j:=1) z)<|dM z z z<|dM z z z ?_
 obtain ⟨_,aL,an⟩:=bdS am;refine dRX z z (rX n_ z_5 z z (O.g<|(hn.e s4).e s5) z z aL) ?_;rintro _ ⟨_,_,_,rfl,aM⟩;have ae:=lt_ (lt_ ho s4.s) s5.s;obtain ⟨_,aN,Y⟩:=bdS an;refine dE z z (fc call134 z<|W_w1v aN (zt' J ae) aM) (.inr fun _ _ h=>o_<|h.1) ?_;rintro _ _ ⟨s7,rfl,_⟩;refine dR z z (nq z z)<|pD<|Wo<|Wc z (fun hcq=>?_) (fun hcq=>?_)
 ·refine Ws<|R z (bP (parts:=[]) (cs:=[vI 0,sl none 0 0,sl none 0 0]) P_ z z)<|RM z z ?_
  have af:=lt_ ae s7.s;obtain ⟨_,aO,ao⟩:=bdS<|ifT Y hcq;refine E z (fc call110 z<|e_7 aO (zt' J af) a1<|ii z) ?_;rintro _ _ ⟨ai,aP,aQ,rfl,aR,aj⟩;refine E0 (fs0 (cur':=[vI 0,sl none 0 0,sl none 0 0]) b_ z z (((((((h3.c G<|atp<|nmA (nmN _)<|nmN _).e h1).c h2<|djs<|mm1 h3.lt G.s).e s4).e s5).e s7).e ai) z z z z) ?_;rintro _ _ ⟨aS,aT⟩;have ak:=aT.one;refine Ra z<|Rw z ?_
  obtain rfl:=som ao;exact Wr<|B_ hr (u_ i_ b_ z aS z) z z ⟨bM (bup (bup (bup (bup (bM (bup (bM (bup h6 H) G al0) h1) h2<|m1 ha) s4) s5) s7) ai) ak<|m1 h6.s,none,0,0,[],none,0,0,[],aP,aQ,z,ii z,onL,onL,L,aR.c ak<|h_ aj h3.lt<|lt_ (lt_ (lt_ (lt_ (lt_ G.s h1.s) h2.s) s4.s) s5.s) s7.s,j_ aj af,nd0,al0⟩
 refine Wk<|Ws<|R z (lN (vs:=[vI rk.number,sl ad ne cf,sl ah ng ci]) i_ b_ z z fid<|(((ay.e s4).e s5).e s7).row 0 3 z)<|Rm z<|R z (add_ z z)<|E0 (fs0 (cur':=[vI rk.number,sl ad ne cf,sl ah ng ci]) b_ z z ((((((h3.c G<|atp<|nmA (nmN _)<|nmN _).e h1).c h2<|djs<|mm1 h3.lt G.s).e s4).e s5).e s7) z z z z) ?_
 rintro _ _ ⟨aU,aV⟩;have ht:=aV.one;refine Ra z<|Rw z ?_
 obtain rfl:=som<|ifF Y hcq;exact Wr<|B_ hr (u_ i_ b_ z aU z) z z ⟨bM (bup (bup (bup (bM (bup (bM (bup h6 H) G al0) h1) h2<|m1 ha) s4) s5) s7) ht<|m1 h6.s,ad,ne,cf,Sx,ah,ng,ci,Sy,.nilIface,([]:List Nat),z,aw,(((((hz.e h1).c h2<|ds<|mnr<|a_.lt hz).e s4).e s5).e s7).c ht (or1 (al_ hj) al0 (S_ (d_ h3.lt) lr):∀k∈Sx,k∉[wb.z]),(((((a0.e h1).c h2<|ds<|mnr<|a_.lt a0).e s4).e s5).e s7).c ht (or1 (ar_ hj) al0 (S_ (d_ h3.lt) lr):∀k∈Sy,k∉[wb.z]),iA _ _,d_I,an_,na_ (nl_ hl) (nr_ hl)<|nj hl,aa_ (a_l (al_ hj) al0 I)<|a_l (ar_ hj) al0 I⟩
theorem c_z:∀n,e_K n
  | 0=>⟨⟨fun hm=>by intros;exact nomatch (show none=some _ from hm)⟩,⟨fun hm=>by intros;exact nomatch (show none=some _ from hm)⟩,⟨fun hm=>by intros;exact nomatch (show none=some _ from hm)⟩,⟨fun hm=>by intros;exact nomatch (show none=some _ from hm)⟩,⟨fun hm=>by intros;exact nomatch (show none=some _ from hm)⟩,⟨fun hm=>by intros;exact nomatch (show none=some _ from hm)⟩⟩
  | n+1=>⟨T_w01<|c_z n,T_w1w<|c_z n,T_w1x<|c_z n,T_w1y<|c_z n,T_w1z<|c_z n,T_w20<|c_z n⟩
theorem W_w01:k_Q (a_8 n).impl_fileReader_value:=(c_z n).1
theorem W_w1w:k_R (a_8 n).impl_fileReader_array:=(c_z n).2.1
theorem W_w1x:k_S (a_8 n).impl_fileReader_items:=(c_z n).2.2.1
theorem W_w1y:k_T (a_8 n).impl_fileReader_choice:=(c_z n).2.2.2.1
theorem W_w1z:k_U (a_8 n).impl_fileReader_option:=(c_z n).2.2.2.2.1
theorem W_w20:k_V (a_8 n).impl_fileReader_checked:=(c_z n).2.2.2.2.2
theorem k_W {x1:c_}{x2:Int}{x3:List UInt8}{x4:Int}{res:Val×Int×Int}(hm:h_m n x1 x2 x3 x4=some res)(O:B<=w0.z)(hG:Gl w0 B)(V:repS w0 B (sl A0 N0 C0) x1.rules)(W:inI x2)(Y:repS w0 B (sl A9 N9 C9) x3)(aB:inI x4):l_ prog 39 [(.agg #[sl A0 N0 C0]),vI x2,sl A9 N9 C9,vI x4] w0 (Q9 w0 B res):=by
 unfold h_m at hm
 refine goG func39 z z z fun fn hr=>Ws<|E z (fb z) ?_
 rintro _ wc ⟨rfl,a5⟩;have h1:=a5.below;have a6:Blk wc w0.z [sl A0 N0 C0]:=a5.blk;refine E z (fa E_) ?_;rintro _ wp ⟨rfl,a7⟩;have h4:=a7.below;have h5:Blk wp wc.z [vI 0,sl none 0 0,sl none 0 0]:=a7.blk;refine Ra z<|Rw z<|Wq<|Wq ?_
 obtain ⟨aE,aC,a0⟩:=bdS hm;refine Wt (fun a w=>∃(xq:Bool),xq=aE/\Sat 62 [(1,vI x2),(2,sl A9 N9 C9),(3,vI x4),(4,pt w0.z),(8,pt wc.z),(34,vB xq)] a/\Below wp.z wp w) ?_ ?_
 ·refine Wg<|R z (lN (vs:=[sl A0 N0 C0]) w_ v_ z z fid<|(a6.e h4).row 0 1 z)<|Rm z ?_
  have a8:=(h1.ag B).e h4;obtain ⟨aF,aG,a1⟩:=bdS aC;refine E z (fc call41 z<|k_P aG (zt' O<|lt_ h1.s h4.s) (V.g a8) W) ?_;rintro _ _ ⟨sd,rfl⟩;refine R z (not_ z)<|Rm z ?_
  rcases bs (!aF) with J | J
  ·exact Nh z J<|Nh z J<|R z (pT z J z)<|Rm z<|Nh z z<|Nh z z<|Nh z z<|Nh z z<|R z (pT z z z)<|Rm z<|Nh z z<|Nh z z<|Nh z z<|R z (pT z z z)<|Wl (fun _ q=>⟨true,som<|ifT a1 J,q.k<|s6 z z z z z z,sd⟩)
  have a2:=ifF a1 J;refine Rh z J (mv z)<|Rh z J (lss z z)<|R z (pF z J z)<|Rm z ?_
  rcases bs (decide<|x4<0) with H | H
  ·iterate 4 refine Nh z H ?_
   exact R z (pT z H z)<|Rm z<|Nh z z<|Nh z z<|Nh z z<|R z (pT z z z)<|Wl (fun _ q=>⟨true,som<|ifT a2 H,q.k<|s6 z z z z z z,sd⟩)
  have a3:=ifF a2 H;refine Rh z H (mv z)<|Rh z H (mv z) ?_
  have a9:=Y.g<|a8.e sd
  refine Rh z H (lnR n_ z a9)<|Rh z H (a_C z z)<|R z (pF z H z)<|Rm z ?_
  rcases bs (decide<|(x3.length:Int)<x4) with L | L
  ·iterate 3 refine Nh z L ?_
   exact R z (pT z L z)<|Wl (fun _ q=>⟨true,som<|ifT a3 L,q.k<|s6 z z z z z z,sd⟩)
  exact Rh z L (mv z)<|Rh z L (lnR n_ z a9)<|Rh z L (a_C z z)<|R z (pF z L z)<|Wl (fun _ q=>⟨decide<|400<(x3.length:Int),som<|ifF a3 L,q.k<|s6 z z z z z z,sd⟩)
 rintro aH aI ⟨xq,rfl,_,G⟩;revert aH;refine Wo<|Wc z (fun hcr=>?_) (fun hcr=>?_)
 ·refine Ws<|R z (bP (parts:=[]) (cs:=[vI 0,sl none 0 0,sl none 0 0]) P_ z z)<|E0 (fs0 (cur':=[vI 0,sl none 0 0,sl none 0 0]) b_ z z (h5.e G) z z z z) ?_
  rintro _ _ ⟨aJ,aK⟩;refine Ra z<|Rw z ?_
  obtain rfl:=som<|ifT a0 hcr;exact Wr<|B_ hr (u_ i_ b_ z aJ z) z z ⟨bM (bup (bup h1 h4) G) aK.one<|m1 h1.s,none,0,0,[],none,0,0,[],z,ii z,onL,onL,ii z,ii z,nd0,al0⟩
 refine Wk<|Ws<|R z (lN (vs:=[sl A0 N0 C0]) w_ v_ z z fid<|((a6.e h4).e G).row 0 1 z)<|Rm z<|R z (bP (parts:=[(0,.tmp 36),(1,.tmp 37)]) (cs:=[sl A0 N0 C0,sl A9 N9 C9]) r_q z z)<|E z (fb z) ?_
 rintro _ aa ⟨rfl,ab⟩;have ha:=ab.below;have ad:Blk aa aI.z [sl A0 N0 C0,sl A9 N9 C9]:=ab.blk;refine Rw z<|Wm z<|RM z z ?_
 have ae:=(((h1.ag B).e h4).e G).e ha;have he:=lt_ (lt_ (lt_ h1.s h4.s) G.s) ha.s;have af:=zt' O he;obtain ⟨rs,_,aL,aM,a4⟩:=O_<|ifF a0 hcr;refine E z (fc call64 z<|W_w01.run (B:=aa.z) aM zr (repS.mono (V.g ae) af) (repS.mono (Y.g ae) af) (ad.row 0 2 z) ad.lt W aB) ?_;rintro _ ai ⟨sb,ah,ng,ci,aN,aj,nk,cl,aO,_,_,rfl,aP,ak,al,aQ,ht,aR,hu,hn⟩;refine Rm z ?_
 iterate 3 refine Re z z z ?_
 refine E z (fa E_) ?_;rintro _ aS ⟨rfl,am⟩;have h2:=am.below;refine E0 (fs0 (cur':=[vI rs.number,sl ah ng ci,sl aj nk cl]) b_ z z (am.blk:Blk aS ai.z [vI 0,sl none 0 0,sl none 0 0]) z z z z) ?_;rintro _ an ⟨aT,aU⟩;have h3:=aU.one;refine Ra z<|Rw z<|Ws<|E z (fa r_B) ?_
 rintro _ aV ⟨rfl,ao⟩;have I:=ao.below;have ap:Blk aV an.z [(.pointer none)]:=ao.blk;refine Wn<|Wq<|Wm z<|R z (c_Y d_99 (fun _ h=>by cases h) z) ?_
 have aq:=((ht.e h2).c h3<|ds<|mnr<|a_x.lt ht).e I
 rcases bs (aL.isSome) with hcm | hcm
 ·obtain ⟨_,_,aW,aD⟩:=V_<|ifT a4 hcm;have hv:=lt_ he sb.s;refine E z (fc call65 z<|r_e ((((((((hG.e h1).e h4).e G).e ha).e sb).e h2).c h3<|e_ (or0 (d_ lr) (p_<|zt' O hv):∀k∈[ai.z],¬B k)).e I) aq aW ap) ?_;rintro _ _ ⟨ar,rfl,aX,aY,aZ,au,b0,b3⟩;have hw:=aX.one;refine Wx z (fun _=>?_) (fun hc=>(a_w z hc).elim)
  refine Wq<|Wd (X:=(· ∈ [wc.z])) 0 (pl_ 12 [9]) mo (by kernel_rfl) fun b8 so _=>dR z z (bP (parts:=[]) (cs:=[vI 0,sl none 0 0,sl none 0 0]) P_ z z) ?_;have av:=aY.e so;have aw:=lt_ G.s ha.s;have ax:=lt_ aw sb.s;have ay:=lt_ (lt_ ax h2.s) h3.s;have hx:=mm1 h5.lt ay;refine dR z z (l1 g_97 z (atp hx)<|av.at z)<|dR z z (C_ z)<|dR z z (fd r_r z) ?_
  have az:=(aZ.c hw<|atp (or1 (d_<|.inl au) (ds<|mno (a_x.lt ht)<|lt_ h2.s h3.s) (S_ (d_ ap.lt) lr):∀k∈[ar],k∉[an.z])).e so;have aA:∀k∈[ar],k∉[wc.z]:=or1 (d_<|.inl au) (h_ aR h5.lt aw)<|S_ (d_ h5.lt)<|lt_ ay I.s;refine dR z z (l1 g_3 z (atp aA)<|az.at z)<|dR z z (l1 g_97 z (atp hx)<|av.at z)<|dR z z (C_ z)<|dR z z (fd r_s z)<|dR z z (l1 g_3 z (atp aA)<|az.at z)<|dE0 z (fs0 (cur':=[vI 0,sl none 0 0,sl none 0 0]) b_ z z ((((((((h5.e G).e ha).e sb).e h2).c h3<|djs<|mm1 h5.lt ax).e I).c hw<|djs hx).e so) z z z z) (.inr fun _ _ h=>chgIn (List.mem_singleton.2 z) h.2) ?_
  rintro _ _ ⟨b4,b5⟩;refine dQ z z z<|dQ z z z<|pD<|Wo ?_
  obtain rfl:=som aD;exact Wr<|B_ hr (u_ i_ b_ z b4 z) z z ⟨bM (bup (bM (bup (bM (bup (bup (bup (bup (bup h1 h4) G) ha) sb) h2) h3<|m1 hv) I) hw<|m1<|lt_ (lt_ hv h2.s) h3.s) so) b5.one<|m1 h1.s,none,0,0,[],none,0,0,[],z,ii z,onL,onL,b0,b3,nd0,al0⟩
 refine E z (fc call65 z<|r_d aq hcm) ?_;rintro _ _ ⟨rfl,sf⟩;refine Wx z (fun hc=>(a_w hc z).elim) (fun _=>?_)
 refine Wk<|Ws<|R z (lN (vs:=[vI rs.number,sl ah ng ci,sl aj nk cl]) i_ b_ z z fid<|((aT.e I).e sf).row 0 3 z)<|Rm z ?_
 have hy:=lt_ G.s ha.s;refine E0 (fs0 (cur':=[vI rs.number,sl ah ng ci,sl aj nk cl]) b_ z z (((((((h5.e G).e ha).e sb).e h2).c h3<|djs<|mm1 h5.lt<|lt_ hy sb.s).e I).e sf) z z z z) ?_;rintro _ _ ⟨b6,b7⟩;have hz:=b7.one;refine Ra z<|Rw z ?_
 obtain rfl:=som<|ifF a4 hcm;exact Wr<|B_ hr (u_ i_ b_ z b6 z) z z ⟨bM (bup (bup (bM (bup (bup (bup (bup (bup h1 h4) G) ha) sb) h2) h3<|m1<|lt_ he sb.s) I) sf) hz<|m1 h1.s,ah,ng,ci,aN,aj,nk,cl,aO,z,aP,((((ak.e h2).c h3<|ds<|mnr<|a_.lt ak).e I).e sf).c hz<|h_ (al_ hn) h5.lt hy,((((al.e h2).c h3<|ds<|mnr<|a_.lt al).e I).e sf).c hz<|h_ (ar_ hn) h5.lt hy,aQ,ii z,na_ (nl_ hu) (nr_ hu)<|nj hu,aa_ (j_ (al_ hn) he)<|j_ (ar_ hn) he⟩
theorem j_m {x1:c_}{x2:List UInt8}{res:Val×Int×Int}(hm:d_Z n x1 x2=some res)(W:B<=w0.z)(hG:Gl w0 B)(V:repS w0 B (sl A0 N0 C0) x1.rules)(Y:repS w0 B (sl A6 N6 C6) x2):l_ prog 21 [(.agg #[sl A0 N0 C0]),sl A6 N6 C6] w0 (Q9 w0 B res):=by
 unfold d_Z at hm
 refine goG func21 z z z fun fn hr=>Ws<|E z (fb z) ?_
 rintro _ wn ⟨rfl,ao⟩;have h2:=ao.below;have hv:Blk wn w0.z [sl A0 N0 C0]:=ao.blk;refine E z (fa E_) ?_;rintro _ I ⟨rfl,ap⟩;have h1:=ap.below;have ho:Blk I wn.z [vI 0,sl none 0 0,sl none 0 0]:=ap.blk;refine Ra z<|Rw z<|Wq ?_
 obtain ⟨bp,ak,bj⟩:=bdS hm;refine Wt (fun a w=>∃(xb:Int)(xw:List UInt8)(xx:List Val)(xc:Int)(xd:Int),(xb,xw,xx,xc,xd)=bp/\∃ae nf cg J ah ni cj L O,Sat 32 [(1,sl A6 N6 C6),(4,pt wn.z),(7,pt O),(8,vI xc),(9,vI xd)] a/\Below I.z I w/\inI xb/\a_ w J (sl ae nf cg) xw/\J.Nodup/\(∀k∈J,I.z<=k)/\a_ w L (sl ah ni cj) xx/\L.Nodup/\(∀k∈L,I.z<=k)/\(∀k∈L,k∉J)/\inI xc/\inI xd/\Blk w O [vI xb,sl ae nf cg,sl ah ni cj]/\I.z<=O/\(∀k∈J,k∉[O])/\(∀k∈L,k∉[O])) ?_ ?_
 ·refine Wd (X:=fun k=>k∈([]:List Nat)∨I.z<=k) 0 (.rd 0<|.rd 1<|.rd 3<|.br 2 (.br 4 (.rd 5<|.rd 6<|.rd 7<|.rd 8<|.ef 9<|.ef 10<|.rd 11<|.rd 12 .done) 9<|.ef 4<|.rd 5<|.rd 6<|.rd 7<|.rd 8<|.ef 10<|.rd 11<|.rd 12 .done) 9<|.ef 2<|.ef 4<|.rd 5<|.rd 6<|.rd 7<|.rd 8<|.ef 10<|.rd 11<|.rd 12 .done) mo (by kernel_rfl) fun aq G _=>?_
  have ar:=(hv.e h1).e G;refine dR z z (lN (vs:=[sl A0 N0 C0]) w_ v_ z z (b_t nm0<|Nat.lt_of_lt_of_le hv.lt h1.s)<|ar.row 0 1 z)<|dR z z (lN (vs:=[sl A0 N0 C0]) w_ v_ z z (b_t nm0<|Nat.lt_of_lt_of_le hv.lt h1.s)<|ar.row 0 1 z)<|dM z z z<|b_x ?_ ?_
  ·have hy:=((h2.ag B).e h1).e G;have hz:=lt_ (lt_ h2.s h1.s) G.s;obtain ⟨_,bq,al⟩:=bdS ak;refine dE z z (fc call24 z<|e_6 bq (zt' W hz)<|V.g hy) (.inr fun _ _ h=>o_<|h.1) ?_;rintro _ au ⟨s3,rfl,av⟩;refine b_x ?_ ?_
   ·have aw:=hy.e s3;obtain ⟨rp,bt,bu,bv,bk⟩:=O_ al;refine dE z z (fc call39 z<|k_W bv (zt' W<|lt_ hz s3.s) ((((hG.e h2).e h1).e G).e s3) (V.g aw) av (Y.g aw)<|ii z) (.inr fun _ _ h=>o_<|h.1) ?_;rintro _ ax ⟨ay,az,aA,aB,bw,aC,aD,aE,bx,rfl,bz,aF,aG,bA,bB,a1,aH⟩;refine dM z z z ?_
    iterate 3 refine dR z z (ext_ z z) ?_
    refine dE z z (fa E_) (.inr fun _ _ h=>o_<|h.2.below) ?_;rintro _ bC ⟨rfl,aI⟩;have a2:=aI.below;have a3:=lt_ G.s s3.s;have a4:=m1<|lt_ a3 ay.s
    refine dE0 z (fs0 (cur':=[vI rp.number,sl az aA aB,sl aC aD aE]) b_ z z (aI.blk:Blk bC ax.z [vI 0,sl none 0 0,sl none 0 0]) z z z z) (.inr fun _ _ h=>b_1 (atp a4) h.2) ?_;rintro _ _ ⟨bD,bE⟩;have a5:=bE.one;refine dQ z z z<|dQ z z z<|pD ?_
    have aJ:=mnr<|a_.lt aF
    have aK:=mnr<|a_.lt aG
    exact fun _ q=>⟨rp.number,rp.bytes,rp.items,bt,bu,som bk,az,aA,aB,bw,aC,aD,aE,bx,ax.z,q.k<|s5 z z z z z,bM (bup (bup (bup G s3) ay) a2) a5 a4,bz,(aF.e a2).c a5<|ds aJ,nl_ a1,j_ (al_ aH) a3,(aG.e a2).c a5<|ds aK,nr_ a1,j_ (ar_ aH) a3,ds<|nj a1,bA,bB,bD,atp a4,ds aJ,ds aK⟩
   refine dE z z (fa E_) (.inr fun _ _ h=>o_<|h.2.below) ?_;rintro _ bF ⟨rfl,aL⟩;have hk:=aL.below;have a6:Blk bF au.z [vI 0,sl none 0 0,sl none 0 0]:=aL.blk;have aM:=(hy.e s3).e hk;obtain ⟨rq,bG,bH,bI,bm⟩:=O_ al;refine dE z z (fc call39 z<|k_W bI (zt' W<|lt_ (lt_ hz s3.s) hk.s) (((((hG.e h2).e h1).e G).e s3).e hk) (V.g aM) av (Y.g aM)<|ii z) (.inr fun _ _ h=>o_<|h.1) ?_;rintro _ _ ⟨aN,aO,aP,aQ,bJ,aR,aS,aT,bK,rfl,bL,bN,bO,bQ,bR,a7,ht⟩;refine dM z z z ?_
   iterate 3 refine dR z z (ext_ z z) ?_
   have aU:=lt_ G.s s3.s;have a8:=m1 aU;refine dE0 z (fs0 (cur':=[vI rq.number,sl aO aP aQ,sl aR aS aT]) b_ z z (a6.e aN) z z z z) (.inr fun _ _ h=>b_1 (atp a8) h.2) ?_;rintro _ _ ⟨bS,bT⟩;have a9:=bT.one;refine dQ z z z<|dQ z z z<|pD ?_
   have aV:=h_ (al_ ht) a6.lt lr;have aW:=lt_ aU hk.s;have aX:=h_ (ar_ ht) a6.lt lr;exact fun _ q=>⟨rq.number,rq.bytes,rq.items,bG,bH,som bm,aO,aP,aQ,bJ,aR,aS,aT,bK,au.z,q.k<|s5 z z z z z,bM (bup (bup (bup G s3) hk) aN) a9 a8,bL,bN.c a9 aV,nl_ a7,j_ (al_ ht) aW,bO.c a9 aX,nr_ a7,j_ (ar_ ht) aW,ds<|nj a7,bQ,bR,bS,atp a8,aV,aX⟩
  refine dE z z (fa E_) (.inr fun _ _ h=>o_<|h.2.below) ?_;rintro _ bU ⟨rfl,aY⟩;have hl:=aY.below;have aa:Blk bU aq.z [vI 0,sl none 0 0,sl none 0 0]:=aY.blk;have aZ:=(((h2.ag B).e h1).e G).e hl;have b0:=lt_ (lt_ (lt_ h2.s h1.s) G.s) hl.s;obtain ⟨_,bV,bn⟩:=bdS ak;refine dE z z (fc call24 z<|e_6 bV (zt' W b0)<|V.g aZ) (.inr fun _ _ h=>o_<|h.1) ?_;rintro _ _ ⟨s6,rfl,bW⟩;have b3:=aZ.e s6;obtain ⟨rr,bX,bY,bZ,bo⟩:=O_ bn;refine dE z z (fc call39 z<|k_W bZ (zt' W<|lt_ b0 s6.s) (((((hG.e h2).e h1).e G).e hl).e s6) (V.g b3) bW (Y.g b3)<|ii z) (.inr fun _ _ h=>o_<|h.1) ?_;rintro _ _ ⟨b4,b5,b6,b7,c0,b8,b9,ba,c1,rfl,c2,c3,c4,c5,c6,ab,hu⟩;refine dM z z z ?_
  iterate 3 refine dR z z (ext_ z z) ?_
  have ad:=m1 G.s;refine dE0 z (fs0 (cur':=[vI rr.number,sl b5 b6 b7,sl b8 b9 ba]) b_ z z ((aa.e s6).e b4) z z z z) (.inr fun _ _ h=>b_1 (atp ad) h.2) ?_;rintro _ _ ⟨c7,c8⟩;have af:=c8.one;refine dQ z z z<|dQ z z z<|pD ?_
  have bb:=h_ (al_ hu) aa.lt s6.s;have bc:=lt_ (lt_ G.s hl.s) s6.s;have be:=h_ (ar_ hu) aa.lt s6.s;exact fun _ q=>⟨rr.number,rr.bytes,rr.items,bX,bY,som bo,b5,b6,b7,c0,b8,b9,ba,c1,aq.z,q.k<|s5 z z z z z,bM (bup (bup (bup G hl) s6) b4) af ad,c2,c3.c af bb,nl_ ab,j_ (al_ hu) bc,c4.c af be,nr_ ab,j_ (ar_ hu) bc,ds<|nj ab,c5,c6,c7,atp ad,bb,be⟩
 rintro c9 ws ⟨xb,xw,xx,xc,xd,rfl,ae,nf,cg,J,ah,ni,cj,L,O,_,sm,ca,cb,cc,bf,cd,ce,bg,cf,bh,ch,ci,_,_,_⟩;revert c9;refine Wo<|Wq<|Wq ?_
 obtain ⟨ck,am,an⟩:=bdS<|un5S bj;refine Wt (fun a w=>∃(ai:Bool),ai=ck/\Sat 32 [(4,pt wn.z),(7,pt O),(8,vI xc),(9,vI xd),(26,vB ai)] a/\Below ws.z ws w) ?_ ?_
 ·refine Wg<|Rm z<|Rq z z z<|Rm z ?_
  rcases bs (xd==0) with H | H
  ·exact Rh z H (mv z)<|Rh z H (mv z)<|Rh z H (lnR n_ z<|Y.g<|((h2.ag B).e h1).e sm)<|Rh z H (lss z z)<|R z (pT z H z)<|Wl (fun _ q=>⟨decide<|xc<(x2.length:Int),som<|ifT am H,q.k<|s5 z z z z z,br ws⟩)
  iterate 4 refine Nh z H ?_
  exact R z (pF z H z)<|Wl (fun _ q=>⟨false,som<|ifF am H,q.k<|s5 z z z z z,br ws⟩)
 rintro cl _ ⟨ai,rfl,_,sa⟩;revert cl;refine Wo<|Wc z (fun a0=>?_) (fun a0=>?_)
 ·refine Ws<|R z (bP (parts:=[]) (cs:=[vI 0,sl none 0 0,sl none 0 0]) P_ z z)<|Rm z<|E0 (fs0 (cur':=[vI 0,sl none 0 0,sl none 0 0]) b_ z z ((ho.e sm).e sa) z z z z) ?_
  rintro _ _ ⟨cm,cn⟩;refine Ra z<|Rw z ?_
  obtain rfl:=som<|ifT an a0;exact Wr<|B_ hr (u_ i_ b_ z cm z) z z ⟨bM (bup (bup (bup h2 h1) sm) sa) cn.one<|m1 h2.s,none,0,0,[],none,0,0,[],z,ii z,onL,onL,bh,ii z,nd0,al0⟩
 refine Wk<|Ws<|R z (lN (vs:=[vI xb,sl ae nf cg,sl ah ni cj]) i_ b_ z z fid<|(ci.e sa).row 0 3 z)<|RM z z<|E0 (fs0 (cur':=[vI xb,sl ae nf cg,sl ah ni cj]) b_ z z ((ho.e sm).e sa) z z z z) ?_
 rintro _ _ ⟨co,cp⟩;have aj:=cp.one;refine Ra z<|Rw z ?_
 obtain rfl:=som<|ifF an a0;have bi:=lt_ h2.s h1.s;exact Wr<|B_ hr (u_ i_ b_ z co z) z z ⟨bM (bup (bup (bup h2 h1) sm) sa) aj<|m1 h2.s,ae,nf,cg,J,ah,ni,cj,L,z,ca,(cb.e sa).c aj<|h_ bf ho.lt lr,(cd.e sa).c aj<|h_ bg ho.lt lr,bh,ch,na_ cc ce<|ds cf,aa_ (j_ bf bi)<|j_ bg bi⟩
theorem W_w3j {x1:Int}{x2:Int}{res:Bool}(hm:h_r x1 x2=some res)(I:B<=w0.z)(G:inI x1)(H:inI x2):l_ prog 162 [vI x1,vI x2] w0 (Q7 w0 B res):=by
 unfold h_r at hm
 refine goG func162 z z z fun fn hr=>Ws<|Rw z<|Wm z<|Rm z<|Rl z z z<|Rw z ?_
 obtain rfl:=som hm;exact Wr<|f_ hr z ⟨br w0,z⟩
theorem W_w3k {x2:Int}{x3:List Int}{res:Int}(hm:j_8 x2 x3=some res)(W:B<=w0.z)(V:inI x2)(H:repS w0 B (sl A9 N9 C9) x3):l_ prog 161 [(.func (.func 162) #[] #[]),vI x2,sl A9 N9 C9] w0 (Q0 w0 B res):=by
 unfold j_8 at hm
 refine goG func161 z z z fun fn hr=>Ws<|Rw z<|Wq<|Wm z<|R z (lnR y_ z H)<|Rm z<|Wn ?_
 obtain ⟨_,hub,J⟩:=bdS hm;refine Wf (σ:=Int) (ρ:=Int) (fun (k3:Nat)(x0:Int) a w=>Sat 22 [(0,.func (.func 162) #[] #[]),(1,vI x0),(9,sl A9 N9 C9),(10,vI (x3.length:Int)),(11,vI ((k3:Nat):Int))] a/\Below w0.z w0 w/\inI x0) (fun (x0:Int) a w=>Sat 22 [(1,vI x0)] a/\Below w0.z w0 w/\inI x0) (rQ prog fn<|Q0 w0 B) hub ?_ ?_ ?_ ?_ ?_
 ·exact fun _ q=>⟨q.k<|s5 z z z z z,br w0,V⟩
 ·rintro k3 x0 _ _ _ L ⟨hSc,s6,h1⟩ hmd;refine Wu ?_ hSc;refine Ws<|Rl z z z<|Wn<|Wq<|Wc z (fun _=>?_) (fun hc=>(a_0 L hc).elim)
  refine Wk<|Wq<|Wb<|Ws ?_
  obtain ⟨xe,ef,hmg⟩:=bdS hmd;refine RX z (at_ (α:=Int) y_ z_3 z z z (H.e s6) ef) ?_;rintro _ ⟨_,_,_,rfl,hh,hi,_⟩;obtain ⟨rfl,O⟩:=T_ hi;refine R z (l0 g_3 z<|hh.at0 z)<|Rw z<|Wm z<|RM z z ?_
  obtain ⟨_,ej,hmk⟩:=bdS hmg;refine E z (c_V call162 z z<|W_w3j ej (zt' W s6.s) O h1) ?_;rintro _ G ⟨sm,rfl⟩;refine Wn ?_;obtain ⟨ul,hua,hmn⟩:=bdS hmk;refine Wt (fun a w=>∃(x4:Int),x4=ul/\Sat 22 [(0,.func (.func 162) #[] #[]),(1,vI x4),(9,sl A9 N9 C9),(10,vI (x3.length:Int)),(11,vI ((k3:Nat):Int))] a/\Below G.z G w/\inI x4) ?_ ?_
  ·refine Wc z (fun I=>?_)<|fun I=>?_
   ·exact Wg<|Rm z<|Ra z<|Wl (fun _ q=>⟨xe,som<|ifT hua I,q.k<|s5 z z z z z,br G,O⟩)
   exact a_I<|fun _ q=>⟨x0,som<|ifF hua I,q.k<|s5 z z z z z,br G,h1⟩
  rintro ao _ ⟨x4,rfl,_,sp,hq⟩;revert ao;exact Wo<|Wg<|R z (inc_ L (lt_ (repS.len H) G_) z z)<|Rm z<|Wl (fun _ q=>⟨x4,(som hmn).symm,⟨q.k<|s5 z z z z z,bup (bup s6 sm) sp,hq⟩⟩)
 ·rintro x0 _ _ ⟨hSr,ss,h1⟩;refine Wu ?_ hSr;refine Ws<|Rl z z z<|Wn<|Wq<|Wc z (fun hc=>(a_1 hc).elim) (fun _=>?_)
  exact We<|fun _ q=>⟨rfl,⟨q.k<|s1 z,ss,h1⟩⟩
 ·rintro x0 au _ rfl ⟨_,st,h1⟩;have hmv:=elL J;revert au;refine Wo<|Wm z<|Rw z ?_
  obtain rfl:=som hmv;exact Wr<|f_ hr z ⟨st,z,h1⟩
 rintro _ _ _ _ rfl ⟨rfl,hqw⟩;have hmx:=elR J;obtain rfl:=som hmx;exact ⟨hqw,z⟩
theorem W_w21 {x1:Int}{x2:Int}{res:Int}(hm:f_v x1 x2=some res)(V:B<=w0.z)(I:inI x1)(J:inI x2):l_ prog 146 [vI x1,vI x2] w0 (Q0 w0 B res):=by
 unfold f_v at hm
 refine goG func146 z z z fun fn hr=>Ws<|Rw z<|Wm z<|Rm z<|E z (fS [(.tmp 6)] k_n z z z (a_J z) (lb z)<|lb z) ?_
 rintro _ H ⟨rfl,G⟩;have h6:Blk H w0.z [vI x2]:=G.blk;obtain ⟨_,O,L⟩:=bdS hm;refine E z (fc call161 z<|W_w3k (B:=H.z) O zr I<|a_.rep<|b_0 G<|e_c J) ?_;rintro _ _ ⟨s4,rfl,h5⟩;refine Rw z ?_
 obtain rfl:=som L;exact Wr<|f_ hr z ⟨bup G.below s4,z,h5⟩
end Go.Vw
