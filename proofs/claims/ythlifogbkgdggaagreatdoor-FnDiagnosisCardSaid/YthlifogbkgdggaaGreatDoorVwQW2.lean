
import Derived.Test.YthlifogbkgdggaaGreatDoorVwQW1
set_option linter.unusedVariables false
namespace Go.Vw
open Go.RowKit Dat Go.Proofs
open Go.Proofs.Tryz
open Go.Vw renaming b_K->Wq,c_b->Wg,WC.of_KC->Wo,b_U->Wl,e_E->Wc,d_R->Wr,h_X->Wu,h_K->pT,h_L->pF,g_D->fd,f_6->l1,e_6->lN,c_i->mv,b_N->asg,h_M->lnR,g_I->lss,f_7->eql,e_8->ext_,g_o->bP,g_E->add_,h_y->inc_,i_3->not_,h_N->at_,d_U->fc,d_T->fs,d_S->fb,g_e->fa,h_D->sr,h_I->cr,h_J->cM,h_H->bM,h_w->iS,h_v->iA,g_i->br,g_k->oA,h_z->bs,ltge->lg,inor->io,i_2->nq,i_0->lnT,i_1->sb_,h_B->ar_,h_A->al_,h_C->ds,i_X->m1,h_F->nr_,h_E->nl_,g_m->aa_,d_r->an_,e_D->Wb,g_j->u8,g_b->pD,h_l->We,h_x->Wt,h_u->fS,e_B->or_,h_Y->Wf,h_U->qL,g_a->Wd,h_Q->fN,g_n->na_,h_G->nj,h_R->f0,h_P->rX,h_S->tl_,h_T->ic
variable {A0:Option Addr}{N0 C0:Nat}{B:Zone}{w0:World}{n:Nat}{A6:Option Addr}{N6 C6:Nat}{A9:Option Addr}{A8:Option Addr}{AA:Option Addr}{AB:Option Addr}{N9 C9:Nat}{N8 C8:Nat}{NA CA:Nat}{NB CB:Nat}{A2:Option Addr}{A4:Option Addr}{A1:Option Addr}{A3:Option Addr}{N2 C2:Nat}{N4 C4:Nat}{N1 C1:Nat}{N3 C3:Nat}{A5:Option Addr}{N5 C5:Nat}{A7:Option Addr}{N7 C7:Nat}
theorem W_w1t {x1:d_}{x2:g_}{res:Bool}(hm:f_M n x1 x2=some res)(L:B<=w0.z)(a7:repS w0 B (sl A0 N0 C0) x1.rules)(a3:x2.name.b.length<=LEN)(a4:inI x2.kind)(V:inI x2.size)(W:repS w0 B (sl A2 N2 C2) x2.bytes)(a5:repS w0 B (sl A4 N4 C4) x2.names)(a6:repS w0 B (sl A1 N1 C1) x2.tags)(Y:repS w0 B (sl A3 N3 C3) x2.kids):j_ prog 120 [(.agg #[sl A0 N0 C0]),(.agg #[Str.v x2.name,vI x2.kind,vI x2.size,vB x2.little,sl A2 N2 C2,sl A4 N4 C4,sl A1 N1 C1,sl A3 N3 C3])] w0 (Q0 w0 B res):=by
 unfold f_M at hm
 refine goG func120 z z z fun fn hr=>Ws<|E z (fb z) ?_
 rintro _ ww ⟨rfl,aJ⟩;have h1:=aJ.below;have hx:Blk ww w0.z [sl A0 N0 C0]:=aJ.blk;refine E z (fb z) ?_;rintro _ J ⟨rfl,aK⟩;have G:=aK.below;have h6:Blk J ww.z (vR x2 A2 N2 C2 A4 N4 C4 A1 N1 C1 A3 N3 C3):=aK.blk;refine Rw z<|Wq<|Ws<|Rf z a_i z<|R z (l0 g_3 z<|h6.at z)<|Wn<|Wb<|Ws<|Rq z z z<|Rw z<|Wc z (fun hcy=>?_) (fun hcy=>?_)
 ·refine Wq ?_;obtain ⟨bt,b3,b4⟩:=bdS<|ifT hm hcy;refine Wt (fun a w=>∃(xz:Bool),xz=bt/\Sat 102 [(4,vB xz)] a/\Below J.z J w) ?_ ?_
  ·refine Wg<|R z (lN (vs:=vR x2 A2 N2 C2 A4 N4 C4 A1 N1 C1 A3 N3 C3) I_ k_ z z fid<|h6.row 0 8 z) ?_
   have hq:=(h1.ag B).e G;have aL:=lt_ h1.s G.s;obtain ⟨bu,bv,ap⟩:=bdS b3;refine E z (fc call128 z<|c_J bv (zt' L aL) a3 a4 V (W.g hq) (a5.g hq) (a6.g hq) (Y.g hq)<|ii z) ?_;rintro _ _ ⟨se,rfl⟩;refine Rm z ?_
   rcases bs bu with hca | hca
   ·refine Rh z hca (fd a_z z) ?_;have aM:=h6.e se;refine Rh z hca (l0 g_3 z<|aM.at z) ?_;obtain ⟨bw,bx,aq⟩:=bdS<|ifT ap hca;refine Eg z z hca z (fc call83 z<|c_I bx (zt' L<|lt_ aL se.s) V (ii z)<|ii z) ?_;rintro _ _ ⟨sr,rfl⟩;refine R z (pT z hca z)<|Rm z ?_
    rcases bs bw with O | O
    ·have ar:=ifT aq O;refine Rh z O (fd c_q z) ?_;have aN:=aM.e sr;refine Rh z O (l0 g_4 z<|aN.at z)<|Rh z O (not_ z)<|Rh z O (mv z) ?_
     rcases bs (!x2.little) with hcb | hcb
     ·iterate 3 refine Nh z hcb ?_
      exact Rh z O (pT z hcb z)<|R z (pT z O z)<|Ra z<|Wl (fun _ q=>⟨true,som<|ifT ar hcb,q.k<|s1 z,bup se sr⟩)
     exact Rh z hcb (fd a_z z)<|Rh z hcb (l0 g_3 z<|aN.at z)<|Rh z hcb (a_d z z)<|Rh z O (pF z hcb z)<|R z (pT z O z)<|Ra z<|Wl (fun _ q=>⟨decide<|1<x2.size,som<|ifF ar hcb,q.k<|s1 z,bup se sr⟩)
    iterate 4 refine Nh z O ?_
    exact Nv z<|Nv z<|Nv z<|Nh z O<|R z (pF z O z)<|Ra z<|Wl (fun _ q=>⟨false,som<|ifF aq O,q.k<|s1 z,bup se sr⟩)
   iterate 3 refine Nh z hca ?_
   exact R z (pF z hca z)<|Rm z<|Nh z z<|Nh z z<|Nh z z<|Nh z z<|Nv z<|Nv z<|Nv z<|Nh z z<|R z (pF z z z)<|Ra z<|Wl (fun _ q=>⟨false,som<|ifF ap hca,q.k<|s1 z,se⟩)
  rintro bz _ ⟨xz,rfl,_,bA⟩;revert bz;refine Wo ?_;obtain rfl:=som b4;exact Wr<|rtO<|f_ hr z ⟨bup (bup h1 G) bA,z⟩
 have au:=ifF hm hcy;refine Ws<|Rq z z z<|Rw z<|Wc z (fun a8=>?_) (fun a8=>?_)
 ·refine Wq ?_;obtain ⟨bB,b5,b6⟩:=bdS<|ifT au a8;refine Wt (fun a w=>∃(aj:Bool),aj=bB/\Sat 102 [(4,vB aj)] a/\Below J.z J w) ?_ ?_
  ·refine Wg<|R z (lN (vs:=vR x2 A2 N2 C2 A4 N4 C4 A1 N1 C1 A3 N3 C3) I_ k_ z z fid<|h6.row 0 8 z) ?_
   have hj:=(h1.ag B).e G;have aO:=lt_ h1.s G.s;obtain ⟨bC,bD,av⟩:=bdS b5;refine E z (fc call128 z<|c_J bD (zt' L aO) a3 a4 V (W.g hj) (a5.g hj) (a6.g hj) (Y.g hj)<|ii z) ?_;rintro _ _ ⟨sk,rfl⟩;refine Rm z ?_
   rcases bs bC with a1 | a1
   ·refine Rh z a1 (fd a_D z)<|Rh z a1 (l0 Q_ z<|(h6.e sk).at z) ?_
    have aP:=W.g<|hj.e sk
    refine Rh z a1 (lnR l_ z aP) ?_;obtain ⟨bE,bF,b7⟩:=bdS<|ifT av a1;refine Eg z z a1 z (fc call83 z<|c_I bF (zt' L<|lt_ aO sk.s) (a_t<|repS.len aP) (ii z)<|ii z) ?_;rintro _ _ ⟨bG,rfl⟩;exact R z (pT z a1 z)<|Ra z<|Wl (fun _ q=>⟨bE,som b7,q.k<|s1 z,bup sk bG⟩)
   iterate 4 refine Nh z a1 ?_
   exact R z (pF z a1 z)<|Ra z<|Wl (fun _ q=>⟨false,som<|ifF av a1,q.k<|s1 z,sk⟩)
  rintro bH _ ⟨aj,rfl,_,bI⟩;revert bH;refine Wo ?_;obtain rfl:=som b6;exact Wr<|rtO<|f_ hr z ⟨bup (bup h1 G) bI,z⟩
 have aw:=ifF au a8;refine Ws<|Rq z z z<|Rw z<|Wc z (fun a9=>?_) (fun a9=>?_)
 ·refine Wq ?_;obtain ⟨bJ,b8,b9⟩:=bdS<|ifT aw a9;refine Wt (fun a w=>∃(ak:Bool),ak=bJ/\Sat 102 [(4,vB ak)] a/\Below J.z J w) ?_ ?_
  ·refine Wg<|R z (lN (vs:=vR x2 A2 N2 C2 A4 N4 C4 A1 N1 C1 A3 N3 C3) I_ k_ z z fid<|h6.row 0 8 z) ?_
   have ht:=(h1.ag B).e G;have aQ:=lt_ h1.s G.s;obtain ⟨bK,bL,ax⟩:=bdS b8;refine E z (fc call128 z<|c_J bL (zt' L aQ) a3 a4 V (W.g ht) (a5.g ht) (a6.g ht) (Y.g ht)<|ii z) ?_;rintro _ _ ⟨ss,rfl⟩;refine Rm z ?_
   rcases bs bK with hcc | hcc
   ·refine Rh z hcc (fd a_z z)<|Rh z hcc (l0 g_3 z<|(h6.e ss).at z) ?_
    obtain ⟨bM,bN,ba⟩:=bdS<|ifT ax hcc;refine Eg z z hcc z (fc call83 z<|c_I bN (zt' L<|lt_ aQ ss.s) V (ii z)<|ii z) ?_;rintro _ _ ⟨bO,rfl⟩;exact R z (pT z hcc z)<|Ra z<|Wl (fun _ q=>⟨bM,som ba,q.k<|s1 z,bup ss bO⟩)
   iterate 3 refine Nh z hcc ?_
   exact R z (pF z hcc z)<|Ra z<|Wl (fun _ q=>⟨false,som<|ifF ax hcc,q.k<|s1 z,ss⟩)
  rintro bP _ ⟨ak,rfl,_,bQ⟩;revert bP;refine Wo ?_;obtain rfl:=som b9;exact Wr<|rtO<|f_ hr z ⟨bup (bup h1 G) bQ,z⟩
 have ay:=ifF aw a9;refine Ws<|Rq z z z<|Rw z<|Wc z (fun aa=>?_) (fun aa=>?_)
 ·refine Wq ?_;obtain ⟨bR,bb,bc⟩:=bdS<|ifT ay aa;refine Wt (fun a w=>∃(al:Bool),al=bR/\Sat 102 [(4,vB al)] a/\Below J.z J w) ?_ ?_
  ·refine Wd (X:=noX) 0 (pl_ 12 [1,8]) mo (by kernel_rfl) fun cx sf _=>?_
   have aR:=h6.e sf;refine dR z z (lN (vs:=vR x2 A2 N2 C2 A4 N4 C4 A1 N1 C1 A3 N3 C3) I_ k_ z z fid<|aR.row 0 8 z) ?_;have hl:=((h1.ag B).e G).e sf;have aS:=lt_ (lt_ h1.s G.s) sf.s;obtain ⟨bS,bT,az⟩:=bdS bb;refine dE z z (fc call128 z<|c_J bT (zt' L aS) a3 a4 V (W.g hl) (a5.g hl) (a6.g hl) (Y.g hl)<|ii z) (.inr fun _ _ h=>B_<|h.1) ?_;rintro _ _ ⟨sg,rfl⟩;refine dM z z z ?_
   rcases bs bS with H | H
   ·refine dRg z z z H z (lN (vs:=[sl A0 N0 C0]) s_ p_ z z fid<|(((hx.e G).e sf).e sg).row 0 1 z)<|dRg z z z H z (fd K_ z)<|dRg z z z H z (l0 z_ z<|(aR.e sg).at z) ?_
    obtain ⟨_,bU,be⟩:=bdS<|ifT az H;have aT:=hl.e sg;refine b_W z z z H z (at_ (α:=Int) q_ z_3 z z z (Y.g aT) bU) ?_;rintro _ ⟨_,_,_,rfl,bV,bW,_⟩;obtain ⟨rfl,bX⟩:=J_ bW;refine dRg z z z H z (l0 g_3 z<|bV.at0 z) ?_;obtain ⟨bY,bZ,bf⟩:=bdS be;refine dEg z z z H z (fc call129 z<|i_B bZ (zt' L<|lt_ aS sg.s) (a7.g aT) bX) (.inr fun _ _ h=>B_<|h.1) ?_;rintro _ _ ⟨c0,rfl,_⟩;exact dRg z z z H z (a_d z z)<|dR z z (pT z H z)<|dQ z z z<|pD (fun _ q=>⟨decide<|0<bY,som bf,q.k<|s1 z,bup (bup sf sg) c0⟩)
   iterate 5 refine dRn z z z H z ?_
   exact dEn z z z H z<|dRn z z z H z<|dR z z (pF z H z)<|dQ z z z<|pD (fun _ q=>⟨false,som<|ifF az H,q.k<|s1 z,bup sf sg⟩)
  rintro c1 _ ⟨al,rfl,_,c2⟩;revert c1;refine Wo ?_;obtain rfl:=som bc;exact Wr<|rtO<|f_ hr z ⟨bup (bup h1 G) c2,z⟩
 have aA:=ifF ay aa;refine Ws<|Rq z z z<|Rw z<|Wc z (fun ab=>?_) (fun ab=>?_)
 ·refine Wq ?_;obtain ⟨c3,bg,bh⟩:=bdS<|ifT aA ab;refine Wt (fun a w=>∃(am:Bool),am=c3/\Sat 102 [(4,vB am)] a/\Below J.z J w) ?_ ?_
  ·refine Wd (X:=noX) 0 (pl_ 12 [1,8]) mo (by kernel_rfl) fun cy sh _=>?_
   have aU:=h6.e sh;refine dR z z (lN (vs:=vR x2 A2 N2 C2 A4 N4 C4 A1 N1 C1 A3 N3 C3) I_ k_ z z fid<|aU.row 0 8 z) ?_;have hn:=((h1.ag B).e G).e sh;have aV:=lt_ (lt_ h1.s G.s) sh.s;obtain ⟨c4,c5,aB⟩:=bdS bg;refine dE z z (fc call128 z<|c_J c5 (zt' L aV) a3 a4 V (W.g hn) (a5.g hn) (a6.g hn) (Y.g hn)<|ii z) (.inr fun _ _ h=>B_<|h.1) ?_;rintro _ _ ⟨si,rfl⟩;refine dM z z z ?_
   rcases bs c4 with I | I
   ·refine dRg z z z I z (lN (vs:=[sl A0 N0 C0]) s_ p_ z z fid<|(((hx.e G).e sh).e si).row 0 1 z)<|dRg z z z I z (fd K_ z)<|dRg z z z I z (l0 z_ z<|(aU.e si).at z) ?_
    obtain ⟨_,c6,bi⟩:=bdS<|ifT aB I;have aW:=hn.e si;refine b_W z z z I z (at_ (α:=Int) q_ z_3 z z z (Y.g aW) c6) ?_;rintro _ ⟨_,_,_,rfl,c7,c8,_⟩;obtain ⟨rfl,c9⟩:=J_ c8;refine dRg z z z I z (l0 g_3 z<|c7.at0 z) ?_;obtain ⟨ca,cb,bj⟩:=bdS bi;refine dEg z z z I z (fc call129 z<|i_B cb (zt' L<|lt_ aV si.s) (a7.g aW) c9) (.inr fun _ _ h=>B_<|h.1) ?_;rintro _ _ ⟨cc,rfl,_⟩;exact dRg z z z I z (a_d z z)<|dR z z (pT z I z)<|dQ z z z<|pD (fun _ q=>⟨decide<|0<ca,som bj,q.k<|s1 z,bup (bup sh si) cc⟩)
   iterate 5 refine dRn z z z I z ?_
   exact dEn z z z I z<|dRn z z z I z<|dR z z (pF z I z)<|dQ z z z<|pD (fun _ q=>⟨false,som<|ifF aB I,q.k<|s1 z,bup sh si⟩)
  rintro cd _ ⟨am,rfl,_,ce⟩;revert cd;refine Wo ?_;obtain rfl:=som bh;exact Wr<|rtO<|f_ hr z ⟨bup (bup h1 G) ce,z⟩
 have aC:=ifF aA ab;refine Ws<|Rq z z z<|Rw z<|Wc z (fun ad=>?_) (fun ad=>?_)
 ·refine Ws<|R z (lN (vs:=vR x2 A2 N2 C2 A4 N4 C4 A1 N1 C1 A3 N3 C3) I_ k_ z z fid<|h6.row 0 8 z) ?_
  have hu:=(h1.ag B).e G;obtain ⟨_,cf,bk⟩:=bdS<|ifT aC ad;refine E z (fc call130 z<|W_w1r cf (zt' L<|lt_ h1.s G.s) a3 a4 V (W.g hu) (a5.g hu) (a6.g hu)<|Y.g hu) ?_;rintro _ _ ⟨cg,rfl⟩;refine Rw z ?_
  obtain rfl:=som bk;exact Wr<|rtO<|f_ hr z ⟨bup (bup h1 G) cg,z⟩
 have aD:=ifF aC ad;refine Ws<|Rq z z z<|Rw z<|Wc z (fun ae=>?_) (fun ae=>?_)
 ·refine Ws<|R z (lN (vs:=[sl A0 N0 C0]) s_ p_ z z fid<|(hx.e G).row 0 1 z)<|R z (lN (vs:=vR x2 A2 N2 C2 A4 N4 C4 A1 N1 C1 A3 N3 C3) I_ k_ z z fid<|h6.row 0 8 z) ?_
  have ho:=(h1.ag B).e G;obtain ⟨_,ch,bm⟩:=bdS<|ifT aD ae;refine E z (fc call131 z<|W_w1s ch (zt' L<|lt_ h1.s G.s) (a7.g ho) a3 a4 V (W.g ho) (a5.g ho) (a6.g ho)<|Y.g ho) ?_;rintro _ _ ⟨ci,rfl⟩;refine Rw z ?_
  obtain rfl:=som bm;exact Wr<|rtO<|f_ hr z ⟨bup (bup h1 G) ci,z⟩
 refine Wq<|Ws<|Rq z z z<|Rw z ?_
 obtain ⟨cj,aE,aF⟩:=bdS<|ifF aD ae;refine Wt (fun a w=>∃(an:Bool),an=cj/\Sat 102 [(3,pt ww.z),(6,vI x2.kind),(80,vB an)] a/\Below J.z J w) ?_ ?_
 ·refine Wc z (fun af=>?_)<|fun af=>?_
  ·exact M_<|fun _ q=>⟨x2.kind==8,som<|ifT aE af,q.k<|s3 z z z,br J⟩
  exact Wg<|Rq z z z<|Ra z<|Wl (fun _ q=>⟨x2.kind==9,som<|ifF aE af,q.k<|s3 z z z,br J⟩)
 rintro ck aX ⟨an,rfl,_,sd⟩;revert ck;refine Wo<|Wc z (fun ah=>?_) (fun ah=>?_)
 ·refine Ws<|R z (lN (vs:=vR x2 A2 N2 C2 A4 N4 C4 A1 N1 C1 A3 N3 C3) I_ k_ z z fid<|(h6.e sd).row 0 8 z) ?_
  have hv:=((h1.ag B).e G).e sd;obtain ⟨_,cl,bn⟩:=bdS<|ifT aF ah;refine E z (fc call128 z<|c_J cl (zt' L<|lt_ (lt_ h1.s G.s) sd.s) a3 a4 V (W.g hv) (a5.g hv) (a6.g hv) (Y.g hv)<|ii z) ?_;rintro _ _ ⟨cm,rfl⟩;refine Rw z ?_
  obtain rfl:=som bn;exact Wr<|rtO<|f_ hr z ⟨bup (bup (bup h1 G) sd) cm,z⟩
 have aG:=ifF aF ah;refine Ws<|Rq z z z<|Rw z<|Wc z (fun ai=>?_) (fun ai=>?_)
 ·refine Wq ?_;obtain ⟨cn,bo,bp⟩:=bdS<|ifT aG ai;refine Wt (fun a w=>∃(ao:Bool),ao=cn/\Sat 102 [(4,vB ao)] a/\Below aX.z aX w) ?_ ?_
  ·refine Wg ?_;have aY:=h6.e sd;refine R z (lN (vs:=vR x2 A2 N2 C2 A4 N4 C4 A1 N1 C1 A3 N3 C3) I_ k_ z z fid<|aY.row 0 8 z) ?_;have hp:=((h1.ag B).e G).e sd;obtain ⟨co,cp,aH⟩:=bdS bo;refine E z (fc call128 z<|c_J cp (zt' L<|lt_ (lt_ h1.s G.s) sd.s) a3 a4 V (W.g hp) (a5.g hp) (a6.g hp) (Y.g hp)<|ii z) ?_;rintro _ _ ⟨sm,rfl⟩;refine Rm z ?_
   rcases bs co with a2 | a2
   ·have aI:=ifT aH a2;refine Rh z a2 (fd a_D z) ?_;have aZ:=aY.e sm;refine Rh z a2 (l0 Q_ z<|aZ.at z) ?_;have b0:=W.g<|hp.e sm
    refine Rh z a2 (lnR l_ z b0)<|Rh z a2 (eql z z)<|R z (pT z a2 z)<|Rm z ?_
    rcases bs ((x2.bytes.length:Int)==1) with a0 | a0
    ·refine Rh z a0 (fd a_D z)<|Rh z a0 (l0 Q_ z<|aZ.at z) ?_
     obtain ⟨cq,cr,bq⟩:=bdS<|ifT aI a0;refine RXg z z a0 z (at_ (α:=UInt8) l_ z_5 z z z b0 cr) ?_;rintro _ ⟨_,_,_,rfl,ct,cu,_⟩;obtain rfl:=u8 cu;exact Rh z a0 (l0 g_5 z<|ct.at0 z)<|Rh z a0 (nq z z)<|R z (pT z a0 z)<|Ra z<|Wl (fun _ q=>⟨(byteI cq) != (byteI (92:UInt8)),som bq,q.k<|s1 z,sm⟩)
    iterate 5 refine Nh z a0 ?_
    exact R z (pF z a0 z)<|Ra z<|Wl (fun _ q=>⟨false,som<|ifF aI a0,q.k<|s1 z,sm⟩)
   iterate 4 refine Nh z a2 ?_
   exact R z (pF z a2 z)<|Rm z<|Nh z z<|Nh z z<|Nh z z<|Nh z z<|Nh z z<|R z (pF z z z)<|Ra z<|Wl (fun _ q=>⟨false,som<|ifF aH a2,q.k<|s1 z,sm⟩)
  rintro cv _ ⟨ao,rfl,_,cw⟩;revert cv;refine Wo ?_;obtain rfl:=som bp;exact Wr<|rtO<|f_ hr z ⟨bup (bup (bup h1 G) sd) cw,z⟩
 refine Wk<|Ws<|Rw z ?_
 obtain rfl:=som<|ifF aG ai;exact Wr<|f_ hr z ⟨bup (bup h1 G) sd,z⟩
theorem W_w1u {x1:d_}{x2:Int}{res:Bool}(hm:f_N n x1 x2=some res)(V:B<=w0.z)(O:repS w0 B (sl A0 N0 C0) x1.rules)(aU:inI x2):j_ prog 109 [(.agg #[sl A0 N0 C0]),vI x2] w0 (Q0 w0 B res):=by
 unfold f_N at hm
 refine goG func109 z z z fun fn hr=>Ws<|E z (fb z) ?_
 rintro _ bh ⟨rfl,am⟩;have h2:=am.below;have ho:Blk bh w0.z [sl A0 N0 C0]:=am.blk;refine Rw z<|Wq<|Ws<|R z (lN (vs:=[sl A0 N0 C0]) s_ p_ z z fid<|ho.row 0 1 z)<|Rm z ?_
 obtain ⟨_,bi,a8⟩:=bdS hm;refine E z (fc call25 z<|f_p bi (zt' V h2.s) (O.e h2) aU) ?_;rintro _ J ⟨s5,rfl⟩;refine R z (not_ z)<|Wx z (fun hcp=>?_) (fun hcp=>?_)
 ·refine Ws<|Rw z ?_
  obtain rfl:=som<|ifT a8 hcp;exact Wr<|f_ hr z ⟨bup h2 s5,z⟩
 refine Wk<|Ws<|Rf z N_ z ?_
 have an:=ho.e s5;refine R z (l0 R_ z<|an.at z)<|Rm z ?_
 obtain ⟨L,bj,aV⟩:=bdS<|ifF a8 hcp;have ao:=(h2.ag B).e s5;refine RX z (at_ (α:=g_) P_ k_ z z z (O.g ao) bj) ?_;rintro _ ⟨_,_,_,rfl,bk,bm,_⟩;obtain ⟨aq,nr,cs,au,nt,cv,aw,nx,cy,ae,nf,cg,rfl,ap,bn,bo,bp,bq,bt,hj⟩:=a_j bm;refine R z (lN (vs:=vR L aq nr cs au nt cv aw nx cy ae nf cg) I_ k_ z z fid bk)<|E z (fa b_h) ?_
 rintro _ bu ⟨rfl,ar⟩;have h4:=ar.below;have av:Blk bu J.z [(Str.v (⟨[]⟩:Str)),vI 0,vI 0,vB false,sl none 0 0,sl none 0 0,sl none 0 0,sl none 0 0]:=ar.blk;refine E0 (fs0 (cur':=vR L aq nr cs au nt cv aw nx cy ae nf cg) k_ z z av z z z z) ?_;rintro _ ax ⟨hk,bv⟩;have h3:=bv.one;refine Wn<|Wq<|Wq ?_
 obtain ⟨bw,aW,a9⟩:=bdS aV;refine Wt (fun a w=>∃(xz:Bool),xz=bw/\Sat 65 [(1,vI x2),(2,pt w0.z),(5,pt J.z),(31,vB xz)] a/\Below ax.z ax w) ?_ ?_
 ·refine Wg<|Rf z d_d z<|R z (l0 g_9 z<|hk.at z) ?_
  obtain ⟨bx,bz,aa⟩:=bdS aW;refine E z (fc call119 z<|W_w14 bz (zt' V<|lt_ (lt_ (lt_ h2.s s5.s) h4.s) h3.s) ap) ?_;rintro _ _ ⟨sm,rfl⟩;refine R z (not_ z)<|Rm z ?_
  rcases bs (!bx) with G | G
  ·iterate 3 refine Nh z G ?_
   exact Nv z<|Nv z<|Nv z<|Nh z G<|R z (pT z G z)<|Wl (fun _ q=>⟨true,som<|ifT aa G,q.k<|s4 z z z z,sm⟩)
  have ab:=ifF aa G;refine Rh z G (fd c_q z) ?_;have ay:=hk.e sm;refine Rh z G (l0 g_4 z<|ay.at z)<|Rh z G (mv z) ?_
  rcases bs L.little with H | H
  ·exact Rh z H (fd a_i z)<|Rh z H (l0 g_3 z<|ay.at z)<|Rh z H (nq z z)<|Rh z G (pT z H z)<|R z (pF z G z)<|Wl (fun _ q=>⟨L.kind != 1,som<|ifT ab H,q.k<|s4 z z z z,sm⟩)
  iterate 3 refine Nh z H ?_
  exact Rh z G (pF z H z)<|R z (pF z G z)<|Wl (fun _ q=>⟨false,som<|ifF ab H,q.k<|s4 z z z z,sm⟩)
 rintro bA wh ⟨xz,rfl,_,s1⟩;revert bA;refine Wo<|Wc z (fun W=>?_) (fun W=>?_)
 ·refine Ws<|Rw z ?_
  obtain rfl:=som<|ifT a9 W;exact Wr<|f_ hr z ⟨bup (bM (bup (bup h2 s5) h4) h3<|m1<|lt_ h2.s s5.s) s1,z⟩
 refine Wk<|Wq<|Ws<|Rf z N_ z ?_
 have az:=((an.e h4).c h3<|djs<|mm1 ho.lt s5.s).e s1;refine R z (l0 R_ z<|az.at z)<|Rm z ?_
 obtain ⟨bB,bC,aX⟩:=bdS<|ifF a9 W;have hd:=lt_ h2.s s5.s;have aA:∀k∈[J.z],¬B k:=or0 (b_ lr)<|i_<|zt' V hd;have aB:=((ao.e h4).c h3<|c_ aA).e s1;refine RX z (rX P_ k_ z z (O.g aB) z z bC) ?_;rintro _ ⟨bD,bE,bF,rfl,a1⟩;refine R z (lnR P_ z a1)<|Rm z<|Wn ?_
 obtain ⟨_,aY,ad⟩:=bdS aX;refine Wf (σ:=Unit) (ρ:=Bool) (fun (aC:Nat)(_:Unit) a w=>Sat 65 [(1,vI x2),(2,pt w0.z),(5,pt J.z),(35,sl bD bE bF),(36,vI (bB.length:Int)),(37,vI ((aC:Nat):Int))] a/\Below wh.z wh w) (fun (_:Unit) a w=>Sat 65 [(1,vI x2),(2,pt w0.z),(5,pt J.z)] a/\Below wh.z wh w) (rQ prog fn<|Q0 w0 B) aY ?_ ?_ ?_ ?_ ?_
 ·exact fun _ q=>⟨q.k<|s6 z z z z z z,br wh⟩
 ·rintro aC _ _ bG _ af ⟨aZ,sa⟩ b0;refine Wu ?_ aZ;refine Ws<|Rl z z z<|Wn<|Wq<|Wc z (fun _=>?_) (fun hc=>(a_4 af hc).elim)
  refine Wk<|Wq<|Wb<|Ws ?_
  obtain ⟨aD,bH,ah⟩:=bdS b0;refine RX z (at_ (α:=g_) P_ k_ z z z (a1.e sa) bH) ?_;rintro _ ⟨_,_,_,rfl,bI,bJ,_⟩;obtain ⟨aE,aF,aG,aH,aI,aJ,aK,aL,aM,aN,aO,aP,rfl,_,_,_,_,_,_,_⟩:=a_j bJ;refine R z (lN (vs:=vR aD aE aF aG aH aI aJ aK aL aM aN aO aP) I_ k_ z z fid bI)<|E z (fa b_h) ?_
  rintro _ bK ⟨rfl,aQ⟩;have a2:=aQ.below;refine E0 (fs0 (cur':=vR aD aE aF aG aH aI aJ aK aL aM aN aO aP) k_ z z (aQ.blk:Blk bK bG.z [(Str.v (⟨[]⟩:Str)),vI 0,vI 0,vB false,sl none 0 0,sl none 0 0,sl none 0 0,sl none 0 0]) z z z z) ?_;rintro _ _ ⟨bL,bN⟩;have a3:=bN.one;refine Wn<|Ws<|Rf z d_d z<|R z (l0 g_9 z<|bL.at z)<|Rf z d_d z<|R z (l0 g_9 z<|((((hk.e s1).e sa).e a2).c a3<|djs<|mm1 av.lt<|lt_ (lt_ h3.s s1.s) sa.s).at z)<|R z (f_8 z z)<|Wx z (fun Y=>?_) (fun Y=>?_)
  ·exact Ws<|Rw z<|Wr<|rtO<|qL (som<|ifT ah Y).symm<|f_ hr z ⟨bM (bup (bup (bup (bM (bup (bup h2 s5) h4) h3<|m1 hd) s1) sa) a2) a3<|m1<|lt_ (lt_ (lt_ (lt_ hd h4.s) h3.s) s1.s) sa.s,z⟩
  exact Wk<|Wg<|R z (inc_ af (lt_ (repS.len a1) L_) z z)<|Rm z<|Wl (fun _ q=>⟨(),(som<|ifF ah Y).symm,⟨q.k<|s6 z z z z z z,bM (bup sa a2) a3<|m1 sa.s⟩⟩)
 ·rintro _ _ _ ⟨b3,bO⟩;refine Wu ?_ b3;refine Ws<|Rl z z z<|Wn<|Wq<|Wc z (fun hc=>(a_5 hc).elim) (fun _=>?_)
  exact We<|fun _ q=>⟨rfl,⟨q.k<|s3 z z z,bO⟩⟩
 ·rintro _ bP wi rfl ⟨_,sb⟩;have b4:=elL ad;revert bP;refine Wo<|Wq<|Ws<|Rf z K_ z ?_
  have aR:=(hk.e s1).e sb;refine R z (l0 z_ z<|aR.at z) ?_;have a4:=(((h4.ag B).c h3<|c_ aA).e s1).e sb;refine R z (lnR q_ z<|hj.g a4)<|Rm z<|Wn ?_
  obtain ⟨_,b5,ai⟩:=bdS b4;refine Wf (σ:=Unit) (ρ:=Bool) (fun (a5:Nat)(_:Unit) a w=>Sat 65 [(1,vI x2),(2,pt w0.z),(5,pt J.z),(48,sl ae nf cg),(49,vI (L.kids.length:Int)),(50,vI ((a5:Nat):Int))] a/\Below wi.z wi w) (fun (_:Unit) a w=>Sat 65 [(2,pt w0.z),(5,pt J.z)] a/\Below wi.z wi w) (rQ prog fn<|Q0 w0 B) b5 ?_ ?_ ?_ ?_ ?_
  ·exact fun _ q=>⟨q.k<|s6 z z z z z z,br wi⟩
  ·rintro a5 _ _ wl _ aj ⟨b6,a6⟩ b7;refine Wu ?_ b6;refine Ws<|Rl z z z<|Wn<|Wq<|Wc z (fun _=>?_) (fun hc=>(a_4 aj hc).elim)
   refine Wk<|Wq<|Wb<|Ws ?_
   obtain ⟨aS,bQ,b8⟩:=bdS b7;refine RX z (at_ (α:=Int) q_ z_3 z z z (hj.g<|a4.e a6) bQ) ?_;rintro _ ⟨_,_,_,rfl,bR,bS,_⟩;obtain ⟨rfl,_⟩:=J_ bS;refine R z (l0 g_3 z<|bR.at0 z)<|Rw z<|Wq ?_
   obtain ⟨bT,ak,al⟩:=bdS b8;refine Wt (fun a w=>∃(a7:Bool),a7=bT/\Sat 65 [(1,vI x2),(2,pt w0.z),(5,pt J.z),(48,sl ae nf cg),(49,vI (L.kids.length:Int)),(50,vI ((a5:Nat):Int)),(60,vB a7)] a/\Below wl.z wl w) ?_ ?_
   ·refine Wg<|Rm z<|Rl z z z<|Rm z ?_
    rcases bs (decide<|aS<0) with I | I
    ·iterate 3 refine Nh z I ?_
     exact R z (pT z I z)<|Wl (fun _ q=>⟨true,som<|ifT ak I,q.k<|s7 z z z z z z z,br wl⟩)
    exact Rh z I (mv z)<|Rh z I (mv z)<|Rh z I (b_e z z)<|R z (pF z I z)<|Wl (fun _ q=>⟨decide<|x2<=aS,som<|ifF ak I,q.k<|s7 z z z z z z z,br wl⟩)
   rintro bU _ ⟨a7,rfl,_,aT⟩;revert bU;refine Wo<|Wc z (fun a0=>?_) (fun a0=>?_)
   ·exact Ws<|Rw z<|Wr<|rtO<|qL (som<|ifT al a0).symm<|f_ hr z ⟨bup (bup (bup (bup (bM (bup (bup h2 s5) h4) h3<|m1 hd) s1) sb) a6) aT,z⟩
   exact Wk<|Wg<|R z (inc_ aj (lt_ (repS.len hj) L_) z z)<|Rm z<|Wl (fun _ q=>⟨(),(som<|ifF al a0).symm,⟨q.k<|s6 z z z z z z,bup a6 aT⟩⟩)
  ·rintro _ _ _ ⟨b9,bV⟩;refine Wu ?_ b9;refine Ws<|Rl z z z<|Wn<|Wq<|Wc z (fun hc=>(a_5 hc).elim) (fun _=>?_)
   exact We<|fun _ q=>⟨rfl,⟨q.k<|s2 z z,bV⟩⟩
  ·rintro _ bW _ rfl ⟨_,sc⟩;have ba:=elL ai;revert bW;refine Wo<|Ws<|R z (lN (vs:=[sl A0 N0 C0]) s_ p_ z z fid<|((az.e sb).e sc).row 0 1 z)<|R z (lN (vs:=vR L aq nr cs au nt cv aw nx cy ae nf cg) I_ k_ z z fid<|(aR.e sc).row 0 8 z) ?_
   have hn:=a4.e sc;obtain ⟨_,bX,bb⟩:=bdS ba;refine E z (fc call120 z<|W_w1t bX (zt' V<|lt_ (lt_ (lt_ (lt_ (lt_ hd h4.s) h3.s) s1.s) sb.s) sc.s) (O.g<|(aB.e sb).e sc) ap bn bo (bp.g hn) (bq.g hn) (bt.g hn)<|hj.g hn) ?_;rintro _ _ ⟨bY,rfl⟩;refine Rw z ?_
   obtain rfl:=som bb;exact Wr<|f_ hr z ⟨bup (bup (bup (bup (bM (bup (bup h2 s5) h4) h3<|m1 hd) s1) sb) sc) bY,z⟩
  rintro _ _ _ _ rfl ⟨rfl,bc⟩;have be:=elR ai;obtain rfl:=som be;exact ⟨bc,z⟩
 rintro _ _ _ _ rfl ⟨rfl,bf⟩;have bg:=elR ad;obtain rfl:=som bg;exact ⟨bf,z⟩
theorem W_w1v {x1:d_}{res:Bool}(hm:f_O n x1=some res)(V:B<=w0.z)(H:repS w0 B (sl A0 N0 C0) x1.rules):j_ prog 88 [(.agg #[sl A0 N0 C0])] w0 (Q0 w0 B res):=by
 unfold f_O at hm
 refine goG func88 z z z fun fn hr=>Ws<|E z (fb z) ?_
 rintro _ wh ⟨rfl,W⟩;have G:=W.below;have Y:Blk wh w0.z [sl A0 N0 C0]:=W.blk;refine Rw z<|Wq<|Ws<|Rf z N_ z<|R z (l0 R_ z<|Y.at z) ?_
 have h9:=H.e G;refine R z (lnR P_ z h9) ?_;obtain ⟨_,ei,hma⟩:=bdS hm;refine E z (fc call83 z<|c_I ei (zt' V G.s) (a_t<|repS.len h9) (ii z)<|ii z) ?_;rintro _ I ⟨s1,rfl⟩;refine R z (not_ z)<|Wx z (fun J=>?_) (fun J=>?_)
 ·refine Ws<|Rw z ?_
  obtain rfl:=som<|ifT hma J;exact Wr<|f_ hr z ⟨bup G s1,z⟩
 refine Wk<|Wq<|Ws<|Rf z N_ z ?_
 have hb:=Y.e s1;refine R z (l0 R_ z<|hb.at z) ?_;have hd:=(G.ag B).e s1;refine R z (lnR P_ z<|H.g hd)<|Rm z<|Wn ?_
 obtain ⟨_,huj,hmc⟩:=bdS<|ifF hma J;refine Wf (σ:=Unit) (ρ:=Bool) (fun (ke:Nat)(_:Unit) a w=>Sat 20 [(1,pt w0.z),(11,vI (x1.rules.length:Int)),(12,vI ((ke:Nat):Int))] a/\Below I.z I w) (fun (_:Unit) a w=>Sat 20 [] a/\Below I.z I w) (rQ prog fn<|Q0 w0 B) huj ?_ ?_ ?_ ?_ ?_
 ·exact fun _ q=>⟨q.k<|s3 z z z,br I⟩
 ·rintro ke _ _ _ _ L ⟨hSk,s4⟩ hml;refine Wu ?_ hSk;refine Ws<|Rl z z z<|Wn<|Wq<|Wc z (fun _=>?_) (fun hc=>(a_4 L hc).elim)
  refine Wk<|Wq<|Wb<|Wm z<|Rw z<|Ws<|R z (lN (vs:=[sl A0 N0 C0]) s_ p_ z z fid<|(hb.e s4).row 0 1 z)<|Rm z ?_
  obtain ⟨_,em,hmf⟩:=bdS hml;refine E z (fc call109 z<|W_w1u em (zt' V<|lt_ (lt_ G.s s1.s) s4.s) (H.g<|hd.e s4)<|ic (Nat.le_of_lt L)<|lt_ (repS.len H) L_) ?_;rintro _ _ ⟨sg,rfl⟩;refine R z (not_ z)<|Wx z (fun O=>?_) (fun O=>?_)
  ·exact Ws<|Rw z<|Wr<|rtO<|qL (som<|ifT hmf O).symm<|f_ hr z ⟨bup (bup (bup G s1) s4) sg,z⟩
  exact Wk<|Wg<|R z (inc_ L (lt_ (repS.len H) L_) z z)<|Rm z<|Wl (fun _ q=>⟨(),(som<|ifF hmf O).symm,⟨q.k<|s3 z z z,bup s4 sg⟩⟩)
 ·rintro _ _ _ ⟨hSn,so⟩;refine Wu ?_ hSn;refine Ws<|Rl z z z<|Wn<|Wq<|Wc z (fun hc=>(a_5 hc).elim) (fun _=>?_)
  exact We<|fun _ q=>⟨rfl,⟨q.k sn,so⟩⟩
 ·rintro _ ap _ rfl ⟨_,sq⟩;have hmr:=elL hmc;revert ap;refine Wo<|Ws<|Rw z ?_
  obtain rfl:=som hmr;exact Wr<|f_ hr z ⟨bup (bup G s1) sq,z⟩
 rintro _ _ _ _ rfl ⟨rfl,hqs⟩;have hmt:=elR hmc;obtain rfl:=som hmt;exact ⟨hqs,z⟩
theorem i_C {x1:d_}{x2:Int}{res:Bool}(hm:d_M n x1 x2=some res)(J:B<=w0.z)(I:repS w0 B (sl A0 N0 C0) x1.rules)(O:inI x2):j_ prog 61 [(.agg #[sl A0 N0 C0]),vI x2] w0 (Q0 w0 B res):=by
 unfold d_M at hm
 refine goG func61 z z z fun fn hr=>Ws<|E z (fb z) ?_
 rintro _ H ⟨rfl,h5⟩;have h1:=h5.below;have h6:Blk H w0.z [sl A0 N0 C0]:=h5.blk;refine Rw z<|Wq ?_
 obtain ⟨u8,V,hma⟩:=bdS hm;refine Wt (fun a w=>∃(x4:Bool),x4=u8/\Sat 12 [(4,vB x4)] a/\Below H.z H w) ?_ ?_
 ·refine Wg<|R z (lN (vs:=[sl A0 N0 C0]) s_ p_ z z fid<|h6.row 0 1 z) ?_
  obtain ⟨rb,ec,L⟩:=bdS V;refine E z (fc call88 z<|W_w1v ec (zt' J h1.s)<|I.e h1) ?_;rintro _ _ ⟨s2,rfl⟩;refine Rm z ?_
  rcases bs rb with G | G
  ·refine Rh z G (lN (vs:=[sl A0 N0 C0]) s_ p_ z z fid<|(h6.e s2).row 0 1 z)<|Rh z G (mv z) ?_
   obtain ⟨rd,ee,hmf⟩:=bdS<|ifT L G;refine Eg z z G z (fc call25 z<|f_p ee (zt' J<|lt_ h1.s s2.s) (I.g<|(h1.ag B).e s2) O) ?_;rintro _ _ ⟨sg,rfl⟩;exact R z (pT z G z)<|Ra z<|Wl (fun _ q=>⟨rd,som hmf,q.k<|s1 z,bup s2 sg⟩)
  iterate 3 refine Nh z G ?_
  exact R z (pF z G z)<|Ra z<|Wl (fun _ q=>⟨false,som<|ifF L G,q.k<|s1 z,s2⟩)
 rintro ah _ ⟨x4,rfl,_,si⟩;revert ah;refine Wo ?_;obtain rfl:=som hma;exact Wr<|f_ hr z ⟨bup h1 si,z⟩
def Q14 (w0:World)(B:Zone)(r:D_)(v:Value)(w':World):Prop:=Bw w0 w'/\(fun G=>(.agg #[vI G.at_,vI G.code])=v/\inI G.at_/\inI G.code) r
theorem f_q {x1:T_}{b1 I:Nat}{x2:Int}{x3:Int}{res:D_}(hm:c_M x1 x2 x3=some res)(a3:B<=w0.z)(Y:repS w0 B (sl A0 N0 C0) x1.d.rules)(J:repS w0 B (sl A5 N5 C5) x1.b)(a0:inI x1.applied)(O:V_ w0 b1 I [sl A0 N0 C0,sl A5 N5 C5,vI x1.applied])(a1:B b1)(L:inI x2)(a2:inI x3):j_ prog 98 [(.pointer<|some ⟨b1,I,none⟩),vI x2,vI x3] w0 (Q14 w0 B res):=by
 unfold c_M at hm
 refine goG func98 z z z fun fn hr=>Ws<|E z (fa b_5) ?_
 rintro _ V ⟨rfl,h2⟩;have G:=h2.below;have h3:Blk V w0.z [vI 0,vI 0]:=h2.blk;refine Wn<|Wq<|Wm z<|Rm z<|R z (a_0 z)<|Rf z c_H z<|R z (l0 Q_ z<|(O.e G).at (j:=1) z)<|R z (lnR l_ z<|J.e G)<|Rm z<|R z (sb_ z z)<|R z (a_d z z)<|Wx z (fun H=>?_) (fun H=>?_)
 ·refine Wm z<|R z (bP (parts:=[(0,.tmp 16),(1,.const<|.int .i64 1)]) (cs:=[vI x2,vI 1]) b_w z z)<|E0 (fs0 (cur':=[vI x2,vI 1]) A_ z z h3 z z z z) ?_
  rintro _ _ ⟨h5,s6⟩;refine Wn ?_;obtain rfl:=som<|ifT hm H;exact Wr<|f_ hr (E_ a_3 A_ z h5 z) ⟨bM G s6.one<|b_ lr,z,L,ii z⟩
 refine Wk<|Wm z<|Rm z<|R z (add_ z z)<|R z (bP (parts:=[(0,.tmp 20),(1,.const<|.int .i64 0)]) (cs:=[vI (h_ x2 x3),vI 0]) b_w z z)<|E0 (fs0 (cur':=[vI (h_ x2 x3),vI 0]) A_ z z h3 z z z z) ?_
 rintro _ _ ⟨W,s8⟩;refine Wn ?_;obtain rfl:=som<|ifF hm H;exact Wr<|f_ hr (E_ a_3 A_ z W z) ⟨bM G s8.one<|b_ lr,z,iA _ _,ii z⟩
theorem i_D {x1:List UInt8}{x2:Bool}{res:Int}(hm:d_N x1 x2=some res)(W:B<=w0.z)(G:repS w0 B (sl A0 N0 C0) x1):j_ prog 47 [sl A0 N0 C0,vB x2] w0 (Q9 w0 B res):=by
 unfold d_N at hm
 refine goG func47 z z z fun fn hr=>Ws<|Rw z<|Wq<|Wm z<|R z (lnR l_ z G)<|R z (a_d z z)<|Wx z (fun I=>?_) (fun I=>?_)
 ·refine Ws<|Rw z ?_
  obtain rfl:=som<|ifT hm I;exact Wr<|f_ hr z ⟨br w0,z,ii z⟩
 refine Wk<|Ws<|Rw z<|Wq<|Wm z<|R z (lnR l_ z G)<|Rm z<|Wn ?_
 obtain ⟨_,huc,L⟩:=bdS<|ifF hm I;refine Wf (σ:=Int) (ρ:=Int) (fun (k5:Nat)(x0:Int) a w=>Sat 38 [(0,sl A0 N0 C0),(1,vB x2),(5,vI x0),(11,vI (x1.length:Int)),(12,vI ((k5:Nat):Int))] a/\Below w0.z w0 w/\inI x0) (fun (x0:Int) a w=>Sat 38 [(5,vI x0)] a/\Below w0.z w0 w/\inI x0) (rQ prog fn<|Q9 w0 B) huc ?_ ?_ ?_ ?_ ?_
 ·exact fun _ q=>⟨q.k<|s5 z z z z z,br w0,ii z⟩
 ·rintro k5 x0 _ H _ O ⟨hSd,s6,h2⟩ hme;refine Wu ?_ hSd;refine Ws<|Rl z z z<|Wn<|Wq<|Wc z (fun _=>?_) (fun hc=>(a_4 O hc).elim)
  refine Wk<|Wq<|Wb<|Wm z<|Rw z<|Wm z<|Wn ?_
  obtain ⟨uf,hua,hmg⟩:=bdS hme;refine Wt (fun a w=>∃(x3:Int),x3=uf/\Sat 38 [(0,sl A0 N0 C0),(1,vB x2),(5,vI x3),(11,vI (x1.length:Int)),(12,vI ((k5:Nat):Int))] a/\Below H.z H w/\inI x3) ?_ ?_
  ·refine Wc z (fun J=>?_)<|fun J=>?_
   ·refine Wg<|Rm z<|R z (g_G z z (by decide))<|RM z z ?_
    have hb:=G.e s6;refine R z (lnR l_ z hb)<|R z (sb_ z z)<|Rm z<|R z (sb_ z z) ?_
    obtain ⟨xh,ei,hmj⟩:=bdS<|ifT hua J;refine RX z (at_ (α:=UInt8) l_ z_5 z z z hb ei) ?_;rintro _ ⟨_,_,_,rfl,hk,hl,_⟩;obtain rfl:=u8 hl;exact R z (l0 g_5 z<|hk.at0 z)<|R z (b_A d_5 d_3 z)<|R z (rd_or z z)<|Ra z<|Wl (fun _ q=>⟨a_f .i64 (· ||| ·) (b_8 .i64 x0 8)<|byteI xh,som hmj,q.k<|s5 z z z z z,br H,e_Q _ _ _⟩)
   refine Wg<|Rm z<|R z (g_G z z (by decide))<|RM z z ?_
   obtain ⟨xm,en,hmo⟩:=bdS<|ifF hua J;refine RX z (at_ (α:=UInt8) l_ z_5 z z z (G.e s6) en) ?_;rintro _ ⟨_,_,_,rfl,hp,hq,_⟩;obtain rfl:=u8 hq;exact R z (l0 g_5 z<|hp.at0 z)<|R z (b_A d_5 d_3 z)<|R z (rd_or z z)<|Ra z<|Wl (fun _ q=>⟨a_f .i64 (· ||| ·) (b_8 .i64 x0 8)<|byteI xm,som hmo,q.k<|s5 z z z z z,br H,e_Q _ _ _⟩)
  rintro ar _ ⟨x3,rfl,_,ss,ht⟩;revert ar;exact Wo<|Wg<|R z (inc_ O (lt_ (repS.len G) L_) z z)<|Rm z<|Wl (fun _ q=>⟨x3,(som hmg).symm,⟨q.k<|s5 z z z z z,bup s6 ss,ht⟩⟩)
 ·rintro x0 _ _ ⟨hSu,sv,h2⟩;refine Wu ?_ hSu;refine Ws<|Rl z z z<|Wn<|Wq<|Wc z (fun hc=>(a_5 hc).elim) (fun _=>?_)
  exact We<|fun _ q=>⟨rfl,⟨q.k<|s1 z,sv,h2⟩⟩
 ·rintro x0 aw _ rfl ⟨_,sx,h2⟩;have hmy:=elL L;revert aw;refine Wo<|Wm z<|Rw z ?_
  obtain rfl:=som hmy;exact Wr<|f_ hr z ⟨sx,z,h2⟩
 rintro _ _ _ _ rfl ⟨rfl,hqz⟩;have V:=elR L;obtain rfl:=som V;exact ⟨hqz,z⟩
def Q15 (w0:World)(g1:Nat)(B:Zone)(A0:Option Addr)(N0 C0:Nat)(A5:Option Addr)(N5 C5:Nat)(x1:T_)(r:Int×D_×Int)(v:Value)(w':World):Prop:=Chg (· ∈ [g1]) w0 w'/\un3 (fun H G I=>v = .tuple #[vI H,(.agg #[vI G.at_,vI G.code])]/\inI H/\inI G.at_/\inI G.code/\inI I/\Blk w' g1 [sl A0 N0 C0,sl A5 N5 C5,vI I]) r
theorem h_e {x1:T_}{g1:Nat}{x2:Int}{x3:Int}{res:Int×D_×Int}(hm:d_h x1 x2 x3=some res)(hB1:Blk w0 g1 [sl A0 N0 C0,sl A5 N5 C5,vI x1.applied])(L:B<=w0.z)(hBg:¬B g1)(O:repS w0 B (sl A0 N0 C0) x1.d.rules)(V:repS w0 B (sl A5 N5 C5) x1.b)(aP:inI x1.applied)(aQ:inI x2)(al:inI x3):j_ prog 96 [pt g1,vI x2,vI x3] w0 (Q15 w0 g1 B A0 N0 C0 A5 N5 C5 x1 res):=by
 unfold d_h at hm
 refine goG func96 z z z fun fn hr=>Ws<|Ra z<|E z (fa b_5) ?_
 rintro _ wf ⟨rfl,ho⟩;have hb:=ho.below;have I:Blk wf w0.z [vI 0,vI 0]:=ho.blk;refine Wn<|Wm z<|R z (a_0 z)<|Rf z h_6 z ?_
 have hp:=hB1.e hb;refine R z (l0 g_3 z<|hp.at z)<|R z (add_ z z)<|R z (a_0 z)<|Rf z h_6 z<|E0 (fs0 (cur':=[sl A0 N0 C0,sl A5 N5 C5,vI<|h_ x1.applied 1]) z_3 z z hp z z z z) ?_
 rintro _ J ⟨hq,ap⟩;have h1:=ap.one;refine Wn<|Wm z<|R z (a_0 z)<|Rf z k_u z<|Rf z N_ z<|R z (l0 R_ z<|hq.at z)<|Rm z ?_
 obtain ⟨xr,aq,am⟩:=bdS hm;have ht:=(hb.ag B).c h1<|c_<|b_ hBg
 refine RX z (at_ (α:=g_) P_ k_ z z z (O.g ht) aq) ?_;rintro _ ⟨_,_,_,rfl,ar,av,_⟩;obtain ⟨au,ns,cv,aw,nx,cy,az,Y,a0,a1,a2,a3,rfl,_,_,ax,_,_,_,_⟩:=a_j av;refine R z (lN (vs:=vR xr au ns cv aw nx cy az Y a0 a1 a2 a3) I_ k_ z z fid ar)<|E z (fa b_h) ?_
 rintro _ wg ⟨rfl,a4⟩;have h4:=a4.below;have a5:Blk wg J.z [(Str.v (⟨[]⟩:Str)),vI 0,vI 0,vB false,sl none 0 0,sl none 0 0,sl none 0 0,sl none 0 0]:=a4.blk;refine E0 (fs0 (cur':=vR xr au ns cv aw nx cy az Y a0 a1 a2 a3) k_ z z a5 z z z z) ?_;rintro _ a6 ⟨a7,ay⟩;have h2:=ay.one;refine Wn<|Wm z<|Rm z<|Rf z a_z z<|R z (l0 g_3 z<|a7.at z) ?_
 have hc:=lt_ hb.s h1.s;have hh:=(hq.e h4).c h2<|djs<|mm1 (Blk.lt hB1) hc
 have hi:=(ht.e h4).c h2<|c_ (or0 (b_ lr) (i_<|zt' L hc):∀k∈[J.z],¬B k)
 have hj:=lt_ (lt_ hc h4.s) h2.s;obtain ⟨H,aA,W⟩:=bdS am;refine E z (fc call98 z<|f_q (B:=w0.z) aA (a_I hj) (repS.mono (O.g hi) L) (repS.mono (V.g hi) L) (iA _ _) (hh.row 0 3 z) (Blk.lt hB1) al ax) ?_;rintro _ wa ⟨G,rfl,a8,a9⟩;refine E z (fa b_5) ?_;rintro _ wk ⟨rfl,aa⟩;have h5:=aa.below;refine E0 (fs0 (cur':=[vI H.at_,vI H.code]) A_ z z (aa.blk:Blk wk wa.z [vI 0,vI 0]) z z z z) ?_;rintro _ ab ⟨hl,aB⟩;have h6:=aB.one;refine Wn<|Wq<|Ws<|Rf z c_r z<|R z (l0 g_3 z<|hl.at z)<|R z (nq z z)<|Wx z (fun hcm=>?_) (fun hcm=>?_)
 ·refine Wq (Wd (X:=noX) 4 (pl_ 3 [2]) mo (by kernel_rfl) fun aC sd _=>dR z z (lN (vs:=[vI H.at_,vI H.code]) a_3 A_ z z fid<|(hl.e sd).row 0 2 z)<|dQ z z z ?_);have ad:=mmr<|Blk.lt hB1
  refine dE0 z (fs0 (cur':=[vI H.at_,vI H.code]) A_ z z (((((((I.c h1<|atp ad).e h4).c h2<|djs<|mm1 I.lt h1.s).e G).e h5).c h6<|djs<|mm1 I.lt<|lt_ (lt_ (lt_ h1.s h4.s) h2.s) G.s).e sd) z z z z) (.inl z) ?_;rintro _ aD ⟨aE,aF⟩;have ae:=aF.one;refine pD<|Wo ?_
  obtain rfl:=som<|ifT W hcm;have af:=lt_ hj G.s;exact Wr<|b_C hr z (E_ a_3 A_ z aE z) ⟨(cM (e_ (cM (e_ (e_ (cM (e_ (cM (e_ (cr [g1] w0) hb:Chg (· ∈ [g1]) w0 wf) h1 (io sr):Chg (· ∈ [g1]) w0 J) h4:Chg (· ∈ [g1]) w0 wg) h2 (mor hc:∀k∈[J.z],k∈[g1]∨w0.z<=k):Chg (· ∈ [g1]) w0 a6) G:Chg (· ∈ [g1]) w0 wa) h5:Chg (· ∈ [g1]) w0 wk) h6 (mor af:∀k∈[wa.z],k∈[g1]∨w0.z<=k):Chg (· ∈ [g1]) w0 ab) sd:Chg (· ∈ [g1]) w0 aC) ae (mor lr:∀k∈[w0.z],k∈[g1]∨w0.z<=k):Chg (· ∈ [g1]) w0 aD),z,ii z,a8,a9,iA _ _,((((hh.e G).e h5).c h6<|djs<|mm1 (Blk.lt hB1) af).e sd).c ae<|djs ad⟩
 refine Wk<|Wq (Wd (X:=noX) 8192 (.rd 0<|.rd 1<|.rd 2<|.rd 3<|.rd 4<|.rd 5<|.rd 6<|.rd 7<|.rd 8<|.rd 9<|.rd 11<|.ef 10<|.rd 12<|.ef 13 .done) mo (by kernel_rfl) fun aG s7 _=>dM z z z<|dR z z (a_0 z)<|dR z z (fd c_H z) ?_)
 have he:=lt_ hj G.s;have ah:=(((hh.e G).e h5).c h6<|djs<|mm1 (Blk.lt hB1) he).e s7;refine dR z z (l0 Q_ z<|ah.at z)<|dM z z z<|dR z z (fd c_8 z) ?_
 have ai:=hl.e s7;refine dR z z (l0 g_3 z<|ai.at z) ?_;obtain ⟨_,aH,an⟩:=bdS<|ifF W hcm;refine dRX z z (rX l_ z_5 z z (V.g<|(((hi.e G).e h5).c h6<|c_ (or0 (b_ lr) (i_<|zt' L he):∀k∈[wa.z],¬B k)).e s7) z z aH) ?_;rintro _ ⟨_,_,_,rfl,aI⟩;refine dR z z (fd c_q z)<|dR z z (l0 g_4 z<|((((a7.e G).e h5).c h6<|djs<|mm1 a5.lt<|lt_ h2.s G.s).e s7).at z)<|dR z z (lN (vs:=[vI H.at_,vI H.code]) a_3 A_ z z fid<|ai.row 0 2 z) ?_
 obtain ⟨_,aJ,ao⟩:=bdS an;refine dE z z (fc call47 z<|i_D aJ (zt' L<|lt_ (lt_ (lt_ he h5.s) h6.s) s7.s) aI) (.inr fun _ _ h=>B_<|h.1) ?_;rintro _ aK ⟨sn,rfl,aL⟩;refine dQ z z z ?_;have aj:=mmr<|Blk.lt hB1
 refine dE0 z (fs0 (cur':=[vI H.at_,vI H.code]) A_ z z ((((((((I.c h1<|atp aj).e h4).c h2<|djs<|mm1 I.lt h1.s).e G).e h5).c h6<|djs<|mm1 I.lt<|lt_ (lt_ (lt_ h1.s h4.s) h2.s) G.s).e s7).e sn) z z z z) (.inl z) ?_;rintro _ aM ⟨aN,aO⟩;have ak:=aO.one;refine pD<|Wo ?_
 obtain rfl:=som ao;exact Wr<|b_C hr z (E_ a_3 A_ z aN z) ⟨(cM (e_ (e_ (cM (e_ (e_ (cM (e_ (cM (e_ (cr [g1] w0) hb:Chg (· ∈ [g1]) w0 wf) h1 (io sr):Chg (· ∈ [g1]) w0 J) h4:Chg (· ∈ [g1]) w0 wg) h2 (mor hc:∀k∈[J.z],k∈[g1]∨w0.z<=k):Chg (· ∈ [g1]) w0 a6) G:Chg (· ∈ [g1]) w0 wa) h5:Chg (· ∈ [g1]) w0 wk) h6 (mor he:∀k∈[wa.z],k∈[g1]∨w0.z<=k):Chg (· ∈ [g1]) w0 ab) s7:Chg (· ∈ [g1]) w0 aG) sn:Chg (· ∈ [g1]) w0 aK) ak (mor lr:∀k∈[w0.z],k∈[g1]∨w0.z<=k):Chg (· ∈ [g1]) w0 aM),z,aL,a8,a9,iA _ _,(ah.e sn).c ak<|djs aj⟩
theorem W_w1w {x1:T_}{b1 O:Nat}{x2:g_}{x3:Int}{res:D_}(hm:f_P x1 x2 x3=some res)(ak:B<=w0.z)(a9:repS w0 B (sl A0 N0 C0) x1.d.rules)(Y:repS w0 B (sl A5 N5 C5) x1.b)(aa:inI x1.applied)(a4:V_ w0 b1 O [sl A0 N0 C0,sl A5 N5 C5,vI x1.applied])(ab:B b1)(ad:x2.name.b.length<=LEN)(ae:inI x2.kind)(af:inI x2.size)(I:repS w0 B (sl A2 N2 C2) x2.bytes)(ah:repS w0 B (sl A4 N4 C4) x2.names)(ai:repS w0 B (sl A1 N1 C1) x2.tags)(aj:repS w0 B (sl A3 N3 C3) x2.kids)(a0:inI x3):j_ prog 97 [(.pointer<|some ⟨b1,O,none⟩),.agg #[Str.v x2.name,vI x2.kind,vI x2.size,vB x2.little,sl A2 N2 C2,sl A4 N4 C4,sl A1 N1 C1,sl A3 N3 C3],vI x3] w0 (Q14 w0 B res):=by
 unfold f_P at hm
 refine goG func97 z z z fun fn hr=>Ws<|E z (fb z) ?_
 rintro _ J ⟨rfl,hb⟩;have G:=hb.below;refine E z (fa b_5) ?_;rintro _ H ⟨rfl,hd⟩;have h3:=hd.below;have V:Blk H J.z [vI 0,vI 0]:=hd.blk;refine Wn<|Wq<|Ws<|Rf z a_D z ?_
 have he:=(hb.blk:Blk J w0.z (vR x2 A2 N2 C2 A4 N4 C4 A1 N1 C1 A3 N3 C3)).e h3;refine R z (l0 Q_ z<|he.at z) ?_;have W:=(G.ag B).e h3;refine R z (lnR l_ z<|I.g W)<|Rm z<|Wn ?_
 obtain ⟨_,hum,hmc⟩:=bdS hm;refine Wf (σ:=Unit) (ρ:=D_) (fun (k5:Nat)(_:Unit) a w=>Sat 50 [(0,.pointer<|some ⟨b1,O,none⟩),(2,vI x3),(4,pt w0.z),(6,pt J.z),(10,sl A2 N2 C2),(11,vI (x2.bytes.length:Int)),(12,vI ((k5:Nat):Int))] a/\Below H.z H w) (fun (_:Unit) a w=>Sat 50 [(2,vI x3),(4,pt w0.z),(6,pt J.z)] a/\Below H.z H w) (rQ prog fn<|Q14 w0 B) hum ?_ ?_ ?_ ?_ ?_
 ·exact fun _ q=>⟨q.k<|s7 z z z z z z z,br H⟩
 ·rintro k5 _ _ _ _ hkf ⟨hSn,s1⟩ hmo;refine Wu ?_ hSn;refine Ws<|Rl z z z<|Wn<|Wq<|Wc z (fun _=>?_) (fun hc=>(a_4 hkf hc).elim)
  refine Wk<|Wq<|Wb<|Wm z ?_
  obtain ⟨_,ep,hmg⟩:=bdS hmo;have hh:=W.e s1;refine RX z (at_ (α:=UInt8) l_ z_5 z z z (I.g hh) ep) ?_;rintro _ ⟨_,_,_,rfl,hq,ht,_⟩;obtain rfl:=u8 ht;refine R z (l0 g_5 z<|hq.at0 z)<|Ra z<|Rw z<|Wq<|Wm z<|Rm z<|R z (add_ z z)<|Rm z<|R z (a_0 z)<|Rf z c_H z ?_
  have hi:=((a4.e G).e h3).e s1;refine R z (l0 Q_ z<|hi.at (j:=1) z) ?_;have hj:=Y.g hh;refine R z (lnR l_ z hj)<|Rq z z z<|Wx z (fun L=>?_) (fun L=>?_)
  ·refine Wm z<|R z (bP (parts:=[(0,.tmp 26),(1,.const<|.int .i64 1)]) (cs:=[vI x3,vI 1]) b_w z z)<|E0 (fs0 (cur':=[vI x3,vI 1]) A_ z z (V.e s1) z z z z) ?_
   rintro _ _ ⟨hu,sr⟩;exact Wn<|Wr<|rtO<|qL (som<|ifT hmg L).symm<|f_ hr (E_ a_3 A_ z hu z) ⟨bM (bup (bup G h3) s1) sr.one<|m1 G.s,z,a0,ii z⟩
  refine Wk<|Wm z<|R z (a_0 z)<|Rf z c_H z<|R z (l0 Q_ z<|hi.at (j:=1) z)<|RM z z<|R z (add_ z z) ?_
  obtain ⟨_,es,hmk⟩:=bdS<|ifF hmg L;refine RX z (at_ (α:=UInt8) l_ z_5 z z z hj es) ?_;rintro _ ⟨_,_,_,rfl,hv,hw,_⟩;obtain rfl:=u8 hw;refine R z (l0 g_5 z<|hv.at0 z)<|Rm z<|R z (nq z z)<|Wx z (fun hca=>?_) (fun hca=>?_)
  ·refine Wm z<|Rm z<|R z (add_ z z)<|R z (bP (parts:=[(0,.tmp 41),(1,.const<|.int .i64 2)]) (cs:=[(vI<|h_ x3 ((k5:Nat):Int)),vI 2]) b_w z z)<|E0 (fs0 (cur':=[(vI<|h_ x3 ((k5:Nat):Int)),vI 2]) A_ z z (V.e s1) z z z z) ?_
   rintro _ _ ⟨hx,sy⟩;exact Wn<|Wr<|rtO<|qL (som<|ifT hmk hca).symm<|f_ hr (E_ a_3 A_ z hx z) ⟨bM (bup (bup G h3) s1) sy.one<|m1 G.s,z,iA _ _,ii z⟩
  exact Wk<|Wg<|R z (inc_ hkf (lt_ (repS.len I) L_) z z)<|Rm z<|Wl (fun _ q=>⟨(),(som<|ifF hmk hca).symm,⟨q.k<|s7 z z z z z z z,s1⟩⟩)
 ·rintro _ _ _ ⟨hSz,a5⟩;refine Wu ?_ hSz;refine Ws<|Rl z z z<|Wn<|Wq<|Wc z (fun hc=>(a_5 hc).elim) (fun _=>?_)
  exact We<|fun _ q=>⟨rfl,⟨q.k<|s3 z z z,a5⟩⟩
 ·rintro _ a6 _ rfl ⟨_,s6⟩;have a1:=elL hmc;revert a6;refine Wo<|Wm z<|Rf z a_D z<|R z (l0 Q_ z<|(he.e s6).at z)<|R z (lnR l_ z<|I.g<|W.e s6)<|R z (add_ z z)<|R z (bP (parts:=[(0,.tmp 48),(1,.const<|.int .i64 0)]) (cs:=[(vI<|h_ x3 (x2.bytes.length:Int)),vI 0]) b_w z z)<|E0 (fs0 (cur':=[(vI<|h_ x3 (x2.bytes.length:Int)),vI 0]) A_ z z (V.e s6) z z z z) ?_
  rintro _ _ ⟨a7,a8⟩;refine Wn ?_;obtain rfl:=som a1;exact Wr<|f_ hr (E_ a_3 A_ z a7 z) ⟨bM (bup (bup G h3) s6) a8.one<|m1 G.s,z,iA _ _,ii z⟩
 rintro _ _ _ _ rfl ⟨rfl,a2⟩;have a3:=elR hmc;obtain rfl:=som a3;exact ⟨a2,z⟩
theorem W_w1x {x1:List UInt8}{res:Int}(hm:f_Q x1=some res)(W:B<=w0.z)(G:repS w0 B (sl A0 N0 C0) x1):j_ prog 111 [sl A0 N0 C0] w0 (Q9 w0 B res):=by
 unfold f_Q at hm
 refine goG func111 z z z fun fn hr=>Ws<|Rw z<|Ws<|Rw z<|Wq<|Wm z<|R z (lnR l_ z G)<|Rm z<|Wn ?_
 obtain ⟨_,J,H⟩:=bdS hm;refine Wf (σ:=Int) (ρ:=Int) (fun (k3:Nat)(x0:Int) a w=>Sat 19 [(3,vI x0),(6,sl A0 N0 C0),(7,vI (x1.length:Int)),(8,vI ((k3:Nat):Int))] a/\Below w0.z w0 w/\inI x0) (fun (x0:Int) a w=>Sat 19 [(3,vI x0)] a/\Below w0.z w0 w/\inI x0) (rQ prog fn<|Q9 w0 B) J ?_ ?_ ?_ ?_ ?_
 ·exact fun _ q=>⟨q.k<|s4 z z z z,br w0,ii z⟩
 ·rintro k3 x0 _ _ _ I ⟨L,s5,h1⟩ O;refine Wu ?_ L;refine Ws<|Rl z z z<|Wn<|Wq<|Wc z (fun _=>?_) (fun hc=>(a_4 I hc).elim)
  refine Wk<|Wq<|Wb<|Ws ?_
  obtain ⟨V,ea,hmb⟩:=bdS O;refine RX z (at_ (α:=UInt8) l_ z_5 z z z (G.e s5) ea) ?_;rintro _ ⟨_,_,_,rfl,hd,he,_⟩;obtain rfl:=u8 he;exact R z (l0 g_5 z<|hd.at0 z)<|Rw z<|Wg<|RM z z<|R z (b_A d_5 d_3 z)<|R z (add_ z z)<|Rw z<|Wg<|R z (inc_ I (lt_ (repS.len G) L_) z z)<|Rm z<|Wl (fun _ q=>⟨h_ x0<|byteI V,(som hmb).symm,⟨q.k<|s4 z z z z,s5,iA _ _⟩⟩)
 ·rintro x0 _ _ ⟨hSc,sf,h1⟩;refine Wu ?_ hSc;refine Ws<|Rl z z z<|Wn<|Wq<|Wc z (fun hc=>(a_5 hc).elim) (fun _=>?_)
  exact We<|fun _ q=>⟨rfl,⟨q.k<|s1 z,sf,h1⟩⟩
 ·rintro x0 ag _ rfl ⟨_,sh,h1⟩;have hmi:=elL H;revert ag;refine Wo<|Wm z<|R z (e_9 z z (by decide))<|Rw z ?_
  obtain rfl:=som hmi;exact Wr<|f_ hr z ⟨sh,z,e_P h1⟩
 rintro _ _ _ _ rfl ⟨rfl,hqj⟩;have hmk:=elR H;obtain rfl:=som hmk;exact ⟨hqj,z⟩
def Q16 (w0:World)(B:Zone)(r:(List UInt8)×Int×Bool)(v:Value)(w':World):Prop:=Bw w0 w'/\un3 (fun L G O=>∃H I J S1,v = .tuple #[sl H I J,vI G,vB O]/\a_ w' S1 (sl H I J) L/\inI G/\S1.Nodup/\(∀k∈S1,w0.z<=k)) r
theorem W_w1y {x1:List UInt8}{x2:Int}{x3:UInt8}{res:(List UInt8)×Int×Bool}(hm:f_R n x1 x2 x3=some res)(aq:B<=w0.z)(Y:repS w0 B (sl A0 N0 C0) x1)(a0:inI x2):j_ prog 103 [sl A0 N0 C0,vI x2,vU<|byteI x3] w0 (Q16 w0 B res):=by
 unfold f_R at hm
 refine goG func103 z z z fun fn hr=>Ws<|RA z z<|Rw z<|Ws<|E z (f0 (α:=UInt8) S_) ?_
 rintro _ wg ⟨aj,nk,cl,rfl,s8,hv⟩;refine Rw z<|Wq<|Wq ?_
 obtain ⟨ar,huw,hmx⟩:=bdS hm;refine Wt (fun a w=>∃(xm:Bool),xm=ar/\Sat 58 [(0,sl A0 N0 C0),(1,vI x2),(2,vU<|byteI x3),(9,sl aj nk cl),(19,vB xm)] a/\Below wg.z wg w) ?_ ?_
 ·refine Wg<|Rm z<|Rl z z z<|Rm z ?_
  rcases bs (decide<|x2<0) with I | I
  ·iterate 4 refine Nh z I ?_
   exact R z (pT z I z)<|Wl (fun _ q=>⟨true,som<|ifT huw I,q.k<|s5 z z z z z,br wg⟩)
  exact Rh z I (mv z)<|Rh z I (mv z)<|Rh z I (lnR l_ z<|Y.e s8)<|Rh z I (a_d z z)<|R z (pF z I z)<|Wl (fun _ q=>⟨decide<|(x1.length:Int)<x2,som<|ifF huw I,q.k<|s5 z z z z z,br wg⟩)
 rintro au G ⟨xm,rfl,_,s6⟩;revert au;refine Wo<|Wc z (fun hcn=>?_) (fun hcn=>?_)
 ·refine Wm z<|Rm z<|RA z z<|Rw z ?_
  obtain rfl:=som<|ifT hmx hcn;exact Wr<|U_ hr z z z ⟨bup s8 s6,aj,nk,cl,[w0.z],z,hv.e s6,a0,a_q,b_ lr⟩
 refine Wk<|Wq<|Wm z<|Rw z ?_
 obtain ⟨_,ad,hmy⟩:=bdS<|ifF hmx hcn;refine b_M (σ:=(List UInt8)×Int) (ρ:=(List UInt8)×Int×Bool) (fun s a w=>un2 (fun xb V=>∃J L O H,Sat 58 [(0,sl A0 N0 C0),(1,vI x2),(2,vU<|byteI x3),(9,sl J L O),(10,vI V)] a/\Chg (· ∈ [w0.z]) G w/\a_ w H (sl J L O) xb/\H.Nodup/\(∀k∈H,k∈[w0.z]∨G.z<=k)/\inI V) s) (fun s a w=>un2 (fun xb V=>∃J L O H,Sat 58 [(1,vI x2)] a/\Chg (· ∈ [w0.z]) G w/\a_ w H (sl J L O) xb/\H.Nodup/\(∀k∈H,k∈[w0.z]∨G.z<=k)/\inI V) s) (rQ prog fn<|Q16 w0 B) ad ?_ ?_ ?_ ?_
 ·exact fun _ q=>⟨aj,nk,cl,[w0.z],q.k<|s5 z z z z z,cr [w0.z] G,hv.e s6,a_q,io sr,a0⟩
 ·rintro ⟨xb,V⟩ _ W _ ⟨J,L,O,H,ae,sa,hc,hd,he,ho⟩ af;have hmz:=a_B af;refine Wu ?_ ae;refine Wq<|Wm z<|Rm z ?_
  have a6:=((s8.ag B).e s6).c sa<|c_ (or0 (b_ lr) (i_ aq):∀k∈[w0.z],¬B k)
  have hh:=Y.g a6;refine R z (lnR l_ z hh)<|Rl z z z<|Wx z (fun hcp=>?_) (fun hcp=>?_)
  ·refine Wk<|Wq<|Wb<|Wq<|Wm z<|Rm z ?_
   obtain ⟨_,av,a1⟩:=bdS<|ifT hmz hcp;refine RX z (at_ (α:=UInt8) l_ z_5 z z z hh av) ?_;rintro _ ⟨_,_,_,rfl,aw,ax,_⟩;obtain rfl:=u8 ax;refine R z (l0 g_5 z<|aw.at0 z)<|Rm z<|Rq z z z<|Wx z (fun hcq=>?_) (fun hcq=>?_)
   ·refine Wm z<|Rm z<|R z (add_ z z)<|RA z z<|Rw z ?_
    exact Wr<|rtO<|qL (som<|ifT a1 hcq).symm<|U_ hr z z z ⟨bM (bup s8 s6) sa<|b_ lr,J,L,O,H,z,hc,iA _ _,hd,(or1 he (b_ lr) (a_R<|lt_ s8.s s6.s):∀k∈H,w0.z<=k)⟩
   refine Wk<|Wq<|Wm z<|Rm z ?_
   obtain ⟨_,ay,ah⟩:=bdS<|ifF a1 hcq;refine RX z (at_ (α:=UInt8) l_ z_5 z z z hh ay) ?_;rintro _ ⟨_,_,_,rfl,az,aA,_⟩;obtain rfl:=u8 aA;refine R z (l0 g_5 z<|az.at0 z)<|Rq z z z<|Wn ?_
   obtain ⟨aB,a2,a4⟩:=bdS ah;refine Wt (fun a w=>∃(xf:Int),Sum.inl xf=aB/\Sat 58 [(0,sl A0 N0 C0),(1,vI x2),(2,vU<|byteI x3),(9,sl J L O),(10,vI xf)] a/\Below W.z W w/\inI xf) ?_ ?_
   ·refine Wc z (fun hcr=>?_)<|fun hcr=>?_
    ·have a5:=ifT a2 hcr;refine Wm z<|R z (add_ z z)<|Rw z<|Wm z<|Rm z<|R z (lnR l_ z hh)<|Rq z z z<|Wx z (fun hcs=>?_) (fun hcs=>?_)
     ·obtain rfl:=som<|ifT a5 hcs;have ai:=elR a4;exact We<|exO z (fun _ q=>b_i (som ai).symm ⟨J,L,O,H,q.k<|s1 z,(cM (cr [w0.z] G) sa (io sr):Chg (· ∈ [w0.z]) G W),hc,hd,(or1 he (io sr) (x_ lr):∀k∈H,k∈[w0.z]∨G.z<=k),iA _ _⟩)
     exact M_<|fun _ q=>⟨h_ V 1,som<|ifF a5 hcs,q.k<|s5 z z z z z,br W,iA _ _⟩
    exact M_<|fun _ q=>⟨V,som<|ifF a2 hcr,q.k<|s5 z z z z z,br W,ho⟩
   rintro aC a7 ⟨xf,rfl,_,si,_⟩;have ak:=elL a4;revert aC;refine Wo<|Wg<|RM z z<|Rm z ?_
   obtain ⟨aD,aE,al⟩:=bdS ak;refine RX z (at_ (α:=UInt8) l_ z_5 z z z (Y.g<|a6.e si) aE) ?_;rintro _ ⟨_,_,_,rfl,aF,aG,_⟩;obtain rfl:=u8 aG;refine R z (l0 g_5 z<|aF.at0 z)<|E z (fS [(.tmp 53)] S_ z z z (Y_ z) (lb z)<|lb z) ?_
   rintro _ a8 ⟨rfl,ht⟩;have hu:=ht.below;have aY:=a_l ht a_E;obtain ⟨aH,aI,am⟩:=bdS al;refine E z (a_H (α:=UInt8) S_ aI z z ((hc.e si).e hu) hd (ht.blk:Blk a8 a7.z [vU (byteI aD)]) a_E an_ H_) ?_;rintro _ aJ ⟨a9,aK,aL,aM,rfl,aN,aO,aP,aQ⟩;refine Rw z<|Wg<|Rm z<|R z (add_ z z)<|Ra z<|Wl ?_
   have aa:∀k∈H,k∈[w0.z]∨G.z<=k:=or1 he (io sr)<|x_ lr;exact fun _ q=>⟨(aH,h_ xf 1),(som am).symm,⟨aK,aL,aM,a9,q.k<|s5 z z z z z,(cM (e_ (e_ (cM (cr [w0.z] G) sa (io sr):Chg (· ∈ [w0.z]) G W) si:Chg (· ∈ [w0.z]) G a7) hu:Chg (· ∈ [w0.z]) G a8) aN aa:Chg (· ∈ [w0.z]) G aJ),aO,aP,(or2 aQ aa an_ (x_<|lt_ (lt_ sa.s si.s) hu.s):∀k∈a9,k∈[w0.z]∨G.z<=k),iA _ _⟩⟩
  exact We<|fun _ q=>b_i (som<|ifF hmz hcp).symm ⟨J,L,O,H,q.k<|s1 z,(cM (cr [w0.z] G) sa (io sr):Chg (· ∈ [w0.z]) G W),hc,hd,(or1 he (io sr) (x_ lr):∀k∈H,k∈[w0.z]∨G.z<=k),ho⟩
 ·rintro ⟨xb,V⟩ aR aS rfl ⟨J,L,O,H,_,ab,hc,hd,he,ho⟩;have an:=elL hmy;revert aR;refine Wo<|Ws<|E z (f0 (α:=UInt8) S_) ?_
  rintro _ _ ⟨aT,aU,aV,rfl,aW,aX⟩;refine Rm z<|RA z z<|Rw z ?_
  obtain rfl:=som<|a_B an;exact Wr<|U_ hr z z z ⟨bup (bM (bup s8 s6) ab<|b_ lr) aW,aT,aU,aV,[aS.z],z,aX,a0,a_q,m1<|lt_ (lt_ s8.s s6.s) ab.s⟩
 rintro _ _ _ _ rfl ⟨rfl,ao⟩;have ap:=elR hmy;obtain rfl:=som ap;exact ⟨ao,z⟩
def Q17 (w0:World)(g1:Nat)(B:Zone)(A0:Option Addr)(N0 C0:Nat)(A5:Option Addr)(N5 C5:Nat)(x1:T_)(r:D_×Int)(v:Value)(w':World):Prop:=Chg (· ∈ [g1]) w0 w'/\un2 (fun G H=>(.agg #[vI G.at_,vI G.code])=v/\inI G.at_/\inI G.code/\inI H/\Blk w' g1 [sl A0 N0 C0,sl A5 N5 C5,vI H]) r
structure i_E (f:T_->Int->Int->Option (D_×Int)):Prop where
  run:∀{A0 A5:Option Addr}{N0 C0 N5 C5 g1:Nat}{B:Zone}{x1:T_}{x2:Int}{x3:Int}{res:D_×Int}{w0:World}(hm:f x1 x2 x3=some res)(hB1:Blk w0 g1 [sl A0 N0 C0,sl A5 N5 C5,vI x1.applied])(hBw:B<=w0.z)(hBg:¬B g1)(p1_0:repS w0 B (sl A0 N0 C0) x1.d.rules)(p1_1:repS w0 B (sl A5 N5 C5) x1.b)(p1_2:inI x1.applied)(p2_0:inI x2)(p3_0:inI x3),j_ prog 72 [pt g1,vI x2,vI x3] w0<|Q17 w0 g1 B A0 N0 C0 A5 N5 C5 x1 res
structure i_F (f:T_->g_->Int->Option (D_×Int)):Prop where
  run:∀{A0 A5 A2 A4 A1 A3:Option Addr}{N0 C0 N5 C5 g1 N2 C2 N4 C4 N1 C1 N3 C3:Nat}{B:Zone}{x1:T_}{x2:g_}{x3:Int}{res:D_×Int}{w0:World}(hm:f x1 x2 x3=some res)(hB1:Blk w0 g1 [sl A0 N0 C0,sl A5 N5 C5,vI x1.applied])(hBw:B<=w0.z)(hBg:¬B g1)(p1_0:repS w0 B (sl A0 N0 C0) x1.d.rules)(p1_1:repS w0 B (sl A5 N5 C5) x1.b)(p1_2:inI x1.applied)(p2_0:x2.name.b.length<=LEN)(p2_1:inI x2.kind)(p2_2:inI x2.size)(p2_4:repS w0 B (sl A2 N2 C2) x2.bytes)(p2_5:repS w0 B (sl A4 N4 C4) x2.names)(p2_6:repS w0 B (sl A1 N1 C1) x2.tags)(p2_7:repS w0 B (sl A3 N3 C3) x2.kids)(p3_0:inI x3),j_ prog 99 [pt g1,.agg #[Str.v x2.name,vI x2.kind,vI x2.size,vB x2.little,sl A2 N2 C2,sl A4 N4 C4,sl A1 N1 C1,sl A3 N3 C3],vI x3] w0<|Q17 w0 g1 B A0 N0 C0 A5 N5 C5 x1 res
structure i_G (f:T_->g_->Int->Option (D_×Int)):Prop where
  run:∀{A0 A5 A2 A4 A1 A3:Option Addr}{N0 C0 N5 C5 g1 N2 C2 N4 C4 N1 C1 N3 C3:Nat}{B:Zone}{x1:T_}{x2:g_}{x3:Int}{res:D_×Int}{w0:World}(hm:f x1 x2 x3=some res)(hB1:Blk w0 g1 [sl A0 N0 C0,sl A5 N5 C5,vI x1.applied])(hBw:B<=w0.z)(hBg:¬B g1)(p1_0:repS w0 B (sl A0 N0 C0) x1.d.rules)(p1_1:repS w0 B (sl A5 N5 C5) x1.b)(p1_2:inI x1.applied)(p2_0:x2.name.b.length<=LEN)(p2_1:inI x2.kind)(p2_2:inI x2.size)(p2_4:repS w0 B (sl A2 N2 C2) x2.bytes)(p2_5:repS w0 B (sl A4 N4 C4) x2.names)(p2_6:repS w0 B (sl A1 N1 C1) x2.tags)(p2_7:repS w0 B (sl A3 N3 C3) x2.kids)(p3_0:inI x3),j_ prog 100 [pt g1,.agg #[Str.v x2.name,vI x2.kind,vI x2.size,vB x2.little,sl A2 N2 C2,sl A4 N4 C4,sl A1 N1 C1,sl A3 N3 C3],vI x3] w0<|Q17 w0 g1 B A0 N0 C0 A5 N5 C5 x1 res
structure i_H (f:T_->g_->Int->Option (D_×Int)):Prop where
  run:∀{A0 A5 A2 A4 A1 A3:Option Addr}{N0 C0 N5 C5 g1 N2 C2 N4 C4 N1 C1 N3 C3:Nat}{B:Zone}{x1:T_}{x2:g_}{x3:Int}{res:D_×Int}{w0:World}(hm:f x1 x2 x3=some res)(hB1:Blk w0 g1 [sl A0 N0 C0,sl A5 N5 C5,vI x1.applied])(hBw:B<=w0.z)(hBg:¬B g1)(p1_0:repS w0 B (sl A0 N0 C0) x1.d.rules)(p1_1:repS w0 B (sl A5 N5 C5) x1.b)(p1_2:inI x1.applied)(p2_0:x2.name.b.length<=LEN)(p2_1:inI x2.kind)(p2_2:inI x2.size)(p2_4:repS w0 B (sl A2 N2 C2) x2.bytes)(p2_5:repS w0 B (sl A4 N4 C4) x2.names)(p2_6:repS w0 B (sl A1 N1 C1) x2.tags)(p2_7:repS w0 B (sl A3 N3 C3) x2.kids)(p3_0:inI x3),j_ prog 101 [pt g1,.agg #[Str.v x2.name,vI x2.kind,vI x2.size,vB x2.little,sl A2 N2 C2,sl A4 N4 C4,sl A1 N1 C1,sl A3 N3 C3],vI x3] w0<|Q17 w0 g1 B A0 N0 C0 A5 N5 C5 x1 res
structure i_I (f:T_->g_->Int->Option (D_×Int)):Prop where
  run:∀{A0 A5 A2 A4 A1 A3:Option Addr}{N0 C0 N5 C5 g1 N2 C2 N4 C4 N1 C1 N3 C3:Nat}{B:Zone}{x1:T_}{x2:g_}{x3:Int}{res:D_×Int}{w0:World}(hm:f x1 x2 x3=some res)(hB1:Blk w0 g1 [sl A0 N0 C0,sl A5 N5 C5,vI x1.applied])(hBw:B<=w0.z)(hBg:¬B g1)(p1_0:repS w0 B (sl A0 N0 C0) x1.d.rules)(p1_1:repS w0 B (sl A5 N5 C5) x1.b)(p1_2:inI x1.applied)(p2_0:x2.name.b.length<=LEN)(p2_1:inI x2.kind)(p2_2:inI x2.size)(p2_4:repS w0 B (sl A2 N2 C2) x2.bytes)(p2_5:repS w0 B (sl A4 N4 C4) x2.names)(p2_6:repS w0 B (sl A1 N1 C1) x2.tags)(p2_7:repS w0 B (sl A3 N3 C3) x2.kids)(p3_0:inI x3),j_ prog 102 [pt g1,.agg #[Str.v x2.name,vI x2.kind,vI x2.size,vB x2.little,sl A2 N2 C2,sl A4 N4 C4,sl A1 N1 C1,sl A3 N3 C3],vI x3] w0<|Q17 w0 g1 B A0 N0 C0 A5 N5 C5 x1 res
abbrev e_p (n:Nat):Prop:=i_E (a_h n).impl_checker_value/\i_F (a_h n).impl_checker_array/\i_G (a_h n).impl_checker_choice/\i_H (a_h n).impl_checker_option/\i_I (a_h n).impl_checker_checked
theorem T_w03 (ih:e_p n):i_E (f_S n<|a_h n):=by
 obtain ⟨dP,dS,dT,dU,dV⟩:=ih
 constructor
 intro A0 A5 N0 C0 N5 C5 g1 B x1 x2 x3 res w0 hm hB1 J hBg W Y cV cW a0;unfold f_S at hm
 refine goG func72 z z z fun fn hr=>Ws<|E z (fa b_5) ?_
 rintro _ H ⟨rfl,bq⟩;have h1:=bq.below;have h6:Blk H w0.z [vI 0,vI 0]:=bq.blk;refine Wn<|Wm z<|R z (a_0 z)<|Rf z k_u z<|Rf z N_ z ?_
 have aL:=hB1.e h1;refine R z (l0 R_ z<|aL.at z)<|Rm z ?_
 obtain ⟨xh,dW,ba⟩:=bdS hm;refine RX z (at_ (α:=g_) P_ k_ z z z (W.e h1) dW) ?_;rintro _ ⟨_,_,_,rfl,dX,dY,_⟩;obtain ⟨ao,np,cq,ar,ns,ct,au,nv,cw,ai,nj,ck,rfl,a7,a8,hz,a1,a9,aa,he⟩:=a_j dY;refine R z (lN (vs:=vR xh ao np cq ar ns ct au nv cw ai nj ck) I_ k_ z z fid dX)<|E z (fa b_h) ?_
 rintro _ O ⟨rfl,br⟩;have h2:=br.below;have bs:Blk O H.z [(Str.v (⟨[]⟩:Str)),vI 0,vI 0,vB false,sl none 0 0,sl none 0 0,sl none 0 0,sl none 0 0]:=br.blk;refine E0 (fs0 (cur':=vR xh ao np cq ar ns ct au nv cw ai nj ck) k_ z z bs z z z z) ?_;rintro _ V ⟨bt,dZ⟩;have G:=dZ.one;refine Wn<|Wq<|Ws<|Rf z a_i z<|R z (l0 g_3 z<|bt.at z)<|Rq z z z<|Wx z (fun az=>?_) (fun az=>?_)
 ·refine Wm z<|RM z z ?_
  have bu:=((h1.ag B).e h2).c G<|c_ (or0 (b_ lr) (i_<|zt' J h1.s):∀k∈[H.z],¬B k)
  have bv:=lt_ (lt_ h1.s h2.s) G.s;obtain ⟨_,a2,_,e0,cX⟩:=u_<|ifT ba az;refine E z (fc call96 z<|h_e (B:=B) e0 ((aL.e h2).c G<|djs<|mm1 (Blk.lt hB1) h1.s) (zt' J bv) hBg (W.g bu) (Y.g bu) cV cW a0) ?_;rintro _ aM ⟨aj,rfl,_,e1,e2,e3,e4⟩;refine Rm z<|Re z z z<|Re z z z<|E z (fa b_5) ?_
  rintro _ bw ⟨rfl,bx⟩;have aN:=bx.below;refine Ra z<|E0 (fs0 (cur':=[vI a2.at_,vI a2.code]) A_ z z (bx.blk:Blk bw aM.z [vI 0,vI 0]) z z z z) ?_
  rintro _ e5 ⟨e6,e7⟩;have aO:=e7.one;refine Wn<|Ws<|R z (lN (vs:=[vI a2.at_,vI a2.code]) a_3 A_ z z fid<|e6.row 0 2 z) ?_
  have bz:=mmr<|Blk.lt hB1
  refine E0 (fs0 (cur':=[vI a2.at_,vI a2.code]) A_ z z (((((h6.e h2).c G<|djs<|mmr h6.lt).c aj<|atp bz).e aN).c aO<|djs<|mm1 h6.lt<|lt_ (lt_ h2.s G.s) aj.s) z z z z) ?_;rintro _ e8 ⟨e9,ea⟩;have bA:=ea.one;refine Wn ?_;obtain rfl:=som cX;have bB:=lt_ bv aj.s;exact Wr<|f_ hr (E_ a_3 A_ z e9 z) ⟨(cM (cM (e_ (cM (cM (e_ (e_ (cr [g1] w0) h1:Chg (· ∈ [g1]) w0 H) h2:Chg (· ∈ [g1]) w0 O) G (mor h1.s:∀k∈[H.z],k∈[g1]∨w0.z<=k):Chg (· ∈ [g1]) w0 V) aj (io sr):Chg (· ∈ [g1]) w0 aM) aN:Chg (· ∈ [g1]) w0 bw) aO (mor bB:∀k∈[aM.z],k∈[g1]∨w0.z<=k):Chg (· ∈ [g1]) w0 e5) bA (mor lr:∀k∈[w0.z],k∈[g1]∨w0.z<=k):Chg (· ∈ [g1]) w0 e8),z,e1,e2,e3,((e4.e aN).c aO<|djs<|mm1 (Blk.lt hB1) bB).c bA<|djs bz⟩
 have bb:=ifF ba az;refine Wk<|Wm z<|R z (a_0 z)<|Rf z h_6 z ?_
 have bC:=mm1 (Blk.lt hB1) h1.s;have bD:=(aL.e h2).c G<|djs bC
 refine R z (l0 g_3 z<|bD.at z)<|R z (add_ z z)<|R z (a_0 z)<|Rf z h_6 z<|E0 (fs0 (cur':=[sl A0 N0 C0,sl A5 N5 C5,vI<|h_ x1.applied 1]) z_3 z z bD z z z z) ?_
 rintro _ I ⟨ha,eb⟩;have h3:=eb.one;refine Wn<|Wq<|Ws<|Rf z a_i z ?_
 have hb:=bt.c h3<|atp bC
 refine R z (l0 g_3 z<|hb.at z)<|Wn<|Wb<|Ws<|Rq z z z<|Rw z<|Wc z (fun aA=>?_) (fun aA=>?_)
 ·refine Wm z<|R z (lN (vs:=vR xh ao np cq ar ns ct au nv cw ai nj ck) I_ k_ z z fid<|hb.row 0 8 z)<|Rm z ?_
  have bE:∀k∈[H.z],¬B k:=or0 (b_ lr)<|i_<|zt' J h1.s;have bF:=(((h1.ag B).e h2).c G<|c_ bE).c h3<|c_<|b_ hBg
  have ak:=((h2.ag B).c G<|c_ bE).c h3<|c_<|b_ hBg
  obtain ⟨bG,ec,cY⟩:=bdS<|ifT bb aA;refine E z (fc call97 z<|W_w1w (B:=w0.z) ec (a_I<|lt_ (lt_ (lt_ h1.s h2.s) G.s) h3.s) (repS.mono (W.g bF) J) (repS.mono (Y.g bF) J) (iA _ _) (ha.row 0 3 z) (Blk.lt hB1) a7 a8 hz (repS.mono (a1.g ak) J) (repS.mono (a9.g ak) J) (repS.mono (aa.g ak) J) (repS.mono (he.g ak) J) a0) ?_;rintro _ ed ⟨aP,rfl,ee,ef⟩;have bH:=mmr<|Blk.lt hB1
  refine E0 (fs0 (cur':=[vI bG.at_,vI bG.code]) A_ z z ((((h6.e h2).c G<|djs<|mmr h6.lt).c h3<|atp bH).e aP) z z z z) ?_;rintro _ eg ⟨eh,ei⟩;have bI:=ei.one;refine Wn ?_;obtain rfl:=som cY;exact Wr<|rtO<|f_ hr (E_ a_3 A_ z eh z) ⟨(cM (e_ (cM (cM (e_ (e_ (cr [g1] w0) h1:Chg (· ∈ [g1]) w0 H) h2:Chg (· ∈ [g1]) w0 O) G (mor h1.s:∀k∈[H.z],k∈[g1]∨w0.z<=k):Chg (· ∈ [g1]) w0 V) h3 (io sr):Chg (· ∈ [g1]) w0 I) aP:Chg (· ∈ [g1]) w0 ed) bI (mor lr:∀k∈[w0.z],k∈[g1]∨w0.z<=k):Chg (· ∈ [g1]) w0 eg),z,ee,ef,iA _ _,(ha.e aP).c bI<|djs bH⟩
 have bc:=ifF bb aA;refine Ws<|Rq z z z<|Rw z<|Wc z (fun aB=>?_) (fun aB=>?_)
 ·refine Wm z<|Rm z<|Rf z a_z z<|R z (l0 g_3 z<|hb.at z) ?_
  have bJ:=(((h1.ag B).e h2).c G<|c_ (or0 (b_ lr) (i_<|zt' J h1.s):∀k∈[H.z],¬B k)).c h3<|c_<|b_ hBg
  obtain ⟨bK,ej,cZ⟩:=bdS<|ifT bc aB;refine E z (fc call98 z<|f_q (B:=w0.z) ej (a_I<|lt_ (lt_ (lt_ h1.s h2.s) G.s) h3.s) (repS.mono (W.g bJ) J) (repS.mono (Y.g bJ) J) (iA _ _) (ha.row 0 3 z) (Blk.lt hB1) a0 hz) ?_;rintro _ ek ⟨aQ,rfl,em,en⟩;have bL:=mmr<|Blk.lt hB1
  refine E0 (fs0 (cur':=[vI bK.at_,vI bK.code]) A_ z z ((((h6.e h2).c G<|djs<|mmr h6.lt).c h3<|atp bL).e aQ) z z z z) ?_;rintro _ eo ⟨ep,er⟩;have bM:=er.one;refine Wn ?_;obtain rfl:=som cZ;exact Wr<|rtO<|f_ hr (E_ a_3 A_ z ep z) ⟨(cM (e_ (cM (cM (e_ (e_ (cr [g1] w0) h1:Chg (· ∈ [g1]) w0 H) h2:Chg (· ∈ [g1]) w0 O) G (mor h1.s:∀k∈[H.z],k∈[g1]∨w0.z<=k):Chg (· ∈ [g1]) w0 V) h3 (io sr):Chg (· ∈ [g1]) w0 I) aQ:Chg (· ∈ [g1]) w0 ek) bM (mor lr:∀k∈[w0.z],k∈[g1]∨w0.z<=k):Chg (· ∈ [g1]) w0 eo),z,em,en,iA _ _,(ha.e aQ).c bM<|djs bL⟩
 have be:=ifF bc aB;refine Ws<|Rq z z z<|Rw z<|Wc z (fun aC=>?_) (fun aC=>?_)
 ·refine Wm z<|Rf z K_ z<|R z (l0 z_ z<|hb.at z) ?_
  obtain ⟨_,es,d0⟩:=bdS<|ifT be aC;have bN:∀k∈[H.z],¬B k:=or0 (b_ lr)<|i_<|zt' J h1.s;refine RX z (at_ (α:=Int) q_ z_3 z z z (he.g<|((h2.ag B).c G<|c_ bN).c h3<|c_<|b_ hBg) es) ?_;rintro _ ⟨_,_,_,rfl,et,eu,_⟩;obtain ⟨rfl,ew⟩:=J_ eu;refine R z (l0 g_3 z<|et.at0 z)<|Rm z ?_
  have aR:=(((h1.ag B).e h2).c G<|c_ bN).c h3<|c_<|b_ hBg
  have aS:=lt_ (lt_ (lt_ h1.s h2.s) G.s) h3.s;obtain ⟨_,a3,_,ex,bf⟩:=u_ d0;refine E z (fc call96 z<|h_e (B:=B) ex ha (zt' J aS) hBg (W.g aR) (Y.g aR) (iA _ _) ew a0) ?_;rintro _ a4 ⟨sf,rfl,ey,bO,ez,aT,bQ⟩;refine Rm z<|Re z z z<|Re z z z<|E z (fa b_5) ?_
  rintro _ aU ⟨rfl,bR⟩;have hl:=bR.below;refine Ra z<|E0 (fs0 (cur':=[vI a3.at_,vI a3.code]) A_ z z (bR.blk:Blk aU a4.z [vI 0,vI 0]) z z z z) ?_
  rintro _ bS ⟨aV,eA⟩;have hn:=eA.one;refine Wn<|Wq<|Ws<|Rf z c_r z<|R z (l0 g_3 z<|aV.at z)<|R z (nq z z)<|Wx z (fun aD=>?_) (fun aD=>?_)
  ·refine Ws<|R z (lN (vs:=[vI a3.at_,vI a3.code]) a_3 A_ z z fid<|aV.row 0 2 z) ?_
   have aW:=mmr<|Blk.lt hB1
   refine E0 (fs0 (cur':=[vI a3.at_,vI a3.code]) A_ z z ((((((h6.e h2).c G<|djs<|mmr h6.lt).c h3<|atp aW).c sf<|atp aW).e hl).c hn<|djs<|mm1 h6.lt<|lt_ (lt_ (lt_ h2.s G.s) h3.s) sf.s) z z z z) ?_;rintro _ eB ⟨eC,eD⟩;have bT:=eD.one;refine Wn ?_;obtain rfl:=som<|ifT bf aD;have bU:=lt_ aS sf.s;exact Wr<|rtO<|f_ hr (E_ a_3 A_ z eC z) ⟨(cM (cM (e_ (cM (cM (cM (e_ (e_ (cr [g1] w0) h1:Chg (· ∈ [g1]) w0 H) h2:Chg (· ∈ [g1]) w0 O) G (mor h1.s:∀k∈[H.z],k∈[g1]∨w0.z<=k):Chg (· ∈ [g1]) w0 V) h3 (io sr):Chg (· ∈ [g1]) w0 I) sf (io sr):Chg (· ∈ [g1]) w0 a4) hl:Chg (· ∈ [g1]) w0 aU) hn (mor bU:∀k∈[a4.z],k∈[g1]∨w0.z<=k):Chg (· ∈ [g1]) w0 bS) bT (mor lr:∀k∈[w0.z],k∈[g1]∨w0.z<=k):Chg (· ∈ [g1]) w0 eB),z,bO,ez,aT,((bQ.e hl).c hn<|djs<|mm1 (Blk.lt hB1) bU).c bT<|djs aW⟩
  refine Wk<|Wm z<|Rf z c_8 z<|R z (l0 g_3 z<|aV.at z)<|Rm z ?_
  have al:=lt_ aS sf.s;have bV:=(bQ.e hl).c hn<|djs<|mm1 (Blk.lt hB1) al
  have bW:=((aR.c sf<|c_<|b_ hBg).e hl).c hn<|c_ (or0 (b_ lr) (i_<|zt' J al):∀k∈[a4.z],¬B k)
  obtain ⟨bX,eE,d1⟩:=bdS<|ifF bf aD;refine E z (fc call98 z<|f_q (B:=w0.z) eE (a_I<|lt_ (lt_ al hl.s) hn.s) (repS.mono (W.g bW) J) (repS.mono (Y.g bW) J) aT (bV.row 0 3 z) (Blk.lt hB1) bO ey) ?_;rintro _ eF ⟨aX,rfl,eG,eH⟩;have aY:=mmr<|Blk.lt hB1
  refine E0 (fs0 (cur':=[vI bX.at_,vI bX.code]) A_ z z (((((((h6.e h2).c G<|djs<|mmr h6.lt).c h3<|atp aY).c sf<|atp aY).e hl).c hn<|djs<|mm1 h6.lt<|lt_ (lt_ (lt_ h2.s G.s) h3.s) sf.s).e aX) z z z z) ?_;rintro _ eI ⟨eJ,eK⟩;have bY:=eK.one;refine Wn ?_;obtain rfl:=som d1;exact Wr<|rtO<|f_ hr (E_ a_3 A_ z eJ z) ⟨(cM (e_ (cM (e_ (cM (cM (cM (e_ (e_ (cr [g1] w0) h1:Chg (· ∈ [g1]) w0 H) h2:Chg (· ∈ [g1]) w0 O) G (mor h1.s:∀k∈[H.z],k∈[g1]∨w0.z<=k):Chg (· ∈ [g1]) w0 V) h3 (io sr):Chg (· ∈ [g1]) w0 I) sf (io sr):Chg (· ∈ [g1]) w0 a4) hl:Chg (· ∈ [g1]) w0 aU) hn (mor al:∀k∈[a4.z],k∈[g1]∨w0.z<=k):Chg (· ∈ [g1]) w0 bS) aX:Chg (· ∈ [g1]) w0 eF) bY (mor lr:∀k∈[w0.z],k∈[g1]∨w0.z<=k):Chg (· ∈ [g1]) w0 eI),z,eG,eH,aT,(bV.e aX).c bY<|djs aY⟩
 have bg:=ifF be aC;refine Ws<|Rq z z z<|Rw z<|Wc z (fun aE=>?_) (fun aE=>?_)
 ·refine Wm z<|R z (lN (vs:=vR xh ao np cq ar ns ct au nv cw ai nj ck) I_ k_ z z fid<|hb.row 0 8 z)<|Rm z ?_
  have bZ:∀k∈[H.z],¬B k:=or0 (b_ lr)<|i_<|zt' J h1.s;have c0:=(((h1.ag B).e h2).c G<|c_ bZ).c h3<|c_<|b_ hBg
  have am:=((h2.ag B).c G<|c_ bZ).c h3<|c_<|b_ hBg
  obtain ⟨c1,_,eL,d2⟩:=a_G<|ifT bg aE;refine E z (fc call99 z<|dS.run (B:=B) eL ha (zt' J<|lt_ (lt_ (lt_ h1.s h2.s) G.s) h3.s) hBg (W.g c0) (Y.g c0) (iA _ _) a7 a8 hz (a1.g am) (a9.g am) (aa.g am) (he.g am) a0) ?_;rintro _ eM ⟨c2,rfl,eN,eO,eP,eQ⟩;have aZ:=mmr<|Blk.lt hB1
  refine E0 (fs0 (cur':=[vI c1.at_,vI c1.code]) A_ z z ((((h6.e h2).c G<|djs<|mmr h6.lt).c h3<|atp aZ).c c2<|atp aZ) z z z z) ?_;rintro _ eR ⟨eS,eT⟩;have c3:=eT.one;refine Wn ?_;obtain rfl:=som d2;exact Wr<|rtO<|f_ hr (E_ a_3 A_ z eS z) ⟨(cM (cM (cM (cM (e_ (e_ (cr [g1] w0) h1:Chg (· ∈ [g1]) w0 H) h2:Chg (· ∈ [g1]) w0 O) G (mor h1.s:∀k∈[H.z],k∈[g1]∨w0.z<=k):Chg (· ∈ [g1]) w0 V) h3 (io sr):Chg (· ∈ [g1]) w0 I) c2 (io sr):Chg (· ∈ [g1]) w0 eM) c3 (mor lr:∀k∈[w0.z],k∈[g1]∨w0.z<=k):Chg (· ∈ [g1]) w0 eR),z,eN,eO,eP,eQ.c c3<|djs aZ⟩
 have bh:=ifF bg aE;refine Ws<|Rq z z z<|Rw z<|Wc z (fun aF=>?_) (fun aF=>?_)
 ·refine Wm z<|R z (bP (parts:=[(0,.tmp 88),(1,.const<|.int .i64 0)]) (cs:=[vI x3,vI 0]) b_w z z)<|E z (fa b_5) ?_
  rintro _ c4 ⟨rfl,c5⟩;have hx:=c5.below;refine E0 (fs0 (cur':=[vI x3,vI 0]) A_ z z (c5.blk:Blk c4 I.z [vI 0,vI 0]) z z z z) ?_;rintro _ L ⟨eU,eV⟩;have hy:=eV.one;refine Wn<|Wq<|Ws<|Rf z K_ z<|R z (l0 z_ z<|((hb.e hx).c hy<|djs<|mm1 bs.lt<|lt_ G.s h3.s).at z) ?_
  have c6:∀k∈[H.z],¬B k:=or0 (b_ lr)<|i_<|zt' J h1.s;have ab:=lt_ (lt_ (lt_ h1.s h2.s) G.s) h3.s;have an:∀k∈[I.z],¬B k:=or0 (b_ lr)<|i_<|zt' J ab;have c7:=((((h2.ag B).c G<|c_ c6).c h3<|c_<|b_ hBg).e hx).c hy<|c_ an
  refine R z (lnR q_ z<|he.g c7)<|Rm z<|Wn ?_
  obtain ⟨_,d3,bi⟩:=bdS<|ifT bh aF;refine Wf (σ:=Int×Int×Int) (ρ:=D_×Int) (fun (c8:Nat) s a w=>un3 (fun xm xc xd=>Sat 145 [(0,pt g1),(6,pt w0.z),(12,pt I.z),(91,sl ai nj ck),(92,vI (xh.kids.length:Int)),(93,vI ((c8:Nat):Int))] a/\Chg (· ∈ ([g1]++[I.z])) L w/\inI xm/\inI xc/\inI xd/\Blk w g1 [sl A0 N0 C0,sl A5 N5 C5,vI xm]/\Blk w I.z [vI xc,vI xd]) s) (fun s a w=>un3 (fun xm xc xd=>Sat 145 [(6,pt w0.z),(12,pt I.z)] a/\Chg (· ∈ ([g1]++[I.z])) L w/\inI xm/\inI xc/\inI xd/\Blk w g1 [sl A0 N0 C0,sl A5 N5 C5,vI xm]/\Blk w I.z [vI xc,vI xd]) s) (rQ prog fn<|Q17 w0 g1 B A0 N0 C0 A5 N5 C5 x1) d3 ?_ ?_ ?_ ?_ ?_
  ·exact fun _ q=>⟨q.k<|s6 z z z z z z,cr ([g1]++[I.z]) L,iA _ _,a0,ii z,(ha.e hx).c hy<|djs<|mm1 (Blk.lt hB1) ab,eU⟩
  ·rintro c8 ⟨xm,xc,xd⟩ _ c9 _ bj ⟨d4,ad,ae,af,ap,ah,a5⟩ d5;refine Wu ?_ d4;refine Ws<|Rl z z z<|Wn<|Wq<|Wc z (fun _=>?_) (fun hc=>(a_4 bj hc).elim)
   refine Wk<|Wq<|Wb<|Ws ?_
   obtain ⟨_,eW,d6⟩:=bdS<|a_Q d5;refine RX z (at_ (α:=Int) q_ z_3 z z z (he.g<|c7.c ad<|nmA (c_<|b_ hBg)<|c_ an) eW) ?_;rintro _ ⟨_,_,_,rfl,eX,eY,_⟩;obtain ⟨rfl,eZ⟩:=J_ eY;refine R z (l0 g_3 z<|eX.at0 z)<|Rw z<|Wm z<|Rm z<|Rf z c_8 z<|R z (l0 g_3 z<|a5.at z) ?_
   have ca:=((((((h1.ag B).e h2).c G<|c_ c6).c h3<|c_<|b_ hBg).e hx).c hy<|c_ an).c ad<|nmA (c_<|b_ hBg)<|c_ an
   obtain ⟨aq,f0,f1,bk⟩:=a_G d6;refine E z (fc call72 z<|dP.run (B:=B) f1 ah (zt' J<|lt_ (lt_ (lt_ ab hx.s) hy.s) ad.s) hBg (W.g ca) (Y.g ca) ae eZ af) ?_;rintro _ cb ⟨b0,rfl,cc,cd,ce,cf⟩;have b3:=mm1 (Blk.lt hB1) ab;refine E0 (fs0 (cur':=[vI aq.at_,vI aq.code]) A_ z z (a5.c b0<|atp b3) z z z z) ?_;rintro _ cg ⟨b4,f2⟩;have av:=f2.one;refine Wn<|Ws<|Rf z c_r z<|R z (l0 g_3 z<|b4.at z)<|R z (nq z z)<|Wx z (fun aG=>?_) (fun aG=>?_)
   ·have f3:Chg (· ∈ ([g1]++[I.z])) L c9:=cM (cr ([g1]++[I.z]) L) ad<|aa_ (io<|r_ sr)<|io<|v_ sr;exact We<|exO z (fun _ q=>b_i (som<|ifT bk aG).symm ⟨q.k<|s2 z z,(cM (cM f3 b0 (io<|r_ sr):Chg (· ∈ ([g1]++[I.z])) L cb) av (io<|v_ sr):Chg (· ∈ ([g1]++[I.z])) L cg),ce,cc,cd,cf.c av<|djs b3,b4⟩)
   refine Wk<|Wg<|R z (inc_ bj (lt_ (repS.len he) L_) z z)<|Rm z<|Wl ?_
   exact fun _ q=>⟨(f0,aq.at_,aq.code),(som<|ifF bk aG).symm,⟨q.k<|s6 z z z z z z,(cM (cM (cM (cr ([g1]++[I.z]) L) ad (aa_ (io<|r_ sr)<|io<|v_ sr):Chg (· ∈ ([g1]++[I.z])) L c9) b0 (io<|r_ sr):Chg (· ∈ ([g1]++[I.z])) L cb) av (io<|v_ sr):Chg (· ∈ ([g1]++[I.z])) L cg),ce,cc,cd,cf.c av<|djs b3,b4⟩⟩
  ·rintro ⟨xm,xc,xd⟩ _ f4 ⟨d7,f5,ae,af,ap,ah,a5⟩;refine Wu ?_ d7;refine Ws<|Rl z z z<|Wn<|Wq<|Wc z (fun hc=>(a_5 hc).elim) (fun _=>?_)
   exact We<|fun _ q=>⟨rfl,⟨q.k<|s2 z z,(cM (cr ([g1]++[I.z]) L) f5 (aa_ (io<|r_ sr)<|io<|v_ sr):Chg (· ∈ ([g1]++[I.z])) L f4),ae,af,ap,ah,a5⟩⟩
  ·rintro ⟨xm,xc,xd⟩ f6 f7 rfl ⟨_,ch,ae,af,ap,ah,a5⟩;have d8:=elL bi;revert f6;refine Wo<|Ws<|R z (lN (vs:=[vI xc,vI xd]) a_3 A_ z z fid<|a5.row 0 2 z) ?_
   have b5:=mmr<|Blk.lt hB1
   have ci:=mm1 h6.lt<|lt_ (lt_ h2.s G.s) h3.s
   refine E0 (fs0 (cur':=[vI xc,vI xd]) A_ z z ((((((h6.e h2).c G<|djs<|mmr h6.lt).c h3<|atp b5).e hx).c hy<|djs ci).c ch<|atp<|nmA b5<|ds ci) z z z z) ?_;rintro _ f8 ⟨f9,fb⟩;have cj:=fb.one;refine Wn ?_;obtain rfl:=som<|a_Q d8;have cl:∀k∈[I.z],k∈[g1]∨w0.z<=k:=mor ab;exact Wr<|rtO<|f_ hr (E_ a_3 A_ z f9 z) ⟨(cM (cM (cM (e_ (cM (cM (e_ (e_ (cr [g1] w0) h1:Chg (· ∈ [g1]) w0 H) h2:Chg (· ∈ [g1]) w0 O) G (mor h1.s:∀k∈[H.z],k∈[g1]∨w0.z<=k):Chg (· ∈ [g1]) w0 V) h3 (io sr):Chg (· ∈ [g1]) w0 I) hx:Chg (· ∈ [g1]) w0 c4) hy cl:Chg (· ∈ [g1]) w0 L) ch (aa_ (io sr) cl):Chg (· ∈ [g1]) w0 f7) cj (mor lr:∀k∈[w0.z],k∈[g1]∨w0.z<=k):Chg (· ∈ [g1]) w0 f8),z,af,ap,ae,ah.c cj<|djs b5⟩
  rintro _ _ _ _ rfl ⟨rfl,cP⟩;have cQ:=elR bi;obtain rfl:=som cQ;exact ⟨cP,z⟩
 have bm:=ifF bh aF;refine Ws<|Rq z z z<|Rw z<|Wc z (fun aH=>?_) (fun aH=>?_)
 ·refine Wm z<|R z (lN (vs:=vR xh ao np cq ar ns ct au nv cw ai nj ck) I_ k_ z z fid<|hb.row 0 8 z)<|Rm z ?_
  have cm:∀k∈[H.z],¬B k:=or0 (b_ lr)<|i_<|zt' J h1.s;have cn:=(((h1.ag B).e h2).c G<|c_ cm).c h3<|c_<|b_ hBg
  have aw:=((h2.ag B).c G<|c_ cm).c h3<|c_<|b_ hBg
  obtain ⟨co,_,d9,cR⟩:=a_G<|ifT bm aH;refine E z (fc call100 z<|dT.run (B:=B) d9 ha (zt' J<|lt_ (lt_ (lt_ h1.s h2.s) G.s) h3.s) hBg (W.g cn) (Y.g cn) (iA _ _) a7 a8 hz (a1.g aw) (a9.g aw) (aa.g aw) (he.g aw) a0) ?_;rintro _ da ⟨cp,rfl,db,dc,dd,de⟩;have b6:=mmr<|Blk.lt hB1
  refine E0 (fs0 (cur':=[vI co.at_,vI co.code]) A_ z z ((((h6.e h2).c G<|djs<|mmr h6.lt).c h3<|atp b6).c cp<|atp b6) z z z z) ?_;rintro _ df ⟨dg,dh⟩;have cu:=dh.one;refine Wn ?_;obtain rfl:=som cR;exact Wr<|rtO<|f_ hr (E_ a_3 A_ z dg z) ⟨(cM (cM (cM (cM (e_ (e_ (cr [g1] w0) h1:Chg (· ∈ [g1]) w0 H) h2:Chg (· ∈ [g1]) w0 O) G (mor h1.s:∀k∈[H.z],k∈[g1]∨w0.z<=k):Chg (· ∈ [g1]) w0 V) h3 (io sr):Chg (· ∈ [g1]) w0 I) cp (io sr):Chg (· ∈ [g1]) w0 da) cu (mor lr:∀k∈[w0.z],k∈[g1]∨w0.z<=k):Chg (· ∈ [g1]) w0 df),z,db,dc,dd,de.c cu<|djs b6⟩
 have bn:=ifF bm aH;refine Ws<|Rq z z z<|Rw z<|Wc z (fun aI=>?_) (fun aI=>?_)
 ·refine Wm z<|R z (lN (vs:=vR xh ao np cq ar ns ct au nv cw ai nj ck) I_ k_ z z fid<|hb.row 0 8 z)<|Rm z ?_
  have cv:∀k∈[H.z],¬B k:=or0 (b_ lr)<|i_<|zt' J h1.s;have cx:=(((h1.ag B).e h2).c G<|c_ cv).c h3<|c_<|b_ hBg
  have ax:=((h2.ag B).c G<|c_ cv).c h3<|c_<|b_ hBg
  obtain ⟨cy,_,di,cS⟩:=a_G<|ifT bn aI;refine E z (fc call101 z<|dU.run (B:=B) di ha (zt' J<|lt_ (lt_ (lt_ h1.s h2.s) G.s) h3.s) hBg (W.g cx) (Y.g cx) (iA _ _) a7 a8 hz (a1.g ax) (a9.g ax) (aa.g ax) (he.g ax) a0) ?_;rintro _ dj ⟨cz,rfl,dk,dl,dm,dn⟩;have b7:=mmr<|Blk.lt hB1
  refine E0 (fs0 (cur':=[vI cy.at_,vI cy.code]) A_ z z ((((h6.e h2).c G<|djs<|mmr h6.lt).c h3<|atp b7).c cz<|atp b7) z z z z) ?_;rintro _ dp ⟨dq,dr⟩;have cA:=dr.one;refine Wn ?_;obtain rfl:=som cS;exact Wr<|rtO<|f_ hr (E_ a_3 A_ z dq z) ⟨(cM (cM (cM (cM (e_ (e_ (cr [g1] w0) h1:Chg (· ∈ [g1]) w0 H) h2:Chg (· ∈ [g1]) w0 O) G (mor h1.s:∀k∈[H.z],k∈[g1]∨w0.z<=k):Chg (· ∈ [g1]) w0 V) h3 (io sr):Chg (· ∈ [g1]) w0 I) cz (io sr):Chg (· ∈ [g1]) w0 dj) cA (mor lr:∀k∈[w0.z],k∈[g1]∨w0.z<=k):Chg (· ∈ [g1]) w0 dp),z,dk,dl,dm,dn.c cA<|djs b7⟩
 have bo:=ifF bn aI;refine Ws<|Rq z z z<|Rw z<|Wc z (fun aJ=>?_) (fun aJ=>?_)
 ·refine Wm z<|R z (lN (vs:=vR xh ao np cq ar ns ct au nv cw ai nj ck) I_ k_ z z fid<|hb.row 0 8 z)<|Rm z ?_
  have cB:∀k∈[H.z],¬B k:=or0 (b_ lr)<|i_<|zt' J h1.s;have cC:=(((h1.ag B).e h2).c G<|c_ cB).c h3<|c_<|b_ hBg
  have ay:=((h2.ag B).c G<|c_ cB).c h3<|c_<|b_ hBg
  obtain ⟨cD,_,dt,cT⟩:=a_G<|ifT bo aJ;refine E z (fc call102 z<|dV.run (B:=B) dt ha (zt' J<|lt_ (lt_ (lt_ h1.s h2.s) G.s) h3.s) hBg (W.g cC) (Y.g cC) (iA _ _) a7 a8 hz (a1.g ay) (a9.g ay) (aa.g ay) (he.g ay) a0) ?_;rintro _ du ⟨cE,rfl,dv,dw,dx,dy⟩;have b8:=mmr<|Blk.lt hB1
  refine E0 (fs0 (cur':=[vI cD.at_,vI cD.code]) A_ z z ((((h6.e h2).c G<|djs<|mmr h6.lt).c h3<|atp b8).c cE<|atp b8) z z z z) ?_;rintro _ dz ⟨dA,dB⟩;have cF:=dB.one;refine Wn ?_;obtain rfl:=som cT;exact Wr<|rtO<|f_ hr (E_ a_3 A_ z dA z) ⟨(cM (cM (cM (cM (e_ (e_ (cr [g1] w0) h1:Chg (· ∈ [g1]) w0 H) h2:Chg (· ∈ [g1]) w0 O) G (mor h1.s:∀k∈[H.z],k∈[g1]∨w0.z<=k):Chg (· ∈ [g1]) w0 V) h3 (io sr):Chg (· ∈ [g1]) w0 I) cE (io sr):Chg (· ∈ [g1]) w0 du) cF (mor lr:∀k∈[w0.z],k∈[g1]∨w0.z<=k):Chg (· ∈ [g1]) w0 dz),z,dv,dw,dx,dy.c cF<|djs b8⟩
 refine Wk<|Wq (Wd (X:=noX) 0 (pl_ 17 [9]) mo (by kernel_rfl) fun cG sg _=>dM z z z<|dR z z (a_0 z)<|dR z z (fd c_H z) ?_)
 have b9:=ha.e sg;refine dR z z (l0 Q_ z<|b9.at z)<|dM z z z<|dR z z (fd a_D z)<|dR z z (l0 Q_ z<|(hb.e sg).at z) ?_
 obtain ⟨_,dC,cU⟩:=bdS<|ifF bo aJ;have cH:∀k∈[H.z],¬B k:=or0 (b_ lr)<|i_<|zt' J h1.s;refine dRX z z (at_ (α:=UInt8) l_ z_5 z z z (a1.g<|(((h2.ag B).c G<|c_ cH).c h3<|c_<|b_ hBg).e sg) dC) ?_;rintro _ ⟨_,_,_,rfl,dD,dF,_⟩;obtain rfl:=u8 dF;refine dR z z (l0 g_5 z<|dD.at0 z) ?_;obtain ⟨_,cI,_,dG,bp⟩:=u_ cU;refine dE z z (fc call103 z<|W_w1y dG (zt' J<|lt_ (lt_ (lt_ (lt_ h1.s h2.s) G.s) h3.s) sg.s) (Y.g<|((((h1.ag B).e h2).c G<|c_ cH).c h3<|c_<|b_ hBg).e sg) a0) (.inr fun _ _ h=>B_<|h.1) ?_;rintro _ cJ ⟨a6,_,_,_,_,rfl,_,dH,_,_⟩;refine dM z z z ?_
 iterate 3 refine dR z z (ext_ z z) ?_
 iterate 3 refine dQ z z z ?_
 refine pD<|Wo<|Wq<|Wm z<|R z (not_ z)<|Wx z (fun aK=>?_) (fun aK=>?_)
 ·refine Wm z<|R z (bP (parts:=[(0,.tmp 141),(1,.const<|.int .i64 1)]) (cs:=[vI x3,vI 1]) b_w z z) ?_
  have cK:=mmr<|Blk.lt hB1
  refine E0 (fs0 (cur':=[vI x3,vI 1]) A_ z z (((((h6.e h2).c G<|djs<|mmr h6.lt).c h3<|atp cK).e sg).e a6) z z z z) ?_;rintro _ dI ⟨dJ,dK⟩;have cL:=dK.one;refine Wn ?_;obtain rfl:=som<|ifT bp aK;exact Wr<|f_ hr (E_ a_3 A_ z dJ z) ⟨(cM (e_ (e_ (cM (cM (e_ (e_ (cr [g1] w0) h1:Chg (· ∈ [g1]) w0 H) h2:Chg (· ∈ [g1]) w0 O) G (mor h1.s:∀k∈[H.z],k∈[g1]∨w0.z<=k):Chg (· ∈ [g1]) w0 V) h3 (io sr):Chg (· ∈ [g1]) w0 I) sg:Chg (· ∈ [g1]) w0 cG) a6:Chg (· ∈ [g1]) w0 cJ) cL (mor lr:∀k∈[w0.z],k∈[g1]∨w0.z<=k):Chg (· ∈ [g1]) w0 dI),z,a0,ii z,iA _ _,(b9.e a6).c cL<|djs cK⟩
 refine Wk<|Wm z<|R z (bP (parts:=[(0,.tmp 143),(1,.const<|.int .i64 0)]) (cs:=[vI cI,vI 0]) b_w z z) ?_
 have cN:=mmr<|Blk.lt hB1
 refine E0 (fs0 (cur':=[vI cI,vI 0]) A_ z z (((((h6.e h2).c G<|djs<|mmr h6.lt).c h3<|atp cN).e sg).e a6) z z z z) ?_;rintro _ dL ⟨dN,dO⟩;have cO:=dO.one;refine Wn ?_;obtain rfl:=som<|ifF bp aK;exact Wr<|f_ hr (E_ a_3 A_ z dN z) ⟨(cM (e_ (e_ (cM (cM (e_ (e_ (cr [g1] w0) h1:Chg (· ∈ [g1]) w0 H) h2:Chg (· ∈ [g1]) w0 O) G (mor h1.s:∀k∈[H.z],k∈[g1]∨w0.z<=k):Chg (· ∈ [g1]) w0 V) h3 (io sr):Chg (· ∈ [g1]) w0 I) sg:Chg (· ∈ [g1]) w0 cG) a6:Chg (· ∈ [g1]) w0 cJ) cO (mor lr:∀k∈[w0.z],k∈[g1]∨w0.z<=k):Chg (· ∈ [g1]) w0 dL),z,dH,ii z,iA _ _,(b9.e a6).c cO<|djs cN⟩
theorem T_w15 (ih:e_p n):i_F (f_T n<|a_h n):=by
 obtain ⟨aP,_,_,_,_⟩:=ih
 constructor
 intro A0 A5 A2 A4 A1 A3 N0 C0 N5 C5 g1 N2 C2 N4 C4 N1 C1 N3 C3 B x1 x2 x3 res w0 hm hB1 W hBg a2 a3 aE bw bx bz bA bB bC a4 a5;unfold f_T at hm
 refine goG func99 z z z fun fn hr=>Ws<|E z (fb z) ?_
 rintro _ J ⟨rfl,ab⟩;have h6:=ab.below;have ad:Blk J w0.z (vR x2 A2 N2 C2 A4 N4 C4 A1 N1 C1 A3 N3 C3):=ab.blk;refine E z (fa b_5) ?_;rintro _ wr ⟨rfl,ae⟩;have he:=ae.below;have hn:Blk wr J.z [vI 0,vI 0]:=ae.blk;refine Wn<|Wm z<|Rf z K_ z ?_
 have af:=ad.e he;refine R z (l0 z_ z<|af.at z) ?_;obtain ⟨_,aQ,aF⟩:=bdS hm;have ho:=(h6.ag B).e he;refine RX z (at_ (α:=Int) q_ z_3 z z z (a4.g ho) aQ) ?_;rintro _ ⟨_,_,_,rfl,aR,aS,_⟩;obtain ⟨rfl,aT⟩:=J_ aS;refine R z (l0 g_3 z<|aR.at0 z)<|Rm z ?_
 have hj:=lt_ h6.s he.s;obtain ⟨ah,rs,_,aU,aG⟩:=u_ aF;refine E z (fc call96 z<|h_e (B:=B) aU ((hB1.e h6).e he) (zt' W hj) hBg (a2.g ho) (a3.g ho) aE aT a5) ?_;rintro _ G ⟨I,rfl,aV,aW,aX,ai,aj⟩;refine Rm z<|Re z z z<|Re z z z<|E z (fa b_5) ?_
 rintro _ wu ⟨rfl,ak⟩;have O:=ak.below;refine Ra z<|E0 (fs0 (cur':=[vI rs.at_,vI rs.code]) A_ z z (ak.blk:Blk wu G.z [vI 0,vI 0]) z z z z) ?_
 rintro _ wg ⟨al,aY⟩;have V:=aY.one;refine Wn<|Wq<|Wq ?_
 obtain ⟨aZ,a6,a7⟩:=bdS aG;refine Wt (fun a w=>∃(xv:Bool),xv=aZ/\Sat 46 [(0,pt g1),(2,vI x3),(4,pt w0.z),(6,pt J.z),(7,vI ah),(8,pt G.z),(25,vB xv)] a/\Below wg.z wg w) ?_ ?_
 ·refine Wg<|Rf z c_r z<|R z (l0 g_3 z<|al.at z)<|Rq z z z<|Rm z ?_
  rcases bs (rs.code==0) with L | L
  ·exact Rh z L (mv z)<|Rh z L (a_d z z)<|R z (pT z L z)<|Wl (fun _ q=>⟨decide<|40<ah,som<|ifT a6 L,q.k<|s7 z z z z z z z,br wg⟩)
  exact Nh z L<|Nh z L<|R z (pF z L z)<|Wl (fun _ q=>⟨false,som<|ifF a6 L,q.k<|s7 z z z z z z z,br wg⟩)
 rintro b0 H ⟨xv,rfl,_,s4⟩;revert b0;refine Wo<|Wc z (fun hcw=>?_) (fun hcw=>?_)
 ·refine Wm z<|R z (bP (parts:=[(0,.tmp 26),(1,.const<|.int .i64 6)]) (cs:=[vI x3,vI 6]) b_w z z) ?_
  have am:=mm1 (Blk.lt hB1) h6.s;refine E0 (fs0 (cur':=[vI x3,vI 6]) A_ z z ((((hn.c I<|atp am).e O).c V<|djs<|mm1 hn.lt I.s).e s4) z z z z) ?_;rintro _ b3 ⟨b4,b5⟩;have an:=b5.one;refine Wn ?_;obtain rfl:=som<|ifT a7 hcw;have ao:=lt_ hj I.s;exact Wr<|f_ hr (E_ a_3 A_ z b4 z) ⟨(cM (e_ (cM (e_ (cM (e_ (e_ (cr [g1] w0) h6:Chg (· ∈ [g1]) w0 J) he:Chg (· ∈ [g1]) w0 wr) I (io sr):Chg (· ∈ [g1]) w0 G) O:Chg (· ∈ [g1]) w0 wu) V (mor ao:∀k∈[G.z],k∈[g1]∨w0.z<=k):Chg (· ∈ [g1]) w0 wg) s4:Chg (· ∈ [g1]) w0 H) an (mor h6.s:∀k∈[J.z],k∈[g1]∨w0.z<=k):Chg (· ∈ [g1]) w0 b3),z,a5,ii z,ai,(((aj.e O).c V<|djs<|mm1 (Blk.lt hB1) ao).e s4).c an<|djs am⟩
 refine Wk<|Wq ?_
 obtain ⟨_,aH,a8⟩:=bdS<|ifF a7 hcw;refine b_M (σ:=Int×Int×Int×Int) (ρ:=D_×Int) (fun s a w=>un4 (fun xa xf xb x5=>Sat 46 [(0,pt g1),(4,pt w0.z),(6,pt J.z),(7,vI xa),(8,pt G.z)] a/\Chg (· ∈ ([g1]++[G.z])) H w/\inI xa/\inI xf/\inI xb/\inI x5/\Blk w g1 [sl A0 N0 C0,sl A5 N5 C5,vI xf]/\Blk w G.z [vI xb,vI x5]) s) (fun s a w=>un4 (fun xa xf xb x5=>Sat 46 [(6,pt J.z),(8,pt G.z)] a/\Chg (· ∈ ([g1]++[G.z])) H w/\inI xa/\inI xf/\inI xb/\inI x5/\Blk w g1 [sl A0 N0 C0,sl A5 N5 C5,vI xf]/\Blk w G.z [vI xb,vI x5]) s) (rQ prog fn<|Q17 w0 g1 B A0 N0 C0 A5 N5 C5 x1) aH ?_ ?_ ?_ ?_
 ·exact fun _ q=>⟨q.k<|s5 z z z z z,cr ([g1]++[G.z]) H,aV,ai,aW,aX,((aj.e O).c V<|djs<|mm1 (Blk.lt hB1)<|lt_ hj I.s).e s4,al.e s4⟩
 ·rintro ⟨xa,xf,xb,x5⟩ _ wh _ ⟨aI,sk,ap,hp,hq,hx,ht,hl⟩ aJ;refine Wu ?_ aI;refine Wq<|Wq ?_
  obtain ⟨b6,a9,aa⟩:=bdS<|c_e aJ;refine Wt (fun a w=>∃(xy:Bool),xy=b6/\Sat 46 [(0,pt g1),(4,pt w0.z),(6,pt J.z),(7,vI xa),(8,pt G.z),(34,vB xy)] a/\Below wh.z wh w) ?_ ?_
  ·refine Wg<|Rm z<|R z (a_d z z)<|Rm z ?_
   rcases bs (decide<|0<xa) with hcc | hcc
   ·exact Rh z hcc (fd c_r z)<|Rh z hcc (l0 g_3 z<|hl.at z)<|Rh z hcc (eql z z)<|R z (pT z hcc z)<|Wl (fun _ q=>⟨x5==0,som<|ifT a9 hcc,q.k<|s6 z z z z z z,br wh⟩)
   iterate 3 refine Nh z hcc ?_
   exact R z (pF z hcc z)<|Wl (fun _ q=>⟨false,som<|ifF a9 hcc,q.k<|s6 z z z z z z,br wh⟩)
  rintro b7 aq ⟨xy,rfl,_,sd⟩;revert b7;refine Wo<|Wc z (fun hcz=>?_) (fun hcz=>?_)
  ·refine Wk<|Wq<|Wb (Wd (X:=noX) 384 (pl_ 9 [7,8]) mo (by kernel_rfl) fun b8 si _=>dM z z z<|dR z z (fd K_ z) ?_)
   have ar:=mmr<|Blk.lt hB1
   have au:=mm1 ad.lt<|lt_ he.s I.s
   refine dR z z (l0 z_ z<|(((((((af.c I<|atp ar).e O).c V<|djs au).e s4).c sk<|atp<|nmA ar<|ds au).e sd).e si).at z) ?_;obtain ⟨_,b9,aK⟩:=bdS<|ifT aa hcz;have Y:=lt_ hj I.s;have av:∀k∈[G.z],¬B k:=or0 (b_ lr)<|i_<|zt' W Y;have a0:=((((((ho.c I<|c_<|b_ hBg).e O).c V<|c_ av).e s4).c sk<|nmA (c_<|b_ hBg)<|c_ av).e sd).e si;refine dRX z z (at_ (α:=Int) q_ z_3 z z z (a4.g a0) b9) ?_;rintro _ ⟨_,_,_,rfl,ba,bb,_⟩;obtain ⟨rfl,bc⟩:=J_ bb;refine dR z z (l0 g_3 z<|ba.at0 z)<|dR z z (fd c_8 z) ?_
   have aw:=(hl.e sd).e si;refine dR z z (l0 g_3 z<|aw.at z) ?_;obtain ⟨rm,be,bf,aL⟩:=a_G aK;refine dE z z (fc call72 z<|aP.run (B:=B) bf ((ht.e sd).e si) (zt' W<|lt_ (lt_ (lt_ (lt_ (lt_ (lt_ Y O.s) V.s) s4.s) sk.s) sd.s) si.s) hBg (a2.g a0) (a3.g a0) hp bc hq) (.inl z) ?_;rintro _ bg ⟨ax,rfl,bh,bi,bj,bk⟩;have ay:=mm1 (Blk.lt hB1) Y;refine dE0 z (fs0 (cur':=[vI rm.at_,vI rm.code]) A_ z z (aw.c ax<|atp ay) z z z z) (.inl z) ?_;rintro _ bm ⟨bn,bo⟩;have az:=bo.one;refine pD<|Wo<|Wg<|Rm z<|R z (sb_ z z)<|Ra z<|Wl ?_
   exact fun _ q=>⟨(G_ xa 1,be,rm.at_,rm.code),(som aL).symm,⟨q.k<|s5 z z z z z,(cM (cM (e_ (e_ (cM (cr ([g1]++[G.z]) H) sk (aa_ (io<|r_ sr)<|io<|v_ sr):Chg (· ∈ ([g1]++[G.z])) H wh) sd:Chg (· ∈ ([g1]++[G.z])) H aq) si:Chg (· ∈ ([g1]++[G.z])) H b8) ax (io<|r_ sr):Chg (· ∈ ([g1]++[G.z])) H bg) az (io<|v_ sr):Chg (· ∈ ([g1]++[G.z])) H bm),iS _ _,bj,bh,bi,bk.c az<|djs ay,bn⟩⟩
  exact We<|fun _ q=>b_i (som<|ifF aa hcz).symm ⟨q.k<|s2 z z,(e_ (cM (cr ([g1]++[G.z]) H) sk (aa_ (io<|r_ sr)<|io<|v_ sr):Chg (· ∈ ([g1]++[G.z])) H wh) sd:Chg (· ∈ ([g1]++[G.z])) H aq),ap,hp,hq,hx,ht.e sd,hl.e sd⟩
 ·rintro ⟨xa,xf,xb,x5⟩ bp bq rfl ⟨_,aA,ap,hp,hq,hx,ht,hl⟩;have aM:=elL a8;revert bp;refine Wo<|Ws<|R z (lN (vs:=[vI xb,vI x5]) a_3 A_ z z fid<|hl.row 0 2 z) ?_
  have a1:=mm1 (Blk.lt hB1) h6.s;have aB:=mm1 hn.lt I.s;refine E0 (fs0 (cur':=[vI xb,vI x5]) A_ z z (((((hn.c I<|atp a1).e O).c V<|djs aB).e s4).c aA<|atp<|nmA a1<|ds aB) z z z z) ?_;rintro _ bt ⟨bu,bv⟩;have aC:=bv.one;refine Wn ?_;obtain rfl:=som<|c_e aM;have aD:∀k∈[G.z],k∈[g1]∨w0.z<=k:=mor<|lt_ hj I.s;exact Wr<|f_ hr (E_ a_3 A_ z bu z) ⟨(cM (cM (e_ (cM (e_ (cM (e_ (e_ (cr [g1] w0) h6:Chg (· ∈ [g1]) w0 J) he:Chg (· ∈ [g1]) w0 wr) I (io sr):Chg (· ∈ [g1]) w0 G) O:Chg (· ∈ [g1]) w0 wu) V aD:Chg (· ∈ [g1]) w0 wg) s4:Chg (· ∈ [g1]) w0 H) aA (aa_ (io sr) aD):Chg (· ∈ [g1]) w0 bq) aC (mor h6.s:∀k∈[J.z],k∈[g1]∨w0.z<=k):Chg (· ∈ [g1]) w0 bt),z,hq,hx,hp,ht.c aC<|djs a1⟩
 rintro _ _ _ _ rfl ⟨rfl,aN⟩;have aO:=elR a8;obtain rfl:=som aO;exact ⟨aN,z⟩
theorem T_w16 (ih:e_p n):i_G (f_U n<|a_h n):=by
 obtain ⟨aq,_,_,_,_⟩:=ih
 constructor
 intro A0 A5 A2 A4 A1 A3 N0 C0 N5 C5 g1 N2 C2 N4 C4 N1 C1 N3 C3 B x1 x2 x3 res w0 hm hB1 V hBg W Y ae b4 b5 b6 b7 b8 O a0 a1;unfold f_U at hm
 refine goG func100 z z z fun fn hr=>Ws<|E z (fb z) ?_
 rintro _ H ⟨rfl,hq⟩;have h1:=hq.below;have ht:Blk H w0.z (vR x2 A2 N2 C2 A4 N4 C4 A1 N1 C1 A3 N3 C3):=hq.blk;refine E z (fa b_5) ?_;rintro _ wc ⟨rfl,hu⟩;have h6:=hu.below;have L:Blk wc H.z [vI 0,vI 0]:=hu.blk;refine Wn<|Wm z<|Rf z K_ z ?_
 have hv:=ht.e h6;refine R z (l0 z_ z<|hv.at z) ?_;obtain ⟨_,ar,af⟩:=bdS hm;have he:=(h1.ag B).e h6;refine RX z (at_ (α:=Int) q_ z_3 z z z (a0.g he) ar) ?_;rintro _ ⟨_,_,_,rfl,au,av,_⟩;obtain ⟨rfl,aw⟩:=J_ av;refine R z (l0 g_3 z<|au.at0 z)<|Rm z ?_
 have hg:=lt_ h1.s h6.s;obtain ⟨ax,rb,_,ay,hmr⟩:=u_ af;refine E z (fc call96 z<|h_e (B:=B) ay ((hB1.e h1).e h6) (zt' V hg) hBg (W.g he) (Y.g he) ae aw a1) ?_;rintro _ I ⟨G,rfl,_,hw,az,hh,hi⟩;refine Rm z<|Re z z z<|Re z z z<|E z (fa b_5) ?_
 rintro _ wf ⟨rfl,hx⟩;have h2:=hx.below;refine Ra z<|E0 (fs0 (cur':=[vI rb.at_,vI rb.code]) A_ z z (hx.blk:Blk wf I.z [vI 0,vI 0]) z z z z) ?_
 rintro _ J ⟨hj,aA⟩;have h3:=aA.one;refine Wn<|Wq<|Ws<|Rf z c_r z<|R z (l0 g_3 z<|hj.at z)<|R z (nq z z)<|Wx z (fun hck=>?_) (fun hck=>?_)
 ·refine Ws<|R z (lN (vs:=[vI rb.at_,vI rb.code]) a_3 A_ z z fid<|hj.row 0 2 z) ?_
  have hy:=mm1 (Blk.lt hB1) h1.s;refine E0 (fs0 (cur':=[vI rb.at_,vI rb.code]) A_ z z (((L.c G<|atp hy).e h2).c h3<|djs<|mm1 L.lt G.s) z z z z) ?_;rintro _ aB ⟨aC,aD⟩;have hz:=aD.one;refine Wn ?_;obtain rfl:=som<|ifT hmr hck;have a3:=lt_ hg G.s;exact Wr<|f_ hr (E_ a_3 A_ z aC z) ⟨(cM (cM (e_ (cM (e_ (e_ (cr [g1] w0) h1:Chg (· ∈ [g1]) w0 H) h6:Chg (· ∈ [g1]) w0 wc) G (io sr):Chg (· ∈ [g1]) w0 I) h2:Chg (· ∈ [g1]) w0 wf) h3 (mor a3:∀k∈[I.z],k∈[g1]∨w0.z<=k):Chg (· ∈ [g1]) w0 J) hz (mor h1.s:∀k∈[H.z],k∈[g1]∨w0.z<=k):Chg (· ∈ [g1]) w0 aB),z,hw,az,hh,((hi.e h2).c h3<|djs<|mm1 (Blk.lt hB1) a3).c hz<|djs hy⟩
 refine Wk<|Wq<|Ws<|Rf z a_r z ?_
 have a4:=((hv.c G<|atp<|mmr<|Blk.lt hB1).e h2).c h3<|djs<|mm1 ht.lt<|lt_ h6.s G.s
 refine R z (l0 z_ z<|a4.at z) ?_;have hd:=lt_ hg G.s;have a5:=((he.c G<|c_<|b_ hBg).e h2).c h3<|c_ (or0 (b_ lr) (i_<|zt' V hd):∀k∈[I.z],¬B k)
 refine R z (lnR q_ z<|O.g a5)<|Rm z<|Wn ?_
 obtain ⟨_,ah,hms⟩:=bdS<|ifF hmr hck;refine Wf (σ:=Unit) (ρ:=D_×Int) (fun (a6:Nat)(_:Unit) a w=>Sat 49 [(0,pt g1),(2,vI x3),(4,pt w0.z),(6,pt H.z),(7,vI ax),(8,pt I.z),(26,sl A1 N1 C1),(27,vI (x2.tags.length:Int)),(28,vI ((a6:Nat):Int))] a/\Below J.z J w) (fun (_:Unit) a w=>Sat 49 [(2,vI x3),(6,pt H.z)] a/\Below J.z J w) (rQ prog fn<|Q17 w0 g1 B A0 N0 C0 A5 N5 C5 x1) ah ?_ ?_ ?_ ?_ ?_
 ·exact fun _ q=>⟨q.k<|s9 z z z z z z z z z,br J⟩
 ·rintro a6 _ _ aE _ hkl ⟨ai,s8⟩ aj;refine Wu ?_ ai;refine Ws<|Rl z z z<|Wn<|Wq<|Wc z (fun _=>?_) (fun hc=>(a_4 hkl hc).elim)
  refine Wk<|Wq<|Wb<|Wm z ?_
  obtain ⟨_,aF,a2⟩:=bdS aj;have a7:=a5.e s8;refine RX z (at_ (α:=Int) q_ z_3 z z z (O.g a7) aF) ?_;rintro _ ⟨_,_,_,rfl,aG,aH,_⟩;obtain ⟨rfl,_⟩:=J_ aH;refine R z (l0 g_3 z<|aG.at0 z)<|Ra z<|Rw z<|Wm z<|Rm z<|Rq z z z<|Wx z (fun hcm=>?_) (fun hcm=>?_)
  ·refine Wq (Wd (X:=noX) 1536 (pl_ 11 [9,10]) mo (by kernel_rfl) fun aI sa _=>dM z z z<|dR z z (fd K_ z)<|dR z z (l0 z_ z<|((a4.e s8).e sa).at z)<|dM z z z<|dR z z (inc_ hkl (lt_ (repS.len O) L_) z z) ?_);obtain ⟨_,aJ,ak⟩:=bdS<|ifT a2 hcm;have hn:=a7.e sa;refine dRX z z (at_ (α:=Int) q_ z_3 z z z (a0.g hn) aJ) ?_;rintro _ ⟨_,_,_,rfl,aK,aL,_⟩;obtain ⟨rfl,aM⟩:=J_ aL;refine dR z z (l0 g_3 z<|aK.at0 z)<|dR z z (fd c_8 z)<|dR z z (l0 g_3 z<|((hj.e s8).e sa).at z) ?_
   obtain ⟨a8,_,aN,al⟩:=a_G ak;refine dE z z (fc call72 z<|aq.run (B:=B) aN ((((hi.e h2).c h3<|djs<|mm1 (Blk.lt hB1) hd).e s8).e sa) (zt' V<|lt_ (lt_ (lt_ (lt_ hd h2.s) h3.s) s8.s) sa.s) hBg (W.g hn) (Y.g hn) hh aM hw) (.inl z) ?_;rintro _ aO ⟨a9,rfl,aP,aQ,aR,aS⟩;have ho:=mm1 (Blk.lt hB1) h1.s;refine dE0 z (fs0 (cur':=[vI a8.at_,vI a8.code]) A_ z z ((((((L.c G<|atp ho).e h2).c h3<|djs<|mm1 L.lt G.s).e s8).e sa).c a9<|atp ho) z z z z) (.inl z) ?_;rintro _ aT ⟨aU,aV⟩;have aa:=aV.one;refine pD<|Wo ?_
   exact Wr<|rtO<|qL (som al).symm<|f_ hr (E_ a_3 A_ z aU z) ⟨(cM (cM (e_ (e_ (cM (e_ (cM (e_ (e_ (cr [g1] w0) h1:Chg (· ∈ [g1]) w0 H) h6:Chg (· ∈ [g1]) w0 wc) G (io sr):Chg (· ∈ [g1]) w0 I) h2:Chg (· ∈ [g1]) w0 wf) h3 (mor hd:∀k∈[I.z],k∈[g1]∨w0.z<=k):Chg (· ∈ [g1]) w0 J) s8:Chg (· ∈ [g1]) w0 aE) sa:Chg (· ∈ [g1]) w0 aI) a9 (io sr):Chg (· ∈ [g1]) w0 aO) aa (mor h1.s:∀k∈[H.z],k∈[g1]∨w0.z<=k):Chg (· ∈ [g1]) w0 aT),z,aP,aQ,aR,aS.c aa<|djs ho⟩
  exact Wk<|Wg<|R z (inc_ hkl (lt_ (repS.len O) L_) z z)<|Rm z<|Wl (fun _ q=>⟨(),(som<|ifF a2 hcm).symm,⟨q.k<|s9 z z z z z z z z z,s8⟩⟩)
 ·rintro _ _ _ ⟨am,aW⟩;refine Wu ?_ am;refine Ws<|Rl z z z<|Wn<|Wq<|Wc z (fun hc=>(a_5 hc).elim) (fun _=>?_)
  exact We<|fun _ q=>⟨rfl,⟨q.k<|s2 z z,aW⟩⟩
 ·rintro _ aX aY rfl ⟨_,sp⟩;have an:=elL hms;revert aX;refine Wo<|Wm z<|R z (bP (parts:=[(0,.tmp 47),(1,.const<|.int .i64 3)]) (cs:=[vI x3,vI 3]) b_w z z) ?_
  have ab:=mm1 (Blk.lt hB1) h1.s;refine E0 (fs0 (cur':=[vI x3,vI 3]) A_ z z ((((L.c G<|atp ab).e h2).c h3<|djs<|mm1 L.lt G.s).e sp) z z z z) ?_;rintro _ aZ ⟨b0,b3⟩;have ad:=b3.one;refine Wn ?_;obtain rfl:=som an;exact Wr<|f_ hr (E_ a_3 A_ z b0 z) ⟨(cM (e_ (cM (e_ (cM (e_ (e_ (cr [g1] w0) h1:Chg (· ∈ [g1]) w0 H) h6:Chg (· ∈ [g1]) w0 wc) G (io sr):Chg (· ∈ [g1]) w0 I) h2:Chg (· ∈ [g1]) w0 wf) h3 (mor hd:∀k∈[I.z],k∈[g1]∨w0.z<=k):Chg (· ∈ [g1]) w0 J) sp:Chg (· ∈ [g1]) w0 aY) ad (mor h1.s:∀k∈[H.z],k∈[g1]∨w0.z<=k):Chg (· ∈ [g1]) w0 aZ),z,a1,ii z,hh,(((hi.e h2).c h3<|djs<|mm1 (Blk.lt hB1) hd).e sp).c ad<|djs ab⟩
 rintro _ _ _ _ rfl ⟨rfl,ao⟩;have ap:=elR hms;obtain rfl:=som ap;exact ⟨ao,z⟩
theorem T_w17 (ih:e_p n):i_H (f_V n<|a_h n):=by
 obtain ⟨af,_,_,_,_⟩:=ih
 constructor
 intro A0 A5 A2 A4 A1 A3 N0 C0 N5 C5 g1 N2 C2 N4 C4 N1 C1 N3 C3 B x1 x2 x3 res w0 hm hB1 V hBg a0 W Y aP aQ aR aS aT aU a9 a1;unfold f_V at hm
 refine goG func101 z z z fun fn hr=>Ws<|E z (fb z) ?_
 rintro _ J ⟨rfl,hq⟩;have h5:=hq.below;have ht:Blk J w0.z (vR x2 A2 N2 C2 A4 N4 C4 A1 N1 C1 A3 N3 C3):=hq.blk;refine E z (fa b_5) ?_;rintro _ we ⟨rfl,hu⟩;have L:=hu.below;have hc:Blk we J.z [vI 0,vI 0]:=hu.blk;refine Wn<|Wm z<|Rm z ?_
 have hf:=(hB1.e h5).e L;have hg:=(h5.ag B).e L;have hh:=lt_ h5.s L.s;obtain ⟨O,ah,aa⟩:=bdS hm;refine E z (fc call98 z<|f_q (B:=w0.z) ah (a_I hh) (repS.mono (a0.g hg) V) (repS.mono (W.g hg) V) Y (hf.row 0 3 z) (Blk.lt hB1) a1<|ii z) ?_;rintro _ I ⟨G,rfl,hv,ai⟩;refine E z (fa b_5) ?_;rintro _ wi ⟨rfl,hw⟩;have h2:=hw.below;refine E0 (fs0 (cur':=[vI O.at_,vI O.code]) A_ z z (hw.blk:Blk wi I.z [vI 0,vI 0]) z z z z) ?_;rintro _ wa ⟨hj,aj⟩;have h3:=aj.one;refine Wn<|Wq<|Wb<|Wq ?_
 obtain ⟨ak,hur,hms⟩:=bdS aa;refine Wt (fun a w=>∃(xk:Bool),xk=ak/\Sat 45 [(0,pt g1),(2,vI x3),(4,pt w0.z),(6,pt J.z),(7,pt I.z),(11,vB xk)] a/\Below wa.z wa w) ?_ ?_
 ·refine Wg<|Rf z c_r z<|R z (l0 g_3 z<|hj.at z)<|R z (nq z z)<|Rm z ?_
  rcases bs (O.code != 0) with H | H
  ·iterate 8 refine Nh z H ?_
   exact R z (pT z H z)<|Ra z<|Wl (fun _ q=>⟨true,som<|ifT hur H,q.k<|s6 z z z z z z,br wa⟩)
  refine Rh z H (mv z)<|Rh z H (a_0 z)<|Rh z H (fd c_H z) ?_
  have hx:=lt_ hh G.s;refine Rh z H (l0 Q_ z<|(((hf.e G).e h2).c h3<|djs<|mm1 (Blk.lt hB1) hx).at z)<|Rh z H (mv z) ?_
  obtain ⟨al,am,ab⟩:=bdS<|ifF hur H;refine RXg z z H z (at_ (α:=UInt8) l_ z_5 z z z (W.g<|((hg.e G).e h2).c h3<|c_ (or0 (b_ lr) (i_<|zt' V hx):∀k∈[I.z],¬B k)) am) ?_;rintro _ ⟨_,_,_,rfl,an,ao,_⟩;obtain rfl:=u8 ao;exact Rh z H (l0 g_5 z<|an.at0 z)<|Rh z H (eql z z)<|R z (pF z H z)<|Ra z<|Wl (fun _ q=>⟨(byteI al)==(byteI (0:UInt8)),som ab,q.k<|s6 z z z z z z,br wa⟩)
 rintro ap wl ⟨xk,rfl,_,s4⟩;revert ap;refine Wo<|Wc z (fun hcm=>?_) (fun hcm=>?_)
 ·refine Ws<|R z (lN (vs:=[vI O.at_,vI O.code]) a_3 A_ z z fid<|(hj.e s4).row 0 2 z)<|E0 (fs0 (cur':=[vI O.at_,vI O.code]) A_ z z ((((hc.e G).e h2).c h3<|djs<|mm1 hc.lt G.s).e s4) z z z z) ?_
  rintro _ aq ⟨ar,au⟩;have hy:=au.one;refine Wn ?_;obtain rfl:=som<|ifT hms hcm;have hz:=lt_ hh G.s;exact Wr<|rtO<|f_ hr (E_ a_3 A_ z ar z) ⟨(cM (e_ (cM (e_ (e_ (e_ (e_ (cr [g1] w0) h5:Chg (· ∈ [g1]) w0 J) L:Chg (· ∈ [g1]) w0 we) G:Chg (· ∈ [g1]) w0 I) h2:Chg (· ∈ [g1]) w0 wi) h3 (mor hz:∀k∈[I.z],k∈[g1]∨w0.z<=k):Chg (· ∈ [g1]) w0 wa) s4:Chg (· ∈ [g1]) w0 wl) hy (mor h5.s:∀k∈[J.z],k∈[g1]∨w0.z<=k):Chg (· ∈ [g1]) w0 aq),z,hv,ai,Y,((((hf.e G).e h2).c h3<|djs<|mm1 (Blk.lt hB1) hz).e s4).c hy<|djs<|mm1 (Blk.lt hB1) h5.s⟩
 refine Wm z<|R z (a_0 z)<|Rf z c_H z ?_
 have hd:=lt_ hh G.s;have hn:=(((hf.e G).e h2).c h3<|djs<|mm1 (Blk.lt hB1) hd).e s4;refine R z (l0 Q_ z<|hn.at z)<|Rm z ?_
 obtain ⟨_,av,a2⟩:=bdS<|ifF hms hcm;have a3:=(((hg.e G).e h2).c h3<|c_ (or0 (b_ lr) (i_<|zt' V hd):∀k∈[I.z],¬B k)).e s4;refine RX z (at_ (α:=UInt8) l_ z_5 z z z (W.g a3) av) ?_;rintro _ ⟨_,_,_,rfl,aw,ax,_⟩;obtain rfl:=u8 ax;refine R z (l0 g_5 z<|aw.at0 z)<|R z (a_d z z)<|Rw z<|Wc z (fun hco=>?_) (fun hco=>?_)
 ·refine Wm z<|R z (bP (parts:=[(0,.tmp 35),(1,.const<|.int .i64 4)]) (cs:=[vI x3,vI 4]) b_w z z)<|E0 (fs0 (cur':=[vI x3,vI 4]) A_ z z ((((hc.e G).e h2).c h3<|djs<|mm1 hc.lt G.s).e s4) z z z z) ?_
  rintro _ ay ⟨az,aA⟩;have a4:=aA.one;refine Wn ?_;obtain rfl:=som<|ifT a2 hco;exact Wr<|rtO<|f_ hr (E_ a_3 A_ z az z) ⟨(cM (e_ (cM (e_ (e_ (e_ (e_ (cr [g1] w0) h5:Chg (· ∈ [g1]) w0 J) L:Chg (· ∈ [g1]) w0 we) G:Chg (· ∈ [g1]) w0 I) h2:Chg (· ∈ [g1]) w0 wi) h3 (mor hd:∀k∈[I.z],k∈[g1]∨w0.z<=k):Chg (· ∈ [g1]) w0 wa) s4:Chg (· ∈ [g1]) w0 wl) a4 (mor h5.s:∀k∈[J.z],k∈[g1]∨w0.z<=k):Chg (· ∈ [g1]) w0 ay),z,a1,ii z,Y,hn.c a4<|djs<|mm1 (Blk.lt hB1) h5.s⟩
 refine Wk<|Wq (Wd (X:=noX) 384 (pl_ 9 [7,8]) mo (by kernel_rfl) fun aB sb _=>dM z z z<|dR z z (fd K_ z)<|dR z z (l0 z_ z<|((((((ht.e L).e G).e h2).c h3<|djs<|mm1 ht.lt<|lt_ L.s G.s).e s4).e sb).at z) ?_)
 obtain ⟨_,aC,ad⟩:=bdS<|ifF a2 hco;have hp:=a3.e sb;refine dRX z z (at_ (α:=Int) q_ z_3 z z z (a9.g hp) aC) ?_;rintro _ ⟨_,_,_,rfl,aD,aE,_⟩;obtain ⟨rfl,aF⟩:=J_ aE;refine dR z z (l0 g_3 z<|aD.at0 z)<|dR z z (fd c_8 z)<|dR z z (l0 g_3 z<|((hj.e s4).e sb).at z) ?_
 obtain ⟨a5,_,aG,ae⟩:=a_G ad;refine dE z z (fc call72 z<|af.run (B:=B) aG (hn.e sb) (zt' V<|lt_ (lt_ (lt_ (lt_ hd h2.s) h3.s) s4.s) sb.s) hBg (a0.g hp) (W.g hp) Y aF hv) (.inl z) ?_;rintro _ aH ⟨a6,rfl,aI,aJ,aK,aL⟩;have a7:=mm1 (Blk.lt hB1) h5.s;refine dE0 z (fs0 (cur':=[vI a5.at_,vI a5.code]) A_ z z ((((((hc.e G).e h2).c h3<|djs<|mm1 hc.lt G.s).e s4).e sb).c a6<|atp a7) z z z z) (.inl z) ?_;rintro _ aM ⟨aN,aO⟩;have a8:=aO.one;refine pD<|Wo ?_
 obtain rfl:=som ae;exact Wr<|f_ hr (E_ a_3 A_ z aN z) ⟨(cM (cM (e_ (e_ (cM (e_ (e_ (e_ (e_ (cr [g1] w0) h5:Chg (· ∈ [g1]) w0 J) L:Chg (· ∈ [g1]) w0 we) G:Chg (· ∈ [g1]) w0 I) h2:Chg (· ∈ [g1]) w0 wi) h3 (mor hd:∀k∈[I.z],k∈[g1]∨w0.z<=k):Chg (· ∈ [g1]) w0 wa) s4:Chg (· ∈ [g1]) w0 wl) sb:Chg (· ∈ [g1]) w0 aB) a6 (io sr):Chg (· ∈ [g1]) w0 aH) a8 (mor h5.s:∀k∈[J.z],k∈[g1]∨w0.z<=k):Chg (· ∈ [g1]) w0 aM),z,aI,aJ,aK,aL.c a8<|djs a7⟩
theorem T_w18 (ih:e_p n):i_I (f_W n<|a_h n):=by
 obtain ⟨aw,_,_,_,_⟩:=ih
 constructor
 intro A0 A5 A2 A4 A1 A3 N0 C0 N5 C5 g1 N2 C2 N4 C4 N1 C1 N3 C3 B x1 x2 x3 res w0 hm hB1 L hBg V O am b4 b5 b6 b7 b8 b9 an ao;unfold f_W at hm
 refine goG func102 z z z fun fn hr=>Ws<|E z (fb z) ?_
 rintro _ I ⟨rfl,a1⟩;have h4:=a1.below;refine E z (fa b_5) ?_;rintro _ wj ⟨rfl,a2⟩;have hd:=a2.below;have ha:Blk wj I.z [vI 0,vI 0]:=a2.blk;refine Wn<|Wm z<|Rf z K_ z<|R z (l0 z_ z<|((a1.blk:Blk I w0.z (vR x2 A2 N2 C2 A4 N4 C4 A1 N1 C1 A3 N3 C3)).e hd).at z) ?_
 obtain ⟨_,ax,ap⟩:=bdS hm;have hk:=(h4.ag B).e hd;refine RX z (at_ (α:=Int) q_ z_3 z z z (an.g hk) ax) ?_;rintro _ ⟨_,_,_,rfl,ay,az,_⟩;obtain ⟨rfl,aA⟩:=J_ az;refine R z (l0 g_3 z<|ay.at0 z)<|Rm z ?_
 have hq:=lt_ h4.s hd.s;obtain ⟨rb,_,aB,W⟩:=a_G ap;refine E z (fc call72 z<|aw.run (B:=B) aB ((hB1.e h4).e hd) (zt' L hq) hBg (V.g hk) (O.g hk) am aA ao) ?_;rintro _ J ⟨s2,rfl,ht,aC,hl,a3⟩;refine E z (fa b_5) ?_;rintro _ wm ⟨rfl,a4⟩;have h5:=a4.below;have hu:Blk wm J.z [vI 0,vI 0]:=a4.blk;refine E0 (fs0 (cur':=[vI rb.at_,vI rb.code]) A_ z z hu z z z z) ?_;rintro _ wr ⟨hh,aD⟩;have h3:=aD.one;refine Wn<|Wq<|Ws<|Rf z c_r z<|R z (l0 g_3 z<|hh.at z)<|R z (nq z z)<|Wx z (fun hcs=>?_) (fun hcs=>?_)
 ·refine Ws<|R z (lN (vs:=[vI rb.at_,vI rb.code]) a_3 A_ z z fid<|hh.row 0 2 z) ?_
  have a5:=mm1 (Blk.lt hB1) h4.s;refine E0 (fs0 (cur':=[vI rb.at_,vI rb.code]) A_ z z (((ha.c s2<|atp a5).e h5).c h3<|djs<|mm1 ha.lt s2.s) z z z z) ?_;rintro _ aE ⟨aF,aG⟩;have a6:=aG.one;refine Wn ?_;obtain rfl:=som<|ifT W hcs;have a7:=lt_ hq s2.s;exact Wr<|f_ hr (E_ a_3 A_ z aF z) ⟨(cM (cM (e_ (cM (e_ (e_ (cr [g1] w0) h4:Chg (· ∈ [g1]) w0 I) hd:Chg (· ∈ [g1]) w0 wj) s2 (io sr):Chg (· ∈ [g1]) w0 J) h5:Chg (· ∈ [g1]) w0 wm) h3 (mor a7:∀k∈[J.z],k∈[g1]∨w0.z<=k):Chg (· ∈ [g1]) w0 wr) a6 (mor h4.s:∀k∈[I.z],k∈[g1]∨w0.z<=k):Chg (· ∈ [g1]) w0 aE),z,ht,aC,hl,((a3.e h5).c h3<|djs<|mm1 (Blk.lt hB1) a7).c a6<|djs a5⟩
 refine Wk<|Wm z<|Rf z c_8 z<|R z (l0 g_3 z<|hh.at z) ?_
 have hi:=lt_ hq s2.s;have hn:=(a3.e h5).c h3<|djs<|mm1 (Blk.lt hB1) hi
 have hv:=((hk.c s2<|c_<|b_ hBg).e h5).c h3<|c_ (or0 (b_ lr) (i_<|zt' L hi):∀k∈[J.z],¬B k)
 have ho:=lt_ (lt_ hi h5.s) h3.s;obtain ⟨re,aH,aq⟩:=bdS<|ifF W hcs;refine E z (fc call98 z<|f_q (B:=w0.z) aH (a_I ho) (repS.mono (V.g hv) L) (repS.mono (O.g hv) L) hl (hn.row 0 3 z) (Blk.lt hB1) ht<|ii z) ?_;rintro _ wf ⟨s1,rfl,aI,aJ⟩;refine E z (fa b_5) ?_;rintro _ ww ⟨rfl,a8⟩;have h6:=a8.below;refine E0 (fs0 (cur':=[vI re.at_,vI re.code]) A_ z z (a8.blk:Blk ww wf.z [vI 0,vI 0]) z z z z) ?_;rintro _ wp ⟨a9,aK⟩;have H:=aK.one;refine Wn<|Wq<|Wq ?_
 obtain ⟨aL,Y,a0⟩:=bdS aq;refine Wt (fun a w=>∃(xx:Bool),xx=aL/\Sat 52 [(6,pt I.z),(7,pt J.z),(8,pt wf.z),(47,vB xx)] a/\Below wp.z wp w) ?_ ?_
 ·refine Wd (X:=noX) 0 (pl_ 24 [21]) mo (by kernel_rfl) fun ba sg _=>dR z z (fd c_r z)<|dR z z (l0 g_3 z<|(a9.e sg).at z)<|dR z z (eql z z)<|dM z z z ?_
  rcases bs (re.code==0) with G | G
  ·refine dRg z z z G z (mv z)<|dRg z z z G z (a_0 z)<|dRg z z z G z (fd c_H z) ?_
   have hy:=lt_ ho s1.s;have aa:=(((hn.e s1).e h6).c H<|djs<|mm1 (Blk.lt hB1) hy).e sg;refine dRg z z z G z (l0 Q_ z<|aa.at z)<|dRg z z z G z (fd c_8 z) ?_
   have ab:=(((hh.e s1).e h6).c H<|djs<|mm1 hu.lt<|lt_ h3.s s1.s).e sg;refine dRg z z z G z (l0 g_3 z<|ab.at z) ?_;obtain ⟨aM,aN,ar⟩:=bdS<|ifT Y G;have ad:=O.g<|(((hv.e s1).e h6).c H<|c_ (or0 (b_ lr) (i_<|zt' L hy):∀k∈[wf.z],¬B k)).e sg
   refine b_W z z z G z (at_ (α:=UInt8) l_ z_5 z z z ad aN) ?_;rintro _ ⟨_,_,_,rfl,aO,aP,_⟩;obtain rfl:=u8 aP;refine dRg z z z G z (l0 g_5 z<|aO.at0 z)<|dRg z z z G z (b_A d_5 d_3 z)<|dRg z z z G z (mv z)<|dRg z z z G z (a_0 z)<|dRg z z z G z (fd c_H z)<|dRg z z z G z (l0 Q_ z<|aa.at z)<|dRg z z z G z (mv z)<|dRg z z z G z (fd c_8 z)<|dRg z z z G z (l0 g_3 z<|ab.at z) ?_
   obtain ⟨_,aQ,au⟩:=bdS ar;refine b_W z z z G z (rX l_ z_5 z z ad z z aQ) ?_;rintro _ ⟨_,_,_,rfl,aR⟩;obtain ⟨aS,aT,av⟩:=bdS au;refine dEg z z z G z (fc call111 z<|W_w1x aT (zt' L<|lt_ (lt_ (lt_ hy h6.s) H.s) sg.s) aR) (.inr fun _ _ h=>B_<|h.1) ?_;rintro _ _ ⟨aU,rfl,_⟩;exact dRg z z z G z (nq z z)<|dR z z (pT z G z)<|pD (fun _ q=>⟨(byteI aM) != aS,som av,q.k<|s4 z z z z,bup sg aU⟩)
  iterate 17 refine dRn z z z G z ?_
  exact dEn z z z G z<|dRn z z z G z<|dR z z (pF z G z)<|pD (fun _ q=>⟨false,som<|ifF Y G,q.k<|s4 z z z z,sg⟩)
 rintro aV ae ⟨xx,rfl,_,sc⟩;revert aV;refine Wo<|Wc z (fun hcz=>?_) (fun hcz=>?_)
 ·refine Ws<|Rf z c_8 z<|R z (l0 g_3 z<|((((hh.e s1).e h6).c H<|djs<|mm1 hu.lt<|lt_ h3.s s1.s).e sc).at z)<|R z (bP (parts:=[(0,.tmp 49),(1,.const<|.int .i64 5)]) (cs:=[vI rb.at_,vI 5]) b_w z z) ?_
  have af:=mm1 (Blk.lt hB1) h4.s;refine E0 (fs0 (cur':=[vI rb.at_,vI 5]) A_ z z (((((((ha.c s2<|atp af).e h5).c h3<|djs<|mm1 ha.lt s2.s).e s1).e h6).c H<|djs<|mm1 ha.lt<|lt_ (lt_ (lt_ s2.s h5.s) h3.s) s1.s).e sc) z z z z) ?_;rintro _ aW ⟨aX,aY⟩;have ah:=aY.one;refine Wn ?_;obtain rfl:=som<|ifT a0 hcz;have ai:=lt_ ho s1.s;exact Wr<|f_ hr (E_ a_3 A_ z aX z) ⟨(cM (e_ (cM (e_ (e_ (cM (e_ (cM (e_ (e_ (cr [g1] w0) h4:Chg (· ∈ [g1]) w0 I) hd:Chg (· ∈ [g1]) w0 wj) s2 (io sr):Chg (· ∈ [g1]) w0 J) h5:Chg (· ∈ [g1]) w0 wm) h3 (mor hi:∀k∈[J.z],k∈[g1]∨w0.z<=k):Chg (· ∈ [g1]) w0 wr) s1:Chg (· ∈ [g1]) w0 wf) h6:Chg (· ∈ [g1]) w0 ww) H (mor ai:∀k∈[wf.z],k∈[g1]∨w0.z<=k):Chg (· ∈ [g1]) w0 wp) sc:Chg (· ∈ [g1]) w0 ae) ah (mor h4.s:∀k∈[I.z],k∈[g1]∨w0.z<=k):Chg (· ∈ [g1]) w0 aW),z,ht,ii z,hl,((((hn.e s1).e h6).c H<|djs<|mm1 (Blk.lt hB1) ai).e sc).c ah<|djs af⟩
 refine Wk<|Ws<|R z (lN (vs:=[vI re.at_,vI re.code]) a_3 A_ z z fid<|(a9.e sc).row 0 2 z) ?_
 have aj:=mm1 (Blk.lt hB1) h4.s;refine E0 (fs0 (cur':=[vI re.at_,vI re.code]) A_ z z (((((((ha.c s2<|atp aj).e h5).c h3<|djs<|mm1 ha.lt s2.s).e s1).e h6).c H<|djs<|mm1 ha.lt<|lt_ (lt_ (lt_ s2.s h5.s) h3.s) s1.s).e sc) z z z z) ?_;rintro _ aZ ⟨b0,b3⟩;have ak:=b3.one;refine Wn ?_;obtain rfl:=som<|ifF a0 hcz;have al:=lt_ ho s1.s;exact Wr<|f_ hr (E_ a_3 A_ z b0 z) ⟨(cM (e_ (cM (e_ (e_ (cM (e_ (cM (e_ (e_ (cr [g1] w0) h4:Chg (· ∈ [g1]) w0 I) hd:Chg (· ∈ [g1]) w0 wj) s2 (io sr):Chg (· ∈ [g1]) w0 J) h5:Chg (· ∈ [g1]) w0 wm) h3 (mor hi:∀k∈[J.z],k∈[g1]∨w0.z<=k):Chg (· ∈ [g1]) w0 wr) s1:Chg (· ∈ [g1]) w0 wf) h6:Chg (· ∈ [g1]) w0 ww) H (mor al:∀k∈[wf.z],k∈[g1]∨w0.z<=k):Chg (· ∈ [g1]) w0 wp) sc:Chg (· ∈ [g1]) w0 ae) ak (mor h4.s:∀k∈[I.z],k∈[g1]∨w0.z<=k):Chg (· ∈ [g1]) w0 aZ),z,aI,aJ,hl,((((hn.e s1).e h6).c H<|djs<|mm1 (Blk.lt hB1) al).e sc).c ak<|djs aj⟩
theorem c_s:∀n,e_p n
  | 0=>⟨⟨fun hm=>by intros;exact nomatch (show none=some _ from hm)⟩,⟨fun hm=>by intros;exact nomatch (show none=some _ from hm)⟩,⟨fun hm=>by intros;exact nomatch (show none=some _ from hm)⟩,⟨fun hm=>by intros;exact nomatch (show none=some _ from hm)⟩,⟨fun hm=>by intros;exact nomatch (show none=some _ from hm)⟩⟩
  | n+1=>⟨T_w03<|c_s n,T_w15<|c_s n,T_w16<|c_s n,T_w17<|c_s n,T_w18<|c_s n⟩
theorem W_w03:i_E (a_h n).impl_checker_value:=(c_s n).1
theorem W_w15:i_F (a_h n).impl_checker_array:=(c_s n).2.1
theorem W_w16:i_G (a_h n).impl_checker_choice:=(c_s n).2.2.1
theorem W_w17:i_H (a_h n).impl_checker_option:=(c_s n).2.2.2.1
theorem W_w18:i_I (a_h n).impl_checker_checked:=(c_s n).2.2.2.2
def Q18 (w0:World)(B:Zone)(r:Int×Int)(v:Value)(w':World):Prop:=Bw w0 w'/\un2 (fun G H=>v = .tuple #[vI G,vI H]/\inI G/\inI H) r
theorem i_J {x1:d_}{x2:Int}{x3:List UInt8}{x4:Int}{res:Int×Int}(hm:c_N n x1 x2 x3 x4=some res)(J:B<=w0.z)(Y:repS w0 B (sl A0 N0 C0) x1.rules)(a0:inI x2)(a1:repS w0 B (sl A7 N7 C7) x3)(a2:inI x4):j_ prog 45 [(.agg #[sl A0 N0 C0]),vI x2,sl A7 N7 C7,vI x4] w0 (Q18 w0 B res):=by
 unfold c_N at hm
 refine goG func45 z z z fun fn hr=>Ws<|E z (fb z) ?_
 rintro _ O ⟨rfl,hb⟩;have h3:=hb.below;have hc:Blk O w0.z [sl A0 N0 C0]:=hb.blk;refine Ra z<|Rw z<|Wq<|Wq ?_
 obtain ⟨ur,hus,hmd⟩:=bdS hm;refine Wt (fun a w=>∃(V:Bool),V=ur/\Sat 43 [(1,vI x2),(2,sl A7 N7 C7),(3,vI x4),(4,pt w0.z),(30,vB V)] a/\Below O.z O w) ?_ ?_
 ·refine Wg<|R z (lN (vs:=[sl A0 N0 C0]) s_ p_ z z fid<|hc.row 0 1 z)<|Rm z ?_
  obtain ⟨rt,eu,hme⟩:=bdS hus;refine E z (fc call61 z<|i_C eu (zt' J h3.s) (Y.e h3) a0) ?_;rintro _ _ ⟨s4,rfl⟩;refine R z (not_ z)<|Rm z ?_
  rcases bs (!rt) with H | H
  ·exact Nh z H<|Nh z H<|R z (pT z H z)<|Rm z<|Nh z z<|Nh z z<|Nh z z<|Nh z z<|R z (pT z z z)<|Rm z<|Nh z z<|Nh z z<|Nh z z<|R z (pT z z z)<|Wl (fun _ q=>⟨true,som<|ifT hme H,q.k<|s5 z z z z z,s4⟩)
  have hmf:=ifF hme H;refine Rh z H (mv z)<|Rh z H (lss z z)<|R z (pF z H z)<|Rm z ?_
  rcases bs (decide<|x4<0) with G | G
  ·iterate 4 refine Nh z G ?_
   exact R z (pT z G z)<|Rm z<|Nh z z<|Nh z z<|Nh z z<|R z (pT z z z)<|Wl (fun _ q=>⟨true,som<|ifT hmf G,q.k<|s5 z z z z z,s4⟩)
  have hmg:=ifF hmf G;refine Rh z G (mv z)<|Rh z G (mv z) ?_
  have hh:=a1.g<|(h3.ag B).e s4
  refine Rh z G (lnR l_ z hh)<|Rh z G (a_d z z)<|R z (pF z G z)<|Rm z ?_
  rcases bs (decide<|(x3.length:Int)<x4) with I | I
  ·iterate 3 refine Nh z I ?_
   exact R z (pT z I z)<|Wl (fun _ q=>⟨true,som<|ifT hmg I,q.k<|s5 z z z z z,s4⟩)
  exact Rh z I (mv z)<|Rh z I (lnR l_ z hh)<|Rh z I (a_d z z)<|R z (pF z I z)<|Wl (fun _ q=>⟨decide<|400<(x3.length:Int),som<|ifF hmg I,q.k<|s5 z z z z z,s4⟩)
 rintro av wi ⟨V,rfl,_,s6⟩;revert av;refine Wo<|Wc z (fun L=>?_) (fun L=>?_)
 ·refine Ws<|Ra z<|Rw z ?_
  obtain rfl:=som<|ifT hmd L;exact Wr<|b_C hr z z ⟨bup h3 s6,z,ii z,ii z⟩
 refine Wk<|Ws<|R z (lN (vs:=[sl A0 N0 C0]) s_ p_ z z fid<|(hc.e s6).row 0 1 z)<|Rm z<|R z (bP (parts:=[(0,.tmp 31),(1,.tmp 32)]) (cs:=[sl A0 N0 C0,sl A7 N7 C7,vI 0]) n_T z z)<|E z (fb z) ?_
 rintro _ ww ⟨rfl,hj⟩;have W:=hj.below;refine Rw z<|Wm z<|RM z z ?_
 have hk:=((h3.ag B).e s6).e W;have ha:=lt_ h3.s s6.s;have hl:=lt_ ha W.s;obtain ⟨rm,_,ez,a3⟩:=a_G<|ifF hmd L;refine E z (fc call72 z<|W_w03.run (B:=B) ez (hj.blk:Blk ww wi.z [sl A0 N0 C0,sl A7 N7 C7,vI 0]) (zt' J hl) (atp (or0 (b_ lr) (i_<|zt' J ha):∀k∈[wi.z],¬B k)) (Y.g hk) (a1.g hk) (ii z) a0 a2) ?_;rintro _ a4 ⟨sn,rfl,a5,a6,_,_⟩;refine E z (fa b_5) ?_;rintro _ a7 ⟨rfl,ho⟩;refine E0 (fs0 (cur':=[vI rm.at_,vI rm.code]) A_ z z (ho.blk:Blk a7 a4.z [vI 0,vI 0]) z z z z) ?_;rintro _ _ ⟨a8,a9⟩;refine Wn<|Wq (Wd (X:=noX) 0 (pl_ 6 []) mo (by kernel_rfl) fun aa sp _=>dR z z (fd c_8 z) ?_)
 have hq:=a8.e sp;refine dR z z (l0 g_3 z<|hq.at z)<|dR z z (fd c_r z)<|dR z z (l0 g_3 z<|hq.at z)<|dQ z z z<|dQ z z z<|pD<|Wo ?_
 obtain rfl:=som a3;exact Wr<|b_C hr z z ⟨bup (bM (bup (bM (bup (bup h3 s6) W) sn<|m1 ha) ho.below) a9.one<|m1<|lt_ hl sn.s) sp,z,a5,a6⟩
theorem i_K {x1:d_}{x2:List UInt8}{res:Int×Int}(hm:d_v n x1 x2=some res)(Y:B<=w0.z)(V:repS w0 B (sl A0 N0 C0) x1.rules)(W:repS w0 B (sl A6 N6 C6) x2):j_ prog 18 [(.agg #[sl A0 N0 C0]),sl A6 N6 C6] w0 (Q18 w0 B res):=by
 unfold d_v at hm
 refine goG func18 z z z fun fn hr=>Ws<|E z (fb z) ?_
 rintro _ wj ⟨rfl,hb⟩;have h3:=hb.below;refine Ra z<|Rw z<|Wq (Wd (X:=noX) 0 (.rd 0<|.rd 1<|.rd 3<|.ef 2<|.ef 4<|.rd 5<|.rd 6<|.rd 7<|.rd 8<|.rd 9 .done) mo (by kernel_rfl) fun ws s1 _=>?_)
 have hc:=(hb.blk:Blk wj w0.z [sl A0 N0 C0]).e s1;refine dR z z (lN (vs:=[sl A0 N0 C0]) s_ p_ z z fid<|hc.row 0 1 z)<|dR z z (lN (vs:=[sl A0 N0 C0]) s_ p_ z z fid<|hc.row 0 1 z)<|dM z z z ?_
 have hd:=(h3.ag B).e s1;have he:=lt_ h3.s s1.s;obtain ⟨_,el,hmm⟩:=bdS hm;refine dE z z (fc call19 z<|h_d el (zt' Y he)<|V.g hd) (.inr fun _ _ h=>B_<|h.1) ?_;rintro _ _ ⟨s4,rfl,hn⟩;have L:=hd.e s4;obtain ⟨I,H,eo,hmp⟩:=a_G hmm;refine dE z z (fc call45 z<|i_J eo (zt' Y<|lt_ he s4.s) (V.g L) hn (W.g L)<|ii z) (.inr fun _ _ h=>B_<|h.1) ?_;rintro _ J ⟨s8,rfl,hf,hq⟩;refine dM z z z<|dR z z (ext_ z z)<|dR z z (ext_ z z)<|dQ z z z<|dQ z z z<|pD<|Wo<|Wq<|Wq ?_
 obtain ⟨ur,hug,hmh⟩:=bdS hmp;refine Wt (fun a w=>∃(O:Bool),O=ur/\Sat 30 [(6,vI I),(7,vI H),(26,vB O)] a/\Below J.z J w) ?_ ?_
 ·refine Wg<|RM z z<|R z (bP (parts:=[(0,.tmp 16),(1,.tmp 17)]) (cs:=[vI I,vI H]) b_w z z)<|Rm z<|R z (lnR l_ z<|W.g<|L.e s8)<|R z (bP (parts:=[(0,.tmp 20),(1,.const<|.int .i64 0)]) (cs:=[vI (x2.length:Int),vI 0]) b_w z z)<|R z (j_k (a:=((⟨I,H⟩:D_):D_)) (b:=((⟨(x2.length:Int),0⟩:D_):D_)) eqa_81 z z)<|Rm z ?_
  rcases bs (!decide (((⟨I,H⟩:D_):D_)=((⟨(x2.length:Int),0⟩:D_):D_))) with G | G
  ·exact Rh z G (mv z)<|Rh z G (eql z z)<|R z (pT z G z)<|Wl (fun _ q=>⟨H==0,som<|ifT hug G,q.k<|s3 z z z,br J⟩)
  exact Nh z G<|Nh z G<|R z (pF z G z)<|Wl (fun _ q=>⟨false,som<|ifF hug G,q.k<|s3 z z z,br J⟩)
 rintro au _ ⟨O,rfl,_,si⟩;revert au;refine Wo<|Wc z (fun hca=>?_) (fun hca=>?_)
 ·refine Wm z<|Ra z<|Rw z ?_
  obtain rfl:=som<|ifT hmh hca;exact Wr<|b_C hr z z ⟨bup (bup (bup (bup h3 s1) s4) s8) si,z,hf,ii z⟩
 refine Wk<|Wm z<|Rm z<|Ra z<|Rw z ?_
 obtain rfl:=som<|ifF hmh hca;exact Wr<|b_C hr z z ⟨bup (bup (bup (bup h3 s1) s4) s8) si,z,hf,hq⟩
theorem h_f {x1:Int}{res:Str}(hm:c_a x1=some res)(H:B<=w0.z)(hG:Gl w0 B)(G:inI x1):j_ prog 29 [vI x1] w0 (Q4 w0 B res):=by
 unfold c_a at hm
 refine goG func29 z z z fun fn hr=>Ws<|Rw z<|Wm z ?_
 obtain ⟨_,J,I⟩:=bdS hm;refine E z (fc call57 z<|n_F (B:=B) J H hG G) ?_;rintro _ _ ⟨s2,rfl,h3⟩;refine Rw z ?_
 obtain rfl:=som I;exact Wr<|f_ hr z ⟨s2,z,h3⟩
theorem W_w1z {x1:d_}{x2:Int}{x3:Int}{res:Str}(hm:e_y n x1 x2 x3=some res)(J:B<=w0.z)(hG:Gl w0 B)(W:repS w0 B (sl A0 N0 C0) x1.rules)(ae:inI x2)(af:inI x3):j_ prog 73 [(.agg #[sl A0 N0 C0]),vI x2,vI x3] w0 (Q4 w0 B res):=by
 unfold e_y at hm
 refine goG func73 z z z fun fn hr=>Ws<|E z (fb z) ?_
 rintro _ wb ⟨rfl,hn⟩;have G:=hn.below;have ho:Blk wb w0.z [sl A0 N0 C0]:=hn.blk;refine Rw z<|Wq<|Wq ?_
 obtain ⟨ak,ah,hmp⟩:=bdS hm;refine Wt (fun a w=>∃(xc:Bool),xc=ak/\Sat 58 [(1,vI x2),(2,vI x3),(3,pt w0.z),(15,vB xc)] a/\Below wb.z wb w) ?_ ?_
 ·refine Wg<|R z (lN (vs:=[sl A0 N0 C0]) s_ p_ z z fid<|ho.row 0 1 z)<|Rm z ?_
  obtain ⟨al,am,hmq⟩:=bdS ah;refine E z (fc call61 z<|i_C am (zt' J G.s) (W.e G) ae) ?_;rintro _ _ ⟨sr,rfl⟩;refine R z (not_ z)<|Rm z ?_
  rcases bs (!al) with I | I
  ·exact Nh z I<|Nh z I<|R z (pT z I z)<|Wl (fun _ q=>⟨true,som<|ifT hmq I,q.k<|s4 z z z z,sr⟩)
  exact Rh z I (mv z)<|Rh z I (lss z z)<|R z (pF z I z)<|Wl (fun _ q=>⟨decide<|x3<0,som<|ifF hmq I,q.k<|s4 z z z z,sr⟩)
 rintro an L ⟨xc,rfl,_,s1⟩;revert an;refine Wo<|Wc z (fun hcd=>?_) (fun hcd=>?_)
 ·refine Ws<|Rw z ?_
  obtain rfl:=som<|ifT hmp hcd;exact Wr<|f_ hr z ⟨bup G s1,z,lb z⟩
 refine Wk<|Ws<|Rf z N_ z<|R z (l0 R_ z<|(ho.e s1).at z)<|Rm z ?_
 obtain ⟨V,ao,hms⟩:=bdS<|ifF hmp hcd;refine RX z (at_ (α:=g_) P_ k_ z z z (W.g<|(G.ag B).e s1) ao) ?_;rintro _ ⟨_,_,_,rfl,ap,aq,_⟩;obtain ⟨au,nt,cv,aw,nx,cy,az,a5,a6,a7,a8,a9,rfl,_,_,_,_,aa,_,_⟩:=a_j aq;refine R z (lN (vs:=vR V au nt cv aw nx cy az a5 a6 a7 a8 a9) I_ k_ z z fid ap)<|E z (fa b_h) ?_
 rintro _ ar ⟨rfl,ab⟩;have h2:=ab.below;refine E0 (fs0 (cur':=vR V au nt cv aw nx cy az a5 a6 a7 a8 a9) k_ z z (ab.blk:Blk ar L.z [(Str.v (⟨[]⟩:Str)),vI 0,vI 0,vB false,sl none 0 0,sl none 0 0,sl none 0 0,sl none 0 0]) z z z z) ?_;rintro _ wa ⟨O,av⟩;have h3:=av.one;refine Wn<|Wq<|Wb<|Ws<|Rf z a_i z<|R z (l0 g_3 z<|O.at z)<|Rq z z z<|Rw z<|Wc z (fun hce=>?_) (fun hce=>?_)
 ·refine Wm z ?_
  have hf:=lt_ G.s s1.s;obtain ⟨_,ax,ai⟩:=bdS<|ifT hms hce;refine E z (fc call29 z<|h_f ax (zt' J<|lt_ (lt_ hf h2.s) h3.s) ((((hG.e G).e s1).e h2).c h3<|c_ (or0 (b_ lr) (i_<|zt' J hf):∀k∈[L.z],¬B k)) af) ?_;rintro _ _ ⟨ay,rfl,aA⟩;refine Rw z ?_
  obtain rfl:=som ai;exact Wr<|rtO<|f_ hr z ⟨bup (bM (bup (bup G s1) h2) h3<|m1 hf) ay,z,aA⟩
 refine Wq ?_;obtain ⟨aB,Y,a0⟩:=bdS<|ifF hms hce;refine Wt (fun a w=>∃(xg:Bool),xg=aB/\Sat 58 [(2,vI x3),(7,pt L.z),(27,vB xg)] a/\Below wa.z wa w) ?_ ?_
 ·refine Wg<|Rf z a_i z<|R z (l0 g_3 z<|O.at z)<|Rq z z z<|Rm z ?_
  rcases bs (V.kind==6) with H | H
  ·refine Rh z H (mv z)<|Rh z H (fd b_H z)<|Rh z H (l0 b_Q z<|O.at z) ?_
   exact Rh z H (lnR a_k z<|aa.g<|(h2.ag B).c h3<|c_ (or0 (b_ lr) (i_<|zt' J<|lt_ G.s s1.s):∀k∈[L.z],¬B k))<|Rh z H (lss z z)<|R z (pT z H z)<|Ra z<|Wl (fun _ q=>⟨decide<|x3<(V.names.length:Int),som<|ifT Y H,q.k<|s3 z z z,br wa⟩)
  iterate 5 refine Nh z H ?_
  exact R z (pF z H z)<|Ra z<|Wl (fun _ q=>⟨false,som<|ifF Y H,q.k<|s3 z z z,br wa⟩)
 rintro aC _ ⟨xg,rfl,_,s6⟩;revert aC;refine Wo<|Wc z (fun hch=>?_) (fun hch=>?_)
 ·refine Ws<|Rf z b_H z<|R z (l0 b_Q z<|(O.e s6).at z)<|Rm z ?_
  obtain ⟨_,aD,aj⟩:=bdS<|ifT a0 hch;have ad:=lt_ G.s s1.s;refine RX z (at_ (α:=Str) a_k z_9 z z z (aa.g<|((h2.ag B).c h3<|c_ (or0 (b_ lr) (i_<|zt' J ad):∀k∈[L.z],¬B k)).e s6) aD) ?_;rintro _ ⟨_,_,_,rfl,aE,aF,_⟩;obtain ⟨rfl,aG⟩:=b_B aF;refine R z (l0 g_9 z<|aE.at0 z)<|Rw z ?_
  obtain rfl:=som aj;exact Wr<|rtO<|f_ hr z ⟨bup (bM (bup (bup G s1) h2) h3<|m1 ad) s6,z,aG⟩
 have a1:=ifF a0 hch;refine Wm z<|R z (a_d z z)<|Rw z<|Wc z (fun hci=>?_) (fun hci=>?_)
 ·refine Ws<|Rw z ?_
  obtain rfl:=som<|ifT a1 hci;exact Wr<|rtO<|f_ hr z ⟨bup (bM (bup (bup G s1) h2) h3<|m1<|lt_ G.s s1.s) s6,z,lb z⟩
 have a2:=ifF a1 hci;refine Ws<|Rf z a_i z ?_
 have hj:=O.e s6;refine R z (l0 g_3 z<|hj.at z)<|Rq z z z<|Rw z<|Wc z (fun hck=>?_) (fun hck=>?_)
 ·refine Ws<|Rw z ?_
  obtain rfl:=som<|ifT a2 hck;exact Wr<|rtO<|f_ hr z ⟨bup (bM (bup (bup G s1) h2) h3<|m1<|lt_ G.s s1.s) s6,z,lb z⟩
 have a3:=ifF a2 hck;refine Ws<|Rf z a_i z<|R z (l0 g_3 z<|hj.at z)<|Rq z z z<|Rw z<|Wc z (fun hcl=>?_) (fun hcl=>?_)
 ·refine Ws<|Rw z ?_
  obtain rfl:=som<|ifT a3 hcl;exact Wr<|rtO<|f_ hr z ⟨bup (bM (bup (bup G s1) h2) h3<|m1<|lt_ G.s s1.s) s6,z,lb z⟩
 have a4:=ifF a3 hcl;refine Ws<|Rf z a_i z<|R z (l0 g_3 z<|hj.at z)<|Rq z z z<|Rw z<|Wc z (fun hcm=>?_) (fun hcm=>?_)
 ·refine Ws<|Rw z ?_
  obtain rfl:=som<|ifT a4 hcm;exact Wr<|rtO<|f_ hr z ⟨bup (bM (bup (bup G s1) h2) h3<|m1<|lt_ G.s s1.s) s6,z,lb z⟩
 refine Wk<|Ws<|Rw z ?_
 obtain rfl:=som<|ifF a4 hcm;exact Wr<|f_ hr z ⟨bup (bM (bup (bup G s1) h2) h3<|m1<|lt_ G.s s1.s) s6,z,lb z⟩
theorem W_w20 {x1:Int}{x2:Int}{b2 G:Nat}{res:Bool}(hm:g_C x1 x2=some res)(O:B<=w0.z)(I:inI x1)(J:inI x2)(H:V_ w0 b2 G [vI x2])(L:B b2):j_ prog 49 [vI x1,(.pointer<|some ⟨b2,G,none⟩)] w0 (Q0 w0 B res):=by
 unfold g_C at hm
 refine goG func49 z z z fun fn hr=>Ws<|Rw z<|Wm z<|R z (l0 g_3 z<|H.at0 z)<|Rq z z z<|Rw z ?_
 obtain rfl:=som hm;exact Wr<|f_ hr z ⟨br w0,z⟩
theorem W_w21 {x1:List Int}{J:Int}{H L:Nat}{res:Int}(hm:f_3 x1 J=some res)(a2:B<=w0.z)(I:repS w0 B (sl A0 N0 C0) x1)(p2c0_0:inI J)(a1:V_ w0 H L [vI J])(a0:B H):j_ prog 48 [sl A0 N0 C0,(.func (.func 49) #[] #[(.pointer<|some ⟨H,L,none⟩)])] w0 (Q9 w0 B res):=by
 unfold f_3 at hm
 refine goG func48 z z z fun fn hr=>Ws<|Rw z<|Wq<|Wm z<|R z (lnR q_ z I)<|Rm z<|Wn ?_
 obtain ⟨_,a3,W⟩:=bdS hm;refine Wf (σ:=Unit) (ρ:=Int) (fun (k4:Nat)(_:Unit) a w=>Sat 19 [(1,.func (.func 49) #[] #[(.pointer<|some ⟨H,L,none⟩)]),(7,sl A0 N0 C0),(8,vI (x1.length:Int)),(9,vI ((k4:Nat):Int))] a/\Below w0.z w0 w) (fun (_:Unit) a w=>Sat 19 [] a/\Below w0.z w0 w) (rQ prog fn<|Q9 w0 B) a3 ?_ ?_ ?_ ?_ ?_
 ·exact fun _ q=>⟨q.k<|s4 z z z z,br w0⟩
 ·rintro k4 _ _ _ _ O ⟨a4,G⟩ a5;refine Wu ?_ a4;refine Ws<|Rl z z z<|Wn<|Wq<|Wc z (fun _=>?_) (fun hc=>(a_4 O hc).elim)
  refine Wk<|Wq<|Wb<|Wm z ?_
  obtain ⟨_,ea,hmb⟩:=bdS a5;refine RX z (at_ (α:=Int) q_ z_3 z z z (I.e G) ea) ?_;rintro _ ⟨_,_,_,rfl,hd,he,_⟩;obtain ⟨rfl,hf⟩:=J_ he;refine R z (l0 g_3 z<|hd.at0 z)<|Ra z<|Rw z<|Wm z<|Rm z ?_
  obtain ⟨_,ec,Y⟩:=bdS hmb;refine E z (g_h call49 z z<|W_w20 ec (zt' a2 G.s) hf p2c0_0 (a1.e G) a0) ?_;rintro _ _ ⟨s6,rfl⟩;refine Wx z (fun V=>?_) (fun V=>?_)
  ·exact Wm z<|Rw z<|Wr<|rtO<|qL (som<|ifT Y V).symm<|f_ hr z ⟨bup G s6,z,ic (Nat.le_of_lt O)<|lt_ (repS.len I) L_⟩
  exact Wk<|Wg<|R z (inc_ O (lt_ (repS.len I) L_) z z)<|Rm z<|Wl (fun _ q=>⟨(),(som<|ifF Y V).symm,⟨q.k<|s4 z z z z,bup G s6⟩⟩)
 ·rintro _ _ _ ⟨hSg,sh⟩;refine Wu ?_ hSg;refine Ws<|Rl z z z<|Wn<|Wq<|Wc z (fun hc=>(a_5 hc).elim) (fun _=>?_)
  exact We<|fun _ q=>⟨rfl,⟨q.k sn,sh⟩⟩
 ·rintro _ ai _ rfl ⟨_,sj⟩;have hmk:=elL W;revert ai;refine Wo<|Ws<|Rw z ?_
  obtain rfl:=som hmk;exact Wr<|f_ hr z ⟨sj,z,ii z⟩
 rintro _ _ _ _ rfl ⟨rfl,hql⟩;have hmm:=elR W;obtain rfl:=som hmm;exact ⟨hql,z⟩
def Q19 (w0:World)(g1:Nat)(B:Zone)(A0:Option Addr)(N0 C0:Nat)(A5:Option Addr)(N5 C5:Nat)(x1:b_6)(r:Str×Int)(v:Value)(w':World):Prop:=Chg (· ∈ [g1]) w0 w'/\un2 (fun G H=>v = .tuple #[]/\G.b.length<=LEN/\inI H/\Blk w' g1 [sl A0 N0 C0,sl A5 N5 C5,Str.v G,vI H]) r
def Q20 (w0:World)(g1:Nat)(B:Zone)(A0:Option Addr)(N0 C0:Nat)(A5:Option Addr)(N5 C5:Nat)(x1:b_6)(r:Int×Bool×Str×Int)(v:Value)(w':World):Prop:=Chg (· ∈ [g1]) w0 w'/\un4 (fun G J H I=>v = .tuple #[vI G,vB J]/\inI G/\H.b.length<=LEN/\inI I/\Blk w' g1 [sl A0 N0 C0,sl A5 N5 C5,Str.v H,vI I]) r
structure i_L (f:b_6->Str->Int->Int->Option (Str×Int)):Prop where
  run:∀{A0 A5:Option Addr}{N0 C0 N5 C5 g1:Nat}{B:Zone}{x1:b_6}{x2:Str}{x3:Int}{x4:Int}{res:Str×Int}{w0:World}(hm:f x1 x2 x3 x4=some res)(hB1:Blk w0 g1 [sl A0 N0 C0,sl A5 N5 C5,Str.v x1.path,vI x1.rule])(hBw:B<=w0.z)(hBg:¬B g1)(hG:Gl w0 B)(p1_0:repS w0 B (sl A0 N0 C0) x1.d.rules)(p1_1:repS w0 B (sl A5 N5 C5) x1.b)(p1_2:x1.path.b.length<=LEN)(p1_3:inI x1.rule)(p2_0:x2.b.length<=LEN)(p3_0:inI x3)(p4_0:inI x4),j_ prog 20 [pt g1,Str.v x2,vI x3,vI x4] w0<|Q19 w0 g1 B A0 N0 C0 A5 N5 C5 x1 res
structure i_M (f:b_6->Str->Int->(List Int)->Int->Option (Int×Bool×Str×Int)):Prop where
  run:∀{A0 A5 AD:Option Addr}{N0 C0 N5 C5 g1 ND CD:Nat}{B:Zone}{x1:b_6}{x2:Str}{x3:Int}{x4:List Int}{x5:Int}{res:Int×Bool×Str×Int}{w0:World}(hm:f x1 x2 x3 x4 x5=some res)(hB1:Blk w0 g1 [sl A0 N0 C0,sl A5 N5 C5,Str.v x1.path,vI x1.rule])(hBw:B<=w0.z)(hBg:¬B g1)(hG:Gl w0 B)(p1_0:repS w0 B (sl A0 N0 C0) x1.d.rules)(p1_1:repS w0 B (sl A5 N5 C5) x1.b)(p1_2:x1.path.b.length<=LEN)(p1_3:inI x1.rule)(p2_0:x2.b.length<=LEN)(p3_0:inI x3)(p4_0:repS w0 B (sl AD ND CD) x4)(p5_0:inI x5),j_ prog 46 [pt g1,Str.v x2,vI x3,sl AD ND CD,vI x5] w0<|Q20 w0 g1 B A0 N0 C0 A5 N5 C5 x1 res
abbrev i_N (n:Nat):Prop:=i_L (a_S n).impl_tracer_part/\i_M (a_S n).impl_tracer_kids
theorem T_w07 (ih:i_N n):i_L (d_w n<|a_S n):=by
 obtain ⟨_,ae⟩:=ih
 constructor
 intro A0 A5 N0 C0 N5 C5 g1 B x1 x2 x3 x4 res w0 hm hB1 V hBg hG a0 a1 f9 fb W Y aY;unfold d_w at hm
 refine goG func20 z z z fun fn hr=>Wm z<|RM z z<|Rm z<|R z (a_0 z)<|Rf z k_v z<|E0 (fs0 (cur':=[sl A0 N0 C0,sl A5 N5 C5,Str.v x2,vI x1.rule]) z_9 z z hB1 z z z z) ?_
 rintro _ aL ⟨cY,cZ⟩;have L:=cZ.one;refine R z (a_0 z)<|Rf z k_w z<|E0 (fs0 (cur':=[sl A0 N0 C0,sl A5 N5 C5,Str.v x2,vI x3]) z_3 z z cY z z z z) ?_
 rintro _ J ⟨hl,d0⟩;have O:=d0.one;refine Wn<|Wm z<|R z (a_0 z)<|Rf z f_l z<|Rf z N_ z<|R z (l0 R_ z<|hl.at z)<|Rm z ?_
 obtain ⟨xm,d1,c5⟩:=bdS hm;have hu:=(L.agc B<|c_<|b_ hBg).c O<|c_<|b_ hBg
 refine RX z (at_ (α:=g_) P_ k_ z z z (a0.g hu) d1) ?_;rintro _ ⟨_,_,_,rfl,d2,d3,_⟩;obtain ⟨bh,bi,bj,bk,bm,bn,bo,bp,bq,bt,bu,bv,rfl,_,_,_,_,_,d4,hq⟩:=a_j d3;refine R z (lN (vs:=vR xm bh bi bj bk bm bn bo bp bq bt bu bv) I_ k_ z z fid d2)<|E z (fa b_h) ?_
 rintro _ af ⟨rfl,bw⟩;have h4:=bw.below;have bx:Blk af J.z [(Str.v (⟨[]⟩:Str)),vI 0,vI 0,vB false,sl none 0 0,sl none 0 0,sl none 0 0,sl none 0 0]:=bw.blk;refine E0 (fs0 (cur':=vR xm bh bi bj bk bm bn bo bp bq bt bu bv) k_ z z bx z z z z) ?_;rintro _ wn ⟨ah,d5⟩;have h3:=d5.one;refine Wn<|Ws<|Rf z a_i z<|R z (l0 g_3 z<|ah.at z)<|Wn<|Wb<|Wq<|Ws<|Rq z z z<|Rw z ?_
 obtain ⟨d6,aZ,c6⟩:=bdS c5;refine Wt (fun a w=>∃(aM:Bool),aM=d6/\Sat 156 [(0,pt g1),(1,Str.v x2),(2,vI x3),(3,vI x4),(8,pt J.z),(32,vI xm.kind),(33,vB aM)] a/\Below wn.z wn w) ?_ ?_
 ·refine Wc z (fun aB=>?_)<|fun aB=>?_
  ·exact M_<|fun _ q=>⟨xm.kind==6,som<|ifT aZ aB,q.k<|s7 z z z z z z z,br wn⟩
  exact Wg<|Rq z z z<|Ra z<|Wl (fun _ q=>⟨xm.kind==9,som<|ifF aZ aB,q.k<|s7 z z z z z z z,br wn⟩)
 rintro d7 I ⟨aM,rfl,_,H⟩;revert d7;refine Wo ?_;obtain ⟨d8,b0,aa⟩:=bdS c6;refine Wt (fun a w=>∃(ai:Str)(aj:Int),Sum.inl (ai,aj)=d8/\Sat 156 [] a/\Chg (· ∈ [g1]) I w/\ai.b.length<=LEN/\inI aj/\Blk w g1 [sl A0 N0 C0,sl A5 N5 C5,Str.v ai,vI aj]) ?_ ?_
 ·refine Wc z (fun aC=>?_)<|fun aC=>?_
  ·refine Wg<|RM z z<|Rm z<|Rf z K_ z<|R z (l0 z_ z<|(ah.e H).at z)<|Rm z ?_
   have aN:=lt_ L.s O.s;have aO:∀k∈[J.z],¬B k:=or0 (b_ lr)<|i_<|zt' V aN;have bz:=((hu.e h4).c h3<|c_ aO).e H;obtain ⟨_,_,d9,da,db,c7⟩:=bd4S<|ifT b0 aC;refine E z (fc call46 z<|ae.run (B:=B) db (((hl.e h4).c h3<|djs<|mm1 (Blk.lt hB1) aN).e H) (zt' V<|lt_ (lt_ (lt_ aN h4.s) h3.s) H.s) hBg (((((hG.c L<|c_<|b_ hBg).c O<|c_<|b_ hBg).e h4).c h3<|c_ aO).e H) (a0.g bz) (a1.g bz) W Y W Y (hq.g<|((h4.ag B).c h3<|c_ aO).e H) aY) ?_;rintro _ dc ⟨dd,rfl,_,de,df,dg⟩;refine Wl ?_;exact fun _ q=>⟨d9,da,som c7,q.k sn,(cM (cr [g1] I) dd (io sr):Chg (· ∈ [g1]) I dc),de,df,dg⟩
  refine Ws<|Rq z z z<|Rw z ?_
  obtain ⟨dh,b3,ab⟩:=bdS<|ifF b0 aC;refine Wt (fun a w=>∃(xs:Str)(xv:Int),Sum.inl (xs,xv)=dh/\Sat 156 [] a/\Chg (· ∈ [g1]) I w/\xs.b.length<=LEN/\inI xv/\Blk w g1 [sl A0 N0 C0,sl A5 N5 C5,Str.v xs,vI xv]) ?_ ?_
  ·refine Wc z (fun aD=>?_)<|fun aD=>?_
   ·refine Wq ?_;obtain ⟨di,b4,c8⟩:=bdS<|ifT b3 aD;refine Wt (fun a w=>∃(aP:Bool),aP=di/\Sat 156 [(0,pt g1),(1,Str.v x2),(2,vI x3),(3,vI x4),(8,pt J.z),(61,vB aP)] a/\Below I.z I w) ?_ ?_
    ·refine Wg<|RM z z<|R z (a_0 z)<|Rf z f_m z ?_
     have bA:=lt_ L.s O.s;have bB:=((hl.e h4).c h3<|djs<|mm1 (Blk.lt hB1) bA).e H;refine R z (l0 Q_ z<|bB.at z) ?_;have bC:=a1.g<|((hu.e h4).c h3<|c_ (or0 (b_ lr) (i_<|zt' V bA):∀k∈[J.z],¬B k)).e H
     refine R z (lnR l_ z bC)<|Rl z z z<|Rm z ?_
     rcases bs (decide<|x4<(x1.b.length:Int)) with hca | hca
     ·refine Rh z hca (mv z)<|Rh z hca (a_0 z)<|Rh z hca (fd f_m z)<|Rh z hca (l0 Q_ z<|bB.at z)<|Rh z hca (mv z) ?_
      obtain ⟨dj,dk,c9⟩:=bdS<|ifT b4 hca;refine RXg z z hca z (at_ (α:=UInt8) l_ z_5 z z z bC dk) ?_;rintro _ ⟨_,_,_,rfl,dl,dm,_⟩;obtain rfl:=u8 dm;exact Rh z hca (l0 g_5 z<|dl.at0 z)<|Rh z hca (eql z z)<|R z (pT z hca z)<|Wl (fun _ q=>⟨(byteI dj)==(byteI (1:UInt8)),som c9,q.k<|s6 z z z z z z,br I⟩)
     iterate 8 refine Nh z hca ?_
     exact R z (pF z hca z)<|Wl (fun _ q=>⟨false,som<|ifF b4 hca,q.k<|s6 z z z z z z,br I⟩)
    rintro dn ww ⟨aP,rfl,_,sh⟩;revert dn;refine Wo ?_;obtain ⟨dp,b5,ca⟩:=bdS c8;refine Wt (fun a w=>∃(xx:Str)(xy:Int),(xx,xy)=dp/\Sat 156 [] a/\Chg (· ∈ [g1]) ww w/\xx.b.length<=LEN/\inI xy/\Blk w g1 [sl A0 N0 C0,sl A5 N5 C5,Str.v xx,vI xy]) ?_ ?_
    ·refine Wc z (fun aE=>?_)<|fun aE=>?_
     ·refine Wg<|RM z z<|Rm z<|Rf z K_ z<|R z (l0 z_ z<|((ah.e H).e sh).at z)<|Rm z<|R z (add_ z z) ?_
      have aQ:=lt_ L.s O.s;have aR:∀k∈[J.z],¬B k:=or0 (b_ lr)<|i_<|zt' V aQ;have bD:=(((hu.e h4).c h3<|c_ aR).e H).e sh;obtain ⟨_,_,dq,dr,ds,cb⟩:=bd4S<|ifT b5 aE;refine E z (fc call46 z<|ae.run (B:=B) ds ((((hl.e h4).c h3<|djs<|mm1 (Blk.lt hB1) aQ).e H).e sh) (zt' V<|lt_ (lt_ (lt_ (lt_ aQ h4.s) h3.s) H.s) sh.s) hBg ((((((hG.c L<|c_<|b_ hBg).c O<|c_<|b_ hBg).e h4).c h3<|c_ aR).e H).e sh) (a0.g bD) (a1.g bD) W Y W Y (hq.g<|(((h4.ag B).c h3<|c_ aR).e H).e sh)<|iA _ _) ?_;rintro _ dt ⟨du,rfl,_,dv,dw,dx⟩;refine Wl ?_;exact fun _ q=>⟨dq,dr,som cb,q.k sn,(cM (cr [g1] ww) du (io sr):Chg (· ∈ [g1]) ww dt),dv,dw,dx⟩
     exact M_<|fun _ q=>⟨x2,x3,som<|ifF b5 aE,q.k sn,cr [g1] ww,W,Y,(((hl.e h4).c h3<|djs<|mm1 (Blk.lt hB1)<|lt_ L.s O.s).e H).e sh⟩
    rintro dy dz ⟨xx,xy,rfl,_,dA,dB,dC,dD⟩;revert dy;exact fun _ q=>⟨xx,xy,som<|a_B ca,q.k sn,(cM (e_ (cr [g1] I) sh:Chg (· ∈ [g1]) I ww) dA (io sr):Chg (· ∈ [g1]) I dz),dB,dC,dD⟩
   refine Wq<|Ws<|Rq z z z<|Rw z ?_
   obtain ⟨dF,b6,cc⟩:=bdS<|ifF b3 aD;refine Wt (fun a w=>∃(aS:Bool),aS=dF/\Sat 156 [(0,pt g1),(1,Str.v x2),(2,vI x3),(3,vI x4),(8,pt J.z),(70,vB aS)] a/\Below I.z I w) ?_ ?_
   ·refine Wc z (fun aF=>?_)<|fun aF=>?_
    ·exact M_<|fun _ q=>⟨xm.kind==5,som<|ifT b6 aF,q.k<|s6 z z z z z z,br I⟩
    exact Wg<|Rq z z z<|Ra z<|Wl (fun _ q=>⟨xm.kind==7,som<|ifF b6 aF,q.k<|s6 z z z z z z,br I⟩)
   rintro dG wf ⟨aS,rfl,_,sd⟩;revert dG;refine Wo ?_;obtain ⟨dH,b7,ad⟩:=bdS cc;refine Wt (fun a w=>∃(xz:Str)(a2:Int),Sum.inl (xz,a2)=dH/\Sat 156 [] a/\Chg (· ∈ [g1]) wf w/\xz.b.length<=LEN/\inI a2/\Blk w g1 [sl A0 N0 C0,sl A5 N5 C5,Str.v xz,vI a2]) ?_ ?_
   ·refine Wc z (fun aG=>?_)<|fun aG=>?_
    ·refine Wq (Wd (X:=noX) 0 (pl_ 19 [13]) mo (by kernel_rfl) fun aT se _=>dM z z z<|dR z z (a_0 z)<|dR z z (fd f_l z) ?_);have a3:=lt_ L.s O.s;have hi:=((((hl.e h4).c h3<|djs<|mm1 (Blk.lt hB1) a3).e H).e sd).e se;refine dR z z (lN (vs:=[sl A0 N0 C0]) s_ p_ z z fid<|hi.row 0 1 z)<|dR z z (fd K_ z) ?_
     have aU:=((ah.e H).e sd).e se;refine dR z z (l0 z_ z<|aU.at z) ?_;obtain ⟨_,dI,cd⟩:=bdS<|ifT b7 aG;have ak:∀k∈[J.z],¬B k:=or0 (b_ lr)<|i_<|zt' V a3;have al:=((((h4.ag B).c h3<|c_ ak).e H).e sd).e se;refine dRX z z (at_ (α:=Int) q_ z_3 z z z (hq.g al) dI) ?_;rintro _ ⟨_,_,_,rfl,dJ,dK,_⟩;obtain ⟨rfl,dL⟩:=J_ dK;refine dR z z (l0 g_3 z<|dJ.at0 z)<|dM z z z<|dR z z (a_0 z)<|dR z z (fd f_m z)<|dR z z (l0 Q_ z<|hi.at z)<|dM z z z ?_
     have a4:=((((hu.e h4).c h3<|c_ ak).e H).e sd).e se;have ht:=lt_ (lt_ (lt_ (lt_ (lt_ a3 h4.s) h3.s) H.s) sd.s) se.s;obtain ⟨aV,_,dN,b8⟩:=a_G cd;refine dE z z (fc call45 z<|i_J (B:=B) (x1:=(⟨x1.d.rules⟩:d_)) dN (zt' V ht) (a0.g a4) dL (a1.g a4) aY) (.inr fun _ _ h=>B_<|h.1) ?_;rintro _ wo ⟨s2,rfl,bE,_⟩;refine dM z z z<|dR z z (ext_ z z)<|dR z z (ext_ z z)<|dQ z z z<|dQ z z z<|pD<|Wo<|Wq<|Wm z<|R z (nq z z)<|Wx z (fun aH=>?_) (fun aH=>?_)
     ·obtain rfl:=som<|ifT b8 aH;have ce:=elR ad;obtain rfl:=som ce;have cf:=elR ab;obtain rfl:=som cf;have cg:=elR aa;obtain rfl:=som cg;exact Wr<|rtO<|ret0 hr ⟨(e_ (e_ (e_ (e_ (cM (e_ (cM (cM (cr [g1] w0) L (io sr):Chg (· ∈ [g1]) w0 aL) O (io sr):Chg (· ∈ [g1]) w0 J) h4:Chg (· ∈ [g1]) w0 af) h3 (mor a3:∀k∈[J.z],k∈[g1]∨w0.z<=k):Chg (· ∈ [g1]) w0 wn) H:Chg (· ∈ [g1]) w0 I) sd:Chg (· ∈ [g1]) w0 wf) se:Chg (· ∈ [g1]) w0 aT) s2:Chg (· ∈ [g1]) w0 wo),z,W,Y,hi.e s2⟩
     refine Wk<|Wq ?_
     obtain ⟨dO,ch,b9⟩:=bdS<|ifF b8 aH;refine Wt (fun a w=>∃(am:Int),am=dO/\∃(an:Nat),Sat 156 [(0,pt g1),(1,Str.v x2),(2,vI x3),(8,pt J.z),(9,vI aV),(11,pt an)] a/\Below wo.z wo w/\inI am/\Blk w an [vI am]/\wo.z<=an) ?_ ?_
     ·refine Wd (X:=noX) 2097152 (.rd 0<|.rd 1<|.rd 2<|.rd 3<|.rd 4<|.rd 5<|.rd 6<|.rd 7<|.rd 8<|.rd 9<|.rd 10<|.rd 11<|.rd 12<|.rd 13<|.rd 14<|.rd 15<|.rd 16<|.rd 17<|.rd 18<|.br 19 (.ef 20<|.ef 21 .done) 20<|.ef 19<|.ef 21 .done) mo (by kernel_rfl) fun bF sg _=>dM z z z<|dR z z (a_0 z)<|dR z z (fd f_m z) ?_
      have bG:=(hi.e s2).e sg;refine dR z z (l0 Q_ z<|bG.at z)<|dM z z z<|dM z z z ?_
      obtain ⟨_,dP,ci⟩:=bdS ch;have bH:=(a4.e s2).e sg;refine dRX z z (rX l_ z_5 z z (a1.g bH) z z dP) ?_;rintro _ ⟨_,_,_,rfl,bI⟩;refine dM z z z<|dR z z (a_0 z)<|dR z z (fd f_l z)<|dR z z (fd N_ z)<|dR z z (l0 R_ z<|bG.at z)<|dR z z (fd K_ z)<|dR z z (l0 z_ z<|((aU.e s2).e sg).at z) ?_
      obtain ⟨_,dS,cj⟩:=bdS ci;refine dRX z z (at_ (α:=Int) q_ z_3 z z z (hq.g<|(al.e s2).e sg) dS) ?_;rintro _ ⟨_,_,_,rfl,dT,dU,_⟩;obtain ⟨rfl,_⟩:=J_ dU;refine dR z z (l0 g_3 z<|dT.at0 z) ?_;obtain ⟨_,dV,ba⟩:=bdS cj;refine dRX z z (at_ (α:=g_) P_ k_ z z z (a0.g bH) dV) ?_;rintro _ ⟨_,_,_,rfl,dW,dX,_⟩;obtain ⟨_,_,_,_,_,_,_,_,_,_,_,_,rfl,_,_,_,_,_,_,_⟩:=a_j dX;refine dR z z (fd c_q z)<|dR z z (l0 g_4 z<|dW.at (j:=3) z)<|e_G ?_ ?_
      ·obtain ⟨bJ,dY,ck⟩:=bdS ba;refine dE z z (fc call47 z<|i_D dY (zt' V<|lt_ (lt_ ht s2.s) sg.s) bI) (.inr fun _ _ h=>B_<|h.1) ?_;rintro _ bK ⟨bL,rfl,dZ⟩;refine dE z z (fa k_y) (.inr fun _ _ h=>B_<|h.2.below) ?_;rintro _ e0 ⟨rfl,bN⟩;refine dE0 z (fs0 (cur':=[vI bJ]) z_3 z z (bN.blk:Blk e0 bK.z [vI 0]) z z z z) (.inl z) ?_;rintro _ _ ⟨e1,e2⟩;refine pD ?_;have bO:=m1<|lt_ sg.s bL.s
       exact fun _ q=>⟨bJ,som ck,bK.z,q.k<|s6 z z z z z z,bM (bup (bup sg bL) bN.below) e2.one bO,dZ,e1,atp bO⟩
      refine dE z z (fa k_y) (.inr fun _ _ h=>B_<|h.2.below) ?_;rintro _ e3 ⟨rfl,bP⟩;have aW:=bP.below;obtain ⟨bQ,e4,cl⟩:=bdS ba;refine dE z z (fc call47 z<|i_D e4 (zt' V<|lt_ (lt_ (lt_ ht s2.s) sg.s) aW.s)<|bI.e aW) (.inr fun _ _ h=>B_<|h.1) ?_;rintro _ _ ⟨bR,rfl,e5⟩;refine dE0 z (fs0 (cur':=[vI bQ]) z_3 z z ((bP.blk:Blk e3 bF.z [vI 0]).e bR) z z z z) (.inl z) ?_;rintro _ _ ⟨e6,e7⟩;refine pD ?_;have bS:=m1 sg.s;exact fun _ q=>⟨bQ,som cl,bF.z,q.k<|s6 z z z z z z,bM (bup (bup sg aW) bR) e7.one bS,e5,e6,atp bS⟩
     rintro e8 G ⟨am,rfl,an,_,s9,e9,ao,ea⟩;revert e8;refine Wo<|Wq<|Ws<|Rf z a_i z ?_
     have ap:=(aU.e s2).e s9;refine R z (l0 g_3 z<|ap.at z)<|Rq z z z<|Wx z (fun aI=>?_) (fun aI=>?_)
     ·refine Wq<|Ws<|Rf z a_r z<|R z (l0 z_ z<|ap.at z)<|R z (l_i z) ?_
      have bT:=(al.e s2).e s9;have bU:=lt_ (lt_ ht s2.s) s9.s;obtain ⟨_,eb,cm⟩:=bdS<|ifT b9 aI;refine E z (fc call48 z<|W_w21 (B:=zn B wo.z G.z) eb (b_D (zt' V bU) lr) (repS.mono (d4.g bT) a_W) e9 (ao.row 0 1 z)<|atp<|zin (B:=B) (b_ ea)<|b_<|Blk.lt ao) ?_;rintro _ a5 ⟨sj,rfl,_⟩;refine Rw z<|Wm z<|R z (b_e z z)<|Wn ?_
      obtain ⟨ec,bb,cn⟩:=bdS cm;refine Wt (fun a w=>∃(aq:Str)(ar:Int),(aq,ar)=ec/\Sat 156 [] a/\Chg (· ∈ [g1]) a5 w/\aq.b.length<=LEN/\inI ar/\Blk w g1 [sl A0 N0 C0,sl A5 N5 C5,Str.v aq,vI ar]) ?_ ?_
      ·refine Wc z (fun aJ=>?_)<|fun aJ=>?_
       ·refine Wg<|RM z z<|Rm z<|Rf z K_ z<|R z (l0 z_ z<|(ap.e sj).at z)<|Rm z<|R z (add_ z z)<|Rm z<|R z (add_ z z) ?_
        obtain ⟨_,ed,co⟩:=bdS<|ifT bb aJ;refine RX z (rX q_ z_3 z z (hq.g<|bT.e sj) z z ed) ?_;rintro _ ⟨_,_,_,rfl,ee⟩;refine Rm z ?_;have bV:=((a4.e s2).e s9).e sj;obtain ⟨_,_,eg,eh,ei,cp⟩:=bd4S co;refine E z (fc call46 z<|ae.run (B:=B) ei (((hi.e s2).e s9).e sj) (zt' V<|lt_ bU sj.s) hBg ((((((((((hG.c L<|c_<|b_ hBg).c O<|c_<|b_ hBg).e h4).c h3<|c_ ak).e H).e sd).e se).e s2).e s9).e sj) (a0.g bV) (a1.g bV) W Y W Y ee bE) ?_;rintro _ ej ⟨ek,rfl,_,em,en,eo⟩;refine Wl ?_;exact fun _ q=>⟨eg,eh,som cp,q.k sn,(cM (cr [g1] a5) ek (io sr):Chg (· ∈ [g1]) a5 ej),em,en,eo⟩
       exact M_<|fun _ q=>⟨x2,x3,som<|ifF bb aJ,q.k sn,cr [g1] a5,W,Y,((hi.e s2).e s9).e sj⟩
      rintro ep er ⟨aq,ar,rfl,_,es,et,eu,ew⟩;revert ep;refine Wo ?_;obtain rfl:=som<|a_B cn;have cq:=elR ad;obtain rfl:=som cq;have ct:=elR ab;obtain rfl:=som ct;have cu:=elR aa;obtain rfl:=som cu;exact Wr<|rtO<|ret0 hr ⟨(cM (e_ (e_ (e_ (e_ (e_ (e_ (cM (e_ (cM (cM (cr [g1] w0) L (io sr):Chg (· ∈ [g1]) w0 aL) O (io sr):Chg (· ∈ [g1]) w0 J) h4:Chg (· ∈ [g1]) w0 af) h3 (mor a3:∀k∈[J.z],k∈[g1]∨w0.z<=k):Chg (· ∈ [g1]) w0 wn) H:Chg (· ∈ [g1]) w0 I) sd:Chg (· ∈ [g1]) w0 wf) se:Chg (· ∈ [g1]) w0 aT) s2:Chg (· ∈ [g1]) w0 wo) s9:Chg (· ∈ [g1]) w0 G) sj:Chg (· ∈ [g1]) w0 a5) es (io sr):Chg (· ∈ [g1]) w0 er),z,et,eu,ew⟩
     refine Wk<|Ws<|R z (l0 g_3 z<|ao.at z)<|R z (b_Y z z)<|Wn ?_
     obtain ⟨ex,bc,be⟩:=bdS<|ifF b9 aI;refine Wt (fun a w=>∃(a6:Str)(a7:Int),Sum.inl (a6,a7)=ex/\Sat 156 [] a/\Chg (· ∈ [g1]) G w/\a6.b.length<=LEN/\inI a7/\Blk w g1 [sl A0 N0 C0,sl A5 N5 C5,Str.v a6,vI a7]) ?_ ?_
     ·refine Wc z (fun aK=>?_)<|fun aK=>?_
      ·refine Ws<|R z (l0 g_3 z<|ao.at z) ?_
       obtain ⟨ey,ez,cv⟩:=bdS<|ifT bc aK;refine E z (j_p (α:=Int) b_0 (fun _=>a_P<|ii z) ez z z) ?_;rintro _ wb ⟨au,av,aw,rfl,sk,ax⟩;refine Rw z<|Wq<|Wm z<|R z (lnR q_ z<|or_ ax<|zin (B:=B) (b_ lr)<|a_.lt ax)<|Rm z<|Wn ?_
       obtain ⟨_,cw,bf⟩:=bdS cv;refine Wf (σ:=List Int) (ρ:=Str×Int) (fun (bW:Nat)(xr:List Int) a w=>∃(Sc:List Nat),Sat 156 [(0,pt g1),(1,Str.v x2),(2,vI x3),(8,pt J.z),(9,vI aV),(13,sl au av aw),(138,vI (ey.length:Int)),(139,vI ((bW:Nat):Int))] a/\Chg (· ∈ [G.z]) wb w/\a_ w Sc (sl au av aw) xr/\Sc.Nodup/\(∀k∈Sc,k∈[G.z]∨wb.z<=k)) (fun (xr:List Int) a w=>∃(Sc:List Nat),Sat 156 [(0,pt g1),(1,Str.v x2),(2,vI x3),(9,vI aV),(13,sl au av aw)] a/\Chg (· ∈ [G.z]) wb w/\a_ w Sc (sl au av aw) xr/\Sc.Nodup/\(∀k∈Sc,k∈[G.z]∨wb.z<=k)) (rQ prog fn<|Q19 w0 g1 B A0 N0 C0 A5 N5 C5 x1) cw ?_ ?_ ?_ ?_ ?_
       ·exact fun _ q=>⟨[G.z],q.k<|s8 z z z z z z z z,cr [G.z] wb,ax,a_q,io sr⟩
       ·rintro bW xr _ eA _ bg ⟨Sc,cx,ay,hp,az,a8⟩ cy;refine Wu ?_ cx;refine Ws<|Rl z z z<|Wn<|Wq<|Wc z (fun _=>?_) (fun hc=>(a_4 bg hc).elim)
        refine Wk<|Wq<|Wb<|Wm z<|Rw z<|Wg<|RM z z<|Rf z K_ z<|R z (l0 z_ z<|((ap.e sk).c ay<|djs<|mm1 bx.lt<|lt_ (lt_ (lt_ (lt_ (lt_ h3.s H.s) sd.s) se.s) s2.s) s9.s).at z) ?_
        obtain ⟨_,eB,cz⟩:=bdS cy;refine RX z (at_ (α:=Int) q_ z_3 z z z (hq.g<|(((al.e s2).e s9).e sk).c ay<|c_ (or0 (b_ lr) (i_<|zt' V<|lt_ (lt_ ht s2.s) s9.s):∀k∈[G.z],¬B k)) eB) ?_;rintro _ ⟨_,_,_,rfl,eC,eD,_⟩;obtain ⟨rfl,eE⟩:=J_ eD;refine R z (l0 g_3 z<|eC.at0 z) ?_;obtain ⟨eF,bX,cA⟩:=bdS cz;refine RX z (h_O (α:=Int) q_ z_3 z z hp bX) ?_;rintro _ ⟨_,eG,rfl⟩;refine E0 (g_p (α:=Int) z_3 z eG z z z bX hp az (a_P eE) an_ H_) ?_;rintro _ eH ⟨bY,eI,eJ,eK,eL⟩;refine Wn<|Wg<|R z (inc_ bg (lt_ (a_.len ax) L_) z z)<|Rm z<|Wl ?_
        have bZ:∀k∈Sc,k∈[G.z]∨wb.z<=k:=or1 a8 (io sr)<|x_ lr;exact fun _ q=>⟨eF,(som cA).symm,⟨bY,q.k<|s8 z z z z z z z z,(cM (cM (cr [G.z] wb) ay (io sr):Chg (· ∈ [G.z]) wb eA) eI bZ:Chg (· ∈ [G.z]) wb eH),eJ,eK,(or2 eL bZ an_ (x_ ay.s):∀k∈bY,k∈[G.z]∨wb.z<=k)⟩⟩
       ·rintro xr _ eM ⟨Sc,cB,eN,hp,az,a8⟩;refine Wu ?_ cB;refine Ws<|Rl z z z<|Wn<|Wq<|Wc z (fun hc=>(a_5 hc).elim) (fun _=>?_)
        exact We<|fun _ q=>⟨rfl,⟨Sc,q.k<|s5 z z z z z,(cM (cr [G.z] wb) eN (io sr):Chg (· ∈ [G.z]) wb eM),hp,az,(or1 a8 (io sr) (x_ lr):∀k∈Sc,k∈[G.z]∨wb.z<=k)⟩⟩
       ·rintro xr eO aX rfl ⟨Sc,_,a9,hp,az,a8⟩;have cC:=elL bf;revert eO;refine Wo<|Wg<|RM z z<|RM z z<|Rm z ?_
        have aA:=lt_ (lt_ ht s2.s) s9.s;have c0:∀k∈[G.z],¬B k:=or0 (b_ lr)<|i_<|zt' V aA;have c1:=(((a4.e s2).e s9).e sk).c a9<|c_ c0
        obtain ⟨_,_,eP,eQ,eR,cD⟩:=bd4S cC;refine E z (fc call46 z<|ae.run (B:=zn B G.z aX.z) eR ((((hi.e s2).e s9).e sk).c a9<|djs<|mm1 (Blk.lt hB1) aA) (b_D (zt' V<|lt_ (lt_ aA sk.s) a9.s) lr) (atp ((c_g (b_ hBg) (b_<|Blk.lt hB1) aA):∀k∈[g1],¬(zn B G.z aX.z) k)) ((((((((((((hG.c L<|c_<|b_ hBg).c O<|c_<|b_ hBg).e h4).c h3<|c_ ak).e H).e sd).e se).e s2).e s9).e sk).c a9<|c_ c0).mono a_W) (repS.mono (a0.g c1) a_W) (repS.mono (a1.g c1) a_W) W Y W Y (or_ hp<|zin (B:=B) (or1 a8 (b_ lr) (a_R sk.s):∀k∈Sc,G.z<=k)<|a_.lt hp) bE) ?_;rintro _ eS ⟨eT,rfl,_,eU,eV,eW⟩;refine Wl ?_;exact fun _ q=>⟨eP,eQ,som cD,q.k sn,(cM (cM (e_ (cr [g1] G) sk:Chg (· ∈ [g1]) G wb) a9 (mor lr:∀k∈[G.z],k∈[g1]∨G.z<=k):Chg (· ∈ [g1]) G aX) eT (io sr):Chg (· ∈ [g1]) G eS),eU,eV,eW⟩
       rintro _ _ _ _ rfl ⟨rfl,cE⟩;have cF:=elR bf;obtain rfl:=som cF;have cG:=elR be;obtain rfl:=som cG;have cH:=elR ad;obtain rfl:=som cH;have cI:=elR ab;obtain rfl:=som cI;have cJ:=elR aa;obtain rfl:=som cJ;exact ⟨cE,z⟩
      exact M_<|fun _ q=>⟨x2,x3,som<|ifF bc aK,q.k sn,cr [g1] G,W,Y,(hi.e s2).e s9⟩
     rintro eX eY ⟨a6,a7,rfl,_,eZ,f0,f1,f2⟩;have cK:=elL be;revert eX;exact fun _ q=>⟨a6,a7,som<|a_B cK,q.k sn,(cM (e_ (e_ (e_ (cr [g1] wf) se:Chg (· ∈ [g1]) wf aT) s2:Chg (· ∈ [g1]) wf wo) s9:Chg (· ∈ [g1]) wf G) eZ (io sr):Chg (· ∈ [g1]) wf eY),f0,f1,f2⟩
    exact M_<|fun _ q=>⟨x2,x3,som<|ifF b7 aG,q.k sn,cr [g1] wf,W,Y,(((hl.e h4).c h3<|djs<|mm1 (Blk.lt hB1)<|lt_ L.s O.s).e H).e sd⟩
   rintro f3 f4 ⟨xz,a2,rfl,_,f5,f6,f7,f8⟩;have c2:=elL ad;revert f3;exact fun _ q=>⟨xz,a2,som<|a_B c2,q.k sn,(cM (e_ (cr [g1] I) sd:Chg (· ∈ [g1]) I wf) f5 (io sr):Chg (· ∈ [g1]) I f4),f6,f7,f8⟩
  rintro cL cN ⟨xs,xv,rfl,_,cO,cP,cQ,cR⟩;have c3:=elL ab;revert cL;exact fun _ q=>⟨xs,xv,som<|a_B c3,q.k sn,(cM (cr [g1] I) cO (io sr):Chg (· ∈ [g1]) I cN),cP,cQ,cR⟩
 rintro cS cT ⟨ai,aj,rfl,_,cU,cV,cW,cX⟩;have c4:=elL aa;revert cS;obtain rfl:=som<|a_B c4;exact ret0 hr ⟨(cM (e_ (cM (e_ (cM (cM (cr [g1] w0) L (io sr):Chg (· ∈ [g1]) w0 aL) O (io sr):Chg (· ∈ [g1]) w0 J) h4:Chg (· ∈ [g1]) w0 af) h3 (mor (lt_ L.s O.s):∀k∈[J.z],k∈[g1]∨w0.z<=k):Chg (· ∈ [g1]) w0 wn) H:Chg (· ∈ [g1]) w0 I) cU (io sr):Chg (· ∈ [g1]) w0 cT),z,cV,cW,cX⟩
theorem T_w19 (ih:i_N n):i_M (d_x n<|a_S n):=by
 obtain ⟨ab,_⟩:=ih
 constructor
 intro A0 A5 AD N0 C0 N5 C5 g1 ND CD B x1 x2 x3 x4 x5 res w0 hm hB1 I hBg hG H W Y a0 ap a1 G a2;unfold d_x at hm
 refine goG func46 z z z fun fn hr=>Ws<|Ra z<|Rw z<|Wq<|Wm z<|R z (lnR q_ z G)<|Rm z<|Wn ?_
 obtain ⟨_,hul,hma⟩:=bdS hm;refine Wf (σ:=Int) (ρ:=Int×Bool×Str×Int) (fun (kb:Nat)(x0:Int) a w=>Sat 57 [(0,pt g1),(1,Str.v x2),(2,vI x3),(4,vI x0),(16,sl AD ND CD),(17,vI (x4.length:Int)),(18,vI ((kb:Nat):Int))] a/\Below w0.z w0 w/\inI x0) (fun (x0:Int) a w=>Sat 57 [(4,vI x0)] a/\Below w0.z w0 w/\inI x0) (rQ prog fn<|Q20 w0 g1 B A0 N0 C0 A5 N5 C5 x1) hul ?_ ?_ ?_ ?_ ?_
 ·exact fun _ q=>⟨q.k<|s7 z z z z z z z,br w0,a2⟩
 ·rintro kb x0 _ wn _ J ⟨hSo,s2,h1⟩ hmp;refine Wu ?_ hSo;refine Ws<|Rl z z z<|Wn<|Wq<|Wc z (fun _=>?_) (fun hc=>(a_4 J hc).elim)
  refine Wk<|Wq<|Wb<|Wm z ?_
  obtain ⟨_,eq,hmr⟩:=bdS hmp;refine RX z (at_ (α:=Int) q_ z_3 z z z (G.e s2) eq) ?_;rintro _ ⟨_,_,_,rfl,ht,hu,_⟩;obtain ⟨rfl,hd⟩:=J_ hu;refine R z (l0 g_3 z<|ht.at0 z)<|Ra z<|Rw z<|Wq (Wd (X:=noX) 0 (pl_ 16 [10]) mo (by kernel_rfl) fun ws s3 _=>dM z z z<|dR z z (a_0 z)<|dR z z (fd f_l z) ?_)
  have O:=(hB1.e s2).e s3;refine dR z z (lN (vs:=[sl A0 N0 C0]) s_ p_ z z fid<|O.row 0 1 z)<|dM z z z<|dM z z z<|dR z z (a_0 z)<|dR z z (fd f_m z)<|dR z z (l0 Q_ z<|O.at z)<|dM z z z ?_
  have V:=(s2.ag B).e s3;have he:=lt_ s2.s s3.s;obtain ⟨rv,_,ew,hmc⟩:=a_G hmr;refine dE z z (fc call45 z<|i_J (B:=B) (x1:=(⟨x1.d.rules⟩:d_)) ew (zt' I he) (H.g V) hd (W.g V) h1) (.inr fun _ _ h=>B_<|h.1) ?_;rintro _ wx ⟨s4,rfl,hy,_⟩;refine dM z z z<|dR z z (ext_ z z)<|dR z z (ext_ z z)<|dQ z z z<|dQ z z z<|pD<|Wo<|Wq<|Wm z<|R z (nq z z)<|Wx z (fun L=>?_) (fun L=>?_)
  ·refine Wm z<|Rm z ?_
   obtain ⟨_,ez,a3⟩:=bdS<|ifT hmc L;refine R z (a_o z z ez)<|Rm z<|R z (a_0 z)<|Rf z f_l z ?_
   have hf:=O.e s4;refine R z (lN (vs:=[sl A0 N0 C0]) s_ p_ z z fid<|hf.row 0 1 z)<|RM z z ?_
   have hg:=V.e s4;have hh:=((hG.e s2).e s3).e s4;have hi:=lt_ he s4.s;obtain ⟨_,ad,a4⟩:=bdS a3;refine E z (fc call73 z<|W_w1z (B:=B) (x1:=(⟨x1.d.rules⟩:d_)) ad (zt' I hi) hh (H.g hg) a1<|ic (Nat.le_of_lt J)<|lt_ (repS.len G) L_) ?_;rintro _ ae ⟨s5,rfl,_⟩;obtain ⟨_,ej,a5⟩:=bdS a4;refine R z (a_o z z ej)<|RM z z ?_
   have hk:=hg.e s5;obtain ⟨_,_,af,a6⟩:=a_G a5;refine E z (fc call20 z<|ab.run (B:=B) af (hf.e s5) (zt' I<|lt_ hi s5.s) hBg (hh.e s5) (H.g hk) (W.g hk) Y a0 (b_2 ej) hd h1) ?_;rintro _ ah ⟨ai,rfl,aj,ak,al⟩;refine Wn<|Wm z<|Ra z<|Rw z ?_
   exact Wr<|rtO<|qL (som a6).symm<|b_C hr z z ⟨(cM (e_ (e_ (e_ (e_ (cr [g1] w0) s2:Chg (· ∈ [g1]) w0 wn) s3:Chg (· ∈ [g1]) w0 ws) s4:Chg (· ∈ [g1]) w0 wx) s5:Chg (· ∈ [g1]) w0 ae) ai (io sr):Chg (· ∈ [g1]) w0 ah),z,h1,aj,ak,al⟩
  exact Wk<|Wg<|Rm z<|Rw z<|Wg<|R z (inc_ J (lt_ (repS.len G) L_) z z)<|Rm z<|Wl (fun _ q=>⟨rv,(som<|ifF hmc L).symm,⟨q.k<|s7 z z z z z z z,bup (bup s2 s3) s4,hy⟩⟩)
 ·rintro x0 _ _ ⟨a7,am,h1⟩;refine Wu ?_ a7;refine Ws<|Rl z z z<|Wn<|Wq<|Wc z (fun hc=>(a_5 hc).elim) (fun _=>?_)
  exact We<|fun _ q=>⟨rfl,⟨q.k<|s1 z,am,h1⟩⟩
 ·rintro x0 an ao rfl ⟨_,sm,h1⟩;have a8:=elL hma;revert an;refine Wo<|Wm z<|Ra z<|Rw z ?_
  obtain rfl:=som a8;exact Wr<|b_C hr z z ⟨(e_ (cr [g1] w0) sm:Chg (· ∈ [g1]) w0 ao),z,h1,Y,a0,hB1.e sm⟩
 rintro _ _ _ _ rfl ⟨rfl,a9⟩;have aa:=elR hma;obtain rfl:=som aa;exact ⟨a9,z⟩
theorem h_g:∀n,i_N n
  | 0=>⟨⟨fun hm=>by intros;exact nomatch (show none=some _ from hm)⟩,⟨fun hm=>by intros;exact nomatch (show none=some _ from hm)⟩⟩
  | n+1=>⟨T_w07<|h_g n,T_w19<|h_g n⟩
theorem W_w07:i_L (a_S n).impl_tracer_part:=(h_g n).1
theorem W_w19:i_M (a_S n).impl_tracer_kids:=(h_g n).2
def Q21 (w0:World)(B:Zone)(r:a_n)(v:Value)(w':World):Prop:=Bw w0 w'/\(fun G=>(.agg #[vI G.code,vI G.position,Str.v G.path,vI G.rule])=v/\inI G.code/\inI G.position/\G.path.b.length<=LEN/\inI G.rule) r
theorem W_w22 {x1:d_}{x2:List UInt8}{res:a_n}(hm:f_5 n x1 x2=some res)(O:B<=w0.z)(hG:Gl w0 B)(W:repS w0 B (sl A0 N0 C0) x1.rules)(Y:repS w0 B (sl A6 N6 C6) x2):j_ prog 6 [(.agg #[sl A0 N0 C0]),sl A6 N6 C6] w0 (Q21 w0 B res):=by
 unfold f_5 at hm
 refine goG func6 z z z fun fn hr=>Ws<|E z (fb z) ?_
 rintro _ wf ⟨rfl,hu⟩;have hg:=hu.below;have hv:Blk wf w0.z [sl A0 N0 C0]:=hu.blk;refine E z (fa f_n) ?_;rintro _ ax ⟨rfl,hw⟩;have V:=hw.below;have hx:Blk ax wf.z [vI 0,vI 0,Str.v (⟨[]⟩:Str),vI 0]:=hw.blk;refine Wn<|Ws ?_
 have hy:=hv.e V;refine R z (lN (vs:=[sl A0 N0 C0]) s_ p_ z z fid<|hy.row 0 1 z)<|Rm z ?_
 have hk:=(hg.ag B).e V;have hz:=lt_ hg.s V.s;obtain ⟨L,I,ay,ao⟩:=a_G hm;refine E z (fc call18 z<|i_K ay (zt' O hz) (W.g hk)<|Y.g hk) ?_;rintro _ _ ⟨s7,rfl,az,aA⟩;refine Rm z<|Re z z z<|Re z z z<|Ra z<|Rw z<|Wm z<|Rm z ?_
 have a3:=hy.e s7;refine R z (lN (vs:=[sl A0 N0 C0]) s_ p_ z z fid<|a3.row 0 1 z) ?_;have a4:=hk.e s7;have hl:=lt_ hz s7.s;obtain ⟨rj,aB,ap⟩:=bdS ao;refine E z (fc call19 z<|h_d aB (zt' O hl)<|W.g a4) ?_;rintro _ G ⟨s6,rfl,aC⟩;refine R z (bP (parts:=[(0,.tmp 15),(1,.tmp 16),(3,.tmp 18)]) (cs:=[vI I,vI L,Str.v (⟨[]⟩:Str),vI rj]) k_t z z)<|E z (fa f_n) ?_
 rintro _ aD ⟨rfl,a5⟩;have ha:=a5.below;have a6:Blk aD G.z [vI 0,vI 0,Str.v (⟨[]⟩:Str),vI 0]:=a5.blk;refine E0 (fs0 (cur':=[vI I,vI L,Str.v (⟨[]⟩:Str),vI rj]) b_y z z a6 z z z z) ?_;rintro _ J ⟨hn,aE⟩;have h5:=aE.one;refine Wn<|Wq<|Wm z<|Wn<|Wb<|Ws<|Rq z z z<|Rw z ?_
 obtain ⟨aF,a0,aq⟩:=bdS ap;refine Wt (fun a w=>∃(xb:Str)(xc:Int),(xb,xc)=aF/\Sat 46 [(4,pt wf.z),(7,pt G.z)] a/\Chg (· ∈ [G.z]) J w/\xb.b.length<=LEN/\inI xc/\Blk w G.z [vI I,vI L,Str.v xb,vI xc]) ?_ ?_
 ·refine Wc z (fun hcm=>?_)<|fun hcm=>?_
  ·refine Wg<|Rf z b_G z<|E0 (fs0 (cur':=[vI I,vI L,Str.v (⟨[]⟩:Str),vI (-1)]) z_3 z z hn z z z z) ?_
   rintro _ aG ⟨aH,aI⟩;refine Wl ?_;exact fun _ q=>⟨(⟨[]⟩:Str),(-1),som<|ifT a0 hcm,q.k<|s2 z z,(cM (cr [G.z] J) aI.one (io sr):Chg (· ∈ [G.z]) J aG),lb z,ii z,aH⟩
  refine Wq<|Ws<|Rq z z z<|Rw z ?_
  obtain ⟨aJ,a1,ar⟩:=bdS<|ifF a0 hcm;refine Wt (fun a w=>∃(xo:Bool),xo=aJ/\Sat 46 [(1,sl A6 N6 C6),(2,pt w0.z),(4,pt wf.z),(7,pt G.z),(42,vB xo)] a/\Below J.z J w) ?_ ?_
  ·refine Wc z (fun hcp=>?_)<|fun hcp=>?_
   ·exact M_<|fun _ q=>⟨I==0,som<|ifT a1 hcp,q.k<|s5 z z z z z,br J⟩
   exact Wg<|Rq z z z<|Ra z<|Wl (fun _ q=>⟨I==7,som<|ifF a1 hcp,q.k<|s5 z z z z z,br J⟩)
  rintro aK H ⟨xo,rfl,_,s8⟩;revert aK;refine Wo ?_;obtain ⟨aL,a2,au⟩:=bdS ar;refine Wt (fun a w=>∃(xh:Str)(xi:Int),(xh,xi)=aL/\Sat 46 [(4,pt wf.z),(7,pt G.z)] a/\Chg (· ∈ [G.z]) H w/\xh.b.length<=LEN/\inI xi/\Blk w G.z [vI I,vI L,Str.v xh,vI xi]) ?_ ?_
  ·refine Wc z (fun hcq=>?_)<|fun hcq=>?_
   ·exact M_<|fun _ q=>⟨(⟨[]⟩:Str),rj,som<|ifT a2 hcq,q.k<|s2 z z,cr [G.z] H,lb z,aC,hn.e s8⟩
   refine Ws ?_;have a7:=(((a3.e s6).e ha).c h5<|djs<|mm1 hv.lt<|lt_ (lt_ V.s s7.s) s6.s).e s8;refine R z (lN (vs:=[sl A0 N0 C0]) s_ p_ z z fid<|a7.row 0 1 z)<|Rm z<|R z (bP (parts:=[(0,.tmp 21),(1,.tmp 22)]) (cs:=[sl A0 N0 C0,sl A6 N6 C6,Str.v (⟨[]⟩:Str),vI 0]) n_V z z)<|E z (fb z) ?_
   rintro _ a8 ⟨rfl,a9⟩;have hd:=a9.below;refine Rw z<|Wm z<|R z (lN (vs:=[sl A0 N0 C0]) s_ p_ z z fid<|(a7.e hd).row 0 1 z) ?_
   have aa:=lt_ hl s6.s;have ab:∀k∈[G.z],¬B k:=or0 (b_ lr)<|i_<|zt' O aa;have ad:=((((a4.e s6).e ha).c h5<|c_ ab).e s8).e hd;have ae:=lt_ (lt_ (lt_ aa ha.s) h5.s) s8.s;have af:=lt_ ae hd.s;obtain ⟨_,aM,av⟩:=bdS<|ifF a2 hcq;refine E z (fc call19 z<|h_d aM (zt' O af)<|W.g ad) ?_;rintro _ aN ⟨se,rfl,aO⟩;have ah:=ad.e se;obtain ⟨rr,ai,aP,aw⟩:=a_G av;refine E z (fc call20 z<|W_w07.run (B:=B) aP ((a9.blk:Blk a8 H.z [sl A0 N0 C0,sl A6 N6 C6,Str.v (⟨[]⟩:Str),vI 0]).e se) (zt' O<|lt_ af se.s) (atp (or0 (b_ lr) (i_<|zt' O ae):∀k∈[H.z],¬B k)) (((((((((hG.e hg).e V).e s7).e s6).e ha).c h5<|c_ ab).e s8).e hd).e se) (W.g ah) (Y.g ah) (lb z) (ii z) (lb z) aO<|ii z) ?_;rintro _ aQ ⟨aj,rfl,aR,aS,aT⟩;refine Wn (Wd (X:=(· ∈ [G.z])) 0 (pl_ 12 [9,11]) mo (by kernel_rfl) fun aU ss _=>dM z z z<|dR z z (a_0 z)<|dR z z (fd k_v z) ?_);have ak:=aT.e ss;have ht:=mm1 a6.lt<|lt_ h5.s s8.s
   refine dR z z (l1 g_9 z (atp ht)<|ak.at z)<|dM z z z<|dR z z (a_0 z)<|dR z z (fd k_w z)<|dR z z (l1 g_3 z (atp ht)<|ak.at z)<|dR z z (fd e_j z)<|dE0 z (fs0 (cur':=[vI I,vI L,Str.v rr,vI rj]) z_9 z z (((((hn.e s8).e hd).e se).c aj<|djs ht).e ss) z z z z) (.inr fun _ _ h=>e_R (List.mem_singleton.2 z) h.2) ?_
   rintro _ aV ⟨aW,aX⟩;refine dR z z (fd b_G z)<|dE0 z (fs0 (cur':=[vI I,vI L,Str.v rr,vI ai]) z_3 z z aW z z z z) (.inr fun _ _ h=>e_R (List.mem_singleton.2 z) h.2) ?_
   rintro _ aY ⟨aZ,b0⟩;refine pD ?_;exact fun _ q=>⟨rr,ai,som aw,q.k<|s2 z z,(cM (cM (e_ (cM (e_ (e_ (cr [G.z] H) hd:Chg (· ∈ [G.z]) H a8) se:Chg (· ∈ [G.z]) H aN) aj (mor lr:∀k∈[H.z],k∈[G.z]∨H.z<=k):Chg (· ∈ [G.z]) H aQ) ss:Chg (· ∈ [G.z]) H aU) aX.one (io sr):Chg (· ∈ [G.z]) H aV) b0.one (io sr):Chg (· ∈ [G.z]) H aY),aR,aS,aZ⟩
  rintro b3 b4 ⟨xh,xi,rfl,_,b5,b6,b7,b8⟩;revert b3;exact fun _ q=>⟨xh,xi,som<|a_B au,q.k<|s2 z z,(cM (e_ (cr [G.z] J) s8:Chg (· ∈ [G.z]) J H) b5 (io sr):Chg (· ∈ [G.z]) J b4),b6,b7,b8⟩
 rintro b9 _ ⟨xb,xc,rfl,_,al,ba,bb,bc⟩;revert b9;refine Wo<|Ws<|R z (lN (vs:=[vI I,vI L,Str.v xb,vI xc]) c_F b_y z z fid<|bc.row 0 4 z) ?_
 have am:=mm1 hx.lt<|lt_ s7.s s6.s
 refine E0 (fs0 (cur':=[vI I,vI L,Str.v xb,vI xc]) b_y z z (((((hx.e s7).e s6).e ha).c h5<|djs am).c al<|djs am) z z z z) ?_;rintro _ _ ⟨be,bf⟩;refine Wn ?_;obtain rfl:=som<|a_B aq;have an:=m1<|lt_ hl s6.s
 exact Wr<|f_ hr (E_ c_F b_y z be z) ⟨bM (bM (bM (bup (bup (bup (bup hg V) s7) s6) ha) h5 an) al an) bf.one<|m1 hg.s,z,aA,az,ba,bb⟩
theorem h_h {x1:d_}{res:Int}(hm:d_H x1=some res)(J:B<=w0.z)(H:repS w0 B (sl A0 N0 C0) x1.rules):j_ prog 22 [(.agg #[sl A0 N0 C0])] w0 (Q9 w0 B res):=by
 unfold d_H at hm
 refine goG func22 z z z fun fn hr=>Ws<|E z (fb z) ?_
 rintro _ I ⟨rfl,G⟩;have h1:=G.below;refine Rw z<|Ws<|Rf z N_ z<|R z (l0 R_ z<|(G.blk:Blk I w0.z [sl A0 N0 C0]).at z)<|R z (lnR P_ z<|H.e h1)<|R z (sb_ z z)<|Rw z ?_
 obtain rfl:=som hm;exact Wr<|f_ hr z ⟨h1,z,iS _ _⟩
theorem W_w1a {x1:Str}{res:Bool}(hm:e_r x1=some res)(a9:B<=w0.z)(Y:x1.b.length<=LEN):j_ prog 121 [Str.v x1] w0 (Q0 w0 B res):=by
 unfold e_r at hm
 refine goG func121 z z z fun fn hr=>Ws<|Rw z<|Wq<|Ws<|Rw z ?_
 obtain ⟨_,hus,hmc⟩:=bdS hm;refine Wf (σ:=Unit) (ρ:=Bool) (fun (k4:Nat)(_:Unit) a w=>Sat 45 [(0,Str.v x1),(3,vI ((k4:Nat):Int))] a/\Below w0.z w0 w) (fun (_:Unit) a w=>Sat 45 [(0,Str.v x1)] a/\Below w0.z w0 w) (rQ prog fn<|Q0 w0 B) hus ?_ ?_ ?_ ?_ ?_
 ·exact fun _ q=>⟨q.k<|s2 z z,br w0⟩
 ·rintro k4 _ _ O _ hkd ⟨hSt,se⟩ hmu;refine Wu ?_ hSt;refine Wq<|Wm z<|Rm z<|R z (lnT d_9 z)<|Rl z z z<|Wx z (fun _=>?_) (fun hc=>(a_4 hkd hc).elim)
  refine Wk<|Wq<|Wb<|Wq ?_
  obtain ⟨uv,huw,hmx⟩:=bdS hmu;refine Wt (fun a w=>∃(x5:Bool),x5=uv/\Sat 45 [(0,Str.v x1),(3,vI ((k4:Nat):Int)),(4,vB x5)] a/\Below O.z O w) ?_ ?_
  ·refine Wg<|RM z z ?_
   obtain ⟨xy,ef,hmg⟩:=bdS huw;refine R z (e_7 d_9 z z (a_U ef).1 (a_U ef).2.1)<|R z (b_e z z)<|Rm z ?_
   rcases bs (decide<|(byteI (97:UInt8))<=(byteI xy)) with H | H
   ·refine Rh z H (mv z)<|Rh z H (mv z) ?_
    obtain ⟨xz,eh,a0⟩:=bdS<|ifT hmg H;exact Rh z H (e_7 d_9 z z (a_U eh).1 (a_U eh).2.1)<|Rh z H (b_Y z z)<|R z (pT z H z)<|Ra z<|Wl (fun _ q=>⟨decide<|(byteI xz)<=(byteI (122:UInt8)),som a0,q.k<|s3 z z z,br O⟩)
   iterate 4 refine Nh z H ?_
   exact R z (pF z H z)<|Ra z<|Wl (fun _ q=>⟨false,som<|ifF hmg H,q.k<|s3 z z z,br O⟩)
  rintro aa V ⟨x5,rfl,_,si⟩;revert aa;refine Wo<|Wq ?_
  obtain ⟨ab,a1,a2⟩:=bdS hmx;refine Wt (fun a w=>∃(W:Bool),W=ab/\Sat 45 [(0,Str.v x1),(3,vI ((k4:Nat):Int)),(4,vB x5),(5,vB W)] a/\Below V.z V w) ?_ ?_
  ·refine Wg<|RM z z ?_
   obtain ⟨ad,ej,hmk⟩:=bdS a1;refine R z (e_7 d_9 z z (a_U ej).1 (a_U ej).2.1)<|R z (b_e z z)<|Rm z ?_
   rcases bs (decide<|(byteI (48:UInt8))<=(byteI ad)) with I | I
   ·refine Rh z I (mv z)<|Rh z I (mv z) ?_
    obtain ⟨ae,el,a3⟩:=bdS<|ifT hmk I;exact Rh z I (e_7 d_9 z z (a_U el).1 (a_U el).2.1)<|Rh z I (b_Y z z)<|R z (pT z I z)<|Ra z<|Wl (fun _ q=>⟨decide<|(byteI ae)<=(byteI (57:UInt8)),som a3,q.k<|s4 z z z z,br V⟩)
   iterate 4 refine Nh z I ?_
   exact R z (pF z I z)<|Ra z<|Wl (fun _ q=>⟨false,som<|ifF hmk I,q.k<|s4 z z z z,br V⟩)
  rintro af L ⟨W,rfl,_,sm⟩;revert af;refine Wo<|Wq ?_
  obtain ⟨ah,hun,hmo⟩:=bdS a2;refine Wt (fun a w=>∃(xa:Bool),xa=ah/\Sat 45 [(0,Str.v x1),(3,vI ((k4:Nat):Int)),(41,vB xa)] a/\Below L.z L w) ?_ ?_
  ·refine Wg<|Rm z<|R z (not_ z)<|Rm z ?_
   rcases bs (!x5) with G | G
   ·have hmp:=ifT hun G;refine Rh z G (mv z)<|Rh z G (not_ z)<|Rh z G (mv z) ?_
    rcases bs (!W) with J | J
    ·exact Nh z J<|Nh z J<|Rh z G (pT z J z)<|R z (pT z G z)<|Wl (fun _ q=>⟨true,som<|ifT hmp J,q.k<|s3 z z z,br L⟩)
    exact Rh z J (mv z)<|Rh z J (eql z z)<|Rh z G (pF z J z)<|R z (pT z G z)<|Wl (fun _ q=>⟨((k4:Nat):Int)==0,som<|ifF hmp J,q.k<|s3 z z z,br L⟩)
   iterate 3 refine Nh z G ?_
   exact Nv z<|Nv z<|Nh z G<|R z (pF z G z)<|Wl (fun _ q=>⟨false,som<|ifF hun G,q.k<|s3 z z z,br L⟩)
  rintro ai _ ⟨xa,rfl,_,sq⟩;revert ai;refine Wo<|Wc z (fun hcb=>?_) (fun hcb=>?_)
  ·exact Ws<|Rw z<|Wr<|rtO<|qL (som<|ifT hmo hcb).symm<|f_ hr z ⟨bup (bup (bup se si) sm) sq,z⟩
  exact Wk<|Wg<|Rm z<|R z (inc_ hkd (lt_ Y L_) z z)<|Ra z<|Wl (fun _ q=>⟨(),(som<|ifF hmo hcb).symm,⟨q.k<|s2 z z,bup (bup (bup se si) sm) sq⟩⟩)
 ·rintro _ _ _ ⟨a4,aj⟩;refine Wu ?_ a4;refine Wq<|Wm z<|Rm z<|R z (lnT d_9 z)<|Rl z z z<|Wx z (fun hc=>(a_5 hc).elim) (fun _=>?_)
  exact We<|fun _ q=>⟨rfl,⟨q.k<|s1 z,aj⟩⟩
 ·rintro _ ak _ rfl ⟨_,sr⟩;have a5:=elL hmc;revert ak;refine Wo<|Wm z<|R z (lnT d_9 z) ?_
  obtain ⟨_,al,a6⟩:=bdS a5;refine E z (fc call27 z<|a_T al (zt' a9 sr.s) (a_t Y) (ii z)<|ii z) ?_;rintro _ _ ⟨am,rfl⟩;refine Rw z ?_
  obtain rfl:=som a6;exact Wr<|f_ hr z ⟨bup sr am,z⟩
 rintro _ _ _ _ rfl ⟨rfl,a7⟩;have a8:=elR hmc;obtain rfl:=som a8;exact ⟨a7,z⟩
theorem c_K {x1:g_}{x2:Bool}{x3:Bool}{x4:Bool}{x5:Bool}{x6:Int}{res:Bool}(hm:b_I x1 x2 x3 x4 x5 x6=some res)(af:B<=w0.z)(aa:x1.name.b.length<=LEN)(ab:inI x1.kind)(ad:inI x1.size)(a1:repS w0 B (sl A9 N9 C9) x1.bytes)(a2:repS w0 B (sl A8 N8 C8) x1.names)(a3:repS w0 B (sl AA NA CA) x1.tags)(a4:repS w0 B (sl AB NB CB) x1.kids)(ae:inI x6):j_ prog 132 [(.agg #[Str.v x1.name,vI x1.kind,vI x1.size,vB x1.little,sl A9 N9 C9,sl A8 N8 C8,sl AA NA CA,sl AB NB CB]),vB x2,vB x3,vB x4,vB x5,vI x6] w0 (Q0 w0 B res):=by
 unfold b_I at hm
 refine goG func132 z z z fun fn hr=>Ws<|E z (fb z) ?_
 rintro _ wc ⟨rfl,hf⟩;have hd:=hf.below;have hb:Blk wc w0.z (vR x1 A9 N9 C9 A8 N8 C8 AA NA CA AB NB CB):=hf.blk;refine Rw z<|Wq ?_
 obtain ⟨uw,hux,hmy⟩:=bdS hm;refine Wt (fun a w=>∃(xe:Bool),xe=uw/\Sat 67 [(12,vB xe)] a/\Below wc.z wc w) ?_ ?_
 ·refine Wg<|RM z z ?_
  obtain ⟨ug,huh,hmz⟩:=bdS hux;refine c_w 18 ug 4 ?_ ?_
  ·rcases bs x2 with a0 | a0
   ·iterate 3 refine Nh z a0 ?_
    exact R z (pT z a0 z)<|WLq 4 (ifT huh a0) z z z
   exact Rh z a0 (fd a_z z)<|Rh z a0 (l0 g_3 z<|hb.at z)<|Rh z a0 (eql z z)<|R z (pF z a0 z)<|WLq 4 (ifF huh a0) z z z
  refine Rm z ?_;obtain ⟨ui,huj,a5⟩:=bdS hmz;refine c_w 27 ui 8 ?_ ?_
  ·rcases bs ug with H | H
   ·have hmk:=ifT huj H;refine Rh z H (mv z)<|Rh z H (mv z) ?_
    rcases bs x3 with V | V
    ·iterate 4 refine Nh z V ?_
     exact Rh z H (pT z V z)<|R z (pT z H z)<|WLq 8 (ifT hmk V) z z z
    exact Rh z V (fd a_D z)<|Rh z V (l0 Q_ z<|hb.at z)<|Rh z V (lnR l_ z<|a1.e hd)<|Rh z V (eql z z)<|Rh z H (pF z V z)<|R z (pT z H z)<|WLq 8 (ifF hmk V) z z z
   exact Nh z H<|Nh z H<|Nv z<|Nv z<|Nv z<|Nv z<|Nh z H<|R z (pF z H z)<|WLq 8 (ifF huj H) z z z
  refine Rm z ?_;obtain ⟨ul,hum,a6⟩:=bdS a5;refine c_w 36 ul 8 ?_ ?_
  ·rcases bs ui with I | I
   ·have hmn:=ifT hum I;refine Rh z I (mv z)<|Rh z I (mv z) ?_
    rcases bs x4 with W | W
    ·iterate 4 refine Nh z W ?_
     exact Rh z I (pT z W z)<|R z (pT z I z)<|WLq 8 (ifT hmn W) z z z
    exact Rh z W (fd b_H z)<|Rh z W (l0 b_Q z<|hb.at z)<|Rh z W (lnR a_k z<|a2.e hd)<|Rh z W (eql z z)<|Rh z I (pF z W z)<|R z (pT z I z)<|WLq 8 (ifF hmn W) z z z
   exact Nh z I<|Nh z I<|Nv z<|Nv z<|Nv z<|Nv z<|Nh z I<|R z (pF z I z)<|WLq 8 (ifF hum I) z z z
  refine Rm z ?_;obtain ⟨uo,hup,a7⟩:=bdS a6;refine c_w 45 uo 8 ?_ ?_
  ·rcases bs ul with J | J
   ·have hmq:=ifT hup J;refine Rh z J (mv z)<|Rh z J (mv z) ?_
    rcases bs x5 with Y | Y
    ·iterate 4 refine Nh z Y ?_
     exact Rh z J (pT z Y z)<|R z (pT z J z)<|WLq 8 (ifT hmq Y) z z z
    exact Rh z Y (fd a_r z)<|Rh z Y (l0 z_ z<|hb.at z)<|Rh z Y (lnR q_ z<|a3.e hd)<|Rh z Y (eql z z)<|Rh z J (pF z Y z)<|R z (pT z J z)<|WLq 8 (ifF hmq Y) z z z
   exact Nh z J<|Nh z J<|Nv z<|Nv z<|Nv z<|Nv z<|Nh z J<|R z (pF z J z)<|WLq 8 (ifF hup J) z z z
  refine Rm z ?_;obtain ⟨ur,hus,hmt⟩:=bdS a7;refine c_w 56 ur 10 ?_ ?_
  ·rcases bs uo with L | L
   ·have hmu:=ifT hus L;refine Rh z L (mv z)<|Rh z L (lss z z)<|Rh z L (mv z) ?_
    rcases bs (decide<|x6<0) with O | O
    ·iterate 5 refine Nh z O ?_
     exact Rh z L (pT z O z)<|R z (pT z L z)<|WLq 10 (ifT hmu O) z z z
    exact Rh z O (fd K_ z)<|Rh z O (l0 z_ z<|hb.at z)<|Rh z O (lnR q_ z<|a4.e hd)<|Rh z O (mv z)<|Rh z O (eql z z)<|Rh z L (pF z O z)<|R z (pT z L z)<|WLq 10 (ifF hmu O) z z z
   iterate 3 refine Nh z L ?_
   exact Nv z<|Nv z<|Nv z<|Nv z<|Nv z<|Nh z L<|R z (pF z L z)<|WLq 10 (ifF hus L) z z z
  refine Rm z ?_
  rcases bs ur with G | G
  ·have hmv:=ifT hmt G;refine Rh z G (fd c_q z)<|Rh z G (l0 g_4 z<|hb.at z)<|Rh z G (not_ z)<|Rh z G (mv z) ?_
   rcases bs (!x1.little) with hca | hca
   ·iterate 3 refine Nh z hca ?_
    exact Rh z G (pT z hca z)<|R z (pT z G z)<|Ra z<|Wl (fun _ q=>⟨true,som<|ifT hmv hca,q.k<|s1 z,br wc⟩)
   exact Rh z hca (fd a_i z)<|Rh z hca (l0 g_3 z<|hb.at z)<|Rh z hca (eql z z)<|Rh z G (pF z hca z)<|R z (pT z G z)<|Ra z<|Wl (fun _ q=>⟨x1.kind==1,som<|ifF hmv hca,q.k<|s1 z,br wc⟩)
  iterate 4 refine Nh z G ?_
  exact Nv z<|Nv z<|Nv z<|Nh z G<|R z (pF z G z)<|Ra z<|Wl (fun _ q=>⟨false,som<|ifF hmt G,q.k<|s1 z,br wc⟩)
 rintro a8 _ ⟨xe,rfl,_,a9⟩;revert a8;refine Wo ?_;obtain rfl:=som hmy;exact Wr<|f_ hr z ⟨bup hd a9,z⟩
theorem i_O {x1:d_}{x2:Int}{res:Int}(hm:d_G x1 x2=some res)(J:B<=w0.z)(I:repS w0 B (sl A0 N0 C0) x1.rules)(Y:inI x2):j_ prog 133 [(.agg #[sl A0 N0 C0]),vI x2] w0 (Q9 w0 B res):=by
 unfold d_G at hm
 refine goG func133 z z z fun fn hr=>Ws<|E z (fb z) ?_
 rintro _ O ⟨rfl,W⟩;have h2:=W.below;have h6:Blk O w0.z [sl A0 N0 C0]:=W.blk;refine Rw z<|Wq<|Wq ?_
 obtain ⟨uf,hug,hma⟩:=bdS hm;refine Wt (fun a w=>∃(V:Bool),V=uf/\Sat 39 [(1,vI x2),(2,pt w0.z),(30,vB V)] a/\Below O.z O w) ?_ ?_
 ·refine Wg<|Rm z<|Rf z N_ z<|R z (l0 R_ z<|h6.at z)<|R z (lnR P_ z<|I.e h2)<|R z (sb_ z z) ?_
  obtain ⟨rh,ei,hmb⟩:=bdS hug;refine E z (fc call27 z<|a_T ei (zt' J h2.s) Y (ii z)<|iS _ _) ?_;rintro _ _ ⟨s4,rfl⟩;refine R z (not_ z)<|Rm z ?_
  rcases bs (!rh) with H | H
  ·iterate 7 refine Nh z H ?_
   exact R z (pT z H z)<|Rm z<|Nh z z<|Nh z z<|Nh z z<|Nh z z<|Nh z z<|Nh z z<|Nh z z<|Nh z z<|R z (pT z z z)<|Wl (fun _ q=>⟨true,som<|ifT hmb H,q.k<|s3 z z z,s4⟩)
  refine Rh z H (fd N_ z) ?_;have hc:=h6.e s4;refine Rh z H (l0 R_ z<|hc.at z)<|Rh z H (mv z) ?_
  obtain ⟨xj,ek,hmd⟩:=bdS<|ifF hmb H;have he:=I.g<|(h2.ag B).e s4
  refine RXg z z H z (at_ (α:=g_) P_ k_ z z z he ek) ?_;rintro _ ⟨_,_,_,rfl,hl,hn,_⟩;obtain ⟨_,_,_,_,_,_,_,_,_,_,_,_,rfl,_,_,_,_,_,_,_⟩:=a_j hn;refine Rh z H (fd a_i z)<|Rh z H (l0 g_3 z<|hl.at (j:=1) z)<|Rh z H (nq z z)<|R z (pF z H z)<|Rm z ?_
  rcases bs (xj.kind != 1) with G | G
  ·iterate 8 refine Nh z G ?_
   exact R z (pT z G z)<|Wl (fun _ q=>⟨true,som<|ifT hmd G,q.k<|s3 z z z,s4⟩)
  refine Rh z G (fd N_ z)<|Rh z G (l0 R_ z<|hc.at z)<|Rh z G (mv z) ?_
  obtain ⟨_,em,hmo⟩:=bdS<|ifF hmd G;refine RXg z z G z (at_ (α:=g_) P_ k_ z z z he em) ?_;rintro _ ⟨_,_,_,rfl,hp,hq,_⟩;obtain ⟨_,_,_,_,_,_,_,_,_,_,_,_,rfl,_,_,ht,_,_,_,_⟩:=a_j hq;refine Rh z G (fd a_z z)<|Rh z G (l0 g_3 z<|hp.at (j:=2) z) ?_
  obtain ⟨rr,es,hmu⟩:=bdS hmo;refine Eg z z G z (fc call27 z<|a_T es (zt' J<|lt_ h2.s s4.s) ht (ii z)<|ii z) ?_;rintro _ _ ⟨sv,rfl⟩;exact Rh z G (not_ z)<|R z (pF z G z)<|Wl (fun _ q=>⟨!rr,som hmu,q.k<|s3 z z z,bup s4 sv⟩)
 rintro aw _ ⟨V,rfl,_,s5⟩;revert aw;refine Wo<|Wc z (fun L=>?_) (fun L=>?_)
 ·refine Ws<|Rw z ?_
  obtain rfl:=som<|ifT hma L;exact Wr<|f_ hr z ⟨bup h2 s5,z,ii z⟩
 refine Wk<|Ws<|Rf z N_ z<|R z (l0 R_ z<|(h6.e s5).at z)<|Rm z ?_
 obtain ⟨_,ex,hmy⟩:=bdS<|ifF hma L;refine RX z (at_ (α:=g_) P_ k_ z z z (I.g<|(h2.ag B).e s5) ex) ?_;rintro _ ⟨_,_,_,rfl,hz,a1,_⟩;obtain ⟨_,_,_,_,_,_,_,_,_,_,_,_,rfl,_,_,a2,_,_,_,_⟩:=a_j a1;refine Rf z a_z z<|R z (l0 g_3 z<|hz.at (j:=2) z) ?_
 obtain ⟨_,a3,a0⟩:=bdS hmy;refine E z (fc call69 z<|i_x a3 (zt' J<|lt_ h2.s s5.s) a2) ?_;rintro _ _ ⟨a4,rfl,_⟩;refine R z (sb_ z z)<|Rw z ?_
 obtain rfl:=som a0;exact Wr<|f_ hr z ⟨bup (bup h2 s5) a4,z,iS _ _⟩
theorem W_w23 {x1:List Str}{x2:Str}{res:Bool}(hm:f_s x1 x2=some res)(a0:B<=w0.z)(G:repS w0 B (sl A0 N0 C0) x1)(Y:x2.b.length<=LEN):j_ prog 139 [sl A0 N0 C0,Str.v x2] w0 (Q0 w0 B res):=by
 unfold f_s at hm
 refine goG func139 z z z fun fn hr=>Ws<|Rw z<|Wq<|Ws<|Rw z ?_
 obtain ⟨_,V,J⟩:=bdS hm;refine Wf (σ:=Unit) (ρ:=Bool) (fun (k3:Nat)(_:Unit) a w=>Sat 18 [(0,sl A0 N0 C0),(1,Str.v x2),(5,vI ((k3:Nat):Int))] a/\Below w0.z w0 w) (fun (_:Unit) a w=>Sat 18 [] a/\Below w0.z w0 w) (rQ prog fn<|Q0 w0 B) V ?_ ?_ ?_ ?_ ?_
 ·exact fun _ q=>⟨q.k<|s3 z z z,br w0⟩
 ·rintro k3 _ _ _ _ L ⟨W,I⟩ hma;refine Wu ?_ W;refine Wq<|Wm z<|Rm z ?_
  have h5:=G.e I;refine R z (lnR a_k z h5)<|Rl z z z<|Wx z (fun _=>?_) (fun hc=>(a_4 L hc).elim)
  refine Wk<|Wq<|Wb<|Wm z<|Rm z ?_
  obtain ⟨_,eb,O⟩:=bdS hma;refine RX z (at_ (α:=Str) a_k z_9 z z z h5 eb) ?_;rintro _ ⟨_,_,_,rfl,hd,he,_⟩;obtain ⟨rfl,_⟩:=b_B he;refine R z (l0 g_9 z<|hd.at0 z)<|Rm z<|R z (f_8 z z)<|Wx z (fun H=>?_) (fun H=>?_)
  ·exact Ws<|Rw z<|Wr<|rtO<|qL (som<|ifT O H).symm<|f_ hr z ⟨I,z⟩
  exact Wk<|Wg<|Rm z<|R z (inc_ L (lt_ (repS.len G) L_) z z)<|Ra z<|Wl (fun _ q=>⟨(),(som<|ifF O H).symm,⟨q.k<|s3 z z z,I⟩⟩)
 ·rintro _ _ _ ⟨hSc,s7⟩;refine Wu ?_ hSc;refine Wq<|Wm z<|Rm z<|R z (lnR a_k z<|G.e s7)<|Rl z z z<|Wx z (fun hc=>(a_5 hc).elim) (fun _=>?_)
  exact We<|fun _ q=>⟨rfl,⟨q.k sn,s7⟩⟩
 ·rintro _ af _ rfl ⟨_,sg⟩;have hmh:=elL J;revert af;refine Wo<|Ws<|Rw z ?_
  obtain rfl:=som hmh;exact Wr<|f_ hr z ⟨sg,z⟩
 rintro _ _ _ _ rfl ⟨rfl,hqi⟩;have hmj:=elR J;obtain rfl:=som hmj;exact ⟨hqi,z⟩
theorem W_w24 {x1:List Str}{res:Bool}(hm:f_t x1=some res)(I:B<=w0.z)(H:repS w0 B (sl A0 N0 C0) x1):j_ prog 134 [sl A0 N0 C0] w0 (Q0 w0 B res):=by
 unfold f_t at hm
 refine goG func134 z z z fun fn hr=>Ws<|Rw z<|Wq<|Ws<|Rw z ?_
 obtain ⟨_,huj,L⟩:=bdS hm;refine Wf (σ:=Unit) (ρ:=Bool) (fun (k1:Nat)(_:Unit) a w=>Sat 29 [(0,sl A0 N0 C0),(3,vI ((k1:Nat):Int))] a/\Below w0.z w0 w) (fun (_:Unit) a w=>Sat 29 [(0,sl A0 N0 C0)] a/\Below w0.z w0 w) (rQ prog fn<|Q0 w0 B) huj ?_ ?_ ?_ ?_ ?_
 ·exact fun _ q=>⟨q.k<|s2 z z,br w0⟩
 ·rintro k1 _ _ O _ hka ⟨hSk,s4⟩ hml;refine Wu ?_ hSk;refine Wq<|Wm z<|Rm z<|R z (lnR a_k z<|H.e s4)<|Rl z z z<|Wx z (fun _=>?_) (fun hc=>(a_4 hka hc).elim)
  refine Wk<|Wq<|Wb<|Wq ?_
  obtain ⟨um,hun,hmb⟩:=bdS hml;refine Wt (fun a w=>∃(x2:Bool),x2=um/\Sat 29 [(0,sl A0 N0 C0),(3,vI ((k1:Nat):Int)),(25,vB x2)] a/\Below O.z O w) ?_ ?_
  ·refine Wd (X:=noX) 0 (pl_ 16 [4,14]) mo (by kernel_rfl) fun ae s5 _=>dM z z z<|dM z z z ?_
   obtain ⟨_,eo,hmp⟩:=bdS hun;have hd:=(s4.ag B).e s5;refine dRX z z (at_ (α:=Str) a_k z_9 z z z (H.g hd) eo) ?_;rintro _ ⟨_,_,_,rfl,hq,ht,_⟩;obtain ⟨rfl,hu⟩:=b_B ht;refine dR z z (l0 g_9 z<|hq.at0 z) ?_;have he:=lt_ s4.s s5.s;obtain ⟨rr,es,hmc⟩:=bdS hmp;refine dE z z (fc call121 z<|W_w1a es (zt' I he) hu) (.inr fun _ _ h=>B_<|h.1) ?_;rintro _ _ ⟨s6,rfl⟩;refine dR z z (not_ z)<|dM z z z ?_
   rcases bs (!rr) with G | G
   ·iterate 7 refine dRn z z z G z ?_
    exact dEn z z z G z<|dR z z (pT z G z)<|pD (fun _ q=>⟨true,som<|ifT hmc G,q.k<|s3 z z z,bup s5 s6⟩)
   refine dRg z z z G z (mv z)<|dRg z z z G z (mv z) ?_
   obtain ⟨_,ev,hmw⟩:=bdS<|ifF hmc G;have hf:=H.g<|hd.e s6
   refine b_W z z z G z (rX a_k z_9 z z hf z z ev) ?_;rintro _ ⟨_,_,_,rfl,hx⟩;refine dRg z z z G z (mv z)<|dRg z z z G z (mv z) ?_
   obtain ⟨_,ey,hmz⟩:=bdS hmw;refine b_W z z z G z (at_ (α:=Str) a_k z_9 z z z hf ey) ?_;rintro _ ⟨_,_,_,rfl,a3,a4,_⟩;obtain ⟨rfl,a5⟩:=b_B a4;refine dRg z z z G z (l0 g_9 z<|a3.at0 z) ?_;obtain ⟨a6,a7,V⟩:=bdS hmz;refine dEg z z z G z (fc call139 z<|W_w23 a7 (zt' I<|lt_ he s6.s) hx a5) (.inr fun _ _ h=>B_<|h.1) ?_;rintro _ _ ⟨a8,rfl⟩;exact dR z z (pF z G z)<|pD (fun _ q=>⟨a6,som V,q.k<|s3 z z z,bup (bup s5 s6) a8⟩)
  rintro a9 _ ⟨x2,rfl,_,sg⟩;revert a9;refine Wo<|Wc z (fun J=>?_) (fun J=>?_)
  ·exact Ws<|Rw z<|Wr<|rtO<|qL (som<|ifT hmb J).symm<|f_ hr z ⟨bup s4 sg,z⟩
  exact Wk<|Wg<|Rm z<|R z (inc_ hka (lt_ (repS.len H) L_) z z)<|Ra z<|Wl (fun _ q=>⟨(),(som<|ifF hmb J).symm,⟨q.k<|s2 z z,bup s4 sg⟩⟩)
 ·rintro _ _ _ ⟨W,sh⟩;refine Wu ?_ W;refine Wq<|Wm z<|Rm z<|R z (lnR a_k z<|H.e sh)<|Rl z z z<|Wx z (fun hc=>(a_5 hc).elim) (fun _=>?_)
  exact We<|fun _ q=>⟨rfl,⟨q.k<|s1 z,sh⟩⟩
 ·rintro _ aa _ rfl ⟨_,s7⟩;have Y:=elL L;revert aa;refine Wo<|Wm z ?_
  have hi:=H.e s7;refine R z (lnR a_k z hi) ?_;obtain ⟨_,ab,a0⟩:=bdS Y;refine E z (fc call27 z<|a_T ab (zt' I s7.s) (a_t<|repS.len hi) (ii z)<|ii z) ?_;rintro _ _ ⟨ad,rfl⟩;refine Rw z ?_
  obtain rfl:=som a0;exact Wr<|f_ hr z ⟨bup s7 ad,z⟩
 rintro _ _ _ _ rfl ⟨rfl,a1⟩;have a2:=elR L;obtain rfl:=som a2;exact ⟨a1,z⟩
theorem W_w25 {x1:d_}{x2:g_}{res:Bool}(hm:f_u x1 x2=some res)(O:B<=w0.z)(a2:repS w0 B (sl A0 N0 C0) x1.rules)(aO:x2.name.b.length<=LEN)(aP:inI x2.kind)(aQ:inI x2.size)(aR:repS w0 B (sl A2 N2 C2) x2.bytes)(aS:repS w0 B (sl A4 N4 C4) x2.names)(J:repS w0 B (sl A1 N1 C1) x2.tags)(V:repS w0 B (sl A3 N3 C3) x2.kids):j_ prog 135 [(.agg #[sl A0 N0 C0]),(.agg #[Str.v x2.name,vI x2.kind,vI x2.size,vB x2.little,sl A2 N2 C2,sl A4 N4 C4,sl A1 N1 C1,sl A3 N3 C3])] w0 (Q0 w0 B res):=by
 unfold f_u at hm
 refine goG func135 z z z fun fn hr=>Ws<|E z (fb z) ?_
 rintro _ L ⟨rfl,hn⟩;have h4:=hn.below;refine E z (fb z) ?_;rintro _ wd ⟨rfl,ho⟩;have h3:=ho.below;have ha:Blk wd L.z (vR x2 A2 N2 C2 A4 N4 C4 A1 N1 C1 A3 N3 C3):=ho.blk;refine Rw z<|Wq<|Wq ?_
 obtain ⟨aj,hup,hmq⟩:=bdS hm;refine Wt (fun a w=>∃(xg:Bool),xg=aj/\Sat 59 [(2,pt w0.z),(3,pt L.z),(20,vB xg)] a/\Below wd.z wd w) ?_ ?_
 ·refine Wg<|Rf z K_ z<|R z (l0 z_ z<|ha.at z) ?_
  have ht:=(h4.ag B).e h3;refine R z (lnR q_ z<|V.g ht)<|Rf z a_r z<|R z (l0 z_ z<|ha.at z) ?_
  have hh:=J.g ht;refine R z (lnR q_ z hh)<|R z (add_ z z)<|R z (nq z z)<|Rm z ?_
  rcases bs ((x2.kids.length:Int) != (h_ (x2.tags.length:Int) 1)) with I | I
  ·iterate 5 refine Nh z I ?_
   exact R z (pT z I z)<|Wl (fun _ q=>⟨true,som<|ifT hup I,q.k<|s3 z z z,br wd⟩)
  refine Rh z I (fd a_r z)<|Rh z I (l0 z_ z<|ha.at z)<|Rh z I (lnR q_ z hh) ?_
  obtain ⟨ak,al,a3⟩:=bdS<|ifF hup I;refine Eg z z I z (fc call27 z<|a_T al (zt' O<|lt_ h4.s h3.s) (a_t<|repS.len hh) (ii z)<|ii z) ?_;rintro _ _ ⟨am,rfl⟩;exact Rh z I (not_ z)<|R z (pF z I z)<|Wl (fun _ q=>⟨!ak,som a3,q.k<|s3 z z z,am⟩)
 rintro an wb ⟨xg,rfl,_,s5⟩;revert an;refine Wo<|Wc z (fun hci=>?_) (fun hci=>?_)
 ·refine Ws<|Rw z ?_
  obtain rfl:=som<|ifT hmq hci;exact Wr<|f_ hr z ⟨bup (bup h4 h3) s5,z⟩
 refine Wk<|Wq<|Ws<|Rw z ?_
 obtain ⟨_,a4,hmr⟩:=bdS<|ifF hmq hci;refine Wf (σ:=Unit) (ρ:=Bool) (fun (ke:Nat)(_:Unit) a w=>Sat 59 [(2,pt w0.z),(3,pt L.z),(5,vI ((ke:Nat):Int))] a/\Below wb.z wb w) (fun (_:Unit) a w=>Sat 59 [] a/\Below wb.z wb w) (rQ prog fn<|Q0 w0 B) a4 ?_ ?_ ?_ ?_ ?_
 ·exact fun _ q=>⟨q.k<|s3 z z z,br wb⟩
 ·rintro ke _ _ ws _ hku ⟨a5,s7⟩ a6;refine Wu ?_ a5;refine Wq<|Wm z<|Rf z a_r z ?_
  have hv:=(ha.e s5).e s7;refine R z (l0 z_ z<|hv.at z) ?_;have hw:=(((h4.ag B).e h3).e s5).e s7;refine R z (lnR q_ z<|J.g hw)<|Rl z z z<|Wx z (fun _=>?_) (fun hc=>(a_4 hku hc).elim)
  refine Wk<|Wq<|Wb<|Wq ?_
  obtain ⟨ao,a7,hmx⟩:=bdS a6;refine Wt (fun a w=>∃(xj:Bool),xj=ao/\Sat 59 [(2,pt w0.z),(3,pt L.z),(5,vI ((ke:Nat):Int)),(58,vB xj)] a/\Below ws.z ws w) ?_ ?_
  ·refine Wd (X:=noX) 0 (pl_ 31 [10,11]) mo (by kernel_rfl) fun aT s6 _=>dR z z (fd a_r z) ?_
   have hk:=hv.e s6;refine dR z z (l0 z_ z<|hk.at z)<|dM z z z ?_
   obtain ⟨_,ap,a8⟩:=bdS a7;have hf:=hw.e s6;refine dRX z z (at_ (α:=Int) q_ z_3 z z z (J.g hf) ap) ?_;rintro _ ⟨_,_,_,rfl,aq,ar,_⟩;obtain ⟨rfl,au⟩:=J_ ar;refine dR z z (l0 g_3 z<|aq.at0 z)<|dR z z (lN (vs:=[sl A0 N0 C0]) s_ p_ z z fid<|(((((hn.blk:Blk L w0.z [sl A0 N0 C0]).e h3).e s5).e s7).e s6).row 0 1 z)<|dR z z (fd K_ z)<|dR z z (l0 z_ z<|hk.at z) ?_
   obtain ⟨_,av,a9⟩:=bdS a8;refine dRX z z (at_ (α:=Int) q_ z_3 z z z (V.g hf) av) ?_;rintro _ ⟨_,_,_,rfl,aw,ax,_⟩;obtain ⟨rfl,ay⟩:=J_ ax;refine dR z z (l0 g_3 z<|aw.at0 z) ?_;have hy:=lt_ (lt_ (lt_ (lt_ h4.s h3.s) s5.s) s7.s) s6.s;obtain ⟨_,az,aa⟩:=bdS a9;refine dE z z (fc call133 z<|i_O az (zt' O hy) (a2.g hf) ay) (.inr fun _ _ h=>B_<|h.1) ?_;rintro _ _ ⟨s8,rfl,aA⟩;obtain ⟨aB,aC,hmz⟩:=bdS aa;refine dE z z (fc call27 z<|a_T aC (zt' O<|lt_ hy s8.s) au (ii z) aA) (.inr fun _ _ h=>B_<|h.1) ?_;rintro _ _ ⟨sc,rfl⟩;refine dR z z (not_ z)<|dM z z z ?_
   rcases bs (!aB) with H | H
   ·iterate 3 refine dRn z z z H z ?_
    iterate 12 refine dRu z z z z ?_
    exact dRn z z z H z<|dR z z (pT z H z)<|pD (fun _ q=>⟨true,som<|ifT hmz H,q.k<|s4 z z z z,bup (bup s6 s8) sc⟩)
   have W:=ifF hmz H;refine dRg z z z H z (mv z)<|dRg z z z H z (a_d z z)<|dRg z z z H z (mv z) ?_
   rcases bs (decide<|0<((ke:Nat):Int)) with G | G
   ·refine dRg z z z G z (fd a_r z) ?_;have Y:=(hk.e s8).e sc;refine dRg z z z G z (l0 z_ z<|Y.at z)<|dRg z z z G z (mv z)<|dRg z z z G z (sb_ z z) ?_
    obtain ⟨aD,aE,ab⟩:=bdS<|ifT W G;have a0:=J.g<|(hf.e s8).e sc
    refine b_W z z z G z (at_ (α:=Int) q_ z_3 z z z a0 aE) ?_;rintro _ ⟨_,_,_,rfl,aF,aG,_⟩;obtain ⟨rfl,_⟩:=J_ aG;refine dRg z z z G z (l0 g_3 z<|aF.at0 z)<|dRg z z z G z (fd a_r z)<|dRg z z z G z (l0 z_ z<|Y.at z)<|dRg z z z G z (mv z) ?_
    obtain ⟨aH,aI,ad⟩:=bdS ab;refine b_W z z z G z (at_ (α:=Int) q_ z_3 z z z a0 aI) ?_;rintro _ ⟨_,_,_,rfl,aJ,aK,_⟩;obtain ⟨rfl,_⟩:=J_ aK;exact dRg z z z G z (l0 g_3 z<|aJ.at0 z)<|dRg z z z G z (b_e z z)<|dRg z z z H z (pT z G z)<|dR z z (pF z H z)<|pD (fun _ q=>⟨decide<|aH<=aD,som ad,q.k<|s4 z z z z,bup (bup s6 s8) sc⟩)
   iterate 12 refine dRn z z z G z ?_
   exact dRg z z z H z (pF z G z)<|dR z z (pF z H z)<|pD (fun _ q=>⟨false,som<|ifF W G,q.k<|s4 z z z z,bup (bup s6 s8) sc⟩)
  rintro aL _ ⟨xj,rfl,_,a1⟩;revert aL;refine Wo<|Wc z (fun hcl=>?_) (fun hcl=>?_)
  ·exact Ws<|Rw z<|Wr<|rtO<|qL (som<|ifT hmx hcl).symm<|f_ hr z ⟨bup (bup (bup (bup h4 h3) s5) s7) a1,z⟩
  exact Wk<|Wg<|Rm z<|R z (inc_ hku (lt_ (repS.len J) L_) z z)<|Ra z<|Wl (fun _ q=>⟨(),(som<|ifF hmx hcl).symm,⟨q.k<|s3 z z z,bup s7 a1⟩⟩)
 ·rintro _ _ _ ⟨ae,sm⟩;refine Wu ?_ ae;refine Wq<|Wm z<|Rf z a_r z<|R z (l0 z_ z<|((ha.e s5).e sm).at z)<|R z (lnR q_ z<|J.g<|(((h4.ag B).e h3).e s5).e sm)<|Rl z z z<|Wx z (fun hc=>(a_5 hc).elim) (fun _=>?_)
  exact We<|fun _ q=>⟨rfl,⟨q.k sn,sm⟩⟩
 ·rintro _ aM _ rfl ⟨_,aN⟩;have af:=elL hmr;revert aM;refine Wo<|Ws<|Rw z ?_
  obtain rfl:=som af;exact Wr<|f_ hr z ⟨bup (bup (bup h4 h3) s5) aN,z⟩
 rintro _ _ _ _ rfl ⟨rfl,ah⟩;have ai:=elR hmr;obtain rfl:=som ai;exact ⟨ah,z⟩
theorem W_w26 {x1:d_}{x2:g_}{res:Bool}(hm:f_v x1 x2=some res)(I:B<=w0.z)(a8:repS w0 B (sl A0 N0 C0) x1.rules)(a2:x2.name.b.length<=LEN)(a3:inI x2.kind)(V:inI x2.size)(W:repS w0 B (sl A2 N2 C2) x2.bytes)(a0:repS w0 B (sl A4 N4 C4) x2.names)(a4:repS w0 B (sl A1 N1 C1) x2.tags)(Y:repS w0 B (sl A3 N3 C3) x2.kids):j_ prog 122 [(.agg #[sl A0 N0 C0]),(.agg #[Str.v x2.name,vI x2.kind,vI x2.size,vB x2.little,sl A2 N2 C2,sl A4 N4 C4,sl A1 N1 C1,sl A3 N3 C3])] w0 (Q0 w0 B res):=by
 unfold f_v at hm
 refine goG func122 z z z fun fn hr=>Ws<|E z (fb z) ?_
 rintro _ al ⟨rfl,aT⟩;have h1:=aT.below;have am:Blk al w0.z [sl A0 N0 C0]:=aT.blk;refine E z (fb z) ?_;rintro _ H ⟨rfl,aU⟩;have G:=aU.below;have h3:Blk H al.z (vR x2 A2 N2 C2 A4 N4 C4 A1 N1 C1 A3 N3 C3):=aU.blk;refine Rw z<|Wq<|Ws<|Rf z a_i z<|R z (l0 g_3 z<|h3.at z)<|Wn<|Wb<|Ws<|Rq z z z<|Rw z<|Wc z (fun a9=>?_) (fun a9=>?_)
 ·refine Wq ?_;obtain ⟨bK,bg,bh⟩:=bdS<|ifT hm a9;refine Wt (fun a w=>∃(an:Bool),an=bK/\Sat 114 [(4,vB an)] a/\Below H.z H w) ?_ ?_
  ·refine Wg<|R z (lN (vs:=vR x2 A2 N2 C2 A4 N4 C4 A1 N1 C1 A3 N3 C3) I_ k_ z z fid<|h3.row 0 8 z) ?_
   have hw:=(h1.ag B).e G;have aV:=lt_ h1.s G.s;obtain ⟨bL,bM,az⟩:=bdS bg;refine E z (fc call132 z<|c_K bM (zt' I aV) a2 a3 V (W.g hw) (a0.g hw) (a4.g hw) (Y.g hw)<|ii z) ?_;rintro _ _ ⟨sg,rfl⟩;refine Rm z ?_
   rcases bs bL with hca | hca
   ·refine Rh z hca (fd a_z z) ?_;have aW:=h3.e sg;refine Rh z hca (l0 g_3 z<|aW.at z) ?_;obtain ⟨bN,bO,aA⟩:=bdS<|ifT az hca;refine Eg z z hca z (fc call27 z<|a_T bO (zt' I<|lt_ aV sg.s) V (ii z)<|ii z) ?_;rintro _ _ ⟨sx,rfl⟩;refine R z (pT z hca z)<|Rm z ?_
    rcases bs bN with O | O
    ·have aB:=ifT aA O;refine Rh z O (fd c_q z) ?_;have aX:=aW.e sx;refine Rh z O (l0 g_4 z<|aX.at z)<|Rh z O (not_ z)<|Rh z O (mv z) ?_
     rcases bs (!x2.little) with hcb | hcb
     ·iterate 3 refine Nh z hcb ?_
      exact Rh z O (pT z hcb z)<|R z (pT z O z)<|Ra z<|Wl (fun _ q=>⟨true,som<|ifT aB hcb,q.k<|s1 z,bup sg sx⟩)
     exact Rh z hcb (fd a_z z)<|Rh z hcb (l0 g_3 z<|aX.at z)<|Rh z hcb (a_d z z)<|Rh z O (pF z hcb z)<|R z (pT z O z)<|Ra z<|Wl (fun _ q=>⟨decide<|1<x2.size,som<|ifF aB hcb,q.k<|s1 z,bup sg sx⟩)
    iterate 4 refine Nh z O ?_
    exact Nv z<|Nv z<|Nv z<|Nh z O<|R z (pF z O z)<|Ra z<|Wl (fun _ q=>⟨false,som<|ifF aA O,q.k<|s1 z,bup sg sx⟩)
   iterate 3 refine Nh z hca ?_
   exact R z (pF z hca z)<|Rm z<|Nh z z<|Nh z z<|Nh z z<|Nh z z<|Nv z<|Nv z<|Nv z<|Nh z z<|R z (pF z z z)<|Ra z<|Wl (fun _ q=>⟨false,som<|ifF az hca,q.k<|s1 z,sg⟩)
  rintro bP _ ⟨an,rfl,_,bQ⟩;revert bP;refine Wo ?_;obtain rfl:=som bh;exact Wr<|rtO<|f_ hr z ⟨bup (bup h1 G) bQ,z⟩
 have aC:=ifF hm a9;refine Ws<|Rq z z z<|Rw z<|Wc z (fun aa=>?_) (fun aa=>?_)
 ·refine Wq ?_;obtain ⟨bR,bi,bj⟩:=bdS<|ifT aC aa;refine Wt (fun a w=>∃(ao:Bool),ao=bR/\Sat 114 [(4,vB ao)] a/\Below H.z H w) ?_ ?_
  ·refine Wg<|R z (lN (vs:=vR x2 A2 N2 C2 A4 N4 C4 A1 N1 C1 A3 N3 C3) I_ k_ z z fid<|h3.row 0 8 z) ?_
   have hl:=(h1.ag B).e G;have aY:=lt_ h1.s G.s;obtain ⟨bS,bT,aD⟩:=bdS bi;refine E z (fc call132 z<|c_K bT (zt' I aY) a2 a3 V (W.g hl) (a0.g hl) (a4.g hl) (Y.g hl)<|ii z) ?_;rintro _ _ ⟨sn,rfl⟩;refine Rm z ?_
   rcases bs bS with a5 | a5
   ·refine Rh z a5 (fd a_D z)<|Rh z a5 (l0 Q_ z<|(h3.e sn).at z) ?_
    have aZ:=W.g<|hl.e sn
    refine Rh z a5 (lnR l_ z aZ) ?_;obtain ⟨bU,bV,bk⟩:=bdS<|ifT aD a5;refine Eg z z a5 z (fc call27 z<|a_T bV (zt' I<|lt_ aY sn.s) (a_t<|repS.len aZ) (ii z)<|ii z) ?_;rintro _ _ ⟨bW,rfl⟩;exact R z (pT z a5 z)<|Ra z<|Wl (fun _ q=>⟨bU,som bk,q.k<|s1 z,bup sn bW⟩)
   iterate 4 refine Nh z a5 ?_
   exact R z (pF z a5 z)<|Ra z<|Wl (fun _ q=>⟨false,som<|ifF aD a5,q.k<|s1 z,sn⟩)
  rintro bX _ ⟨ao,rfl,_,bY⟩;revert bX;refine Wo ?_;obtain rfl:=som bj;exact Wr<|rtO<|f_ hr z ⟨bup (bup h1 G) bY,z⟩
 have aE:=ifF aC aa;refine Ws<|Rq z z z<|Rw z<|Wc z (fun ab=>?_) (fun ab=>?_)
 ·refine Wq ?_;obtain ⟨bZ,bm,bn⟩:=bdS<|ifT aE ab;refine Wt (fun a w=>∃(ap:Bool),ap=bZ/\Sat 114 [(4,vB ap)] a/\Below H.z H w) ?_ ?_
  ·refine Wg<|R z (lN (vs:=vR x2 A2 N2 C2 A4 N4 C4 A1 N1 C1 A3 N3 C3) I_ k_ z z fid<|h3.row 0 8 z) ?_
   have hy:=(h1.ag B).e G;have b0:=lt_ h1.s G.s;obtain ⟨c0,c1,aF⟩:=bdS bm;refine E z (fc call132 z<|c_K c1 (zt' I b0) a2 a3 V (W.g hy) (a0.g hy) (a4.g hy) (Y.g hy)<|ii z) ?_;rintro _ _ ⟨sz,rfl⟩;refine Rm z ?_
   rcases bs c0 with hcc | hcc
   ·refine Rh z hcc (fd a_z z)<|Rh z hcc (l0 g_3 z<|(h3.e sz).at z) ?_
    obtain ⟨c2,c3,bo⟩:=bdS<|ifT aF hcc;refine Eg z z hcc z (fc call27 z<|a_T c3 (zt' I<|lt_ b0 sz.s) V (ii z)<|ii z) ?_;rintro _ _ ⟨c4,rfl⟩;exact R z (pT z hcc z)<|Ra z<|Wl (fun _ q=>⟨c2,som bo,q.k<|s1 z,bup sz c4⟩)
   iterate 3 refine Nh z hcc ?_
   exact R z (pF z hcc z)<|Ra z<|Wl (fun _ q=>⟨false,som<|ifF aF hcc,q.k<|s1 z,sz⟩)
  rintro c5 _ ⟨ap,rfl,_,c6⟩;revert c5;refine Wo ?_;obtain rfl:=som bn;exact Wr<|rtO<|f_ hr z ⟨bup (bup h1 G) c6,z⟩
 have aG:=ifF aE ab;refine Ws<|Rq z z z<|Rw z<|Wc z (fun ad=>?_) (fun ad=>?_)
 ·refine Wq ?_;obtain ⟨c7,bp,bq⟩:=bdS<|ifT aG ad;refine Wt (fun a w=>∃(aq:Bool),aq=c7/\Sat 114 [(4,vB aq)] a/\Below H.z H w) ?_ ?_
  ·refine Wd (X:=noX) 0 (pl_ 12 [1,8]) mo (by kernel_rfl) fun cZ sh _=>?_
   have b3:=h3.e sh;refine dR z z (lN (vs:=vR x2 A2 N2 C2 A4 N4 C4 A1 N1 C1 A3 N3 C3) I_ k_ z z fid<|b3.row 0 8 z) ?_;have ho:=((h1.ag B).e G).e sh;have b4:=lt_ (lt_ h1.s G.s) sh.s;obtain ⟨c8,c9,aH⟩:=bdS bp;refine dE z z (fc call132 z<|c_K c9 (zt' I b4) a2 a3 V (W.g ho) (a0.g ho) (a4.g ho) (Y.g ho)<|ii z) (.inr fun _ _ h=>B_<|h.1) ?_;rintro _ _ ⟨si,rfl⟩;refine dM z z z ?_
   rcases bs c8 with J | J
   ·refine dRg z z z J z (lN (vs:=[sl A0 N0 C0]) s_ p_ z z fid<|(((am.e G).e sh).e si).row 0 1 z)<|dRg z z z J z (fd K_ z)<|dRg z z z J z (l0 z_ z<|(b3.e si).at z) ?_
    obtain ⟨_,ca,bt⟩:=bdS<|ifT aH J;have b5:=ho.e si;refine b_W z z z J z (at_ (α:=Int) q_ z_3 z z z (Y.g b5) ca) ?_;rintro _ ⟨_,_,_,rfl,cb,cc,_⟩;obtain ⟨rfl,cd⟩:=J_ cc;refine dRg z z z J z (l0 g_3 z<|cb.at0 z) ?_;obtain ⟨ce,cf,bu⟩:=bdS bt;refine dEg z z z J z (fc call133 z<|i_O cf (zt' I<|lt_ b4 si.s) (a8.g b5) cd) (.inr fun _ _ h=>B_<|h.1) ?_;rintro _ _ ⟨cg,rfl,_⟩;exact dRg z z z J z (a_d z z)<|dR z z (pT z J z)<|dQ z z z<|pD (fun _ q=>⟨decide<|0<ce,som bu,q.k<|s1 z,bup (bup sh si) cg⟩)
   iterate 5 refine dRn z z z J z ?_
   exact dEn z z z J z<|dRn z z z J z<|dR z z (pF z J z)<|dQ z z z<|pD (fun _ q=>⟨false,som<|ifF aH J,q.k<|s1 z,bup sh si⟩)
  rintro ch _ ⟨aq,rfl,_,ci⟩;revert ch;refine Wo ?_;obtain rfl:=som bq;exact Wr<|rtO<|f_ hr z ⟨bup (bup h1 G) ci,z⟩
 have aI:=ifF aG ad;refine Ws<|Rq z z z<|Rw z<|Wc z (fun ae=>?_) (fun ae=>?_)
 ·refine Wq ?_;obtain ⟨cj,bv,bw⟩:=bdS<|ifT aI ae;refine Wt (fun a w=>∃(ar:Bool),ar=cj/\Sat 114 [(4,vB ar)] a/\Below H.z H w) ?_ ?_
  ·refine Wd (X:=noX) 0 (pl_ 12 [1,8]) mo (by kernel_rfl) fun d0 sj _=>?_
   have b6:=h3.e sj;refine dR z z (lN (vs:=vR x2 A2 N2 C2 A4 N4 C4 A1 N1 C1 A3 N3 C3) I_ k_ z z fid<|b6.row 0 8 z) ?_;have hp:=((h1.ag B).e G).e sj;have b7:=lt_ (lt_ h1.s G.s) sj.s;obtain ⟨ck,cl,aJ⟩:=bdS bv;refine dE z z (fc call132 z<|c_K cl (zt' I b7) a2 a3 V (W.g hp) (a0.g hp) (a4.g hp) (Y.g hp)<|ii z) (.inr fun _ _ h=>B_<|h.1) ?_;rintro _ _ ⟨sk,rfl⟩;refine dM z z z ?_
   rcases bs ck with L | L
   ·refine dRg z z z L z (lN (vs:=[sl A0 N0 C0]) s_ p_ z z fid<|(((am.e G).e sj).e sk).row 0 1 z)<|dRg z z z L z (fd K_ z)<|dRg z z z L z (l0 z_ z<|(b6.e sk).at z) ?_
    obtain ⟨_,cm,bx⟩:=bdS<|ifT aJ L;have b8:=hp.e sk;refine b_W z z z L z (at_ (α:=Int) q_ z_3 z z z (Y.g b8) cm) ?_;rintro _ ⟨_,_,_,rfl,cn,co,_⟩;obtain ⟨rfl,cp⟩:=J_ co;refine dRg z z z L z (l0 g_3 z<|cn.at0 z) ?_;obtain ⟨cq,cr,bz⟩:=bdS bx;refine dEg z z z L z (fc call133 z<|i_O cr (zt' I<|lt_ b7 sk.s) (a8.g b8) cp) (.inr fun _ _ h=>B_<|h.1) ?_;rintro _ _ ⟨ct,rfl,_⟩;exact dRg z z z L z (a_d z z)<|dR z z (pT z L z)<|dQ z z z<|pD (fun _ q=>⟨decide<|0<cq,som bz,q.k<|s1 z,bup (bup sj sk) ct⟩)
   iterate 5 refine dRn z z z L z ?_
   exact dEn z z z L z<|dRn z z z L z<|dR z z (pF z L z)<|dQ z z z<|pD (fun _ q=>⟨false,som<|ifF aJ L,q.k<|s1 z,bup sj sk⟩)
  rintro cu _ ⟨ar,rfl,_,cv⟩;revert cu;refine Wo ?_;obtain rfl:=som bw;exact Wr<|rtO<|f_ hr z ⟨bup (bup h1 G) cv,z⟩
 have aK:=ifF aI ae;refine Ws<|Rq z z z<|Rw z<|Wc z (fun af=>?_) (fun af=>?_)
 ·refine Wq ?_;obtain ⟨cw,bA,bB⟩:=bdS<|ifT aK af;refine Wt (fun a w=>∃(au:Bool),au=cw/\Sat 114 [(4,vB au)] a/\Below H.z H w) ?_ ?_
  ·refine Wg<|R z (lN (vs:=vR x2 A2 N2 C2 A4 N4 C4 A1 N1 C1 A3 N3 C3) I_ k_ z z fid<|h3.row 0 8 z)<|Rf z b_H z<|R z (l0 b_Q z<|h3.at z) ?_
   have hq:=(h1.ag B).e G;have av:=a0.g hq;refine R z (lnR a_k z av) ?_;have b9:=lt_ h1.s G.s;obtain ⟨cx,cy,aL⟩:=bdS bA;refine E z (fc call132 z<|c_K cy (zt' I b9) a2 a3 V (W.g hq) av (a4.g hq) (Y.g hq)<|a_t<|repS.len av) ?_;rintro _ _ ⟨sr,rfl⟩;refine Rm z ?_
   rcases bs cx with hcd | hcd
   ·refine Rh z hcd (fd b_H z)<|Rh z hcd (l0 b_Q z<|(h3.e sr).at z) ?_
    obtain ⟨cz,cA,bC⟩:=bdS<|ifT aL hcd;refine Eg z z hcd z (fc call134 z<|W_w24 cA (zt' I<|lt_ b9 sr.s)<|a0.g<|hq.e sr) ?_;rintro _ _ ⟨cB,rfl⟩;exact R z (pT z hcd z)<|Ra z<|Wl (fun _ q=>⟨cz,som bC,q.k<|s1 z,bup sr cB⟩)
   iterate 3 refine Nh z hcd ?_
   exact R z (pF z hcd z)<|Ra z<|Wl (fun _ q=>⟨false,som<|ifF aL hcd,q.k<|s1 z,sr⟩)
  rintro cC _ ⟨au,rfl,_,cD⟩;revert cC;refine Wo ?_;obtain rfl:=som bB;exact Wr<|rtO<|f_ hr z ⟨bup (bup h1 G) cD,z⟩
 have aM:=ifF aK af;refine Ws<|Rq z z z<|Rw z<|Wc z (fun ah=>?_) (fun ah=>?_)
 ·refine Wq ?_;obtain ⟨cE,bD,bE⟩:=bdS<|ifT aM ah;refine Wt (fun a w=>∃(aw:Bool),aw=cE/\Sat 114 [(4,vB aw)] a/\Below H.z H w) ?_ ?_
  ·refine Wg<|R z (lN (vs:=vR x2 A2 N2 C2 A4 N4 C4 A1 N1 C1 A3 N3 C3) I_ k_ z z fid<|h3.row 0 8 z) ?_
   have ht:=(h1.ag B).e G;have ba:=lt_ h1.s G.s;obtain ⟨cF,cG,aN⟩:=bdS bD;refine E z (fc call132 z<|c_K cG (zt' I ba) a2 a3 V (W.g ht) (a0.g ht) (a4.g ht) (Y.g ht)<|ii z) ?_;rintro _ _ ⟨sm,rfl⟩;refine Rm z ?_
   rcases bs cF with hce | hce
   ·refine Rh z hce (lN (vs:=[sl A0 N0 C0]) s_ p_ z z fid<|((am.e G).e sm).row 0 1 z)<|Rh z hce (lN (vs:=vR x2 A2 N2 C2 A4 N4 C4 A1 N1 C1 A3 N3 C3) I_ k_ z z fid<|(h3.e sm).row 0 8 z) ?_
    have hu:=ht.e sm;obtain ⟨cH,cI,bF⟩:=bdS<|ifT aN hce;refine Eg z z hce z (fc call135 z<|W_w25 cI (zt' I<|lt_ ba sm.s) (a8.g hu) a2 a3 V (W.g hu) (a0.g hu) (a4.g hu)<|Y.g hu) ?_;rintro _ _ ⟨cJ,rfl⟩;exact R z (pT z hce z)<|Ra z<|Wl (fun _ q=>⟨cH,som bF,q.k<|s1 z,bup sm cJ⟩)
   iterate 3 refine Nh z hce ?_
   exact R z (pF z hce z)<|Ra z<|Wl (fun _ q=>⟨false,som<|ifF aN hce,q.k<|s1 z,sm⟩)
  rintro cK _ ⟨aw,rfl,_,cL⟩;revert cK;refine Wo ?_;obtain rfl:=som bE;exact Wr<|rtO<|f_ hr z ⟨bup (bup h1 G) cL,z⟩
 refine Wq<|Ws<|Rq z z z<|Rw z ?_
 obtain ⟨cM,aO,aP⟩:=bdS<|ifF aM ah;refine Wt (fun a w=>∃(ax:Bool),ax=cM/\Sat 114 [(3,pt al.z),(6,vI x2.kind),(92,vB ax)] a/\Below H.z H w) ?_ ?_
 ·refine Wc z (fun ai=>?_)<|fun ai=>?_
  ·exact M_<|fun _ q=>⟨x2.kind==8,som<|ifT aO ai,q.k<|s3 z z z,br H⟩
  exact Wg<|Rq z z z<|Ra z<|Wl (fun _ q=>⟨x2.kind==9,som<|ifF aO ai,q.k<|s3 z z z,br H⟩)
 rintro cN bb ⟨ax,rfl,_,sf⟩;revert cN;refine Wo<|Wc z (fun aj=>?_) (fun aj=>?_)
 ·refine Ws<|R z (lN (vs:=vR x2 A2 N2 C2 A4 N4 C4 A1 N1 C1 A3 N3 C3) I_ k_ z z fid<|(h3.e sf).row 0 8 z) ?_
  have a7:=((h1.ag B).e G).e sf;obtain ⟨_,cO,bG⟩:=bdS<|ifT aP aj;refine E z (fc call132 z<|c_K cO (zt' I<|lt_ (lt_ h1.s G.s) sf.s) a2 a3 V (W.g a7) (a0.g a7) (a4.g a7) (Y.g a7)<|ii z) ?_;rintro _ _ ⟨cP,rfl⟩;refine Rw z ?_
  obtain rfl:=som bG;exact Wr<|rtO<|f_ hr z ⟨bup (bup (bup h1 G) sf) cP,z⟩
 have aQ:=ifF aP aj;refine Ws<|Rq z z z<|Rw z<|Wc z (fun ak=>?_) (fun ak=>?_)
 ·refine Wq ?_;obtain ⟨cQ,bH,bI⟩:=bdS<|ifT aQ ak;refine Wt (fun a w=>∃(ay:Bool),ay=cQ/\Sat 114 [(4,vB ay)] a/\Below bb.z bb w) ?_ ?_
  ·refine Wg ?_;have bc:=h3.e sf;refine R z (lN (vs:=vR x2 A2 N2 C2 A4 N4 C4 A1 N1 C1 A3 N3 C3) I_ k_ z z fid<|bc.row 0 8 z) ?_;have hv:=((h1.ag B).e G).e sf;obtain ⟨cR,cS,aR⟩:=bdS bH;refine E z (fc call132 z<|c_K cS (zt' I<|lt_ (lt_ h1.s G.s) sf.s) a2 a3 V (W.g hv) (a0.g hv) (a4.g hv) (Y.g hv)<|ii z) ?_;rintro _ _ ⟨ss,rfl⟩;refine Rm z ?_
   rcases bs cR with a6 | a6
   ·have aS:=ifT aR a6;refine Rh z a6 (fd a_D z) ?_;have be:=bc.e ss;refine Rh z a6 (l0 Q_ z<|be.at z) ?_;have bf:=W.g<|hv.e ss
    refine Rh z a6 (lnR l_ z bf)<|Rh z a6 (eql z z)<|R z (pT z a6 z)<|Rm z ?_
    rcases bs ((x2.bytes.length:Int)==1) with a1 | a1
    ·refine Rh z a1 (fd a_D z)<|Rh z a1 (l0 Q_ z<|be.at z) ?_
     obtain ⟨cT,cU,bJ⟩:=bdS<|ifT aS a1;refine RXg z z a1 z (at_ (α:=UInt8) l_ z_5 z z z bf cU) ?_;rintro _ ⟨_,_,_,rfl,cV,cW,_⟩;obtain rfl:=u8 cW;exact Rh z a1 (l0 g_5 z<|cV.at0 z)<|Rh z a1 (nq z z)<|R z (pT z a1 z)<|Ra z<|Wl (fun _ q=>⟨(byteI cT) != (byteI (92:UInt8)),som bJ,q.k<|s1 z,ss⟩)
    iterate 5 refine Nh z a1 ?_
    exact R z (pF z a1 z)<|Ra z<|Wl (fun _ q=>⟨false,som<|ifF aS a1,q.k<|s1 z,ss⟩)
   iterate 4 refine Nh z a6 ?_
   exact R z (pF z a6 z)<|Rm z<|Nh z z<|Nh z z<|Nh z z<|Nh z z<|Nh z z<|R z (pF z z z)<|Ra z<|Wl (fun _ q=>⟨false,som<|ifF aR a6,q.k<|s1 z,ss⟩)
  rintro cX _ ⟨ay,rfl,_,cY⟩;revert cX;refine Wo ?_;obtain rfl:=som bI;exact Wr<|rtO<|f_ hr z ⟨bup (bup (bup h1 G) sf) cY,z⟩
 refine Wk<|Ws<|Rw z ?_
 obtain rfl:=som<|ifF aQ ak;exact Wr<|f_ hr z ⟨bup (bup h1 G) sf,z⟩
theorem W_w27 {x1:d_}{x2:Int}{res:Bool}(hm:f_w x1 x2=some res)(J:B<=w0.z)(O:repS w0 B (sl A0 N0 C0) x1.rules)(a0:inI x2):j_ prog 112 [(.agg #[sl A0 N0 C0]),vI x2] w0 (Q0 w0 B res):=by
 unfold f_w at hm
 refine goG func112 z z z fun fn hr=>Ws<|E z (fb z) ?_
 rintro _ aO ⟨rfl,a9⟩;have h1:=a9.below;have he:Blk aO w0.z [sl A0 N0 C0]:=a9.blk;refine Rw z<|Wq<|Wm z<|Rf z N_ z<|R z (l0 R_ z<|he.at z)<|R z (lnR P_ z<|O.e h1)<|R z (sb_ z z) ?_
 obtain ⟨_,aP,a1⟩:=bdS hm;refine E z (fc call27 z<|a_T aP (zt' J h1.s) a0 (ii z)<|iS _ _) ?_;rintro _ I ⟨G,rfl⟩;refine R z (not_ z)<|Wx z (fun hci=>?_) (fun hci=>?_)
 ·refine Ws<|Rw z ?_
  obtain rfl:=som<|ifT a1 hci;exact Wr<|f_ hr z ⟨bup h1 G,z⟩
 refine Wk<|Ws<|Rf z N_ z ?_
 have hj:=he.e G;refine R z (l0 R_ z<|hj.at z)<|Rm z ?_
 obtain ⟨xk,aQ,ar⟩:=bdS<|ifF a1 hci;have hl:=(h1.ag B).e G;refine RX z (at_ (α:=g_) P_ k_ z z z (O.g hl) aQ) ?_;rintro _ ⟨_,_,_,rfl,aR,aS,_⟩;obtain ⟨am,nn,co,ap,nq,cr,au,ns,ct,av,nw,cx,rfl,aa,aT,aU,aV,aW,aX,hf⟩:=a_j aS;refine R z (lN (vs:=vR xk am nn co ap nq cr au ns ct av nw cx) I_ k_ z z fid aR)<|E z (fa b_h) ?_
 rintro _ aY ⟨rfl,ab⟩;have h2:=ab.below;refine E0 (fs0 (cur':=vR xk am nn co ap nq cr au ns ct av nw cx) k_ z z (ab.blk:Blk aY I.z [(Str.v (⟨[]⟩:Str)),vI 0,vI 0,vB false,sl none 0 0,sl none 0 0,sl none 0 0,sl none 0 0]) z z z z) ?_;rintro _ L ⟨hg,aZ⟩;have h3:=aZ.one;refine Wn<|Wq<|Ws<|Rw z ?_
 obtain ⟨_,aw,a2⟩:=bdS ar;refine Wf (σ:=Unit) (ρ:=Bool) (fun (ad:Nat)(_:Unit) a w=>Sat 58 [(1,vI x2),(2,pt w0.z),(5,pt I.z),(6,vI ((ad:Nat):Int))] a/\Below L.z L w) (fun (_:Unit) a w=>Sat 58 [(1,vI x2),(2,pt w0.z),(5,pt I.z)] a/\Below L.z L w) (rQ prog fn<|Q0 w0 B) aw ?_ ?_ ?_ ?_ ?_
 ·exact fun _ q=>⟨q.k<|s4 z z z z,br L⟩
 ·rintro ad _ _ _ _ a3 ⟨ax,sa⟩ ay;refine Wu ?_ ax;refine Wq<|Wm z<|Rm z<|Rl z z z<|Wx z (fun _=>?_) (fun hc=>(g_q a3 hc).elim)
  refine Wk<|Wq<|Wb<|Wq (Wd (X:=noX) 0 (pl_ 9 []) mo (by kernel_rfl) fun bn sb _=>dR z z (fd N_ z)<|dR z z (l0 R_ z<|((((hj.e h2).c h3<|djs<|mm1 he.lt G.s).e sa).e sb).at z)<|dM z z z ?_)
  obtain ⟨_,b0,a4⟩:=bdS ay;have ae:=lt_ h1.s G.s;refine dRX z z (at_ (α:=g_) P_ k_ z z z (O.g<|(((hl.e h2).c h3<|c_ (or0 (b_ lr) (i_<|zt' J ae):∀k∈[I.z],¬B k)).e sa).e sb) b0) ?_;rintro _ ⟨_,_,_,rfl,b3,b4,_⟩;obtain ⟨_,_,_,_,_,_,_,_,_,_,_,_,rfl,_,_,_,_,_,_,_⟩:=a_j b4;refine dR z z (fd d_d z)<|dR z z (l0 g_9 z<|b3.at (j:=0) z)<|dR z z (fd d_d z)<|dR z z (l0 g_9 z<|((hg.e sa).e sb).at z)<|dR z z (f_8 z z)<|pD<|Wo<|Wc z (fun hcy=>?_) (fun hcy=>?_)
  ·exact Ws<|Rw z<|Wr<|rtO<|qL (som<|ifT a4 hcy).symm<|f_ hr z ⟨bup (bup (bM (bup (bup h1 G) h2) h3<|m1 ae) sa) sb,z⟩
  exact Wk<|Wg<|Rm z<|R z (inc_ a3 (tl_ a0) z z)<|Ra z<|Wl (fun _ q=>⟨(),(som<|ifF a4 hcy).symm,⟨q.k<|s4 z z z z,bup sa sb⟩⟩)
 ·rintro _ _ _ ⟨az,b5⟩;refine Wu ?_ az;refine Wq<|Wm z<|Rm z<|Rl z z z<|Wx z (fun hc=>(g_r hc).elim) (fun _=>?_)
  exact We<|fun _ q=>⟨rfl,⟨q.k<|s3 z z z,b5⟩⟩
 ·rintro _ b6 wc rfl ⟨_,s5⟩;have aA:=elL a2;revert b6;refine Wo<|Wq<|Ws<|Rw z ?_
  obtain ⟨_,aB,a5⟩:=bdS aA;refine Wf (σ:=Unit) (ρ:=Bool) (fun (af:Nat)(_:Unit) a w=>Sat 58 [(1,vI x2),(2,pt w0.z),(5,pt I.z),(7,vI ((af:Nat):Int))] a/\Below wc.z wc w) (fun (_:Unit) a w=>Sat 58 [(2,pt w0.z),(5,pt I.z)] a/\Below wc.z wc w) (rQ prog fn<|Q0 w0 B) aB ?_ ?_ ?_ ?_ ?_
  ·exact fun _ q=>⟨q.k<|s4 z z z z,br wc⟩
  ·rintro af _ _ _ _ a6 ⟨aC,sd⟩ aD;refine Wu ?_ aC;refine Wq<|Wm z<|Rf z K_ z ?_
   have ah:=(hg.e s5).e sd;refine R z (l0 z_ z<|ah.at z) ?_;have hz:=lt_ h1.s G.s;have ai:=hf.g<|(((h2.ag B).c h3<|c_ (or0 (b_ lr) (i_<|zt' J hz):∀k∈[I.z],¬B k)).e s5).e sd
   refine R z (lnR q_ z ai)<|Rl z z z<|Wx z (fun _=>?_) (fun hc=>(a_4 a6 hc).elim)
   refine Wk<|Wq<|Wb<|Ws<|Rf z K_ z<|R z (l0 z_ z<|ah.at z)<|Rm z ?_
   obtain ⟨_,b7,aE⟩:=bdS aD;refine RX z (at_ (α:=Int) q_ z_3 z z z ai b7) ?_;rintro _ ⟨_,_,_,rfl,b8,b9,_⟩;obtain ⟨rfl,ba⟩:=J_ b9;refine R z (l0 g_3 z<|b8.at0 z)<|Rm z<|R z (sb_ z z) ?_
   obtain ⟨_,bb,a7⟩:=bdS aE;refine E z (fc call27 z<|a_T bb (zt' J<|lt_ (lt_ (lt_ (lt_ hz h2.s) h3.s) s5.s) sd.s) ba (ii z)<|iS _ _) ?_;rintro _ _ ⟨aj,rfl⟩;refine R z (not_ z)<|Wx z (fun V=>?_) (fun V=>?_)
   ·exact Ws<|Rw z<|Wr<|rtO<|qL (som<|ifT a7 V).symm<|f_ hr z ⟨bup (bup (bup (bM (bup (bup h1 G) h2) h3<|m1 hz) s5) sd) aj,z⟩
   exact Wk<|Wg<|Rm z<|R z (inc_ a6 (lt_ (repS.len hf) L_) z z)<|Ra z<|Wl (fun _ q=>⟨(),(som<|ifF a7 V).symm,⟨q.k<|s4 z z z z,bup sd aj⟩⟩)
  ·rintro _ _ _ ⟨aF,W⟩;refine Wu ?_ aF;refine Wq<|Wm z<|Rf z K_ z<|R z (l0 z_ z<|((hg.e s5).e W).at z) ?_
   refine R z (lnR q_ z<|hf.g<|(((h2.ag B).c h3<|c_ (or0 (b_ lr) (i_<|zt' J<|lt_ h1.s G.s):∀k∈[I.z],¬B k)).e s5).e W)<|Rl z z z<|Wx z (fun hc=>(a_5 hc).elim) (fun _=>?_)
   exact We<|fun _ q=>⟨rfl,⟨q.k<|s2 z z,W⟩⟩
  ·rintro _ bc ak rfl ⟨_,s8⟩;have aG:=elL a5;revert bc;refine Wo<|Wq ?_
   obtain ⟨be,aH,aI⟩:=bdS aG;refine Wt (fun a w=>∃(Y:Bool),Y=be/\Sat 58 [(4,vB Y)] a/\Below ak.z ak w) ?_ ?_
   ·refine Wg<|Rf z d_d z ?_
    have al:=(hg.e s5).e s8;refine R z (l0 g_9 z<|al.at z) ?_;have an:=lt_ h1.s G.s;have ao:=lt_ (lt_ (lt_ (lt_ an h2.s) h3.s) s5.s) s8.s;obtain ⟨bf,bg,a8⟩:=bdS aH;refine E z (fc call121 z<|W_w1a bg (zt' J ao) aa) ?_;rintro _ _ ⟨s7,rfl⟩;refine Rm z ?_
    rcases bs bf with H | H
    ·refine Rh z H (lN (vs:=[sl A0 N0 C0]) s_ p_ z z fid<|(((((hj.e h2).c h3<|djs<|mm1 he.lt G.s).e s5).e s8).e s7).row 0 1 z)<|Rh z H (lN (vs:=vR xk am nn co ap nq cr au ns ct av nw cx) I_ k_ z z fid<|(al.e s7).row 0 8 z) ?_
     have aq:∀k∈[I.z],¬B k:=or0 (b_ lr)<|i_<|zt' J an;have hh:=((((h2.ag B).c h3<|c_ aq).e s5).e s8).e s7;obtain ⟨bh,bi,aJ⟩:=bdS<|ifT a8 H;refine Eg z z H z (fc call122 z<|W_w26 bi (zt' J<|lt_ ao s7.s) (O.g<|((((hl.e h2).c h3<|c_ aq).e s5).e s8).e s7) aa aT aU (aV.g hh) (aW.g hh) (aX.g hh)<|hf.g hh) ?_;rintro _ _ ⟨bj,rfl⟩;exact R z (pT z H z)<|Ra z<|Wl (fun _ q=>⟨bh,som aJ,q.k<|s1 z,bup s7 bj⟩)
    iterate 3 refine Nh z H ?_
    exact R z (pF z H z)<|Ra z<|Wl (fun _ q=>⟨false,som<|ifF a8 H,q.k<|s1 z,s7⟩)
   rintro bk _ ⟨Y,rfl,_,bm⟩;revert bk;refine Wo ?_;obtain rfl:=som aI;exact Wr<|f_ hr z ⟨bup (bup (bup (bM (bup (bup h1 G) h2) h3<|m1<|lt_ h1.s G.s) s5) s8) bm,z⟩
  rintro _ _ _ _ rfl ⟨rfl,aK⟩;have aL:=elR a5;obtain rfl:=som aL;exact ⟨aK,z⟩
 rintro _ _ _ _ rfl ⟨rfl,aM⟩;have aN:=elR a2;obtain rfl:=som aN;exact ⟨aM,z⟩
theorem W_w28 {x1:d_}{res:Bool}(hm:f_x x1=some res)(O:B<=w0.z)(I:repS w0 B (sl A0 N0 C0) x1.rules):j_ prog 104 [(.agg #[sl A0 N0 C0])] w0 (Q0 w0 B res):=by
 unfold f_x at hm
 refine goG func104 z z z fun fn hr=>Ws<|E z (fb z) ?_
 rintro _ H ⟨rfl,W⟩;have G:=W.below;have h2:Blk H w0.z [sl A0 N0 C0]:=W.blk;refine Rw z<|Wq<|Ws<|Rw z ?_
 obtain ⟨_,hug,V⟩:=bdS hm;refine Wf (σ:=Unit) (ρ:=Bool) (fun (ka:Nat)(_:Unit) a w=>Sat 19 [(1,pt w0.z),(3,vI ((ka:Nat):Int))] a/\Below H.z H w) (fun (_:Unit) a w=>Sat 19 [(1,pt w0.z)] a/\Below H.z H w) (rQ prog fn<|Q0 w0 B) hug ?_ ?_ ?_ ?_ ?_
 ·exact fun _ q=>⟨q.k<|s2 z z,br H⟩
 ·rintro ka _ _ _ _ J ⟨hSh,s3⟩ hmi;refine Wu ?_ hSh;refine Wq<|Wm z<|Rf z N_ z ?_
  have hb:=h2.e s3;refine R z (l0 R_ z<|hb.at z) ?_;have hd:=I.g<|(G.ag B).e s3
  refine R z (lnR P_ z hd)<|Rl z z z<|Wx z (fun _=>?_) (fun hc=>(a_4 J hc).elim)
  refine Wk<|Wq<|Wb<|Ws<|R z (lN (vs:=[sl A0 N0 C0]) s_ p_ z z fid<|hb.row 0 1 z)<|Rm z ?_
  obtain ⟨_,ej,hmc⟩:=bdS hmi;refine E z (fc call112 z<|W_w27 ej (zt' O<|lt_ G.s s3.s) hd<|ic (Nat.le_of_lt J)<|lt_ (repS.len I) L_) ?_;rintro _ _ ⟨se,rfl⟩;refine R z (not_ z)<|Wx z (fun L=>?_) (fun L=>?_)
  ·exact Ws<|Rw z<|Wr<|rtO<|qL (som<|ifT hmc L).symm<|f_ hr z ⟨bup (bup G s3) se,z⟩
  exact Wk<|Wg<|Rm z<|R z (inc_ J (lt_ (repS.len I) L_) z z)<|Ra z<|Wl (fun _ q=>⟨(),(som<|ifF hmc L).symm,⟨q.k<|s2 z z,bup s3 se⟩⟩)
 ·rintro _ _ _ ⟨hSk,s7⟩;refine Wu ?_ hSk;refine Wq<|Wm z<|Rf z N_ z<|R z (l0 R_ z<|(h2.e s7).at z)<|R z (lnR P_ z<|I.g<|(G.ag B).e s7)<|Rl z z z<|Wx z (fun hc=>(a_5 hc).elim) (fun _=>?_)
  exact We<|fun _ q=>⟨rfl,⟨q.k<|s1 z,s7⟩⟩
 ·rintro _ al _ rfl ⟨_,s4⟩;have hmm:=elL V;revert al;refine Wo<|Ws<|Rf z N_ z<|R z (l0 R_ z<|(h2.e s4).at z) ?_
  have hf:=I.g<|(G.ag B).e s4
  refine R z (lnR P_ z hf) ?_;obtain ⟨_,en,hmo⟩:=bdS hmm;refine E z (fc call27 z<|a_T en (zt' O<|lt_ G.s s4.s) (a_t<|repS.len hf) (ii z)<|ii z) ?_;rintro _ _ ⟨sp,rfl⟩;refine Rw z ?_
  obtain rfl:=som hmo;exact Wr<|f_ hr z ⟨bup (bup G s4) sp,z⟩
 rintro _ _ _ _ rfl ⟨rfl,hqq⟩;have hmr:=elR V;obtain rfl:=som hmr;exact ⟨hqq,z⟩
theorem W_w29 {x1:d_}{x2:Int}{res:Bool}(hm:f_H x1 x2=some res)(J:B<=w0.z)(I:repS w0 B (sl A0 N0 C0) x1.rules)(O:inI x2):j_ prog 74 [(.agg #[sl A0 N0 C0]),vI x2] w0 (Q0 w0 B res):=by
 unfold f_H at hm
 refine goG func74 z z z fun fn hr=>Ws<|E z (fb z) ?_
 rintro _ H ⟨rfl,h5⟩;have h1:=h5.below;have h6:Blk H w0.z [sl A0 N0 C0]:=h5.blk;refine Rw z<|Wq ?_
 obtain ⟨u8,V,hma⟩:=bdS hm;refine Wt (fun a w=>∃(x4:Bool),x4=u8/\Sat 15 [(4,vB x4)] a/\Below H.z H w) ?_ ?_
 ·refine Wg<|Rm z<|Rf z N_ z<|R z (l0 R_ z<|h6.at z)<|R z (lnR P_ z<|I.e h1)<|R z (sb_ z z) ?_
  obtain ⟨rb,ec,L⟩:=bdS V;refine E z (fc call27 z<|a_T ec (zt' J h1.s) O (ii z)<|iS _ _) ?_;rintro _ _ ⟨s2,rfl⟩;refine Rm z ?_
  rcases bs rb with G | G
  ·refine Rh z G (lN (vs:=[sl A0 N0 C0]) s_ p_ z z fid<|(h6.e s2).row 0 1 z) ?_;obtain ⟨rd,ee,hmf⟩:=bdS<|ifT L G;refine Eg z z G z (fc call104 z<|W_w28 ee (zt' J<|lt_ h1.s s2.s)<|I.g<|(h1.ag B).e s2) ?_;rintro _ _ ⟨sg,rfl⟩;exact R z (pT z G z)<|Ra z<|Wl (fun _ q=>⟨rd,som hmf,q.k<|s1 z,bup s2 sg⟩)
  exact Nh z G<|Nh z G<|R z (pF z G z)<|Ra z<|Wl (fun _ q=>⟨false,som<|ifF L G,q.k<|s1 z,s2⟩)
 rintro ah _ ⟨x4,rfl,_,si⟩;revert ah;refine Wo ?_;obtain rfl:=som hma;exact Wr<|f_ hr z ⟨bup h1 si,z⟩
theorem W_w2a {x1:List UInt8}{x2:Bool}{res:Int}(hm:f_y x1 x2=some res)(V:B<=w0.z)(G:repS w0 B (sl A0 N0 C0) x1):j_ prog 105 [sl A0 N0 C0,vB x2] w0 (Q9 w0 B res):=by
 unfold f_y at hm
 refine goG func105 z z z fun fn hr=>Ws<|Rw z<|Ws<|Rw z<|Wq<|Wm z<|R z (lnR l_ z G)<|R z (a_d z z)<|Wx z (fun I=>?_) (fun I=>?_)
 ·refine Ws<|Rw z ?_
  obtain rfl:=som<|ifT hm I;exact Wr<|f_ hr z ⟨br w0,z,ii z⟩
 refine Wk<|Wq<|Ws<|Rw z ?_
 obtain ⟨_,hue,O⟩:=bdS<|ifF hm I;refine Wf (σ:=Int) (ρ:=Int) (fun (k1:Nat)(x0:Int) a w=>Sat 33 [(0,sl A0 N0 C0),(1,vB x2),(5,vI x0),(6,vI ((k1:Nat):Int))] a/\Below w0.z w0 w/\inI x0) (fun (x0:Int) a w=>Sat 33 [(5,vI x0)] a/\Below w0.z w0 w/\inI x0) (rQ prog fn<|Q9 w0 B) hue ?_ ?_ ?_ ?_ ?_
 ·exact fun _ q=>⟨q.k<|s4 z z z z,br w0,ii z⟩
 ·rintro k1 x0 _ H _ J ⟨hSf,s7,h3⟩ hmg;refine Wu ?_ hSf;refine Wq<|Wm z<|Rm z ?_
  have ha:=G.e s7;refine R z (lnR l_ z ha)<|Rl z z z<|Wx z (fun _=>?_) (fun hc=>(a_4 J hc).elim)
  refine Wk<|Wq<|Wb<|Wm z<|Rw z<|Wq<|Wm z<|Wn ?_
  obtain ⟨uh,hub,hmi⟩:=bdS hmg;refine Wt (fun a w=>∃(x4:Int),x4=uh/\Sat 33 [(0,sl A0 N0 C0),(1,vB x2),(5,vI x0),(6,vI ((k1:Nat):Int)),(7,vI x4)] a/\Below H.z H w/\inI x4) ?_ ?_
  ·refine Wc z (fun L=>?_)<|fun L=>?_
   ·exact Wg<|Rm z<|R z (lnR l_ z ha)<|R z (sb_ z z)<|Rm z<|R z (sb_ z z)<|Ra z<|Wl (fun _ q=>⟨G_ (G_ (x1.length:Int) 1) ((k1:Nat):Int),som<|ifT hub L,q.k<|s5 z z z z z,br H,iS _ _⟩)
   exact M_<|fun _ q=>⟨((k1:Nat):Int),som<|ifF hub L,q.k<|s5 z z z z z,br H,ic (Nat.le_of_lt J)<|lt_ (repS.len G) L_⟩
  rintro aj _ ⟨x4,rfl,_,sc,_⟩;revert aj;refine Wo<|Wg<|Rm z<|R z (c_j z z)<|RM z z ?_
  obtain ⟨xk,el,hmm⟩:=bdS hmi;refine RX z (at_ (α:=UInt8) l_ z_5 z z z (G.g<|(s7.ag B).e sc) el) ?_;rintro _ ⟨_,_,_,rfl,hn,ho,_⟩;obtain rfl:=u8 ho;exact R z (l0 g_5 z<|hn.at0 z)<|R z (b_A d_5 d_3 z)<|R z (add_ z z)<|Rw z<|Wg<|Rm z<|R z (inc_ J (lt_ (repS.len G) L_) z z)<|Ra z<|Wl (fun _ q=>⟨h_ (a_2 x0 256)<|byteI xk,(som hmm).symm,⟨q.k<|s4 z z z z,bup s7 sc,iA _ _⟩⟩)
 ·rintro x0 _ _ ⟨hSp,sd,h3⟩;refine Wu ?_ hSp;refine Wq<|Wm z<|Rm z<|R z (lnR l_ z<|G.e sd)<|Rl z z z<|Wx z (fun hc=>(a_5 hc).elim) (fun _=>?_)
  exact We<|fun _ q=>⟨rfl,⟨q.k<|s1 z,sd,h3⟩⟩
 ·rintro x0 aq _ rfl ⟨_,sr,h3⟩;have hms:=elL O;revert aq;refine Wo<|Wm z<|Rw z ?_
  obtain rfl:=som hms;exact Wr<|f_ hr z ⟨sr,z,h3⟩
 rintro _ _ _ _ rfl ⟨rfl,hqt⟩;have hmu:=elR O;obtain rfl:=som hmu;exact ⟨hqt,z⟩
def Q22 (w0:World)(B:Zone)(r:Int×Int×Bool)(v:Value)(w':World):Prop:=Bw w0 w'/\un3 (fun G H I=>v = .tuple #[vI G,vI H,vB I]/\inI G/\inI H) r
theorem h_i {x1:d_}{x2:Int}{x3:List UInt8}{x4:Int}{res:Int×Int×Bool}(hm:d_f x1 x2 x3 x4=some res)(L:B<=w0.z)(Y:repS w0 B (sl A0 N0 C0) x1.rules)(a5:inI x2)(J:repS w0 B (sl A7 N7 C7) x3)(a0:inI x4):j_ prog 75 [(.agg #[sl A0 N0 C0]),vI x2,sl A7 N7 C7,vI x4] w0 (Q22 w0 B res):=by
 unfold d_f at hm
 refine goG func75 z z z fun fn hr=>Ws<|E z (fb z) ?_
 rintro _ I ⟨rfl,V⟩;have G:=V.below;refine RA z z<|Rw z<|Ws<|Rf z N_ z<|R z (l0 R_ z<|(V.blk:Blk I w0.z [sl A0 N0 C0]).at z)<|Rm z ?_
 obtain ⟨W,em,O⟩:=bdS hm;refine RX z (at_ (α:=g_) P_ k_ z z z (Y.e G) em) ?_;rintro _ ⟨_,_,_,rfl,ht,hu,_⟩;obtain ⟨aa,nb,cc,ad,ne,cf,ah,ng,ci,aj,nk,cl,rfl,_,_,_,_,_,_,_⟩:=a_j hu;refine R z (lN (vs:=vR W aa nb cc ad ne cf ah ng ci aj nk cl) I_ k_ z z fid ht)<|E z (fa b_h) ?_
 rintro _ wr ⟨rfl,hn⟩;have h1:=hn.below;refine E0 (fs0 (cur':=vR W aa nb cc ad ne cf ah ng ci aj nk cl) k_ z z (hn.blk:Blk wr I.z [(Str.v (⟨[]⟩:Str)),vI 0,vI 0,vB false,sl none 0 0,sl none 0 0,sl none 0 0,sl none 0 0]) z z z z) ?_;rintro _ _ ⟨ho,ss⟩;have h2:=ss.one;refine Wn<|Wq<|Wm z ?_
 have hp:=((G.ag B).e h1).c h2<|c_ (or0 (b_ lr) (i_<|zt' L G.s):∀k∈[I.z],¬B k)
 refine R z (lnR l_ z<|J.g hp)<|Rm z<|R z (sb_ z z)<|Rf z a_z z<|R z (l0 g_3 z<|ho.at z)<|Rl z z z<|Wx z (fun H=>?_) (fun H=>?_)
 ·refine Wm z<|RA z z<|Rw z ?_
  obtain rfl:=som<|ifT O H;exact Wr<|U_ hr z z z ⟨bM (bup G h1) h2<|m1 G.s,z,ii z,a0⟩
 refine Wk<|Wq (Wd (X:=noX) 0 (.rd 0<|.rd 1<|.rd 2<|.rd 3<|.rd 4<|.rd 5<|.rd 6<|.rd 7<|.rd 8<|.rd 10<|.rd 11<|.rd 12<|.rd 13<|.ef 9<|.rd 14<|.rd 15<|.rd 16 .done) mo (by kernel_rfl) fun a6 s3 _=>?_)
 iterate 3 refine dM z z z ?_
 refine dR z z (fd a_z z) ?_;have h6:=ho.e s3;refine dR z z (l0 g_3 z<|h6.at z)<|dR z z (add_ z z) ?_
 obtain ⟨_,ex,hmy⟩:=bdS<|ifF O H;refine dRX z z (rX l_ z_5 z z (J.g<|hp.e s3) z z ex) ?_;rintro _ ⟨_,_,_,rfl,hz⟩;refine dR z z (fd c_q z)<|dR z z (l0 g_4 z<|h6.at z)<|dM z z z<|dR z z (fd a_z z)<|dR z z (l0 g_3 z<|h6.at z)<|dR z z (add_ z z) ?_
 obtain ⟨_,a2,a1⟩:=bdS hmy;refine dE z z (fc call105 z<|W_w2a a2 (zt' L<|lt_ (lt_ (lt_ G.s h1.s) h2.s) s3.s) hz) (.inr fun _ _ h=>B_<|h.1) ?_;rintro _ _ ⟨a3,rfl,a4⟩
 iterate 3 refine dQ z z z ?_
 refine pD<|Wo ?_
 obtain rfl:=som a1;exact Wr<|U_ hr z z z ⟨bup (bup (bM (bup G h1) h2<|m1 G.s) s3) a3,z,a4,iA _ _⟩
def Q23 (w0:World)(B:Zone)(r:Val×Int×Int)(v:Value)(w':World):Prop:=Bw w0 w'/\un3 (fun G H I=>∃J L O S1 V W Y S2,v = .tuple #[(.agg #[vI G.number,sl J L O,sl V W Y]),vI H,vI I]/\inI G.number/\a_ w' S1 (sl J L O) G.bytes/\a_ w' S2 (sl V W Y) G.items/\inI H/\inI I/\(S1++S2).Nodup/\(∀k∈(S1++S2),w0.z<=k)) r
theorem W_w2b {x1:g_}{x2:List UInt8}{x3:Int}{res:Val×Int×Int}(hm:f_A x1 x2 x3=some res)(ab:B<=w0.z)(a5:x1.name.b.length<=LEN)(a6:inI x1.kind)(a7:inI x1.size)(I:repS w0 B (sl A9 N9 C9) x1.bytes)(a8:repS w0 B (sl A8 N8 C8) x1.names)(a9:repS w0 B (sl AA NA CA) x1.tags)(aa:repS w0 B (sl AB NB CB) x1.kids)(O:repS w0 B (sl A6 N6 C6) x2)(V:inI x3):j_ prog 76 [(.agg #[Str.v x1.name,vI x1.kind,vI x1.size,vB x1.little,sl A9 N9 C9,sl A8 N8 C8,sl AA NA CA,sl AB NB CB]),sl A6 N6 C6,vI x3] w0 (Q23 w0 B res):=by
 unfold f_A at hm
 refine goG func76 z z z fun fn hr=>Ws<|E z (fb z) ?_
 rintro _ J ⟨rfl,he⟩;have G:=he.below;have h5:Blk J w0.z (vR x1 A9 N9 C9 A8 N8 C8 AA NA CA AB NB CB):=he.blk;refine E z (fa a_N) ?_;rintro _ H ⟨rfl,hf⟩;have h1:=hf.below;have L:Blk H J.z [vI 0,sl none 0 0,sl none 0 0]:=hf.blk;refine Ra z<|Rw z<|Wq<|Ws<|Rw z ?_
 obtain ⟨_,hun,hmg⟩:=bdS hm;refine Wf (σ:=Unit) (ρ:=Val×Int×Int) (fun (kh:Nat)(_:Unit) a w=>Sat 47 [(1,sl A6 N6 C6),(2,vI x3),(3,pt w0.z),(6,pt J.z),(9,vI ((kh:Nat):Int))] a/\Below H.z H w) (fun (_:Unit) a w=>Sat 47 [(2,vI x3),(3,pt w0.z),(6,pt J.z)] a/\Below H.z H w) (rQ prog fn<|Q23 w0 B) hun ?_ ?_ ?_ ?_ ?_
 ·exact fun _ q=>⟨q.k<|s5 z z z z z,br H⟩
 ·rintro kh _ _ _ _ hki ⟨hSo,s2⟩ hmj;refine Wu ?_ hSo;refine Wq<|Wm z<|Rf z a_D z ?_
  have hk:=(h5.e h1).e s2;refine R z (l0 Q_ z<|hk.at z) ?_;have ha:=((G.ag B).e h1).e s2;refine R z (lnR l_ z<|I.g ha)<|Rl z z z<|Wx z (fun _=>?_) (fun hc=>(a_4 hki hc).elim)
  refine Wk<|Wq<|Wb<|Wq<|Wm z<|Rm z<|R z (add_ z z)<|Rm z<|R z (lnR l_ z<|O.g ha)<|R z (b_e z z)<|Wx z (fun hcb=>?_) (fun hcb=>?_)
  ·refine Ws<|R z (bP (parts:=[]) (cs:=[vI 0,sl none 0 0,sl none 0 0]) a_M z z)<|Rm z<|E0 (fs0 (cur':=[vI 0,sl none 0 0,sl none 0 0]) t_ z z (L.e s2) z z z z) ?_
   rintro _ _ ⟨hp,sq⟩;exact Ra z<|Rw z<|Wr<|rtO<|qL (som<|ifT hmj hcb).symm<|U_ hr (E_ Z_ t_ z hp z) z z ⟨bM (bup (bup G h1) s2) sq.one<|m1 G.s,none,0,0,[],none,0,0,[],z,ii z,onL,onL,V,ii z,nd0,al0⟩
  refine Wk<|Wq (Wd (X:=noX) 0 (pl_ 12 []) mo (by kernel_rfl) fun ad s6 _=>?_)
  iterate 3 refine dM z z z ?_
  refine dR z z (add_ z z) ?_;obtain ⟨_,er,hms⟩:=bdS<|ifF hmj hcb;have hl:=ha.e s6;refine dRX z z (at_ (α:=UInt8) l_ z_5 z z z (O.g hl) er) ?_;rintro _ ⟨_,_,_,rfl,ht,hu,_⟩;obtain rfl:=u8 hu;refine dR z z (l0 g_5 z<|ht.at0 z)<|dR z z (fd a_D z)<|dR z z (l0 Q_ z<|(hk.e s6).at z)<|dM z z z ?_
  obtain ⟨_,ev,hmm⟩:=bdS hms;refine dRX z z (at_ (α:=UInt8) l_ z_5 z z z (I.g hl) ev) ?_;rintro _ ⟨_,_,_,rfl,hw,hx,_⟩;obtain rfl:=u8 hx;refine dR z z (l0 g_5 z<|hw.at0 z)<|dR z z (nq z z)<|pD<|Wo<|Wc z (fun hcc=>?_) (fun hcc=>?_)
  ·refine Ws<|R z (bP (parts:=[]) (cs:=[vI 0,sl none 0 0,sl none 0 0]) a_M z z)<|RM z z<|R z (add_ z z)<|E0 (fs0 (cur':=[vI 0,sl none 0 0,sl none 0 0]) t_ z z ((L.e s2).e s6) z z z z) ?_
   rintro _ _ ⟨hy,sz⟩;exact Ra z<|Rw z<|Wr<|rtO<|qL (som<|ifT hmm hcc).symm<|U_ hr (E_ Z_ t_ z hy z) z z ⟨bM (bup (bup (bup G h1) s2) s6) sz.one<|m1 G.s,none,0,0,[],none,0,0,[],z,ii z,onL,onL,iA _ _,ii z,nd0,al0⟩
  exact Wk<|Wg<|Rm z<|R z (inc_ hki (lt_ (repS.len I) L_) z z)<|Ra z<|Wl (fun _ q=>⟨(),(som<|ifF hmm hcc).symm,⟨q.k<|s5 z z z z z,bup s2 s6⟩⟩)
 ·rintro _ _ _ ⟨W,sd⟩;refine Wu ?_ W;refine Wq<|Wm z<|Rf z a_D z<|R z (l0 Q_ z<|((h5.e h1).e sd).at z)<|R z (lnR l_ z<|I.g<|((G.ag B).e h1).e sd)<|Rl z z z<|Wx z (fun hc=>(a_5 hc).elim) (fun _=>?_)
  exact We<|fun _ q=>⟨rfl,⟨q.k<|s3 z z z,sd⟩⟩
 ·rintro _ a2 _ rfl ⟨_,s7⟩;have Y:=elL hmg;revert a2;refine Wo<|Wq (Wd (X:=(· ∈ [J.z])) 0 (pl_ 9 [6]) mo (by kernel_rfl) fun ae s8 _=>dR z z (bP (parts:=[]) (cs:=[vI 0,sl none 0 0,sl none 0 0]) a_M z z)<|dM z z z<|dR z z (fd a_D z)<|dR z z (l1 Q_ z (djs<|mmr h5.lt)<|(((h5.e h1).e s7).e s8).at z)<|dR z z (lnR l_ z<|I.g<|(((G.ag B).e h1).e s7).e s8)<|dR z z (add_ z z)<|dE0 z (fs0 (cur':=[vI 0,sl none 0 0,sl none 0 0]) t_ z z ((L.e s7).e s8) z z z z) (.inr fun _ _ h=>e_R (List.mem_singleton.2 z) h.2) ?_)
  rintro _ _ ⟨a3,a4⟩;refine dQ z z z<|dQ z z z<|pD<|Wo ?_
  obtain rfl:=som Y;exact Wr<|U_ hr (E_ Z_ t_ z a3 z) z z ⟨bM (bup (bup (bup G h1) s7) s8) a4.one<|m1 G.s,none,0,0,[],none,0,0,[],z,ii z,onL,onL,iA _ _,ii z,nd0,al0⟩
 rintro _ _ _ _ rfl ⟨rfl,a0⟩;have a1:=elR hmg;obtain rfl:=som a1;exact ⟨a0,z⟩
theorem W_w1b {x1:List UInt8}{x2:Int}{x3:Int}{res:Val×Int×Int}(hm:e_s x1 x2 x3=some res)(a1:B<=w0.z)(O:repS w0 B (sl A0 N0 C0) x1)(Y:inI x2)(a0:inI x3):j_ prog 77 [sl A0 N0 C0,vI x2,vI x3] w0 (Q23 w0 B res):=by
 unfold e_s at hm
 refine goG func77 z z z fun fn hr=>Ws<|E z (fa a_N) ?_
 rintro _ we ⟨rfl,V⟩;have G:=V.below;have h2:Blk we w0.z [vI 0,sl none 0 0,sl none 0 0]:=V.blk;refine Ra z<|Rw z<|Wq<|Wm z<|R z (lnR l_ z<|O.e G)<|Rm z<|R z (sb_ z z)<|Rm z<|Rl z z z<|Wx z (fun H=>?_) (fun H=>?_)
 ·refine Ws<|R z (bP (parts:=[]) (cs:=[vI 0,sl none 0 0,sl none 0 0]) a_M z z)<|Rm z<|E0 (fs0 (cur':=[vI 0,sl none 0 0,sl none 0 0]) t_ z z h2 z z z z) ?_
  rintro _ _ ⟨hf,sg⟩;refine Ra z<|Rw z ?_
  obtain rfl:=som<|ifT hm H;exact Wr<|U_ hr (E_ Z_ t_ z hf z) z z ⟨bM G sg.one<|b_ lr,none,0,0,[],none,0,0,[],z,ii z,onL,onL,Y,ii z,nd0,al0⟩
 refine Wk<|Ws<|E z (f0 (α:=UInt8) S_) ?_
 rintro _ _ ⟨_,_,_,rfl,s1,hh⟩;refine RM z z<|RM z z<|R z (add_ z z) ?_
 obtain ⟨_,ei,hmj⟩:=bdS<|ifF hm H;refine RX z (rX l_ z_5 z z (O.g<|(G.ag B).e s1) z z ei) ?_;rintro _ ⟨_,_,_,rfl,hk⟩;obtain ⟨_,el,hmm⟩:=bdS hmj;refine E z (fN (α:=UInt8) S_ el z z hh a_q hk) ?_;rintro _ _ ⟨W,I,J,L,rfl,s9,hn,ho,ha⟩;refine R z (bP (parts:=[(1,.tmp 24)]) (cs:=[vI 0,sl I J L,sl none 0 0]) a_M z z)<|RM z z<|R z (add_ z z) ?_
 have hb:=mmr h2.lt;refine E0 (fs0 (cur':=[vI 0,sl I J L,sl none 0 0]) t_ z z ((h2.e s1).c s9<|djs hb) z z z z) ?_;rintro _ _ ⟨hp,sq⟩;have hc:=sq.one;refine Ra z<|Rw z ?_
 obtain rfl:=som hmm;have hd:=m1 G.s;exact Wr<|U_ hr (E_ Z_ t_ z hp z) z z ⟨bM (bM (bup G s1) s9 hd) hc<|b_ lr,I,J,L,W,none,0,0,[],z,ii z,hn.c hc (or1 ha hb (W_ (b_ h2.lt) s1.s):∀k∈W,k∉[w0.z]),onL,iA _ _,ii z,na_ ho H_<|nmN _,aa_ (a_O ha hd<|lt_ G.s s1.s) an_⟩
theorem W_w2c {x1:List UInt8}{x2:Int}{x3:UInt8}{res:(List UInt8)×Int×Bool}(hm:f_B n x1 x2 x3=some res)(Y:B<=w0.z)(V:repS w0 B (sl A0 N0 C0) x1)(W:inI x2):j_ prog 78 [sl A0 N0 C0,vI x2,vU<|byteI x3] w0 (Q16 w0 B res):=by
 unfold f_B at hm
 refine goG func78 z z z fun fn hr=>Ws<|RA z z<|Rw z<|Ws<|E z (f0 (α:=UInt8) S_) ?_
 rintro _ G ⟨am,an,ao,rfl,s9,ap⟩;refine Rw z<|Wq<|Wm z<|Rw z ?_
 obtain ⟨_,a8,hmr⟩:=bdS hm;refine b_M (σ:=(List UInt8)×Int) (ρ:=(List UInt8)×Int×Bool) (fun s a w=>un2 (fun xb x5=>∃I J L H,Sat 54 [(0,sl A0 N0 C0),(1,vI x2),(2,vU<|byteI x3),(9,sl I J L),(10,vI x5)] a/\Chg (· ∈ [w0.z]) G w/\a_ w H (sl I J L) xb/\H.Nodup/\(∀k∈H,k∈[w0.z]∨G.z<=k)/\inI x5) s) (fun s a w=>un2 (fun xb x5=>∃I J L H,Sat 54 [(1,vI x2)] a/\Chg (· ∈ [w0.z]) G w/\a_ w H (sl I J L) xb/\H.Nodup/\(∀k∈H,k∈[w0.z]∨G.z<=k)/\inI x5) s) (rQ prog fn<|Q16 w0 B) a8 ?_ ?_ ?_ ?_
 ·exact fun _ q=>⟨am,an,ao,[w0.z],q.k<|s5 z z z z z,cr [w0.z] G,ap,a_q,io sr,W⟩
 ·rintro ⟨xb,x5⟩ _ wc _ ⟨I,J,L,H,a9,s8,hd,he,hf,hi⟩ aa;refine Wu ?_ a9;refine Wq<|Wq ?_
  obtain ⟨aq,ab,hms⟩:=bdS<|a_B aa;refine Wt (fun a w=>∃(xj:Bool),xj=aq/\Sat 54 [(0,sl A0 N0 C0),(1,vI x2),(2,vU<|byteI x3),(9,sl I J L),(10,vI x5),(22,vB xj)] a/\Below wc.z wc w) ?_ ?_
  ·refine Wg<|RM z z ?_
   have hu:=(s9.ag B).c s8<|c_ (or0 (b_ lr) (i_ Y):∀k∈[w0.z],¬B k)
   have hv:=V.g hu;refine R z (lnR l_ z hv) ?_;obtain ⟨ar,au,hmw⟩:=bdS ab;refine E z (fc call27 z<|a_T au (zt' Y<|lt_ s9.s s8.s) W (ii z)<|a_t<|repS.len hv) ?_;rintro _ _ ⟨sk,rfl⟩;refine Rm z ?_
   rcases bs ar with O | O
   ·exact Rh z O (mv z)<|Rh z O (mv z)<|Rh z O (lnR l_ z<|V.g<|hu.e sk)<|Rh z O (lss z z)<|R z (pT z O z)<|Wl (fun _ q=>⟨decide<|x5<(x1.length:Int),som<|ifT hmw O,q.k<|s6 z z z z z z,sk⟩)
   iterate 4 refine Nh z O ?_
   exact R z (pF z O z)<|Wl (fun _ q=>⟨false,som<|ifF hmw O,q.k<|s6 z z z z z z,sk⟩)
  rintro av wa ⟨xj,rfl,_,s7⟩;revert av;refine Wo<|Wc z (fun hcl=>?_) (fun hcl=>?_)
  ·refine Wk<|Wq<|Wb<|Wq<|Wm z<|Rm z ?_
   obtain ⟨_,aw,hmx⟩:=bdS<|ifT hms hcl;have hy:=((s9.ag B).c s8<|c_ (or0 (b_ lr) (i_ Y):∀k∈[w0.z],¬B k)).e s7;have hn:=V.g hy;refine RX z (at_ (α:=UInt8) l_ z_5 z z z hn aw) ?_;rintro _ ⟨_,_,_,rfl,ax,ay,_⟩;obtain rfl:=u8 ay;refine R z (l0 g_5 z<|ax.at0 z)<|Rm z<|Rq z z z<|Wx z (fun hcm=>?_) (fun hcm=>?_)
   ·refine Wm z<|Rm z<|R z (add_ z z)<|RA z z<|Rw z ?_
    exact Wr<|rtO<|qL (som<|ifT hmx hcm).symm<|U_ hr z z z ⟨bup (bM s9 s8<|b_ lr) s7,I,J,L,H,z,hd.e s7,iA _ _,he,(or1 hf (b_ lr) (a_R s9.s):∀k∈H,w0.z<=k)⟩
   refine Wk<|Wq<|Wm z<|Rm z ?_
   obtain ⟨_,az,ad⟩:=bdS<|ifF hmx hcm;refine RX z (at_ (α:=UInt8) l_ z_5 z z z hn az) ?_;rintro _ ⟨_,_,_,rfl,aA,aB,_⟩;obtain rfl:=u8 aB;refine R z (l0 g_5 z<|aA.at0 z)<|Rq z z z<|Wn ?_
   obtain ⟨aC,huz,a0⟩:=bdS ad;refine Wt (fun a w=>∃(xg:Int),Sum.inl xg=aC/\Sat 54 [(0,sl A0 N0 C0),(1,vI x2),(2,vU<|byteI x3),(9,sl I J L),(10,vI xg)] a/\Below wa.z wa w/\inI xg) ?_ ?_
   ·refine Wc z (fun hco=>?_)<|fun hco=>?_
    ·have a1:=ifT huz hco;refine Wm z<|R z (add_ z z)<|Rw z<|Wm z<|Rm z<|R z (lnR l_ z hn)<|Rq z z z<|Wx z (fun hcp=>?_) (fun hcp=>?_)
     ·obtain rfl:=som<|ifT a1 hcp;have ae:=elR a0;exact We<|exO z (fun _ q=>b_i (som ae).symm ⟨I,J,L,H,q.k<|s1 z,(e_ (cM (cr [w0.z] G) s8 (io sr):Chg (· ∈ [w0.z]) G wc) s7:Chg (· ∈ [w0.z]) G wa),hd.e s7,he,(or1 hf (io sr) (x_ lr):∀k∈H,k∈[w0.z]∨G.z<=k),iA _ _⟩)
     exact M_<|fun _ q=>⟨h_ x5 1,som<|ifF a1 hcp,q.k<|s5 z z z z z,br wa,iA _ _⟩
    exact M_<|fun _ q=>⟨x5,som<|ifF huz hco,q.k<|s5 z z z z z,br wa,hi⟩
   rintro aD a3 ⟨xg,rfl,_,sh,_⟩;have af:=elL a0;revert aD;refine Wo<|Wg<|RM z z<|Rm z ?_
   obtain ⟨aE,aF,ah⟩:=bdS af;refine RX z (at_ (α:=UInt8) l_ z_5 z z z (V.g<|hy.e sh) aF) ?_;rintro _ ⟨_,_,_,rfl,aG,aH,_⟩;obtain rfl:=u8 aH;refine R z (l0 g_5 z<|aG.at0 z)<|E z (fS [(.tmp 49)] S_ z z z (Y_ z) (lb z)<|lb z) ?_
   rintro _ a4 ⟨rfl,hq⟩;have ht:=hq.below;have aZ:=a_l hq a_E;obtain ⟨aI,aJ,ai⟩:=bdS ah;refine E z (a_H (α:=UInt8) S_ aJ z z (((hd.e s7).e sh).e ht) he (hq.blk:Blk a4 a3.z [vU (byteI aE)]) a_E an_ H_) ?_;rintro _ aK ⟨a5,aL,aM,aN,rfl,aO,aP,aQ,aR⟩;refine Rw z<|Wg<|Rm z<|R z (add_ z z)<|Ra z<|Wl ?_
   have a6:∀k∈H,k∈[w0.z]∨G.z<=k:=or1 hf (io sr)<|x_ lr;exact fun _ q=>⟨(aI,h_ xg 1),(som ai).symm,⟨aL,aM,aN,a5,q.k<|s5 z z z z z,(cM (e_ (e_ (e_ (cM (cr [w0.z] G) s8 (io sr):Chg (· ∈ [w0.z]) G wc) s7:Chg (· ∈ [w0.z]) G wa) sh:Chg (· ∈ [w0.z]) G a3) ht:Chg (· ∈ [w0.z]) G a4) aO a6:Chg (· ∈ [w0.z]) G aK),aP,aQ,(or2 aR a6 an_ (x_<|lt_ (lt_ (lt_ s8.s s7.s) sh.s) ht.s):∀k∈a5,k∈[w0.z]∨G.z<=k),iA _ _⟩⟩
  exact We<|fun _ q=>b_i (som<|ifF hms hcl).symm ⟨I,J,L,H,q.k<|s1 z,(e_ (cM (cr [w0.z] G) s8 (io sr):Chg (· ∈ [w0.z]) G wc) s7:Chg (· ∈ [w0.z]) G wa),hd.e s7,he,(or1 hf (io sr) (x_ lr):∀k∈H,k∈[w0.z]∨G.z<=k),hi⟩
 ·rintro ⟨xb,x5⟩ aS aT rfl ⟨I,J,L,H,_,a7,hd,he,hf,hi⟩;have aj:=elL hmr;revert aS;refine Wo<|Ws<|E z (f0 (α:=UInt8) S_) ?_
  rintro _ _ ⟨aU,aV,aW,rfl,aX,aY⟩;refine Rm z<|RA z z<|Rw z ?_
  obtain rfl:=som<|a_B aj;exact Wr<|U_ hr z z z ⟨bup (bM s9 a7<|b_ lr) aX,aU,aV,aW,[aT.z],z,aY,W,a_q,m1<|lt_ s9.s a7.s⟩
 rintro _ _ _ _ rfl ⟨rfl,ak⟩;have al:=elR hmr;obtain rfl:=som al;exact ⟨ak,z⟩
structure i_P (f:d_->Int->(List UInt8)->Int->Option (Val×Int×Int)):Prop where
  run:∀{A0 A7:Option Addr}{N0 C0 N7 C7:Nat}{B:Zone}{x1:d_}{x2:Int}{x3:List UInt8}{x4:Int}{res:Val×Int×Int}{w0:World}(hm:f x1 x2 x3 x4=some res)(hBw:B<=w0.z)(p1_0:repS w0 B (sl A0 N0 C0) x1.rules)(p2_0:inI x2)(p3_0:repS w0 B (sl A7 N7 C7) x3)(p4_0:inI x4),j_ prog 53 [(.agg #[sl A0 N0 C0]),vI x2,sl A7 N7 C7,vI x4] w0<|Q23 w0 B res
structure i_Q (f:d_->g_->Int->Int->(List UInt8)->Int->Option (Val×Int×Int)):Prop where
  run:∀{A0 A2 A4 A1 A3 AC:Option Addr}{N0 C0 N2 C2 N4 C4 N1 C1 N3 C3 NC CC:Nat}{B:Zone}{x1:d_}{x2:g_}{x3:Int}{x4:Int}{x5:List UInt8}{x6:Int}{res:Val×Int×Int}{w0:World}(hm:f x1 x2 x3 x4 x5 x6=some res)(hBw:B<=w0.z)(p1_0:repS w0 B (sl A0 N0 C0) x1.rules)(p2_0:x2.name.b.length<=LEN)(p2_1:inI x2.kind)(p2_2:inI x2.size)(p2_4:repS w0 B (sl A2 N2 C2) x2.bytes)(p2_5:repS w0 B (sl A4 N4 C4) x2.names)(p2_6:repS w0 B (sl A1 N1 C1) x2.tags)(p2_7:repS w0 B (sl A3 N3 C3) x2.kids)(p3_0:inI x3)(p4_0:inI x4)(p5_0:repS w0 B (sl AC NC CC) x5)(p6_0:inI x6),j_ prog 79 [(.agg #[sl A0 N0 C0]),.agg #[Str.v x2.name,vI x2.kind,vI x2.size,vB x2.little,sl A2 N2 C2,sl A4 N4 C4,sl A1 N1 C1,sl A3 N3 C3],vI x3,vI x4,sl AC NC CC,vI x6] w0<|Q23 w0 B res
structure i_R (f:d_->g_->(List UInt8)->Int->Option (Val×Int×Int)):Prop where
  run:∀{A0 A2 A4 A1 A3 A7:Option Addr}{N0 C0 N2 C2 N4 C4 N1 C1 N3 C3 N7 C7:Nat}{B:Zone}{x1:d_}{x2:g_}{x3:List UInt8}{x4:Int}{res:Val×Int×Int}{w0:World}(hm:f x1 x2 x3 x4=some res)(hBw:B<=w0.z)(p1_0:repS w0 B (sl A0 N0 C0) x1.rules)(p2_0:x2.name.b.length<=LEN)(p2_1:inI x2.kind)(p2_2:inI x2.size)(p2_4:repS w0 B (sl A2 N2 C2) x2.bytes)(p2_5:repS w0 B (sl A4 N4 C4) x2.names)(p2_6:repS w0 B (sl A1 N1 C1) x2.tags)(p2_7:repS w0 B (sl A3 N3 C3) x2.kids)(p3_0:repS w0 B (sl A7 N7 C7) x3)(p4_0:inI x4),j_ prog 80 [(.agg #[sl A0 N0 C0]),.agg #[Str.v x2.name,vI x2.kind,vI x2.size,vB x2.little,sl A2 N2 C2,sl A4 N4 C4,sl A1 N1 C1,sl A3 N3 C3],sl A7 N7 C7,vI x4] w0<|Q23 w0 B res
structure i_S (f:d_->g_->(List UInt8)->Int->Option (Val×Int×Int)):Prop where
  run:∀{A0 A2 A4 A1 A3 A7:Option Addr}{N0 C0 N2 C2 N4 C4 N1 C1 N3 C3 N7 C7:Nat}{B:Zone}{x1:d_}{x2:g_}{x3:List UInt8}{x4:Int}{res:Val×Int×Int}{w0:World}(hm:f x1 x2 x3 x4=some res)(hBw:B<=w0.z)(p1_0:repS w0 B (sl A0 N0 C0) x1.rules)(p2_0:x2.name.b.length<=LEN)(p2_1:inI x2.kind)(p2_2:inI x2.size)(p2_4:repS w0 B (sl A2 N2 C2) x2.bytes)(p2_5:repS w0 B (sl A4 N4 C4) x2.names)(p2_6:repS w0 B (sl A1 N1 C1) x2.tags)(p2_7:repS w0 B (sl A3 N3 C3) x2.kids)(p3_0:repS w0 B (sl A7 N7 C7) x3)(p4_0:inI x4),j_ prog 81 [(.agg #[sl A0 N0 C0]),.agg #[Str.v x2.name,vI x2.kind,vI x2.size,vB x2.little,sl A2 N2 C2,sl A4 N4 C4,sl A1 N1 C1,sl A3 N3 C3],sl A7 N7 C7,vI x4] w0<|Q23 w0 B res
structure i_T (f:d_->g_->(List UInt8)->Int->Option (Val×Int×Int)):Prop where
  run:∀{A0 A2 A4 A1 A3 A7:Option Addr}{N0 C0 N2 C2 N4 C4 N1 C1 N3 C3 N7 C7:Nat}{B:Zone}{x1:d_}{x2:g_}{x3:List UInt8}{x4:Int}{res:Val×Int×Int}{w0:World}(hm:f x1 x2 x3 x4=some res)(hBw:B<=w0.z)(p1_0:repS w0 B (sl A0 N0 C0) x1.rules)(p2_0:x2.name.b.length<=LEN)(p2_1:inI x2.kind)(p2_2:inI x2.size)(p2_4:repS w0 B (sl A2 N2 C2) x2.bytes)(p2_5:repS w0 B (sl A4 N4 C4) x2.names)(p2_6:repS w0 B (sl A1 N1 C1) x2.tags)(p2_7:repS w0 B (sl A3 N3 C3) x2.kids)(p3_0:repS w0 B (sl A7 N7 C7) x3)(p4_0:inI x4),j_ prog 82 [(.agg #[sl A0 N0 C0]),.agg #[Str.v x2.name,vI x2.kind,vI x2.size,vB x2.little,sl A2 N2 C2,sl A4 N4 C4,sl A1 N1 C1,sl A3 N3 C3],sl A7 N7 C7,vI x4] w0<|Q23 w0 B res
abbrev e_q (n:Nat):Prop:=i_P (a_b n).spec_l11Read/\i_Q (a_b n).spec_l11Items/\i_R (a_b n).spec_l11Choice/\i_S (a_b n).spec_l11Option/\i_T (a_b n).spec_l11Checked
theorem T_w02 (ih:e_q n):i_P (f_C n<|a_b n):=by
 obtain ⟨_,bq,dd,de,df⟩:=ih
 constructor
 intro A0 A7 N0 C0 N7 C7 B x1 x2 x3 x4 res w0 hm H W d2 J I;unfold f_C at hm
 refine goG func53 z z z fun fn hr=>Ws<|E z (fb z) ?_
 rintro _ br ⟨rfl,bs⟩;have h3:=bs.below;have hn:Blk br w0.z [sl A0 N0 C0]:=bs.blk;refine E z (fa a_N) ?_;rintro _ L ⟨rfl,bt⟩;have h4:=bt.below;have h2:Blk L br.z [vI 0,sl none 0 0,sl none 0 0]:=bt.blk;refine Ra z<|Rw z<|Ws<|Rf z N_ z ?_
 have ho:=hn.e h4;refine R z (l0 R_ z<|ho.at z)<|Rm z ?_
 obtain ⟨xa,dg,bb⟩:=bdS hm;have O:=(h3.ag B).e h4;refine RX z (at_ (α:=g_) P_ k_ z z z (W.g O) dg) ?_;rintro _ ⟨_,_,_,rfl,dh,di,_⟩;obtain ⟨ab,nc,cd,ae,nf,cg,ah,ni,cj,ak,nl,cm,rfl,hu,hv,hp,hq,hw,hx,ht⟩:=a_j di;refine R z (lN (vs:=vR xa ab nc cd ae nf cg ah ni cj ak nl cm) I_ k_ z z fid dh)<|E z (fa b_h) ?_
 rintro _ dj ⟨rfl,bu⟩;have G:=bu.below;refine E0 (fs0 (cur':=vR xa ab nc cd ae nf cg ah ni cj ak nl cm) k_ z z (bu.blk:Blk dj L.z [(Str.v (⟨[]⟩:Str)),vI 0,vI 0,vB false,sl none 0 0,sl none 0 0,sl none 0 0,sl none 0 0]) z z z z) ?_;rintro _ _ ⟨V,dk⟩;have h1:=dk.one;refine Wn<|Wq<|Ws<|Rf z a_i z<|R z (l0 g_3 z<|V.at z)<|Wn<|Wb<|Ws<|Rq z z z<|Rw z<|Wc z (fun al=>?_) (fun al=>?_)
 ·refine Ws<|R z (lN (vs:=[sl A0 N0 C0]) s_ p_ z z fid<|((ho.e G).c h1<|djs<|mm1 hn.lt h4.s).row 0 1 z)<|RM z z<|Rm z ?_
  have hz:=lt_ h3.s h4.s;have bv:=(O.e G).c h1<|c_ (or0 (b_ lr) (i_<|zt' H hz):∀k∈[L.z],¬B k)
  obtain ⟨bw,_,_,dl,bc⟩:=u_<|ifT bb al;refine E z (fc call75 z<|h_i dl (zt' H<|lt_ (lt_ hz G.s) h1.s) (W.g bv) d2 (J.g bv) I) ?_;rintro _ _ ⟨sr,rfl,dm,dn⟩;refine Rm z ?_
  iterate 3 refine Re z z z ?_
  refine RA z z<|Rw z<|Wq<|Wm z<|R z (not_ z)<|Wx z (fun am=>?_) (fun am=>?_)
  ·refine Ws<|R z (bP (parts:=[]) (cs:=[vI 0,sl none 0 0,sl none 0 0]) a_M z z)<|Rm z<|E0 (fs0 (cur':=[vI 0,sl none 0 0,sl none 0 0]) t_ z z (((h2.e G).c h1<|djs<|mmr h2.lt).e sr) z z z z) ?_
   rintro _ _ ⟨dp,dq⟩;refine Ra z<|Rw z ?_
   obtain rfl:=som<|ifT bc am;exact Wr<|rtO<|U_ hr (E_ Z_ t_ z dp z) z z ⟨bM (bup (bM (bup (bup h3 h4) G) h1<|m1 hz) sr) dq.one<|m1 h3.s,none,0,0,[],none,0,0,[],z,ii z,onL,onL,I,ii z,nd0,al0⟩
  refine Wk<|Wm z<|R z (bP (parts:=[(0,.tmp 43)]) (cs:=[vI bw,sl none 0 0,sl none 0 0]) a_M z z)<|Rm z<|E0 (fs0 (cur':=[vI bw,sl none 0 0,sl none 0 0]) t_ z z (((h2.e G).c h1<|djs<|mmr h2.lt).e sr) z z z z) ?_
  rintro _ _ ⟨dr,ds⟩;refine Ra z<|Rw z ?_
  obtain rfl:=som<|ifF bc am;exact Wr<|rtO<|U_ hr (E_ Z_ t_ z dr z) z z ⟨bM (bup (bM (bup (bup h3 h4) G) h1<|m1 hz) sr) ds.one<|m1 h3.s,none,0,0,[],none,0,0,[],z,dm,onL,onL,dn,ii z,nd0,al0⟩
 have be:=ifF bb al;refine Ws<|Rq z z z<|Rw z<|Wc z (fun an=>?_) (fun an=>?_)
 ·refine Ws<|R z (lN (vs:=vR xa ab nc cd ae nf cg ah ni cj ak nl cm) I_ k_ z z fid<|V.row 0 8 z)<|RM z z ?_
  have aA:=lt_ h3.s h4.s;have bx:∀k∈[L.z],¬B k:=or0 (b_ lr)<|i_<|zt' H aA;have Y:=(G.ag B).c h1<|c_ bx
  have aB:=lt_ (lt_ aA G.s) h1.s;obtain ⟨dt,_,_,du,d3⟩:=u_<|ifT be an;refine E z (fc call76 z<|W_w2b du (zt' H aB) hu hv hp (hq.g Y) (hw.g Y) (hx.g Y) (ht.g Y) (J.g<|(O.e G).c h1<|c_ bx) I) ?_;rintro _ _ ⟨bz,bA,bB,bC,dv,bD,bE,bF,dw,rfl,dx,dy,dz,dA,dB,aC,a0⟩
  iterate 3 refine Re z z z ?_
  refine E0 (fs0 (cur':=[vI dt.number,sl bA bB bC,sl bD bE bF]) t_ z z (((h2.e G).c h1<|djs<|mmr h2.lt).e bz) z z z z) ?_;rintro _ _ ⟨dC,dD⟩;have aD:=dD.one;refine Ra z<|Rw z ?_
  obtain rfl:=som d3;have bG:=lt_ G.s h1.s;exact Wr<|rtO<|U_ hr (E_ Z_ t_ z dC z) z z ⟨bM (bup (bM (bup (bup h3 h4) G) h1<|m1 aA) bz) aD<|m1 h3.s,bA,bB,bC,dv,bD,bE,bF,dw,z,dx,dy.c aD<|m_ (al_ a0) h2.lt bG,dz.c aD<|m_ (ar_ a0) h2.lt bG,dA,dB,na_ (nl_ aC) (nr_ aC)<|nj aC,aa_ (w_ (al_ a0) aB)<|w_ (ar_ a0) aB⟩
 have bf:=ifF be an;refine Ws<|Rq z z z<|Rw z<|Wc z (fun ao=>?_) (fun ao=>?_)
 ·refine Wm z<|Rm z<|Rf z a_z z<|R z (l0 g_3 z<|V.at z) ?_
  have aE:=lt_ h3.s h4.s;have aF:=lt_ (lt_ aE G.s) h1.s;obtain ⟨dF,_,_,dG,d4⟩:=u_<|ifT bf ao;refine E z (fc call77 z<|W_w1b dG (zt' H aF) (J.g<|(O.e G).c h1<|c_ (or0 (b_ lr) (i_<|zt' H aE):∀k∈[L.z],¬B k)) I hp) ?_;rintro _ _ ⟨bH,bI,bJ,bK,dH,bL,bN,bO,dI,rfl,dJ,dK,dL,dN,dO,aG,a1⟩
  iterate 3 refine Re z z z ?_
  refine E0 (fs0 (cur':=[vI dF.number,sl bI bJ bK,sl bL bN bO]) t_ z z (((h2.e G).c h1<|djs<|mmr h2.lt).e bH) z z z z) ?_;rintro _ _ ⟨dP,dS⟩;have aH:=dS.one;refine Ra z<|Rw z ?_
  obtain rfl:=som d4;have bQ:=lt_ G.s h1.s;exact Wr<|rtO<|U_ hr (E_ Z_ t_ z dP z) z z ⟨bM (bup (bM (bup (bup h3 h4) G) h1<|m1 aE) bH) aH<|m1 h3.s,bI,bJ,bK,dH,bL,bN,bO,dI,z,dJ,dK.c aH<|m_ (al_ a1) h2.lt bQ,dL.c aH<|m_ (ar_ a1) h2.lt bQ,dN,dO,na_ (nl_ aG) (nr_ aG)<|nj aG,aa_ (w_ (al_ a1) aF)<|w_ (ar_ a1) aF⟩
 have bg:=ifF bf ao;refine Ws<|Rq z z z<|Rw z<|Wc z (fun ap=>?_) (fun ap=>?_)
 ·refine Wm z<|Rm z<|Rf z a_D z<|R z (l0 Q_ z<|V.at z) ?_
  obtain ⟨_,dT,d5⟩:=bdS<|ifT bg ap;have a2:=lt_ h3.s h4.s;have bR:∀k∈[L.z],¬B k:=or0 (b_ lr)<|i_<|zt' H a2;refine RX z (at_ (α:=UInt8) l_ z_5 z z z (hq.g<|(G.ag B).c h1<|c_ bR) dT) ?_;rintro _ ⟨_,_,_,rfl,dU,dV,_⟩;obtain rfl:=u8 dV;refine R z (l0 g_5 z<|dU.at0 z) ?_;have bS:=lt_ (lt_ a2 G.s) h1.s;obtain ⟨_,_,_,dW,bh⟩:=u_ d5;refine E z (fc call78 z<|W_w2c dW (zt' H bS) (J.g<|(O.e G).c h1<|c_ bR) I) ?_;rintro _ _ ⟨ss,aI,aJ,aK,dX,rfl,dY,dZ,e0,bT⟩;refine Rm z ?_
  iterate 3 refine Re z z z ?_
  refine RA z z<|Rw z<|Wq<|Wm z<|R z (not_ z)<|Wx z (fun aq=>?_) (fun aq=>?_)
  ·refine Ws<|R z (bP (parts:=[]) (cs:=[vI 0,sl none 0 0,sl none 0 0]) a_M z z)<|Rm z<|E0 (fs0 (cur':=[vI 0,sl none 0 0,sl none 0 0]) t_ z z (((h2.e G).c h1<|djs<|mmr h2.lt).e ss) z z z z) ?_
   rintro _ _ ⟨e1,e2⟩;refine Ra z<|Rw z ?_
   obtain rfl:=som<|ifT bh aq;exact Wr<|rtO<|U_ hr (E_ Z_ t_ z e1 z) z z ⟨bM (bup (bM (bup (bup h3 h4) G) h1<|m1 a2) ss) e2.one<|m1 h3.s,none,0,0,[],none,0,0,[],z,ii z,onL,onL,I,ii z,nd0,al0⟩
  refine Wk<|Wm z<|R z (bP (parts:=[(1,.tmp 82)]) (cs:=[vI 0,sl aI aJ aK,sl none 0 0]) a_M z z)<|Rm z<|E0 (fs0 (cur':=[vI 0,sl aI aJ aK,sl none 0 0]) t_ z z (((h2.e G).c h1<|djs<|mmr h2.lt).e ss) z z z z) ?_
  rintro _ _ ⟨e3,e4⟩;have bU:=e4.one;refine Ra z<|Rw z ?_
  obtain rfl:=som<|ifF bh aq;exact Wr<|rtO<|U_ hr (E_ Z_ t_ z e3 z) z z ⟨bM (bup (bM (bup (bup h3 h4) G) h1<|m1 a2) ss) bU<|m1 h3.s,aI,aJ,aK,dX,none,0,0,[],z,ii z,dY.c bU<|m_ bT h2.lt<|lt_ G.s h1.s,onL,dZ,ii z,na_ e0 H_<|nmN _,aa_ (w_ bT bS) an_⟩
 have bi:=ifF bg ap;refine Ws<|Rq z z z<|Rw z<|Wc z (fun ar=>?_) (fun ar=>?_)
 ·refine Ws<|R z (lN (vs:=[sl A0 N0 C0]) s_ p_ z z fid<|((ho.e G).c h1<|djs<|mm1 hn.lt h4.s).row 0 1 z)<|R z (lN (vs:=vR xa ab nc cd ae nf cg ah ni cj ak nl cm) I_ k_ z z fid<|V.row 0 8 z)<|Rf z K_ z<|R z (l0 z_ z<|V.at z) ?_
  have aL:=lt_ h3.s h4.s;have bV:∀k∈[L.z],¬B k:=or0 (b_ lr)<|i_<|zt' H aL;have a3:=(G.ag B).c h1<|c_ bV
  have aM:=ht.g a3;refine R z (lnR q_ z aM)<|RM z z ?_
  have bW:=(O.e G).c h1<|c_ bV
  have aN:=lt_ (lt_ aL G.s) h1.s;obtain ⟨e5,_,_,e6,d6⟩:=u_<|ifT bi ar;refine E z (fc call79 z<|bq.run e6 (zt' H aN) (W.g bW) hu hv hp (hq.g a3) (hw.g a3) (hx.g a3) aM (ii z) (a_t<|repS.len aM) (J.g bW) I) ?_;rintro _ _ ⟨bX,bY,bZ,c0,e7,c1,c2,c3,e8,rfl,e9,ea,eb,ec,ed,aO,a4⟩
  iterate 3 refine Re z z z ?_
  refine E0 (fs0 (cur':=[vI e5.number,sl bY bZ c0,sl c1 c2 c3]) t_ z z (((h2.e G).c h1<|djs<|mmr h2.lt).e bX) z z z z) ?_;rintro _ _ ⟨ee,ef⟩;have aP:=ef.one;refine Ra z<|Rw z ?_
  obtain rfl:=som d6;have c4:=lt_ G.s h1.s;exact Wr<|rtO<|U_ hr (E_ Z_ t_ z ee z) z z ⟨bM (bup (bM (bup (bup h3 h4) G) h1<|m1 aL) bX) aP<|m1 h3.s,bY,bZ,c0,e7,c1,c2,c3,e8,z,e9,ea.c aP<|m_ (al_ a4) h2.lt c4,eb.c aP<|m_ (ar_ a4) h2.lt c4,ec,ed,na_ (nl_ aO) (nr_ aO)<|nj aO,aa_ (w_ (al_ a4) aN)<|w_ (ar_ a4) aN⟩
 have bj:=ifF bi ar;refine Ws<|Rq z z z<|Rw z<|Wc z (fun au=>?_) (fun au=>?_)
 ·refine Ws<|R z (lN (vs:=[sl A0 N0 C0]) s_ p_ z z fid<|((ho.e G).c h1<|djs<|mm1 hn.lt h4.s).row 0 1 z)<|R z (lN (vs:=vR xa ab nc cd ae nf cg ah ni cj ak nl cm) I_ k_ z z fid<|V.row 0 8 z)<|RM z z ?_
  have aQ:=lt_ h3.s h4.s;have c5:∀k∈[L.z],¬B k:=or0 (b_ lr)<|i_<|zt' H aQ;have c6:=(O.e G).c h1<|c_ c5
  have a5:=(G.ag B).c h1<|c_ c5
  have aR:=lt_ (lt_ aQ G.s) h1.s;obtain ⟨eg,_,_,eh,d7⟩:=u_<|ifT bj au;refine E z (fc call80 z<|dd.run eh (zt' H aR) (W.g c6) hu hv hp (hq.g a5) (hw.g a5) (hx.g a5) (ht.g a5) (J.g c6) I) ?_;rintro _ _ ⟨c7,c8,c9,ca,ei,cb,cc,ce,ej,rfl,ek,em,en,eo,ep,aS,a6⟩
  iterate 3 refine Re z z z ?_
  refine E0 (fs0 (cur':=[vI eg.number,sl c8 c9 ca,sl cb cc ce]) t_ z z (((h2.e G).c h1<|djs<|mmr h2.lt).e c7) z z z z) ?_;rintro _ _ ⟨er,es⟩;have aT:=es.one;refine Ra z<|Rw z ?_
  obtain rfl:=som d7;have cf:=lt_ G.s h1.s;exact Wr<|rtO<|U_ hr (E_ Z_ t_ z er z) z z ⟨bM (bup (bM (bup (bup h3 h4) G) h1<|m1 aQ) c7) aT<|m1 h3.s,c8,c9,ca,ei,cb,cc,ce,ej,z,ek,em.c aT<|m_ (al_ a6) h2.lt cf,en.c aT<|m_ (ar_ a6) h2.lt cf,eo,ep,na_ (nl_ aS) (nr_ aS)<|nj aS,aa_ (w_ (al_ a6) aR)<|w_ (ar_ a6) aR⟩
 have bk:=ifF bj au;refine Ws<|Rq z z z<|Rw z<|Wc z (fun av=>?_) (fun av=>?_)
 ·refine Ws<|R z (lN (vs:=[sl A0 N0 C0]) s_ p_ z z fid<|((ho.e G).c h1<|djs<|mm1 hn.lt h4.s).row 0 1 z)<|R z (lN (vs:=vR xa ab nc cd ae nf cg ah ni cj ak nl cm) I_ k_ z z fid<|V.row 0 8 z)<|RM z z ?_
  have aU:=lt_ h3.s h4.s;have ch:∀k∈[L.z],¬B k:=or0 (b_ lr)<|i_<|zt' H aU;have ci:=(O.e G).c h1<|c_ ch
  have a7:=(G.ag B).c h1<|c_ ch
  have aV:=lt_ (lt_ aU G.s) h1.s;obtain ⟨et,_,_,eu,d8⟩:=u_<|ifT bk av;refine E z (fc call81 z<|de.run eu (zt' H aV) (W.g ci) hu hv hp (hq.g a7) (hw.g a7) (hx.g a7) (ht.g a7) (J.g ci) I) ?_;rintro _ _ ⟨ck,cl,cn,co,ew,cp,cq,cr,ex,rfl,ey,ez,eA,eB,eC,aW,a8⟩
  iterate 3 refine Re z z z ?_
  refine E0 (fs0 (cur':=[vI et.number,sl cl cn co,sl cp cq cr]) t_ z z (((h2.e G).c h1<|djs<|mmr h2.lt).e ck) z z z z) ?_;rintro _ _ ⟨eD,eE⟩;have aX:=eE.one;refine Ra z<|Rw z ?_
  obtain rfl:=som d8;have ct:=lt_ G.s h1.s;exact Wr<|rtO<|U_ hr (E_ Z_ t_ z eD z) z z ⟨bM (bup (bM (bup (bup h3 h4) G) h1<|m1 aU) ck) aX<|m1 h3.s,cl,cn,co,ew,cp,cq,cr,ex,z,ey,ez.c aX<|m_ (al_ a8) h2.lt ct,eA.c aX<|m_ (ar_ a8) h2.lt ct,eB,eC,na_ (nl_ aW) (nr_ aW)<|nj aW,aa_ (w_ (al_ a8) aV)<|w_ (ar_ a8) aV⟩
 have bm:=ifF bk av;refine Ws<|Rq z z z<|Rw z<|Wc z (fun aw=>?_) (fun aw=>?_)
 ·refine Ws<|R z (lN (vs:=[sl A0 N0 C0]) s_ p_ z z fid<|((ho.e G).c h1<|djs<|mm1 hn.lt h4.s).row 0 1 z)<|R z (lN (vs:=vR xa ab nc cd ae nf cg ah ni cj ak nl cm) I_ k_ z z fid<|V.row 0 8 z)<|RM z z ?_
  have aY:=lt_ h3.s h4.s;have cu:∀k∈[L.z],¬B k:=or0 (b_ lr)<|i_<|zt' H aY;have cv:=(O.e G).c h1<|c_ cu
  have a9:=(G.ag B).c h1<|c_ cu
  have aZ:=lt_ (lt_ aY G.s) h1.s;obtain ⟨eF,_,_,eG,d9⟩:=u_<|ifT bm aw;refine E z (fc call82 z<|df.run eG (zt' H aZ) (W.g cv) hu hv hp (hq.g a9) (hw.g a9) (hx.g a9) (ht.g a9) (J.g cv) I) ?_;rintro _ _ ⟨cw,cx,cy,cz,eH,cA,cB,cC,eI,rfl,eJ,eK,eL,eM,eN,b0,aa⟩
  iterate 3 refine Re z z z ?_
  refine E0 (fs0 (cur':=[vI eF.number,sl cx cy cz,sl cA cB cC]) t_ z z (((h2.e G).c h1<|djs<|mmr h2.lt).e cw) z z z z) ?_;rintro _ _ ⟨eO,eP⟩;have b3:=eP.one;refine Ra z<|Rw z ?_
  obtain rfl:=som d9;have cD:=lt_ G.s h1.s;exact Wr<|rtO<|U_ hr (E_ Z_ t_ z eO z) z z ⟨bM (bup (bM (bup (bup h3 h4) G) h1<|m1 aY) cw) b3<|m1 h3.s,cx,cy,cz,eH,cA,cB,cC,eI,z,eJ,eK.c b3<|m_ (al_ aa) h2.lt cD,eL.c b3<|m_ (ar_ aa) h2.lt cD,eM,eN,na_ (nl_ b0) (nr_ b0)<|nj b0,aa_ (w_ (al_ aa) aZ)<|w_ (ar_ aa) aZ⟩
 refine Wk<|Wq (Wd (X:=noX) 0 (pl_ 15 [7]) mo (by kernel_rfl) fun fq s6 _=>?_)
 have cE:=((ho.e G).c h1<|djs<|mm1 hn.lt h4.s).e s6;refine dR z z (lN (vs:=[sl A0 N0 C0]) s_ p_ z z fid<|cE.row 0 1 z)<|dR z z (fd K_ z) ?_
 have cF:=V.e s6;refine dR z z (l0 z_ z<|cF.at z) ?_;obtain ⟨_,eQ,da⟩:=bdS<|ifF bm aw;have hy:=lt_ h3.s h4.s;have cG:∀k∈[L.z],¬B k:=or0 (b_ lr)<|i_<|zt' H hy;have cH:=((G.ag B).c h1<|c_ cG).e s6;refine dRX z z (at_ (α:=Int) q_ z_3 z z z (ht.g cH) eQ) ?_;rintro _ ⟨_,_,_,rfl,eR,eS,_⟩;obtain ⟨rfl,eT⟩:=J_ eS;refine dR z z (l0 g_3 z<|eR.at0 z)<|dM z z z<|dM z z z ?_
 have ad:=((O.e G).c h1<|c_ cG).e s6;have b4:=lt_ (lt_ (lt_ hy G.s) h1.s) s6.s;obtain ⟨_,_,_,eU,bn⟩:=u_ da;refine dE z z (fc call75 z<|h_i eU (zt' H b4) (W.g ad) eT (J.g ad) I) (.inr fun _ _ h=>B_<|h.1) ?_;rintro _ _ ⟨s5,rfl,cI,cJ⟩;refine dM z z z ?_
 iterate 3 refine dR z z (ext_ z z) ?_
 iterate 3 refine dQ z z z ?_
 refine pD<|Wo<|Wq<|Wb<|Wm z<|R z (not_ z)<|Rw z<|Wc z (fun ax=>?_) (fun ax=>?_)
 ·refine Ws<|R z (bP (parts:=[]) (cs:=[vI 0,sl none 0 0,sl none 0 0]) a_M z z)<|Rm z<|E0 (fs0 (cur':=[vI 0,sl none 0 0,sl none 0 0]) t_ z z ((((h2.e G).c h1<|djs<|mmr h2.lt).e s6).e s5) z z z z) ?_
  rintro _ _ ⟨eV,eW⟩;refine Ra z<|Rw z ?_
  obtain rfl:=som<|ifT bn ax;exact Wr<|rtO<|U_ hr (E_ Z_ t_ z eV z) z z ⟨bM (bup (bup (bM (bup (bup h3 h4) G) h1<|m1 hy) s6) s5) eW.one<|m1 h3.s,none,0,0,[],none,0,0,[],z,ii z,onL,onL,I,ii z,nd0,al0⟩
 have bo:=ifF bn ax;refine Ws<|Rf z a_i z ?_
 have cK:=cF.e s5;refine R z (l0 g_3 z<|cK.at z)<|Rq z z z<|Rw z<|Wc z (fun ay=>?_) (fun ay=>?_)
 ·refine Wm z<|RM z z ?_
  have b5:=lt_ b4 s5.s;obtain ⟨eX,_,_,eY,db⟩:=u_<|ifT bo ay;refine E z (fc call77 z<|W_w1b eY (zt' H b5) (J.g<|ad.e s5) cJ cI) ?_;rintro _ _ ⟨cL,cM,cN,cO,eZ,cP,cQ,cR,f0,rfl,f1,f2,f3,f4,f5,b6,af⟩
  iterate 3 refine Re z z z ?_
  refine E0 (fs0 (cur':=[vI eX.number,sl cM cN cO,sl cP cQ cR]) t_ z z (((((h2.e G).c h1<|djs<|mmr h2.lt).e s6).e s5).e cL) z z z z) ?_;rintro _ _ ⟨f6,f7⟩;have b7:=f7.one;refine Ra z<|Rw z ?_
  obtain rfl:=som db;have cS:=lt_ (lt_ (lt_ G.s h1.s) s6.s) s5.s;exact Wr<|rtO<|U_ hr (E_ Z_ t_ z f6 z) z z ⟨bM (bup (bup (bup (bM (bup (bup h3 h4) G) h1<|m1 hy) s6) s5) cL) b7<|m1 h3.s,cM,cN,cO,eZ,cP,cQ,cR,f0,z,f1,f2.c b7<|m_ (al_ af) h2.lt cS,f3.c b7<|m_ (ar_ af) h2.lt cS,f4,f5,na_ (nl_ b6) (nr_ b6)<|nj b6,aa_ (w_ (al_ af) b5)<|w_ (ar_ af) b5⟩
 have bp:=ifF bo ay;refine Wm z<|R z (a_d z z)<|Rw z<|Wc z (fun az=>?_) (fun az=>?_)
 ·refine Ws<|R z (bP (parts:=[]) (cs:=[vI 0,sl none 0 0,sl none 0 0]) a_M z z)<|Rm z<|E0 (fs0 (cur':=[vI 0,sl none 0 0,sl none 0 0]) t_ z z ((((h2.e G).c h1<|djs<|mmr h2.lt).e s6).e s5) z z z z) ?_
  rintro _ _ ⟨f8,f9⟩;refine Ra z<|Rw z ?_
  obtain rfl:=som<|ifT bp az;exact Wr<|rtO<|U_ hr (E_ Z_ t_ z f8 z) z z ⟨bM (bup (bup (bM (bup (bup h3 h4) G) h1<|m1 hy) s6) s5) f9.one<|m1 h3.s,none,0,0,[],none,0,0,[],z,ii z,onL,onL,I,ii z,nd0,al0⟩
 refine Wk<|Ws<|R z (lN (vs:=[sl A0 N0 C0]) s_ p_ z z fid<|(cE.e s5).row 0 1 z)<|R z (lN (vs:=vR xa ab nc cd ae nf cg ah ni cj ak nl cm) I_ k_ z z fid<|cK.row 0 8 z)<|RM z z<|Rm z ?_
 have cT:=ad.e s5;have ai:=cH.e s5;have b8:=lt_ b4 s5.s;obtain ⟨fe,_,_,ff,dc⟩:=u_<|ifF bp az;refine E z (fc call79 z<|bq.run ff (zt' H b8) (W.g cT) hu hv hp (hq.g ai) (hw.g ai) (hx.g ai) (ht.g ai) (ii z) cI (J.g cT) cJ) ?_;rintro _ _ ⟨cU,cV,cW,cX,fg,cY,cZ,d0,fh,rfl,fi,fj,fk,fl,fm,b9,aj⟩
 iterate 3 refine Re z z z ?_
 refine E0 (fs0 (cur':=[vI fe.number,sl cV cW cX,sl cY cZ d0]) t_ z z (((((h2.e G).c h1<|djs<|mmr h2.lt).e s6).e s5).e cU) z z z z) ?_;rintro _ _ ⟨fo,fp⟩;have ba:=fp.one;refine Ra z<|Rw z ?_
 obtain rfl:=som dc;have d1:=lt_ (lt_ (lt_ G.s h1.s) s6.s) s5.s;exact Wr<|U_ hr (E_ Z_ t_ z fo z) z z ⟨bM (bup (bup (bup (bM (bup (bup h3 h4) G) h1<|m1 hy) s6) s5) cU) ba<|m1 h3.s,cV,cW,cX,fg,cY,cZ,d0,fh,z,fi,fj.c ba<|m_ (al_ aj) h2.lt d1,fk.c ba<|m_ (ar_ aj) h2.lt d1,fl,fm,na_ (nl_ b9) (nr_ b9)<|nj b9,aa_ (w_ (al_ aj) b8)<|w_ (ar_ aj) b8⟩
end Go.Vw
