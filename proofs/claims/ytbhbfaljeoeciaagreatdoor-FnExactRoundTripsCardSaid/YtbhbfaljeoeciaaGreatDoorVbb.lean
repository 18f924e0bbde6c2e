
import Derived.Test.YtbhbfaljeoeciaaGreatDoorVba
set_option linter.unusedVariables false
namespace Go.Vw
open Go.RowKit Dat Go.Proofs
open Go.Proofs.Tryz
open Go.Vw renaming f_U->Wq,f_W->Wg,WC.of_KC->Wo,e_R->Wl,f_V->Wc,h_F->Wr,i_p->Wu,i_6->pT,i_7->pF,g_j->fd,g_k->l1,i_t->lN,f_1->mv,f_2->asg,i_8->lnR,g_p->lss,g_o->eql,g_l->ext_,i_b->bP,g_m->add_,h_T->inc_,i_x->not_,i_9->at_,h_N->fc,e_S->fs,h_M->fb,h_L->fa,h_Z->sr,i_4->cr,i_5->cM,i_3->bM,h_R->iS,h_Q->iA,g_0->br,g_6->oA,h_V->bs,ltge->lg,inor->io,i_w->nq,i_u->lnT,i_v->sb_,h_X->ar_,h_W->al_,h_Y->ds,j_1->m1,i_1->nr_,i_0->nl_,g_7->aa_,all_nil->an_,e_Q->Wb,g_2->u8,h_J->pD,h_G->We,h_S->Wt,h_O->fS,e_E->or_,i_q->Wf,i_h->qL,h_I->Wd,i_c->fN,g_8->na_,i_2->nj,i_d->f0,i_a->rX,i_e->tl_,i_f->ic
variable {A0:Option Addr}{N0 C0:Nat}{B:Zone}{w0:World}{AC:Option Addr}{AB:Option Addr}{AD:Option Addr}{AE:Option Addr}{NC CC:Nat}{NB CB:Nat}{ND CD:Nat}{NE CE:Nat}{A3:Option Addr}{A2:Option Addr}{A1:Option Addr}{A4:Option Addr}{N3 C3:Nat}{N2 C2:Nat}{N1 C1:Nat}{N4 C4:Nat}{A9:Option Addr}{N9 C9:Nat}{A6:Option Addr}{N6 C6:Nat}{n:Nat}{A5:Option Addr}{A7:Option Addr}{N5 C5:Nat}{N7 C7:Nat}{AA:Option Addr}{AF:Option Addr}{NA CA:Nat}{NF CF:Nat}{A8:Option Addr}{N8 C8:Nat}
theorem W_w3l {x1:c_}{x2:Int}{x3:Val}{b3 o3:Nat}{res:Bool}(hm:h_u x1 x2 x3=some res)(a0:B<=w0.z)(a5:repS w0 B (sl A0 N0 C0) x1.rules)(aW:inI x2)(aX:inI x3.number)(ap:repS w0 B (sl A5 N5 C5) x3.bytes)(a7:repS w0 B (sl A7 N7 C7) x3.items)(hC3:L_ w0 b3 o3 [vI x3.number,sl A5 N5 C5,sl A7 N7 C7])(hC3b:B b3):l_ prog 121 [(.agg #[sl A0 N0 C0]),vI x2,(.pointer<|some ⟨b3,o3,none⟩)] w0 (Q7 w0 B res):=by
 unfold h_u at hm
 refine goG func121 z z z fun fn hr=>Ws<|E z (fb z) ?_
 rintro _ G ⟨rfl,aK⟩;have H:=aK.below;have hh:Blk G w0.z [sl A0 N0 C0]:=aK.blk;refine Rw z<|Ws<|Rf z a_9 z<|R z (l0 a_b z<|hh.at z)<|Rm z ?_
 obtain ⟨xc,bt,aY⟩:=bdS hm;have aL:=a5.e H;refine RX z (at_ (α:=g_) a_3 t_ z z z aL bt) ?_;rintro _ ⟨W,Y,_,rfl,hb,bu,_⟩;obtain ⟨_,_,_,_,_,_,_,_,_,_,_,_,rfl,_,_,bv,_,_,_,hi⟩:=a_v bu;refine Rw z<|Ws<|RA z z<|Rw z<|Wq<|Wm z<|R z (C_ z)<|Rf z a_M z<|R z (l0 g_3 z<|hb.at (j:=1) z)<|Wn<|Wb<|Ws<|Rq z z z<|Rw z ?_
 obtain ⟨bw,aq,ar⟩:=bdS aY;refine Wt (fun a w=>∃(xj:Int)(xd:Int)(xa:Int),Sum.inl (xj,xd,xa)=bw/\Sat 136 [(2,.pointer<|some ⟨b3,o3,none⟩),(7,.pointer<|some ⟨W,Y,none⟩),(8,vI xj),(9,vI xd),(10,vI xa)] a/\Below G.z G w/\inI xj/\inI xd/\inI xa) ?_ ?_
 ·refine Wc z (fun a8=>?_)<|fun a8=>?_
  ·refine Wg<|R z (lN (vs:=[sl A0 N0 C0]) w_ v_ z z fid<|hh.row 0 1 z)<|Rm z ?_
   obtain ⟨bx,bz,aZ⟩:=bdS<|ifT aq a8;refine E z (fc call145 z<|e_J bz (zt' a0 H.s) aL aW) ?_;rintro _ _ ⟨bA,rfl,bB⟩;exact Ra z<|Wl (fun _ q=>⟨bx,0,0,som aZ,q.k<|s5 z z z z z,bA,bB,ii z,ii z⟩)
  refine Ws<|Rq z z z<|Rw z ?_
  obtain ⟨bC,au,av⟩:=bdS<|ifF aq a8;refine Wt (fun a w=>∃(xk:Int)(xl:Int)(xm:Int),Sum.inl (xk,xl,xm)=bC/\Sat 136 [(2,.pointer<|some ⟨b3,o3,none⟩),(7,.pointer<|some ⟨W,Y,none⟩),(8,vI xk),(9,vI xl),(10,vI xm)] a/\Below G.z G w/\inI xk/\inI xl/\inI xm) ?_ ?_
  ·refine Wc z (fun a9=>?_)<|fun a9=>?_
   ·have aw:=ifT au a9;refine Wq<|Wq (Wd (X:=noX) 0 (pl_ 10 []) mo (by kernel_rfl) fun cS sn _=>dM z z z<|dR z z (C_ z)<|dR z z (fd a_B z)<|dR z z (l0 J_ z<|((hC3.e H).e sn).at (j:=1) z)<|dR z z (lnR n_ z<|ap.g<|(H.ag B).e sn)<|dM z z z<|dR z z (C_ z)<|dR z z (fd a_G z) ?_)
    have aM:=hb.e sn;refine dR z z (l0 g_3 z<|aM.at (j:=2) z)<|dR z z (nq z z)<|pD<|Wo<|Wc z (fun aa=>?_) (fun aa=>?_)
    ·refine Ws<|Rw z ?_
     obtain rfl:=som<|ifT aw aa;have b0:=elR av;obtain rfl:=som b0;have b4:=elR ar;obtain rfl:=som b4;exact Wr<|rtO<|f_ hr z ⟨bup H sn,z⟩
    exact Wk<|Wg<|Rm z<|R z (C_ z)<|Rf z a_G z<|R z (l0 g_3 z<|aM.at (j:=2) z)<|Ra z<|Wl (fun _ q=>⟨0,xc.size,0,som<|ifF aw aa,q.k<|s5 z z z z z,sn,ii z,bv,ii z⟩)
   refine Ws<|Rq z z z<|Rw z ?_
   obtain ⟨bD,ax,b5⟩:=bdS<|ifF au a9;refine Wt (fun a w=>∃(xo:Int)(xp:Int)(xq:Int),(xo,xp,xq)=bD/\Sat 136 [(2,.pointer<|some ⟨b3,o3,none⟩),(7,.pointer<|some ⟨W,Y,none⟩),(8,vI xo),(9,vI xp),(10,vI xq)] a/\Below G.z G w/\inI xo/\inI xp/\inI xq) ?_ ?_
   ·refine Wc z (fun ab=>?_)<|fun ab=>?_
    ·refine Wd (X:=noX) 0 (pl_ 10 [7,8]) mo (by kernel_rfl) fun cT se _=>dR z z (lN (vs:=[sl A0 N0 C0]) w_ v_ z z fid<|(hh.e se).row 0 1 z)<|dM z z z<|dR z z (C_ z)<|dR z z (fd R_ z)<|dR z z (l0 A_ z<|(hb.e se).at (j:=7) z) ?_
     obtain ⟨_,bE,b6⟩:=bdS<|ifT ax ab;refine dRX z z (at_ (α:=Int) y_ z_3 z z z (hi.e se) bE) ?_;rintro _ ⟨_,_,_,rfl,bF,bG,_⟩;obtain ⟨rfl,bH⟩:=T_ bG;refine dR z z (l0 g_3 z<|bF.at0 z) ?_;have aN:=lt_ H.s se.s;obtain ⟨_,bI,b7⟩:=bdS b6;refine dE z z (fc call145 z<|e_J bI (zt' a0 aN) (a5.g<|(H.ag B).e se) bH) (.inr fun _ _ h=>o_<|h.1) ?_;rintro _ _ ⟨aO,rfl,bJ⟩;obtain ⟨bK,bL,b9⟩:=bdS b7;refine dE z z (fc call146 z<|W_w21 bL (zt' a0<|lt_ aN aO.s) (ii z) bJ) (.inr fun _ _ h=>o_<|h.1) ?_;rintro _ _ ⟨bM,rfl,bN⟩;exact dQ z z z<|pD (fun _ q=>⟨0,bK,0,som b9,q.k<|s5 z z z z z,bup (bup se aO) bM,ii z,bN,ii z⟩)
    refine Ws<|Rq z z z<|Rw z ?_
    obtain ⟨bO,ay,ba⟩:=bdS<|ifF ax ab;refine Wt (fun a w=>∃(xr:Int)(xs:Int)(xt:Int),(xr,xs,xt)=bO/\Sat 136 [(2,.pointer<|some ⟨b3,o3,none⟩),(7,.pointer<|some ⟨W,Y,none⟩),(8,vI xr),(9,vI xs),(10,vI xt)] a/\Below G.z G w/\inI xr/\inI xs/\inI xt) ?_ ?_
    ·refine Wc z (fun ad=>?_)<|fun ad=>?_
     ·exact Wg<|Ra z<|Wl (fun _ q=>⟨0,400,0,som<|ifT ay ad,q.k<|s5 z z z z z,br G,ii z,ii z,ii z⟩)
     refine Ws<|Rq z z z<|Rw z ?_
     obtain ⟨bP,az,bb⟩:=bdS<|ifF ay ad;refine Wt (fun a w=>∃(xu:Int)(xv:Int),(xu,xv)=bP/\Sat 136 [(2,.pointer<|some ⟨b3,o3,none⟩),(7,.pointer<|some ⟨W,Y,none⟩),(8,vI xu),(9,vI 0),(10,vI xv)] a/\Below G.z G w/\inI xu/\inI xv) ?_ ?_
     ·refine Wc z (fun ae=>?_)<|fun ae=>?_
      ·refine Wd (X:=noX) 0 (pl_ 10 [7,8]) mo (by kernel_rfl) fun cU sf _=>dR z z (lN (vs:=[sl A0 N0 C0]) w_ v_ z z fid<|(hh.e sf).row 0 1 z)<|dM z z z<|dR z z (C_ z)<|dR z z (fd R_ z)<|dR z z (l0 A_ z<|(hb.e sf).at (j:=7) z) ?_
       obtain ⟨_,bQ,bc⟩:=bdS<|ifT az ae;refine dRX z z (at_ (α:=Int) y_ z_3 z z z (hi.e sf) bQ) ?_;rintro _ ⟨_,_,_,rfl,bR,bS,_⟩;obtain ⟨rfl,bT⟩:=T_ bS;refine dR z z (l0 g_3 z<|bR.at0 z) ?_;have aP:=lt_ H.s sf.s;obtain ⟨_,bU,be⟩:=bdS bc;refine dE z z (fc call145 z<|e_J bU (zt' a0 aP) (a5.g<|(H.ag B).e sf) bT) (.inr fun _ _ h=>o_<|h.1) ?_;rintro _ _ ⟨aQ,rfl,bV⟩;obtain ⟨bW,bX,bf⟩:=bdS be;refine dE z z (fc call146 z<|W_w21 bX (zt' a0<|lt_ aP aQ.s) (ii z) bV) (.inr fun _ _ h=>o_<|h.1) ?_;rintro _ _ ⟨bY,rfl,bZ⟩;exact dQ z z z<|pD (fun _ q=>⟨0,bW,som bf,q.k<|s5 z z z z z,bup (bup sf aQ) bY,ii z,bZ⟩)
      refine Ws<|Rq z z z<|Rw z ?_
      obtain ⟨c0,aA,bg⟩:=bdS<|ifF az ae;refine Wt (fun a w=>∃(xw:Int)(xx:Int),(xw,xx)=c0/\Sat 136 [(2,.pointer<|some ⟨b3,o3,none⟩),(7,.pointer<|some ⟨W,Y,none⟩),(8,vI xw),(9,vI 0),(10,vI xx)] a/\Below G.z G w/\inI xw/\inI xx) ?_ ?_
      ·refine Wc z (fun af=>?_)<|fun af=>?_
       ·exact Wg<|Rm z<|R z (C_ z)<|Rf z R_ z<|R z (l0 A_ z<|hb.at (j:=7) z)<|R z (lnR y_ z hi)<|Ra z<|Wl (fun _ q=>⟨0,(xc.kids.length:Int),som<|ifT aA af,q.k<|s5 z z z z z,br G,ii z,b_h<|repS.len hi⟩)
       refine Ws<|Rq z z z<|Rw z ?_
       obtain ⟨c1,aB,bh⟩:=bdS<|ifF aA af;refine Wt (fun a w=>∃(xy:Int)(xz:Int),(xy,xz)=c1/\Sat 136 [(2,.pointer<|some ⟨b3,o3,none⟩),(7,.pointer<|some ⟨W,Y,none⟩),(8,vI xy),(9,vI 0),(10,vI xz)] a/\Below G.z G w/\inI xy/\inI xz) ?_ ?_
       ·refine Wc z (fun ah=>?_)<|fun ah=>?_
        ·refine Wd (X:=noX) 0 (pl_ 10 [7]) mo (by kernel_rfl) fun cV sg _=>dR z z (lN (vs:=[sl A0 N0 C0]) w_ v_ z z fid<|(hh.e sg).row 0 1 z)<|dM z z z<|dR z z (C_ z)<|dR z z (fd R_ z)<|dR z z (l0 A_ z<|(hb.e sg).at (j:=7) z) ?_
         obtain ⟨_,c2,bi⟩:=bdS<|ifT aB ah;refine dRX z z (at_ (α:=Int) y_ z_3 z z z (hi.e sg) c2) ?_;rintro _ ⟨_,_,_,rfl,c3,c4,_⟩;obtain ⟨rfl,c5⟩:=T_ c4;refine dR z z (l0 g_3 z<|c3.at0 z) ?_;obtain ⟨c6,c7,bj⟩:=bdS bi;refine dE z z (fc call145 z<|e_J c7 (zt' a0<|lt_ H.s sg.s) (a5.g<|(H.ag B).e sg) c5) (.inr fun _ _ h=>o_<|h.1) ?_;rintro _ _ ⟨c8,rfl,c9⟩;exact dQ z z z<|dQ z z z<|pD (fun _ q=>⟨c6,1,som bj,q.k<|s5 z z z z z,bup sg c8,c9,ii z⟩)
        refine Wq<|Ws<|Rq z z z<|Rw z ?_
        obtain ⟨ca,aC,bk⟩:=bdS<|ifF aB ah;refine Wt (fun a w=>∃(al:Bool),al=ca/\Sat 136 [(2,.pointer<|some ⟨b3,o3,none⟩),(7,.pointer<|some ⟨W,Y,none⟩),(8,vI 0),(9,vI 0),(10,vI 0),(81,vB al)] a/\Below G.z G w) ?_ ?_
        ·refine Wc z (fun ai=>?_)<|fun ai=>?_
         ·exact a_I<|fun _ q=>⟨xc.kind==8,som<|ifT aC ai,q.k<|s6 z z z z z z,br G⟩
         exact Wg<|Rq z z z<|Ra z<|Wl (fun _ q=>⟨xc.kind==9,som<|ifF aC ai,q.k<|s6 z z z z z z,br G⟩)
        rintro cb a6 ⟨al,rfl,_,cc⟩;revert cb;refine Wo ?_;obtain ⟨cd,aD,bm⟩:=bdS bk;refine Wt (fun a w=>∃(a1:Int),a1=cd/\Sat 136 [(2,.pointer<|some ⟨b3,o3,none⟩),(7,.pointer<|some ⟨W,Y,none⟩),(8,vI 0),(9,vI 0),(10,vI a1)] a/\Below a6.z a6 w/\inI a1) ?_ ?_
        ·refine Wc z (fun aj=>?_)<|fun aj=>?_
         ·exact Wg<|Ra z<|Wl (fun _ q=>⟨1,som<|ifT aD aj,q.k<|s5 z z z z z,br a6,ii z⟩)
         exact a_I<|fun _ q=>⟨0,som<|ifF aD aj,q.k<|s5 z z z z z,br a6,ii z⟩
        rintro ce _ ⟨a1,rfl,_,cf,cg⟩;revert ce;exact fun _ q=>⟨0,a1,som bm,q.k<|s5 z z z z z,bup cc cf,ii z,cg⟩
       rintro ch _ ⟨xy,xz,rfl,_,ci,cj,ck⟩;revert ch;exact fun _ q=>⟨xy,xz,som<|a_t bh,q.k<|s5 z z z z z,ci,cj,ck⟩
      rintro cl _ ⟨xw,xx,rfl,_,cm,cn,co⟩;revert cl;exact fun _ q=>⟨xw,xx,som<|a_t bg,q.k<|s5 z z z z z,cm,cn,co⟩
     rintro cp _ ⟨xu,xv,rfl,_,cq,cr,ct⟩;revert cp;exact fun _ q=>⟨xu,0,xv,som<|a_t bb,q.k<|s5 z z z z z,cq,cr,ii z,ct⟩
    rintro cu _ ⟨xr,xs,xt,rfl,_,cv,cw,cx,cy⟩;revert cu;exact fun _ q=>⟨xr,xs,xt,som<|d_H ba,q.k<|s5 z z z z z,cv,cw,cx,cy⟩
   rintro cz _ ⟨xo,xp,xq,rfl,_,cA,cB,cC,cD⟩;revert cz;exact fun _ q=>⟨xo,xp,xq,som<|d_H b5,q.k<|s5 z z z z z,cA,cB,cC,cD⟩
  rintro cE _ ⟨xk,xl,xm,rfl,_,cF,cG,cH,cI⟩;have bn:=elL av;revert cE;exact fun _ q=>⟨xk,xl,xm,som<|d_H bn,q.k<|s5 z z z z z,cF,cG,cH,cI⟩
 rintro cJ a2 ⟨xj,xd,xa,rfl,_,s7,cK,_,_⟩;have bo:=elL ar;revert cJ;refine Wo<|Wq<|Wq ?_
 obtain ⟨cL,aE,aF⟩:=bdS<|d_H bo;refine Wt (fun a w=>∃(am:Bool),am=cL/\Sat 136 [(2,.pointer<|some ⟨b3,o3,none⟩),(8,vI xj),(9,vI xd),(10,vI xa),(111,vB am)] a/\Below a2.z a2 w) ?_ ?_
 ·refine Wg<|Rm z<|R z (C_ z)<|Rf z a_M z ?_
  have an:=hb.e s7;refine R z (l0 g_3 z<|an.at (j:=1) z)<|Rq z z z<|Rm z ?_
  rcases bs (xc.kind==6) with O | O
  ·iterate 5 refine Nh z O ?_
   exact R z (pT z O z)<|Rm z<|Nh z z<|Nh z z<|Nh z z<|Nh z z<|Nh z z<|R z (pT z z z)<|Rm z<|Rh z z (mv z)<|Rh z z (C_ z)<|Rh z z (fd Q_ z)<|Rh z z (l0 X_ z<|((hC3.e H).e s7).at (j:=2) z)<|Rh z z (lnR Y_ z<|a7.g<|(H.ag B).e s7)<|Rh z z (mv z)<|Rh z z (nq z z)<|R z (pT z z z)<|Wl (fun _ q=>⟨(x3.items.length:Int) != xa,som<|ifT aE O,q.k<|s5 z z z z z,br a2⟩)
  refine Rh z O (mv z)<|Rh z O (C_ z)<|Rh z O (fd a_M z)<|Rh z O (l0 g_3 z<|an.at (j:=1) z)<|Rh z O (eql z z)<|R z (pF z O z)<|Rm z ?_
  obtain ⟨aR,aG,aH⟩:=bdS<|ifF aE O;refine c_T 102 aR 6 ?_ ?_
  ·rcases bs (xc.kind==7) with V | V
   ·iterate 5 refine Nh z V ?_
    exact R z (pT z V z)<|WLq 6 (ifT aG V) z z z
   exact Rh z V (mv z)<|Rh z V (C_ z)<|Rh z V (fd a_M z)<|Rh z V (l0 g_3 z<|an.at (j:=1) z)<|Rh z V (eql z z)<|R z (pF z V z)<|WLq 6 (ifF aG V) z z z
  refine Rm z ?_
  rcases bs aR with I | I
  ·exact Rh z I (mv z)<|Rh z I (C_ z)<|Rh z I (fd Q_ z)<|Rh z I (l0 X_ z<|((hC3.e H).e s7).at (j:=2) z)<|Rh z I (lnR Y_ z<|a7.g<|(H.ag B).e s7)<|Rh z I (mv z)<|Rh z I (nq z z)<|R z (pT z I z)<|Wl (fun _ q=>⟨(x3.items.length:Int) != xa,som<|ifT aH I,q.k<|s5 z z z z z,br a2⟩)
  iterate 7 refine Nh z I ?_
  exact R z (pF z I z)<|Wl (fun _ q=>⟨false,som<|ifF aH I,q.k<|s5 z z z z z,br a2⟩)
 rintro cM aS ⟨am,rfl,_,a3⟩;revert cM;refine Wo<|Wc z (fun ak=>?_) (fun ak=>?_)
 ·refine Ws<|Rw z ?_
  obtain rfl:=som<|ifT aF ak;exact Wr<|f_ hr z ⟨bup (bup H s7) a3,z⟩
 refine Wk<|Wq ?_
 obtain ⟨cN,bp,bq⟩:=bdS<|ifF aF ak;refine Wt (fun a w=>∃(ao:Bool),ao=cN/\Sat 136 [(6,vB ao)] a/\Below aS.z aS w) ?_ ?_
 ·refine Wg<|Rm z<|R z (C_ z)<|Rf z a_F z ?_
  have aT:=((hC3.e H).e s7).e a3;refine R z (l0 g_3 z<|aT.at (j:=0) z)<|Rm z ?_
  obtain ⟨cO,cP,aI⟩:=bdS bp;refine E z (fc call117 z<|d_j cP (zt' a0<|lt_ (lt_ H.s s7.s) a3.s) aX (ii z) cK) ?_;rintro _ _ ⟨a4,rfl⟩;refine Rm z ?_
  rcases bs cO with J | J
  ·have aJ:=ifT aI J;refine Rh z J (mv z)<|Rh z J (C_ z)<|Rh z J (fd a_B z) ?_
   have aU:=aT.e a4;refine Rh z J (l0 J_ z<|aU.at (j:=1) z) ?_;have aV:=(((H.ag B).e s7).e a3).e a4;refine Rh z J (lnR n_ z<|ap.g aV)<|Rh z J (mv z)<|Rh z J (b_o z z)<|R z (pT z J z)<|Rm z ?_
   rcases bs (decide<|(x3.bytes.length:Int)<=xd) with L | L
   ·exact Rh z L (mv z)<|Rh z L (C_ z)<|Rh z L (fd Q_ z)<|Rh z L (l0 X_ z<|aU.at (j:=2) z)<|Rh z L (lnR Y_ z<|a7.g aV)<|Rh z L (mv z)<|Rh z L (b_o z z)<|R z (pT z L z)<|Ra z<|Wl (fun _ q=>⟨decide<|(x3.items.length:Int)<=xa,som<|ifT aJ L,q.k<|s1 z,a4⟩)
   iterate 7 refine Nh z L ?_
   exact R z (pF z L z)<|Ra z<|Wl (fun _ q=>⟨false,som<|ifF aJ L,q.k<|s1 z,a4⟩)
  iterate 7 refine Nh z J ?_
  exact R z (pF z J z)<|Rm z<|Nh z z<|Nh z z<|Nh z z<|Nh z z<|Nh z z<|Nh z z<|Nh z z<|R z (pF z z z)<|Ra z<|Wl (fun _ q=>⟨false,som<|ifF aI J,q.k<|s1 z,a4⟩)
 rintro cQ _ ⟨ao,rfl,_,cR⟩;revert cQ;refine Wo ?_;obtain rfl:=som bq;exact Wr<|f_ hr z ⟨bup (bup (bup H s7) a3) cR,z⟩
theorem j_n {x1:c_}{x2:Int}{x3:Val}{b3 o3:Nat}{x4:Int}{res:Int}(hm:c_Q x1 x2 x3 x4=some res)(aU:B<=w0.z)(O:repS w0 B (sl A0 N0 C0) x1.rules)(aP:inI x2)(aQ:inI x3.number)(aR:repS w0 B (sl A5 N5 C5) x3.bytes)(aS:repS w0 B (sl A7 N7 C7) x3.items)(hC3:L_ w0 b3 o3 [vI x3.number,sl A5 N5 C5,sl A7 N7 C7])(hC3b:B b3)(aT:inI x4):l_ prog 75 [(.agg #[sl A0 N0 C0]),vI x2,.pointer<|some ⟨b3,o3,none⟩,vI x4] w0 (Q0 w0 B res):=by
 unfold c_Q at hm
 refine goG func75 z z z fun fn hr=>Ws<|E z (fb z) ?_
 rintro _ G ⟨rfl,hj⟩;have H:=hj.below;refine Rw z<|Ws<|Rf z a_9 z<|R z (l0 a_b z<|(hj.blk:Blk G w0.z [sl A0 N0 C0]).at z)<|Rm z ?_
 obtain ⟨L,ew,hmk⟩:=bdS hm;refine RX z (at_ (α:=g_) a_3 t_ z z z (O.e H) ew) ?_;rintro _ ⟨bl,om,_,rfl,h2,hx,_⟩;obtain ⟨_,_,_,_,_,_,ay,nz,ah,_,_,_,rfl,_,_,_,_,_,h5,h4⟩:=a_v hx;refine Rw z<|Wq<|Wm z<|R z (C_ z)<|Rf z a_M z<|R z (l0 g_3 z<|h2.at (j:=1) z)<|Wn<|Wb<|Ws<|Rq z z z<|Rw z<|Wc z (fun J=>?_) (fun J=>?_)
 ·refine Wm z<|R z (C_ z)<|Rf z R_ z<|R z (l0 A_ z<|h2.at (j:=7) z) ?_
  obtain ⟨_,ai,V⟩:=bdS<|ifT hmk J;refine RX z (at_ (α:=Int) y_ z_3 z z z h4 ai) ?_;rintro _ ⟨_,_,_,rfl,aj,ak,_⟩;obtain ⟨rfl,al⟩:=T_ ak;refine R z (l0 g_3 z<|aj.at0 z)<|Rw z ?_
  obtain rfl:=som V;exact Wr<|rtO<|f_ hr z ⟨H,z,al⟩
 refine Ws<|Rq z z z<|Rw z ?_
 obtain ⟨am,hun,I⟩:=bdS<|ifF hmk J;refine Wt (fun a w=>Sum.inl ()=am/\Sat 80 [] a/\Below G.z G w) ?_ ?_
 ·refine Wc z (fun hca=>?_)<|fun hca=>?_
  ·have hmo:=ifT hun hca;refine Wm z<|Rm z<|R z (C_ z)<|Rf z R_ z<|R z (l0 A_ z<|h2.at (j:=7) z)<|R z (lnR y_ z h4)<|Rl z z z<|Wx z (fun hcb=>?_) (fun hcb=>?_)
   ·refine Wm z<|R z (C_ z)<|Rf z R_ z<|R z (l0 A_ z<|h2.at (j:=7) z)<|Rm z ?_
    obtain ⟨_,an,W⟩:=bdS<|ifT hmo hcb;refine RX z (at_ (α:=Int) y_ z_3 z z z h4 an) ?_;rintro _ ⟨_,_,_,rfl,ao,ap,_⟩;obtain ⟨rfl,aq⟩:=T_ ap;refine R z (l0 g_3 z<|ao.at0 z)<|Rw z ?_
    obtain rfl:=som W;have Y:=elR I;obtain rfl:=som Y;exact Wr<|rtO<|f_ hr z ⟨H,z,aq⟩
   exact a_I<|fun _ q=>⟨som<|ifF hmo hcb,q.k sn,br G⟩
  refine Ws<|Rq z z z<|Rw z ?_
  obtain ⟨ar,hup,hmc⟩:=bdS<|ifF hun hca;refine Wt (fun a w=>Sum.inl ()=ar/\Sat 80 [] a/\Below G.z G w) ?_ ?_
  ·refine Wc z (fun hcd=>?_)<|fun hcd=>?_
   ·refine Wm z<|R z (C_ z)<|Rf z b_f z<|R z (l0 A_ z<|h2.at (j:=6) z)<|R z (lnR y_ z h5)<|Rm z<|Wn ?_
    obtain ⟨_,a0,hmq⟩:=bdS<|ifT hup hcd;refine Wf (σ:=Unit) (ρ:=Int) (fun (kr:Nat)(_:Unit) a w=>Sat 80 [(2,.pointer<|some ⟨b3,o3,none⟩),(9,.pointer<|some ⟨bl,om,none⟩),(49,sl ay nz ah),(50,vI (L.tags.length:Int)),(51,vI ((kr:Nat):Int))] a/\Below G.z G w) (fun (_:Unit) a w=>Sat 80 [] a/\Below G.z G w) (rQ prog fn<|Q0 w0 B) a0 ?_ ?_ ?_ ?_ ?_
    ·exact fun _ q=>⟨q.k<|s5 z z z z z,br G⟩
    ·rintro kr _ _ _ _ hke ⟨a1,s3⟩ a2;refine Wu ?_ a1;refine Ws<|Rl z z z<|Wn<|Wq<|Wc z (fun _=>?_) (fun hc=>(a_0 hke hc).elim)
     refine Wk<|Wq<|Wb<|Wm z ?_
     obtain ⟨_,au,hms⟩:=bdS a2;refine RX z (at_ (α:=Int) y_ z_3 z z z (h5.e s3) au) ?_;rintro _ ⟨_,_,_,rfl,av,aw,_⟩;obtain ⟨rfl,_⟩:=T_ aw;refine R z (l0 g_3 z<|av.at0 z)<|Ra z<|Rw z<|Wm z<|Rm z<|R z (C_ z)<|Rf z a_F z<|R z (l0 g_3 z<|((hC3.e H).e s3).at (j:=0) z)<|Rq z z z<|Wx z (fun hcf=>?_) (fun hcf=>?_)
     ·refine Wm z<|R z (C_ z)<|Rf z R_ z<|R z (l0 A_ z<|(h2.e s3).at (j:=7) z)<|Rm z<|R z (inc_ hke (lt_ (repS.len h5) G_) z z) ?_
      obtain ⟨_,ax,a3⟩:=bdS<|ifT hms hcf;refine RX z (at_ (α:=Int) y_ z_3 z z z (h4.e s3) ax) ?_;rintro _ ⟨_,_,_,rfl,az,aA,_⟩;obtain ⟨rfl,aB⟩:=T_ aA;exact R z (l0 g_3 z<|az.at0 z)<|Rw z<|Wr<|rtO<|qL (som a3).symm<|f_ hr z ⟨bup H s3,z,aB⟩
     exact Wk<|Wg<|R z (inc_ hke (lt_ (repS.len h5) G_) z z)<|Rm z<|Wl (fun _ q=>⟨(),(som<|ifF hms hcf).symm,⟨q.k<|s5 z z z z z,s3⟩⟩)
    ·rintro _ _ _ ⟨a4,aC⟩;refine Wu ?_ a4;refine Ws<|Rl z z z<|Wn<|Wq<|Wc z (fun hc=>(a_1 hc).elim) (fun _=>?_)
     exact We<|fun _ q=>⟨rfl,⟨q.k sn,aC⟩⟩
    ·rintro _ aD _ rfl ⟨_,aE⟩;have a5:=elL hmq;revert aD;exact fun _ q=>⟨som a5,q.k sn,aE⟩
    rintro _ _ _ _ rfl ⟨rfl,a6⟩;have a7:=elR hmq;obtain rfl:=som a7;have a8:=elR hmc;obtain rfl:=som a8;have a9:=elR I;obtain rfl:=som a9;exact ⟨a6,z⟩
   refine Wq<|Ws<|Rq z z z<|Rw z ?_
   obtain ⟨aF,hut,hmu⟩:=bdS<|ifF hup hcd;refine Wt (fun a w=>∃(xg:Bool),xg=aF/\Sat 80 [(9,.pointer<|some ⟨bl,om,none⟩),(71,vB xg)] a/\Below G.z G w) ?_ ?_
   ·refine Wc z (fun hch=>?_)<|fun hch=>?_
    ·exact a_I<|fun _ q=>⟨L.kind==8,som<|ifT hut hch,q.k<|s2 z z,br G⟩
    exact Wg<|Rq z z z<|Ra z<|Wl (fun _ q=>⟨L.kind==9,som<|ifF hut hch,q.k<|s2 z z,br G⟩)
   rintro aG _ ⟨xg,rfl,_,s7⟩;revert aG;refine Wo<|Wc z (fun hci=>?_) (fun hci=>?_)
   ·refine Wm z<|R z (C_ z)<|Rf z R_ z<|R z (l0 A_ z<|(h2.e s7).at (j:=7) z) ?_
    obtain ⟨_,aH,aa⟩:=bdS<|ifT hmu hci;refine RX z (at_ (α:=Int) y_ z_3 z z z (h4.e s7) aH) ?_;rintro _ ⟨_,_,_,rfl,aI,aJ,_⟩;obtain ⟨rfl,aK⟩:=T_ aJ;refine R z (l0 g_3 z<|aI.at0 z)<|Rw z ?_
    obtain rfl:=som aa;have ab:=elR hmc;obtain rfl:=som ab;have ad:=elR I;obtain rfl:=som ad;exact Wr<|rtO<|f_ hr z ⟨bup H s7,z,aK⟩
   exact a_I<|fun _ q=>⟨som<|ifF hmu hci,q.k sn,s7⟩
  rintro aL _ ⟨rfl,_,aM⟩;have ae:=elL hmc;revert aL;exact fun _ q=>⟨som ae,q.k sn,aM⟩
 rintro aN _ ⟨rfl,_,aO⟩;have af:=elL I;revert aN;refine Wo<|Ws<|Rw z ?_
 obtain rfl:=som af;exact Wr<|f_ hr z ⟨bup H aO,z,ii z⟩
structure k_X (f:c_->Int->Val->Option Bool):Prop where
  run:∀{A0 A5 A7:Option Addr}{N0 C0 N5 C5 N7 C7 b3 o3:Nat}{B:Zone}{x1:c_}{x2:Int}{x3:Val}{res:Bool}{w0:World}(hm:f x1 x2 x3=some res)(hBw:B<=w0.z)(p1_0:repS w0 B (sl A0 N0 C0) x1.rules)(p2_0:inI x2)(p3_0:inI x3.number)(p3_1:repS w0 B (sl A5 N5 C5) x3.bytes)(p3_2:repS w0 B (sl A7 N7 C7) x3.items)(hC3:L_ w0 b3 o3 [vI x3.number,sl A5 N5 C5,sl A7 N7 C7])(hC3b:B b3),l_ prog 77 [(.agg #[sl A0 N0 C0]),vI x2,(.pointer<|some ⟨b3,o3,none⟩)] w0<|Q7 w0 B res
abbrev n_t (n:Nat):Prop:=k_X (e_2 n).impl_validValue
theorem T_w0m (a6:n_t n):k_X (h_v n<|e_2 n):=by
 constructor
 intro A0 A5 A7 N0 C0 N5 C5 N7 C7 b3 o3 B x1 x2 x3 res w0 hm L J V W Y H hC3 hC3b;unfold h_v at hm
 refine goG func77 z z z fun fn hr=>Ws<|E z (fb z) ?_
 rintro _ ws ⟨rfl,hd⟩;have h1:=hd.below;have he:Blk ws w0.z [sl A0 N0 C0]:=hd.blk;refine Rw z<|Wq<|Ws<|R z (lN (vs:=[sl A0 N0 C0]) w_ v_ z z fid<|he.row 0 1 z)<|RM z z ?_
 have hf:=hC3.e h1;obtain ⟨_,et,hmg⟩:=bdS hm;refine E z (fc call121 z<|W_w3l et (zt' L h1.s) (J.e h1) V W (Y.e h1) (H.e h1) hf hC3b) ?_;rintro _ I ⟨s2,rfl⟩;refine R z (not_ z)<|Wx z (fun O=>?_) (fun O=>?_)
 ·refine Ws<|Rw z ?_
  obtain rfl:=som<|ifT hmg O;exact Wr<|f_ hr z ⟨bup h1 s2,z⟩
 refine Wk<|Wq<|Wm z<|R z (C_ z)<|Rf z Q_ z ?_
 have hh:=hf.e s2;refine R z (l0 X_ z<|hh.at (j:=2) z) ?_;have hi:=(h1.ag B).e s2;refine R z (lnR Y_ z<|H.g hi)<|Rm z<|Wn ?_
 obtain ⟨_,huu,hmj⟩:=bdS<|ifF hmg O;refine Wf (σ:=Unit) (ρ:=Bool) (fun (k9:Nat)(_:Unit) a w=>Sat 42 [(1,vI x2),(2,.pointer<|some ⟨b3,o3,none⟩),(3,pt w0.z),(18,vI (x3.items.length:Int)),(19,vI ((k9:Nat):Int))] a/\Below I.z I w) (fun (_:Unit) a w=>Sat 42 [] a/\Below I.z I w) (rQ prog fn<|Q7 w0 B) huu ?_ ?_ ?_ ?_ ?_
 ·exact fun _ q=>⟨q.k<|s5 z z z z z,br I⟩
 ·rintro k9 _ _ _ _ hka ⟨hSv,s3⟩ hmw;refine Wu ?_ hSv;refine Ws<|Rl z z z<|Wn<|Wq<|Wc z (fun _=>?_) (fun hc=>(a_0 hka hc).elim)
  refine Wk<|Wq<|Wb<|Wm z<|Rw z<|Ws ?_
  have hk:=(he.e s2).e s3;refine R z (lN (vs:=[sl A0 N0 C0]) w_ v_ z z fid<|hk.row 0 1 z)<|RM z z<|Rm z ?_
  have h6:=hi.e s3;have hl:=hh.e s3;have hn:=lt_ (lt_ h1.s s2.s) s3.s;obtain ⟨rx,ey,hmz⟩:=bdS hmw;refine E z (fc call75 z<|j_n ey (zt' L hn) (J.g h6) V W (Y.g h6) (H.g h6) hl hC3b<|ic (Nat.le_of_lt hka)<|lt_ (repS.len H) G_) ?_;rintro _ wm ⟨s4,rfl,a7⟩;refine Rw z<|Wq ?_
  obtain ⟨a8,huo,hmp⟩:=bdS hmz;refine Wt (fun a w=>∃(xb:Bool),xb=a8/\Sat 42 [(1,vI x2),(2,.pointer<|some ⟨b3,o3,none⟩),(3,pt w0.z),(18,vI (x3.items.length:Int)),(19,vI ((k9:Nat):Int)),(40,vB xb)] a/\Below wm.z wm w) ?_ ?_
  ·refine Wd (X:=noX) 0 (pl_ 14 [11]) mo (by kernel_rfl) fun ap s7 _=>dM z z z<|dR z z (lss z z)<|dM z z z ?_
   rcases bs (decide<|rx<0) with G | G
   ·iterate 8 refine dRn z z z G z ?_
    exact dEn z z z G z<|dRn z z z G z<|dR z z (pT z G z)<|pD (fun _ q=>⟨true,som<|ifT huo G,q.k<|s6 z z z z z z,s7⟩)
   refine dRg z z z G z (lN (vs:=[sl A0 N0 C0]) w_ v_ z z fid<|((hk.e s4).e s7).row 0 1 z)<|dRg z z z G z (mv z)<|dRg z z z G z (mv z)<|dRg z z z G z (C_ z)<|dRg z z z G z (fd Q_ z)<|dRg z z z G z (l0 X_ z<|((hl.e s4).e s7).at (j:=2) z)<|dRg z z z G z (mv z) ?_
   obtain ⟨_,a9,a0⟩:=bdS<|ifF huo G;have hq:=(h6.e s4).e s7;refine c_n z z z G z (at_ (α:=Val) Y_ b_ z z z (H.g hq) a9) ?_;rintro _ ⟨_,_,_,rfl,aa,ab,ad⟩;obtain ⟨_,_,_,_,_,_,rfl,ae,af,ah⟩:=d_f ab;obtain ⟨ai,aj,a1⟩:=bdS a0;refine dEg z z z G z (fc call77 z<|a6.run aj (zt' L<|lt_ (lt_ hn s4.s) s7.s) (J.g hq) a7 ae af ah aa ad) (.inr fun _ _ h=>o_<|h.1) ?_;rintro _ _ ⟨ak,rfl⟩;exact dRg z z z G z (not_ z)<|dR z z (pF z G z)<|pD (fun _ q=>⟨!ai,som a1,q.k<|s6 z z z z z z,bup s7 ak⟩)
  rintro al _ ⟨xb,rfl,_,sr⟩;revert al;refine Wo<|Wc z (fun hcc=>?_) (fun hcc=>?_)
  ·exact Ws<|Rw z<|Wr<|rtO<|qL (som<|ifT hmp hcc).symm<|f_ hr z ⟨bup (bup (bup (bup h1 s2) s3) s4) sr,z⟩
  exact Wk<|Wg<|R z (inc_ hka (lt_ (repS.len H) G_) z z)<|Rm z<|Wl (fun _ q=>⟨(),(som<|ifF hmp hcc).symm,⟨q.k<|s5 z z z z z,bup (bup s3 s4) sr⟩⟩)
 ·rintro _ _ _ ⟨a2,am⟩;refine Wu ?_ a2;refine Ws<|Rl z z z<|Wn<|Wq<|Wc z (fun hc=>(a_1 hc).elim) (fun _=>?_)
  exact We<|fun _ q=>⟨rfl,⟨q.k sn,am⟩⟩
 ·rintro _ an _ rfl ⟨_,ao⟩;have a3:=elL hmj;revert an;refine Wo<|Ws<|Rw z ?_
  obtain rfl:=som a3;exact Wr<|f_ hr z ⟨bup (bup h1 s2) ao,z⟩
 rintro _ _ _ _ rfl ⟨rfl,a4⟩;have a5:=elR hmj;obtain rfl:=som a5;exact ⟨a4,z⟩
theorem A_w0m:∀n,n_t n
  | 0=>⟨fun hm=>by intros;exact nomatch (show none=some _ from hm)⟩
  | n+1=>T_w0m<|A_w0m n
theorem W_w0m:k_X (e_2 n).impl_validValue:=A_w0m n
theorem W_w22 {x1:c_}{x2:Int}{x3:Val}{res:Bool}(hm:e_3 n x1 x2 x3=some res)(a1:B<=w0.z)(J:repS w0 B (sl A0 N0 C0) x1.rules)(L:inI x2)(W:inI x3.number)(Y:repS w0 B (sl A5 N5 C5) x3.bytes)(a0:repS w0 B (sl A7 N7 C7) x3.items):l_ prog 43 [(.agg #[sl A0 N0 C0]),vI x2,(.agg #[vI x3.number,sl A5 N5 C5,sl A7 N7 C7])] w0 (Q7 w0 B res):=by
 unfold e_3 at hm
 refine goG func43 z z z fun fn hr=>Ws<|E z (fb z) ?_
 rintro _ O ⟨rfl,V⟩;have h5:=V.below;refine E z (fb z) ?_;rintro _ H ⟨rfl,ha⟩;have h3:=ha.below;have hb:Blk H O.z [vI x3.number,sl A5 N5 C5,sl A7 N7 C7]:=ha.blk;refine Rw z<|Wq ?_
 obtain ⟨ug,huh,hmi⟩:=bdS hm;refine Wt (fun a w=>∃(x6:Bool),x6=ug/\Sat 15 [(6,vB x6)] a/\Below H.z H w) ?_ ?_
 ·refine Wg ?_;have hc:=(V.blk:Blk O w0.z [sl A0 N0 C0]).e h3;refine R z (lN (vs:=[sl A0 N0 C0]) w_ v_ z z fid<|hc.row 0 1 z)<|Rm z ?_
  have hd:=(h5.ag B).e h3;have h4:=zt' a1<|lt_ h5.s h3.s
  obtain ⟨rj,ek,hme⟩:=bdS huh;refine E z (fc call41 z<|k_P (B:=B) ek h4 (J.g hd) L) ?_;rintro _ _ ⟨s2,rfl⟩;refine Rm z ?_
  rcases bs rj with G | G
  ·refine Rh z G (lN (vs:=[sl A0 N0 C0]) w_ v_ z z fid<|(hc.e s2).row 0 1 z)<|Rh z G (mv z) ?_
   have I:=hd.e s2;obtain ⟨rl,em,hmn⟩:=bdS<|ifT hme G;refine Eg z z G z (fc call77 z<|W_w0m.run (B:=H.z) em (M_ s2.s) (repS.mono (J.g I) h4) L W (repS.mono (Y.g I) h4) (repS.mono (a0.g I) h4) ((hb.e s2).row 0 3 z) hb.lt) ?_;rintro _ _ ⟨so,rfl⟩;exact R z (pT z G z)<|Ra z<|Wl (fun _ q=>⟨rl,som hmn,q.k<|s1 z,bup s2 so⟩)
  iterate 3 refine Nh z G ?_
  exact R z (pF z G z)<|Ra z<|Wl (fun _ q=>⟨false,som<|ifF hme G,q.k<|s1 z,s2⟩)
 rintro ap _ ⟨x6,rfl,_,sq⟩;revert ap;refine Wo ?_;obtain rfl:=som hmi;exact Wr<|f_ hr z ⟨bup (bup h5 h3) sq,z⟩
def Q24 (w0:World)(g1:Nat)(B:Zone)(A0:Option Addr)(N0 C0:Nat)(A8:Option Addr)(N8 C8:Nat)(S1_1:List Nat)(x1:a_O)(r:(List UInt8))(v:Value)(w':World):Prop:=Chg (· ∈ ([g1]++S1_1)) w0 w'/\(fun J=>∃G H I S1,v = .tuple #[]/\a_ w' S1 (sl G H I) J/\S1.Nodup/\(∀k∈S1,k∈S1_1∨w0.z<=k)/\Blk w' g1 [sl A0 N0 C0,sl G H I]) r
theorem e_L {x1:a_O}{S1_1:List Nat}{g1:Nat}{x2:List UInt8}{res:(List UInt8)}(hm:c_2 x1 x2=some res)(hB1:Blk w0 g1 [sl A0 N0 C0,sl A8 N8 C8])(a2:B<=w0.z)(hBg:¬B g1)(a0:repS w0 B (sl A0 N0 C0) x1.d.rules)(L:a_ w0 S1_1 (sl A8 N8 C8) x1.out)(p1_1n:S1_1.Nodup)(p1_1g:∀k∈S1_1,¬B k)(p1_1d:∀k∈S1_1,k∉[g1])(O:repS w0 B (sl A6 N6 C6) x2):l_ prog 139 [pt g1,sl A6 N6 C6] w0 (Q24 w0 g1 B A0 N0 C0 A8 N8 C8 S1_1 x1 res):=by
 unfold c_2 at hm
 refine goG func139 z z z fun fn hr=>Wg<|RM z z<|R z (C_ z)<|Rf z f_w z<|R z (l0 J_ z<|hB1.at z)<|Rm z ?_
 obtain ⟨_,W,V⟩:=bdS hm;refine E z (fN (α:=UInt8) I_ W z z L p1_1n O) ?_;rintro _ Y ⟨G,H,I,J,rfl,s4,ha,hb,h5⟩;refine R z (C_ z)<|Rf z f_w z<|E0 (fs0 (cur':=[sl A0 N0 C0,sl H I J]) z_25 z z (hB1.c s4<|djs p1_1d) z z z z) ?_
 rintro _ wc ⟨hd,se⟩;have h6:=se.one;refine Wl ?_;obtain rfl:=som V;exact ret0 hr ⟨(cM (cM (cr ([g1]++S1_1) w0) s4 (io<|a_c sr):Chg (· ∈ ([g1]++S1_1)) w0 Y) h6 (io<|a_5 sr):Chg (· ∈ ([g1]++S1_1)) w0 wc),H,I,J,G,z,ha.c h6 (or1 h5 p1_1d (S_ (d_<|Blk.lt hB1) lr):∀k∈G,k∉[g1]),hb,(or1 h5 (io sr) (q_ lr):∀k∈G,k∈S1_1∨w0.z<=k),hd⟩
theorem W_w3m {x1:List UInt8}{x2:UInt8}{res:(List UInt8)}(hm:g_b x1 x2=some res)(av:B<=w0.z)(a0:repS w0 B (sl A0 N0 C0) x1):l_ prog 141 [sl A0 N0 C0,vU<|byteI x2] w0 (Q1 w0 B res):=by
 unfold g_b at hm
 refine goG func141 z z z fun fn hr=>Ws<|Rw z<|Wm z<|R z (lnR n_ z a0)<|R z (add_ z z) ?_
 obtain ⟨_,aw,ad⟩:=bdS hm;refine E z (l_y (α:=UInt8) I_ aw z z) ?_;rintro _ H ⟨ax,ay,az,rfl,sa,aA⟩;refine Rw z<|Wq<|Wm z<|R z (lnR n_ z<|a0.e sa)<|Rm z<|Wn ?_
 obtain ⟨_,ae,hmr⟩:=bdS ad;refine Wf (σ:=List UInt8) (ρ:=List UInt8) (fun (kf:Nat)(V:List UInt8) a w=>∃a2 I J G,Sat 37 [(1,vU<|byteI x2),(5,sl a2 I J),(12,sl A0 N0 C0),(13,vI (x1.length:Int)),(14,vI ((kf:Nat):Int))] a/\Chg (· ∈ [w0.z]) H w/\a_ w G (sl a2 I J) V/\G.Nodup/\(∀k∈G,k∈[w0.z]∨H.z<=k)) (fun (V:List UInt8) a w=>∃a2 I J G,Sat 37 [(1,vU<|byteI x2),(5,sl a2 I J)] a/\Chg (· ∈ [w0.z]) H w/\a_ w G (sl a2 I J) V/\G.Nodup/\(∀k∈G,k∈[w0.z]∨H.z<=k)) (rQ prog fn<|Q1 w0 B) ae ?_ ?_ ?_ ?_ ?_
 ·exact fun _ q=>⟨ax,ay,az,[w0.z],q.k<|s5 z z z z z,cr [w0.z] H,aA,a_e,io sr⟩
 ·rintro kf V _ wb _ hks ⟨a2,I,J,G,af,sh,W,Y,hd⟩ ah;refine Wu ?_ af;refine Ws<|Rl z z z<|Wn<|Wq<|Wc z (fun _=>?_) (fun hc=>(a_0 hks hc).elim)
  refine Wk<|Wq<|Wb<|Ws ?_
  obtain ⟨xc,aB,ai⟩:=bdS ah;refine RX z (at_ (α:=UInt8) n_ z_5 z z z (a0.g<|(sa.ag B).c sh<|e_ (or0 (d_ lr) (p_ av):∀k∈[w0.z],¬B k)) aB) ?_;rintro _ ⟨_,_,_,rfl,aC,aD,_⟩;obtain rfl:=u8 aD;refine R z (l0 g_5 z<|aC.at0 z)<|Rw z<|Wq<|Wq ?_
  obtain ⟨aE,huw,aj⟩:=bdS ai;refine Wt (fun a w=>∃(xi:Bool),xi=aE/\Sat 37 [(1,vU<|byteI x2),(5,sl a2 I J),(7,vU<|byteI xc),(12,sl A0 N0 C0),(13,vI (x1.length:Int)),(14,vI ((kf:Nat):Int)),(24,vB xi)] a/\Below wb.z wb w) ?_ ?_
  ·refine Wg<|RM z z<|Rq z z z<|Rm z ?_
   rcases bs ((byteI xc)==(byteI x2)) with L | L
   ·exact Nh z L<|Nh z L<|R z (pT z L z)<|Wl (fun _ q=>⟨true,som<|ifT huw L,q.k<|s7 z z z z z z z,br wb⟩)
   exact Rh z L (mv z)<|Rh z L (eql z z)<|R z (pF z L z)<|Wl (fun _ q=>⟨(byteI xc)==(byteI (92:UInt8)),som<|ifF huw L,q.k<|s7 z z z z z z z,br wb⟩)
  rintro aF O ⟨xi,rfl,_,sg⟩;revert aF;refine Wo ?_;obtain ⟨aG,hux,al⟩:=bdS aj;refine Wt (fun a w=>∃(xj:List UInt8),xj=aG/\∃ak nl cm Se,Sat 37 [(1,vU<|byteI x2),(5,sl ak nl cm),(7,vU<|byteI xc),(12,sl A0 N0 C0),(13,vI (x1.length:Int)),(14,vI ((kf:Nat):Int))] a/\Chg (· ∈ G) O w/\a_ w Se (sl ak nl cm) xj/\Se.Nodup/\(∀k∈Se,k∈G∨O.z<=k)) ?_ ?_
  ·refine Wc z (fun hcn=>?_)<|fun hcn=>?_
   ·refine Wg<|Rm z<|E z (fS [(.const<|.int .u8 92)] I_ z z z (a_J z) (lb z)<|lb z) ?_
    rintro _ wy ⟨rfl,ho⟩;have hp:=ho.below;have bm:=b_0 ho<|h_P (x:=(92:UInt8)) z
    obtain ⟨aH,aI,am⟩:=bdS<|ifT hux hcn;refine E z (b_i (α:=UInt8) I_ aI z z ((W.e sg).e hp) Y (ho.blk:Blk wy O.z [(vU<|byteI (92:UInt8))]) (h_P (x:=(92:UInt8)) z) an_ K_) ?_;rintro _ aJ ⟨Sz,aK,aL,aM,rfl,aN,aO,aP,aQ⟩;refine Ra z<|Wl ?_
    exact fun _ q=>⟨aH,som am,aK,aL,aM,Sz,q.k<|s6 z z z z z z,(cM (k_ (cr G O) hp:Chg (· ∈ G) O wy) aN (io sr):Chg (· ∈ G) O aJ),aO,aP,(or2 aQ (io sr) an_ (q_ hp.s):∀k∈Sz,k∈G∨O.z<=k)⟩
   exact a_I<|fun _ q=>⟨V,som<|ifF hux hcn,a2,I,J,G,q.k<|s6 z z z z z z,cr G O,W.e sg,Y,io sr⟩
  rintro aR a1 ⟨xj,rfl,ak,nl,cm,Se,_,a3,aS,aT,aU⟩;revert aR;refine Wo<|Wg<|RM z z<|E z (fS [(.tmp 29)] I_ z z z (a_J z) (lb z)<|lb z) ?_
  rintro _ a4 ⟨rfl,hq⟩;have ht:=hq.below;have bn:=b_0 hq a_s;obtain ⟨aV,aW,an⟩:=bdS al;refine E z (b_i (α:=UInt8) I_ aW z z (aS.e ht) aT (hq.blk:Blk a4 a1.z [vU (byteI xc)]) a_s an_ K_) ?_;rintro _ aX ⟨a5,aY,aZ,b0,rfl,b3,b4,b5,b6⟩;refine Rw z<|Wg<|R z (inc_ hks (lt_ (repS.len a0) G_) z z)<|Rm z<|Wl ?_
  have a6:=lt_ sh.s sg.s;have a7:∀k∈G,k∈[w0.z]∨H.z<=k:=or1 hd (io sr)<|q_ lr;have a8:∀k∈Se,k∈[w0.z]∨H.z<=k:=or1 aU a7<|q_ a6;exact fun _ q=>⟨aV,(som an).symm,⟨aY,aZ,b0,a5,q.k<|s5 z z z z z,(cM (k_ (cM (k_ (cM (cr [w0.z] H) sh (io sr):Chg (· ∈ [w0.z]) H wb) sg:Chg (· ∈ [w0.z]) H O) a3 a7:Chg (· ∈ [w0.z]) H a1) ht:Chg (· ∈ [w0.z]) H a4) b3 a8:Chg (· ∈ [w0.z]) H aX),b4,b5,(or2 b6 a8 an_ (q_<|lt_ (lt_ a6 a3.s) ht.s):∀k∈a5,k∈[w0.z]∨H.z<=k)⟩⟩
 ·rintro V _ b7 ⟨a2,I,J,G,ao,b8,W,Y,hd⟩;refine Wu ?_ ao;refine Ws<|Rl z z z<|Wn<|Wq<|Wc z (fun hc=>(a_1 hc).elim) (fun _=>?_)
  exact We<|fun _ q=>⟨rfl,⟨a2,I,J,G,q.k<|s2 z z,(cM (cr [w0.z] H) b8 (io sr):Chg (· ∈ [w0.z]) H b7),W,Y,(or1 hd (io sr) (q_ lr):∀k∈G,k∈[w0.z]∨H.z<=k)⟩⟩
 ·rintro V b9 ba rfl ⟨a2,I,J,G,_,a9,W,Y,hd⟩;have ap:=elL hmr;revert b9;refine Wo<|Wm z<|Rm z<|E z (fS [(.tmp 34)] I_ z z z (a_J z) (lb z)<|lb z) ?_
  rintro _ bb ⟨rfl,hu⟩;have hv:=hu.below;have bo:=b_0 hu a_s;obtain ⟨_,bc,aq⟩:=bdS ap;refine E z (b_i (α:=UInt8) I_ bc z z (W.e hv) Y (hu.blk:Blk bb ba.z [vU (byteI x2)]) a_s an_ K_) ?_;rintro _ _ ⟨aa,be,bf,bg,rfl,bh,bi,bj,bk⟩;refine Rw z ?_
  obtain rfl:=som aq;have ab:∀k∈G,w0.z<=k:=or1 hd (d_ lr)<|b_9 sa.s;exact Wr<|f_ hr z ⟨bM (bup (bM sa a9<|d_ lr) hv) bh ab,be,bf,bg,aa,z,bi,bj,(or2 bk ab an_ (b_9<|lt_ (lt_ sa.s a9.s) hv.s):∀k∈aa,w0.z<=k)⟩
 rintro _ _ _ _ rfl ⟨rfl,ar⟩;have au:=elR hmr;obtain rfl:=som au;exact ⟨ar,z⟩
theorem W_w23 {x1:a_O}{b1 o1:Nat}{res:Bool}(hm:e_g x1=some res)(I:B<=w0.z)(H:repS w0 B (sl A0 N0 C0) x1.d.rules)(G:repS w0 B (sl A8 N8 C8) x1.out)(hC1:L_ w0 b1 o1 [sl A0 N0 C0,sl A8 N8 C8])(hC1b:B b1):l_ prog 116 [(.pointer<|some ⟨b1,o1,none⟩)] w0 (Q7 w0 B res):=by
 unfold e_g at hm
 refine goG func116 z z z fun fn hr=>Ws<|Rw z<|Wm z<|R z (C_ z)<|Rf z f_w z<|R z (l0 J_ z<|hC1.at (j:=1) z)<|R z (lnR n_ z G)<|R z (a_C z z)<|Rw z ?_
 obtain rfl:=som hm;exact Wr<|f_ hr z ⟨br w0,z⟩
theorem W_w24 {x1:Int}{x2:Int}{res:(List UInt8)}(hm:e_h n x1 x2=some res)(aa:B<=w0.z)(W:inI x1)(Y:inI x2):l_ prog 157 [vI x1,vI x2] w0 (Q1 w0 B res):=by
 unfold e_h at hm
 refine goG func157 z z z fun fn hr=>Ws<|Rw z<|Wq<|Wq ?_
 obtain ⟨ux,huy,hml⟩:=bdS hm;refine Wt (fun a w=>∃(xf:Bool),xf=ux/\Sat 38 [(0,vI x1),(1,vI x2),(20,vB xf)] a/\Below w0.z w0 w) ?_ ?_
 ·refine Wg<|Rm z ?_
  obtain ⟨rz,ab,hmm⟩:=bdS huy;refine E z (fc call117 z<|d_j (B:=B) ab aa Y (ii z)<|ii z) ?_;rintro _ _ ⟨sg,rfl⟩;refine R z (not_ z)<|Rm z ?_
  rcases bs (!rz) with L | L
  ·exact Nh z L<|Nh z L<|R z (pT z L z)<|Rm z<|Nh z z<|Nh z z<|Nh z z<|Nh z z<|Nh z z<|R z (pT z z z)<|Wl (fun _ q=>⟨true,som<|ifT hmm L,q.k<|s3 z z z,sg⟩)
  have hmn:=ifF hmm L;refine Rh z L (mv z)<|Rh z L (lss z z)<|R z (pF z L z)<|Rm z ?_
  rcases bs (decide<|x1<0) with J | J
  ·iterate 5 refine Nh z J ?_
   exact R z (pT z J z)<|Wl (fun _ q=>⟨true,som<|ifT hmn J,q.k<|s3 z z z,sg⟩)
  refine Rh z J (mv z)<|Rh z J (mv z)<|Rh z J (d_p z z) ?_
  obtain ⟨_,ad,a0⟩:=bdS<|ifF hmn J;exact Rh z J (f_3 z z<|nnS ad)<|Rh z J (a_z z z)<|R z (pF z J z)<|Wl (fun _ q=>⟨decide<|(b_3 .i64 1<|a_f 8 x2)<=x1,som a0,q.k<|s3 z z z,sg⟩)
 rintro ae G ⟨xf,rfl,_,s7⟩;revert ae;refine Wo<|Wc z (fun hch=>?_) (fun hch=>?_)
 ·refine Ws<|E z (f0 (α:=UInt8) I_) ?_
  rintro _ _ ⟨af,ah,ai,rfl,aj,ak⟩;refine Rw z ?_
  obtain rfl:=som<|ifT hml hch;exact Wr<|f_ hr z ⟨bup s7 aj,af,ah,ai,[G.z],z,ak,a_e,m1 s7.s⟩
 refine Wk<|Wm z ?_
 obtain ⟨_,al,a1⟩:=bdS<|ifF hml hch;refine E z (e_X (α:=UInt8) I_ (fun _=>l_B) al z z) ?_;rintro _ H ⟨O,V,ca,rfl,so,am⟩;refine Rw z<|Wq<|Wm z<|R z (sb_ z z)<|Rw z ?_
 obtain ⟨_,a2,hmp⟩:=bdS a1;refine b_S (σ:=Int×(List UInt8)×Int) (ρ:=List UInt8) (fun s a w=>un3 (fun x5 xb x6=>∃(I:List Nat),Sat 38 [(0,vI x5),(5,sl O V ca),(6,vI x6)] a/\Chg (· ∈ [G.z]) H w/\inI x5/\a_ w I (sl O V ca) xb/\I.Nodup/\(∀k∈I,k∈[G.z]∨H.z<=k)/\inI x6) s) (fun s a w=>un3 (fun x5 xb x6=>∃(I:List Nat),Sat 38 [(5,sl O V ca)] a/\Chg (· ∈ [G.z]) H w/\inI x5/\a_ w I (sl O V ca) xb/\I.Nodup/\(∀k∈I,k∈[G.z]∨H.z<=k)/\inI x6) s) (rQ prog fn<|Q1 w0 B) a2 ?_ ?_ ?_ ?_
 ·exact fun _ q=>⟨[G.z],q.k<|s3 z z z,cr [G.z] H,W,am,a_e,io sr,iS _ _⟩
 ·rintro ⟨x5,xb,x6⟩ _ wq _ ⟨I,a3,si,hj,hc,hd,he,ht⟩ a4;have hmr:=d_H a4;refine Wu ?_ a3;refine Wq<|Wm z<|R z (a_z z z)<|Wx z (fun hck=>?_) (fun hck=>?_)
  ·refine Wk<|Wq<|Wb<|Wm z<|RM z z<|R z (d_m d_3 d_5 z) ?_
   obtain ⟨an,es,a5⟩:=bdS<|ifT hmr hck;refine RX z (c_W (α:=UInt8) n_ z_5 z z hc es) ?_;rintro _ ⟨_,ao,rfl⟩;refine E0 (c_X (α:=UInt8) z_5 z ao z z z es hc hd a_s an_ K_) ?_;rintro _ ap ⟨Su,aq,ar,au,av⟩;refine Wn<|Wg<|Rm z<|R z (j_J z z (by decide))<|Rw z<|Wg<|Rm z<|R z (sb_ z z)<|Ra z<|Wl ?_
   have hv:∀k∈I,k∈[G.z]∨H.z<=k:=or1 he (io sr)<|q_ lr;exact fun _ q=>⟨(a_y .i64 x5 8,an,r_ x6 1),(som a5).symm,⟨Su,q.k<|s3 z z z,(cM (cM (cr [G.z] H) si (io sr):Chg (· ∈ [G.z]) H wq) aq hv:Chg (· ∈ [G.z]) H ap),o_m hj,ar,au,(or2 av hv an_ (q_ si.s):∀k∈Su,k∈[G.z]∨H.z<=k),iS _ _⟩⟩
  exact We<|fun _ q=>b_F (som<|ifF hmr hck).symm ⟨I,q.k<|s1 z,(cM (cr [G.z] H) si (io sr):Chg (· ∈ [G.z]) H wq),hj,hc,hd,(or1 he (io sr) (q_ lr):∀k∈I,k∈[G.z]∨H.z<=k),ht⟩
 ·rintro ⟨x5,xb,x6⟩ aw _ rfl ⟨I,_,ax,hj,hc,hd,he,ht⟩;have a6:=elL hmp;revert aw;refine Wo<|Wm z<|Rw z ?_
  obtain rfl:=som<|d_H a6;have hw:=m1 s7.s;exact Wr<|f_ hr z ⟨bM (bup s7 so) ax hw,O,V,ca,I,z,hc,hd,a_l he hw<|lt_ s7.s so.s⟩
 rintro _ _ _ _ rfl ⟨rfl,a7⟩;have a9:=elR hmp;obtain rfl:=som a9;exact ⟨a7,z⟩
theorem W_w3n {x1:Int}{x2:Int}{res:(List UInt8)}(hm:g_c n x1 x2=some res)(an:B<=w0.z)(a4:inI x1)(a5:inI x2):l_ prog 156 [vI x1,vI x2] w0 (Q1 w0 B res):=by
 unfold g_c at hm
 refine goG func156 z z z fun fn hr=>Ws<|Rw z<|Wm z<|Rm z ?_
 obtain ⟨_,ao,a7⟩:=bdS hm;refine E z (fc call157 z<|W_w24 (B:=B) ao an a4 a5) ?_;rintro _ I ⟨sj,J,L,O,S2,rfl,hk,ap,hl⟩;refine Rw z<|Wq<|Wm z<|R z (lnR n_ z<|a_.rep hk)<|R z (sb_ z z)<|Ra z<|Rw z ?_
 obtain ⟨_,a8,hmm⟩:=bdS a7;refine b_S (σ:=(List UInt8)×Int×Int) (ρ:=List UInt8) (fun s a w=>un3 (fun xd x4 x5=>∃(G:List Nat),Sat 36 [(5,sl J L O),(6,vI x4),(7,vI x5)] a/\Chg (· ∈ S2) I w/\a_ w G (sl J L O) xd/\G.Nodup/\(∀k∈G,k∈S2∨I.z<=k)/\inI x4/\inI x5) s) (fun s a w=>un3 (fun xd x4 x5=>∃(G:List Nat),Sat 36 [(5,sl J L O)] a/\Chg (· ∈ S2) I w/\a_ w G (sl J L O) xd/\G.Nodup/\(∀k∈G,k∈S2∨I.z<=k)/\inI x4/\inI x5) s) (rQ prog fn<|Q1 w0 B) a8 ?_ ?_ ?_ ?_
 ·exact fun _ q=>⟨S2,q.k<|s3 z z z,cr S2 I,hk,ap,io sr,ii z,iS _ _⟩
 ·rintro ⟨xd,x4,x5⟩ _ H _ ⟨G,a9,sh,ha,he,hf,hn,ho⟩ aa;have hmp:=d_H aa;refine Wu ?_ a9;refine Wq<|Wm z<|Rm z<|Rl z z z<|Wx z (fun hci=>?_) (fun hci=>?_)
  ·refine Wk<|Wq<|Wb ?_
   obtain ⟨aq,ab,ad⟩:=bdS<|ifT hmp hci;refine Wt (fun a w=>∃(xg:List UInt8),xg=aq/\∃(Sb:List Nat),Sat 36 [(5,sl J L O),(6,vI x4),(7,vI x5)] a/\Chg (· ∈ G) H w/\a_ w Sb (sl J L O) xg/\Sb.Nodup/\(∀k∈Sb,k∈G∨H.z<=k)) ?_ ?_
   ·refine Wd (X:=anyX) 0 (.rd 0<|.rd 1<|.rd 2<|.rd 3<|.rd 4<|.rd 5<|.rd 6<|.rd 8<|.rd 9<|.rd 10<|.br 7 (.ef 11<|.rd 12<|.ef 13<|.rd 14<|.ef 15 .done) 11<|.ef 7<|.rd 12<|.ef 13<|.rd 14<|.ef 15 .done) mo (by kernel_rfl) fun wq s9 _=>?_
    iterate 6 refine dM z z z ?_
    obtain ⟨_,ar,ae⟩:=bdS ab;have hc:=ha.e s9;refine dRX z z (at_ (α:=UInt8) n_ z_5 z z z (or_ hc<|a_.lt ha) ar) ?_;rintro _ ⟨_,_,_,rfl,ht,au,_⟩;obtain rfl:=u8 au;refine dM z z z<|dM z z z ?_
    obtain ⟨_,av,hmr⟩:=bdS ae;refine dRX z z (at_ (α:=UInt8) n_ z_5 z z z (or_ hc<|a_.lt ha) av) ?_;rintro _ ⟨_,_,_,rfl,hu,aw,_⟩;obtain rfl:=u8 aw;refine b_x ?_ ?_
    ·refine dAn z z (l0 g_5 z<|ht.at0 z)<|dAn z z (l0 g_5 z<|hu.at0 z) ?_
     obtain ⟨_,es,af⟩:=bdS hmr;refine dRX z z (c_W (α:=UInt8) n_ z_5 z z hc es) ?_;rintro _ ⟨_,ax,rfl⟩;refine dE0 z (c_X (α:=UInt8) z_5 z ax z z z es hc he a_s an_ K_) (.inr fun _ _ h=>by obtain ⟨_,h,_⟩:=h;exact i_j h) ?_;rintro _ ay ⟨az,sv,hw,aA,aB⟩;obtain ⟨aC,ey,ah⟩:=bdS af;refine dRX z z (c_W (α:=UInt8) n_ z_5 z z hw ey) ?_;rintro _ ⟨_,aD,rfl⟩;refine dE0 z (c_X (α:=UInt8) z_5 z aD z z z ey hw aA a_s an_ K_) (.inr fun _ _ h=>by obtain ⟨_,h,_⟩:=h;exact i_j h) ?_;rintro _ aE ⟨Sx,aF,aG,aH,aI⟩;refine pD ?_;have hz:∀k∈az,k∈G∨H.z<=k:=or2 aB (io sr) an_<|q_ s9.s;exact fun _ q=>⟨aC,som ah,Sx,q.k<|s3 z z z,(cM (cM (k_ (cr G H) s9:Chg (· ∈ G) H wq) sv (io sr):Chg (· ∈ G) H ay) aF hz:Chg (· ∈ G) H aE),aG,aH,(or2 aI hz an_ (q_<|lt_ s9.s sv.s):∀k∈Sx,k∈G∨H.z<=k)⟩
    refine dAn z z (l0 g_5 z<|hu.at0 z)<|dAn z z (l0 g_5 z<|ht.at0 z) ?_
    obtain ⟨_,V,ai⟩:=bdS hmr;refine dRX z z (c_W (α:=UInt8) n_ z_5 z z hc V) ?_;rintro _ ⟨_,aJ,rfl⟩;refine dE0 z (c_X (α:=UInt8) z_5 z aJ z z z V hc he a_s an_ K_) (.inr fun _ _ h=>by obtain ⟨_,h,_⟩:=h;exact i_j h) ?_;rintro _ aK ⟨aL,W,Y,aM,aN⟩;obtain ⟨aO,a0,aj⟩:=bdS ai;refine dRX z z (c_W (α:=UInt8) n_ z_5 z z Y a0) ?_;rintro _ ⟨_,aP,rfl⟩;refine dE0 z (c_X (α:=UInt8) z_5 z aP z z z a0 Y aM a_s an_ K_) (.inr fun _ _ h=>by obtain ⟨_,h,_⟩:=h;exact i_j h) ?_;rintro _ aQ ⟨a1,aR,aS,aT,aU⟩;refine pD ?_;have a2:∀k∈aL,k∈G∨H.z<=k:=or2 aN (io sr) an_<|q_ s9.s;exact fun _ q=>⟨aO,som aj,a1,q.k<|s3 z z z,(cM (cM (k_ (cr G H) s9:Chg (· ∈ G) H wq) W (io sr):Chg (· ∈ G) H aK) aR a2:Chg (· ∈ G) H aQ),aS,aT,(or2 aU a2 an_ (q_<|lt_ s9.s W.s):∀k∈a1,k∈G∨H.z<=k)⟩
   rintro aV aW ⟨xg,rfl,Sb,_,aX,aY,aZ,b0⟩;revert aV;refine Wo<|Wg<|Rm z<|R z (add_ z z)<|Rm z<|R z (sb_ z z)<|RA z z<|Wl ?_
   have a3:∀k∈G,k∈S2∨I.z<=k:=or1 hf (io sr)<|q_ lr;exact fun _ q=>⟨(xg,m_ x4 1,r_ x5 1),(som ad).symm,⟨Sb,q.k<|s3 z z z,(cM (cM (cr S2 I) sh (io sr):Chg (· ∈ S2) I H) aX a3:Chg (· ∈ S2) I aW),aY,aZ,(or1 b0 a3 (q_ sh.s):∀k∈Sb,k∈S2∨I.z<=k),iA _ _,iS _ _⟩⟩
  exact We<|fun _ q=>b_F (som<|ifF hmp hci).symm ⟨G,q.k<|s1 z,(cM (cr S2 I) sh (io sr):Chg (· ∈ S2) I H),ha,he,(or1 hf (io sr) (q_ lr):∀k∈G,k∈S2∨I.z<=k),hn,ho⟩
 ·rintro ⟨xd,x4,x5⟩ b3 _ rfl ⟨G,_,b4,ha,he,hf,hn,ho⟩;have ak:=elL hmm;revert b3;refine Wo<|Wm z<|Rw z ?_
  obtain rfl:=som<|d_H ak;exact Wr<|f_ hr z ⟨bM sj b4 hl,J,L,O,G,z,ha,he,a_l hf hl sj.s⟩
 rintro _ _ _ _ rfl ⟨rfl,al⟩;have am:=elR hmm;obtain rfl:=som am;exact ⟨al,z⟩
theorem W_w3o {x1:g_}{x2:Int}{res:(List UInt8)}(hm:e_i n x1 x2=some res)(L:B<=w0.z)(a0:x1.name.b.length<=LEN)(a1:inI x1.kind)(I:inI x1.size)(a2:repS w0 B (sl AC NC CC) x1.bytes)(a3:repS w0 B (sl AB NB CB) x1.names)(a4:repS w0 B (sl AD ND CD) x1.tags)(a5:repS w0 B (sl AE NE CE) x1.kids)(J:inI x2):l_ prog 140 [(.agg #[Str.v x1.name,vI x1.kind,vI x1.size,vB x1.little,sl AC NC CC,sl AB NB CB,sl AD ND CD,sl AE NE CE]),vI x2] w0 (Q1 w0 B res):=by
 unfold e_i at hm
 refine goG func140 z z z fun fn hr=>Ws<|E z (fb z) ?_
 rintro _ V ⟨rfl,h3⟩;have G:=h3.below;have h1:Blk V w0.z (vR x1 AC NC CC AB NB CB AD ND CD AE NE CE):=h3.blk;refine Rw z<|Wq<|Ws<|Rf z c_R z<|R z (l0 g_4 z<|h1.at z)<|Wx z (fun H=>?_) (fun H=>?_)
 ·refine Wm z<|Rf z a_G z<|R z (l0 g_3 z<|h1.at z) ?_
  obtain ⟨_,W,O⟩:=bdS<|ifT hm H;refine E z (fc call156 z<|W_w3n W (zt' L G.s) J I) ?_;rintro _ _ ⟨s7,Y,n9,ca,Sb,rfl,hc,hd,he⟩;refine Rw z ?_
  obtain rfl:=som O;exact Wr<|f_ hr z ⟨bup G s7,Y,n9,ca,Sb,z,hc,hd,j_ he G.s⟩
 refine Wk<|Wm z<|Rf z a_G z<|R z (l0 g_3 z<|h1.at z) ?_
 obtain ⟨_,ef,hmg⟩:=bdS<|ifF hm H;refine E z (fc call157 z<|W_w24 ef (zt' L G.s) J I) ?_;rintro _ _ ⟨sh,ai,nj,ck,Sl,rfl,hn,ho,hp⟩;refine Rw z ?_
 obtain rfl:=som hmg;exact Wr<|f_ hr z ⟨bup G sh,ai,nj,ck,Sl,z,hn,ho,j_ hp G.s⟩
def Q25 (w0:World)(G:Nat)(B:Zone)(A9:Option Addr)(N9 C9:Nat)(A5:Option Addr)(N5 C5:Nat)(S3_1:List Nat)(x3:a_O)(r:(List UInt8))(v:Value)(w':World):Prop:=Chg (· ∈ ([G]++S3_1)) w0 w'/\(fun L=>∃H I J S1,v = .tuple #[]/\a_ w' S1 (sl H I J) L/\S1.Nodup/\(∀k∈S1,k∈S3_1∨w0.z<=k)/\Blk w' G [sl A9 N9 C9,sl H I J]) r
theorem j_o {x1:Int}{x2:Int}{x3:a_O}{S3_1:List Nat}{G:Nat}{L W:Nat}{res:(List UInt8)}(hm:d_J n x1 x2 x3=some res)(Y:Blk w0 G [sl A9 N9 C9,sl A5 N5 C5])(a0:B<=w0.z)(hBg:¬B G)(ai:inI x1)(a1:inI x2)(O:repS w0 B (sl A9 N9 C9) x3.d.rules)(V:a_ w0 S3_1 (sl A5 N5 C5) x3.out)(p3_1n:S3_1.Nodup)(p3_1g:∀k∈S3_1,¬B k)(p3_1d:∀k∈S3_1,k∉[G])(a3:L_ w0 L W [pt G])(aj:B L):l_ prog 138 [vI x1,vI x2,(.pointer<|some ⟨L,W,none⟩)] w0 (Q25 w0 G B A9 N9 C9 A5 N5 C5 S3_1 x3 res):=by
 unfold d_J at hm
 refine goG func138 z z z fun fn hr=>Wd (X:=noX) 2048 (pl_ 12 [10,11]) mo (by kernel_rfl) fun I H _=>?_
 have h4:=a3.e H;refine dR z z (l0 c_y z<|h4.at0 z)<|dR z z (l0 c_y z<|h4.at0 z)<|dR z z (C_ z)<|dR z z (fd k_o z)<|dR z z (fd a_9 z) ?_
 have h5:=Y.e H;refine dR z z (l0 a_b z<|h5.at z)<|dM z z z ?_
 obtain ⟨x9,ea,hmb⟩:=bdS hm;refine dRX z z (at_ (α:=g_) a_3 t_ z z z (O.e H) ea) ?_;rintro _ ⟨_,_,_,rfl,hc,hd,_⟩;obtain ⟨ae,nf,cg,ah,ni,cj,ak,nl,cm,an,no,cp,rfl,hq,ht,hu,hv,hw,hx,hy⟩:=a_v hd;refine dR z z (lN (vs:=vR x9 ae nf cg ah ni cj ak nl cm an no cp) D_ t_ z z fid hc)<|dM z z z ?_
 obtain ⟨_,er,hms⟩:=bdS hmb;refine dE z z (fc call140 z<|W_w3o er (zt' a0 H.s) hq ht hu hv hw hx hy a1) (.inr fun _ _ h=>o_<|h.1) ?_;rintro _ J ⟨s1,_,_,_,_,rfl,h6,_,hz⟩;have h7:=lt_ H.s s1.s;obtain ⟨_,a4,a2⟩:=bdS hms;refine dE z z (fc call139 z<|e_L (B:=zn B I.z J.z) a4 (h5.e s1) (c_p (zt' a0 h7) lr) (atp ((b_G (d_ hBg) (d_<|Blk.lt Y) H.s):∀k∈[G],¬(zn B I.z J.z) k)) (repS.mono (O.g<|(H.ag B).e s1) b_y) ((V.e H).e s1) p3_1n ((b_G p3_1g (a_.lt V) H.s):∀k∈S3_1,¬(zn B I.z J.z) k) p3_1d<|or_ h6<|zin (B:=B) hz<|a_.lt h6) (.inl z) ?_;rintro _ a5 ⟨a6,a7,a8,a9,S8,rfl,aa,ab,ad,af⟩;refine pD ?_;obtain rfl:=som a2;exact ret0 hr ⟨(cM (k_ (k_ (cr ([G]++S3_1) w0) H:Chg (· ∈ ([G]++S3_1)) w0 I) s1:Chg (· ∈ ([G]++S3_1)) w0 J) a6 (aa_ (io<|a_5 sr)<|io<|a_c sr):Chg (· ∈ ([G]++S3_1)) w0 a5),a7,a8,a9,S8,z,aa,ab,(or1 ad (io sr) (q_ h7):∀k∈S8,k∈S3_1∨w0.z<=k),af⟩
structure k_Y (f:a_O->Int->Val->Option (List UInt8)):Prop where
  run:∀{A0 A8 A5 A7:Option Addr}{N0 C0 N8 C8 g1 N5 C5 N7 C7 b3 o3:Nat}{S1_1:List Nat}{B:Zone}{x1:a_O}{x2:Int}{x3:Val}{res:(List UInt8)}{w0:World}(hm:f x1 x2 x3=some res)(hB1:Blk w0 g1 [sl A0 N0 C0,sl A8 N8 C8])(hBw:B<=w0.z)(hBg:¬B g1)(p1_0:repS w0 B (sl A0 N0 C0) x1.d.rules)(p1_1:a_ w0 S1_1 (sl A8 N8 C8) x1.out)(p1_1n:S1_1.Nodup)(p1_1g:∀k∈S1_1,¬B k)(p1_1d:∀k∈S1_1,k∉[g1])(p2_0:inI x2)(p3_0:inI x3.number)(p3_1:repS w0 B (sl A5 N5 C5) x3.bytes)(p3_2:repS w0 B (sl A7 N7 C7) x3.items)(hC3:L_ w0 b3 o3 [vI x3.number,sl A5 N5 C5,sl A7 N7 C7])(hC3b:B b3),l_ prog 115 [pt g1,vI x2,(.pointer<|some ⟨b3,o3,none⟩)] w0<|Q24 w0 g1 B A0 N0 C0 A8 N8 C8 S1_1 x1 res
structure k_Z (f:a_O->Int->Val->Option (List UInt8)):Prop where
  run:∀{A0 A8 A5 A7:Option Addr}{N0 C0 N8 C8 g1 N5 C5 N7 C7 b3 o3:Nat}{S1_1:List Nat}{B:Zone}{x1:a_O}{x2:Int}{x3:Val}{res:(List UInt8)}{w0:World}(hm:f x1 x2 x3=some res)(hB1:Blk w0 g1 [sl A0 N0 C0,sl A8 N8 C8])(hBw:B<=w0.z)(hBg:¬B g1)(p1_0:repS w0 B (sl A0 N0 C0) x1.d.rules)(p1_1:a_ w0 S1_1 (sl A8 N8 C8) x1.out)(p1_1n:S1_1.Nodup)(p1_1g:∀k∈S1_1,¬B k)(p1_1d:∀k∈S1_1,k∉[g1])(p2_0:inI x2)(p3_0:inI x3.number)(p3_1:repS w0 B (sl A5 N5 C5) x3.bytes)(p3_2:repS w0 B (sl A7 N7 C7) x3.items)(hC3:L_ w0 b3 o3 [vI x3.number,sl A5 N5 C5,sl A7 N7 C7])(hC3b:B b3),l_ prog 142 [pt g1,vI x2,(.pointer<|some ⟨b3,o3,none⟩)] w0<|Q24 w0 g1 B A0 N0 C0 A8 N8 C8 S1_1 x1 res
abbrev l_0 (n:Nat):Prop:=k_Y (c_e n).impl_printer_value/\k_Z (c_e n).impl_printer_items
theorem T_w0e (ih:l_0 n):k_Y (b_R n<|c_e n):=by
 obtain ⟨_,es⟩:=ih
 constructor
 intro A0 A8 A5 A7 N0 C0 N8 C8 g1 N5 C5 N7 C7 b3 o3 S1_1 B x1 x2 x3 res w0 hm hB1 L hBg V J p1_1n p1_1g p1_1d bh aL W aM hC3 hC3b;unfold b_R at hm
 refine goG func115 z z z fun fn hr=>Ws<|E z (fb z) ?_
 rintro _ I ⟨rfl,bs⟩;have H:=bs.below;have h5:Blk I w0.z [pt g1]:=bs.blk;refine Wn<|Ws<|R z (l0 c_y z<|h5.at z)<|R z (C_ z)<|Rf z k_o z<|Rf z a_9 z ?_
 have hb:=hB1.e H;refine R z (l0 a_b z<|hb.at z)<|Rm z ?_
 obtain ⟨bt,eu,cz⟩:=bdS hm;refine RX z (at_ (α:=g_) a_3 t_ z z z (V.e H) eu) ?_;rintro _ ⟨_,_,_,rfl,ew,ex,_⟩;obtain ⟨bu,bv,bw,bx,bz,bA,bB,bC,bD,bE,bF,bG,rfl,_,_,_,bH,_,_,aW⟩:=a_v ex;refine R z (lN (vs:=vR bt bu bv bw bx bz bA bB bC bD bE bF bG) D_ t_ z z fid ew)<|E z (fa b_Y) ?_
 rintro _ bI ⟨rfl,bJ⟩;have h3:=bJ.below;have bK:Blk bI I.z [(Str.v (⟨[]⟩:Str)),vI 0,vI 0,vB false,sl none 0 0,sl none 0 0,sl none 0 0,sl none 0 0]:=bJ.blk;refine E0 (fs0 (cur':=vR bt bu bv bw bx bz bA bB bC bD bE bF bG) t_ z z bK z z z z) ?_;rintro _ G ⟨hi,ey⟩;have h2:=ey.one;refine Wn<|Ws<|R z (l_v z)<|Rw z<|Wq<|Ws<|Rf z a_M z<|R z (l0 g_3 z<|hi.at z)<|Wn<|Wb<|Ws<|Rq z z z<|Rw z ?_
 obtain ⟨ez,bi,cA⟩:=bdS cz;refine Wt (fun a w=>∃(aX:List UInt8),aX=ez/\∃aY aZ b0 Sc,Sat 134 [(1,vI x2),(2,.pointer<|some ⟨b3,o3,none⟩),(3,pt w0.z),(6,pt I.z)] a/\Chg (· ∈ ([g1]++S1_1)) G w/\a_ w Sc (sl aY aZ b0) aX/\Sc.Nodup/\(∀k∈Sc,k∈S1_1∨G.z<=k)/\Blk w g1 [sl A0 N0 C0,sl aY aZ b0]) ?_ ?_
 ·refine Wc z (fun aN=>?_)<|fun aN=>?_
  ·refine Wg<|RM z z<|Rm z<|R z (C_ z)<|Rf z a_F z ?_
   have bL:∀k∈[I.z],¬B k:=or0 (d_ lr)<|p_<|zt' L H.s;refine R z (l0 g_3 z<|(((hC3.e H).e h3).c h2<|(e_ bL) _ hC3b).at (j:=0) z) ?_;obtain ⟨eA,eB,cB⟩:=bdS<|ifT bi aN;refine E z (c_V call138 z z<|j_o (B:=zn B w0.z I.z) eB ((hb.e h3).c h2<|djs<|mm1 (Blk.lt hB1) H.s) (c_p (zt' L<|lt_ (lt_ H.s h3.s) h2.s)<|lt_ h3.s h2.s) (atp ((b_G (d_ hBg) (d_<|Blk.lt hB1) lr):∀k∈[g1],¬(zn B w0.z I.z) k)) bh aL (repS.mono (V.g<|((H.ag B).e h3).c h2<|e_ bL) b_y) (((J.e H).e h3).c h2<|ds<|mno (a_.lt J) H.s) p1_1n ((b_G p1_1g (a_.lt J) lr):∀k∈S1_1,¬(zn B w0.z I.z) k) p1_1d (((h5.e h3).c h2<|djs<|mmr h5.lt).row 0 1 z)<|atp<|zin (B:=B) (d_ lr)<|d_ h5.lt) ?_;rintro _ eC ⟨eD,eE,eF,eG,bM,rfl,eH,eI,eJ,eK⟩;refine Wl ?_;exact fun _ q=>⟨eA,som cB,eE,eF,eG,bM,q.k<|s4 z z z z,(cM (cr ([g1]++S1_1) G) eD (aa_ (io<|a_5 sr)<|io<|a_c sr):Chg (· ∈ ([g1]++S1_1)) G eC),eH,eI,(or1 eJ (io sr) (q_ lr):∀k∈bM,k∈S1_1∨G.z<=k),eK⟩
  refine Ws<|Rq z z z<|Rw z ?_
  obtain ⟨eL,bj,cC⟩:=bdS<|ifF bi aN;refine Wt (fun a w=>∃(a4:List UInt8),a4=eL/\∃a5 a6 a7 Sj,Sat 134 [(1,vI x2),(2,.pointer<|some ⟨b3,o3,none⟩),(3,pt w0.z),(6,pt I.z)] a/\Chg (· ∈ ([g1]++S1_1)) G w/\a_ w Sj (sl a5 a6 a7) a4/\Sj.Nodup/\(∀k∈Sj,k∈S1_1∨G.z<=k)/\Blk w g1 [sl A0 N0 C0,sl a5 a6 a7]) ?_ ?_
  ·refine Wc z (fun aO=>?_)<|fun aO=>?_
   ·refine Wg<|R z (l0 c_y z<|((h5.e h3).c h2<|djs<|mmr h5.lt).at z)<|Rf z a_Z z<|R z (l0 J_ z<|hi.at z) ?_
    have bN:∀k∈[I.z],¬B k:=or0 (d_ lr)<|p_<|zt' L H.s;obtain ⟨eM,eN,cD⟩:=bdS<|ifT bj aO;refine E z (fc call139 z<|e_L (B:=B) eN ((hb.e h3).c h2<|djs<|mm1 (Blk.lt hB1) H.s) (zt' L<|lt_ (lt_ H.s h3.s) h2.s) hBg (V.g<|((H.ag B).e h3).c h2<|e_ bN) (((J.e H).e h3).c h2<|ds<|mno (a_.lt J) H.s) p1_1n p1_1g p1_1d<|bH.g<|(h3.ag B).c h2<|e_ bN) ?_;rintro _ eO ⟨eP,eQ,eR,eS,bO,rfl,eT,eU,eV,eW⟩;refine Wl ?_;exact fun _ q=>⟨eM,som cD,eQ,eR,eS,bO,q.k<|s4 z z z z,(cM (cr ([g1]++S1_1) G) eP (aa_ (io<|a_5 sr)<|io<|a_c sr):Chg (· ∈ ([g1]++S1_1)) G eO),eT,eU,(or1 eV (io sr) (q_ lr):∀k∈bO,k∈S1_1∨G.z<=k),eW⟩
   refine Ws<|Rq z z z<|Rw z ?_
   obtain ⟨eX,bk,cE⟩:=bdS<|ifF bj aO;refine Wt (fun a w=>∃(a8:List UInt8),a8=eX/\∃a9 aa ab Sk,Sat 134 [(1,vI x2),(2,.pointer<|some ⟨b3,o3,none⟩),(3,pt w0.z),(6,pt I.z)] a/\Chg (· ∈ ([g1]++S1_1)) G w/\a_ w Sk (sl a9 aa ab) a8/\Sk.Nodup/\(∀k∈Sk,k∈S1_1∨G.z<=k)/\Blk w g1 [sl A0 N0 C0,sl a9 aa ab]) ?_ ?_
   ·refine Wc z (fun aP=>?_)<|fun aP=>?_
    ·refine Wd (X:=noX) 32 (pl_ 6 [5]) mo (by kernel_rfl) fun eY se _=>dR z z (l0 c_y z<|(((h5.e h3).c h2<|djs<|mmr h5.lt).e se).at z)<|dM z z z<|dR z z (C_ z)<|dR z z (fd a_B z) ?_
     have bP:∀k∈[I.z],¬B k:=or0 (d_ lr)<|p_<|zt' L H.s;refine dR z z (l0 J_ z<|((((hC3.e H).e h3).c h2<|(e_ bP) _ hC3b).e se).at (j:=1) z) ?_;have bQ:=(((H.ag B).e h3).c h2<|e_ bP).e se;obtain ⟨eZ,f0,cF⟩:=bdS<|ifT bk aP;refine dE z z (fc call139 z<|e_L (B:=B) f0 (((hb.e h3).c h2<|djs<|mm1 (Blk.lt hB1) H.s).e se) (zt' L<|lt_ (lt_ (lt_ H.s h3.s) h2.s) se.s) hBg (V.g bQ) ((((J.e H).e h3).c h2<|ds<|mno (a_.lt J) H.s).e se) p1_1n p1_1g p1_1d<|W.g bQ) (.inl z) ?_;rintro _ f1 ⟨f2,f3,f4,f5,bR,rfl,f6,f7,f8,f9⟩;refine pD ?_;exact fun _ q=>⟨eZ,som cF,f3,f4,f5,bR,q.k<|s4 z z z z,(cM (k_ (cr ([g1]++S1_1) G) se:Chg (· ∈ ([g1]++S1_1)) G eY) f2 (aa_ (io<|a_5 sr)<|io<|a_c sr):Chg (· ∈ ([g1]++S1_1)) G f1),f6,f7,(or1 f8 (io sr) (q_ se.s):∀k∈bR,k∈S1_1∨G.z<=k),f9⟩
    refine Ws<|Rq z z z<|Rw z ?_
    obtain ⟨fe,bm,cG⟩:=bdS<|ifF bk aP;refine Wt (fun a w=>∃(ad:List UInt8),ad=fe/\∃ae af ah Sl,Sat 134 [(1,vI x2),(2,.pointer<|some ⟨b3,o3,none⟩),(3,pt w0.z),(6,pt I.z)] a/\Chg (· ∈ ([g1]++S1_1)) G w/\a_ w Sl (sl ae af ah) ad/\Sl.Nodup/\(∀k∈Sl,k∈S1_1∨G.z<=k)/\Blk w g1 [sl A0 N0 C0,sl ae af ah]) ?_ ?_
    ·refine Wc z (fun aQ=>?_)<|fun aQ=>?_
     ·refine Wq (Wd (X:=noX) 1024 (pl_ 11 [10]) mo (by kernel_rfl) fun ff s7 _=>dM z z z<|dR z z (fd R_ z)<|dR z z (l0 A_ z<|(hi.e s7).at z) ?_);obtain ⟨_,fg,cH⟩:=bdS<|ifT bm aQ;have b4:∀k∈[I.z],¬B k:=or0 (d_ lr)<|p_<|zt' L H.s;refine dRX z z (at_ (α:=Int) y_ z_3 z z z (aW.g<|((h3.ag B).c h2<|e_ b4).e s7) fg) ?_;rintro _ ⟨_,_,_,rfl,fh,fi,_⟩;obtain ⟨rfl,fj⟩:=T_ fi;refine dR z z (l0 g_3 z<|fh.at0 z)<|dM z z z<|dR z z (C_ z)<|dR z z (fd a_B z) ?_
      have bS:=(((hC3.e H).e h3).c h2<|(e_ b4) _ hC3b).e s7;refine dR z z (l0 J_ z<|bS.at (j:=1) z) ?_;have b5:=(((H.ag B).e h3).c h2<|e_ b4).e s7;have bT:=W.g b5;refine dR z z (lnR n_ z bT) ?_;have bU:=((h5.e h3).c h2<|djs<|mmr h5.lt).e s7;have b6:=lt_ (lt_ (lt_ H.s h3.s) h2.s) s7.s;have bV:=zt' L b6;obtain ⟨_,fk,cI⟩:=bdS cH;refine dE z z (c_V call138 z z<|j_o (B:=zn B w0.z I.z) fk (((hb.e h3).c h2<|djs<|mm1 (Blk.lt hB1) H.s).e s7) (c_p bV<|lt_ (lt_ h3.s h2.s) s7.s) (atp ((b_G (d_ hBg) (d_<|Blk.lt hB1) lr):∀k∈[g1],¬(zn B w0.z I.z) k)) fj (b_h<|repS.len bT) (repS.mono (V.g b5) b_y) ((((J.e H).e h3).c h2<|ds<|mno (a_.lt J) H.s).e s7) p1_1n ((b_G p1_1g (a_.lt J) lr):∀k∈S1_1,¬(zn B w0.z I.z) k) p1_1d (bU.row 0 1 z)<|atp<|zin (B:=B) (d_ lr)<|d_ h5.lt) (.inl z) ?_;rintro _ fl ⟨sm,_,_,_,ai,rfl,fm,fo,aj,fp⟩;refine pD<|Wo (Wd (X:=noX) 32 (pl_ 6 [5]) mo (by kernel_rfl) fun fq sf _=>dR z z (l0 c_y z<|((bU.c sm<|atp<|nmA (mmr<|Blk.lt hB1)<|mnr<|a_.lt J).e sf).at z)<|dM z z z<|dR z z (C_ z)<|dR z z (fd a_B z)<|dR z z (l0 J_ z<|((bS.c sm<|(nmA (e_<|d_ hBg)<|e_ p1_1g) _ hC3b).e sf).at (j:=1) z) ?_)
      have bW:=(b5.c sm<|nmA (e_<|d_ hBg)<|e_ p1_1g).e sf;obtain ⟨fr,fs,cJ⟩:=bdS cI;refine dE z z (fc call139 z<|e_L (B:=B) fs (fp.e sf) (zt' L<|lt_ (lt_ b6 sm.s) sf.s) hBg (V.g bW) (fm.e sf) fo (or1 aj p1_1g (p_ bV):∀k∈ai,¬B k) (or1 aj p1_1d (S_ (d_<|Blk.lt hB1) b6):∀k∈ai,k∉[g1])<|W.g bW) (.inl z) ?_;rintro _ ft ⟨fu,fv,fw,fx,bX,rfl,fy,fz,fA,fB⟩;refine pD ?_;exact fun _ q=>⟨fr,som cJ,fv,fw,fx,bX,q.k<|s4 z z z z,(cM (k_ (cM (k_ (cr ([g1]++S1_1) G) s7:Chg (· ∈ ([g1]++S1_1)) G ff) sm (aa_ (io<|a_5 sr)<|io<|a_c sr):Chg (· ∈ ([g1]++S1_1)) G fl) sf:Chg (· ∈ ([g1]++S1_1)) G fq) fu (aa_ (io<|a_5 sr) (or1 aj (io<|a_c sr) (q_ s7.s):∀k∈ai,k∈([g1]++S1_1)∨G.z<=k)):Chg (· ∈ ([g1]++S1_1)) G ft),fy,fz,(or1 fA (or1 aj (io sr) (q_ s7.s):∀k∈ai,k∈S1_1∨G.z<=k) (q_<|lt_ (lt_ s7.s sm.s) sf.s):∀k∈bX,k∈S1_1∨G.z<=k),fB⟩
     refine Ws<|Rq z z z<|Rw z ?_
     obtain ⟨fC,bn,cK⟩:=bdS<|ifF bm aQ;refine Wt (fun a w=>∃(ak:List UInt8),ak=fC/\∃al am an Sn,Sat 134 [(1,vI x2),(2,.pointer<|some ⟨b3,o3,none⟩),(3,pt w0.z),(6,pt I.z)] a/\Chg (· ∈ ([g1]++S1_1)) G w/\a_ w Sn (sl al am an) ak/\Sn.Nodup/\(∀k∈Sn,k∈S1_1∨G.z<=k)/\Blk w g1 [sl A0 N0 C0,sl al am an]) ?_ ?_
     ·refine Wc z (fun aR=>?_)<|fun aR=>?_
      ·refine Wd (X:=noX) 1024 (pl_ 11 [10]) mo (by kernel_rfl) fun fD s8 _=>dM z z z<|dR z z (fd R_ z)<|dR z z (l0 A_ z<|(hi.e s8).at z) ?_
       obtain ⟨_,fE,cL⟩:=bdS<|ifT bn aR;have b7:∀k∈[I.z],¬B k:=or0 (d_ lr)<|p_<|zt' L H.s;refine dRX z z (at_ (α:=Int) y_ z_3 z z z (aW.g<|((h3.ag B).c h2<|e_ b7).e s8) fE) ?_;rintro _ ⟨_,_,_,rfl,fF,fG,_⟩;obtain ⟨rfl,fH⟩:=T_ fG;refine dR z z (l0 g_3 z<|fF.at0 z)<|dM z z z<|dR z z (C_ z)<|dR z z (fd Q_ z)<|dR z z (l0 X_ z<|((((hC3.e H).e h3).c h2<|(e_ b7) _ hC3b).e s8).at (j:=2) z) ?_
       have bY:=(((H.ag B).e h3).c h2<|e_ b7).e s8;have bZ:=aM.g bY;refine dR z z (lnR Y_ z bZ) ?_;obtain ⟨fI,fJ,cN⟩:=bdS cL;refine dE z z (c_V call138 z z<|j_o (B:=zn B w0.z I.z) fJ (((hb.e h3).c h2<|djs<|mm1 (Blk.lt hB1) H.s).e s8) (c_p (zt' L<|lt_ (lt_ (lt_ H.s h3.s) h2.s) s8.s)<|lt_ (lt_ h3.s h2.s) s8.s) (atp ((b_G (d_ hBg) (d_<|Blk.lt hB1) lr):∀k∈[g1],¬(zn B w0.z I.z) k)) fH (b_h<|repS.len bZ) (repS.mono (V.g bY) b_y) ((((J.e H).e h3).c h2<|ds<|mno (a_.lt J) H.s).e s8) p1_1n ((b_G p1_1g (a_.lt J) lr):∀k∈S1_1,¬(zn B w0.z I.z) k) p1_1d ((((h5.e h3).c h2<|djs<|mmr h5.lt).e s8).row 0 1 z)<|atp<|zin (B:=B) (d_ lr)<|d_ h5.lt) (.inl z) ?_;rintro _ fK ⟨fL,fM,fN,fO,c0,rfl,fP,fQ,fR,fT⟩;refine pD ?_;exact fun _ q=>⟨fI,som cN,fM,fN,fO,c0,q.k<|s4 z z z z,(cM (k_ (cr ([g1]++S1_1) G) s8:Chg (· ∈ ([g1]++S1_1)) G fD) fL (aa_ (io<|a_5 sr)<|io<|a_c sr):Chg (· ∈ ([g1]++S1_1)) G fK),fP,fQ,(or1 fR (io sr) (q_ s8.s):∀k∈c0,k∈S1_1∨G.z<=k),fT⟩
      refine Ws<|Rq z z z<|Rw z ?_
      obtain ⟨fU,bo,cO⟩:=bdS<|ifF bn aR;refine Wt (fun a w=>∃(ao:List UInt8),ao=fU/\∃ap aq ar So,Sat 134 [(1,vI x2),(2,.pointer<|some ⟨b3,o3,none⟩),(3,pt w0.z),(6,pt I.z)] a/\Chg (· ∈ ([g1]++S1_1)) G w/\a_ w So (sl ap aq ar) ao/\So.Nodup/\(∀k∈So,k∈S1_1∨G.z<=k)/\Blk w g1 [sl A0 N0 C0,sl ap aq ar]) ?_ ?_
      ·refine Wc z (fun aS=>?_)<|fun aS=>?_
       ·refine Wd (X:=noX) 512 (pl_ 10 [9]) mo (by kernel_rfl) fun fV s9 _=>dM z z z<|dR z z (fd R_ z)<|dR z z (l0 A_ z<|(hi.e s9).at z) ?_
        obtain ⟨_,fW,cP⟩:=bdS<|ifT bo aS;have b8:∀k∈[I.z],¬B k:=or0 (d_ lr)<|p_<|zt' L H.s;refine dRX z z (at_ (α:=Int) y_ z_3 z z z (aW.g<|((h3.ag B).c h2<|e_ b8).e s9) fW) ?_;rintro _ ⟨_,_,_,rfl,fX,fY,_⟩;obtain ⟨rfl,fZ⟩:=T_ fY;refine dR z z (l0 g_3 z<|fX.at0 z)<|dM z z z<|dR z z (C_ z)<|dR z z (fd a_F z)<|dR z z (l0 g_3 z<|((((hC3.e H).e h3).c h2<|(e_ b8) _ hC3b).e s9).at (j:=0) z) ?_
        obtain ⟨g0,g2,cQ⟩:=bdS cP;refine dE z z (c_V call138 z z<|j_o (B:=zn B w0.z I.z) g2 (((hb.e h3).c h2<|djs<|mm1 (Blk.lt hB1) H.s).e s9) (c_p (zt' L<|lt_ (lt_ (lt_ H.s h3.s) h2.s) s9.s)<|lt_ (lt_ h3.s h2.s) s9.s) (atp ((b_G (d_ hBg) (d_<|Blk.lt hB1) lr):∀k∈[g1],¬(zn B w0.z I.z) k)) fZ aL (repS.mono (V.g<|(((H.ag B).e h3).c h2<|e_ b8).e s9) b_y) ((((J.e H).e h3).c h2<|ds<|mno (a_.lt J) H.s).e s9) p1_1n ((b_G p1_1g (a_.lt J) lr):∀k∈S1_1,¬(zn B w0.z I.z) k) p1_1d ((((h5.e h3).c h2<|djs<|mmr h5.lt).e s9).row 0 1 z)<|atp<|zin (B:=B) (d_ lr)<|d_ h5.lt) (.inl z) ?_;rintro _ g3 ⟨g4,g5,g6,g7,c1,rfl,g8,g9,ga,gb⟩;refine pD ?_;exact fun _ q=>⟨g0,som cQ,g5,g6,g7,c1,q.k<|s4 z z z z,(cM (k_ (cr ([g1]++S1_1) G) s9:Chg (· ∈ ([g1]++S1_1)) G fV) g4 (aa_ (io<|a_5 sr)<|io<|a_c sr):Chg (· ∈ ([g1]++S1_1)) G g3),g8,g9,(or1 ga (io sr) (q_ s9.s):∀k∈c1,k∈S1_1∨G.z<=k),gb⟩
       refine Ws<|Rq z z z<|Rw z ?_
       obtain ⟨gc,bp,cR⟩:=bdS<|ifF bo aS;refine Wt (fun a w=>∃(au:List UInt8),au=gc/\∃av aw ax Sp,Sat 134 [(1,vI x2),(2,.pointer<|some ⟨b3,o3,none⟩),(3,pt w0.z),(6,pt I.z)] a/\Chg (· ∈ ([g1]++S1_1)) G w/\a_ w Sp (sl av aw ax) au/\Sp.Nodup/\(∀k∈Sp,k∈S1_1∨G.z<=k)/\Blk w g1 [sl A0 N0 C0,sl av aw ax]) ?_ ?_
       ·refine Wc z (fun aT=>?_)<|fun aT=>?_
        ·refine Wd (X:=noX) 256 (pl_ 9 [7,8]) mo (by kernel_rfl) fun Y sg _=>dR z z (l0 c_y z<|(((h5.e h3).c h2<|djs<|mmr h5.lt).e sg).at z)<|dM z z z<|dR z z (C_ z)<|dR z z (fd Q_ z) ?_
         have c2:∀k∈[I.z],¬B k:=or0 (d_ lr)<|p_<|zt' L H.s;refine dR z z (l0 X_ z<|((((hC3.e H).e h3).c h2<|(e_ c2) _ hC3b).e sg).at (j:=2) z) ?_;have c3:=(((H.ag B).e h3).c h2<|e_ c2).e sg;refine dR z z (lnR Y_ z<|aM.g c3)<|dR z z (d_m d_3 d_5 z)<|dE z z (fS [(.tmp 95)] I_ z z z (a_J z) (lb z)<|lb z) (.inr fun _ _ h=>o_<|h.2.below) ?_
         rintro _ a0 ⟨rfl,b9⟩;have hq:=b9.below;have gD:Blk a0 Y.z [(vU<|byteI<|mkB (x3.items.length:Int))]:=b9.blk;have c4:=b_0 b9 a_s;have ba:=lt_ (lt_ (lt_ H.s h3.s) h2.s) sg.s;obtain ⟨ge,gf,cS⟩:=bdS<|ifT bp aT;refine dE z z (fc call139 z<|e_L (B:=zn B Y.z a0.z) gf ((((hb.e h3).c h2<|djs<|mm1 (Blk.lt hB1) H.s).e sg).e hq) (c_p (zt' L<|lt_ ba hq.s) lr) (atp ((b_G (d_ hBg) (d_<|Blk.lt hB1) ba):∀k∈[g1],¬(zn B Y.z a0.z) k)) (repS.mono (V.g<|c3.e hq) b_y) (((((J.e H).e h3).c h2<|ds<|mno (a_.lt J) H.s).e sg).e hq) p1_1n ((b_G p1_1g (a_.lt J) ba):∀k∈S1_1,¬(zn B Y.z a0.z) k) p1_1d<|or_ c4<|zin (B:=B) (d_ lr)<|a_.lt c4) (.inl z) ?_;rintro _ gg ⟨gh,gi,gj,gk,c5,rfl,gl,gm,gn,gp⟩;refine pD ?_;exact fun _ q=>⟨ge,som cS,gi,gj,gk,c5,q.k<|s4 z z z z,(cM (k_ (k_ (cr ([g1]++S1_1) G) sg:Chg (· ∈ ([g1]++S1_1)) G Y) hq:Chg (· ∈ ([g1]++S1_1)) G a0) gh (aa_ (io<|a_5 sr)<|io<|a_c sr):Chg (· ∈ ([g1]++S1_1)) G gg),gl,gm,(or1 gn (io sr) (q_<|lt_ sg.s hq.s):∀k∈c5,k∈S1_1∨G.z<=k),gp⟩
        refine Ws<|Rq z z z<|Rw z ?_
        obtain ⟨gq,bq,cT⟩:=bdS<|ifF bp aT;refine Wt (fun a w=>∃(ay:List UInt8),ay=gq/\∃az aA aB Sr,Sat 134 [(1,vI x2),(2,.pointer<|some ⟨b3,o3,none⟩),(3,pt w0.z),(6,pt I.z)] a/\Chg (· ∈ ([g1]++S1_1)) G w/\a_ w Sr (sl az aA aB) ay/\Sr.Nodup/\(∀k∈Sr,k∈S1_1∨G.z<=k)/\Blk w g1 [sl A0 N0 C0,sl az aA aB]) ?_ ?_
        ·refine Wc z (fun aU=>?_)<|fun aU=>?_
         ·refine Wd (X:=noX) 1024 (pl_ 11 [9,10]) mo (by kernel_rfl) fun aC sd _=>dR z z (l0 c_y z<|(((h5.e h3).c h2<|djs<|mmr h5.lt).e sd).at z)<|dM z z z<|dR z z (C_ z)<|dR z z (fd a_B z) ?_
          have bb:∀k∈[I.z],¬B k:=or0 (d_ lr)<|p_<|zt' L H.s;refine dR z z (l0 J_ z<|((((hC3.e H).e h3).c h2<|(e_ bb) _ hC3b).e sd).at (j:=1) z)<|dR z z (fd a_Z z)<|dR z z (l0 J_ z<|(hi.e sd).at z) ?_
          obtain ⟨_,gr,cU⟩:=bdS<|ifT bq aU;refine dRX z z (at_ (α:=UInt8) n_ z_5 z z z (bH.g<|((h3.ag B).c h2<|e_ bb).e sd) gr) ?_;rintro _ ⟨_,_,_,rfl,gs,gt,_⟩;obtain rfl:=u8 gt;refine dR z z (l0 g_5 z<|gs.at0 z) ?_;have c6:=(((H.ag B).e h3).c h2<|e_ bb).e sd;have aD:=lt_ (lt_ (lt_ H.s h3.s) h2.s) sd.s;obtain ⟨_,gu,cV⟩:=bdS cU;refine dE z z (fc call141 z<|W_w3m gu (zt' L aD)<|W.g c6) (.inr fun _ _ h=>o_<|h.1) ?_;rintro _ aE ⟨ss,_,_,_,_,rfl,c7,_,gv⟩;obtain ⟨gw,gx,cW⟩:=bdS cV;refine dE z z (fc call139 z<|e_L (B:=zn B aC.z aE.z) gx ((((hb.e h3).c h2<|djs<|mm1 (Blk.lt hB1) H.s).e sd).e ss) (c_p (zt' L<|lt_ aD ss.s) lr) (atp ((b_G (d_ hBg) (d_<|Blk.lt hB1) aD):∀k∈[g1],¬(zn B aC.z aE.z) k)) (repS.mono (V.g<|c6.e ss) b_y) (((((J.e H).e h3).c h2<|ds<|mno (a_.lt J) H.s).e sd).e ss) p1_1n ((b_G p1_1g (a_.lt J) aD):∀k∈S1_1,¬(zn B aC.z aE.z) k) p1_1d<|or_ c7<|zin (B:=B) gv<|a_.lt c7) (.inl z) ?_;rintro _ gy ⟨gz,gA,gB,gC,c8,rfl,cX,cY,cZ,d0⟩;refine pD ?_;exact fun _ q=>⟨gw,som cW,gA,gB,gC,c8,q.k<|s4 z z z z,(cM (k_ (k_ (cr ([g1]++S1_1) G) sd:Chg (· ∈ ([g1]++S1_1)) G aC) ss:Chg (· ∈ ([g1]++S1_1)) G aE) gz (aa_ (io<|a_5 sr)<|io<|a_c sr):Chg (· ∈ ([g1]++S1_1)) G gy),cX,cY,(or1 cZ (io sr) (q_<|lt_ sd.s ss.s):∀k∈c8,k∈S1_1∨G.z<=k),d0⟩
         exact a_I<|fun _ q=>⟨x1.out,som<|ifF bq aU,A8,N8,C8,S1_1,q.k<|s4 z z z z,cr ([g1]++S1_1) G,((J.e H).e h3).c h2<|ds<|mno (a_.lt J) H.s,p1_1n,io sr,(hb.e h3).c h2<|djs<|mm1 (Blk.lt hB1) H.s⟩
        rintro d1 d2 ⟨ay,rfl,az,aA,aB,Sr,_,d3,d4,d5,d6,d7⟩;revert d1;exact fun _ q=>⟨ay,som cT,az,aA,aB,Sr,q.k<|s4 z z z z,(cM (cr ([g1]++S1_1) G) d3 (aa_ (io<|a_5 sr)<|io<|a_c sr):Chg (· ∈ ([g1]++S1_1)) G d2),d4,d5,(or1 d6 (io sr) (q_ lr):∀k∈Sr,k∈S1_1∨G.z<=k),d7⟩
       rintro d8 d9 ⟨au,rfl,av,aw,ax,Sp,_,da,db,dc,dd,de⟩;revert d8;exact fun _ q=>⟨au,som cR,av,aw,ax,Sp,q.k<|s4 z z z z,(cM (cr ([g1]++S1_1) G) da (aa_ (io<|a_5 sr)<|io<|a_c sr):Chg (· ∈ ([g1]++S1_1)) G d9),db,dc,(or1 dd (io sr) (q_ lr):∀k∈Sp,k∈S1_1∨G.z<=k),de⟩
      rintro df dg ⟨ao,rfl,ap,aq,ar,So,_,dh,di,dj,dk,dl⟩;revert df;exact fun _ q=>⟨ao,som cO,ap,aq,ar,So,q.k<|s4 z z z z,(cM (cr ([g1]++S1_1) G) dh (aa_ (io<|a_5 sr)<|io<|a_c sr):Chg (· ∈ ([g1]++S1_1)) G dg),di,dj,(or1 dk (io sr) (q_ lr):∀k∈So,k∈S1_1∨G.z<=k),dl⟩
     rintro dm dn ⟨ak,rfl,al,am,an,Sn,_,dp,dq,dr,dt,du⟩;revert dm;exact fun _ q=>⟨ak,som cK,al,am,an,Sn,q.k<|s4 z z z z,(cM (cr ([g1]++S1_1) G) dp (aa_ (io<|a_5 sr)<|io<|a_c sr):Chg (· ∈ ([g1]++S1_1)) G dn),dq,dr,(or1 dt (io sr) (q_ lr):∀k∈Sn,k∈S1_1∨G.z<=k),du⟩
    rintro dv dw ⟨ad,rfl,ae,af,ah,Sl,_,dx,dy,dz,dA,dB⟩;revert dv;exact fun _ q=>⟨ad,som cG,ae,af,ah,Sl,q.k<|s4 z z z z,(cM (cr ([g1]++S1_1) G) dx (aa_ (io<|a_5 sr)<|io<|a_c sr):Chg (· ∈ ([g1]++S1_1)) G dw),dy,dz,(or1 dA (io sr) (q_ lr):∀k∈Sl,k∈S1_1∨G.z<=k),dB⟩
   rintro dC dD ⟨a8,rfl,a9,aa,ab,Sk,_,dF,dG,dH,dI,dJ⟩;revert dC;exact fun _ q=>⟨a8,som cE,a9,aa,ab,Sk,q.k<|s4 z z z z,(cM (cr ([g1]++S1_1) G) dF (aa_ (io<|a_5 sr)<|io<|a_c sr):Chg (· ∈ ([g1]++S1_1)) G dD),dG,dH,(or1 dI (io sr) (q_ lr):∀k∈Sk,k∈S1_1∨G.z<=k),dJ⟩
  rintro dK dL ⟨a4,rfl,a5,a6,a7,Sj,_,dN,dO,dP,dS,dT⟩;revert dK;exact fun _ q=>⟨a4,som cC,a5,a6,a7,Sj,q.k<|s4 z z z z,(cM (cr ([g1]++S1_1) G) dN (aa_ (io<|a_5 sr)<|io<|a_c sr):Chg (· ∈ ([g1]++S1_1)) G dL),dO,dP,(or1 dS (io sr) (q_ lr):∀k∈Sj,k∈S1_1∨G.z<=k),dT⟩
 rintro dU dV ⟨aX,rfl,aY,aZ,b0,Sc,_,st,c9,dW,hu,ca⟩;revert dU;refine Wo<|Ws ?_
 have cb:=mnr<|a_.lt J
 have cc:=mmr<|Blk.lt hB1
 have bc:=((h5.e h3).c h2<|djs<|mmr h5.lt).c st<|atp<|nmA cc cb
 refine R z (l0 c_y z<|bc.at z)<|R z (C_ z)<|Rf z f_w z<|R z (l0 J_ z<|ca.at z) ?_
 have a1:=lt_ (lt_ H.s h3.s) h2.s;refine R z (lnR n_ z<|a_.rep c9)<|Rw z<|Ws<|R z (l0 c_y z<|bc.at z)<|RM z z ?_
 have cd:∀k∈[I.z],¬B k:=or0 (d_ lr)<|p_<|zt' L H.s;have aF:=(((H.ag B).e h3).c h2<|e_ cd).c st<|nmA (e_<|d_ hBg)<|e_ p1_1g
 have be:∀k∈Sc,¬B k:=or1 hu p1_1g<|p_<|zt' L a1;have ce:∀k∈Sc,k∉[g1]:=or1 hu p1_1d<|S_ (d_<|Blk.lt hB1) a1;have hv:=lt_ a1 st.s;have cf:=zt' L hv;obtain ⟨dX,dY,cu⟩:=bdS cA;refine E z (fc call142 z<|es.run (B:=B) dY ca cf hBg (V.g aF) c9 dW be ce bh aL (W.g aF) (aM.g aF) ((((hC3.e H).e h3).c h2<|(e_ cd) _ hC3b).c st<|(nmA (e_<|d_ hBg)<|e_ p1_1g) _ hC3b) hC3b) ?_;rintro _ wa ⟨sw,dZ,e0,e1,O,rfl,aG,cg,aH,ch⟩;refine Wn<|Ws<|Rf z a_M z ?_
 have ci:=mno (a_.lt J) H.s;have cj:=mm1 (Blk.lt hB1) H.s;refine R z (l0 g_3 z<|((hi.c st<|atp<|nmA cj ci).c sw<|atp<|nmA cj<|ds (or1 hu (ds ci) (S_ (d_ bK.lt) h2.s):∀k∈Sc,k∉[I.z])).at z)<|Rq z z z<|Wn ?_
 obtain ⟨e2,br,cv⟩:=bdS cu;refine Wt (fun a w=>∃(bf:List UInt8),bf=e2/\∃aI aJ aK Sx,Sat 134 [] a/\Chg (· ∈ ([g1]++O)) wa w/\a_ w Sx (sl aI aJ aK) bf/\Sx.Nodup/\(∀k∈Sx,k∈O∨wa.z<=k)/\Blk w g1 [sl A0 N0 C0,sl aI aJ aK]) ?_ ?_
 ·refine Wc z (fun aV=>?_)<|fun aV=>?_
  ·refine Wd (X:=noX) 1024 (pl_ 11 [7,9,10]) mo (by kernel_rfl) fun e3 sh _=>?_
   have ck:=(bc.c sw<|atp<|nmA cc<|ds (or1 hu (ds cb) (S_ (d_ h5.lt)<|lt_ h3.s h2.s):∀k∈Sc,k∉[w0.z])).e sh;refine dR z z (l0 c_y z<|ck.at z)<|dR z z (l0 c_y z<|ck.at z)<|dR z z (C_ z)<|dR z z (fd f_w z) ?_
   have cl:=ch.e sh;refine dR z z (l0 J_ z<|cl.at z)<|dM z z z ?_
   obtain ⟨_,e4,cw⟩:=bdS<|ifT br aV;have cm:=aG.e sh;refine dRX z z (rX n_ z_5 z z (or_ cm<|a_.lt aG) z z e4) ?_;rintro _ ⟨_,_,_,rfl,e5⟩;obtain ⟨e6,e7,cx⟩:=bdS cw;refine dE z z (fc call134 z<|W_w1v (B:=wa.z) e7 (M_ sh.s) e5) (.inr fun _ _ h=>o_<|h.1) ?_;rintro _ a2 ⟨sy,rfl,_⟩;refine dR z z (d_m d_3 d_5 z)<|dE z z (fS [(.tmp 131)] I_ z z z (a_J z) (lb z)<|lb z) (.inr fun _ _ h=>o_<|h.2.below) ?_
   rintro _ a3 ⟨rfl,bg⟩;have hz:=bg.below;have gE:Blk a3 a2.z [(vU<|byteI<|mkB e6)]:=bg.blk;have cn:=b_0 bg a_s;have co:=lt_ sh.s sy.s;have cp:=lt_ (lt_ (lt_ hv sw.s) sh.s) sy.s;obtain ⟨e8,e9,cy⟩:=bdS cx;refine dE z z (fc call139 z<|e_L (B:=zn B a2.z a3.z) e9 ((cl.e sy).e hz) (c_p (zt' L<|lt_ cp hz.s) lr) (atp ((b_G (d_ hBg) (d_<|Blk.lt hB1) cp):∀k∈[g1],¬(zn B a2.z a3.z) k)) (repS.mono (V.g<|(((aF.c sw<|nmA (e_<|d_ hBg)<|e_ be).e sh).e sy).e hz) b_y) ((cm.e sy).e hz) cg ((b_G (or1 aH be (p_ cf):∀k∈O,¬B k) (a_.lt aG) co):∀k∈O,¬(zn B a2.z a3.z) k) (or1 aH ce (S_ (d_<|Blk.lt hB1) hv):∀k∈O,k∉[g1])<|or_ cn<|zin (B:=B) (d_ lr)<|a_.lt cn) (.inl z) ?_;rintro _ ea ⟨eb,ec,ed,ee,cq,rfl,ef,eg,eh,ei⟩;refine pD ?_;exact fun _ q=>⟨e8,som cy,ec,ed,ee,cq,q.k sn,(cM (k_ (k_ (k_ (cr ([g1]++O) wa) sh:Chg (· ∈ ([g1]++O)) wa e3) sy:Chg (· ∈ ([g1]++O)) wa a2) hz:Chg (· ∈ ([g1]++O)) wa a3) eb (aa_ (io<|a_5 sr)<|io<|a_c sr):Chg (· ∈ ([g1]++O)) wa ea),ef,eg,(or1 eh (io sr) (q_<|lt_ co hz.s):∀k∈cq,k∈O∨wa.z<=k),ei⟩
  exact a_I<|fun _ q=>⟨dX,som<|ifF br aV,dZ,e0,e1,O,q.k sn,cr ([g1]++O) wa,aG,cg,io sr,ch⟩
 rintro ej ek ⟨bf,rfl,aI,aJ,aK,Sx,_,em,en,eo,ep,er⟩;revert ej;obtain rfl:=som cv;have ct:∀k∈Sc,k∈([g1]++S1_1)∨w0.z<=k:=or1 hu (io<|a_c sr)<|q_ a1;exact ret0 hr ⟨(cM (cM (cM (cM (k_ (k_ (cr ([g1]++S1_1) w0) H:Chg (· ∈ ([g1]++S1_1)) w0 I) h3:Chg (· ∈ ([g1]++S1_1)) w0 bI) h2 (mor H.s:∀k∈[I.z],k∈([g1]++S1_1)∨w0.z<=k):Chg (· ∈ ([g1]++S1_1)) w0 G) st (aa_ (io<|a_5 sr)<|io<|a_c sr):Chg (· ∈ ([g1]++S1_1)) w0 dV) sw (aa_ (io<|a_5 sr) ct):Chg (· ∈ ([g1]++S1_1)) w0 wa) em (aa_ (io<|a_5 sr) (or1 aH ct (q_ hv):∀k∈O,k∈([g1]++S1_1)∨w0.z<=k)):Chg (· ∈ ([g1]++S1_1)) w0 ek),aI,aJ,aK,Sx,z,en,eo,(or1 ep (or1 aH (or1 hu (io sr) (q_ a1):∀k∈Sc,k∈S1_1∨w0.z<=k) (q_ hv):∀k∈O,k∈S1_1∨w0.z<=k) (q_<|lt_ hv sw.s):∀k∈Sx,k∈S1_1∨w0.z<=k),er⟩
theorem T_w25 (ih:l_0 n):k_Z (g_e n<|c_e n):=by
 obtain ⟨ab,_⟩:=ih
 constructor
 intro A0 A8 A5 A7 N0 C0 N8 C8 g1 N5 C5 N7 C7 b3 o3 S1_1 B x1 x2 x3 res w0 hm hB1 V hBg W Y p1_1n p1_1g p1_1d a0 a2 a3 O hC3 hC3b;unfold g_e at hm
 refine goG func142 z z z fun fn hr=>Wm z<|R z (o_0 z)<|Rw z<|Wm z<|R z (C_ z)<|Rf z Q_ z<|R z (l0 X_ z<|hC3.at (j:=2) z)<|R z (lnR Y_ z O)<|Rm z<|Wn ?_
 obtain ⟨_,hur,hmh⟩:=bdS hm;refine Wf (σ:=List UInt8) (ρ:=List UInt8) (fun (ki:Nat)(xa:List UInt8) a w=>∃H I J G,Sat 37 [(0,pt g1),(1,vI x2),(2,.pointer<|some ⟨b3,o3,none⟩),(6,.func (.func 115) #[pt g1] #[]),(14,vI (x3.items.length:Int)),(15,vI ((ki:Nat):Int))] a/\Chg (· ∈ ([g1]++S1_1)) w0 w/\a_ w G (sl H I J) xa/\G.Nodup/\(∀k∈G,k∈S1_1∨w0.z<=k)/\Blk w g1 [sl A0 N0 C0,sl H I J]) (fun (xa:List UInt8) a w=>∃H I J G,Sat 37 [] a/\Chg (· ∈ ([g1]++S1_1)) w0 w/\a_ w G (sl H I J) xa/\G.Nodup/\(∀k∈G,k∈S1_1∨w0.z<=k)/\Blk w g1 [sl A0 N0 C0,sl H I J]) (rQ prog fn<|Q24 w0 g1 B A0 N0 C0 A8 N8 C8 S1_1 x1) hur ?_ ?_ ?_ ?_ ?_
 ·exact fun _ q=>⟨A8,N8,C8,S1_1,q.k<|s6 z z z z z z,cr ([g1]++S1_1) w0,Y,p1_1n,io sr,hB1⟩
 ·rintro ki xa _ we _ hkf ⟨H,I,J,G,hSs,s7,h6,hb,h4,L⟩ hmt;refine Wu ?_ hSs;refine Ws<|Rl z z z<|Wn<|Wq<|Wc z (fun _=>?_) (fun hc=>(a_0 hkf hc).elim)
  refine Wk<|Wq<|Wb<|Wm z<|Rw z<|Wq<|Wm z ?_
  obtain ⟨_,eu,hmj⟩:=bdS hmt;refine E z (fc call116 z<|W_w23 (B:=we.z) eu zr (repS.mono (W.c s7<|nmA (e_<|d_ hBg)<|e_ p1_1g)<|zt' V s7.s) (a_.rep h6) (L.row 0 2 z)<|zap' (M_ s7.s)<|Blk.lt hB1) ?_;rintro _ wk ⟨s5,rfl⟩;refine Wx z (fun hcg=>?_) (fun hcg=>?_)
  ·have hv:Chg (· ∈ ([g1]++S1_1)) w0 we:=cM (cr ([g1]++S1_1) w0) s7<|aa_ (io<|a_5 sr)<|io<|a_c sr;exact Wr<|rtO<|qL (som<|ifT hmj hcg).symm<|ret0 hr ⟨(k_ hv s5:Chg (· ∈ ([g1]++S1_1)) w0 wk),H,I,J,G,z,h6.e s5,hb,(or1 h4 (io sr) (q_ lr):∀k∈G,k∈S1_1∨w0.z<=k),L.e s5⟩
  refine Wk (Wd (X:=noX) 32768 (.rd 0<|.rd 1<|.rd 2<|.rd 3<|.rd 4<|.rd 5<|.rd 6<|.rd 7<|.rd 9<|.rd 10<|.rd 11<|.rd 12<|.rd 13<|.rd 14<|.ef 8<|.ef 15 .done) mo (by kernel_rfl) fun wy sc _=>dM z z z<|dM z z z<|dR z z (C_ z)<|dR z z (fd k_o z) ?_);have hl:=(L.e s5).e sc;refine dR z z (lN (vs:=[sl A0 N0 C0]) w_ v_ z z fid<|hl.row 0 1 z) ?_
  iterate 4 refine dM z z z ?_
  refine dR z z (C_ z)<|dR z z (fd Q_ z) ?_
  have hn:=((hC3.c s7<|(nmA (e_<|d_ hBg)<|e_ p1_1g) _ hC3b).e s5).e sc;refine dR z z (l0 X_ z<|hn.at (j:=2) z)<|dM z z z ?_
  obtain ⟨_,ez,a4⟩:=bdS<|ifF hmj hcg;have hd:=((s7.agc B<|nmA (e_<|d_ hBg)<|e_ p1_1g).e s5).e sc;have ho:=O.g hd;refine dRX z z (at_ (α:=Val) Y_ b_ z z z ho ez) ?_;rintro _ ⟨_,_,_,rfl,ad,ae,af⟩;obtain ⟨_,_,_,_,_,_,rfl,ah,ai,aj⟩:=d_f ae;have hp:=lt_ (lt_ s7.s s5.s) sc.s;obtain ⟨_,ak,a5⟩:=bdS a4;refine dE z z (fc call75 z<|j_n (B:=B) (x1:=(⟨x1.d.rules⟩:c_)) ak (zt' V hp) (W.g hd) a0 a2 (a3.g hd) ho hn hC3b<|ic (Nat.le_of_lt hkf)<|lt_ (repS.len O) G_) (.inr fun _ _ h=>o_<|h.1) ?_;rintro _ al ⟨s8,rfl,am⟩;have hq:=lt_ hp s8.s;obtain ⟨an,ao,a6⟩:=bdS a5;refine dE z z (o_1 call115 z z<|ab.run (B:=B) ao (hl.e s8) (zt' V hq) hBg (W.g<|hd.e s8) (((h6.e s5).e sc).e s8) hb (or1 h4 p1_1g (p_ V):∀k∈G,¬B k) (or1 h4 p1_1d (S_ (d_<|Blk.lt hB1) lr):∀k∈G,k∉[g1]) am ah (ai.e s8) (aj.e s8) (ad.e s8) af) (.inl z) ?_;rintro _ ap ⟨aq,ar,au,av,Sm,rfl,aw,ax,ay,az⟩;refine pD<|Wo<|Wg<|R z (inc_ hkf (lt_ (repS.len O) G_) z z)<|Rm z<|Wl ?_
  exact fun _ q=>⟨an,(som a6).symm,⟨ar,au,av,Sm,q.k<|s6 z z z z z z,(cM (k_ (k_ (k_ (cM (cr ([g1]++S1_1) w0) s7 (aa_ (io<|a_5 sr)<|io<|a_c sr):Chg (· ∈ ([g1]++S1_1)) w0 we) s5:Chg (· ∈ ([g1]++S1_1)) w0 wk) sc:Chg (· ∈ ([g1]++S1_1)) w0 wy) s8:Chg (· ∈ ([g1]++S1_1)) w0 al) aq (aa_ (io<|a_5 sr) (or1 h4 (io<|a_c sr) (q_ lr):∀k∈G,k∈([g1]++S1_1)∨w0.z<=k)):Chg (· ∈ ([g1]++S1_1)) w0 ap),aw,ax,(or1 ay (or1 h4 (io sr) (q_ lr):∀k∈G,k∈S1_1∨w0.z<=k) (q_ hq):∀k∈Sm,k∈S1_1∨w0.z<=k),az⟩⟩
 ·rintro xa _ aA ⟨H,I,J,G,a7,aB,h6,hb,h4,L⟩;refine Wu ?_ a7;refine Ws<|Rl z z z<|Wn<|Wq<|Wc z (fun hc=>(a_1 hc).elim) (fun _=>?_)
  exact We<|fun _ q=>⟨rfl,⟨H,I,J,G,q.k sn,(cM (cr ([g1]++S1_1) w0) aB (aa_ (io<|a_5 sr)<|io<|a_c sr):Chg (· ∈ ([g1]++S1_1)) w0 aA),h6,hb,(or1 h4 (io sr) (q_ lr):∀k∈G,k∈S1_1∨w0.z<=k),L⟩⟩
 ·rintro xa aC aD rfl ⟨H,I,J,G,_,aE,h6,hb,h4,L⟩;have a8:=elL hmh;revert aC;obtain rfl:=som a8;exact ret0 hr ⟨(cM (cr ([g1]++S1_1) w0) aE (aa_ (io<|a_5 sr)<|io<|a_c sr):Chg (· ∈ ([g1]++S1_1)) w0 aD),H,I,J,G,z,h6,hb,(or1 h4 (io sr) (q_ lr):∀k∈G,k∈S1_1∨w0.z<=k),L⟩
 rintro _ _ _ _ rfl ⟨rfl,a9⟩;have aa:=elR hmh;obtain rfl:=som aa;exact ⟨a9,z⟩
theorem j_p:∀n,l_0 n
  | 0=>⟨⟨fun hm=>by intros;exact nomatch (show none=some _ from hm)⟩,⟨fun hm=>by intros;exact nomatch (show none=some _ from hm)⟩⟩
  | n+1=>⟨T_w0e<|j_p n,T_w25<|j_p n⟩
theorem W_w0e:k_Y (c_e n).impl_printer_value:=(j_p n).1
theorem W_w25:k_Z (c_e n).impl_printer_items:=(j_p n).2
theorem W_w3p {x1:c_}{x2:Int}{x3:Val}{res:(List UInt8)×Bool}(hm:i_l n x1 x2 x3=some res)(I:B<=w0.z)(V:repS w0 B (sl A0 N0 C0) x1.rules)(W:inI x2)(Y:inI x3.number)(a0:repS w0 B (sl A5 N5 C5) x3.bytes)(a1:repS w0 B (sl A7 N7 C7) x3.items):l_ prog 66 [(.agg #[sl A0 N0 C0]),vI x2,(.agg #[vI x3.number,sl A5 N5 C5,sl A7 N7 C7])] w0 (Q11 w0 B res):=by
 unfold i_l at hm
 refine goG func66 z z z fun fn hr=>Ws<|E z (fb z) ?_
 rintro _ J ⟨rfl,hj⟩;have h3:=hj.below;refine E z (fb z) ?_;rintro _ wb ⟨rfl,hk⟩;have h2:=hk.below;have hc:Blk wb J.z [vI x3.number,sl A5 N5 C5,sl A7 N7 C7]:=hk.blk;refine Ra z<|Rw z<|Wq<|Ws ?_
 have hl:=(hj.blk:Blk J w0.z [sl A0 N0 C0]).e h2;refine R z (lN (vs:=[sl A0 N0 C0]) w_ v_ z z fid<|hl.row 0 1 z)<|Rm z<|R z (lN (vs:=[vI x3.number,sl A5 N5 C5,sl A7 N7 C7]) i_ b_ z z fid<|hc.row 0 3 z) ?_
 have L:=(h3.ag B).e h2;have hd:=lt_ h3.s h2.s;obtain ⟨_,es,hmm⟩:=bdS hm;refine E z (fc call43 z<|W_w22 es (zt' I hd) (V.g L) W Y (a0.g L)<|a1.g L) ?_;rintro _ H ⟨G,rfl⟩;refine R z (not_ z)<|Wx z (fun hce=>?_) (fun hce=>?_)
 ·refine Ws<|E z (f0 (α:=UInt8) I_) ?_
  rintro _ _ ⟨ax,ny,cz,rfl,a3,a4⟩;refine Ra z<|Rw z ?_
  obtain rfl:=som<|ifT hmm hce;exact Wr<|F_ hr z z ⟨bup (bup (bup h3 h2) G) a3,ax,ny,cz,[H.z],z,a4,a_e,m1<|lt_ hd G.s⟩
 refine Wk<|Ws<|R z (lN (vs:=[sl A0 N0 C0]) w_ v_ z z fid<|(hl.e G).row 0 1 z)<|R z (bP (parts:=[(0,.tmp 15)]) (cs:=[sl A0 N0 C0,sl none 0 0]) r_n z z)<|E z (fb z) ?_
 rintro _ wn ⟨rfl,ho⟩;have h1:=ho.below;have hp:Blk wn H.z [sl A0 N0 C0,sl none 0 0]:=ho.blk;refine Rw z<|Wm z<|Rm z ?_
 have O:=(L.e G).e h1;have ha:=lt_ hd G.s;have hq:=zt' I ha;have hf:=lt_ ha h1.s;obtain ⟨_,a5,a2⟩:=bdS<|ifF hmm hce;refine E z (fc call115 z<|W_w0e.run (B:=zn B J.z wb.z) a5 hp (c_p (zt' I hf)<|lt_ G.s h1.s) (atp (or0 (d_ lr) (lenz (p_ hq) G.s):∀k∈[H.z],¬(zn B J.z wb.z) k)) (repS.mono (V.g O) b_y) onL K_ an_ an_ W Y (repS.mono (a0.g O) b_y) (repS.mono (a1.g O) b_y) (((hc.e G).e h1).row 0 3 z)<|atp<|zin (B:=B) (d_ lr)<|d_ hc.lt) ?_;rintro _ a6 ⟨s5,a7,a8,a9,Sg,rfl,hh,aa,ht,hu⟩;refine Wn<|Wq<|Wm z ?_
 have hv:=lt_ hf s5.s;obtain ⟨_,ab,hmr⟩:=bdS a2;refine E z (fc call116 z<|W_w23 (B:=zn B H.z a6.z) ab (c_p (zt' I hv) lr) (repS.mono (V.g<|O.c s5<|nmA (e_ (or0 (d_ lr) (p_ hq):∀k∈[H.z],¬B k))<|e_ an_) b_y) (repS.mono (or_ hh<|zin (B:=B) (or1 ht an_ (b_9 lr):∀k∈Sg,wn.z<=k)<|a_.lt hh)<|l_K h1.s lr) (hu.row 0 2 z)<|zap' (l_K lr s5.s)<|atp<|zin (B:=B) (d_ lr)<|d_ hp.lt) ?_;rintro _ ad ⟨s6,rfl⟩;refine Wx z (fun hci=>?_) (fun hci=>?_)
 ·refine Ws<|E z (f0 (α:=UInt8) I_) ?_
  rintro _ _ ⟨ae,af,ah,rfl,ai,aj⟩;refine Ra z<|Rw z ?_
  obtain rfl:=som<|ifT hmr hci;exact Wr<|F_ hr z z ⟨bup (bup (bM (bup (bup (bup h3 h2) G) h1) s5<|aa_ (m1 ha) an_) s6) ai,ae,af,ah,[ad.z],z,aj,a_e,m1<|lt_ hv s6.s⟩
 refine Wk<|Wm z<|R z (C_ z)<|Rf z f_w z<|R z (l0 J_ z<|(hu.e s6).at z)<|Ra z<|Rw z ?_
 obtain rfl:=som<|ifF hmr hci;exact Wr<|F_ hr z z ⟨bup (bM (bup (bup (bup h3 h2) G) h1) s5<|aa_ (m1 ha) an_) s6,a7,a8,a9,Sg,z,hh.e s6,aa,(or1 ht an_ (b_9 hf):∀k∈Sg,w0.z<=k)⟩
theorem W_w3q {x1:c_}{x2:Val}{res:(List UInt8)×Bool}(hm:g_g n x1 x2=some res)(I:B<=w0.z)(H:repS w0 B (sl A0 N0 C0) x1.rules)(W:inI x2.number)(Y:repS w0 B (sl AA NA CA) x2.bytes)(a0:repS w0 B (sl AF NF CF) x2.items):l_ prog 40 [(.agg #[sl A0 N0 C0]),(.agg #[vI x2.number,sl AA NA CA,sl AF NF CF])] w0 (Q11 w0 B res):=by
 unfold g_g at hm
 refine goG func40 z z z fun fn hr=>Ws<|E z (fb z) ?_
 rintro _ J ⟨rfl,h6⟩;have h2:=h6.below;refine E z (fb z) ?_;rintro _ wd ⟨rfl,L⟩;have h1:=L.below;refine Ra z<|Rw z<|Wq (Wd (X:=noX) 0 (.rd 0<|.rd 1<|.rd 3<|.ef 2<|.ef 4<|.rd 5<|.rd 6<|.rd 7<|.rd 8 .done) mo (by kernel_rfl) fun wr G _=>?_)
 have O:=((h6.blk:Blk J w0.z [sl A0 N0 C0]).e h1).e G;refine dR z z (lN (vs:=[sl A0 N0 C0]) w_ v_ z z fid<|O.row 0 1 z)<|dR z z (lN (vs:=[sl A0 N0 C0]) w_ v_ z z fid<|O.row 0 1 z)<|dR z z (lN (vs:=[vI x2.number,sl AA NA CA,sl AF NF CF]) i_ b_ z z fid<|((L.blk:Blk wd J.z [vI x2.number,sl AA NA CA,sl AF NF CF]).e G).row 0 3 z) ?_
 have V:=((h2.ag B).e h1).e G;have ha:=lt_ (lt_ h2.s h1.s) G.s;obtain ⟨_,eg,hmf⟩:=bdS hm;refine dE z z (fc call24 z<|e_6 eg (zt' I ha)<|H.g V) (.inr fun _ _ h=>o_<|h.1) ?_;rintro _ _ ⟨s3,rfl,hh⟩;have h4:=V.e s3;have hb:=lt_ ha s3.s;obtain ⟨_,_,ei,hmj⟩:=V_ hmf;refine dE z z (fc call66 z<|W_w3p ei (zt' I hb) (H.g h4) hh W (Y.g h4)<|a0.g h4) (.inr fun _ _ h=>o_<|h.1) ?_;rintro _ _ ⟨sk,al,nm,cn,So,rfl,hp,hq,ht⟩;refine dR z z (ext_ z z)<|dR z z (ext_ z z)<|dQ z z z<|dQ z z z<|pD<|Wo ?_
 obtain rfl:=som hmj;exact Wr<|F_ hr z z ⟨bup (bup (bup (bup h2 h1) G) s3) sk,al,nm,cn,So,z,hp,hq,j_ ht hb⟩
theorem W_w26 {x1:c_}{x2:List UInt8}{res:(List UInt8)×Bool}(hm:e_O n x1 x2=some res)(V:B<=w0.z)(hG:Gl w0 B)(O:repS w0 B (sl A0 N0 C0) x1.rules)(W:repS w0 B (sl A6 N6 C6) x2):l_ prog 22 [(.agg #[sl A0 N0 C0]),sl A6 N6 C6] w0 (Q11 w0 B res):=by
 unfold e_O at hm
 refine goG func22 z z z fun fn hr=>Ws<|E z (fb z) ?_
 rintro _ wm ⟨rfl,ha⟩;have G:=ha.below;have h4:Blk wm w0.z [sl A0 N0 C0]:=ha.blk;refine Ra z<|Rw z<|Ws<|R z (lN (vs:=[sl A0 N0 C0]) w_ v_ z z fid<|h4.row 0 1 z)<|Rm z ?_
 obtain ⟨rb,_,_,en,hmc⟩:=O_ hm;refine E z (fc call21 z<|j_m en (zt' V G.s) (hG.e G) (O.e G)<|W.e G) ?_;rintro _ I ⟨s3,ad,ne,cf,_,ah,ng,ci,_,rfl,ho,h6,J,_,_,_,_⟩;refine Rm z ?_
 iterate 3 refine Re z z z ?_
 refine E z (fa E_) ?_;rintro _ wp ⟨rfl,hj⟩;have h1:=hj.below;refine E0 (fs0 (cur':=[vI rb.number,sl ad ne cf,sl ah ng ci]) b_ z z (hj.blk:Blk wp I.z [vI 0,sl none 0 0,sl none 0 0]) z z z z) ?_;rintro _ wr ⟨ht,ss⟩;have h2:=ss.one;refine Ra z<|Rw z<|Wq<|Wm z<|R z (nq z z)<|Wx z (fun H=>?_) (fun H=>?_)
 ·refine Ws<|E z (f0 (α:=UInt8) I_) ?_
  rintro _ _ ⟨au,nv,cw,rfl,sx,hy⟩;refine Ra z<|Rw z ?_
  obtain rfl:=som<|ifT hmc H;have hk:=lt_ G.s s3.s;exact Wr<|F_ hr z z ⟨bup (bM (bup (bup G s3) h1) h2<|m1 hk) sx,au,nv,cw,[wr.z],z,hy,a_e,m1<|lt_ (lt_ hk h1.s) h2.s⟩
 refine Wk<|Ws<|R z (lN (vs:=[sl A0 N0 C0]) w_ v_ z z fid<|(((h4.e s3).e h1).c h2<|djs<|mm1 h4.lt s3.s).row 0 1 z)<|R z (lN (vs:=[vI rb.number,sl ad ne cf,sl ah ng ci]) i_ b_ z z fid<|ht.row 0 3 z) ?_
 have L:=lt_ G.s s3.s;have hl:=zt' V L;obtain ⟨_,_,a0,Y⟩:=V_<|ifF hmc H;refine E z (fc call40 z<|W_w3q (B:=I.z) a0 (M_<|lt_ h1.s h2.s) (repS.mono (O.g<|(((G.ag B).e s3).e h1).c h2<|e_ (or0 (d_ lr) (p_ hl):∀k∈[I.z],¬B k)) hl) ho (or_ ((h6.e h1).c h2<|ds<|mnr<|a_.lt h6)<|a_.lt h6)<|or_ ((J.e h1).c h2<|ds<|mnr<|a_.lt J)<|a_.lt J) ?_;rintro _ _ ⟨a1,a2,a3,a4,a5,rfl,a6,a7,a8⟩;refine Re z z z<|Re z z z<|Ra z<|Rw z ?_
 obtain rfl:=som Y;exact Wr<|F_ hr z z ⟨bup (bM (bup (bup G s3) h1) h2<|m1 L) a1,a2,a3,a4,a5,z,a6,a7,j_ a8<|lt_ (lt_ L h1.s) h2.s⟩
def Q26 (w0:World)(B:Zone)(r:c_A)(v:Value)(w':World):Prop:=Bw w0 w'/\(fun G=>∃H I J,(shV (sl H I J) G.1)=v/\repS w' w'.z (sl H I J) G.2) r
theorem W_w27 {x1:g_}{res:c_A}(hm:b_M x1=some res)(a1:B<=w0.z)(a2:x1.name.b.length<=LEN)(a3:inI x1.kind)(a4:inI x1.size)(a5:repS w0 B (sl AC NC CC) x1.bytes)(a0:repS w0 B (sl AB NB CB) x1.names)(a6:repS w0 B (sl AD ND CD) x1.tags)(a7:repS w0 B (sl AE NE CE) x1.kids):l_ prog 69 [(.agg #[Str.v x1.name,vI x1.kind,vI x1.size,vB x1.little,sl AC NC CC,sl AB NB CB,sl AD ND CD,sl AE NE CE])] w0 (Q26 w0 B res):=by
 unfold b_M at hm
 refine goG func69 z z z fun fn hr=>Ws<|E z (fb z) ?_
 rintro _ wg ⟨rfl,Y⟩;have G:=Y.below;have h9:Blk wg w0.z (vR x1 AC NC CC AB NB CB AD ND CD AE NE CE):=Y.blk;refine Rw z<|Wq<|Ws<|Rf z a_M z<|R z (l0 g_3 z<|h9.at z)<|Wn<|Wb<|Ws<|Rq z z z<|Rw z<|Wc z (fun H=>?_) (fun H=>?_)
 ·refine Ws<|R z (bP (parts:=[]) (cs:=[]) r_g z z)<|R z (c_Y d_104 (fun _ h=>by cases h) z)<|Rw z ?_
  obtain rfl:=som<|ifT hm H;exact Wr<|rtO<|f_ hr z ⟨G,none,0,0,z,repS.mono (or_ onL an_)<|M_ G.s⟩
 have hma:=ifF hm H;refine Ws<|Rq z z z<|Rw z<|Wc z (fun I=>?_) (fun I=>?_)
 ·refine Ws<|R z (bP (parts:=[]) (cs:=[]) r_h z z)<|R z (c_Y d_107 (fun _ h=>by cases h) z)<|Rw z ?_
  obtain rfl:=som<|ifT hma I;exact Wr<|rtO<|f_ hr z ⟨G,none,0,0,z,repS.mono (or_ onL an_)<|M_ G.s⟩
 have hmb:=ifF hma I;refine Ws<|Rq z z z<|Rw z<|Wc z (fun J=>?_) (fun J=>?_)
 ·refine Ws<|R z (bP (parts:=[]) (cs:=[]) r_i z z)<|R z (c_Y d_109 (fun _ h=>by cases h) z)<|Rw z ?_
  obtain rfl:=som<|ifT hmb J;exact Wr<|rtO<|f_ hr z ⟨G,none,0,0,z,repS.mono (or_ onL an_)<|M_ G.s⟩
 have hmc:=ifF hmb J;refine Ws<|Rq z z z<|Rw z<|Wc z (fun L=>?_) (fun L=>?_)
 ·refine Ws<|Rf z c_b z<|R z (l0 b_L z<|h9.at z)<|R z (bP (parts:=[(0,.tmp 20)]) (cs:=[sl AB NB CB]) r_j z z)<|R z (c_Y d_111 (fun _ h=>by cases h) z)<|Rw z ?_
  obtain rfl:=som<|ifT hmc L;exact Wr<|rtO<|f_ hr z ⟨G,AB,NB,CB,z,repS.mono (a0.e G)<|zt' a1 G.s⟩
 have hmd:=ifF hmc L;refine Ws<|Rq z z z<|Rw z<|Wc z (fun O=>?_) (fun O=>?_)
 ·refine Ws<|R z (bP (parts:=[]) (cs:=[]) r_k z z)<|R z (c_Y d_113 (fun _ h=>by cases h) z)<|Rw z ?_
  obtain rfl:=som<|ifT hmd O;exact Wr<|rtO<|f_ hr z ⟨G,none,0,0,z,repS.mono (or_ onL an_)<|M_ G.s⟩
 have hme:=ifF hmd O;refine Ws<|Rq z z z<|Rw z<|Wc z (fun V=>?_) (fun V=>?_)
 ·refine Ws<|R z (bP (parts:=[]) (cs:=[]) r_l z z)<|R z (c_Y d_116 (fun _ h=>by cases h) z)<|Rw z ?_
  obtain rfl:=som<|ifT hme V;exact Wr<|rtO<|f_ hr z ⟨G,none,0,0,z,repS.mono (or_ onL an_)<|M_ G.s⟩
 have hmf:=ifF hme V;refine Ws<|Rq z z z<|Rw z<|Wc z (fun W=>?_) (fun W=>?_)
 ·refine Ws<|R z (bP (parts:=[]) (cs:=[]) r_m z z)<|R z (c_Y d_117 (fun _ h=>by cases h) z)<|Rw z ?_
  obtain rfl:=som<|ifT hmf W;exact Wr<|rtO<|f_ hr z ⟨G,none,0,0,z,repS.mono (or_ onL an_)<|M_ G.s⟩
 refine Wk<|Ws<|R z (bP (parts:=[]) (cs:=[]) r_o z z)<|R z (c_Y d_160 (fun _ h=>by cases h) z)<|Rw z ?_
 obtain rfl:=som<|ifF hmf W;exact Wr<|f_ hr z ⟨G,none,0,0,z,repS.mono (or_ onL an_)<|M_ G.s⟩
theorem W_w28 {x1:Int}{res:Str}(hm:h_q x1=some res)(H:B<=w0.z)(hG:Gl w0 B)(G:inI x1):l_ prog 79 [vI x1] w0 (Q12 w0 B res):=by
 unfold h_q at hm
 refine goG func79 z z z fun fn hr=>Ws<|Rw z<|Wm z ?_
 obtain ⟨_,J,I⟩:=bdS hm;refine E z (fc call122 z<|q_P (B:=B) J H hG G) ?_;rintro _ _ ⟨s2,rfl,h3⟩;refine Rw z ?_
 obtain rfl:=som I;exact Wr<|f_ hr z ⟨s2,z,h3⟩
theorem W_w29 {x1:List Str}{x2:Str}{res:Str}(hm:f_y x1 x2=some res)(I:B<=w0.z)(G:repS w0 B (sl A0 N0 C0) x1)(H:x2.b.length<=LEN):l_ prog 80 [sl A0 N0 C0,Str.v x2] w0 (Q12 w0 B res):=by
 unfold f_y at hm
 refine goG func80 z z z fun fn hr=>Ws<|Rw z<|Wm z<|Rm z ?_
 obtain ⟨_,L,J⟩:=bdS hm;refine E z (fc call123 z<|q_R (B:=B) L I G H) ?_;rintro _ _ ⟨s2,rfl,h3⟩;refine Rw z ?_
 obtain rfl:=som J;exact Wr<|f_ hr z ⟨s2,z,h3⟩
theorem W_w3r {x1:Int}{x2:Str}{x3:Str}{x4:Str}{res:Str}(hm:j_d x1 x2 x3 x4=some res)(I:B<=w0.z)(hG:Gl w0 B)(H:inI x1)(a0:x2.b.length<=LEN)(a1:x3.b.length<=LEN)(a2:x4.b.length<=LEN):l_ prog 81 [vI x1,Str.v x2,Str.v x3,Str.v x4] w0 (Q12 w0 B res):=by
 unfold j_d at hm
 refine goG func81 z z z fun fn hr=>Ws<|Rw z<|Wm z ?_
 obtain ⟨_,W,J⟩:=bdS hm;refine E z (fc call79 z<|W_w28 (B:=B) W I hG H) ?_;rintro _ _ ⟨s3,rfl,_⟩;refine Rm z ?_;obtain ⟨_,Y,L⟩:=bdS J;refine R z (a_o z z Y)<|Rm z ?_
 obtain ⟨_,e6,O⟩:=bdS L;refine R z (a_o z z e6)<|Rm z ?_
 obtain ⟨_,G,V⟩:=bdS O;refine R z (a_o z z G)<|Rw z ?_
 obtain rfl:=som V;exact Wr<|f_ hr z ⟨s3,z,b_8 G⟩
theorem W_w3s {x1:List UInt8}{res:Str}(hm:h_w x1=some res)(a8:B<=w0.z)(L:repS w0 B (sl A0 N0 C0) x1):l_ prog 82 [sl A0 N0 C0] w0 (Q12 w0 B res):=by
 unfold h_w at hm
 refine goG func82 z z z fun fn hr=>Ws<|Rw z<|Wm z<|R z (lnR n_ z L)<|R z (d_p z z) ?_
 obtain ⟨_,ep,hmq⟩:=bdS hm;refine E z (l_y (α:=UInt8) I_ ep z z) ?_;rintro _ G ⟨ar,ns,ct,rfl,sa,hu⟩;refine Rw z<|Wq<|Wm z<|R z (lnR n_ z<|L.e sa)<|Rm z<|Wn ?_
 obtain ⟨_,huv,hmh⟩:=bdS hmq;refine Wf (σ:=List UInt8) (ρ:=Str) (fun (ki:Nat)(x5:List UInt8) a w=>∃a2 I J H,Sat 28 [(3,sl a2 I J),(10,sl A0 N0 C0),(11,vI (x1.length:Int)),(12,vI ((ki:Nat):Int))] a/\Chg (· ∈ [w0.z]) G w/\a_ w H (sl a2 I J) x5/\H.Nodup/\(∀k∈H,k∈[w0.z]∨G.z<=k)) (fun (x5:List UInt8) a w=>∃a2 I J H,Sat 28 [(3,sl a2 I J)] a/\Chg (· ∈ [w0.z]) G w/\a_ w H (sl a2 I J) x5/\H.Nodup/\(∀k∈H,k∈[w0.z]∨G.z<=k)) (rQ prog fn<|Q12 w0 B) huv ?_ ?_ ?_ ?_ ?_
 ·exact fun _ q=>⟨ar,ns,ct,[w0.z],q.k<|s4 z z z z,cr [w0.z] G,hu,a_e,io sr⟩
 ·rintro ki x5 _ ww _ hkj ⟨a2,I,J,H,hSx,sb,h6,O,V⟩ hmy;refine Wu ?_ hSx;refine Ws<|Rl z z z<|Wn<|Wq<|Wc z (fun _=>?_) (fun hc=>(a_0 hkj hc).elim)
  refine Wk<|Wq<|Wb<|Ws ?_
  obtain ⟨_,ez,Y⟩:=bdS hmy;refine RX z (at_ (α:=UInt8) n_ z_5 z z z (L.g<|(sa.ag B).c sb<|e_ (or0 (d_ lr) (p_ a8):∀k∈[w0.z],¬B k)) ez) ?_;rintro _ ⟨_,_,_,rfl,a9,aa,_⟩;obtain rfl:=u8 aa;refine R z (l0 g_5 z<|a9.at0 z)<|Ra z<|Wn (Wd (X:=noX) 256 (pl_ 10 [7,8]) mo (by kernel_rfl) fun W sc _=>dM z z z<|dM z z z<|dR z z (o_x z z ⟨by decide,by decide⟩) ?_)
  obtain ⟨xd,ek,a0⟩:=bdS Y;refine dR z z (b_a d_9 z z (a_4 ek).1 (a_4 ek).2.1)<|dM z z z<|dR z z (o_y (b:=(15:UInt8)) z z) ?_
  obtain ⟨xe,el,a1⟩:=bdS a0;refine dR z z (b_a d_9 z z (a_4 el).1 (a_4 el).2.1)<|dE z z (fS [(.tmp 19),(.tmp 22)] I_ z z z (a_J z) (lb z)<|lb z) (.inr fun _ _ h=>o_<|h.2.below) ?_
  rintro _ wf ⟨rfl,hn⟩;have hg:=hn.below;obtain ⟨ab,ad,a3⟩:=bdS a1;refine dE z z (fN (α:=UInt8) I_ ad z z ((h6.e sc).e hg) O<|a_.rep (n_w (l:=[xd,xe]) (hn.blk:Blk wf W.z [vU (byteI xd),vU<|byteI xe]) z:a_ wf [W.z] (sl (some ⟨W.z,0,none⟩) 2 2) [xd,xe])) (.inl z) ?_;rintro _ ae ⟨Sm,af,ah,ai,rfl,aj,ak,al,am⟩;refine dQ z z z<|pD<|Wo<|Wg<|R z (inc_ hkj (lt_ (repS.len L) G_) z z)<|Rm z<|Wl ?_
  have ho:∀k∈H,k∈[w0.z]∨G.z<=k:=or1 V (io sr)<|q_ lr;exact fun _ q=>⟨ab,(som a3).symm,⟨af,ah,ai,Sm,q.k<|s4 z z z z,(cM (k_ (k_ (cM (cr [w0.z] G) sb (io sr):Chg (· ∈ [w0.z]) G ww) sc:Chg (· ∈ [w0.z]) G W) hg:Chg (· ∈ [w0.z]) G wf) aj ho:Chg (· ∈ [w0.z]) G ae),ak,al,(or1 am ho (q_<|lt_ (lt_ sb.s sc.s) hg.s):∀k∈Sm,k∈[w0.z]∨G.z<=k)⟩⟩
 ·rintro x5 _ an ⟨a2,I,J,H,a4,ao,h6,O,V⟩;refine Wu ?_ a4;refine Ws<|Rl z z z<|Wn<|Wq<|Wc z (fun hc=>(a_1 hc).elim) (fun _=>?_)
  exact We<|fun _ q=>⟨rfl,⟨a2,I,J,H,q.k<|s1 z,(cM (cr [w0.z] G) ao (io sr):Chg (· ∈ [w0.z]) G an),h6,O,(or1 V (io sr) (q_ lr):∀k∈H,k∈[w0.z]∨G.z<=k)⟩⟩
 ·rintro x5 ap _ rfl ⟨a2,I,J,H,_,aq,h6,O,V⟩;have a5:=elL hmh;revert ap;refine Wo<|Wm z<|R z (i_i n_ d_9 d_5 z_5 z<|a_.rep h6)<|Rw z ?_
  obtain rfl:=som a5;exact Wr<|f_ hr z ⟨bM sa aq<|d_ lr,z,repS.len<|a_.rep h6⟩
 rintro _ _ _ _ rfl ⟨rfl,a6⟩;have a7:=elR hmh;obtain rfl:=som a7;exact ⟨a6,z⟩
structure l_1 (f:c_->Int->Val->Option Str):Prop where
  run:∀{A0 A5 A7:Option Addr}{N0 C0 N5 C5 N7 C7 b3 o3:Nat}{B:Zone}{x1:c_}{x2:Int}{x3:Val}{res:Str}{w0:World}(hm:f x1 x2 x3=some res)(hBw:B<=w0.z)(hG:Gl w0 B)(p1_0:repS w0 B (sl A0 N0 C0) x1.rules)(p2_0:inI x2)(p3_0:inI x3.number)(p3_1:repS w0 B (sl A5 N5 C5) x3.bytes)(p3_2:repS w0 B (sl A7 N7 C7) x3.items)(hC3:L_ w0 b3 o3 [vI x3.number,sl A5 N5 C5,sl A7 N7 C7])(hC3b:B b3),l_ prog 44 [(.agg #[sl A0 N0 C0]),vI x2,(.pointer<|some ⟨b3,o3,none⟩)] w0<|Q12 w0 B res
structure l_2 (f:Int->c_->Int->Val->Option Str):Prop where
  run:∀{A6 AI AJ:Option Addr}{N6 C6 b2 o2 b3 o3 NI CI NJ CJ b4_0 o4_0 b4 o4:Nat}{B:Zone}{x1:Int}{x2:c_}{x3:Int}{x4:Val}{res:Str}{w0:World}(hm:f x1 x2 x3 x4=some res)(hBw:B<=w0.z)(hG:Gl w0 B)(p1_0:inI x1)(p2_0:repS w0 B (sl A6 N6 C6) x2.rules)(hC2:L_ w0 b2 o2 [sl A6 N6 C6])(hC2b:B b2)(p3_0:inI x3)(hC3:L_ w0 b3 o3 [vI x3])(hC3b:B b3)(p4_0_0:inI x4.number)(p4_0_1:repS w0 B (sl AI NI CI) x4.bytes)(p4_0_2:repS w0 B (sl AJ NJ CJ) x4.items)(p4_0:L_ w0 b4_0 o4_0 [vI x4.number,sl AI NI CI,sl AJ NJ CJ])(p4_0b:B b4_0)(hC4:L_ w0 b4 o4 [(.pointer<|some ⟨b4_0,o4_0,none⟩)])(hC4b:B b4),l_ prog 78 [vI x1,.pointer<|some ⟨b2,o2,none⟩,.pointer<|some ⟨b3,o3,none⟩,(.pointer<|some ⟨b4,o4,none⟩)] w0<|Q12 w0 B res
abbrev l_3 (n:Nat):Prop:=l_1 (a_N n).impl_valueText/\l_2 (a_N n).impl_valueText_1
theorem T_w0f (ih:l_3 n):l_1 (a_T n<|a_N n):=by
 obtain ⟨_,aj⟩:=ih
 constructor
 intro A0 A5 A7 N0 C0 N5 C5 N7 C7 b3 o3 B x1 x2 x3 res w0 hm O hG a2 a9 a0 a3 V hC3 hC3b;unfold a_T at hm
 refine goG func44 z z z fun fn hr=>Ws<|E z (fb z) ?_
 rintro _ ap ⟨rfl,be⟩;have h4:=be.below;have he:Blk ap w0.z [sl A0 N0 C0]:=be.blk;refine E z (fb z) ?_;rintro _ ar ⟨rfl,bf⟩;have h2:=bf.below;have hf:Blk ar ap.z [vI x2]:=bf.blk;refine E z (fb z) ?_;rintro _ a4 ⟨rfl,bg⟩;have h1:=bg.below;have h5:Blk a4 ar.z [(.pointer<|some ⟨b3,o3,none⟩)]:=bg.blk;refine Rw z<|Ws<|R z (l_v z)<|Rw z<|Wq<|Ws<|Rf z a_9 z ?_
 have a5:=(he.e h2).e h1;refine R z (l0 a_b z<|a5.at z) ?_;have a6:=hf.e h1;refine R z (l0 g_3 z<|a6.at z) ?_;obtain ⟨cQ,cR,ca⟩:=bdS hm;have a1:=((h4.ag B).e h2).e h1;refine RX z (at_ (α:=g_) a_3 t_ z z z (a2.g a1) cR) ?_;rintro _ ⟨_,_,_,rfl,cS,cT,_⟩;obtain ⟨cU,cV,cW,cX,cY,cZ,d0,d1,d2,d3,d4,d5,rfl,d6,d7,d8,d9,da,db,dc⟩:=a_v cT;refine R z (lN (vs:=vR cQ cU cV cW cX cY cZ d0 d1 d2 d3 d4 d5) D_ t_ z z fid cS) ?_;have hj:=lt_ (lt_ h4.s h2.s) h1.s;have h3:=zt' O hj;obtain ⟨ry,dd,b0⟩:=bdS ca;refine E z (fc call69 z<|W_w27 (B:=B) dd h3 d6 d7 d8 d9 da db dc) ?_;rintro _ wa ⟨G,bh,bi,bj,rfl,au⟩;refine Wn<|Wb<|Ws ?_
 rcases bs (ry.1==1) with aa | aa
 ·refine R z (n_2 z aa)<|Re z z z<|Re z z z<|Wx z (fun _=>?_) (fun hc=>(a_w z hc).elim)
  refine Ws<|E z (fa r_u) ?_
  rintro _ de ⟨rfl,bk⟩;have ak:=bk.below;refine E0 (fs0 (cur':=[]) z_104 z z (bk.blk:Blk de wa.z []) z z z z) ?_;rintro _ _ ⟨_,df⟩;have am:=df.one;refine Wn<|Ws<|R z (l0 e_F z<|(((h5.e G).e ak).c am<|djs<|mm1 h5.lt G.s).at z)<|R z (C_ z)<|Rf z a_F z ?_
  have aD:=lt_ hj G.s;have bm:∀k∈[wa.z],¬B k:=or0 (d_ lr)<|p_<|zt' O aD;refine R z (l0 g_3 z<|((((((hC3.e h4).e h2).e h1).e G).e ak).c am<|(e_ bm) _ hC3b).at (j:=0) z) ?_;obtain ⟨_,dg,cb⟩:=bdS<|ifT b0 aa;refine E z (fc call79 z<|W_w28 dg (zt' O<|lt_ (lt_ aD ak.s) am.s) ((((((hG.e h4).e h2).e h1).e G).e ak).c am<|e_ bm) a0) ?_;rintro _ _ ⟨dh,rfl,di⟩;refine Rw z ?_
  obtain rfl:=som cb;exact Wr<|rtO<|f_ hr z ⟨bup (bM (bup (bup (bup (bup h4 h2) h1) G) ak) am<|m1 aD) dh,z,di⟩
 have b4:=ifF b0 aa;refine R z (n_3 z aa)<|Re z z z<|Re z z z<|Wx z (fun hc=>(a_w hc z).elim) (fun _=>?_)
 refine Ws ?_
 rcases bs (ry.1==2) with ab | ab
 ·refine R z (n_4 z ab)<|Re z z z<|Re z z z<|Wx z (fun _=>?_) (fun hc=>(a_w z hc).elim)
  refine Ws<|E z (fa r_v) ?_
  rintro _ dj ⟨rfl,bn⟩;refine E0 (fs0 (cur':=[]) z_107 z z (bn.blk:Blk dj wa.z []) z z z z) ?_;rintro _ _ ⟨_,dk⟩;refine Wn<|Ws<|Rw z ?_
  obtain rfl:=som<|ifT b4 ab;exact Wr<|rtO<|f_ hr z ⟨bM (bup (bup (bup (bup h4 h2) h1) G) bn.below) dk.one<|m1<|lt_ hj G.s,z,lb z⟩
 have b5:=ifF b4 ab;refine R z (n_5 z ab)<|Re z z z<|Re z z z<|Wx z (fun hc=>(a_w hc z).elim) (fun _=>?_)
 refine Ws ?_
 rcases bs (ry.1==5) with ad | ad
 ·refine R z (n_6 z ad)<|Re z z z<|Re z z z<|Wx z (fun _=>?_) (fun hc=>(a_w z hc).elim)
  refine Ws<|E z (fa r_w) ?_
  rintro _ dl ⟨rfl,bo⟩;have hh:=bo.below;refine E0 (fs0 (cur':=[]) z_109 z z (bo.blk:Blk dl wa.z []) z z z z) ?_;rintro _ H ⟨_,dm⟩;have hi:=dm.one;refine Wn<|Ws<|E z (f0 (α:=Str) e_G) ?_
  rintro _ J ⟨dn,dp,dq,rfl,sz,dr⟩;refine Rw z<|Wq<|Ws ?_
  have bp:=(((h5.e G).e hh).c hi<|djs<|mm1 h5.lt G.s).e sz;refine R z (l0 e_F z<|bp.at z)<|R z (C_ z)<|Rf z Q_ z ?_
  have av:=lt_ hj G.s;have aE:∀k∈[wa.z],¬B k:=or0 (d_ lr)<|p_<|zt' O av;have bq:=((((((hC3.e h4).e h2).e h1).e G).e hh).c hi<|(e_ aE) _ hC3b).e sz;refine R z (l0 X_ z<|bq.at (j:=2) z) ?_;have br:=(((a1.e G).e hh).c hi<|e_ aE).e sz;refine R z (lnR Y_ z<|V.g br)<|Rm z<|Wn ?_
  obtain ⟨_,cc,b6⟩:=bdS<|ifT b5 ad;refine Wf (σ:=List Str) (ρ:=Str) (fun (bt:Nat)(a7:List Str) a w=>∃al nn co Sc,Sat 122 [(7,.func (.func 78) #[] #[pt w0.z,pt ap.z,pt ar.z]),(11,sl al nn co),(46,vI (x3.items.length:Int)),(47,vI ((bt:Nat):Int))] a/\Chg (· ∈ [H.z]) J w/\a_ w Sc (sl al nn co) a7/\Sc.Nodup/\(∀k∈Sc,k∈[H.z]∨J.z<=k)) (fun (a7:List Str) a w=>∃al nn co Sc,Sat 122 [(11,sl al nn co)] a/\Chg (· ∈ [H.z]) J w/\a_ w Sc (sl al nn co) a7/\Sc.Nodup/\(∀k∈Sc,k∈[H.z]∨J.z<=k)) (rQ prog fn<|Q12 w0 B) cc ?_ ?_ ?_ ?_ ?_
  ·exact fun _ q=>⟨dn,dp,dq,[H.z],q.k<|s4 z z z z,cr [H.z] J,dr,a_e,io sr⟩
  ·rintro bt a7 _ ds _ aA ⟨al,nn,co,Sc,cd,sp,an,aw,ax⟩ ce;refine Wu ?_ cd;refine Ws<|Rl z z z<|Wn<|Wq<|Wc z (fun _=>?_) (fun hc=>(a_0 aA hc).elim)
   refine Wk<|Wq<|Wb<|Wm z<|Rw z<|Wg<|RM z z<|Rm z ?_
   have bu:=lt_ h2.s h1.s;have bv:=lt_ bu G.s;have aF:∀k∈[H.z],¬B k:=or0 (d_ lr)<|p_<|zt' O<|lt_ (lt_ av hh.s) hi.s;have aG:=br.c sp<|e_ aF
   have bw:=lt_ h1.s G.s;have bx:=lt_ (lt_ G.s hh.s) hi.s;obtain ⟨dt,du,cf⟩:=bdS ce;refine E z (c_V call78 z z<|aj.run (B:=a4.z) du (M_<|lt_ (lt_ bx sz.s) sp.s) (((((((((hG.e h4).e h2).e h1).e G).e hh).c hi<|e_ aE).e sz).c sp<|e_ aF).mono h3) (ic (Nat.le_of_lt aA)<|lt_ (repS.len V) G_) (repS.mono (a2.g aG) h3) ((((((a5.e G).e hh).c hi<|djs<|mm1 he.lt bv).e sz).c sp<|djs<|mm1 he.lt<|lt_ (lt_ bv hh.s) hi.s).row 0 1 z) (zap' (M_ bu) he.lt) a9 ((((((a6.e G).e hh).c hi<|djs<|mm1 hf.lt bw).e sz).c sp<|djs<|mm1 hf.lt<|lt_ (lt_ bw hh.s) hi.s).row 0 1 z) (zap' (M_ h1.s) hf.lt) a0 (repS.mono (a3.g aG) h3) (repS.mono (V.g aG) h3) (bq.c sp<|(e_ aF) _ hC3b) (zap' h3 hC3b) ((bp.c sp<|djs<|mm1 h5.lt bx).row 0 1 z) h5.lt) ?_;rintro _ bz ⟨aH,rfl,bA⟩;refine E z (fS [(.tmp 53)] e_G z z z (a_J z) (lb z)<|lb z) ?_;rintro _ bB ⟨rfl,aI⟩;have aJ:=aI.below;have eL:=b_0 aI<|e_d bA
   obtain ⟨dv,dw,cg⟩:=bdS cf;refine E z (b_i (α:=Str) e_G dw z z ((an.e aH).e aJ) aw (aI.blk:Blk bB bz.z [Str.v dt]) (e_d bA) an_ K_) ?_;rintro _ dx ⟨bC,dy,dz,dA,rfl,dB,dC,dD,dF⟩;refine Rw z<|Wg<|R z (inc_ aA (lt_ (repS.len V) G_) z z)<|Rm z<|Wl ?_
   have bD:∀k∈Sc,k∈[H.z]∨J.z<=k:=or1 ax (io sr)<|q_ lr;exact fun _ q=>⟨dv,(som cg).symm,⟨dy,dz,dA,bC,q.k<|s4 z z z z,(cM (k_ (k_ (cM (cr [H.z] J) sp (io sr):Chg (· ∈ [H.z]) J ds) aH:Chg (· ∈ [H.z]) J bz) aJ:Chg (· ∈ [H.z]) J bB) dB bD:Chg (· ∈ [H.z]) J dx),dC,dD,(or2 dF bD an_ (q_<|lt_ (lt_ sp.s aH.s) aJ.s):∀k∈bC,k∈[H.z]∨J.z<=k)⟩⟩
  ·rintro a7 _ dG ⟨al,nn,co,Sc,ch,dH,an,aw,ax⟩;refine Wu ?_ ch;refine Ws<|Rl z z z<|Wn<|Wq<|Wc z (fun hc=>(a_1 hc).elim) (fun _=>?_)
   exact We<|fun _ q=>⟨rfl,⟨al,nn,co,Sc,q.k<|s1 z,(cM (cr [H.z] J) dH (io sr):Chg (· ∈ [H.z]) J dG),an,aw,(or1 ax (io sr) (q_ lr):∀k∈Sc,k∈[H.z]∨J.z<=k)⟩⟩
  ·rintro a7 dI dJ rfl ⟨al,nn,co,Sc,_,dK,an,aw,ax⟩;have ci:=elL b6;revert dI;refine Wo<|Wm z ?_
   obtain ⟨_,dL,cj⟩:=bdS ci;refine E z (fc call80 z<|W_w29 (B:=dJ.z) dL zr (a_.rep an)<|lb z) ?_;rintro _ _ ⟨dN,rfl,_⟩;obtain ⟨_,dO,ck⟩:=bdS cj;refine R z (a_o z z dO) ?_;obtain ⟨_,bE,cl⟩:=bdS ck;refine R z (a_o z z bE)<|Rw z ?_
   obtain rfl:=som cl;exact Wr<|rtO<|f_ hr z ⟨bup (bM (bup (bM (bup (bup (bup (bup h4 h2) h1) G) hh) hi<|m1 av) sz) dK<|m1<|lt_ (lt_ av hh.s) hi.s) dN,z,b_8 bE⟩
  rintro _ _ _ _ rfl ⟨rfl,cm⟩;have cn:=elR b6;obtain rfl:=som cn;exact ⟨cm,z⟩
 have b7:=ifF b5 ad;refine R z (n_7 z ad)<|Re z z z<|Re z z z<|Wx z (fun hc=>(a_w hc z).elim) (fun _=>?_)
 refine Ws ?_
 rcases bs (ry.1==6) with ae | ae
 ·refine R z (n_8 z ae)<|Re z z z<|Re z z z<|Wx z (fun _=>?_) (fun hc=>(a_w z hc).elim)
  refine Ws<|E z (fa r_x) ?_
  rintro _ dP ⟨rfl,bF⟩;have hb:=bF.below;refine E0 (fs0 (cur':=[sl bh bi bj]) z_111 z z (bF.blk:Blk dP wa.z [sl none 0 0]) z z z z) ?_;rintro _ I ⟨dS,dT⟩;have hd:=dT.one;refine Wn<|Ws<|E z (f0 (α:=Str) e_G) ?_
  rintro _ L ⟨dU,dV,dW,rfl,sk,dX⟩;refine Rw z<|Wq<|Ws<|Rf z r_t z<|R z (l0 b_L z<|(dS.e sk).at z) ?_
  have bG:=((hb.ag<|bl wa.z).c hd<|lg<|d_ lr).e sk;refine R z (lnR a_d z<|au.g bG)<|Rm z<|Wn ?_
  obtain ⟨_,cp,b8⟩:=bdS<|ifT b7 ae;refine Wf (σ:=List Str) (ρ:=Str) (fun (bH:Nat)(a8:List Str) a w=>∃aq nr cs Sg,Sat 122 [(7,.func (.func 78) #[] #[pt w0.z,pt ap.z,pt ar.z]),(14,sl aq nr cs),(66,sl bh bi bj),(67,vI (ry.2.length:Int)),(68,vI ((bH:Nat):Int))] a/\Chg (· ∈ [I.z]) L w/\a_ w Sg (sl aq nr cs) a8/\Sg.Nodup/\(∀k∈Sg,k∈[I.z]∨L.z<=k)) (fun (a8:List Str) a w=>∃aq nr cs Sg,Sat 122 [(14,sl aq nr cs)] a/\Chg (· ∈ [I.z]) L w/\a_ w Sg (sl aq nr cs) a8/\Sg.Nodup/\(∀k∈Sg,k∈[I.z]∨L.z<=k)) (rQ prog fn<|Q12 w0 B) cp ?_ ?_ ?_ ?_ ?_
  ·exact fun _ q=>⟨dU,dV,dW,[I.z],q.k<|s5 z z z z z,cr [I.z] L,dX,a_e,io sr⟩
  ·rintro bH a8 _ dY _ aB ⟨aq,nr,cs,Sg,cq,sm,ao,ay,az⟩ ct;refine Wu ?_ cq;refine Ws<|Rl z z z<|Wn<|Wq<|Wc z (fun _=>?_) (fun hc=>(a_0 aB hc).elim)
   refine Wk<|Wq<|Wb<|Wm z ?_
   obtain ⟨_,dZ,cu⟩:=bdS ct;refine RX z (at_ (α:=Str) a_d z_9 z z z (au.g<|bG.c sm<|lg<|m1<|lt_ hb.s hd.s) dZ) ?_;rintro _ ⟨_,_,_,rfl,e0,e1,_⟩;obtain ⟨rfl,_⟩:=b_P e1;refine R z (l0 g_9 z<|e0.at0 z)<|Ra z<|Rw z<|Wg<|RM z z ?_
   obtain ⟨_,e2,cv⟩:=bdS cu;refine R z (a_o z z e2)<|RM z z ?_
   have bI:=lt_ h2.s h1.s;have bJ:=lt_ bI G.s;have bK:=lt_ hj G.s;have aK:∀k∈[wa.z],¬B k:=or0 (d_ lr)<|p_<|zt' O bK;have aL:∀k∈[I.z],¬B k:=or0 (d_ lr)<|p_<|zt' O<|lt_ (lt_ bK hb.s) hd.s;have aM:=((((a1.e G).e hb).c hd<|e_ aK).e sk).c sm<|e_ aL
   have bL:=lt_ h1.s G.s;have bN:=lt_ (lt_ G.s hb.s) hd.s;obtain ⟨_,e3,cw⟩:=bdS cv;refine E z (c_V call78 z z<|aj.run (B:=a4.z) e3 (M_<|lt_ (lt_ bN sk.s) sm.s) (((((((((hG.e h4).e h2).e h1).e G).e hb).c hd<|e_ aK).e sk).c sm<|e_ aL).mono h3) (ic (Nat.le_of_lt aB)<|lt_ (repS.len au) G_) (repS.mono (a2.g aM) h3) ((((((a5.e G).e hb).c hd<|djs<|mm1 he.lt bJ).e sk).c sm<|djs<|mm1 he.lt<|lt_ (lt_ bJ hb.s) hd.s).row 0 1 z) (zap' (M_ bI) he.lt) a9 ((((((a6.e G).e hb).c hd<|djs<|mm1 hf.lt bL).e sk).c sm<|djs<|mm1 hf.lt<|lt_ (lt_ bL hb.s) hd.s).row 0 1 z) (zap' (M_ h1.s) hf.lt) a0 (repS.mono (a3.g aM) h3) (repS.mono (V.g aM) h3) ((((((((hC3.e h4).e h2).e h1).e G).e hb).c hd<|(e_ aK) _ hC3b).e sk).c sm<|(e_ aL) _ hC3b) (zap' h3 hC3b) ((((((h5.e G).e hb).c hd<|djs<|mm1 h5.lt G.s).e sk).c sm<|djs<|mm1 h5.lt bN).row 0 1 z) h5.lt) ?_;rintro _ bO ⟨aN,rfl,_⟩;obtain ⟨e4,aO,cx⟩:=bdS cw;refine R z (a_o z z aO)<|E z (fS [(.tmp 79)] e_G z z z (a_J z) (lb z)<|lb z) ?_
   rintro _ bP ⟨rfl,aP⟩;have aQ:=aP.below;have eJ:=b_0 aP<|e_d<|b_8 aO
   obtain ⟨e5,e6,cy⟩:=bdS cx;refine E z (b_i (α:=Str) e_G e6 z z ((ao.e aN).e aQ) ay (aP.blk:Blk bP bO.z [Str.v e4]) (e_d<|b_8 aO) an_ K_) ?_;rintro _ e7 ⟨bQ,e8,e9,ea,rfl,eb,ec,ed,ee⟩;refine Rw z<|Wg<|R z (inc_ aB (lt_ (repS.len au) G_) z z)<|Rm z<|Wl ?_
   have bR:∀k∈Sg,k∈[I.z]∨L.z<=k:=or1 az (io sr)<|q_ lr;exact fun _ q=>⟨e5,(som cy).symm,⟨e8,e9,ea,bQ,q.k<|s5 z z z z z,(cM (k_ (k_ (cM (cr [I.z] L) sm (io sr):Chg (· ∈ [I.z]) L dY) aN:Chg (· ∈ [I.z]) L bO) aQ:Chg (· ∈ [I.z]) L bP) eb bR:Chg (· ∈ [I.z]) L e7),ec,ed,(or2 ee bR an_ (q_<|lt_ (lt_ sm.s aN.s) aQ.s):∀k∈bQ,k∈[I.z]∨L.z<=k)⟩⟩
  ·rintro a8 _ ef ⟨aq,nr,cs,Sg,cz,eg,ao,ay,az⟩;refine Wu ?_ cz;refine Ws<|Rl z z z<|Wn<|Wq<|Wc z (fun hc=>(a_1 hc).elim) (fun _=>?_)
   exact We<|fun _ q=>⟨rfl,⟨aq,nr,cs,Sg,q.k<|s1 z,(cM (cr [I.z] L) eg (io sr):Chg (· ∈ [I.z]) L ef),ao,ay,(or1 az (io sr) (q_ lr):∀k∈Sg,k∈[I.z]∨L.z<=k)⟩⟩
  ·rintro a8 eh ei rfl ⟨aq,nr,cs,Sg,_,ej,ao,ay,az⟩;have cA:=elL b8;revert eh;refine Wo<|Wm z ?_
   obtain ⟨_,ek,cB⟩:=bdS cA;refine E z (fc call80 z<|W_w29 (B:=ei.z) ek zr (a_.rep ao)<|lb z) ?_;rintro _ _ ⟨em,rfl,_⟩;obtain ⟨_,en,cC⟩:=bdS cB;refine R z (a_o z z en) ?_;obtain ⟨_,bS,cD⟩:=bdS cC;refine R z (a_o z z bS)<|Rw z ?_
   obtain rfl:=som cD;have bT:=lt_ hj G.s;exact Wr<|rtO<|f_ hr z ⟨bup (bM (bup (bM (bup (bup (bup (bup h4 h2) h1) G) hb) hd<|m1 bT) sk) ej<|m1<|lt_ (lt_ bT hb.s) hd.s) em,z,b_8 bS⟩
  rintro _ _ _ _ rfl ⟨rfl,cE⟩;have cF:=elR b8;obtain rfl:=som cF;exact ⟨cE,z⟩
 have b9:=ifF b7 ae;refine R z (n_9 z ae)<|Re z z z<|Re z z z<|Wx z (fun hc=>(a_w hc z).elim) (fun _=>?_)
 refine Ws ?_
 rcases bs (ry.1==7) with af | af
 ·refine R z (n_a z af)<|Re z z z<|Re z z z<|Wx z (fun _=>?_) (fun hc=>(a_w z hc).elim)
  refine Ws<|E z (fa r_y) ?_
  rintro _ eo ⟨rfl,bU⟩;have ht:=bU.below;refine E0 (fs0 (cur':=[]) z_113 z z (bU.blk:Blk eo wa.z []) z z z z) ?_;rintro _ _ ⟨_,ep⟩;have hu:=ep.one;refine Wn<|Wq (Wd (X:=noX) 0 (pl_ 8 [5,6]) mo (by kernel_rfl) fun eK sv _=>?_)
  have bV:=(((h5.e G).e ht).c hu<|djs<|mm1 h5.lt G.s).e sv;refine dR z z (l0 e_F z<|bV.at z)<|dR z z (C_ z)<|dR z z (fd a_F z) ?_
  have aR:=lt_ hj G.s;have aS:∀k∈[wa.z],¬B k:=or0 (d_ lr)<|p_<|zt' O aR;have bW:=((((((hC3.e h4).e h2).e h1).e G).e ht).c hu<|(e_ aS) _ hC3b).e sv;refine dR z z (l0 g_3 z<|bW.at (j:=0) z)<|dM z z z ?_
  have bX:=lt_ h2.s h1.s;have aT:=(((a1.e G).e ht).c hu<|e_ aS).e sv;have bY:=((((((hG.e h4).e h2).e h1).e G).e ht).c hu<|e_ aS).e sv;obtain ⟨_,er,cG⟩:=bdS<|ifT b9 af;refine dE z z (c_V call78 z z<|aj.run (B:=a4.z) er (M_<|lt_ (lt_ (lt_ G.s ht.s) hu.s) sv.s) (bY.mono h3) (ii z) (repS.mono (a2.g aT) h3) (((((a5.e G).e ht).c hu<|djs<|mm1 he.lt<|lt_ bX G.s).e sv).row 0 1 z) (zap' (M_ bX) he.lt) a9 (((((a6.e G).e ht).c hu<|djs<|mm1 hf.lt<|lt_ h1.s G.s).e sv).row 0 1 z) (zap' (M_ h1.s) hf.lt) a0 (repS.mono (a3.g aT) h3) (repS.mono (V.g aT) h3) bW (zap' h3 hC3b) (bV.row 0 1 z) h5.lt) (.inr fun _ _ h=>o_<|h.1) ?_;rintro _ _ ⟨aU,rfl,es⟩;obtain ⟨_,eu,cH⟩:=bdS cG;refine dE z z (fc call81 z<|W_w3r eu (zt' O<|lt_ (lt_ (lt_ (lt_ aR ht.s) hu.s) sv.s) aU.s) (bY.e aU) a0 (lb z) es<|lb z) (.inr fun _ _ h=>o_<|h.1) ?_;rintro _ _ ⟨ew,rfl,ex⟩;refine dQ z z z<|pD<|Wo ?_
  obtain rfl:=som cH;exact Wr<|rtO<|f_ hr z ⟨bup (bup (bup (bM (bup (bup (bup (bup h4 h2) h1) G) ht) hu<|m1 aR) sv) aU) ew,z,ex⟩
 have ba:=ifF b9 af;refine R z (n_b z af)<|Re z z z<|Re z z z<|Wx z (fun hc=>(a_w hc z).elim) (fun _=>?_)
 refine Ws ?_
 rcases bs (ry.1==8) with ah | ah
 ·have bb:=ifT ba ah;refine R z (n_c z ah)<|Re z z z<|Re z z z<|Wx z (fun _=>?_) (fun hc=>(a_w z hc).elim)
  refine Ws<|E z (fa r_z) ?_
  rintro _ ey ⟨rfl,bZ⟩;have hw:=bZ.below;refine E0 (fs0 (cur':=[]) z_116 z z (bZ.blk:Blk ey wa.z []) z z z z) ?_;rintro _ _ ⟨_,ez⟩;have hx:=ez.one;refine Wn<|Wq<|Ws ?_
  have c0:=((h5.e G).e hw).c hx<|djs<|mm1 h5.lt G.s
  refine R z (l0 e_F z<|c0.at z)<|R z (C_ z)<|Rf z Q_ z ?_
  have aV:=lt_ hj G.s;have aW:∀k∈[wa.z],¬B k:=or0 (d_ lr)<|p_<|zt' O aV;have c1:=(((((hC3.e h4).e h2).e h1).e G).e hw).c hx<|(e_ aW) _ hC3b
  refine R z (l0 X_ z<|c1.at (j:=2) z) ?_;have aX:=((a1.e G).e hw).c hx<|e_ aW
  have c2:=V.g aX;refine R z (lnR Y_ z c2)<|Rq z z z<|Wx z (fun aC=>?_) (fun aC=>?_)
  ·refine Ws<|Rw z ?_
   obtain rfl:=som<|ifT bb aC;exact Wr<|rtO<|f_ hr z ⟨bM (bup (bup (bup (bup h4 h2) h1) G) hw) hx<|m1 aV,z,lb z⟩
  refine Wk<|Wm z ?_
  have c3:=lt_ h2.s h1.s;obtain ⟨_,eA,cI⟩:=bdS<|ifF bb aC;refine E z (c_V call78 z z<|aj.run (B:=a4.z) eA (M_<|lt_ (lt_ G.s hw.s) hx.s) (((((((hG.e h4).e h2).e h1).e G).e hw).c hx<|e_ aW).mono h3) (ii z) (repS.mono (a2.g aX) h3) ((((a5.e G).e hw).c hx<|djs<|mm1 he.lt<|lt_ c3 G.s).row 0 1 z) (zap' (M_ c3) he.lt) a9 ((((a6.e G).e hw).c hx<|djs<|mm1 hf.lt<|lt_ h1.s G.s).row 0 1 z) (zap' (M_ h1.s) hf.lt) a0 (repS.mono (a3.g aX) h3) (repS.mono c2 h3) c1 (zap' h3 hC3b) (c0.row 0 1 z) h5.lt) ?_;rintro _ _ ⟨eB,rfl,_⟩;obtain ⟨_,c4,cJ⟩:=bdS cI;refine R z (a_o z z c4)<|Rw z ?_
  obtain rfl:=som cJ;exact Wr<|rtO<|f_ hr z ⟨bup (bM (bup (bup (bup (bup h4 h2) h1) G) hw) hx<|m1 aV) eB,z,b_8 c4⟩
 have bc:=ifF ba ah;refine R z (n_d z ah)<|Re z z z<|Re z z z<|Wx z (fun hc=>(a_w hc z).elim) (fun _=>?_)
 refine Ws ?_
 rcases bs (ry.1==9) with ai | ai
 ·refine R z (n_e z ai)<|Re z z z<|Re z z z<|Wx z (fun _=>?_) (fun hc=>(a_w z hc).elim)
  refine Ws<|E z (fa r_A) ?_
  rintro _ eC ⟨rfl,c5⟩;have W:=c5.below;refine E0 (fs0 (cur':=[]) z_117 z z (c5.blk:Blk eC wa.z []) z z z z) ?_;rintro _ _ ⟨_,eD⟩;have Y:=eD.one;refine Wn<|Wm z ?_
  have c6:=lt_ h2.s h1.s;have c7:=lt_ hj G.s;have aY:∀k∈[wa.z],¬B k:=or0 (d_ lr)<|p_<|zt' O c7;have aZ:=((a1.e G).e W).c Y<|e_ aY
  obtain ⟨_,eE,cK⟩:=bdS<|ifT bc ai;refine E z (c_V call78 z z<|aj.run (B:=a4.z) eE (M_<|lt_ (lt_ G.s W.s) Y.s) (((((((hG.e h4).e h2).e h1).e G).e W).c Y<|e_ aY).mono h3) (ii z) (repS.mono (a2.g aZ) h3) ((((a5.e G).e W).c Y<|djs<|mm1 he.lt<|lt_ c6 G.s).row 0 1 z) (zap' (M_ c6) he.lt) a9 ((((a6.e G).e W).c Y<|djs<|mm1 hf.lt<|lt_ h1.s G.s).row 0 1 z) (zap' (M_ h1.s) hf.lt) a0 (repS.mono (a3.g aZ) h3) (repS.mono (V.g aZ) h3) ((((((hC3.e h4).e h2).e h1).e G).e W).c Y<|(e_ aY) _ hC3b) (zap' h3 hC3b) ((((h5.e G).e W).c Y<|djs<|mm1 h5.lt G.s).row 0 1 z) h5.lt) ?_;rintro _ _ ⟨eF,rfl,_⟩;obtain ⟨_,eG,cL⟩:=bdS cK;refine R z (a_o z z eG) ?_;obtain ⟨_,c8,cN⟩:=bdS cL;refine R z (a_o z z c8)<|Rw z ?_
  obtain rfl:=som cN;exact Wr<|rtO<|f_ hr z ⟨bup (bM (bup (bup (bup (bup h4 h2) h1) G) W) Y<|m1 c7) eF,z,b_8 c8⟩
 refine R z (n_f z ai)<|Re z z z<|Re z z z<|Wx z (fun hc=>(a_w hc z).elim) (fun _=>?_)
 refine Wk<|Ws<|R z (l0 e_F z<|(h5.e G).at z)<|R z (C_ z)<|Rf z a_B z<|R z (l0 J_ z<|((((hC3.e h4).e h2).e h1).e G).at (j:=1) z) ?_
 obtain ⟨_,eH,cO⟩:=bdS<|ifF bc ai;refine E z (fc call82 z<|W_w3s eH (zt' O<|lt_ hj G.s)<|a3.g<|a1.e G) ?_;rintro _ _ ⟨eI,rfl,_⟩;obtain ⟨_,c9,cP⟩:=bdS cO;refine R z (a_o z z c9)<|Rw z ?_
 obtain rfl:=som cP;exact Wr<|f_ hr z ⟨bup (bup (bup (bup h4 h2) h1) G) eI,z,b_8 c9⟩
theorem T_w2a (ih:l_3 n):l_2 (h_x n<|a_N n):=by
 obtain ⟨V,_⟩:=ih
 constructor
 intro A6 AI AJ N6 C6 b2 o2 b3 o3 NI CI NJ CJ b4_0 o4_0 b4 o4 B x1 x2 x3 x4 res w0 hm I hG J H hC2 hC2b L hC3 hC3b p4_0_0 p4_0_1 p4_0_2 O p4_0b hC4 hC4b;unfold h_x at hm
 refine goG func78 z z z fun fn hr=>Ws<|Rw z<|Wq (Wd (X:=noX) 0 (.rd 0<|.rd 1<|.rd 2<|.rd 3<|.rd 4<|.rd 6<|.rd 7<|.rd 8<|.rd 9<|.rd 10<|.rd 11<|.ef 5<|.ef 12<|.rd 13 .done) mo (by kernel_rfl) fun wl G _=>?_)
 have h2:=hC2.e G;refine dR z z (lN (vs:=[sl A6 N6 C6]) w_ v_ z z fid h2)<|dR z z (lN (vs:=[sl A6 N6 C6]) w_ v_ z z fid h2)<|dR z z (l0 g_3 z<|(hC3.e G).at0 z) ?_
 have h3:=hC4.e G;refine dR z z (l0 e_F z<|h3.at0 z)<|dM z z z<|dR z z (l0 e_F z<|h3.at0 z)<|dR z z (C_ z)<|dR z z (fd Q_ z) ?_
 have h4:=O.e G;refine dR z z (l0 X_ z<|h4.at (j:=2) z)<|dM z z z ?_
 obtain ⟨_,Y,W⟩:=bdS hm;have h5:=p4_0_2.e G;refine dRX z z (at_ (α:=Val) Y_ b_ z z z h5 Y) ?_;rintro _ ⟨_,_,_,rfl,h8,h9,ha⟩;obtain ⟨_,_,_,_,_,_,rfl,hb,hc,hd⟩:=d_f h9;obtain ⟨_,ee,hmf⟩:=bdS W;refine dE z z (fc call75 z<|j_n ee (zt' I G.s) (H.e G) L p4_0_0 (p4_0_1.e G) h5 h4 p4_0b J) (.inr fun _ _ h=>o_<|h.1) ?_;rintro _ _ ⟨s1,rfl,hg⟩;obtain ⟨_,eh,hmi⟩:=bdS hmf;refine dE z z (fc call44 z<|V.run eh (zt' I<|lt_ G.s s1.s) ((hG.e G).e s1) (H.g<|(G.ag B).e s1) hg hb (hc.e s1) (hd.e s1) (h8.e s1) ha) (.inr fun _ _ h=>o_<|h.1) ?_;rintro _ _ ⟨sj,rfl,hk⟩;refine dQ z z z<|pD<|Wo ?_
 obtain rfl:=som hmi;exact Wr<|f_ hr z ⟨bup (bup G s1) sj,z,hk⟩
theorem j_q:∀n,l_3 n
  | 0=>⟨⟨fun hm=>by intros;exact nomatch (show none=some _ from hm)⟩,⟨fun hm=>by intros;exact nomatch (show none=some _ from hm)⟩⟩
  | n+1=>⟨T_w0f<|j_q n,T_w2a<|j_q n⟩
theorem W_w0f:l_1 (a_N n).impl_valueText:=(j_q n).1
theorem W_w2a:l_2 (a_N n).impl_valueText_1:=(j_q n).2
theorem h_B {x1:c_}{x2:Int}{x3:Val}{res:Str}(hm:e_I n x1 x2 x3=some res)(a0:B<=w0.z)(hG:Gl w0 B)(J:repS w0 B (sl A0 N0 C0) x1.rules)(L:inI x2)(O:inI x3.number)(V:repS w0 B (sl A5 N5 C5) x3.bytes)(W:repS w0 B (sl A7 N7 C7) x3.items):l_ prog 25 [(.agg #[sl A0 N0 C0]),vI x2,(.agg #[vI x3.number,sl A5 N5 C5,sl A7 N7 C7])] w0 (Q12 w0 B res):=by
 unfold e_I at hm
 refine goG func25 z z z fun fn hr=>Ws<|E z (fb z) ?_
 rintro _ Y ⟨rfl,h9⟩;have h2:=h9.below;refine E z (fb z) ?_;rintro _ wa ⟨rfl,hb⟩;have h1:=hb.below;have h5:Blk wa Y.z [vI x3.number,sl A5 N5 C5,sl A7 N7 C7]:=hb.blk;refine Rw z<|Wq<|Ws ?_
 have hc:=(h9.blk:Blk Y w0.z [sl A0 N0 C0]).e h1;refine R z (lN (vs:=[sl A0 N0 C0]) w_ v_ z z fid<|hc.row 0 1 z)<|Rm z<|R z (lN (vs:=[vI x3.number,sl A5 N5 C5,sl A7 N7 C7]) i_ b_ z z fid<|h5.row 0 3 z) ?_
 have h4:=(h2.ag B).e h1;have h3:=zt' a0<|lt_ h2.s h1.s
 obtain ⟨_,ef,hmd⟩:=bdS hm;refine E z (fc call43 z<|W_w22 (B:=B) ef h3 (J.g h4) L O (V.g h4)<|W.g h4) ?_;rintro _ _ ⟨G,rfl⟩;refine R z (not_ z)<|Wx z (fun H=>?_) (fun H=>?_)
 ·refine Ws<|Rw z ?_
  obtain rfl:=som<|ifT hmd H;exact Wr<|f_ hr z ⟨bup (bup h2 h1) G,z,lb z⟩
 refine Wk<|Ws<|R z (lN (vs:=[sl A0 N0 C0]) w_ v_ z z fid<|(hc.e G).row 0 1 z)<|Rm z ?_
 have I:=h4.e G;obtain ⟨_,eg,hmh⟩:=bdS<|ifF hmd H;refine E z (fc call44 z<|W_w0f.run (B:=wa.z) eg (M_ G.s) ((((hG.e h2).e h1).e G).mono h3) (repS.mono (J.g I) h3) L O (repS.mono (V.g I) h3) (repS.mono (W.g I) h3) ((h5.e G).row 0 3 z) h5.lt) ?_;rintro _ _ ⟨si,rfl,hj⟩;refine Rw z ?_
 obtain rfl:=som hmh;exact Wr<|f_ hr z ⟨bup (bup (bup h2 h1) G) si,z,hj⟩
theorem W_w3t {x1:Str}{x2:Int}{res:Int×Int}(hm:f_I n x1 x2=some res)(aa:B<=w0.z)(a9:x1.b.length<=LEN)(Y:inI x2):l_ prog 119 [Str.v x1,vI x2] w0 (Q13 w0 B res):=by
 unfold f_I at hm
 refine goG func119 z z z fun fn hr=>Ws<|Ra z<|Rw z<|Wq<|Wq ?_
 obtain ⟨ur,hue,hmf⟩:=bdS hm;refine Wt (fun a w=>∃(W:Bool),W=ur/\Sat 52 [(0,Str.v x1),(1,vI x2),(15,vB W)] a/\Below w0.z w0 w) ?_ ?_
 ·refine Wg<|Rm z<|Rl z z z<|Rm z ?_
  rcases bs (decide<|x2<0) with G | G
  ·iterate 4 refine Nh z G ?_
   exact R z (pT z G z)<|Wl (fun _ q=>⟨true,som<|ifT hue G,q.k<|s3 z z z,br w0⟩)
  exact Rh z G (mv z)<|Rh z G (mv z)<|Rh z G (lnT d_9 z)<|Rh z G (a_z z z)<|R z (pF z G z)<|Wl (fun _ q=>⟨decide<|(x1.b.length:Int)<=x2,som<|ifF hue G,q.k<|s3 z z z,br w0⟩)
 rintro au O ⟨W,rfl,_,sg⟩;revert au;refine Wo<|Wc z (fun V=>?_) (fun V=>?_)
 ·refine Wm z<|Ra z<|Rw z ?_
  obtain rfl:=som<|ifT hmf V;exact Wr<|F_ hr z z ⟨sg,z,ii z,Y⟩
 refine Wk<|Wm z<|Ra z<|Rw z<|Wq ?_
 obtain ⟨_,hus,hmh⟩:=bdS<|ifF hmf V;refine b_S (σ:=Int×Int) (ρ:=Int×Int) (fun s a w=>un2 (fun x5 x0=>Sat 52 [(0,Str.v x1),(1,vI x2),(6,vI x5),(7,vI x0)] a/\Below O.z O w/\inI x5/\inI x0) s) (fun s a w=>un2 (fun x5 x0=>Sat 52 [(6,vI x5),(7,vI x0)] a/\Below O.z O w/\inI x5/\inI x0) s) (rQ prog fn<|Q13 w0 B) hus ?_ ?_ ?_ ?_
 ·exact fun _ q=>⟨q.k<|s4 z z z z,br O,ii z,Y⟩
 ·rintro ⟨x5,x0⟩ _ L _ ⟨hSt,si,ha,hb⟩ hmv;refine Wu ?_ hSt;refine Wq<|Wq ?_
  obtain ⟨ux,huj,hmk⟩:=bdS<|a_t hmv;refine Wt (fun a w=>∃(xc:Bool),xc=ux/\Sat 52 [(0,Str.v x1),(1,vI x2),(6,vI x5),(7,vI x0),(39,vB xc)] a/\Below L.z L w) ?_ ?_
  ·refine Wg<|RM z z<|R z (lnT d_9 z)<|Rl z z z<|Rm z ?_
   rcases bs (decide<|x0<(x1.b.length:Int)) with H | H
   ·have hml:=ifT huj H;refine Rh z H (mv z)<|Rh z H (mv z)<|Rh z H (sb_ z z)<|Rh z H (lss z z)<|R z (pT z H z)<|Rm z ?_
    rcases bs (decide<|(r_ x0 x2)<10) with I | I
    ·refine Rh z I (mv z)<|Rh z I (mv z) ?_
     obtain ⟨xy,em,hmn⟩:=bdS<|ifT hml I;refine Rh z I (b_a d_9 z z (a_4 em).1 (a_4 em).2.1)<|Rh z I (a_z z z)<|R z (pT z I z)<|Rm z ?_
     rcases bs (decide<|(byteI (48:UInt8))<=(byteI xy)) with J | J
     ·refine Rh z J (mv z)<|Rh z J (mv z) ?_
      obtain ⟨xz,eo,a0⟩:=bdS<|ifT hmn J;exact Rh z J (b_a d_9 z z (a_4 eo).1 (a_4 eo).2.1)<|Rh z J (b_o z z)<|R z (pT z J z)<|Wl (fun _ q=>⟨decide<|(byteI xz)<=(byteI (57:UInt8)),som a0,q.k<|s5 z z z z z,br L⟩)
     iterate 4 refine Nh z J ?_
     exact R z (pF z J z)<|Wl (fun _ q=>⟨false,som<|ifF hmn J,q.k<|s5 z z z z z,br L⟩)
    iterate 4 refine Nh z I ?_
    exact R z (pF z I z)<|Rm z<|Nh z z<|Nh z z<|Nh z z<|Nh z z<|R z (pF z z z)<|Wl (fun _ q=>⟨false,som<|ifF hml I,q.k<|s5 z z z z z,br L⟩)
   iterate 4 refine Nh z H ?_
   exact R z (pF z H z)<|Rm z<|Nh z z<|Nh z z<|Nh z z<|Nh z z<|R z (pF z z z)<|Rm z<|Nh z z<|Nh z z<|Nh z z<|Nh z z<|R z (pF z z z)<|Wl (fun _ q=>⟨false,som<|ifF huj H,q.k<|s5 z z z z z,br L⟩)
  rintro a5 _ ⟨xc,rfl,_,sp⟩;revert a5;refine Wo<|Wc z (fun hcd=>?_) (fun hcd=>?_)
  ·refine Wk<|Wb<|Wm z<|R z (d_p z z)<|RM z z ?_
   obtain ⟨a6,eq,a1⟩:=bdS<|ifT hmk hcd;exact R z (b_a d_9 z z (a_4 eq).1 (a_4 eq).2.1)<|R z (e_W z z)<|R z (b_E d_5 d_3 z)<|R z (add_ z z)<|Rw z<|Wg<|Rm z<|R z (add_ z z)<|Ra z<|Wl (fun _ q=>⟨(m_ (a_f 10 x5) (byteI<|mkB (byteI a6 - byteI (48:UInt8))),m_ x0 1),(som a1).symm,⟨q.k<|s4 z z z z,bup si sp,iA _ _,iA _ _⟩⟩)
  exact We<|fun _ q=>b_F (som<|ifF hmk hcd).symm ⟨q.k<|s2 z z,bup si sp,ha,hb⟩
 ·rintro ⟨x5,x0⟩ a7 _ rfl ⟨_,a8,ha,hb⟩;have a2:=elL hmh;revert a7;refine Wo<|Wm z<|Rm z<|Ra z<|Rw z ?_
  obtain rfl:=som<|a_t a2;exact Wr<|F_ hr z z ⟨bup sg a8,z,ha,hb⟩
 rintro _ _ _ _ rfl ⟨rfl,a3⟩;have a4:=elR hmh;obtain rfl:=som a4;exact ⟨a3,z⟩
def Q27 (w0:World)(g1:Nat)(B:Zone)(A0:Option Addr)(N0 C0:Nat)(x1:Z_)(r:Int×Bool×Int)(v:Value)(w':World):Prop:=Chg (· ∈ [g1]) w0 w'/\un3 (fun G I H=>v = .tuple #[vI G,vB I]/\inI G/\inI H/\Blk w' g1 [sl A0 N0 C0,Str.v x1.text,vI H]) r
theorem W_w2b {x1:Z_}{g1:Nat}{res:Int×Bool×Int}(hm:e_P n x1=some res)(hB1:Blk w0 g1 [sl A0 N0 C0,Str.v x1.text,vI x1.at_])(J:B<=w0.z)(hBg:¬B g1)(a0:repS w0 B (sl A0 N0 C0) x1.d.rules)(H:x1.text.b.length<=LEN)(I:inI x1.at_):l_ prog 70 [pt g1] w0 (Q27 w0 g1 B A0 N0 C0 x1 res):=by
 unfold e_P at hm
 refine goG func70 z z z fun fn hr=>Ws<|Ra z<|Rw z<|Wq (Wd (X:=noX) 0 (pl_ 14 [8]) mo (by kernel_rfl) fun O G _=>dM z z z<|dR z z (C_ z)<|dR z z (fd j_9 z) ?_)
 have h1:=hB1.e G;refine dR z z (l0 g_9 z<|h1.at z)<|dM z z z<|dR z z (C_ z)<|dR z z (fd d_g z)<|dR z z (l0 g_3 z<|h1.at z) ?_
 obtain ⟨_,V,W,L⟩:=V_ hm;refine dE z z (fc call119 z<|W_w3t W (zt' J G.s) H I) (.inr fun _ _ h=>o_<|h.1) ?_;rintro _ Y ⟨s2,rfl,h9,ha⟩;refine dM z z z<|dR z z (ext_ z z)<|dR z z (ext_ z z)<|dQ z z z<|dQ z z z<|pD<|Wo<|Wm z<|Rm z<|R z (C_ z)<|Rf z d_g z ?_
 have h3:=h1.e s2;refine R z (l0 g_3 z<|h3.at z)<|R z (a_C z z)<|Rw z<|Wm z<|Rm z<|R z (C_ z)<|Rf z d_g z<|E0 (fs0 (cur':=[sl A0 N0 C0,Str.v x1.text,vI V]) z_3 z z h3 z z z z) ?_
 rintro _ wb ⟨hc,sd⟩;refine Wn<|Wm z<|Rm z<|Ra z<|Rw z ?_
 obtain rfl:=som L;exact Wr<|F_ hr z z ⟨(cM (k_ (k_ (cr [g1] w0) G:Chg (· ∈ [g1]) w0 O) s2:Chg (· ∈ [g1]) w0 Y) sd.one (io sr):Chg (· ∈ [g1]) w0 wb),z,h9,ha,hc⟩
def Q28 (w0:World)(g1:Nat)(B:Zone)(A0:Option Addr)(N0 C0:Nat)(x1:Z_)(r:Bool×Int)(v:Value)(w':World):Prop:=Chg (· ∈ [g1]) w0 w'/\un2 (fun H G=>(vB H)=v/\inI G/\Blk w' g1 [sl A0 N0 C0,Str.v x1.text,vI G]) r
theorem c_c {x1:Z_}{g1:Nat}{x2:Str}{res:Bool×Int}(hm:a_H x1 x2=some res)(hB1:Blk w0 g1 [sl A0 N0 C0,Str.v x1.text,vI x1.at_])(a1:B<=w0.z)(hBg:¬B g1)(Y:repS w0 B (sl A0 N0 C0) x1.d.rules)(V:x1.text.b.length<=LEN)(W:inI x1.at_)(a0:x2.b.length<=LEN):l_ prog 71 [pt g1,Str.v x2] w0 (Q28 w0 g1 B A0 N0 C0 x1 res):=by
 unfold a_H at hm
 refine goG func71 z z z fun fn hr=>Ws<|Rw z<|Wq<|Wq ?_
 obtain ⟨ua,I,J⟩:=bdS hm;refine Wt (fun a w=>∃(x3:Bool),x3=ua/\Sat 47 [(0,pt g1),(1,Str.v x2),(37,vB x3)] a/\Below w0.z w0 w) ?_ ?_
 ·refine Wd (X:=noX) 0 (pl_ 33 []) mo (by kernel_rfl) fun wl s4 _=>dM z z z<|dR z z (C_ z)<|dR z z (fd j_9 z) ?_
  have h1:=hB1.e s4;refine dR z z (l0 g_9 z<|h1.at z)<|dR z z (lnT d_9 z)<|dM z z z<|dR z z (C_ z)<|dR z z (fd d_g z)<|dR z z (l0 g_3 z<|h1.at z)<|dR z z (sb_ z z)<|dM z z z<|dR z z (lnT d_9 z)<|dR z z (lss z z)<|dM z z z ?_
  rcases bs (decide<|(r_ (x1.text.b.length:Int) x1.at_)<(x2.b.length:Int)) with G | G
  ·iterate 18 refine dRn z z z G z ?_
   exact dR z z (pT z G z)<|pD (fun _ q=>⟨true,som<|ifT I G,q.k<|s3 z z z,s4⟩)
  refine dRg z z z G z (mv z)<|dRg z z z G z (C_ z)<|dRg z z z G z (fd j_9 z)<|dRg z z z G z (l0 g_9 z<|h1.at z)<|dRg z z z G z (mv z)<|dRg z z z G z (C_ z)<|dRg z z z G z (fd d_g z)<|dRg z z z G z (l0 g_3 z<|h1.at z)<|dRg z z z G z (mv z)<|dRg z z z G z (C_ z)<|dRg z z z G z (fd d_g z)<|dRg z z z G z (l0 g_3 z<|h1.at z)<|dRg z z z G z (mv z)<|dRg z z z G z (lnT d_9 z)<|dRg z z z G z (add_ z z) ?_
  obtain ⟨xb,ec,hmd⟩:=bdS<|ifF I G;exact dRg z z z G z (i_r d_9 z z z V ec)<|dRg z z z G z (mv z)<|dRg z z z G z (g_q z z)<|dR z z (pF z G z)<|pD (fun _ q=>⟨xb.b != x2.b,som hmd,q.k<|s3 z z z,s4⟩)
 rintro ae L ⟨x3,rfl,_,s2⟩;revert ae;refine Wo<|Wc z (fun H=>?_) (fun H=>?_)
 ·refine Ws<|Rw z ?_
  obtain rfl:=som<|ifT J H;exact Wr<|f_ hr z ⟨(k_ (cr [g1] w0) s2:Chg (· ∈ [g1]) w0 L),z,W,hB1.e s2⟩
 refine Wk<|Wm z<|R z (C_ z)<|Rf z d_g z ?_
 have O:=hB1.e s2;refine R z (l0 g_3 z<|O.at z)<|Rm z<|R z (lnT d_9 z)<|R z (add_ z z)<|R z (C_ z)<|Rf z d_g z<|E0 (fs0 (cur':=[sl A0 N0 C0,Str.v x1.text,(vI<|m_ x1.at_ (x2.b.length:Int))]) z_3 z z O z z z z) ?_
 rintro _ wg ⟨hh,si⟩;refine Wn<|Ws<|Rw z ?_
 obtain rfl:=som<|ifF J H;exact Wr<|f_ hr z ⟨(cM (k_ (cr [g1] w0) s2:Chg (· ∈ [g1]) w0 L) si.one (io sr):Chg (· ∈ [g1]) w0 wg),z,iA _ _,hh⟩
theorem j_r {x1:UInt8}{res:Int}(hm:d_E x1=some res)(W:B<=w0.z):l_ prog 120 [vU (byteI x1)] w0 (Q0 w0 B res):=by
 unfold d_E at hm
 refine goG func120 z z z fun fn hr=>Ws<|Rw z<|Wq<|Wb<|Wq ?_
 obtain ⟨ud,O,V⟩:=bdS hm;refine Wt (fun a w=>∃(x3:Bool),x3=ud/\Sat 24 [(0,vU<|byteI x1),(3,vB x3)] a/\Below w0.z w0 w) ?_ ?_
 ·refine Wg<|Rm z<|R z (a_z z z)<|Rm z ?_
  rcases bs (decide<|(byteI (48:UInt8))<=(byteI x1)) with G | G
  ·exact Rh z G (mv z)<|Rh z G (b_o z z)<|R z (pT z G z)<|Ra z<|Wl (fun _ q=>⟨decide<|(byteI x1)<=(byteI (57:UInt8)),som<|ifT O G,q.k<|s2 z z,br w0⟩)
  exact Nh z G<|Nh z G<|R z (pF z G z)<|Ra z<|Wl (fun _ q=>⟨false,som<|ifF O G,q.k<|s2 z z,br w0⟩)
 rintro ae I ⟨x3,rfl,_,s4⟩;revert ae;refine Wo<|Wc z (fun J=>?_) (fun J=>?_)
 ·refine Wm z<|R z (e_W z z)<|R z (b_E d_5 d_3 z)<|Rw z ?_
  obtain rfl:=som<|ifT V J;exact Wr<|rtO<|f_ hr z ⟨s4,z,j_B _⟩
 refine Wq ?_;obtain ⟨uf,hua,hmb⟩:=bdS<|ifF V J;refine Wt (fun a w=>∃(x6:Bool),x6=uf/\Sat 24 [(0,vU<|byteI x1),(13,vB x6)] a/\Below I.z I w) ?_ ?_
 ·refine Wg<|Rm z<|R z (a_z z z)<|Rm z ?_
  rcases bs (decide<|(byteI (97:UInt8))<=(byteI x1)) with H | H
  ·exact Rh z H (mv z)<|Rh z H (b_o z z)<|R z (pT z H z)<|Ra z<|Wl (fun _ q=>⟨decide<|(byteI x1)<=(byteI (102:UInt8)),som<|ifT hua H,q.k<|s2 z z,br I⟩)
  exact Nh z H<|Nh z H<|R z (pF z H z)<|Ra z<|Wl (fun _ q=>⟨false,som<|ifF hua H,q.k<|s2 z z,br I⟩)
 rintro ag _ ⟨x6,rfl,_,sc⟩;revert ag;refine Wo<|Wc z (fun L=>?_) (fun L=>?_)
 ·refine Wm z<|R z (e_W z z)<|R z (b_E d_5 d_3 z)<|R z (add_ z z)<|Rw z ?_
  obtain rfl:=som<|ifT hmb L;exact Wr<|rtO<|f_ hr z ⟨bup s4 sc,z,iA _ _⟩
 refine Wk<|Ws<|Rw z ?_
 obtain rfl:=som<|ifF hmb L;exact Wr<|f_ hr z ⟨bup s4 sc,z,ii z⟩
theorem W_w3u {x1:Str}{x2:Int}{res:(List UInt8)×Int}(hm:f_J n x1 x2=some res)(Y:B<=w0.z)(b3:x1.b.length<=LEN)(a0:inI x2):l_ prog 76 [Str.v x1,vI x2] w0 (Q14 w0 B res):=by
 unfold f_J at hm
 refine goG func76 z z z fun fn hr=>Ws<|Ra z<|Rw z<|Ws<|E z (f0 (α:=UInt8) I_) ?_
 rintro _ wf ⟨al,nm,cn,rfl,sb,hx⟩;refine Rw z<|Wq<|Wq ?_
 obtain ⟨aA,huy,hmz⟩:=bdS hm;refine Wt (fun a w=>∃(xo:Bool),xo=aA/\Sat 57 [(0,Str.v x1),(1,vI x2),(6,sl al nm cn),(15,vB xo)] a/\Below wf.z wf w) ?_ ?_
 ·refine Wg<|Rm z<|Rl z z z<|Rm z ?_
  rcases bs (decide<|x2<0) with L | L
  ·iterate 4 refine Nh z L ?_
   exact R z (pT z L z)<|Wl (fun _ q=>⟨true,som<|ifT huy L,q.k<|s4 z z z z,br wf⟩)
  exact Rh z L (mv z)<|Rh z L (mv z)<|Rh z L (lnT d_9 z)<|Rh z L (a_C z z)<|R z (pF z L z)<|Wl (fun _ q=>⟨decide<|(x1.b.length:Int)<x2,som<|ifF huy L,q.k<|s4 z z z z,br wf⟩)
 rintro aB G ⟨xo,rfl,_,s9⟩;revert aB;refine Wo<|Wc z (fun hcp=>?_) (fun hcp=>?_)
 ·refine Wm z<|Rm z<|Ra z<|Rw z ?_
  obtain rfl:=som<|ifT hmz hcp;exact Wr<|F_ hr z z ⟨bup sb s9,al,nm,cn,[w0.z],z,hx.e s9,a0,a_e,d_ lr⟩
 refine Wk<|Wq ?_
 obtain ⟨_,aj,a1⟩:=bdS<|ifF hmz hcp;refine b_S (σ:=Int×(List UInt8)) (ρ:=(List UInt8)×Int) (fun s a w=>un2 (fun x5 xc=>∃O V W H,Sat 57 [(0,Str.v x1),(1,vI x5),(6,sl O V W)] a/\Chg (· ∈ [w0.z]) G w/\inI x5/\a_ w H (sl O V W) xc/\H.Nodup/\(∀k∈H,k∈[w0.z]∨G.z<=k)) s) (fun s a w=>un2 (fun x5 xc=>∃O V W H,Sat 57 [(1,vI x5),(6,sl O V W)] a/\Chg (· ∈ [w0.z]) G w/\inI x5/\a_ w H (sl O V W) xc/\H.Nodup/\(∀k∈H,k∈[w0.z]∨G.z<=k)) s) (rQ prog fn<|Q14 w0 B) aj ?_ ?_ ?_ ?_
 ·exact fun _ q=>⟨al,nm,cn,[w0.z],q.k<|s3 z z z,cr [w0.z] G,a0,hx.e s9,a_e,io sr⟩
 ·rintro ⟨x5,xc⟩ _ wd _ ⟨O,V,W,H,ak,se,hq,hg,hh,hi⟩ am;refine Wu ?_ ak;refine Wq<|Wq ?_
  obtain ⟨aC,a2,a3⟩:=bdS<|a_t am;refine Wt (fun a w=>∃(xr:Bool),xr=aC/\Sat 57 [(0,Str.v x1),(1,vI x5),(6,sl O V W),(37,vB xr)] a/\Below wd.z wd w) ?_ ?_
  ·refine Wg<|Rm z<|R z (add_ z z)<|Rm z<|R z (lnT d_9 z)<|Rl z z z<|Rm z ?_
   rcases bs (decide<|(m_ x5 1)<(x1.b.length:Int)) with J | J
   ·refine Rh z J (mv z)<|Rh z J (mv z) ?_
    obtain ⟨_,a5,an⟩:=bdS<|ifT a2 J;refine Rh z J (b_a d_9 z z (a_4 a5).1 (a_4 a5).2.1) ?_;have a7:=lt_ (lt_ sb.s s9.s) se.s;obtain ⟨aD,aE,a4⟩:=bdS an;refine Eg z z J z (fc call120 z<|j_r (B:=B) aE<|zt' Y a7) ?_;rintro _ _ ⟨ss,rfl,_⟩;refine Rh z J (a_z z z)<|R z (pT z J z)<|Rm z ?_
    rcases bs (decide<|0<=aD) with I | I
    ·refine Rh z I (mv z)<|Rh z I (mv z)<|Rh z I (add_ z z) ?_
     obtain ⟨_,a8,ao⟩:=bdS<|ifT a4 I;refine Rh z I (b_a d_9 z z (a_4 a8).1 (a_4 a8).2.1) ?_;obtain ⟨aF,aG,ap⟩:=bdS ao;refine Eg z z I z (fc call120 z<|j_r (B:=B) aG<|zt' Y<|lt_ a7 ss.s) ?_;rintro _ _ ⟨aH,rfl,_⟩;exact Rh z I (a_z z z)<|R z (pT z I z)<|Wl (fun _ q=>⟨decide<|0<=aF,som ap,q.k<|s4 z z z z,bup ss aH⟩)
    iterate 6 refine Nh z I ?_
    exact R z (pF z I z)<|Wl (fun _ q=>⟨false,som<|ifF a4 I,q.k<|s4 z z z z,ss⟩)
   iterate 5 refine Nh z J ?_
   exact R z (pF z J z)<|Rm z<|Nh z z<|Nh z z<|Nh z z<|Nh z z<|Nh z z<|Nh z z<|R z (pF z z z)<|Wl (fun _ q=>⟨false,som<|ifF a2 J,q.k<|s4 z z z z,br wd⟩)
  rintro aI a9 ⟨xr,rfl,_,sa⟩;revert aI;refine Wo<|Wc z (fun hct=>?_) (fun hct=>?_)
  ·refine Wk<|Wb<|Wq (Wd (X:=noX) 16384 (.rd 0<|.rd 1<|.rd 2<|.rd 3<|.rd 6<|.rd 7<|.rd 8<|.rd 9<|.ef 4<|.rd 5<|.ef 10<|.rd 11<|.rd 12<|.ef 13<|.ef 14<|.rd 15 .done) mo (by kernel_rfl) fun aJ sj _=>?_)
   iterate 3 refine dM z z z ?_
   obtain ⟨_,aa,aq⟩:=bdS<|ifT a3 hct;refine dR z z (b_a d_9 z z (a_4 aa).1 (a_4 aa).2.1)<|dM z z z<|dM z z z<|dR z z (add_ z z) ?_
   obtain ⟨_,ab,ar⟩:=bdS aq;refine dR z z (b_a d_9 z z (a_4 ab).1 (a_4 ab).2.1) ?_;have ad:=lt_ (lt_ (lt_ (lt_ sb.s s9.s) se.s) sa.s) sj.s;obtain ⟨aK,aL,au⟩:=bdS ar;refine dE z z (fc call120 z<|j_r (B:=B) aL<|zt' Y ad) (.inr fun _ _ h=>o_<|h.1) ?_;rintro _ aM ⟨sk,rfl,_⟩;refine dR z z (f_3 z z (by decide)) ?_;obtain ⟨aN,aO,av⟩:=bdS au;refine dE z z (fc call120 z<|j_r (B:=B) aO<|zt' Y<|lt_ ad sk.s) (.inr fun _ _ h=>o_<|h.1) ?_;rintro _ ae ⟨su,rfl,_⟩;refine dR z z (j_I z z)<|dR z z (d_m d_3 d_5 z)<|dE z z (fS [(.tmp 50)] I_ z z z (a_J z) (lb z)<|lb z) (.inr fun _ _ h=>o_<|h.2.below) ?_
   rintro _ af ⟨rfl,hv⟩;have hw:=hv.below;have b4:=b_0 hv a_s;obtain ⟨aP,aQ,aw⟩:=bdS av;refine dE z z (b_i (α:=UInt8) I_ aQ z z (((((hg.e sa).e sj).e sk).e su).e hw) hh (hv.blk:Blk af ae.z [(vU<|byteI<|mkB<|b_n .i64 (· ||| ·) (b_3 .i64 aK 4) aN)]) a_s an_ K_) (.inl z) ?_;rintro _ aR ⟨ah,aS,aT,aU,rfl,aV,aW,aX,aY⟩;refine dQ z z z<|pD<|Wo<|Wg<|Rm z<|R z (add_ z z)<|Ra z<|Wl ?_
   have ai:∀k∈H,k∈[w0.z]∨G.z<=k:=or1 hi (io sr)<|q_ lr;exact fun _ q=>⟨(m_ x5 2,aP),(som aw).symm,⟨aS,aT,aU,ah,q.k<|s3 z z z,(cM (k_ (k_ (k_ (k_ (k_ (cM (cr [w0.z] G) se (io sr):Chg (· ∈ [w0.z]) G wd) sa:Chg (· ∈ [w0.z]) G a9) sj:Chg (· ∈ [w0.z]) G aJ) sk:Chg (· ∈ [w0.z]) G aM) su:Chg (· ∈ [w0.z]) G ae) hw:Chg (· ∈ [w0.z]) G af) aV ai:Chg (· ∈ [w0.z]) G aR),iA _ _,aW,aX,(or2 aY ai an_ (q_<|lt_ (lt_ (lt_ (lt_ (lt_ se.s sa.s) sj.s) sk.s) su.s) hw.s):∀k∈ah,k∈[w0.z]∨G.z<=k)⟩⟩
  exact We<|fun _ q=>b_F (som<|ifF a3 hct).symm ⟨O,V,W,H,q.k<|s2 z z,(k_ (cM (cr [w0.z] G) se (io sr):Chg (· ∈ [w0.z]) G wd) sa:Chg (· ∈ [w0.z]) G a9),hq,hg.e sa,hh,(or1 hi (io sr) (q_ lr):∀k∈H,k∈[w0.z]∨G.z<=k)⟩
 ·rintro ⟨x5,xc⟩ aZ _ rfl ⟨O,V,W,H,_,b0,hq,hg,hh,hi⟩;have ax:=elL a1;revert aZ;refine Wo<|Wm z<|Rm z<|Ra z<|Rw z ?_
  obtain rfl:=som<|a_t ax;exact Wr<|F_ hr z z ⟨bM (bup sb s9) b0<|d_ lr,O,V,W,H,z,hg,hq,hh,(or1 hi (d_ lr) (b_9<|lt_ sb.s s9.s):∀k∈H,w0.z<=k)⟩
 rintro _ _ _ _ rfl ⟨rfl,ay⟩;have az:=elR a1;obtain rfl:=som az;exact ⟨ay,z⟩
def Q29 (w0:World)(g1:Nat)(B:Zone)(A0:Option Addr)(N0 C0:Nat)(x1:Z_)(r:Val×Bool×Int)(v:Value)(w':World):Prop:=Chg (· ∈ [g1]) w0 w'/\un3 (fun G W H=>∃I J L S1 a2 O V S2,v = .tuple #[(.agg #[vI G.number,sl I J L,sl a2 O V]),vB W]/\inI G.number/\a_ w' S1 (sl I J L) G.bytes/\a_ w' S2 (sl a2 O V) G.items/\inI H/\Blk w' g1 [sl A0 N0 C0,Str.v x1.text,vI H]/\(S1++S2).Nodup/\(∀k∈(S1++S2),w0.z<=k)) r
def Q30 (w0:World)(g1:Nat)(B:Zone)(A0:Option Addr)(N0 C0:Nat)(x1:Z_)(S2_1:List Nat)(S2_2:List Nat)(r:Val×Bool×Int)(v:Value)(w':World):Prop:=Chg (· ∈ ([g1]++(S2_1++S2_2))) w0 w'/\un3 (fun G W H=>∃I J L S1 a2 O V S2,v = .tuple #[(.agg #[vI G.number,sl I J L,sl a2 O V]),vB W]/\inI G.number/\a_ w' S1 (sl I J L) G.bytes/\a_ w' S2 (sl a2 O V) G.items/\inI H/\Blk w' g1 [sl A0 N0 C0,Str.v x1.text,vI H]/\(S1++S2).Nodup/\(∀k∈(S1++S2),k∈(S2_1++S2_2)∨w0.z<=k)) r
structure l_4 (f:Z_->Int->Option (Val×Bool×Int)):Prop where
  run:∀{A0:Option Addr}{N0 C0 g1:Nat}{B:Zone}{x1:Z_}{x2:Int}{res:Val×Bool×Int}{w0:World}(hm:f x1 x2=some res)(hB1:Blk w0 g1 [sl A0 N0 C0,Str.v x1.text,vI x1.at_])(hBw:B<=w0.z)(hBg:¬B g1)(p1_0:repS w0 B (sl A0 N0 C0) x1.d.rules)(p1_1:x1.text.b.length<=LEN)(p1_2:inI x1.at_)(p2_0:inI x2),l_ prog 42 [pt g1,vI x2] w0<|Q29 w0 g1 B A0 N0 C0 x1 res
structure l_5 (f:Z_->Int->Option (Val×Bool×Int)):Prop where
  run:∀{A0:Option Addr}{N0 C0 g1:Nat}{B:Zone}{x1:Z_}{x2:Int}{res:Val×Bool×Int}{w0:World}(hm:f x1 x2=some res)(hB1:Blk w0 g1 [sl A0 N0 C0,Str.v x1.text,vI x1.at_])(hBw:B<=w0.z)(hBg:¬B g1)(p1_0:repS w0 B (sl A0 N0 C0) x1.d.rules)(p1_1:x1.text.b.length<=LEN)(p1_2:inI x1.at_)(p2_0:inI x2),l_ prog 72 [pt g1,vI x2] w0<|Q29 w0 g1 B A0 N0 C0 x1 res
structure l_6 (f:Z_->g_->Option (Val×Bool×Int)):Prop where
  run:∀{A0 A3 A2 A1 A4:Option Addr}{N0 C0 g1 N3 C3 N2 C2 N1 C1 N4 C4:Nat}{B:Zone}{x1:Z_}{x2:g_}{res:Val×Bool×Int}{w0:World}(hm:f x1 x2=some res)(hB1:Blk w0 g1 [sl A0 N0 C0,Str.v x1.text,vI x1.at_])(hBw:B<=w0.z)(hBg:¬B g1)(p1_0:repS w0 B (sl A0 N0 C0) x1.d.rules)(p1_1:x1.text.b.length<=LEN)(p1_2:inI x1.at_)(p2_0:x2.name.b.length<=LEN)(p2_1:inI x2.kind)(p2_2:inI x2.size)(p2_4:repS w0 B (sl A3 N3 C3) x2.bytes)(p2_5:repS w0 B (sl A2 N2 C2) x2.names)(p2_6:repS w0 B (sl A1 N1 C1) x2.tags)(p2_7:repS w0 B (sl A4 N4 C4) x2.kids),l_ prog 73 [pt g1,(.agg #[Str.v x2.name,vI x2.kind,vI x2.size,vB x2.little,sl A3 N3 C3,sl A2 N2 C2,sl A1 N1 C1,sl A4 N4 C4])] w0<|Q29 w0 g1 B A0 N0 C0 x1 res
structure l_7 (f:Z_->Val->Str->Int->Str->Option (Val×Bool×Int)):Prop where
  run:∀{A0 AA AF:Option Addr}{N0 C0 g1 NA CA NF CF:Nat}{S2_1 S2_2:List Nat}{B:Zone}{x1:Z_}{x2:Val}{x3:Str}{x4:Int}{x5:Str}{res:Val×Bool×Int}{w0:World}(hm:f x1 x2 x3 x4 x5=some res)(hB1:Blk w0 g1 [sl A0 N0 C0,Str.v x1.text,vI x1.at_])(hBw:B<=w0.z)(hBg:¬B g1)(p1_0:repS w0 B (sl A0 N0 C0) x1.d.rules)(p1_1:x1.text.b.length<=LEN)(p1_2:inI x1.at_)(p2_0:inI x2.number)(p2_1:a_ w0 S2_1 (sl AA NA CA) x2.bytes)(p2_1n:S2_1.Nodup)(p2_1g:∀k∈S2_1,¬B k)(p2_1dB:∀k∈S2_1,k∉[g1])(p2_2:a_ w0 S2_2 (sl AF NF CF) x2.items)(p2_2n:S2_2.Nodup)(p2_2g:∀k∈S2_2,¬B k)(p2_2d1:∀k∈S2_2,k∉S2_1)(p2_2dB:∀k∈S2_2,k∉[g1])(p3_0:x3.b.length<=LEN)(p4_0:inI x4)(p5_0:x5.b.length<=LEN),l_ prog 74 [pt g1,.agg #[vI x2.number,sl AA NA CA,sl AF NF CF],Str.v x3,vI x4,Str.v x5] w0<|Q30 w0 g1 B A0 N0 C0 x1 S2_1 S2_2 res
abbrev h_C (n:Nat):Prop:=l_4 (a_K n).impl_textReader_value/\l_5 (a_K n).impl_textReader_list/\l_6 (a_K n).impl_textReader_parts/\l_7 (a_K n).impl_textReader_inner
theorem T_w04 (ih:h_C n):l_4 (f_L n<|a_K n):=by
 obtain ⟨_,dx,dy,av⟩:=ih
 constructor
 intro A0 N0 C0 g1 B x1 x2 res w0 hm hB1 I hBg J O a0 aW;unfold f_L at hm
 refine goG func42 z z z fun fn hr=>Ws<|E z (fa E_) ?_
 rintro _ H ⟨rfl,b9⟩;have h3:=b9.below;have h4:Blk H w0.z [vI 0,sl none 0 0,sl none 0 0]:=b9.blk;refine Rw z<|Wm z<|R z (C_ z)<|Rf z k_p z<|Rf z a_9 z ?_
 have ha:=hB1.e h3;refine R z (l0 a_b z<|ha.at z)<|Rm z ?_
 obtain ⟨xv,dz,cQ⟩:=bdS hm;refine RX z (at_ (α:=g_) a_3 t_ z z z (J.e h3) dz) ?_;rintro _ ⟨_,_,_,rfl,dA,dB,_⟩;obtain ⟨aw,nx,cy,az,a1,a2,a3,a4,a5,a6,a7,a8,rfl,ba,bb,bc,be,bf,bg,a9⟩:=a_v dB;refine R z (lN (vs:=vR xv aw nx cy az a1 a2 a3 a4 a5 a6 a7 a8) D_ t_ z z fid dA)<|E z (fa b_Y) ?_
 rintro _ L ⟨rfl,bh⟩;have h1:=bh.below;refine E0 (fs0 (cur':=vR xv aw nx cy az a1 a2 a3 a4 a5 a6 a7 a8) t_ z z (bh.blk:Blk L H.z [(Str.v (⟨[]⟩:Str)),vI 0,vI 0,vB false,sl none 0 0,sl none 0 0,sl none 0 0,sl none 0 0]) z z z z) ?_;rintro _ V ⟨aa,dC⟩;have h2:=dC.one;refine Wn<|Wq<|Ws<|R z (lN (vs:=vR xv aw nx cy az a1 a2 a3 a4 a5 a6 a7 a8) D_ t_ z z fid<|aa.row 0 8 z) ?_
 have hb:∀k∈[H.z],¬B k:=or0 (d_ lr)<|p_<|zt' I h3.s;have hh:=(h1.ag B).c h2<|e_ hb
 have hd:=lt_ (lt_ h3.s h1.s) h2.s;obtain ⟨ri,dD,aX⟩:=bdS cQ;refine E z (fc call69 z<|W_w27 dD (zt' I hd) ba bb bc (be.g hh) (bf.g hh) (bg.g hh)<|a9.g hh) ?_;rintro _ W ⟨G,_,_,_,rfl,_⟩;refine Wn<|Wb<|Ws ?_
 rcases bs (ri.1==1) with hcl | hcl
 ·refine R z (n_2 z hcl)<|Re z z z<|Re z z z<|Wx z (fun _=>?_) (fun hc=>(a_w z hc).elim)
  refine Wm z ?_
  obtain ⟨bi,_,_,dF,cR⟩:=O_<|ifT aX hcl;refine E z (fc call70 z<|W_w2b (B:=B) dF (((ha.e h1).c h2<|djs<|mm1 (Blk.lt hB1) h3.s).e G) (zt' I<|lt_ hd G.s) hBg (J.g<|(((h3.ag B).e h1).c h2<|e_ hb).e G) O a0) ?_;rintro _ dG ⟨bj,rfl,dH,dI,dJ⟩;refine Rm z<|Re z z z<|Re z z z<|Ra z<|Rw z<|Wm z<|R z (bP (parts:=[(0,.tmp 32)]) (cs:=[vI bi,sl none 0 0,sl none 0 0]) P_ z z)<|Rm z ?_
  have bk:=mmr<|Blk.lt hB1
  refine E0 (fs0 (cur':=[vI bi,sl none 0 0,sl none 0 0]) b_ z z ((((h4.e h1).c h2<|djs<|mmr h4.lt).e G).c bj<|atp bk) z z z z) ?_;rintro _ dK ⟨dL,dN⟩;have bm:=dN.one;refine Rw z ?_
  obtain rfl:=som cR;exact Wr<|rtO<|F_ hr (u_ i_ b_ z dL z) z ⟨(cM (cM (k_ (cM (k_ (k_ (cr [g1] w0) h3:Chg (· ∈ [g1]) w0 H) h1:Chg (· ∈ [g1]) w0 L) h2 (mor h3.s:∀k∈[H.z],k∈[g1]∨w0.z<=k):Chg (· ∈ [g1]) w0 V) G:Chg (· ∈ [g1]) w0 W) bj (io sr):Chg (· ∈ [g1]) w0 dG) bm (mor lr:∀k∈[w0.z],k∈[g1]∨w0.z<=k):Chg (· ∈ [g1]) w0 dK),none,0,0,[],none,0,0,[],z,dH,onL,onL,dI,dJ.c bm<|djs bk,nd0,al0⟩
 have aY:=ifF aX hcl;refine R z (n_3 z hcl)<|Re z z z<|Re z z z<|Wx z (fun hc=>(a_w hc z).elim) (fun _=>?_)
 refine Ws ?_
 rcases bs (ri.1==2) with hco | hco
 ·refine R z (n_4 z hco)<|Re z z z<|Re z z z<|Wx z (fun _=>?_) (fun hc=>(a_w z hc).elim)
  refine Ws<|R z (bP (parts:=[]) (cs:=[vI 0,sl none 0 0,sl none 0 0]) P_ z z)<|Rm z ?_
  obtain ⟨_,_,dO,cS⟩:=V_<|ifT aY hco;refine E z (fc call71 z<|c_c (B:=B) dO (((ha.e h1).c h2<|djs<|mm1 (Blk.lt hB1) h3.s).e G) (zt' I<|lt_ hd G.s) hBg (J.g<|(((h3.ag B).e h1).c h2<|e_ hb).e G) O a0<|lb z) ?_;rintro _ dP ⟨bn,rfl,dS,dT⟩;have bo:=mmr<|Blk.lt hB1
  refine E0 (fs0 (cur':=[vI 0,sl none 0 0,sl none 0 0]) b_ z z ((((h4.e h1).c h2<|djs<|mmr h4.lt).e G).c bn<|atp bo) z z z z) ?_;rintro _ dU ⟨dV,dW⟩;have bp:=dW.one;refine Rw z ?_
  obtain rfl:=som cS;exact Wr<|rtO<|F_ hr (u_ i_ b_ z dV z) z ⟨(cM (cM (k_ (cM (k_ (k_ (cr [g1] w0) h3:Chg (· ∈ [g1]) w0 H) h1:Chg (· ∈ [g1]) w0 L) h2 (mor h3.s:∀k∈[H.z],k∈[g1]∨w0.z<=k):Chg (· ∈ [g1]) w0 V) G:Chg (· ∈ [g1]) w0 W) bn (io sr):Chg (· ∈ [g1]) w0 dP) bp (mor lr:∀k∈[w0.z],k∈[g1]∨w0.z<=k):Chg (· ∈ [g1]) w0 dU),none,0,0,[],none,0,0,[],z,ii z,onL,onL,dS,dT.c bp<|djs bo,nd0,al0⟩
 have aZ:=ifF aY hco;refine R z (n_5 z hco)<|Re z z z<|Re z z z<|Wx z (fun hc=>(a_w hc z).elim) (fun _=>?_)
 refine Ws ?_
 rcases bs (ri.1==5) with hcp | hcp
 ·refine R z (n_6 z hcp)<|Re z z z<|Re z z z<|Wx z (fun _=>?_) (fun hc=>(a_w z hc).elim)
  refine Wm z<|Rm z ?_
  have ax:=lt_ hd G.s;obtain ⟨dX,_,_,dY,cT⟩:=O_<|ifT aZ hcp;refine E z (fc call72 z<|dx.run (B:=B) dY (((ha.e h1).c h2<|djs<|mm1 (Blk.lt hB1) h3.s).e G) (zt' I ax) hBg (J.g<|(((h3.ag B).e h1).c h2<|e_ hb).e G) O a0 aW) ?_;rintro _ dZ ⟨bq,br,bt,bu,e0,bv,bw,bx,e1,rfl,e2,e3,e4,e5,e6,ay,ab⟩;refine Re z z z<|Re z z z ?_
  have bz:=mmr<|Blk.lt hB1
  refine E0 (fs0 (cur':=[vI dX.number,sl br bt bu,sl bv bw bx]) b_ z z ((((h4.e h1).c h2<|djs<|mmr h4.lt).e G).c bq<|atp bz) z z z z) ?_;rintro _ e7 ⟨e8,e9⟩;have ad:=e9.one;refine Rw z ?_
  obtain rfl:=som cT;have bA:=lt_ (lt_ h1.s h2.s) G.s;exact Wr<|rtO<|F_ hr (u_ i_ b_ z e8 z) z ⟨(cM (cM (k_ (cM (k_ (k_ (cr [g1] w0) h3:Chg (· ∈ [g1]) w0 H) h1:Chg (· ∈ [g1]) w0 L) h2 (mor h3.s:∀k∈[H.z],k∈[g1]∨w0.z<=k):Chg (· ∈ [g1]) w0 V) G:Chg (· ∈ [g1]) w0 W) bq (io sr):Chg (· ∈ [g1]) w0 dZ) ad (mor lr:∀k∈[w0.z],k∈[g1]∨w0.z<=k):Chg (· ∈ [g1]) w0 e7),br,bt,bu,e0,bv,bw,bx,e1,z,e2,e3.c ad<|h_ (al_ ab) h4.lt bA,e4.c ad<|h_ (ar_ ab) h4.lt bA,e5,e6.c ad<|djs bz,na_ (nl_ ay) (nr_ ay)<|nj ay,aa_ (j_ (al_ ab) ax)<|j_ (ar_ ab) ax⟩
 have b0:=ifF aZ hcp;refine R z (n_7 z hcp)<|Re z z z<|Re z z z<|Wx z (fun hc=>(a_w hc z).elim) (fun _=>?_)
 refine Ws ?_
 rcases bs (ri.1==6) with hcq | hcq
 ·refine R z (n_8 z hcq)<|Re z z z<|Re z z z<|Wx z (fun _=>?_) (fun hc=>(a_w z hc).elim)
  refine Wm z<|R z (lN (vs:=vR xv aw nx cy az a1 a2 a3 a4 a5 a6 a7 a8) D_ t_ z z fid<|(aa.e G).row 0 8 z) ?_
  have ae:=hh.e G;have aA:=lt_ hd G.s;obtain ⟨ea,_,_,eb,cU⟩:=O_<|ifT b0 hcq;refine E z (fc call73 z<|dy.run (B:=B) eb (((ha.e h1).c h2<|djs<|mm1 (Blk.lt hB1) h3.s).e G) (zt' I aA) hBg (J.g<|(((h3.ag B).e h1).c h2<|e_ hb).e G) O a0 ba bb bc (be.g ae) (bf.g ae) (bg.g ae)<|a9.g ae) ?_;rintro _ ec ⟨bB,bC,bD,bE,ed,bF,bG,bH,ee,rfl,ef,eg,eh,ei,ej,aB,af⟩;refine Re z z z<|Re z z z ?_
  have bI:=mmr<|Blk.lt hB1
  refine E0 (fs0 (cur':=[vI ea.number,sl bC bD bE,sl bF bG bH]) b_ z z ((((h4.e h1).c h2<|djs<|mmr h4.lt).e G).c bB<|atp bI) z z z z) ?_;rintro _ ek ⟨em,en⟩;have ah:=en.one;refine Rw z ?_
  obtain rfl:=som cU;have bJ:=lt_ (lt_ h1.s h2.s) G.s;exact Wr<|rtO<|F_ hr (u_ i_ b_ z em z) z ⟨(cM (cM (k_ (cM (k_ (k_ (cr [g1] w0) h3:Chg (· ∈ [g1]) w0 H) h1:Chg (· ∈ [g1]) w0 L) h2 (mor h3.s:∀k∈[H.z],k∈[g1]∨w0.z<=k):Chg (· ∈ [g1]) w0 V) G:Chg (· ∈ [g1]) w0 W) bB (io sr):Chg (· ∈ [g1]) w0 ec) ah (mor lr:∀k∈[w0.z],k∈[g1]∨w0.z<=k):Chg (· ∈ [g1]) w0 ek),bC,bD,bE,ed,bF,bG,bH,ee,z,ef,eg.c ah<|h_ (al_ af) h4.lt bJ,eh.c ah<|h_ (ar_ af) h4.lt bJ,ei,ej.c ah<|djs bI,na_ (nl_ aB) (nr_ aB)<|nj aB,aa_ (j_ (al_ af) aA)<|j_ (ar_ af) aA⟩
 have b3:=ifF b0 hcq;refine R z (n_9 z hcq)<|Re z z z<|Re z z z<|Wx z (fun hc=>(a_w hc z).elim) (fun _=>?_)
 refine Ws ?_
 rcases bs (ri.1==7) with hcr | hcr
 ·refine R z (n_a z hcr)<|Re z z z<|Re z z z<|Wx z (fun _=>?_) (fun hc=>(a_w z hc).elim)
  refine Wm z ?_
  have bK:=(((h3.ag B).e h1).c h2<|e_ hb).e G;have aC:=lt_ hd G.s;obtain ⟨rk,_,_,eo,b4⟩:=O_<|ifT b3 hcr;refine E z (fc call70 z<|W_w2b (B:=B) eo (((ha.e h1).c h2<|djs<|mm1 (Blk.lt hB1) h3.s).e G) (zt' I aC) hBg (J.g bK) O a0) ?_;rintro _ wj ⟨sc,rfl,aD,bL,bM⟩;refine Rm z<|Re z z z<|Re z z z<|Ra z<|Rw z<|Wm z<|R z (bP (parts:=[(0,.tmp 65)]) (cs:=[vI rk,sl none 0 0,sl none 0 0]) P_ z z)<|E z (fa E_) ?_
  rintro _ ai ⟨rfl,bN⟩;have he:=bN.below;have bO:Blk ai wj.z [vI 0,sl none 0 0,sl none 0 0]:=bN.blk;refine E0 (fs0 (cur':=[vI rk,sl none 0 0,sl none 0 0]) b_ z z bO z z z z) ?_;rintro _ bQ ⟨bR,ep⟩;have Y:=ep.one;refine Wn<|Wq<|Wm z<|R z (not_ z)<|Wx z (fun aq=>?_) (fun aq=>?_)
  ·refine Ws<|R z (lN (vs:=[vI rk,sl none 0 0,sl none 0 0]) i_ b_ z z fid<|bR.row 0 3 z) ?_
   have bS:=mmr<|Blk.lt hB1
   refine E0 (fs0 (cur':=[vI rk,sl none 0 0,sl none 0 0]) b_ z z ((((((h4.e h1).c h2<|djs<|mmr h4.lt).e G).c sc<|atp bS).e he).c Y<|djs<|mm1 h4.lt<|lt_ (lt_ (lt_ h1.s h2.s) G.s) sc.s) z z z z) ?_;rintro _ er ⟨es,eu⟩;have bT:=eu.one;refine Rw z ?_
   obtain rfl:=som<|ifT b4 aq;have bU:=lt_ aC sc.s;exact Wr<|rtO<|F_ hr (u_ i_ b_ z es z) z ⟨(cM (cM (k_ (cM (k_ (cM (k_ (k_ (cr [g1] w0) h3:Chg (· ∈ [g1]) w0 H) h1:Chg (· ∈ [g1]) w0 L) h2 (mor h3.s:∀k∈[H.z],k∈[g1]∨w0.z<=k):Chg (· ∈ [g1]) w0 V) G:Chg (· ∈ [g1]) w0 W) sc (io sr):Chg (· ∈ [g1]) w0 wj) he:Chg (· ∈ [g1]) w0 ai) Y (mor bU:∀k∈[wj.z],k∈[g1]∨w0.z<=k):Chg (· ∈ [g1]) w0 bQ) bT (mor lr:∀k∈[w0.z],k∈[g1]∨w0.z<=k):Chg (· ∈ [g1]) w0 er),none,0,0,[],none,0,0,[],z,aD,onL,onL,bL,((bM.e he).c Y<|djs<|mm1 (Blk.lt hB1) bU).c bT<|djs bS,nd0,al0⟩
  refine Wk<|Wq (Wd (X:=noX) 2304 (pl_ 13 [7,8,11]) mo (by kernel_rfl) fun ew sg _=>dM z z z ?_)
  have bV:=bR.e sg;refine dR z z (lN (vs:=[vI rk,sl none 0 0,sl none 0 0]) i_ b_ z z fid<|bV.row 0 3 z)<|dM z z z<|dR z z (C_ z)<|dR z z (fd k_p z) ?_
  have aj:=lt_ aC sc.s;have bW:=((bM.e he).c Y<|djs<|mm1 (Blk.lt hB1) aj).e sg;refine dR z z (lN (vs:=[sl A0 N0 C0]) w_ v_ z z fid<|bW.row 0 1 z)<|dM z z z ?_
  have bX:=(((bK.c sc<|e_<|d_ hBg).e he).c Y<|e_ (or0 (d_ lr) (p_<|zt' I aj):∀k∈[wj.z],¬B k)).e sg;have bY:=lt_ (lt_ (lt_ aj he.s) Y.s) sg.s;obtain ⟨_,ex,cV⟩:=bdS<|ifF b4 aq;refine dE z z (fc call75 z<|j_n (B:=zn B wj.z ai.z) (x1:=(⟨x1.d.rules⟩:c_)) ex (c_p (zt' I bY)<|lt_ Y.s sg.s) (repS.mono (J.g bX) b_y) aW aD (repS.mono (or_ (B:=B) onL an_) b_y) (repS.mono (or_ (B:=B) onL an_) b_y) (bV.row 0 3 z) (atp<|zin (B:=B) (d_ lr)<|d_ bO.lt)<|ii z) (.inr fun _ _ h=>o_<|h.1) ?_;rintro _ ey ⟨sm,rfl,ez⟩;have aE:=lt_ bY sm.s;obtain ⟨eA,_,_,eB,cW⟩:=O_ cV;refine dE z z (fc call74 z<|av.run (B:=B) (x2:=(⟨rk,([]:List UInt8),([]:List Val)⟩:Val)) eB (bW.e sm) (zt' I aE) hBg (J.g<|bX.e sm) O bL aD onL K_ an_ an_ onL K_ an_ an_ an_ (lb z) ez<|lb z) (.inl z) ?_;rintro _ eC ⟨bZ,c0,c1,c2,c3,c4,c5,c6,c7,rfl,eD,eE,eF,eG,eH,aF,ak⟩;refine dR z z (ext_ z z)<|dR z z (ext_ z z) ?_
  have aG:=mmr<|Blk.lt hB1
  have c8:=lt_ (lt_ (lt_ h1.s h2.s) G.s) sc.s;refine dE0 z (fs0 (cur':=[vI eA.number,sl c0 c1 c2,sl c4 c5 c6]) b_ z z (((((((((h4.e h1).c h2<|djs<|mmr h4.lt).e G).c sc<|atp aG).e he).c Y<|djs<|mm1 h4.lt c8).e sg).e sm).c bZ<|atp<|nmA aG<|nmA (nmN _)<|nmN _) z z z z) (.inl z) ?_;rintro _ eI ⟨eJ,eK⟩;have al:=eK.one;refine dQ z z z<|pD<|Wo ?_
  obtain rfl:=som cW;have c9:=lt_ (lt_ (lt_ (lt_ c8 he.s) Y.s) sg.s) sm.s;exact Wr<|rtO<|F_ hr (u_ i_ b_ z eJ z) z ⟨(cM (cM (k_ (k_ (cM (k_ (cM (k_ (cM (k_ (k_ (cr [g1] w0) h3:Chg (· ∈ [g1]) w0 H) h1:Chg (· ∈ [g1]) w0 L) h2 (mor h3.s:∀k∈[H.z],k∈[g1]∨w0.z<=k):Chg (· ∈ [g1]) w0 V) G:Chg (· ∈ [g1]) w0 W) sc (io sr):Chg (· ∈ [g1]) w0 wj) he:Chg (· ∈ [g1]) w0 ai) Y (mor aj:∀k∈[wj.z],k∈[g1]∨w0.z<=k):Chg (· ∈ [g1]) w0 bQ) sg:Chg (· ∈ [g1]) w0 ew) sm:Chg (· ∈ [g1]) w0 ey) bZ (aa_ (io sr) al0):Chg (· ∈ [g1]) w0 eC) al (mor lr:∀k∈[w0.z],k∈[g1]∨w0.z<=k):Chg (· ∈ [g1]) w0 eI),c0,c1,c2,c3,c4,c5,c6,c7,z,eD,eE.c al (or1 (al_ ak) al0 (S_ (d_ h4.lt) c9):∀k∈c3,k∉[w0.z]),eF.c al (or1 (ar_ ak) al0 (S_ (d_ h4.lt) c9):∀k∈c7,k∉[w0.z]),eG,eH.c al<|djs aG,na_ (nl_ aF) (nr_ aF)<|nj aF,aa_ (a_l (al_ ak) al0 aE)<|a_l (ar_ ak) al0 aE⟩
 have b5:=ifF b3 hcr;refine R z (n_b z hcr)<|Re z z z<|Re z z z<|Wx z (fun hc=>(a_w hc z).elim) (fun _=>?_)
 refine Ws ?_
 rcases bs (ri.1==8) with hcs | hcs
 ·refine R z (n_c z hcs)<|Re z z z<|Re z z z<|Wx z (fun _=>?_) (fun hc=>(a_w z hc).elim)
  refine Wq<|Wm z ?_
  have ca:=(((h3.ag B).e h1).c h2<|e_ hb).e G;have cb:=mm1 (Blk.lt hB1) h3.s;have cc:=lt_ hd G.s;obtain ⟨_,_,eL,b6⟩:=V_<|ifT b5 hcs;refine E z (fc call71 z<|c_c (B:=B) eL (((ha.e h1).c h2<|djs cb).e G) (zt' I cc) hBg (J.g ca) O a0<|lb z) ?_;rintro _ cd ⟨sf,rfl,ce,cf⟩;refine Wx z (fun ar=>?_) (fun ar=>?_)
  ·refine Ws<|R z (bP (parts:=[]) (cs:=[vI 0,sl none 0 0,sl none 0 0]) P_ z z) ?_
   have cg:=mmr<|Blk.lt hB1
   refine E0 (fs0 (cur':=[vI 0,sl none 0 0,sl none 0 0]) b_ z z ((((h4.e h1).c h2<|djs<|mmr h4.lt).e G).c sf<|atp cg) z z z z) ?_;rintro _ eM ⟨eN,eO⟩;have ch:=eO.one;refine Rw z ?_
   obtain rfl:=som<|ifT b6 ar;exact Wr<|rtO<|F_ hr (u_ i_ b_ z eN z) z ⟨(cM (cM (k_ (cM (k_ (k_ (cr [g1] w0) h3:Chg (· ∈ [g1]) w0 H) h1:Chg (· ∈ [g1]) w0 L) h2 (mor h3.s:∀k∈[H.z],k∈[g1]∨w0.z<=k):Chg (· ∈ [g1]) w0 V) G:Chg (· ∈ [g1]) w0 W) sf (io sr):Chg (· ∈ [g1]) w0 cd) ch (mor lr:∀k∈[w0.z],k∈[g1]∨w0.z<=k):Chg (· ∈ [g1]) w0 eM),none,0,0,[],none,0,0,[],z,ii z,onL,onL,ce,cf.c ch<|djs cg,nd0,al0⟩
  refine Wk<|Wm z<|R z (bP (parts:=[]) (cs:=[vI 0,sl none 0 0,sl none 0 0]) P_ z z)<|Rf z R_ z<|R z (l0 A_ z<|((aa.e G).c sf<|atp cb).at z) ?_
  obtain ⟨_,eP,cX⟩:=bdS<|ifF b6 ar;refine RX z (at_ (α:=Int) y_ z_3 z z z (a9.g<|(hh.e G).c sf<|e_<|d_ hBg) eP) ?_;rintro _ ⟨_,_,_,rfl,eQ,eR,_⟩;obtain ⟨rfl,eS⟩:=T_ eR;refine R z (l0 g_3 z<|eQ.at0 z) ?_;have aH:=lt_ cc sf.s;obtain ⟨eT,_,_,eU,cY⟩:=O_ cX;refine E z (fc call74 z<|av.run (B:=B) (x2:=(⟨0,([]:List UInt8),([]:List Val)⟩:Val)) eU cf (zt' I aH) hBg (J.g<|ca.c sf<|e_<|d_ hBg) O ce (ii z) onL K_ an_ an_ onL K_ an_ an_ an_ (lb z) eS<|lb z) ?_;rintro _ eV ⟨ci,cj,ck,cl,cm,cn,co,cp,cq,rfl,eW,eX,eY,eZ,f0,aI,am⟩;refine Re z z z<|Re z z z ?_
  have aJ:=mmr<|Blk.lt hB1
  refine E0 (fs0 (cur':=[vI eT.number,sl cj ck cl,sl cn co cp]) b_ z z (((((h4.e h1).c h2<|djs<|mmr h4.lt).e G).c sf<|atp aJ).c ci<|atp<|nmA aJ<|nmA (nmN _)<|nmN _) z z z z) ?_;rintro _ f1 ⟨f2,f3⟩;have an:=f3.one;refine Rw z ?_
  obtain rfl:=som cY;have ct:=lt_ (lt_ (lt_ h1.s h2.s) G.s) sf.s;exact Wr<|rtO<|F_ hr (u_ i_ b_ z f2 z) z ⟨(cM (cM (cM (k_ (cM (k_ (k_ (cr [g1] w0) h3:Chg (· ∈ [g1]) w0 H) h1:Chg (· ∈ [g1]) w0 L) h2 (mor h3.s:∀k∈[H.z],k∈[g1]∨w0.z<=k):Chg (· ∈ [g1]) w0 V) G:Chg (· ∈ [g1]) w0 W) sf (io sr):Chg (· ∈ [g1]) w0 cd) ci (aa_ (io sr) al0):Chg (· ∈ [g1]) w0 eV) an (mor lr:∀k∈[w0.z],k∈[g1]∨w0.z<=k):Chg (· ∈ [g1]) w0 f1),cj,ck,cl,cm,cn,co,cp,cq,z,eW,eX.c an (or1 (al_ am) al0 (S_ (d_ h4.lt) ct):∀k∈cm,k∉[w0.z]),eY.c an (or1 (ar_ am) al0 (S_ (d_ h4.lt) ct):∀k∈cq,k∉[w0.z]),eZ,f0.c an<|djs aJ,na_ (nl_ aI) (nr_ aI)<|nj aI,aa_ (a_l (al_ am) al0 aH)<|a_l (ar_ am) al0 aH⟩
 have b7:=ifF b5 hcs;refine R z (n_d z hcs)<|Re z z z<|Re z z z<|Wx z (fun hc=>(a_w hc z).elim) (fun _=>?_)
 refine Ws ?_
 rcases bs (ri.1==9) with hct | hct
 ·refine R z (n_e z hct)<|Re z z z<|Re z z z<|Wx z (fun _=>?_) (fun hc=>(a_w z hc).elim)
  refine Wm z<|R z (bP (parts:=[]) (cs:=[vI 0,sl none 0 0,sl none 0 0]) P_ z z)<|Rf z R_ z<|R z (l0 A_ z<|(aa.e G).at z) ?_
  obtain ⟨_,cZ,cN⟩:=bdS<|ifT b7 hct;refine RX z (at_ (α:=Int) y_ z_3 z z z (a9.g<|hh.e G) cZ) ?_;rintro _ ⟨_,_,_,rfl,d0,d1,_⟩;obtain ⟨rfl,d2⟩:=T_ d1;refine R z (l0 g_3 z<|d0.at0 z) ?_;have aK:=lt_ hd G.s;obtain ⟨d3,_,_,d4,cO⟩:=O_ cN;refine E z (fc call74 z<|av.run (B:=B) (x2:=(⟨0,([]:List UInt8),([]:List Val)⟩:Val)) d4 (((ha.e h1).c h2<|djs<|mm1 (Blk.lt hB1) h3.s).e G) (zt' I aK) hBg (J.g<|(((h3.ag B).e h1).c h2<|e_ hb).e G) O a0 (ii z) onL K_ an_ an_ onL K_ an_ an_ an_ (lb z) d2<|lb z) ?_;rintro _ d5 ⟨cu,cv,cw,cx,cz,cA,cB,cC,cD,rfl,d6,d7,d8,d9,da,aL,ao⟩;refine Re z z z<|Re z z z ?_
  have cE:=mmr<|Blk.lt hB1
  refine E0 (fs0 (cur':=[vI d3.number,sl cv cw cx,sl cA cB cC]) b_ z z ((((h4.e h1).c h2<|djs<|mmr h4.lt).e G).c cu<|atp<|nmA cE<|nmA (nmN _)<|nmN _) z z z z) ?_;rintro _ db ⟨dc,dd⟩;have ap:=dd.one;refine Rw z ?_
  obtain rfl:=som cO;have cF:=lt_ (lt_ h1.s h2.s) G.s;exact Wr<|rtO<|F_ hr (u_ i_ b_ z dc z) z ⟨(cM (cM (k_ (cM (k_ (k_ (cr [g1] w0) h3:Chg (· ∈ [g1]) w0 H) h1:Chg (· ∈ [g1]) w0 L) h2 (mor h3.s:∀k∈[H.z],k∈[g1]∨w0.z<=k):Chg (· ∈ [g1]) w0 V) G:Chg (· ∈ [g1]) w0 W) cu (aa_ (io sr) al0):Chg (· ∈ [g1]) w0 d5) ap (mor lr:∀k∈[w0.z],k∈[g1]∨w0.z<=k):Chg (· ∈ [g1]) w0 db),cv,cw,cx,cz,cA,cB,cC,cD,z,d6,d7.c ap (or1 (al_ ao) al0 (S_ (d_ h4.lt) cF):∀k∈cz,k∉[w0.z]),d8.c ap (or1 (ar_ ao) al0 (S_ (d_ h4.lt) cF):∀k∈cD,k∉[w0.z]),d9,da.c ap<|djs cE,na_ (nl_ aL) (nr_ aL)<|nj aL,aa_ (a_l (al_ ao) al0 aK)<|a_l (ar_ ao) al0 aK⟩
 refine R z (n_f z hct)<|Re z z z<|Re z z z<|Wx z (fun hc=>(a_w hc z).elim) (fun _=>?_)
 refine Wk<|Wq<|Wm z ?_
 have cG:=lt_ hd G.s;obtain ⟨_,_,de,b8⟩:=V_<|ifF b7 hct;refine E z (fc call71 z<|c_c (B:=B) de (((ha.e h1).c h2<|djs<|mm1 (Blk.lt hB1) h3.s).e G) (zt' I cG) hBg (J.g<|(((h3.ag B).e h1).c h2<|e_ hb).e G) O a0<|lb z) ?_;rintro _ cH ⟨sn,rfl,cI,cJ⟩;refine R z (not_ z)<|Wx z (fun au=>?_) (fun au=>?_)
 ·refine Ws<|R z (bP (parts:=[]) (cs:=[vI 0,sl none 0 0,sl none 0 0]) P_ z z) ?_
  have cK:=mmr<|Blk.lt hB1
  refine E0 (fs0 (cur':=[vI 0,sl none 0 0,sl none 0 0]) b_ z z ((((h4.e h1).c h2<|djs<|mmr h4.lt).e G).c sn<|atp cK) z z z z) ?_;rintro _ df ⟨dg,dh⟩;have cL:=dh.one;refine Rw z ?_
  obtain rfl:=som<|ifT b8 au;exact Wr<|F_ hr (u_ i_ b_ z dg z) z ⟨(cM (cM (k_ (cM (k_ (k_ (cr [g1] w0) h3:Chg (· ∈ [g1]) w0 H) h1:Chg (· ∈ [g1]) w0 L) h2 (mor h3.s:∀k∈[H.z],k∈[g1]∨w0.z<=k):Chg (· ∈ [g1]) w0 V) G:Chg (· ∈ [g1]) w0 W) sn (io sr):Chg (· ∈ [g1]) w0 cH) cL (mor lr:∀k∈[w0.z],k∈[g1]∨w0.z<=k):Chg (· ∈ [g1]) w0 df),none,0,0,[],none,0,0,[],z,ii z,onL,onL,cI,cJ.c cL<|djs cK,nd0,al0⟩
 refine Wk<|Wq (Wd (X:=noX) 0 (pl_ 14 [8]) mo (by kernel_rfl) fun di su _=>dM z z z<|dR z z (C_ z)<|dR z z (fd j_9 z) ?_)
 have aM:=cJ.e su;refine dR z z (l0 g_9 z<|aM.at z)<|dM z z z<|dR z z (C_ z)<|dR z z (fd d_g z)<|dR z z (l0 g_3 z<|aM.at z) ?_
 have aN:=lt_ (lt_ cG sn.s) su.s;obtain ⟨_,dj,dk,cP⟩:=V_<|ifF b8 au;refine dE z z (fc call76 z<|W_w3u dk (zt' I aN) O cI) (.inr fun _ _ h=>o_<|h.1) ?_;rintro _ dl ⟨aO,aP,aQ,aR,dm,rfl,dn,dp,dq,aS⟩;refine dM z z z<|dR z z (ext_ z z)<|dR z z (ext_ z z)<|dQ z z z<|dQ z z z<|pD<|Wo<|Wm z<|Rm z<|R z (C_ z)<|Rf z d_g z<|E0 (fs0 (cur':=[sl A0 N0 C0,Str.v x1.text,vI dj]) z_3 z z (aM.e aO) z z z z) ?_
 rintro _ dr ⟨ds,dt⟩;have aT:=dt.one;refine Wn<|Wm z<|R z (bP (parts:=[(1,.tmp 128)]) (cs:=[vI 0,sl aP aQ aR,sl none 0 0]) P_ z z) ?_
 have aU:=mmr<|Blk.lt hB1
 refine E0 (fs0 (cur':=[vI 0,sl aP aQ aR,sl none 0 0]) b_ z z (((((((h4.e h1).c h2<|djs<|mmr h4.lt).e G).c sn<|atp aU).e su).e aO).c aT<|atp aU) z z z z) ?_;rintro _ du ⟨dv,dw⟩;have aV:=dw.one;refine Rw z ?_
 obtain rfl:=som cP;exact Wr<|F_ hr (u_ i_ b_ z dv z) z ⟨(cM (cM (k_ (k_ (cM (k_ (cM (k_ (k_ (cr [g1] w0) h3:Chg (· ∈ [g1]) w0 H) h1:Chg (· ∈ [g1]) w0 L) h2 (mor h3.s:∀k∈[H.z],k∈[g1]∨w0.z<=k):Chg (· ∈ [g1]) w0 V) G:Chg (· ∈ [g1]) w0 W) sn (io sr):Chg (· ∈ [g1]) w0 cH) su:Chg (· ∈ [g1]) w0 di) aO:Chg (· ∈ [g1]) w0 dl) aT (io sr):Chg (· ∈ [g1]) w0 dr) aV (mor lr:∀k∈[w0.z],k∈[g1]∨w0.z<=k):Chg (· ∈ [g1]) w0 du),aP,aQ,aR,dm,none,0,0,[],z,ii z,(dn.c aT<|h_ aS (Blk.lt hB1) aN).c aV<|h_ aS h4.lt<|lt_ (lt_ (lt_ (lt_ h1.s h2.s) G.s) sn.s) su.s,onL,dp,ds.c aV<|djs aU,na_ dq K_<|nmN _,aa_ (j_ aS aN) an_⟩
theorem T_w2c (ih:h_C n):l_5 (f_M n<|a_K n):=by
 obtain ⟨c5,_,_,_⟩:=ih
 constructor
 intro A0 N0 C0 g1 B x1 x2 res w0 hm hB1 O hBg a5 a6 bU cQ;unfold f_M at hm
 refine goG func72 z z z fun fn hr=>Ws<|E z (fa E_) ?_
 rintro _ G ⟨rfl,b8⟩;have hf:=b8.below;have J:Blk G w0.z [vI 0,sl none 0 0,sl none 0 0]:=b8.blk;refine Rw z<|Ws<|R z (bP (parts:=[]) (cs:=[vI 0,sl none 0 0,sl none 0 0]) P_ z z)<|E z (fa E_) ?_
 rintro _ a1 ⟨rfl,b9⟩;have he:=b9.below;have hh:Blk a1 G.z [vI 0,sl none 0 0,sl none 0 0]:=b9.blk;refine E0 (fs0 (cur':=[vI 0,sl none 0 0,sl none 0 0]) b_ z z hh z z z z) ?_;rintro _ a7 ⟨aw,c6⟩;have L:=c6.one;refine Wn<|Wq<|Wm z ?_
 have ay:∀k∈[G.z],¬B k:=or0 (d_ lr)<|p_<|zt' O hf.s;have ba:=((hf.ag B).e he).c L<|e_ ay
 have hg:=mm1 (Blk.lt hB1) hf.s;have bb:=lt_ (lt_ hf.s he.s) L.s;obtain ⟨_,_,c7,aZ⟩:=V_ hm;refine E z (fc call71 z<|c_c (B:=B) c7 (((hB1.e hf).e he).c L<|djs hg) (zt' O bb) hBg (a5.g ba) a6 bU<|lb z) ?_;rintro _ a8 ⟨s8,rfl,bc,be⟩;refine R z (not_ z)<|Wx z (fun ao=>?_) (fun ao=>?_)
 ·refine Ws<|R z (lN (vs:=[vI 0,sl none 0 0,sl none 0 0]) i_ b_ z z fid<|(aw.c s8<|atp hg).row 0 3 z) ?_
  have bf:=mmr<|Blk.lt hB1
  refine E0 (fs0 (cur':=[vI 0,sl none 0 0,sl none 0 0]) b_ z z (((J.e he).c L<|djs<|mmr J.lt).c s8<|atp bf) z z z z) ?_;rintro _ c8 ⟨c9,ca⟩;have bg:=ca.one;refine Rw z ?_
  obtain rfl:=som<|ifT aZ ao;exact Wr<|F_ hr (u_ i_ b_ z c9 z) z ⟨(cM (cM (cM (k_ (k_ (cr [g1] w0) hf:Chg (· ∈ [g1]) w0 G) he:Chg (· ∈ [g1]) w0 a1) L (mor hf.s:∀k∈[G.z],k∈[g1]∨w0.z<=k):Chg (· ∈ [g1]) w0 a7) s8 (io sr):Chg (· ∈ [g1]) w0 a8) bg (mor lr:∀k∈[w0.z],k∈[g1]∨w0.z<=k):Chg (· ∈ [g1]) w0 c8),none,0,0,[],none,0,0,[],z,ii z,onL,onL,bc,be.c bg<|djs bf,nd0,al0⟩
 refine Wk<|Wq<|Wm z ?_
 have bh:=ba.c s8<|e_<|d_ hBg
 have bi:=lt_ bb s8.s;obtain ⟨_,_,cb,b0⟩:=V_<|ifF aZ ao;refine E z (fc call71 z<|c_c (B:=B) cb be (zt' O bi) hBg (a5.g bh) a6 bc<|lb z) ?_;rintro _ I ⟨sa,rfl,bj,bk⟩;refine Wx z (fun aq=>?_) (fun aq=>?_)
 ·refine Ws<|R z (lN (vs:=[vI 0,sl none 0 0,sl none 0 0]) i_ b_ z z fid<|((aw.c s8<|atp hg).c sa<|atp hg).row 0 3 z) ?_
  have az:=mmr<|Blk.lt hB1
  refine E0 (fs0 (cur':=[vI 0,sl none 0 0,sl none 0 0]) b_ z z ((((J.e he).c L<|djs<|mmr J.lt).c s8<|atp az).c sa<|atp az) z z z z) ?_;rintro _ cc ⟨cd,ce⟩;have bm:=ce.one;refine Rw z ?_
  obtain rfl:=som<|ifT b0 aq;exact Wr<|F_ hr (u_ i_ b_ z cd z) z ⟨(cM (cM (cM (cM (k_ (k_ (cr [g1] w0) hf:Chg (· ∈ [g1]) w0 G) he:Chg (· ∈ [g1]) w0 a1) L (mor hf.s:∀k∈[G.z],k∈[g1]∨w0.z<=k):Chg (· ∈ [g1]) w0 a7) s8 (io sr):Chg (· ∈ [g1]) w0 a8) sa (io sr):Chg (· ∈ [g1]) w0 I) bm (mor lr:∀k∈[w0.z],k∈[g1]∨w0.z<=k):Chg (· ∈ [g1]) w0 cc),none,0,0,[],none,0,0,[],z,ii z,onL,onL,bj,bk.c bm<|djs az,nd0,al0⟩
 refine Wk ?_;obtain ⟨_,bV,b3⟩:=bdS<|ifF b0 aq;refine b_S (σ:=Int×(List Val)) (ρ:=Val×Bool×Int) (fun s a w=>un2 (fun V a2=>∃ap nq ct Si,Sat 55 [(0,pt g1),(1,vI x2),(4,pt w0.z),(6,pt G.z)] a/\Chg (· ∈ ([g1]++[G.z])) I w/\inI V/\a_ w Si (sl ap nq ct) a2/\Si.Nodup/\(∀k∈Si,I.z<=k)/\Blk w g1 [sl A0 N0 C0,Str.v x1.text,vI V]/\Blk w G.z [vI 0,sl none 0 0,sl ap nq ct]) s) (fun s a w=>un2 (fun V a2=>∃ap nq ct Si,Sat 55 [(4,pt w0.z)] a/\Chg (· ∈ ([g1]++[G.z])) I w/\inI V/\a_ w Si (sl ap nq ct) a2/\Si.Nodup/\(∀k∈Si,I.z<=k)/\Blk w g1 [sl A0 N0 C0,Str.v x1.text,vI V]/\Blk w G.z [vI 0,sl none 0 0,sl ap nq ct]) s) (rQ prog fn<|Q29 w0 g1 B A0 N0 C0 x1) bV ?_ ?_ ?_ ?_
 ·exact fun _ q=>⟨none,0,0,[],q.k<|s4 z z z z,cr ([g1]++[G.z]) I,bj,onL,K_,an_,bk,(aw.c s8<|atp hg).c sa<|atp hg⟩
 ·rintro ⟨V,a2⟩ _ af _ ⟨ap,nq,ct,Si,bW,sb,bn,hu,aA,hd,aB,ah⟩ bX;refine Wu ?_ bW;refine Wb<|Wm z<|Rm z<|R z (C_ z)<|Rf z k_p z<|Rf z a_9 z<|R z (l0 a_b z<|aB.at z)<|Rm z ?_
  obtain ⟨_,cf,bY⟩:=bdS<|a_t bX;have bo:=(bh.c sa<|e_<|d_ hBg).c sb<|nmA (e_<|d_ hBg)<|e_ ay
  have bp:=a5.g bo;refine RX z (at_ (α:=g_) a_3 t_ z z z bp cf) ?_;rintro _ ⟨_,_,_,rfl,cg,ch,_⟩;obtain ⟨_,_,_,_,_,_,_,_,_,_,_,_,rfl,_,_,_,_,_,_,ci⟩:=a_v ch;refine Rf z R_ z<|R z (l0 A_ z<|cg.at (j:=7) z) ?_
  obtain ⟨_,cj,bZ⟩:=bdS bY;refine RX z (at_ (α:=Int) y_ z_3 z z z ci cj) ?_;rintro _ ⟨_,_,_,rfl,ck,cl,_⟩;obtain ⟨rfl,cm⟩:=T_ cl;refine R z (l0 g_3 z<|ck.at0 z) ?_;have hv:=lt_ bi sa.s;have hk:=lt_ hv sb.s;obtain ⟨ai,cn,_,co,c0⟩:=O_ bZ;refine E z (fc call42 z<|c5.run (B:=B) co aB (zt' O hk) hBg bp a6 bn cm) ?_;rintro _ wl ⟨s3,aC,aD,aE,cp,aF,aG,aH,cq,rfl,cu,aj,ak,bq,bt,aI,h4⟩;refine Rm z<|Re z z z<|Re z z z<|E z (fa E_) ?_
  rintro _ a9 ⟨rfl,bu⟩;have H:=bu.below;refine E0 (fs0 (cur':=[vI ai.number,sl aC aD aE,sl aF aG aH]) b_ z z (bu.blk:Blk a9 wl.z [vI 0,sl none 0 0,sl none 0 0]) z z z z) ?_;rintro _ ww ⟨cv,cw⟩;have h2:=cw.one;refine Rw z<|Wq<|Wq ?_
  obtain ⟨cx,b4,b5⟩:=bdS c0;refine Wt (fun a w=>∃(aJ:Bool),aJ=cx/\Sat 55 [(0,pt g1),(1,vI x2),(4,pt w0.z),(6,pt G.z),(7,pt wl.z),(40,vB aJ)] a/\Below ww.z ww w) ?_ ?_
  ·refine Wg<|Rm z<|R z (not_ z)<|Rm z ?_
   rcases bs (!cn) with hcr | hcr
   ·iterate 4 refine Nh z hcr ?_
    exact R z (pT z hcr z)<|Wl (fun _ q=>⟨true,som<|ifT b4 hcr,q.k<|s6 z z z z z z,br ww⟩)
   refine Rh z hcr (fd Q_ z) ?_;exact Rh z hcr (l0 X_ z<|(((ah.c s3<|atp hg).e H).c h2<|djs<|mm1 hh.lt<|lt_ (lt_ (lt_ (lt_ L.s s8.s) sa.s) sb.s) s3.s).at z)<|Rh z hcr (lnR Y_ z<|or_ (((hu.c s3<|h_ hd (Blk.lt hB1) hv).e H).c h2<|ds<|mno (a_.lt hu) s3.s)<|zin (B:=B) hd<|a_.lt hu)<|Rh z hcr (a_z z z)<|R z (pF z hcr z)<|Wl (fun _ q=>⟨decide<|40<=(a2.length:Int),som<|ifF b4 hcr,q.k<|s6 z z z z z z,br ww⟩)
  rintro cy aa ⟨aJ,rfl,_,s5⟩;revert cy;refine Wo<|Wc z (fun ar=>?_) (fun ar=>?_)
  ·refine Ws ?_;refine R z (lN (vs:=[vI 0,sl none 0 0,sl ap nq ct]) i_ b_ z z fid<|((((ah.c s3<|atp hg).e H).c h2<|djs<|mm1 hh.lt<|lt_ (lt_ (lt_ (lt_ L.s s8.s) sa.s) sb.s) s3.s).e s5).row 0 3 z) ?_;have bv:=mmr J.lt;have ab:=mmr<|Blk.lt hB1
   have bw:=lt_ (lt_ (lt_ he.s L.s) s8.s) sa.s;refine E0 (fs0 (cur':=[vI 0,sl none 0 0,sl ap nq ct]) b_ z z (((((((((J.e he).c L<|djs bv).c s8<|atp ab).c sa<|atp ab).c sb<|atp<|nmA ab<|ds bv).c s3<|atp ab).e H).c h2<|djs<|mm1 J.lt<|lt_ (lt_ bw sb.s) s3.s).e s5) z z z z) ?_;rintro _ cA ⟨cB,cC⟩;have aK:=cC.one;refine Rw z ?_
   have bx:∀k∈[G.z],k∈[g1]∨w0.z<=k:=mor hf.s;have bz:=lt_ hk s3.s;exact Wr<|rtO<|qL (som<|ifT b5 ar).symm<|F_ hr (u_ i_ b_ z cB z) z ⟨(cM (k_ (cM (k_ (cM (cM (cM (cM (cM (k_ (k_ (cr [g1] w0) hf:Chg (· ∈ [g1]) w0 G) he:Chg (· ∈ [g1]) w0 a1) L bx:Chg (· ∈ [g1]) w0 a7) s8 (io sr):Chg (· ∈ [g1]) w0 a8) sa (io sr):Chg (· ∈ [g1]) w0 I) sb (aa_ (io sr) bx):Chg (· ∈ [g1]) w0 af) s3 (io sr):Chg (· ∈ [g1]) w0 wl) H:Chg (· ∈ [g1]) w0 a9) h2 (mor bz:∀k∈[wl.z],k∈[g1]∨w0.z<=k):Chg (· ∈ [g1]) w0 ww) s5:Chg (· ∈ [g1]) w0 aa) aK (mor lr:∀k∈[w0.z],k∈[g1]∨w0.z<=k):Chg (· ∈ [g1]) w0 cA),none,0,0,[],ap,nq,ct,Si,z,ii z,onL,((((hu.c s3<|h_ hd (Blk.lt hB1) hv).e H).c h2<|ds<|mno (a_.lt hu) s3.s).e s5).c aK<|h_ hd J.lt bw,bq,(((bt.e H).c h2<|djs<|mm1 (Blk.lt hB1) bz).e s5).c aK<|djs ab,na_ K_ aA an_,aa_ an_<|j_ hd hv⟩
  refine Wk<|Ws<|Rf z Q_ z ?_
  have bA:=lt_ (lt_ L.s s8.s) sa.s;have W:=lt_ bA sb.s;have al:=lt_ W s3.s;have bB:=(((ah.c s3<|atp hg).e H).c h2<|djs<|mm1 hh.lt al).e s5;refine R z (l0 X_ z<|bB.at z)<|R z (lN (vs:=[vI ai.number,sl aC aD aE,sl aF aG aH]) i_ b_ z z fid<|(cv.e s5).row 0 3 z)<|E z (fS [(.tmp 44)] c_a z z z (a_J z) (lb z)<|lb z) ?_
  rintro _ am ⟨rfl,bC⟩;have hc:=bC.below;have cR:=((aj.e H).c h2<|ds<|mnr<|a_.lt aj).e s5;have cS:=((ak.e H).c h2<|ds<|mnr<|a_.lt ak).e s5;have ad:=h_ hd (Blk.lt hB1) hv;obtain ⟨cD,cE,c1⟩:=bdS<|ifF b5 ar;refine E z (b_i (α:=Val) c_a cE z z (((((hu.c s3 ad).e H).c h2<|ds<|mno (a_.lt hu) s3.s).e s5).e hc) aA (bC.blk:Blk am aa.z [vI ai.number,sl aC aD aE,sl aF aG aH]) (e_0 (x:=ai) (S1:=cp) (S2:=cq) cu ((((aj.e H).c h2<|ds<|mnr<|a_.lt aj).e s5).e hc)<|(((ak.e H).c h2<|ds<|mnr<|a_.lt ak).e s5).e hc) (aa_ (a_Y (al_ h4) (a_.lt hu) lr)<|a_Y (ar_ h4) (a_.lt hu) lr)<|na_ (nl_ aI) (nr_ aI)<|nj aI) ?_;rintro _ aL ⟨Sj,ax,ny,cz,rfl,ss,aM,aN,hn⟩;refine Rf z Q_ z ?_;have an:=h_ hd hh.lt bA;refine E0 (fs0 (cur':=[vI 0,sl none 0 0,sl ax ny cz]) d_h z z ((bB.e hc).c ss<|djs an) z z z z) ?_;rintro _ aO ⟨aP,cF⟩;have ho:=cF.one;refine Wn<|Wq<|Wm z ?_
  have ae:=lt_ hk s3.s;have bD:=((((((bo.c s3<|e_<|d_ hBg).e H).c h2<|e_ (or0 (d_ lr) (p_<|zt' O ae):∀k∈[wl.z],¬B k)).e s5).e hc).c ss<|e_ (or0 hd (p_<|zt' O hv):∀k∈Si,¬B k)).c ho<|e_ ay
  have a3:=lt_ (lt_ (lt_ (lt_ ae H.s) h2.s) s5.s) hc.s;have bE:=lt_ (lt_ a3 ss.s) ho.s;obtain ⟨_,_,cG,b6⟩:=V_ c1;refine E z (fc call71 z<|c_c (B:=B) cG ((((((bt.e H).c h2<|djs<|mm1 (Blk.lt hB1) ae).e s5).e hc).c ss<|djs ad).c ho<|djs hg) (zt' O bE) hBg (a5.g bD) a6 bq<|lb z) ?_;rintro _ aQ ⟨sm,rfl,bF,bG⟩;refine Wx z (fun au=>?_) (fun au=>?_)
  ·refine Ws<|R z (lN (vs:=[vI 0,sl none 0 0,sl ax ny cz]) i_ b_ z z fid<|(aP.c sm<|atp hg).row 0 3 z) ?_
   have aR:=mmr J.lt;have a4:=mmr<|Blk.lt hB1
   have bH:=lt_ (lt_ (lt_ he.s L.s) s8.s) sa.s;have aS:=lt_ bH sb.s;have bI:=lt_ aS s3.s;have bJ:=h_ hd J.lt bH;refine E0 (fs0 (cur':=[vI 0,sl none 0 0,sl ax ny cz]) b_ z z (((((((((((((J.e he).c L<|djs aR).c s8<|atp a4).c sa<|atp a4).c sb<|atp<|nmA a4<|ds aR).c s3<|atp a4).e H).c h2<|djs<|mm1 J.lt bI).e s5).e hc).c ss<|djs bJ).c ho<|djs aR).c sm<|atp a4) z z z z) ?_;rintro _ cH ⟨cI,cJ⟩;have aT:=cJ.one;refine Rw z ?_
   have aU:∀k∈[G.z],k∈[g1]∨w0.z<=k:=mor hf.s;exact Wr<|rtO<|qL (som<|ifT b6 au).symm<|F_ hr (u_ i_ b_ z cI z) z ⟨(cM (cM (cM (cM (k_ (k_ (cM (k_ (cM (cM (cM (cM (cM (k_ (k_ (cr [g1] w0) hf:Chg (· ∈ [g1]) w0 G) he:Chg (· ∈ [g1]) w0 a1) L aU:Chg (· ∈ [g1]) w0 a7) s8 (io sr):Chg (· ∈ [g1]) w0 a8) sa (io sr):Chg (· ∈ [g1]) w0 I) sb (aa_ (io sr) aU):Chg (· ∈ [g1]) w0 af) s3 (io sr):Chg (· ∈ [g1]) w0 wl) H:Chg (· ∈ [g1]) w0 a9) h2 (mor ae:∀k∈[wl.z],k∈[g1]∨w0.z<=k):Chg (· ∈ [g1]) w0 ww) s5:Chg (· ∈ [g1]) w0 aa) hc:Chg (· ∈ [g1]) w0 am) ss (or0 hd (q_ hv):∀k∈Si,k∈[g1]∨w0.z<=k):Chg (· ∈ [g1]) w0 aL) ho aU:Chg (· ∈ [g1]) w0 aO) sm (io sr):Chg (· ∈ [g1]) w0 aQ) aT (mor lr:∀k∈[w0.z],k∈[g1]∨w0.z<=k):Chg (· ∈ [g1]) w0 cH),none,0,0,[],ax,ny,cz,Sj,z,ii z,onL,((aM.c ho (or2 hn an (aa_ (h_ (al_ h4) hh.lt W)<|h_ (ar_ h4) hh.lt W) (S_ (d_ hh.lt)<|lt_ (lt_ (lt_ (lt_ al H.s) h2.s) s5.s) hc.s):∀k∈Sj,k∉[G.z])).c sm (or2 hn ad (aa_ (h_ (al_ h4) (Blk.lt hB1) hk)<|h_ (ar_ h4) (Blk.lt hB1) hk) (S_ (d_<|Blk.lt hB1) a3):∀k∈Sj,k∉[g1])).c aT (or2 hn bJ (aa_ (h_ (al_ h4) J.lt aS)<|h_ (ar_ h4) J.lt aS) (S_ (d_ J.lt)<|lt_ (lt_ (lt_ (lt_ bI H.s) h2.s) s5.s) hc.s):∀k∈Sj,k∉[w0.z]),bF,bG.c aT<|djs a4,na_ K_ aN an_,aa_ an_ (or2 hn (j_ hd hv) (aa_ (j_ (al_ h4) hk)<|j_ (ar_ h4) hk) (b_9 a3):∀k∈Sj,w0.z<=k)⟩
  refine Wk<|Wm z ?_
  obtain ⟨_,cK,cL,b7⟩:=V_<|ifF b6 au;refine E z (fc call71 z<|c_c (B:=B) cL bG (zt' O<|lt_ bE sm.s) hBg (a5.g<|bD.c sm<|e_<|d_ hBg) a6 bF<|lb z) ?_;rintro _ bK ⟨Y,rfl,bL,bM⟩;refine R z (not_ z)<|Wx z (fun av=>?_) (fun av=>?_)
  ·refine Ws<|R z (lN (vs:=[vI 0,sl none 0 0,sl ax ny cz]) i_ b_ z z fid<|((aP.c sm<|atp hg).c Y<|atp hg).row 0 3 z) ?_
   have aV:=mmr J.lt;have a0:=mmr<|Blk.lt hB1
   have bN:=lt_ (lt_ (lt_ he.s L.s) s8.s) sa.s;have aW:=lt_ bN sb.s;have bO:=lt_ aW s3.s;have bQ:=h_ hd J.lt bN;refine E0 (fs0 (cur':=[vI 0,sl none 0 0,sl ax ny cz]) b_ z z ((((((((((((((J.e he).c L<|djs aV).c s8<|atp a0).c sa<|atp a0).c sb<|atp<|nmA a0<|ds aV).c s3<|atp a0).e H).c h2<|djs<|mm1 J.lt bO).e s5).e hc).c ss<|djs bQ).c ho<|djs aV).c sm<|atp a0).c Y<|atp a0) z z z z) ?_;rintro _ cN ⟨cO,cP⟩;have aX:=cP.one;refine Rw z ?_
   have bR:∀k∈Sj,k∉[g1]:=or2 hn ad (aa_ (h_ (al_ h4) (Blk.lt hB1) hk)<|h_ (ar_ h4) (Blk.lt hB1) hk)<|S_ (d_<|Blk.lt hB1) a3;have aY:∀k∈[G.z],k∈[g1]∨w0.z<=k:=mor hf.s;exact Wr<|rtO<|qL (som<|ifT b7 av).symm<|F_ hr (u_ i_ b_ z cO z) z ⟨(cM (cM (cM (cM (cM (k_ (k_ (cM (k_ (cM (cM (cM (cM (cM (k_ (k_ (cr [g1] w0) hf:Chg (· ∈ [g1]) w0 G) he:Chg (· ∈ [g1]) w0 a1) L aY:Chg (· ∈ [g1]) w0 a7) s8 (io sr):Chg (· ∈ [g1]) w0 a8) sa (io sr):Chg (· ∈ [g1]) w0 I) sb (aa_ (io sr) aY):Chg (· ∈ [g1]) w0 af) s3 (io sr):Chg (· ∈ [g1]) w0 wl) H:Chg (· ∈ [g1]) w0 a9) h2 (mor ae:∀k∈[wl.z],k∈[g1]∨w0.z<=k):Chg (· ∈ [g1]) w0 ww) s5:Chg (· ∈ [g1]) w0 aa) hc:Chg (· ∈ [g1]) w0 am) ss (or0 hd (q_ hv):∀k∈Si,k∈[g1]∨w0.z<=k):Chg (· ∈ [g1]) w0 aL) ho aY:Chg (· ∈ [g1]) w0 aO) sm (io sr):Chg (· ∈ [g1]) w0 aQ) Y (io sr):Chg (· ∈ [g1]) w0 bK) aX (mor lr:∀k∈[w0.z],k∈[g1]∨w0.z<=k):Chg (· ∈ [g1]) w0 cN),none,0,0,[],ax,ny,cz,Sj,z,ii z,onL,(((aM.c ho (or2 hn an (aa_ (h_ (al_ h4) hh.lt W)<|h_ (ar_ h4) hh.lt W) (S_ (d_ hh.lt)<|lt_ (lt_ (lt_ (lt_ al H.s) h2.s) s5.s) hc.s):∀k∈Sj,k∉[G.z])).c sm bR).c Y bR).c aX (or2 hn bQ (aa_ (h_ (al_ h4) J.lt aW)<|h_ (ar_ h4) J.lt aW) (S_ (d_ J.lt)<|lt_ (lt_ (lt_ (lt_ bO H.s) h2.s) s5.s) hc.s):∀k∈Sj,k∉[w0.z]),bL,bM.c aX<|djs a0,na_ K_ aN an_,aa_ an_ (or2 hn (j_ hd hv) (aa_ (j_ (al_ h4) hk)<|j_ (ar_ h4) hk) (b_9 a3):∀k∈Sj,w0.z<=k)⟩
  refine a_I ?_;have bS:∀k∈Sj,k∉[g1]:=or2 hn ad (aa_ (h_ (al_ h4) (Blk.lt hB1) hk)<|h_ (ar_ h4) (Blk.lt hB1) hk)<|S_ (d_<|Blk.lt hB1) a3;have bT:=lt_ sb.s s3.s;exact fun _ q=>⟨(cK,cD),(som<|ifF b7 av).symm,⟨ax,ny,cz,Sj,q.k<|s4 z z z z,(cM (cM (cM (cM (k_ (k_ (cM (k_ (cM (cM (cr ([g1]++[G.z]) I) sb (aa_ (io<|a_5 sr)<|io<|a_c sr):Chg (· ∈ ([g1]++[G.z])) I af) s3 (io<|a_5 sr):Chg (· ∈ ([g1]++[G.z])) I wl) H:Chg (· ∈ ([g1]++[G.z])) I a9) h2 (mor bT:∀k∈[wl.z],k∈([g1]++[G.z])∨I.z<=k):Chg (· ∈ ([g1]++[G.z])) I ww) s5:Chg (· ∈ ([g1]++[G.z])) I aa) hc:Chg (· ∈ ([g1]++[G.z])) I am) ss (or0 hd (q_ lr):∀k∈Si,k∈([g1]++[G.z])∨I.z<=k):Chg (· ∈ ([g1]++[G.z])) I aL) ho (io<|a_c sr):Chg (· ∈ ([g1]++[G.z])) I aO) sm (io<|a_5 sr):Chg (· ∈ ([g1]++[G.z])) I aQ) Y (io<|a_5 sr):Chg (· ∈ ([g1]++[G.z])) I bK),bL,((aM.c ho (or2 hn an (aa_ (h_ (al_ h4) hh.lt W)<|h_ (ar_ h4) hh.lt W) (S_ (d_ hh.lt)<|lt_ (lt_ (lt_ (lt_ al H.s) h2.s) s5.s) hc.s):∀k∈Sj,k∉[G.z])).c sm bS).c Y bS,aN,(or2 hn hd (aa_ (j_ (al_ h4) sb.s)<|j_ (ar_ h4) sb.s) (b_9<|lt_ (lt_ (lt_ (lt_ bT H.s) h2.s) s5.s) hc.s):∀k∈Sj,I.z<=k),bM,(aP.c sm<|atp hg).c Y<|atp hg⟩⟩
 ·rintro ⟨V,a2⟩ _ _ rfl ⟨ap,nq,ct,Si,_,_,bn,hu,aA,hd,aB,ah⟩;have c2:=elL b3;exact nomatch (show none=some _ from (a_t c2))
 rintro _ _ _ _ rfl ⟨rfl,c3⟩;have c4:=elR b3;obtain rfl:=som c4;exact ⟨c3,z⟩
theorem T_w2d (ih:h_C n):l_6 (f_N n<|a_K n):=by
 obtain ⟨c6,_,_,_⟩:=ih
 constructor
 intro A0 A3 A2 A1 A4 N0 C0 g1 N3 C3 N2 C2 N1 C1 N4 C4 B x1 x2 res w0 hm hB1 Y hBg a0 a1 bN dc dd de df ak dg bO;unfold f_N at hm
 refine goG func73 z z z fun fn hr=>Ws<|E z (fb z) ?_
 rintro _ wg ⟨rfl,aX⟩;have W:=aX.below;have aY:Blk wg w0.z (vR x2 A3 N3 C3 A2 N2 C2 A1 N1 C1 A4 N4 C4):=aX.blk;refine E z (fa E_) ?_;rintro _ G ⟨rfl,aZ⟩;have hn:=aZ.below;have hh:Blk G wg.z [vI 0,sl none 0 0,sl none 0 0]:=aZ.blk;refine Rw z<|Ws<|R z (bP (parts:=[]) (cs:=[vI 0,sl none 0 0,sl none 0 0]) P_ z z)<|E z (fa E_) ?_
 rintro _ a2 ⟨rfl,b0⟩;have ha:=b0.below;have ho:Blk a2 G.z [vI 0,sl none 0 0,sl none 0 0]:=b0.blk;refine E0 (fs0 (cur':=[vI 0,sl none 0 0,sl none 0 0]) b_ z z ho z z z z) ?_;rintro _ a9 ⟨b3,c8⟩;have h3:=c8.one;refine Wn<|Wq<|Wm z ?_
 have ht:=lt_ W.s hn.s;have ao:∀k∈[G.z],¬B k:=or0 (d_ lr)<|p_<|zt' Y ht;have b4:=(((W.ag B).e hn).e ha).c h3<|e_ ao
 have hl:=mm1 (Blk.lt hB1) ht;have hw:=lt_ (lt_ ht ha.s) h3.s;obtain ⟨_,_,c9,aQ⟩:=V_ hm;refine E z (fc call71 z<|c_c (B:=B) c9 ((((hB1.e W).e hn).e ha).c h3<|djs hl) (zt' Y hw) hBg (a0.g b4) a1 bN<|lb z) ?_;rintro _ H ⟨I,rfl,b5,b6⟩;refine R z (not_ z)<|Wx z (fun al=>?_) (fun al=>?_)
 ·refine Ws<|R z (lN (vs:=[vI 0,sl none 0 0,sl none 0 0]) i_ b_ z z fid<|(b3.c I<|atp hl).row 0 3 z) ?_
  have b7:=mm1 (Blk.lt hB1) W.s;refine E0 (fs0 (cur':=[vI 0,sl none 0 0,sl none 0 0]) b_ z z (((hh.e ha).c h3<|djs<|mmr hh.lt).c I<|atp b7) z z z z) ?_;rintro _ ca ⟨cb,cc⟩;have b8:=cc.one;refine Rw z ?_
  obtain rfl:=som<|ifT aQ al;exact Wr<|F_ hr (u_ i_ b_ z cb z) z ⟨(cM (cM (cM (k_ (k_ (k_ (cr [g1] w0) W:Chg (· ∈ [g1]) w0 wg) hn:Chg (· ∈ [g1]) w0 G) ha:Chg (· ∈ [g1]) w0 a2) h3 (mor ht:∀k∈[G.z],k∈[g1]∨w0.z<=k):Chg (· ∈ [g1]) w0 a9) I (io sr):Chg (· ∈ [g1]) w0 H) b8 (mor W.s:∀k∈[wg.z],k∈[g1]∨w0.z<=k):Chg (· ∈ [g1]) w0 ca),none,0,0,[],none,0,0,[],z,ii z,onL,onL,b5,b6.c b8<|djs b7,nd0,al0⟩
 refine Wk<|Wq<|Ws<|Rf z c_b z ?_
 have b9:=mm1 aY.lt hn.s;have ap:=mmr<|Blk.lt hB1
 have ba:=(((aY.e hn).e ha).c h3<|djs b9).c I<|atp ap
 refine R z (l0 b_L z<|ba.at z) ?_;have aq:=b4.c I<|e_<|d_ hBg
 refine R z (lnR a_d z<|ak.g aq)<|Rm z<|Wn ?_
 obtain ⟨_,bQ,aR⟩:=bdS<|ifF aQ al;refine Wf (σ:=Int×(List Val)) (ρ:=Val×Bool×Int) (fun (a3:Nat) s a w=>un2 (fun xp xr=>∃J L O Sb,Sat 62 [(0,pt g1),(3,pt w0.z),(4,pt wg.z),(6,pt G.z),(17,sl A2 N2 C2),(18,vI (x2.names.length:Int)),(19,vI ((a3:Nat):Int))] a/\Chg (· ∈ ([g1]++[G.z])) H w/\inI xp/\a_ w Sb (sl J L O) xr/\Sb.Nodup/\(∀k∈Sb,H.z<=k)/\Blk w g1 [sl A0 N0 C0,Str.v x1.text,vI xp]/\Blk w G.z [vI 0,sl none 0 0,sl J L O]) s) (fun s a w=>un2 (fun xp xr=>∃J L O Sb,Sat 62 [(0,pt g1),(4,pt wg.z),(6,pt G.z)] a/\Chg (· ∈ ([g1]++[G.z])) H w/\inI xp/\a_ w Sb (sl J L O) xr/\Sb.Nodup/\(∀k∈Sb,H.z<=k)/\Blk w g1 [sl A0 N0 C0,Str.v x1.text,vI xp]/\Blk w G.z [vI 0,sl none 0 0,sl J L O]) s) (rQ prog fn<|Q29 w0 g1 B A0 N0 C0 x1) bQ ?_ ?_ ?_ ?_ ?_
 ·exact fun _ q=>⟨none,0,0,[],q.k<|s7 z z z z z z z,cr ([g1]++[G.z]) H,b5,onL,K_,an_,b6,b3.c I<|atp hl⟩
 ·rintro a3 ⟨xp,xr⟩ _ wi _ aS ⟨J,L,O,Sb,bR,sf,hx,hj,hu,V,hy,hv⟩ bS;refine Wu ?_ bR;refine Ws<|Rl z z z<|Wn<|Wq<|Wc z (fun _=>?_) (fun hc=>(a_0 aS hc).elim)
  refine Wk<|Wq<|Wb<|Wm z ?_
  obtain ⟨_,cd,bT⟩:=bdS<|a_t bS;have a4:=aq.c sf<|nmA (e_<|d_ hBg)<|e_ ao
  refine RX z (at_ (α:=Str) a_d z_9 z z z (ak.g a4) cd) ?_;rintro _ ⟨_,_,_,rfl,ce,cf,_⟩;obtain ⟨rfl,_⟩:=b_P cf;refine R z (l0 g_9 z<|ce.at0 z)<|Ra z<|Rw z<|Wq<|Wq ?_
  obtain ⟨cg,aT,bU⟩:=bdS bT;refine Wt (fun a w=>∃(ar:Bool)(aa:Int),(ar,aa)=cg/\Sat 62 [(0,pt g1),(3,pt w0.z),(4,pt wg.z),(6,pt G.z),(7,vI ((a3:Nat):Int)),(17,sl A2 N2 C2),(18,vI (x2.names.length:Int)),(19,vI ((a3:Nat):Int)),(37,vB ar)] a/\Chg (· ∈ [g1]) wi w/\inI aa/\Blk w g1 [sl A0 N0 C0,Str.v x1.text,vI aa]) ?_ ?_
  ·refine Wg<|Rm z<|R z (a_C z z)<|Rm z ?_
   rcases bs (decide<|0<((a3:Nat):Int)) with hcm | hcm
   ·refine Rh z hcm (mv z) ?_;have bb:=lt_ (lt_ hw I.s) sf.s;obtain ⟨ch,ci,cj,aU⟩:=V_<|ifT aT hcm;refine Eg z z hcm z (fc call71 z<|c_c (B:=B) cj hy (zt' Y bb) hBg (a0.g a4) a1 hx<|lb z) ?_;rintro _ bc ⟨ab,rfl,be,bf⟩;refine Rh z hcm (not_ z)<|R z (pT z hcm z)<|Rm z ?_
    rcases bs (!ch) with hck | hck
    ·iterate 5 refine Nh z hck ?_
     refine R z (pT z hck z)<|Wl ?_
     exact fun _ q=>⟨true,ci,som<|ifT aU hck,q.k<|s9 z z z z z z z z z,(cM (cr [g1] wi) ab (io sr):Chg (· ∈ [g1]) wi bc),be,bf⟩
    refine Rh z hck (mv z)<|Rh z hck (mv z) ?_
    obtain ⟨_,bg,bV⟩:=bdS<|ifF aU hck;refine Rh z hck (a_o z z bg) ?_;obtain ⟨ck,cl,cm,bW⟩:=V_ bV;refine Eg z z hck z (fc call71 z<|c_c (B:=B) cm bf (zt' Y<|lt_ bb ab.s) hBg (a0.g<|a4.c ab<|e_<|d_ hBg) a1 be<|b_8 bg) ?_;rintro _ cn ⟨co,rfl,cp,cq⟩;refine Rh z hck (not_ z)<|R z (pF z hck z)<|Wl ?_
    exact fun _ q=>⟨!ck,cl,som bW,q.k<|s9 z z z z z z z z z,(cM (cM (cr [g1] wi) ab (io sr):Chg (· ∈ [g1]) wi bc) co (io sr):Chg (· ∈ [g1]) wi cn),cp,cq⟩
   iterate 3 refine Nh z hcm ?_
   refine R z (pF z hcm z)<|Rm z<|Rh z z (mv z)<|Rh z z (mv z) ?_
   obtain ⟨_,bh,bX⟩:=bdS<|ifF aT hcm;refine Rh z z (a_o z z bh) ?_;obtain ⟨ct,cu,cv,bY⟩:=V_ bX;refine Eg z z z z (fc call71 z<|c_c (B:=B) cv hy (zt' Y<|lt_ (lt_ hw I.s) sf.s) hBg (a0.g a4) a1 hx<|b_8 bh) ?_;rintro _ cw ⟨cx,rfl,cy,cz⟩;refine Rh z z (not_ z)<|R z (pF z z z)<|Wl ?_
   exact fun _ q=>⟨!ct,cu,som bY,q.k<|s9 z z z z z z z z z,(cM (cr [g1] wi) cx (io sr):Chg (· ∈ [g1]) wi cw),cy,cz⟩
  rintro cA au ⟨ar,aa,rfl,_,s4,bi,bj⟩;have aV:=a_t bU;revert cA;refine Wo<|Wc z (fun am=>?_) (fun am=>?_)
  ·refine Ws<|R z (lN (vs:=[vI 0,sl none 0 0,sl J L O]) i_ b_ z z fid<|(hv.c s4<|atp hl).row 0 3 z) ?_
   have bk:=mmr hh.lt;have ad:=mm1 (Blk.lt hB1) W.s;refine E0 (fs0 (cur':=[vI 0,sl none 0 0,sl J L O]) b_ z z (((((hh.e ha).c h3<|djs bk).c I<|atp ad).c sf<|atp<|nmA ad<|ds bk).c s4<|atp ad) z z z z) ?_;rintro _ cB ⟨cC,cD⟩;have av:=cD.one;refine Rw z ?_
   have bm:=lt_ hw I.s;have bn:∀k∈[G.z],k∈[g1]∨w0.z<=k:=mor ht;exact Wr<|rtO<|qL (som<|ifT aV am).symm<|F_ hr (u_ i_ b_ z cC z) z ⟨(cM (cM (cM (cM (cM (k_ (k_ (k_ (cr [g1] w0) W:Chg (· ∈ [g1]) w0 wg) hn:Chg (· ∈ [g1]) w0 G) ha:Chg (· ∈ [g1]) w0 a2) h3 bn:Chg (· ∈ [g1]) w0 a9) I (io sr):Chg (· ∈ [g1]) w0 H) sf (aa_ (io sr) bn):Chg (· ∈ [g1]) w0 wi) s4 (io sr):Chg (· ∈ [g1]) w0 au) av (mor W.s:∀k∈[wg.z],k∈[g1]∨w0.z<=k):Chg (· ∈ [g1]) w0 cB),none,0,0,[],J,L,O,Sb,z,ii z,onL,(hj.c s4<|h_ V (Blk.lt hB1) bm).c av<|h_ V hh.lt<|lt_ (lt_ ha.s h3.s) I.s,bi,bj.c av<|djs ad,na_ K_ hu an_,aa_ an_<|j_ V bm⟩
  refine Wk<|Wm z<|Rf z R_ z<|R z (l0 A_ z<|((ba.c sf<|atp<|nmA ap<|ds b9).c s4<|atp ap).at z)<|Rm z ?_
  obtain ⟨_,cE,bZ⟩:=bdS<|ifF aV am;have bo:=a4.c s4<|e_<|d_ hBg
  refine RX z (at_ (α:=Int) y_ z_3 z z z (bO.g bo) cE) ?_;rintro _ ⟨_,_,_,rfl,cF,cG,_⟩;obtain ⟨rfl,cH⟩:=T_ cG;refine R z (l0 g_3 z<|cF.at0 z) ?_;have ae:=lt_ hw I.s;have aw:=lt_ (lt_ ae sf.s) s4.s;obtain ⟨af,_,cI,cJ,aW⟩:=O_ bZ;refine E z (fc call42 z<|c6.run (B:=B) cJ bj (zt' Y aw) hBg (a0.g bo) a1 bi cH) ?_;rintro _ a6 ⟨sc,ax,ay,az,cK,aA,aB,aC,cL,rfl,cN,ah,ai,bp,bq,aD,hz⟩;refine Rm z<|Re z z z<|Re z z z<|E z (fa E_) ?_
  rintro _ aE ⟨rfl,br⟩;have hd:=br.below;refine E0 (fs0 (cur':=[vI af.number,sl ax ay az,sl aA aB aC]) b_ z z (br.blk:Blk aE a6.z [vI 0,sl none 0 0,sl none 0 0]) z z z z) ?_;rintro _ aF ⟨cO,cP⟩;have he:=cP.one;refine Rw z<|Wq<|Wm z<|R z (not_ z)<|Wx z (fun an=>?_) (fun an=>?_)
  ·refine Ws ?_;refine R z (lN (vs:=[vI 0,sl none 0 0,sl J L O]) i_ b_ z z fid<|((((hv.c s4<|atp hl).c sc<|atp hl).e hd).c he<|djs<|mm1 ho.lt<|lt_ (lt_ (lt_ (lt_ h3.s I.s) sf.s) s4.s) sc.s).row 0 3 z) ?_;have bt:=mmr hh.lt;have a7:=mm1 (Blk.lt hB1) W.s;have bu:=lt_ (lt_ ha.s h3.s) I.s;refine E0 (fs0 (cur':=[vI 0,sl none 0 0,sl J L O]) b_ z z ((((((((hh.e ha).c h3<|djs bt).c I<|atp a7).c sf<|atp<|nmA a7<|ds bt).c s4<|atp a7).c sc<|atp a7).e hd).c he<|djs<|mm1 hh.lt<|lt_ (lt_ (lt_ bu sf.s) s4.s) sc.s) z z z z) ?_;rintro _ cQ ⟨cR,cS⟩;have aG:=cS.one;refine Rw z ?_
   have bv:=h_ V (Blk.lt hB1) ae;have bw:∀k∈[G.z],k∈[g1]∨w0.z<=k:=mor ht;have bx:=lt_ aw sc.s;exact Wr<|rtO<|qL (som<|ifT aW an).symm<|F_ hr (u_ i_ b_ z cR z) z ⟨(cM (cM (k_ (cM (cM (cM (cM (cM (k_ (k_ (k_ (cr [g1] w0) W:Chg (· ∈ [g1]) w0 wg) hn:Chg (· ∈ [g1]) w0 G) ha:Chg (· ∈ [g1]) w0 a2) h3 bw:Chg (· ∈ [g1]) w0 a9) I (io sr):Chg (· ∈ [g1]) w0 H) sf (aa_ (io sr) bw):Chg (· ∈ [g1]) w0 wi) s4 (io sr):Chg (· ∈ [g1]) w0 au) sc (io sr):Chg (· ∈ [g1]) w0 a6) hd:Chg (· ∈ [g1]) w0 aE) he (mor bx:∀k∈[a6.z],k∈[g1]∨w0.z<=k):Chg (· ∈ [g1]) w0 aF) aG (mor W.s:∀k∈[wg.z],k∈[g1]∨w0.z<=k):Chg (· ∈ [g1]) w0 cQ),none,0,0,[],J,L,O,Sb,z,ii z,onL,((((hj.c s4 bv).c sc bv).e hd).c he<|ds<|mno (a_.lt hj)<|lt_ s4.s sc.s).c aG<|h_ V hh.lt bu,bp,((bq.e hd).c he<|djs<|mm1 (Blk.lt hB1) bx).c aG<|djs a7,na_ K_ hu an_,aa_ an_<|j_ V ae⟩
  refine Wk<|Wg<|Rf z Q_ z ?_
  have bz:=lt_ h3.s I.s;have aH:=lt_ (lt_ bz sf.s) s4.s;have bA:=lt_ aH sc.s;have bB:=(((hv.c s4<|atp hl).c sc<|atp hl).e hd).c he<|djs<|mm1 ho.lt bA
  refine R z (l0 X_ z<|bB.at z)<|R z (lN (vs:=[vI af.number,sl ax ay az,sl aA aB aC]) i_ b_ z z fid<|cO.row 0 3 z)<|E z (fS [(.tmp 54)] c_a z z z (a_J z) (lb z)<|lb z) ?_
  rintro _ bC ⟨rfl,bD⟩;have hq:=bD.below;have dh:=(ah.e hd).c he<|ds<|mnr<|a_.lt ah
  have di:=(ai.e hd).c he<|ds<|mnr<|a_.lt ai
  have aI:=h_ V (Blk.lt hB1) ae;obtain ⟨cT,cU,c0⟩:=bdS<|ifF aW an;refine E z (b_i (α:=Val) c_a cU z z (((((hj.c s4 aI).c sc aI).e hd).c he<|ds<|mno (a_.lt hj)<|lt_ s4.s sc.s).e hq) hu (bD.blk:Blk bC aF.z [vI af.number,sl ax ay az,sl aA aB aC]) (e_0 (x:=af) (S1:=cK) (S2:=cL) cN (((ah.e hd).c he<|ds<|mnr<|a_.lt ah).e hq)<|((ai.e hd).c he<|ds<|mnr<|a_.lt ai).e hq) (aa_ (a_Y (al_ hz) (a_.lt hj) s4.s)<|a_Y (ar_ hz) (a_.lt hj) s4.s)<|na_ (nl_ aD) (nr_ aD)<|nj aD) ?_;rintro _ cV ⟨aJ,bE,bF,bG,rfl,aK,cW,cX,bH⟩;refine Rf z Q_ z ?_;have bI:=h_ V ho.lt bz;refine E0 (fs0 (cur':=[vI 0,sl none 0 0,sl bE bF bG]) d_h z z ((bB.e hq).c aK<|djs bI) z z z z) ?_;rintro _ cY ⟨cZ,d0⟩;have aL:=d0.one;refine Wn<|Wg<|R z (inc_ aS (lt_ (repS.len ak) G_) z z)<|Rm z<|Wl ?_
  have aM:=lt_ sf.s s4.s;have bJ:=lt_ aM sc.s;exact fun _ q=>⟨(cI,cT),(som c0).symm,⟨bE,bF,bG,aJ,q.k<|s7 z z z z z z z,(cM (cM (k_ (cM (k_ (cM (cM (cM (cr ([g1]++[G.z]) H) sf (aa_ (io<|a_5 sr)<|io<|a_c sr):Chg (· ∈ ([g1]++[G.z])) H wi) s4 (io<|a_5 sr):Chg (· ∈ ([g1]++[G.z])) H au) sc (io<|a_5 sr):Chg (· ∈ ([g1]++[G.z])) H a6) hd:Chg (· ∈ ([g1]++[G.z])) H aE) he (mor bJ:∀k∈[a6.z],k∈([g1]++[G.z])∨H.z<=k):Chg (· ∈ ([g1]++[G.z])) H aF) hq:Chg (· ∈ ([g1]++[G.z])) H bC) aK (or0 V (q_ lr):∀k∈Sb,k∈([g1]++[G.z])∨H.z<=k):Chg (· ∈ ([g1]++[G.z])) H cV) aL (io<|a_c sr):Chg (· ∈ ([g1]++[G.z])) H cY),bp,cW.c aL (or2 bH bI (aa_ (h_ (al_ hz) ho.lt aH)<|h_ (ar_ hz) ho.lt aH) (S_ (d_ ho.lt)<|lt_ (lt_ (lt_ bA hd.s) he.s) hq.s):∀k∈aJ,k∉[G.z]),cX,(or2 bH V (aa_ (j_ (al_ hz) aM)<|j_ (ar_ hz) aM) (b_9<|lt_ (lt_ (lt_ bJ hd.s) he.s) hq.s):∀k∈aJ,H.z<=k),((((bq.e hd).c he<|djs<|mm1 (Blk.lt hB1)<|lt_ aw sc.s).e hq).c aK<|djs aI).c aL<|djs hl,cZ⟩⟩
 ·rintro ⟨xp,xr⟩ _ d1 ⟨J,L,O,Sb,c1,d2,hx,hj,hu,V,hy,hv⟩;refine Wu ?_ c1;refine Ws<|Rl z z z<|Wn<|Wq<|Wc z (fun hc=>(a_1 hc).elim) (fun _=>?_)
  exact We<|fun _ q=>⟨rfl,⟨J,L,O,Sb,q.k<|s3 z z z,(cM (cr ([g1]++[G.z]) H) d2 (aa_ (io<|a_5 sr)<|io<|a_c sr):Chg (· ∈ ([g1]++[G.z])) H d1),hx,hj,hu,V,hy,hv⟩⟩
 ·rintro ⟨xp,xr⟩ d3 bK rfl ⟨J,L,O,Sb,_,a8,hx,hj,hu,V,hy,hv⟩;have c2:=elL aR;revert d3;refine Wo<|Wq (Wd (X:=fun k=>k∈[g1]∨bK.z<=k) 8 (pl_ 5 [2,3]) mo (by kernel_rfl) fun d4 ss _=>dR z z (lN (vs:=[vI 0,sl none 0 0,sl J L O]) i_ b_ z z (b_t (atp hl)<|Nat.lt_of_lt_of_le ho.lt<|lt_ (lt_ h3.s I.s) a8.s)<|(hv.e ss).row 0 3 z)<|dM z z z ?_)
  have aN:=lt_ hw I.s;obtain ⟨_,_,d5,c3⟩:=V_<|a_t c2;refine dE z z (fc call71 z<|c_c (B:=B) d5 (hy.e ss) (zt' Y<|lt_ (lt_ aN a8.s) ss.s) hBg (a0.g<|(aq.c a8<|nmA (e_<|d_ hBg)<|e_ ao).e ss) a1 hx<|lb z) (.inr fun _ _ h=>h.1.mono fun k _ hk=>(io sr) k hk) ?_;rintro _ d6 ⟨aO,rfl,d7,d8⟩;have bL:=mmr hh.lt;have aj:=mm1 (Blk.lt hB1) W.s;refine dE0 z (fs0 (cur':=[vI 0,sl none 0 0,sl J L O]) b_ z z ((((((hh.e ha).c h3<|djs bL).c I<|atp aj).c a8<|atp<|nmA aj<|ds bL).e ss).c aO<|atp aj) z z z z) (.inl z) ?_;rintro _ d9 ⟨da,db⟩;have aP:=db.one;refine dQ z z z<|pD<|Wo ?_
  obtain rfl:=som c3;have bM:∀k∈[G.z],k∈[g1]∨w0.z<=k:=mor ht;exact Wr<|F_ hr (u_ i_ b_ z da z) z ⟨(cM (cM (k_ (cM (cM (cM (k_ (k_ (k_ (cr [g1] w0) W:Chg (· ∈ [g1]) w0 wg) hn:Chg (· ∈ [g1]) w0 G) ha:Chg (· ∈ [g1]) w0 a2) h3 bM:Chg (· ∈ [g1]) w0 a9) I (io sr):Chg (· ∈ [g1]) w0 H) a8 (aa_ (io sr) bM):Chg (· ∈ [g1]) w0 bK) ss:Chg (· ∈ [g1]) w0 d4) aO (io sr):Chg (· ∈ [g1]) w0 d6) aP (mor W.s:∀k∈[wg.z],k∈[g1]∨w0.z<=k):Chg (· ∈ [g1]) w0 d9),none,0,0,[],J,L,O,Sb,z,ii z,onL,((hj.e ss).c aO<|h_ V (Blk.lt hB1) aN).c aP<|h_ V hh.lt<|lt_ (lt_ ha.s h3.s) I.s,d7,d8.c aP<|djs aj,na_ K_ hu an_,aa_ an_<|j_ V aN⟩
 rintro _ _ _ _ rfl ⟨rfl,c4⟩;have c5:=elR aR;obtain rfl:=som c5;exact ⟨c4,z⟩
theorem T_w2e (ih:h_C n):l_7 (f_O n<|a_K n):=by
 obtain ⟨b7,_,_,_⟩:=ih
 constructor
 intro A0 AA AF N0 C0 g1 NA CA NF CF S2_1 S2_2 B x1 x2 x3 x4 x5 res w0 hm hB1 V hBg a6 a7 av a8 J p2_1n p2_1g p2_1dB aw p2_2n p2_2g p2_2d1 p2_2dB aX aY aZ;unfold f_O at hm
 refine goG func74 z z z fun fn hr=>Ws<|E z (fb z) ?_
 rintro _ H ⟨rfl,aB⟩;have G:=aB.below;have he:Blk H w0.z [vI x2.number,sl AA NA CA,sl AF NF CF]:=aB.blk;refine E z (fa E_) ?_;rintro _ wk ⟨rfl,aC⟩;have L:=aC.below;have hf:Blk wk H.z [vI 0,sl none 0 0,sl none 0 0]:=aC.blk;refine Rw z<|Wq<|Wq ?_
 obtain ⟨b8,ay,b0⟩:=bdS hm;refine Wt (fun a w=>∃(aa:Bool)(xr:Int),(aa,xr)=b8/\Sat 39 [(0,pt g1),(3,vI x4),(4,Str.v x5),(6,pt w0.z),(10,pt H.z),(21,vB aa)] a/\Chg (· ∈ [g1]) wk w/\inI xr/\Blk w g1 [sl A0 N0 C0,Str.v x1.text,vI xr]) ?_ ?_
 ·refine Wg<|Rm z<|Rl z z z<|Rm z ?_
  rcases bs (decide<|x4<0) with hcj | hcj
  ·iterate 4 refine Nh z hcj ?_
   exact R z (pT z hcj z)<|Wl (fun _ q=>⟨true,x1.at_,som<|ifT ay hcj,q.k<|s6 z z z z z z,cr [g1] wk,av,(hB1.e G).e L⟩)
  refine Rh z hcj (mv z)<|Rh z hcj (mv z) ?_
  obtain ⟨b9,ba,bb,b3⟩:=V_<|ifF ay hcj;refine Eg z z hcj z (fc call71 z<|c_c (B:=B) bb ((hB1.e G).e L) (zt' V<|lt_ G.s L.s) hBg (a6.g<|(G.ag B).e L) a7 av aX) ?_;rintro _ bc ⟨be,rfl,bf,bg⟩;refine Rh z hcj (not_ z)<|R z (pF z hcj z)<|Wl ?_
  exact fun _ q=>⟨!b9,ba,som b3,q.k<|s6 z z z z z z,(cM (cr [g1] wk) be (io sr):Chg (· ∈ [g1]) wk bc),bf,bg⟩
 rintro bh aD ⟨aa,xr,rfl,_,s3,aE,aF⟩;have az:=a_t b0;revert bh;refine Wo<|Wc z (fun a9=>?_) (fun a9=>?_)
 ·refine Ws<|R z (lN (vs:=[vI x2.number,sl AA NA CA,sl AF NF CF]) i_ b_ z z fid<|((he.e L).c s3<|atp<|mmr<|Blk.lt hB1).row 0 3 z) ?_
  have aG:=mm1 (Blk.lt hB1) G.s;refine E0 (fs0 (cur':=[vI x2.number,sl AA NA CA,sl AF NF CF]) b_ z z (hf.c s3<|atp aG) z z z z) ?_;rintro _ bi ⟨bj,bk⟩;have hu:=bk.one;refine Rw z ?_
  obtain rfl:=som<|ifT az a9;exact Wr<|F_ hr (u_ i_ b_ z bj z) z ⟨(cM (cM (k_ (k_ (cr ([g1]++(S2_1++S2_2)) w0) G:Chg (· ∈ ([g1]++(S2_1++S2_2))) w0 H) L:Chg (· ∈ ([g1]++(S2_1++S2_2))) w0 wk) s3 (io<|a_5 sr):Chg (· ∈ ([g1]++(S2_1++S2_2))) w0 aD) hu (mor G.s:∀k∈[H.z],k∈([g1]++(S2_1++S2_2))∨w0.z<=k):Chg (· ∈ ([g1]++(S2_1++S2_2))) w0 bi),AA,NA,CA,S2_1,AF,NF,CF,S2_2,z,a8,(((J.e G).e L).c s3 p2_1dB).c hu<|ds<|mno (a_.lt J) G.s,(((aw.e G).e L).c s3 p2_2dB).c hu<|ds<|mno (a_.lt aw) G.s,aE,aF.c hu<|djs aG,na_ p2_1n p2_2n<|ds p2_2d1,aa_ (io<|a_5 sr)<|io<|a_c sr⟩
 refine Wk<|Wm z<|Rm z ?_
 have aH:=((G.ag B).e L).c s3<|e_<|d_ hBg
 have hb:=lt_ (lt_ G.s L.s) s3.s;obtain ⟨rn,bm,bn,bo,b4⟩:=O_<|ifF az a9;refine E z (fc call42 z<|b7.run (B:=B) bo aF (zt' V hb) hBg (a6.g aH) a7 aE aY) ?_;rintro _ ws ⟨s8,ab,ad,ae,Sg,af,ah,ai,Sh,rfl,bp,ho,hp,aI,aJ,aj,h6⟩;refine Rm z<|Re z z z<|Re z z z<|E z (fa E_) ?_
 rintro _ aK ⟨rfl,aL⟩;have h2:=aL.below;refine E0 (fs0 (cur':=[vI rn.number,sl ab ad ae,sl af ah ai]) b_ z z (aL.blk:Blk aK ws.z [vI 0,sl none 0 0,sl none 0 0]) z z z z) ?_;rintro _ I ⟨bq,br⟩;have h4:=br.one;refine Rw z<|Ws<|R z (lN (vs:=[vI rn.number,sl ab ad ae,sl af ah ai]) i_ b_ z z fid<|bq.row 0 3 z)<|E z (fS [(.tmp 29)] c_a z z z (a_J z) (lb z)<|lb z) ?_
 rintro _ aM ⟨rfl,ak⟩;have hc:=ak.below;have bX:Blk aM I.z [vI rn.number,sl ab ad ae,sl af ah ai]:=ak.blk;have bY:=(ho.e h2).c h4<|ds<|mnr<|a_.lt ho
 have bZ:=(hp.e h2).c h4<|ds<|mnr<|a_.lt hp
 refine Rf z Q_ z ?_;have aN:=b_0 ak<|e_0 (x:=rn) (S1:=Sg) (S2:=Sh) bp ((ho.e h2).c h4<|ds<|mnr<|a_.lt ho)<|(hp.e h2).c h4<|ds<|mnr<|a_.lt hp
 have aO:=lt_ h2.s h4.s;have aP:=j_C (na_ (nl_ aj) (nr_ aj)<|nj aj)<|aa_ (zall (a_.lt ho)<|M_ aO)<|zall (a_.lt hp)<|M_ aO
 have hq:=mmr<|Blk.lt hB1
 have ht:=lt_ L.s s3.s;have aQ:=lt_ ht s8.s;refine E0 (fs0 (cur':=[vI x2.number,sl AA NA CA,sl (some ⟨I.z,0,none⟩) 1 1]) d_h z z ((((((he.e L).c s3<|atp hq).c s8<|atp hq).e h2).c h4<|djs<|mm1 he.lt aQ).e hc) z z z z) ?_;rintro _ wd ⟨bt,bu⟩;have O:=bu.one;refine Wn<|Wq ?_
 obtain ⟨bv,aA,b5⟩:=bdS b4;refine Wt (fun a w=>∃(al:Bool)(xv:Int)(xw:Int)(am:List UInt8)(an:List Val),(al,xv,xw,am,an)=bv/\∃ax ny cz Sl W Y a0 Sm,Sat 39 [(10,pt H.z),(11,vB al)] a/\Chg (· ∈ ([g1]++[H.z])) wd w/\inI xv/\inI xw/\a_ w Sl (sl ax ny cz) am/\Sl.Nodup/\(∀k∈Sl,k∈S2_1∨wd.z<=k)/\a_ w Sm (sl W Y a0) an/\Sm.Nodup/\(∀k∈Sm,k∈(I.z::(Sg++Sh))∨wd.z<=k)/\(∀k∈Sm,k∉Sl)/\Blk w g1 [sl A0 N0 C0,Str.v x1.text,vI xv]/\Blk w H.z [vI xw,sl ax ny cz,sl W Y a0]) ?_ ?_
 ·refine Wd (X:=fun k=>k∈([g1]++[H.z])∨wd.z<=k) 0 (pl_ 9 [5,7]) mo (by kernel_rfl) fun aR sa _=>?_
  have ao:=mmr he.lt;have ap:=lt_ (lt_ aQ h2.s) h4.s;refine dR z z (lN (vs:=[vI x2.number,sl AA NA CA,sl (some ⟨I.z,0,none⟩) 1 1]) i_ b_ z z (b_t (atp<|nmA hq<|ds ao)<|Nat.lt_of_lt_of_le he.lt<|lt_ (lt_ ap hc.s) O.s)<|(bt.e sa).row 0 3 z)<|dM z z z<|dM z z z ?_
  rcases bs bm with hci | hci
  ·refine dRg z z z hci z (mv z)<|dRg z z z hci z (mv z) ?_
   have a1:=lt_ hb s8.s;have aq:=lt_ (lt_ a1 h2.s) h4.s;obtain ⟨bw,bx,bz,b6⟩:=V_<|ifT aA hci;refine dEg z z z hci z (fc call71 z<|c_c (B:=B) bz (((((aJ.e h2).c h4<|djs<|mm1 (Blk.lt hB1) a1).e hc).c O<|djs hq).e sa) (zt' V<|lt_ (lt_ (lt_ aq hc.s) O.s) sa.s) hBg (a6.g<|(((((aH.c s8<|e_<|d_ hBg).e h2).c h4<|e_ (or0 (d_ lr) (p_<|zt' V a1):∀k∈[ws.z],¬B k)).e hc).c O<|e_ (or0 (d_ lr) (p_ V):∀k∈[w0.z],¬B k)).e sa) a7 aI aZ) (.inr fun _ _ h=>h.1.mono fun k _ hk=>(io<|a_5 sr) k hk) ?_;rintro _ bA ⟨a2,rfl,bB,bC⟩;refine dR z z (pT z hci z) ?_;have a3:=mm1 (Blk.lt hB1) G.s;have aS:=lt_ s3.s s8.s;refine dE0 z (fs0 (cur':=[vI x2.number,sl AA NA CA,sl (some ⟨I.z,0,none⟩) 1 1]) b_ z z ((((((((hf.c s3<|atp a3).c s8<|atp a3).e h2).c h4<|djs<|mm1 hf.lt aS).e hc).c O<|atp ao).e sa).c a2<|atp a3) z z z z) (.inr fun _ _ h=>l_D (List.mem_append_right _<|List.mem_singleton.2 rfl) h.2) ?_;rintro _ bD ⟨bE,bF⟩;have a4:=bF.one;refine dQ z z z<|pD ?_
   exact fun _ q=>⟨bw,bx,x2.number,x2.bytes,[rn],som b6,AA,NA,CA,S2_1,some ⟨I.z,0,none⟩,1,1,(I.z::(Sg++Sh)),q.k<|s2 z z,(cM (cM (k_ (cr ([g1]++[H.z]) wd) sa:Chg (· ∈ ([g1]++[H.z])) wd aR) a2 (io<|a_5 sr):Chg (· ∈ ([g1]++[H.z])) wd bA) a4 (io<|a_c sr):Chg (· ∈ ([g1]++[H.z])) wd bD),bB,a8,((((((((((J.e G).e L).c s3 p2_1dB).c s8 p2_1dB).e h2).c h4<|ds<|mno (a_.lt J) a1).e hc).c O<|ds<|mnr<|a_.lt J).e sa).c a2 p2_1dB).c a4<|ds<|mno (a_.lt J) G.s,p2_1n,io sr,(((aN.c O (or1 c_1 (aa_ (h_ (al_ h6) he.lt ht)<|h_ (ar_ h6) he.lt ht) (S_ (d_ he.lt) ap):∀k∈(I.z::(Sg++Sh)),k∉[w0.z])).e sa).c a2 (or1 c_1 (aa_ (h_ (al_ h6) (Blk.lt hB1) hb)<|h_ (ar_ h6) (Blk.lt hB1) hb) (S_ (d_<|Blk.lt hB1) aq):∀k∈(I.z::(Sg++Sh)),k∉[g1])).c a4 (or1 c_1 (aa_ (h_ (al_ h6) hf.lt s3.s)<|h_ (ar_ h6) hf.lt s3.s) (S_ (d_ hf.lt)<|lt_ (lt_ aS h2.s) h4.s):∀k∈(I.z::(Sg++Sh)),k∉[H.z]),aP,io sr,o1no c_1 (aa_ (a_Y (al_ h6) (a_.lt J) hb)<|a_Y (ar_ h6) (a_.lt J) hb) (a_.lt J) aq,bC.c a4<|djs a3,bE⟩
  refine dRn z z z hci z<|dRn z z z hci z<|dEn z z z hci z<|dR z z (pF z hci z) ?_
  have ar:=mm1 (Blk.lt hB1) G.s;have aT:=lt_ s3.s s8.s;refine dE0 z (fs0 (cur':=[vI x2.number,sl AA NA CA,sl (some ⟨I.z,0,none⟩) 1 1]) b_ z z (((((((hf.c s3<|atp ar).c s8<|atp ar).e h2).c h4<|djs<|mm1 hf.lt aT).e hc).c O<|atp ao).e sa) z z z z) (.inr fun _ _ h=>l_D (List.mem_append_right _<|List.mem_singleton.2 rfl) h.2) ?_;rintro _ bG ⟨bH,bI⟩;have a5:=bI.one;refine dQ z z z<|pD ?_
  have au:=lt_ hb s8.s;exact fun _ q=>⟨false,bn,x2.number,x2.bytes,[rn],som<|ifF aA hci,AA,NA,CA,S2_1,some ⟨I.z,0,none⟩,1,1,(I.z::(Sg++Sh)),q.k<|s2 z z,(cM (k_ (cr ([g1]++[H.z]) wd) sa:Chg (· ∈ ([g1]++[H.z])) wd aR) a5 (io<|a_c sr):Chg (· ∈ ([g1]++[H.z])) wd bG),aI,a8,(((((((((J.e G).e L).c s3 p2_1dB).c s8 p2_1dB).e h2).c h4<|ds<|mno (a_.lt J) au).e hc).c O<|ds<|mnr<|a_.lt J).e sa).c a5<|ds<|mno (a_.lt J) G.s,p2_1n,io sr,((aN.c O (or1 c_1 (aa_ (h_ (al_ h6) he.lt ht)<|h_ (ar_ h6) he.lt ht) (S_ (d_ he.lt) ap):∀k∈(I.z::(Sg++Sh)),k∉[w0.z])).e sa).c a5 (or1 c_1 (aa_ (h_ (al_ h6) hf.lt s3.s)<|h_ (ar_ h6) hf.lt s3.s) (S_ (d_ hf.lt)<|lt_ (lt_ aT h2.s) h4.s):∀k∈(I.z::(Sg++Sh)),k∉[H.z]),aP,io sr,o1no c_1 (aa_ (a_Y (al_ h6) (a_.lt J) hb)<|a_Y (ar_ h6) (a_.lt J) hb) (a_.lt J)<|lt_ (lt_ au h2.s) h4.s,(((((aJ.e h2).c h4<|djs<|mm1 (Blk.lt hB1) au).e hc).c O<|djs hq).e sa).c a5<|djs ar,bH⟩
 rintro bJ bK ⟨al,xv,xw,am,an,rfl,ax,ny,cz,Sl,W,Y,a0,Sm,_,bL,bM,bN,bO,bP,bQ,bR,bS,bT,bU,bV,bW⟩;revert bJ;refine Wo ?_;obtain rfl:=som<|un5S b5;have aU:=lt_ hb s8.s;have aV:=lt_ (lt_ aU h2.s) h4.s;have aW:=lt_ (lt_ aV hc.s) O.s;exact Wr<|F_ hr (u_ i_ b_ z bW z) z ⟨(cM (cM (k_ (cM (k_ (cM (cM (k_ (k_ (cr ([g1]++(S2_1++S2_2)) w0) G:Chg (· ∈ ([g1]++(S2_1++S2_2))) w0 H) L:Chg (· ∈ ([g1]++(S2_1++S2_2))) w0 wk) s3 (io<|a_5 sr):Chg (· ∈ ([g1]++(S2_1++S2_2))) w0 aD) s8 (io<|a_5 sr):Chg (· ∈ ([g1]++(S2_1++S2_2))) w0 ws) h2:Chg (· ∈ ([g1]++(S2_1++S2_2))) w0 aK) h4 (mor aU:∀k∈[ws.z],k∈([g1]++(S2_1++S2_2))∨w0.z<=k):Chg (· ∈ ([g1]++(S2_1++S2_2))) w0 I) hc:Chg (· ∈ ([g1]++(S2_1++S2_2))) w0 aM) O (mor lr:∀k∈[w0.z],k∈([g1]++(S2_1++S2_2))∨w0.z<=k):Chg (· ∈ ([g1]++(S2_1++S2_2))) w0 wd) bL (aa_ (io<|a_5 sr) (mor G.s:∀k∈[H.z],k∈([g1]++(S2_1++S2_2))∨w0.z<=k)):Chg (· ∈ ([g1]++(S2_1++S2_2))) w0 bK),ax,ny,cz,Sl,W,Y,a0,Sm,z,bN,bO,bR,bM,bV,na_ bP bS<|ds bU,aa_ (or1 bQ (io<|a_5 sr) (q_ aW):∀k∈Sl,k∈(S2_1++S2_2)∨w0.z<=k) (or1 bT (or1 c_1 (aa_ (or0 (al_ h6) (q_ hb):∀k∈Sg,k∈(S2_1++S2_2)∨w0.z<=k) (or0 (ar_ h6) (q_ hb):∀k∈Sh,k∈(S2_1++S2_2)∨w0.z<=k)) (q_ aV):∀k∈(I.z::(Sg++Sh)),k∈(S2_1++S2_2)∨w0.z<=k) (q_ aW):∀k∈Sm,k∈(S2_1++S2_2)∨w0.z<=k)⟩
theorem e_8:∀n,h_C n
  | 0=>⟨⟨fun hm=>by intros;exact nomatch (show none=some _ from hm)⟩,⟨fun hm=>by intros;exact nomatch (show none=some _ from hm)⟩,⟨fun hm=>by intros;exact nomatch (show none=some _ from hm)⟩,⟨fun hm=>by intros;exact nomatch (show none=some _ from hm)⟩⟩
  | n+1=>⟨T_w04<|e_8 n,T_w2c<|e_8 n,T_w2d<|e_8 n,T_w2e<|e_8 n⟩
theorem W_w04:l_4 (a_K n).impl_textReader_value:=(e_8 n).1
theorem W_w2c:l_5 (a_K n).impl_textReader_list:=(e_8 n).2.1
theorem W_w2d:l_6 (a_K n).impl_textReader_parts:=(e_8 n).2.2.1
theorem W_w2e:l_7 (a_K n).impl_textReader_inner:=(e_8 n).2.2.2
theorem h_D {x1:c_}{x2:Int}{x3:Str}{res:Val×Bool}(hm:f_P n x1 x2 x3=some res)(O:B<=w0.z)(hG:Gl w0 B)(V:repS w0 B (sl A0 N0 C0) x1.rules)(W:inI x2)(am:x3.b.length<=LEN):l_ prog 23 [(.agg #[sl A0 N0 C0]),vI x2,Str.v x3] w0 (Q17 w0 B res):=by
 unfold f_P at hm
 refine goG func23 z z z fun fn hr=>Ws<|E z (fb z) ?_
 rintro _ wo ⟨rfl,hy⟩;have h6:=hy.below;have hp:Blk wo w0.z [sl A0 N0 C0]:=hy.blk;refine E z (fa E_) ?_;rintro _ ao ⟨rfl,hz⟩;have L:=hz.below;have J:Blk ao wo.z [vI 0,sl none 0 0,sl none 0 0]:=hz.blk;refine Rw z<|Wq<|Ws ?_
 have a3:=hp.e L;refine R z (lN (vs:=[sl A0 N0 C0]) w_ v_ z z fid<|a3.row 0 1 z)<|Rm z ?_
 have a4:=(h6.ag B).e L;have a5:=lt_ h6.s L.s;obtain ⟨_,ap,Y⟩:=bdS hm;refine E z (fc call41 z<|k_P ap (zt' O a5) (V.g a4) W) ?_;rintro _ a6 ⟨G,rfl⟩;refine R z (not_ z)<|Wx z (fun hcq=>?_) (fun hcq=>?_)
 ·refine Ws<|R z (bP (parts:=[]) (cs:=[vI 0,sl none 0 0,sl none 0 0]) P_ z z)<|E0 (fs0 (cur':=[vI 0,sl none 0 0,sl none 0 0]) b_ z z (J.e G) z z z z) ?_
  rintro _ _ ⟨aq,ar⟩;refine Rw z ?_
  obtain rfl:=som<|ifT Y hcq;exact Wr<|F_ hr (u_ i_ b_ z aq z) z ⟨bM (bup (bup h6 L) G) ar.one<|m1 h6.s,none,0,0,[],none,0,0,[],z,ii z,onL,onL,nd0,al0⟩
 refine Wk<|Ws ?_
 have a7:=a3.e G;refine R z (lN (vs:=[sl A0 N0 C0]) w_ v_ z z fid<|a7.row 0 1 z)<|Rm z<|R z (bP (parts:=[(0,.tmp 16),(1,.tmp 17)]) (cs:=[sl A0 N0 C0,Str.v x3,vI 0]) r_p z z)<|E z (fb z) ?_
 rintro _ a8 ⟨rfl,a9⟩;have h5:=a9.below;refine Rw z<|Wm z<|Rm z ?_
 have aa:=(a4.e G).e h5;have hl:=lt_ a5 G.s;have ht:∀k∈[a6.z],¬B k:=or0 (d_ lr)<|p_<|zt' O hl;have hb:=lt_ hl h5.s;obtain ⟨rm,au,_,av,an⟩:=O_<|ifF Y hcq;refine E z (fc call42 z<|W_w04.run (B:=B) av (a9.blk:Blk a8 a6.z [sl A0 N0 C0,Str.v x3,vI 0]) (zt' O hb) (atp ht) (V.g aa) am (ii z) W) ?_;rintro _ wn ⟨s1,ad,ne,cf,aw,ah,ng,ci,ax,rfl,ab,hj,hk,_,_,hu,hc⟩;refine Rm z<|Re z z z<|Re z z z<|E z (fa E_) ?_
 rintro _ ay ⟨rfl,ae⟩;have h2:=ae.below;refine E0 (fs0 (cur':=[vI rm.number,sl ad ne cf,sl ah ng ci]) b_ z z (ae.blk:Blk ay wn.z [vI 0,sl none 0 0,sl none 0 0]) z z z z) ?_;rintro _ wr ⟨af,az⟩;have h3:=az.one;refine Rw z<|Wq<|Wq ?_
 obtain ⟨aA,a0,a1⟩:=bdS an;refine Wt (fun a w=>∃(xs:Bool),xs=aA/\Sat 42 [(6,pt wo.z),(9,pt wn.z),(39,vB xs)] a/\Below wr.z wr w) ?_ ?_
 ·refine Wg<|Rm z<|R z (not_ z)<|Rm z ?_
  rcases bs (!au) with H | H
  ·iterate 6 refine Nh z H ?_
   exact R z (pT z H z)<|Rm z<|Nh z z<|Nh z z<|R z (pT z z z)<|Wl (fun _ q=>⟨true,som<|ifT a0 H,q.k<|s3 z z z,br wr⟩)
  have ai:=lt_ L.s G.s;refine Rh z H (lN (vs:=[sl A0 N0 C0]) w_ v_ z z fid<|((((a7.e h5).c s1<|djs<|mm1 hp.lt ai).e h2).c h3<|djs<|mm1 hp.lt<|lt_ (lt_ ai h5.s) s1.s).row 0 1 z)<|Rh z H (mv z)<|Rh z H (lN (vs:=[vI rm.number,sl ad ne cf,sl ah ng ci]) i_ b_ z z fid<|af.row 0 3 z) ?_
  have aj:=lt_ hb s1.s;have ak:∀k∈[wn.z],¬B k:=or0 (d_ lr)<|p_<|zt' O aj;obtain ⟨aB,aC,a2⟩:=bdS<|ifF a0 H;refine Eg z z H z (fc call25 z<|h_B (B:=zn B a8.z wn.z) aC (c_p (zt' O<|lt_ (lt_ aj h2.s) h3.s)<|lt_ h2.s h3.s) ((((((((hG.e h6).e L).e G).e h5).c s1<|e_ ht).e h2).c h3<|e_ ak).mono b_y) (repS.mono (V.g<|((aa.c s1<|e_ ht).e h2).c h3<|e_ ak) b_y) W ab (or_ ((hj.e h2).c h3<|ds<|mnr<|a_.lt hj)<|zin (B:=B) (al_ hc)<|a_.lt hj)<|or_ ((hk.e h2).c h3<|ds<|mnr<|a_.lt hk)<|zin (B:=B) (ar_ hc)<|a_.lt hk) ?_;rintro _ _ ⟨al,rfl,_⟩;refine Rh z H (mv z)<|Rh z H (g_q z z)<|R z (pF z H z)<|Rm z ?_
  rcases bs (aB.b != x3.b) with I | I
  ·exact Nh z I<|Nh z I<|R z (pT z I z)<|Wl (fun _ q=>⟨true,som<|ifT a2 I,q.k<|s3 z z z,al⟩)
  exact Rh z I (mv z)<|Rh z I (e_l z z)<|R z (pF z I z)<|Wl (fun _ q=>⟨x3.b==(⟨[]⟩:Str).b,som<|ifF a2 I,q.k<|s3 z z z,al⟩)
 rintro aD _ ⟨xs,rfl,_,sa⟩;revert aD;refine Wo<|Wc z (fun hcv=>?_) (fun hcv=>?_)
 ·refine Ws<|R z (bP (parts:=[]) (cs:=[vI 0,sl none 0 0,sl none 0 0]) P_ z z) ?_
  refine E0 (fs0 (cur':=[vI 0,sl none 0 0,sl none 0 0]) b_ z z ((((((J.e G).e h5).c s1<|djs<|mm1 J.lt G.s).e h2).c h3<|djs<|mm1 J.lt<|lt_ (lt_ G.s h5.s) s1.s).e sa) z z z z) ?_;rintro _ _ ⟨aE,aF⟩;refine Rw z ?_
  obtain rfl:=som<|ifT a1 hcv;exact Wr<|F_ hr (u_ i_ b_ z aE z) z ⟨bM (bup (bM (bup (bM (bup (bup (bup h6 L) G) h5) s1<|m1 hl) h2) h3<|m1<|lt_ hb s1.s) sa) aF.one<|m1 h6.s,none,0,0,[],none,0,0,[],z,ii z,onL,onL,nd0,al0⟩
 refine Wk<|Ws<|R z (lN (vs:=[vI rm.number,sl ad ne cf,sl ah ng ci]) i_ b_ z z fid<|(af.e sa).row 0 3 z) ?_
 have hw:=lt_ G.s h5.s;refine E0 (fs0 (cur':=[vI rm.number,sl ad ne cf,sl ah ng ci]) b_ z z ((((((J.e G).e h5).c s1<|djs<|mm1 J.lt G.s).e h2).c h3<|djs<|mm1 J.lt<|lt_ hw s1.s).e sa) z z z z) ?_;rintro _ _ ⟨aG,aH⟩;have hx:=aH.one;refine Rw z ?_
 obtain rfl:=som<|ifF a1 hcv;exact Wr<|F_ hr (u_ i_ b_ z aG z) z ⟨bM (bup (bM (bup (bM (bup (bup (bup h6 L) G) h5) s1<|m1 hl) h2) h3<|m1<|lt_ hb s1.s) sa) hx<|m1 h6.s,ad,ne,cf,aw,ah,ng,ci,ax,z,ab,(((hj.e h2).c h3<|ds<|mnr<|a_.lt hj).e sa).c hx<|h_ (al_ hc) J.lt hw,(((hk.e h2).c h3<|ds<|mnr<|a_.lt hk).e sa).c hx<|h_ (ar_ hc) J.lt hw,na_ (nl_ hu) (nr_ hu)<|nj hu,aa_ (j_ (al_ hc) hb)<|j_ (ar_ hc) hb⟩
theorem W_w3v {x1:List UInt8}{x2:List UInt8}{res:Bool}(hm:k_m x1 x2=some res)(I:B<=w0.z)(G:repS w0 B (sl A0 N0 C0) x1)(H:repS w0 B (sl A6 N6 C6) x2):l_ prog 83 [sl A0 N0 C0,sl A6 N6 C6] w0 (Q7 w0 B res):=by
 unfold k_m at hm
 refine goG func83 z z z fun fn hr=>Ws<|Rw z<|Wm z<|R z (i_i n_ d_9 d_5 z_5 z G)<|Rm z<|R z (i_i n_ d_9 d_5 z_5 z H)<|R z (e_l z z)<|Rw z ?_
 obtain rfl:=som hm;exact Wr<|f_ hr z ⟨br w0,z⟩
theorem W_w2f {x1:List UInt8}{x2:List UInt8}{res:Bool}(hm:f_r x1 x2=some res)(I:B<=w0.z)(G:repS w0 B (sl A0 N0 C0) x1)(H:repS w0 B (sl A6 N6 C6) x2):l_ prog 45 [sl A0 N0 C0,sl A6 N6 C6] w0 (Q7 w0 B res):=by
 unfold f_r at hm
 refine goG func45 z z z fun fn hr=>Ws<|Rw z<|Wm z<|Rm z ?_
 obtain ⟨_,L,J⟩:=bdS hm;refine E z (fc call83 z<|W_w3v (B:=B) L I G H) ?_;rintro _ _ ⟨s2,rfl⟩;refine Rw z ?_
 obtain rfl:=som J;exact Wr<|f_ hr z ⟨s2,z⟩
structure l_8 (f:Val->Val->Option Bool):Prop where
  run:∀{A8 AG AA AF:Option Addr}{N8 C8 NG CG NA CA NF CF:Nat}{B:Zone}{x1:Val}{x2:Val}{res:Bool}{w0:World}(hm:f x1 x2=some res)(hBw:B<=w0.z)(p1_0:inI x1.number)(p1_1:repS w0 B (sl A8 N8 C8) x1.bytes)(p1_2:repS w0 B (sl AG NG CG) x1.items)(p2_0:inI x2.number)(p2_1:repS w0 B (sl AA NA CA) x2.bytes)(p2_2:repS w0 B (sl AF NF CF) x2.items),l_ prog 28 [(.agg #[vI x1.number,sl A8 N8 C8,sl AG NG CG]),(.agg #[vI x2.number,sl AA NA CA,sl AF NF CF])] w0<|Q7 w0 B res
abbrev n_u (n:Nat):Prop:=l_8 (c_q n).impl_EqualValues
theorem T_w0j (a9:n_u n):l_8 (c_f n<|c_q n):=by
 constructor
 intro A8 AG AA AF N8 C8 NG CG NA CA NF CF B x1 x2 res w0 hm V aJ W J aK Y O;unfold c_f at hm
 refine goG func28 z z z fun fn hr=>Ws<|E z (fb z) ?_
 rintro _ L ⟨rfl,hh⟩;have h3:=hh.below;have hi:Blk L w0.z [vI x1.number,sl A8 N8 C8,sl AG NG CG]:=hh.blk;refine E z (fb z) ?_;rintro _ wa ⟨rfl,hj⟩;have h2:=hj.below;have hb:Blk wa L.z [vI x2.number,sl AA NA CA,sl AF NF CF]:=hj.blk;refine Rw z<|Wq<|Wq ?_
 obtain ⟨uw,huk,hml⟩:=bdS hm;refine Wt (fun a w=>∃(xc:Bool),xc=uw/\Sat 47 [(2,pt w0.z),(3,pt L.z),(27,vB xc)] a/\Below wa.z wa w) ?_ ?_
 ·refine Wg<|Rf z a_F z ?_
  have hd:=hi.e h2;refine R z (l0 g_3 z<|hd.at z)<|Rf z a_F z<|R z (l0 g_3 z<|hb.at z)<|R z (nq z z)<|Rm z ?_
  rcases bs (x1.number != x2.number) with H | H
  ·iterate 6 refine Nh z H ?_
   exact R z (pT z H z)<|Rm z<|Nh z z<|Nh z z<|Nh z z<|Nh z z<|Nh z z<|Nh z z<|Nh z z<|R z (pT z z z)<|Wl (fun _ q=>⟨true,som<|ifT huk H,q.k<|s3 z z z,br wa⟩)
  refine Rh z H (fd a_B z)<|Rh z H (l0 J_ z<|hd.at z)<|Rh z H (fd a_B z)<|Rh z H (l0 J_ z<|hb.at z) ?_
  have he:=(h3.ag B).e h2;obtain ⟨rx,ey,hmm⟩:=bdS<|ifF huk H;refine Eg z z H z (fc call45 z<|W_w2f ey (zt' V<|lt_ h3.s h2.s) (W.g he)<|Y.g he) ?_;rintro _ _ ⟨s8,rfl⟩;refine Rh z H (not_ z)<|R z (pF z H z)<|Rm z ?_
  rcases bs (!rx) with G | G
  ·iterate 7 refine Nh z G ?_
   exact R z (pT z G z)<|Wl (fun _ q=>⟨true,som<|ifT hmm G,q.k<|s3 z z z,s8⟩)
  refine Rh z G (fd Q_ z)<|Rh z G (l0 X_ z<|(hd.e s8).at z) ?_
  have hn:=he.e s8;exact Rh z G (lnR Y_ z<|J.g hn)<|Rh z G (fd Q_ z)<|Rh z G (l0 X_ z<|(hb.e s8).at z)<|Rh z G (lnR Y_ z<|O.g hn)<|Rh z G (nq z z)<|R z (pF z G z)<|Wl (fun _ q=>⟨(x1.items.length:Int) != (x2.items.length:Int),som<|ifF hmm G,q.k<|s3 z z z,s8⟩)
 rintro az I ⟨xc,rfl,_,s5⟩;revert az;refine Wo<|Wc z (fun hcf=>?_) (fun hcf=>?_)
 ·refine Ws<|Rw z ?_
  obtain rfl:=som<|ifT hml hcf;exact Wr<|f_ hr z ⟨bup (bup h3 h2) s5,z⟩
 refine Wk<|Wq<|Ws<|Rf z Q_ z ?_
 have ho:=(hi.e h2).e s5;refine R z (l0 X_ z<|ho.at z) ?_;have hp:=((h3.ag B).e h2).e s5;refine R z (lnR Y_ z<|J.g hp)<|Rm z<|Wn ?_
 obtain ⟨_,a0,hmq⟩:=bdS<|ifF hml hcf;refine Wf (σ:=Unit) (ρ:=Bool) (fun (kr:Nat)(_:Unit) a w=>Sat 47 [(2,pt w0.z),(3,pt L.z),(30,vI (x1.items.length:Int)),(31,vI ((kr:Nat):Int))] a/\Below I.z I w) (fun (_:Unit) a w=>Sat 47 [] a/\Below I.z I w) (rQ prog fn<|Q7 w0 B) a0 ?_ ?_ ?_ ?_ ?_
 ·exact fun _ q=>⟨q.k<|s4 z z z z,br I⟩
 ·rintro kr _ _ _ _ hks ⟨a1,s6⟩ a2;refine Wu ?_ a1;refine Ws<|Rl z z z<|Wn<|Wq<|Wc z (fun _=>?_) (fun hc=>(a_0 hks hc).elim)
  refine Wk<|Wq<|Wb<|Wm z<|Rw z<|Wq (Wd (X:=noX) 0 (pl_ 12 [10]) mo (by kernel_rfl) fun aL s7 _=>dR z z (fd Q_ z)<|dR z z (l0 X_ z<|((ho.e s6).e s7).at z)<|dM z z z ?_)
  obtain ⟨aa,ab,a3⟩:=bdS a2;have ht:=(hp.e s6).e s7;refine dRX z z (at_ (α:=Val) Y_ b_ z z z (J.g ht) ab) ?_;rintro _ ⟨_,_,_,rfl,ad,ae,_⟩;obtain ⟨af,ah,ai,aj,ak,al,rfl,am,an,ao⟩:=d_f ae;refine dR z z (lN (vs:=[vI aa.number,sl af ah ai,sl aj ak al]) i_ b_ z z fid ad)<|dR z z (fd Q_ z)<|dR z z (l0 X_ z<|(((hb.e s5).e s6).e s7).at z)<|dM z z z ?_
  obtain ⟨ap,aq,a4⟩:=bdS a3;refine dRX z z (at_ (α:=Val) Y_ b_ z z z (O.g ht) aq) ?_;rintro _ ⟨_,_,_,rfl,ar,au,_⟩;obtain ⟨av,aw,ax,ay,aA,aB,rfl,aC,aD,aE⟩:=d_f au;refine dR z z (lN (vs:=[vI ap.number,sl av aw ax,sl ay aA aB]) i_ b_ z z fid ar) ?_;obtain ⟨_,aF,hmu⟩:=bdS a4;refine dE z z (fc call28 z<|a9.run aF (zt' V<|lt_ (lt_ (lt_ (lt_ h3.s h2.s) s5.s) s6.s) s7.s) am an ao aC aD aE) (.inr fun _ _ h=>o_<|h.1) ?_;rintro _ _ ⟨sv,rfl⟩;refine dR z z (not_ z)<|pD<|Wo<|Wc z (fun hcg=>?_) (fun hcg=>?_)
  ·exact Ws<|Rw z<|Wr<|rtO<|qL (som<|ifT hmu hcg).symm<|f_ hr z ⟨bup (bup (bup (bup (bup h3 h2) s5) s6) s7) sv,z⟩
  exact Wk<|Wg<|R z (inc_ hks (lt_ (repS.len J) G_) z z)<|Rm z<|Wl (fun _ q=>⟨(),(som<|ifF hmu hcg).symm,⟨q.k<|s4 z z z z,bup (bup s6 s7) sv⟩⟩)
 ·rintro _ _ _ ⟨a5,aG⟩;refine Wu ?_ a5;refine Ws<|Rl z z z<|Wn<|Wq<|Wc z (fun hc=>(a_1 hc).elim) (fun _=>?_)
  exact We<|fun _ q=>⟨rfl,⟨q.k sn,aG⟩⟩
 ·rintro _ aH _ rfl ⟨_,aI⟩;have a6:=elL hmq;revert aH;refine Wo<|Ws<|Rw z ?_
  obtain rfl:=som a6;exact Wr<|f_ hr z ⟨bup (bup (bup h3 h2) s5) aI,z⟩
 rintro _ _ _ _ rfl ⟨rfl,a7⟩;have a8:=elR hmq;obtain rfl:=som a8;exact ⟨a7,z⟩
theorem A_w0j:∀n,n_u n
  | 0=>⟨fun hm=>by intros;exact nomatch (show none=some _ from hm)⟩
  | n+1=>T_w0j<|A_w0j n
theorem W_w0j:l_8 (c_q n).impl_EqualValues:=A_w0j n
theorem W_w3w {x1:c_}{x2:List UInt8}{x3:List UInt8}{res:Bool}(hm:f_Q n x1 x2 x3=some res)(O:B<=w0.z)(hG:Gl w0 B)(V:repS w0 B (sl A0 N0 C0) x1.rules)(a6:repS w0 B (sl A6 N6 C6) x2)(a7:repS w0 B (sl A9 N9 C9) x3):l_ prog 26 [(.agg #[sl A0 N0 C0]),sl A6 N6 C6,sl A9 N9 C9] w0 (Q7 w0 B res):=by
 unfold f_Q at hm
 refine goG func26 z z z fun fn hr=>Ws<|E z (fb z) ?_
 rintro _ ad ⟨rfl,hi⟩;have h4:=hi.below;have hd:Blk ad w0.z [sl A0 N0 C0]:=hi.blk;refine Rw z<|Ws<|R z (lN (vs:=[sl A0 N0 C0]) w_ v_ z z fid<|hd.row 0 1 z)<|Rm z ?_
 have hj:=hG.e h4;obtain ⟨rk,_,ae,af,a8⟩:=O_ hm;refine E z (fc call21 z<|j_m af (zt' O h4.s) hj (V.e h4)<|a6.e h4) ?_;rintro _ wl ⟨s8,am,nn,co,_,ap,nq,cr,_,rfl,ah,L,ha,_,_,_,_⟩;refine Rm z ?_
 iterate 3 refine Re z z z ?_
 refine E z (fa E_) ?_;rintro _ ai ⟨rfl,ht⟩;have h3:=ht.below;have hu:Blk ai wl.z [vI 0,sl none 0 0,sl none 0 0]:=ht.blk;refine E0 (fs0 (cur':=[vI rk.number,sl am nn co,sl ap nq cr]) b_ z z hu z z z z) ?_;rintro _ _ ⟨aj,ak⟩;have I:=ak.one;refine Ra z<|Rw z<|Ws<|R z (lN (vs:=[sl A0 N0 C0]) w_ v_ z z fid<|(((hd.e s8).e h3).c I<|djs<|mm1 hd.lt s8.s).row 0 1 z)<|Rm z ?_
 have he:=lt_ h4.s s8.s;have hv:∀k∈[wl.z],¬B k:=or0 (d_ lr)<|p_<|zt' O he;have hw:=(((h4.ag B).e s8).e h3).c I<|e_ hv
 have hx:=lt_ (lt_ he h3.s) I.s;obtain ⟨rs,_,al,an,a9⟩:=O_ a8;refine E z (fc call21 z<|j_m an (zt' O hx) (((hj.e s8).e h3).c I<|e_ hv) (V.g hw)<|a7.g hw) ?_;rintro _ wy ⟨s5,az,a0,a1,_,a2,a3,a4,_,rfl,ao,hf,hg,_,_,_,_⟩;refine Rm z ?_
 iterate 3 refine Re z z z ?_
 refine E z (fa E_) ?_;rintro _ aq ⟨rfl,a5⟩;have h6:=a5.below;refine E0 (fs0 (cur':=[vI rs.number,sl az a0 a1,sl a2 a3 a4]) b_ z z (a5.blk:Blk aq wy.z [vI 0,sl none 0 0,sl none 0 0]) z z z z) ?_;rintro _ wb ⟨ar,au⟩;have J:=au.one;refine Ra z<|Rw z<|Wq ?_
 obtain ⟨av,W,aa⟩:=bdS a9;refine Wt (fun a w=>∃(xh:Bool),xh=av/\Sat 38 [(6,vB xh)] a/\Below wb.z wb w) ?_ ?_
 ·refine Wg<|Rm z<|Rq z z z<|Rm z ?_
  rcases bs (ae==0) with G | G
  ·have Y:=ifT W G;refine Rh z G (mv z)<|Rh z G (eql z z)<|R z (pT z G z)<|Rm z ?_
   rcases bs (al==0) with H | H
   ·refine Rh z H (lN (vs:=[vI rk.number,sl am nn co,sl ap nq cr]) i_ b_ z z fid<|(((aj.e s5).e h6).c J<|djs<|mm1 hu.lt<|lt_ I.s s5.s).row 0 3 z)<|Rh z H (lN (vs:=[vI rs.number,sl az a0 a1,sl a2 a3 a4]) i_ b_ z z fid<|ar.row 0 3 z) ?_
    have hc:=lt_ (lt_ h3.s I.s) s5.s;obtain ⟨aw,ax,ab⟩:=bdS<|ifT Y H;refine Eg z z H z (fc call28 z<|W_w0j.run (B:=wy.z) ax (M_<|lt_ h6.s J.s) ah (repS.mono (or_ (((((L.e h3).c I<|ds<|mnr<|a_.lt L).e s5).e h6).c J<|ds<|mno (a_.lt L) hc)<|a_.lt L)<|M_ hc) (repS.mono (or_ (((((ha.e h3).c I<|ds<|mnr<|a_.lt ha).e s5).e h6).c J<|ds<|mno (a_.lt ha) hc)<|a_.lt ha)<|M_ hc) ao (or_ ((hf.e h6).c J<|ds<|mnr<|a_.lt hf)<|a_.lt hf)<|or_ ((hg.e h6).c J<|ds<|mnr<|a_.lt hg)<|a_.lt hg) ?_;rintro _ _ ⟨ay,rfl⟩;exact R z (pT z H z)<|Ra z<|Wl (fun _ q=>⟨aw,som ab,q.k<|s1 z,ay⟩)
   iterate 3 refine Nh z H ?_
   exact R z (pF z H z)<|Ra z<|Wl (fun _ q=>⟨false,som<|ifF Y H,q.k<|s1 z,br wb⟩)
  exact Nh z G<|Nh z G<|R z (pF z G z)<|Rm z<|Nh z z<|Nh z z<|Nh z z<|R z (pF z z z)<|Ra z<|Wl (fun _ q=>⟨false,som<|ifF W G,q.k<|s1 z,br wb⟩)
 rintro aA _ ⟨xh,rfl,_,aB⟩;revert aA;refine Wo ?_;obtain rfl:=som aa;exact Wr<|f_ hr z ⟨bup (bM (bup (bup (bM (bup (bup h4 s8) h3) I<|m1 he) s5) h6) J<|m1<|lt_ hx s5.s) aB,z⟩
theorem W_w3x {x1:c_}{x2:List UInt8}{res:Bool}(hm:f_R n x1 x2=some res)(J:B<=w0.z)(hG:Gl w0 B)(O:repS w0 B (sl A0 N0 C0) x1.rules)(I:repS w0 B (sl A6 N6 C6) x2):l_ prog 27 [(.agg #[sl A0 N0 C0]),sl A6 N6 C6] w0 (Q7 w0 B res):=by
 unfold f_R at hm
 refine goG func27 z z z fun fn hr=>Ws<|E z (fb z) ?_
 rintro _ V ⟨rfl,h5⟩;have h1:=h5.below;refine Rw z<|Ws<|R z (lN (vs:=[sl A0 N0 C0]) w_ v_ z z fid<|(h5.blk:Blk V w0.z [sl A0 N0 C0]).row 0 1 z)<|Rm z ?_
 obtain ⟨_,W,ea,hmb⟩:=V_ hm;refine E z (fc call22 z<|W_w26 ea (zt' J h1.s) (hG.e h1) (O.e h1)<|I.e h1) ?_;rintro _ H ⟨s3,_,_,_,_,rfl,hc,_,_⟩;refine Rm z<|Re z z z<|Re z z z<|Ra z<|Rw z<|Wq ?_
 obtain ⟨ud,L,hme⟩:=bdS hmb;refine Wt (fun a w=>∃(x4:Bool),x4=ud/\Sat 19 [(4,vB x4)] a/\Below H.z H w) ?_ ?_
 ·refine Wg<|RM z z ?_
  rcases bs W with G | G
  ·refine Rh z G (mv z)<|Rh z G (mv z) ?_
   obtain ⟨rf,eg,hmh⟩:=bdS<|ifT L G;refine Eg z z G z (fc call45 z<|W_w2f (B:=H.z) eg zr (repS.mono (I.g<|(h1.ag B).e s3)<|zt' J<|lt_ h1.s s3.s)<|a_.rep hc) ?_;rintro _ _ ⟨si,rfl⟩;exact R z (pT z G z)<|Ra z<|Wl (fun _ q=>⟨rf,som hmh,q.k<|s1 z,si⟩)
  iterate 3 refine Nh z G ?_
  exact R z (pF z G z)<|Ra z<|Wl (fun _ q=>⟨false,som<|ifF L G,q.k<|s1 z,br H⟩)
 rintro aj _ ⟨x4,rfl,_,sk⟩;revert aj;refine Wo ?_;obtain rfl:=som hme;exact Wr<|f_ hr z ⟨bup (bup h1 s3) sk,z⟩
theorem W_w3y {x1:c_}{x2:List UInt8}{res:Bool}(hm:f_S n x1 x2=some res)(L:B<=w0.z)(hG:Gl w0 B)(H:repS w0 B (sl A0 N0 C0) x1.rules)(ao:repS w0 B (sl A6 N6 C6) x2):l_ prog 8 [(.agg #[sl A0 N0 C0]),sl A6 N6 C6] w0 (Q7 w0 B res):=by
 unfold f_S at hm
 refine goG func8 z z z fun fn hr=>Ws<|E z (fb z) ?_
 rintro _ d7 ⟨rfl,bg⟩;have hg:=bg.below;have Y:Blk d7 w0.z [sl A0 N0 C0]:=bg.blk;refine Rw z<|Ws<|R z (lN (vs:=[sl A0 N0 C0]) w_ v_ z z fid<|Y.row 0 1 z)<|Rm z ?_
 have bh:=hG.e hg;obtain ⟨aq,_,_,d8,b6⟩:=O_ hm;refine E z (fc call21 z<|j_m d8 (zt' L hg.s) bh (H.e hg)<|ao.e hg) ?_;rintro _ wq ⟨sh,ar,au,av,_,aw,ax,ay,_,rfl,hz,I,J,_,_,_,_⟩;refine Rm z ?_
 iterate 3 refine Re z z z ?_
 refine E z (fa E_) ?_;rintro _ d9 ⟨rfl,bi⟩;have h4:=bi.below;have bj:Blk d9 wq.z [vI 0,sl none 0 0,sl none 0 0]:=bi.blk;refine E0 (fs0 (cur':=[vI aq.number,sl ar au av,sl aw ax ay]) b_ z z bj z z z z) ?_;rintro _ _ ⟨bk,da⟩;have h1:=da.one;refine Ra z<|Rw z<|Wq<|Wm z<|R z (nq z z)<|Wx z (fun ap=>?_) (fun ap=>?_)
 ·refine Ws<|Rw z ?_
  obtain rfl:=som<|ifT b6 ap;exact Wr<|f_ hr z ⟨bM (bup (bup hg sh) h4) h1<|m1<|lt_ hg.s sh.s,z⟩
 refine Wk<|Ws ?_
 have az:=((Y.e sh).e h4).c h1<|djs<|mm1 Y.lt sh.s
 refine R z (lN (vs:=[sl A0 N0 C0]) w_ v_ z z fid<|az.row 0 1 z)<|Rm z ?_
 have aA:=lt_ hg.s sh.s;have hi:=zt' L aA;have bm:∀k∈[wq.z],¬B k:=or0 (d_ lr)<|p_ hi;have O:=(((hg.ag B).e sh).e h4).c h1<|e_ bm
 have hu:=((bh.e sh).e h4).c h1<|e_ bm
 have a0:=lt_ (lt_ aA h4.s) h1.s;obtain ⟨_,bn,db,cS⟩:=V_<|ifF b6 ap;refine E z (fc call22 z<|W_w26 db (zt' L a0) hu (H.g O)<|ao.g O) ?_;rintro _ wl ⟨G,dc,dd,de,_,rfl,aB,_,_⟩;refine Rm z<|Re z z z<|Re z z z<|Ra z<|Rw z<|Wq ?_
 obtain ⟨df,b7,cT⟩:=bdS cS;refine Wt (fun a w=>∃(xv:Int)(a1:List UInt8)(a2:List Val)(a3:Bool),(xv,a1,a2,a3)=df/\∃a4 a5 a6 Sw a7 a8 a9 Sx gy,Sat 59 [(1,sl A6 N6 C6),(2,pt w0.z),(5,pt wq.z),(8,sl dc dd de),(9,vB bn),(10,pt gy),(11,vB a3)] a/\Below wl.z wl w/\inI xv/\a_ w Sw (sl a4 a5 a6) a1/\Sw.Nodup/\(∀k∈Sw,wl.z<=k)/\a_ w Sx (sl a7 a8 a9) a2/\Sx.Nodup/\(∀k∈Sx,wl.z<=k)/\(∀k∈Sx,k∉Sw)/\Blk w gy [vI xv,sl a4 a5 a6,sl a7 a8 a9]/\wl.z<=gy/\(∀k∈Sw,k∉[gy])/\(∀k∈Sx,k∉[gy])) ?_ ?_
 ·refine Wd (X:=fun k=>k∈([]:List Nat)∨wl.z<=k) 0 (.rd 0<|.rd 1<|.rd 3<|.rd 4<|.rd 6<|.br 2 (.br 5 (.br 7 (.br 8 (.rd 9<|.rd 10<|.rd 11<|.ef 12<|.ef 13<|.rd 14 .done) 12<|.ef 8<|.rd 9<|.rd 10<|.rd 11<|.ef 13<|.rd 14 .done) 12<|.ef 7<|.ef 8<|.rd 9<|.rd 10<|.rd 11<|.ef 13<|.rd 14 .done) 12<|.ef 5<|.ef 7<|.ef 8<|.rd 9<|.rd 10<|.rd 11<|.ef 13<|.rd 14 .done) 12<|.ef 2<|.ef 5<|.ef 7<|.ef 8<|.rd 9<|.rd 10<|.rd 11<|.ef 13<|.rd 14 .done) mo (by kernel_rfl) fun bo s2 _=>?_
  iterate 4 refine dR z z (lN (vs:=[sl A0 N0 C0]) w_ v_ z z (b_t nm0<|Nat.lt_of_lt_of_le Y.lt (lt_ (lt_ (lt_ sh.s h4.s) h1.s) G.s))<|((az.e G).e s2).row 0 1 z) ?_
  refine dR z z (lN (vs:=[vI aq.number,sl ar au av,sl aw ax ay]) i_ b_ z z (b_t nm0<|Nat.lt_of_lt_of_le bj.lt<|lt_ h1.s G.s)<|((bk.e G).e s2).row 0 3 z)<|b_x ?_ ?_
  ·have aC:=(O.e G).e s2;have aD:=lt_ (lt_ a0 G.s) s2.s;obtain ⟨_,dg,b8⟩:=bdS b7;refine dE z z (fc call24 z<|e_6 dg (zt' L aD)<|H.g aC) (.inr fun _ _ h=>o_<|h.1) ?_;rintro _ bp ⟨s3,rfl,aa⟩;refine b_x ?_ ?_
   ·have aE:=aC.e s3;have ab:=lt_ aD s3.s;obtain ⟨_,dh,b9⟩:=bdS b8;refine dE z z (fc call24 z<|e_6 dh (zt' L ab)<|H.g aE) (.inr fun _ _ h=>o_<|h.1) ?_;rintro _ bq ⟨s5,rfl,bt⟩;refine b_x ?_ ?_
    ·have aF:=aE.e s5;have aG:=(((hu.e G).e s2).e s3).e s5;obtain ⟨_,di,ba⟩:=bdS b9;refine dE z z (fc call25 z<|h_B (B:=wq.z) di (M_<|lt_ (lt_ (lt_ (lt_ (lt_ h4.s h1.s) G.s) s2.s) s3.s) s5.s) (aG.mono hi) (repS.mono (H.g aF) hi) bt hz (or_ ((((((I.e h4).c h1<|ds<|mnr<|a_.lt I).e G).e s2).e s3).e s5)<|a_.lt I)<|or_ ((((((J.e h4).c h1<|ds<|mnr<|a_.lt J).e G).e s2).e s3).e s5)<|a_.lt J) (.inr fun _ _ h=>o_<|h.1) ?_;rintro _ bu ⟨sa,rfl,bv⟩;refine b_x ?_ ?_
     ·obtain ⟨ad,dj,dk,cU⟩:=V_ ba;refine dE z z (fc call23 z<|h_D dk (zt' L<|lt_ (lt_ ab s5.s) sa.s) (aG.e sa) (H.g<|aF.e sa) aa bv) (.inr fun _ _ h=>o_<|h.1) ?_;rintro _ bw ⟨bx,bz,bA,bB,dl,bC,bD,bE,dm,rfl,dn,bF,bG,aH,bH⟩;refine dM z z z<|dR z z (ext_ z z)<|dR z z (ext_ z z)<|dE z z (fa E_) (.inr fun _ _ h=>o_<|h.2.below) ?_
      rintro _ dp ⟨rfl,bI⟩;have aI:=bI.below;have aJ:=lt_ (lt_ (lt_ s2.s s3.s) s5.s) sa.s;have aK:=m1<|lt_ aJ bx.s
      refine dE0 z (fs0 (cur':=[vI ad.number,sl bz bA bB,sl bC bD bE]) b_ z z (bI.blk:Blk dp bw.z [vI 0,sl none 0 0,sl none 0 0]) z z z z) (.inr fun _ _ h=>b_1 (atp aK) h.2) ?_;rintro _ _ ⟨dq,dr⟩;have aL:=dr.one;refine dQ z z z<|pD ?_
      have bJ:=mnr<|a_.lt bF
      have bK:=mnr<|a_.lt bG
      exact fun _ q=>⟨ad.number,ad.bytes,ad.items,dj,som cU,bz,bA,bB,dl,bC,bD,bE,dm,bw.z,q.k<|s7 z z z z z z z,bM (bup (bup (bup (bup (bup s2 s3) s5) sa) bx) aI) aL aK,dn,(bF.e aI).c aL<|ds bJ,nl_ aH,j_ (al_ bH) aJ,(bG.e aI).c aL<|ds bK,nr_ aH,j_ (ar_ bH) aJ,ds<|nj aH,dq,atp aK,ds bJ,ds bK⟩
     refine dE z z (fa E_) (.inr fun _ _ h=>o_<|h.2.below) ?_;rintro _ dt ⟨rfl,bL⟩;have V:=bL.below;have aM:Blk dt bu.z [vI 0,sl none 0 0,sl none 0 0]:=bL.blk;obtain ⟨ae,du,dv,cV⟩:=V_ ba;refine dE z z (fc call23 z<|h_D dv (zt' L<|lt_ (lt_ (lt_ ab s5.s) sa.s) V.s) ((aG.e sa).e V) (H.g<|(aF.e sa).e V) aa bv) (.inr fun _ _ h=>o_<|h.1) ?_;rintro _ _ ⟨bN,bO,bP,bQ,dw,bR,bS,bT,dx,rfl,dy,dz,dA,aN,af⟩;refine dM z z z<|dR z z (ext_ z z)<|dR z z (ext_ z z) ?_
     have bU:=lt_ (lt_ (lt_ s2.s s3.s) s5.s) sa.s;have aO:=m1 bU;refine dE0 z (fs0 (cur':=[vI ae.number,sl bO bP bQ,sl bR bS bT]) b_ z z (aM.e bN) z z z z) (.inr fun _ _ h=>b_1 (atp aO) h.2) ?_;rintro _ _ ⟨dB,dC⟩;have aP:=dC.one;refine dQ z z z<|pD ?_
     have bV:=h_ (al_ af) aM.lt lr;have bW:=lt_ bU V.s;have bX:=h_ (ar_ af) aM.lt lr;exact fun _ q=>⟨ae.number,ae.bytes,ae.items,du,som cV,bO,bP,bQ,dw,bR,bS,bT,dx,bu.z,q.k<|s7 z z z z z z z,bM (bup (bup (bup (bup (bup s2 s3) s5) sa) V) bN) aP aO,dy,dz.c aP bV,nl_ aN,j_ (al_ af) bW,dA.c aP bX,nr_ aN,j_ (ar_ af) bW,ds<|nj aN,dB,atp aO,bV,bX⟩
    refine dE z z (fa E_) (.inr fun _ _ h=>o_<|h.2.below) ?_;rintro _ dD ⟨rfl,bY⟩;have hn:=bY.below;have aQ:Blk dD bq.z [vI 0,sl none 0 0,sl none 0 0]:=bY.blk;have bZ:=(aE.e s5).e hn;have c0:=((((hu.e G).e s2).e s3).e s5).e hn;obtain ⟨_,dF,cW⟩:=bdS b9;refine dE z z (fc call25 z<|h_B (B:=wq.z) dF (M_<|lt_ (lt_ (lt_ (lt_ (lt_ (lt_ h4.s h1.s) G.s) s2.s) s3.s) s5.s) hn.s) (c0.mono hi) (repS.mono (H.g bZ) hi) bt hz (or_ (((((((I.e h4).c h1<|ds<|mnr<|a_.lt I).e G).e s2).e s3).e s5).e hn)<|a_.lt I)<|or_ (((((((J.e h4).c h1<|ds<|mnr<|a_.lt J).e G).e s2).e s3).e s5).e hn)<|a_.lt J) (.inr fun _ _ h=>o_<|h.1) ?_;rintro _ _ ⟨sm,rfl,dG⟩;obtain ⟨ah,dH,dI,cX⟩:=V_ cW;refine dE z z (fc call23 z<|h_D dI (zt' L<|lt_ (lt_ (lt_ ab s5.s) hn.s) sm.s) (c0.e sm) (H.g<|bZ.e sm) aa dG) (.inr fun _ _ h=>o_<|h.1) ?_;rintro _ _ ⟨c1,c2,c3,c4,dJ,c5,c6,c7,dK,rfl,dL,dN,dO,aR,ai⟩;refine dM z z z<|dR z z (ext_ z z)<|dR z z (ext_ z z) ?_
    have c8:=lt_ (lt_ s2.s s3.s) s5.s;have aS:=m1 c8;refine dE0 z (fs0 (cur':=[vI ah.number,sl c2 c3 c4,sl c5 c6 c7]) b_ z z ((aQ.e sm).e c1) z z z z) (.inr fun _ _ h=>b_1 (atp aS) h.2) ?_;rintro _ _ ⟨dP,dS⟩;have aT:=dS.one;refine dQ z z z<|pD ?_
    have c9:=h_ (al_ ai) aQ.lt sm.s;have ca:=lt_ (lt_ c8 hn.s) sm.s;have cb:=h_ (ar_ ai) aQ.lt sm.s;exact fun _ q=>⟨ah.number,ah.bytes,ah.items,dH,som cX,c2,c3,c4,dJ,c5,c6,c7,dK,bq.z,q.k<|s7 z z z z z z z,bM (bup (bup (bup (bup (bup s2 s3) s5) hn) sm) c1) aT aS,dL,dN.c aT c9,nl_ aR,j_ (al_ ai) ca,dO.c aT cb,nr_ aR,j_ (ar_ ai) ca,ds<|nj aR,dP,atp aS,c9,cb⟩
   refine dE z z (fa E_) (.inr fun _ _ h=>o_<|h.2.below) ?_;rintro _ dT ⟨rfl,cc⟩;have ho:=cc.below;have aU:Blk dT bp.z [vI 0,sl none 0 0,sl none 0 0]:=cc.blk;have cd:=(aC.e s3).e ho;have ce:=lt_ (lt_ aD s3.s) ho.s;obtain ⟨_,dU,cY⟩:=bdS b8;refine dE z z (fc call24 z<|e_6 dU (zt' L ce)<|H.g cd) (.inr fun _ _ h=>o_<|h.1) ?_;rintro _ _ ⟨sb,rfl,dV⟩;have cf:=cd.e sb;have cg:=((((hu.e G).e s2).e s3).e ho).e sb;obtain ⟨_,dW,cZ⟩:=bdS cY;refine dE z z (fc call25 z<|h_B (B:=wq.z) dW (M_<|lt_ (lt_ (lt_ (lt_ (lt_ (lt_ h4.s h1.s) G.s) s2.s) s3.s) ho.s) sb.s) (cg.mono hi) (repS.mono (H.g cf) hi) dV hz (or_ (((((((I.e h4).c h1<|ds<|mnr<|a_.lt I).e G).e s2).e s3).e ho).e sb)<|a_.lt I)<|or_ (((((((J.e h4).c h1<|ds<|mnr<|a_.lt J).e G).e s2).e s3).e ho).e sb)<|a_.lt J) (.inr fun _ _ h=>o_<|h.1) ?_;rintro _ _ ⟨sr,rfl,dX⟩;obtain ⟨aj,dY,dZ,d0⟩:=V_ cZ;refine dE z z (fc call23 z<|h_D dZ (zt' L<|lt_ (lt_ ce sb.s) sr.s) (cg.e sr) (H.g<|cf.e sr) aa dX) (.inr fun _ _ h=>o_<|h.1) ?_;rintro _ _ ⟨ch,ci,cj,ck,e0,cl,cm,cn,e1,rfl,e2,e3,e4,aV,ak⟩;refine dM z z z<|dR z z (ext_ z z)<|dR z z (ext_ z z) ?_
   have co:=lt_ s2.s s3.s;have aW:=m1 co;refine dE0 z (fs0 (cur':=[vI aj.number,sl ci cj ck,sl cl cm cn]) b_ z z (((aU.e sb).e sr).e ch) z z z z) (.inr fun _ _ h=>b_1 (atp aW) h.2) ?_;rintro _ _ ⟨e5,e6⟩;have aX:=e6.one;refine dQ z z z<|pD ?_
   have cp:=lt_ sb.s sr.s;have cq:=h_ (al_ ak) aU.lt cp;have cr:=lt_ (lt_ (lt_ co ho.s) sb.s) sr.s;have ct:=h_ (ar_ ak) aU.lt cp;exact fun _ q=>⟨aj.number,aj.bytes,aj.items,dY,som d0,ci,cj,ck,e0,cl,cm,cn,e1,bp.z,q.k<|s7 z z z z z z z,bM (bup (bup (bup (bup (bup s2 s3) ho) sb) sr) ch) aX aW,e2,e3.c aX cq,nl_ aV,j_ (al_ ak) cr,e4.c aX ct,nr_ aV,j_ (ar_ ak) cr,ds<|nj aV,e5,atp aW,cq,ct⟩
  refine dE z z (fa E_) (.inr fun _ _ h=>o_<|h.2.below) ?_;rintro _ e7 ⟨rfl,cu⟩;have hp:=cu.below;have aY:Blk e7 bo.z [vI 0,sl none 0 0,sl none 0 0]:=cu.blk;have cv:=((O.e G).e s2).e hp;have cw:=lt_ (lt_ (lt_ a0 G.s) s2.s) hp.s;obtain ⟨_,e8,d1⟩:=bdS b7;refine dE z z (fc call24 z<|e_6 e8 (zt' L cw)<|H.g cv) (.inr fun _ _ h=>o_<|h.1) ?_;rintro _ _ ⟨sc,rfl,e9⟩;have cx:=cv.e sc;have cy:=lt_ cw sc.s;obtain ⟨_,ea,d2⟩:=bdS d1;refine dE z z (fc call24 z<|e_6 ea (zt' L cy)<|H.g cx) (.inr fun _ _ h=>o_<|h.1) ?_;rintro _ _ ⟨sd,rfl,eb⟩;have cz:=cx.e sd;have cA:=((((hu.e G).e s2).e hp).e sc).e sd;obtain ⟨_,ec,d3⟩:=bdS d2;refine dE z z (fc call25 z<|h_B (B:=wq.z) ec (M_<|lt_ (lt_ (lt_ (lt_ (lt_ (lt_ h4.s h1.s) G.s) s2.s) hp.s) sc.s) sd.s) (cA.mono hi) (repS.mono (H.g cz) hi) eb hz (or_ (((((((I.e h4).c h1<|ds<|mnr<|a_.lt I).e G).e s2).e hp).e sc).e sd)<|a_.lt I)<|or_ (((((((J.e h4).c h1<|ds<|mnr<|a_.lt J).e G).e s2).e hp).e sc).e sd)<|a_.lt J) (.inr fun _ _ h=>o_<|h.1) ?_;rintro _ _ ⟨ss,rfl,ed⟩;obtain ⟨al,ee,eg,d4⟩:=V_ d3;refine dE z z (fc call23 z<|h_D eg (zt' L<|lt_ (lt_ cy sd.s) ss.s) (cA.e ss) (H.g<|cz.e ss) e9 ed) (.inr fun _ _ h=>o_<|h.1) ?_;rintro _ _ ⟨cB,cC,cD,cE,eh,cF,cG,cH,ei,rfl,ej,ek,em,aZ,am⟩;refine dM z z z<|dR z z (ext_ z z)<|dR z z (ext_ z z) ?_
  have b0:=m1 s2.s;refine dE0 z (fs0 (cur':=[vI al.number,sl cC cD cE,sl cF cG cH]) b_ z z ((((aY.e sc).e sd).e ss).e cB) z z z z) (.inr fun _ _ h=>b_1 (atp b0) h.2) ?_;rintro _ _ ⟨en,eo⟩;have b3:=eo.one;refine dQ z z z<|pD ?_
  have cI:=lt_ (lt_ sc.s sd.s) ss.s;have cJ:=h_ (al_ am) aY.lt cI;have cK:=lt_ (lt_ (lt_ (lt_ s2.s hp.s) sc.s) sd.s) ss.s;have cL:=h_ (ar_ am) aY.lt cI;exact fun _ q=>⟨al.number,al.bytes,al.items,ee,som d4,cC,cD,cE,eh,cF,cG,cH,ei,bo.z,q.k<|s7 z z z z z z z,bM (bup (bup (bup (bup (bup s2 hp) sc) sd) ss) cB) b3 b0,ej,ek.c b3 cJ,nl_ aZ,j_ (al_ am) cK,em.c b3 cL,nr_ aZ,j_ (ar_ am) cK,ds<|nj aZ,en,atp b0,cJ,cL⟩
 rintro ep an ⟨xv,a1,a2,a3,rfl,a4,a5,a6,Sw,a7,a8,a9,Sx,gy,_,s9,er,cM,_,_,cN,_,_,_,es,_,_,_⟩;revert ep;refine Wo<|Wq ?_
 obtain ⟨eu,bb,d5⟩:=bdS<|un4S cT;refine Wt (fun a w=>∃(b4:Bool),b4=eu/\Sat 59 [(4,vB b4)] a/\Below an.z an w) ?_ ?_
 ·refine Wg<|RM z z ?_
  rcases bs bn with hce | hce
  ·have cO:=(az.e G).e s9;refine Rh z hce (lN (vs:=[sl A0 N0 C0]) w_ v_ z z fid<|cO.row 0 1 z)<|Rh z hce (mv z)<|Rh z hce (mv z) ?_
   have b5:=(O.e G).e s9;have cP:=aB.e s9;have W:=zt' L<|lt_ a0 G.s
   have cQ:=(hu.e G).e s9;obtain ⟨ew,ex,bc⟩:=bdS<|ifT bb hce;refine Eg z z hce z (fc call26 z<|W_w3w (B:=wl.z) ex (M_ s9.s) (cQ.mono W) (repS.mono (H.g b5) W) (repS.mono (ao.g b5) W)<|or_ cP<|a_.lt aB) ?_;rintro _ _ ⟨s6,rfl⟩;refine R z (pT z hce z)<|Rm z ?_
   rcases bs ew with hcj | hcj
   ·refine Rh z hcj (lN (vs:=[sl A0 N0 C0]) w_ v_ z z fid<|(cO.e s6).row 0 1 z)<|Rh z hcj (mv z) ?_
    obtain ⟨ey,ez,be⟩:=bdS<|ifT bc hcj;refine Eg z z hcj z (fc call27 z<|W_w3x (B:=wl.z) ez (M_<|lt_ s9.s s6.s) ((cQ.e s6).mono W) (repS.mono (H.g<|b5.e s6) W)<|or_ (cP.e s6)<|a_.lt aB) ?_;rintro _ _ ⟨sf,rfl⟩;refine R z (pT z hcj z)<|Rm z ?_
    rcases bs ey with hct | hct
    ·have bf:=ifT be hct;refine Rh z hct (mv z)<|R z (pT z hct z)<|Rm z ?_
     rcases bs a3 with hck | hck
     ·refine Rh z hck (lN (vs:=[vI aq.number,sl ar au av,sl aw ax ay]) i_ b_ z z fid<|((((bk.e G).e s9).e s6).e sf).row 0 3 z)<|Rh z hck (lN (vs:=[vI xv,sl a4 a5 a6,sl a7 a8 a9]) i_ b_ z z fid<|((es.e s6).e sf).row 0 3 z) ?_
      have cR:=lt_ (lt_ (lt_ h4.s h1.s) G.s) s9.s;obtain ⟨eA,eB,d6⟩:=bdS<|ifT bf hck;refine Eg z z hck z (fc call28 z<|W_w0j.run (B:=an.z) (x2:=(⟨xv,a1,a2⟩:Val)) eB (M_<|lt_ s6.s sf.s) hz (repS.mono (or_ ((((((I.e h4).c h1<|ds<|mnr<|a_.lt I).e G).e s9).e s6).e sf)<|a_.lt I)<|M_ cR) (repS.mono (or_ ((((((J.e h4).c h1<|ds<|mnr<|a_.lt J).e G).e s9).e s6).e sf)<|a_.lt J)<|M_ cR) er (or_ ((cM.e s6).e sf)<|a_.lt cM)<|or_ ((cN.e s6).e sf)<|a_.lt cN) ?_;rintro _ _ ⟨eC,rfl⟩;exact R z (pT z hck z)<|Ra z<|Wl (fun _ q=>⟨eA,som d6,q.k<|s1 z,bup (bup s6 sf) eC⟩)
     iterate 3 refine Nh z hck ?_
     exact R z (pF z hck z)<|Ra z<|Wl (fun _ q=>⟨false,som<|ifF bf hck,q.k<|s1 z,bup s6 sf⟩)
    exact Nh z hct<|R z (pF z hct z)<|Rm z<|Nh z z<|Nh z z<|Nh z z<|R z (pF z z z)<|Ra z<|Wl (fun _ q=>⟨false,som<|ifF be hct,q.k<|s1 z,bup s6 sf⟩)
   iterate 3 refine Nh z hcj ?_
   exact R z (pF z hcj z)<|Rm z<|Nh z z<|R z (pF z z z)<|Rm z<|Nh z z<|Nh z z<|Nh z z<|R z (pF z z z)<|Ra z<|Wl (fun _ q=>⟨false,som<|ifF bc hcj,q.k<|s1 z,s6⟩)
  iterate 4 refine Nh z hce ?_
  exact R z (pF z hce z)<|Rm z<|Nh z z<|Nh z z<|Nh z z<|R z (pF z z z)<|Rm z<|Nh z z<|R z (pF z z z)<|Rm z<|Nh z z<|Nh z z<|Nh z z<|R z (pF z z z)<|Ra z<|Wl (fun _ q=>⟨false,som<|ifF bb hce,q.k<|s1 z,br an⟩)
 rintro eD _ ⟨b4,rfl,_,eE⟩;revert eD;refine Wo ?_;obtain rfl:=som d5;exact Wr<|f_ hr z ⟨bup (bup (bup (bM (bup (bup hg sh) h4) h1<|m1 aA) G) s9) eE,z⟩
theorem W_w2g {x1:List UInt8}{x2:List UInt8}{res:Bool}(hm:f_s x1 x2=some res)(a0:B<=w0.z)(G:repS w0 B (sl A0 N0 C0) x1)(L:repS w0 B (sl A6 N6 C6) x2):l_ prog 10 [sl A0 N0 C0,sl A6 N6 C6] w0 (Q7 w0 B res):=by
 unfold f_s at hm
 refine goG func10 z z z fun fn hr=>Ws<|Rw z<|Wq<|Wm z<|R z (lnR n_ z G)<|Rm z<|R z (lnR n_ z L)<|R z (nq z z)<|Wx z (fun I=>?_) (fun I=>?_)
 ·refine Ws<|Rw z ?_
  obtain rfl:=som<|ifT hm I;exact Wr<|f_ hr z ⟨br w0,z⟩
 refine Wk<|Wq<|Ws<|Rw z ?_
 obtain ⟨_,hua,O⟩:=bdS<|ifF hm I;refine Wf (σ:=Unit) (ρ:=Bool) (fun (k5:Nat)(_:Unit) a w=>Sat 26 [(0,sl A0 N0 C0),(1,sl A6 N6 C6),(5,vI ((k5:Nat):Int))] a/\Below w0.z w0 w) (fun (_:Unit) a w=>Sat 26 [] a/\Below w0.z w0 w) (rQ prog fn<|Q7 w0 B) hua ?_ ?_ ?_ ?_ ?_
 ·exact fun _ q=>⟨q.k<|s3 z z z,br w0⟩
 ·rintro k5 _ _ _ _ V ⟨hSb,H⟩ hmc;refine Wu ?_ hSb;refine Wq<|Wm z<|Rm z<|R z (lnR n_ z<|G.e H)<|Rl z z z<|Wx z (fun _=>?_) (fun hc=>(a_0 V hc).elim)
  refine Wk<|Wq<|Wb<|Wq (Wd (X:=noX) 0 (pl_ 9 []) mo (by kernel_rfl) fun wu s2 _=>dM z z z<|dM z z z ?_)
  obtain ⟨_,ed,hme⟩:=bdS hmc;have Y:=(H.ag B).e s2;refine dRX z z (at_ (α:=UInt8) n_ z_5 z z z (G.g Y) ed) ?_;rintro _ ⟨_,_,_,rfl,hf,hg,_⟩;obtain rfl:=u8 hg;refine dR z z (l0 g_5 z<|hf.at0 z)<|dM z z z<|dM z z z ?_
  obtain ⟨_,eh,W⟩:=bdS hme;refine dRX z z (at_ (α:=UInt8) n_ z_5 z z z (L.g Y) eh) ?_;rintro _ ⟨_,_,_,rfl,hi,hj,_⟩;obtain rfl:=u8 hj;refine dR z z (l0 g_5 z<|hi.at0 z)<|dR z z (nq z z)<|pD<|Wo<|Wc z (fun J=>?_) (fun J=>?_)
  ·exact Ws<|Rw z<|Wr<|rtO<|qL (som<|ifT W J).symm<|f_ hr z ⟨bup H s2,z⟩
  exact Wk<|Wg<|Rm z<|R z (inc_ V (lt_ (repS.len G) G_) z z)<|Ra z<|Wl (fun _ q=>⟨(),(som<|ifF W J).symm,⟨q.k<|s3 z z z,bup H s2⟩⟩)
 ·rintro _ _ _ ⟨hSk,s9⟩;refine Wu ?_ hSk;refine Wq<|Wm z<|Rm z<|R z (lnR n_ z<|G.e s9)<|Rl z z z<|Wx z (fun hc=>(a_1 hc).elim) (fun _=>?_)
  exact We<|fun _ q=>⟨rfl,⟨q.k sn,s9⟩⟩
 ·rintro _ al _ rfl ⟨_,sm⟩;have hmn:=elL O;revert al;refine Wo<|Ws<|Rw z ?_
  obtain rfl:=som hmn;exact Wr<|f_ hr z ⟨sm,z⟩
 rintro _ _ _ _ rfl ⟨rfl,hqo⟩;have hmp:=elR O;obtain rfl:=som hmp;exact ⟨hqo,z⟩
theorem W_w3z {x1:List Str}{x2:List Str}{res:Bool}(hm:h_n x1 x2=some res)(a0:B<=w0.z)(G:repS w0 B (sl A0 N0 C0) x1)(L:repS w0 B (sl A6 N6 C6) x2):l_ prog 84 [sl A0 N0 C0,sl A6 N6 C6] w0 (Q7 w0 B res):=by
 unfold h_n at hm
 refine goG func84 z z z fun fn hr=>Ws<|Rw z<|Wq<|Wm z<|R z (lnR a_d z G)<|Rm z<|R z (lnR a_d z L)<|R z (nq z z)<|Wx z (fun I=>?_) (fun I=>?_)
 ·refine Ws<|Rw z ?_
  obtain rfl:=som<|ifT hm I;exact Wr<|f_ hr z ⟨br w0,z⟩
 refine Wk<|Wq<|Ws<|Rw z ?_
 obtain ⟨_,hua,O⟩:=bdS<|ifF hm I;refine Wf (σ:=Unit) (ρ:=Bool) (fun (k5:Nat)(_:Unit) a w=>Sat 26 [(0,sl A0 N0 C0),(1,sl A6 N6 C6),(5,vI ((k5:Nat):Int))] a/\Below w0.z w0 w) (fun (_:Unit) a w=>Sat 26 [] a/\Below w0.z w0 w) (rQ prog fn<|Q7 w0 B) hua ?_ ?_ ?_ ?_ ?_
 ·exact fun _ q=>⟨q.k<|s3 z z z,br w0⟩
 ·rintro k5 _ _ _ _ V ⟨hSb,H⟩ hmc;refine Wu ?_ hSb;refine Wq<|Wm z<|Rm z<|R z (lnR a_d z<|G.e H)<|Rl z z z<|Wx z (fun _=>?_) (fun hc=>(a_0 V hc).elim)
  refine Wk<|Wq<|Wb<|Wq (Wd (X:=noX) 0 (pl_ 9 []) mo (by kernel_rfl) fun wu s2 _=>dM z z z<|dM z z z ?_)
  obtain ⟨_,ed,hme⟩:=bdS hmc;have Y:=(H.ag B).e s2;refine dRX z z (at_ (α:=Str) a_d z_9 z z z (G.g Y) ed) ?_;rintro _ ⟨_,_,_,rfl,hf,hg,_⟩;obtain ⟨rfl,_⟩:=b_P hg;refine dR z z (l0 g_9 z<|hf.at0 z)<|dM z z z<|dM z z z ?_
  obtain ⟨_,eh,W⟩:=bdS hme;refine dRX z z (at_ (α:=Str) a_d z_9 z z z (L.g Y) eh) ?_;rintro _ ⟨_,_,_,rfl,hi,hj,_⟩;obtain ⟨rfl,_⟩:=b_P hj;refine dR z z (l0 g_9 z<|hi.at0 z)<|dR z z (g_q z z)<|pD<|Wo<|Wc z (fun J=>?_) (fun J=>?_)
  ·exact Ws<|Rw z<|Wr<|rtO<|qL (som<|ifT W J).symm<|f_ hr z ⟨bup H s2,z⟩
  exact Wk<|Wg<|Rm z<|R z (inc_ V (lt_ (repS.len G) G_) z z)<|Ra z<|Wl (fun _ q=>⟨(),(som<|ifF W J).symm,⟨q.k<|s3 z z z,bup H s2⟩⟩)
 ·rintro _ _ _ ⟨hSk,s9⟩;refine Wu ?_ hSk;refine Wq<|Wm z<|Rm z<|R z (lnR a_d z<|G.e s9)<|Rl z z z<|Wx z (fun hc=>(a_1 hc).elim) (fun _=>?_)
  exact We<|fun _ q=>⟨rfl,⟨q.k sn,s9⟩⟩
 ·rintro _ al _ rfl ⟨_,sm⟩;have hmn:=elL O;revert al;refine Wo<|Ws<|Rw z ?_
  obtain rfl:=som hmn;exact Wr<|f_ hr z ⟨sm,z⟩
 rintro _ _ _ _ rfl ⟨rfl,hqo⟩;have hmp:=elR O;obtain rfl:=som hmp;exact ⟨hqo,z⟩
theorem W_w2h {x1:List Int}{x2:List Int}{res:Bool}(hm:f_t x1 x2=some res)(a0:B<=w0.z)(G:repS w0 B (sl A0 N0 C0) x1)(L:repS w0 B (sl A6 N6 C6) x2):l_ prog 85 [sl A0 N0 C0,sl A6 N6 C6] w0 (Q7 w0 B res):=by
 unfold f_t at hm
 refine goG func85 z z z fun fn hr=>Ws<|Rw z<|Wq<|Wm z<|R z (lnR y_ z G)<|Rm z<|R z (lnR y_ z L)<|R z (nq z z)<|Wx z (fun I=>?_) (fun I=>?_)
 ·refine Ws<|Rw z ?_
  obtain rfl:=som<|ifT hm I;exact Wr<|f_ hr z ⟨br w0,z⟩
 refine Wk<|Wq<|Ws<|Rw z ?_
 obtain ⟨_,hua,O⟩:=bdS<|ifF hm I;refine Wf (σ:=Unit) (ρ:=Bool) (fun (k5:Nat)(_:Unit) a w=>Sat 26 [(0,sl A0 N0 C0),(1,sl A6 N6 C6),(5,vI ((k5:Nat):Int))] a/\Below w0.z w0 w) (fun (_:Unit) a w=>Sat 26 [] a/\Below w0.z w0 w) (rQ prog fn<|Q7 w0 B) hua ?_ ?_ ?_ ?_ ?_
 ·exact fun _ q=>⟨q.k<|s3 z z z,br w0⟩
 ·rintro k5 _ _ _ _ V ⟨hSb,H⟩ hmc;refine Wu ?_ hSb;refine Wq<|Wm z<|Rm z<|R z (lnR y_ z<|G.e H)<|Rl z z z<|Wx z (fun _=>?_) (fun hc=>(a_0 V hc).elim)
  refine Wk<|Wq<|Wb<|Wq (Wd (X:=noX) 0 (pl_ 9 []) mo (by kernel_rfl) fun wu s2 _=>dM z z z<|dM z z z ?_)
  obtain ⟨_,ed,hme⟩:=bdS hmc;have Y:=(H.ag B).e s2;refine dRX z z (at_ (α:=Int) y_ z_3 z z z (G.g Y) ed) ?_;rintro _ ⟨_,_,_,rfl,hf,hg,_⟩;obtain ⟨rfl,_⟩:=T_ hg;refine dR z z (l0 g_3 z<|hf.at0 z)<|dM z z z<|dM z z z ?_
  obtain ⟨_,eh,W⟩:=bdS hme;refine dRX z z (at_ (α:=Int) y_ z_3 z z z (L.g Y) eh) ?_;rintro _ ⟨_,_,_,rfl,hi,hj,_⟩;obtain ⟨rfl,_⟩:=T_ hj;refine dR z z (l0 g_3 z<|hi.at0 z)<|dR z z (nq z z)<|pD<|Wo<|Wc z (fun J=>?_) (fun J=>?_)
  ·exact Ws<|Rw z<|Wr<|rtO<|qL (som<|ifT W J).symm<|f_ hr z ⟨bup H s2,z⟩
  exact Wk<|Wg<|Rm z<|R z (inc_ V (lt_ (repS.len G) G_) z z)<|Ra z<|Wl (fun _ q=>⟨(),(som<|ifF W J).symm,⟨q.k<|s3 z z z,bup H s2⟩⟩)
 ·rintro _ _ _ ⟨hSk,s9⟩;refine Wu ?_ hSk;refine Wq<|Wm z<|Rm z<|R z (lnR y_ z<|G.e s9)<|Rl z z z<|Wx z (fun hc=>(a_1 hc).elim) (fun _=>?_)
  exact We<|fun _ q=>⟨rfl,⟨q.k sn,s9⟩⟩
 ·rintro _ al _ rfl ⟨_,sm⟩;have hmn:=elL O;revert al;refine Wo<|Ws<|Rw z ?_
  obtain rfl:=som hmn;exact Wr<|f_ hr z ⟨sm,z⟩
 rintro _ _ _ _ rfl ⟨rfl,hqo⟩;have hmp:=elR O;obtain rfl:=som hmp;exact ⟨hqo,z⟩
end Go.Vw
