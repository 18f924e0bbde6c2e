
import Derived.Test.YtelphaiofendpaaGreatDoorVwHW3
set_option linter.unusedVariables false
namespace Go.Vw
open Go.RowKit Dat Go.Proofs
open Go.Proofs.Tryz
open Go.Vw renaming b_g->Wq,b_J->Wg,WC.of_KC->Wo,b_h->Wl,d_e->Wc,e_8->Wr,g_Z->Wu,i_D->pT,i_E->pF,h_2->fd,c_J->l1,j_7->lN,c_h->mv,d_Q->asg,g_N->lnR,f_F->lss,h_5->eql,h_3->ext_,i_G->bP,h_4->add_,g_J->inc_,e_Y->not_,g_O->at_,f_o->fc,c_3->fs,f_n->fb,e_K->fa,i_x->sr,i_B->cr,i_C->cM,d_G->bM,i_q->iS,i_p->iA,g_I->br,c_c->oA,i_t->bs,ltge->lg,inor->io,h_6->nq,j_8->lnT,j_9->sb_,i_v->ar_,i_u->al_,i_w->ds,j_N->m1,i_z->nr_,i_y->nl_,g_L->aa_,d_F->an_,e_9->Wb,g_K->u8,i_m->pD,g_v->We,i_r->Wt,g_D->fS,g_r->or_,j_5->Wf,i_L->qL,i_l->Wd,i_H->fN,g_M->na_,i_A->nj,f_v->f0,i_F->rX,i_I->tl_,i_J->ic
variable {A0:Option Addr}{N0 C0:Nat}{B:Zone}{w0:World}{n:Nat}{A6:Option Addr}{N6 C6:Nat}{AB:Option Addr}{AA:Option Addr}{AC:Option Addr}{AD:Option Addr}{NB CB:Nat}{NA CA:Nat}{NC CC:Nat}{ND CD:Nat}{A2:Option Addr}{A3:Option Addr}{A1:Option Addr}{A5:Option Addr}{N2 C2:Nat}{N3 C3:Nat}{N1 C1:Nat}{N5 C5:Nat}{A7:Option Addr}{A8:Option Addr}{N7 C7:Nat}{N8 C8:Nat}{AE:Option Addr}{AF:Option Addr}{NE CE:Nat}{NF CF:Nat}{A9:Option Addr}{N9 C9:Nat}{A4:Option Addr}{N4 C4:Nat}
theorem W_w3n {x1:d_}{x2:Int}{x3:Val}{b3 o3:Nat}{res:Bool}(hm:i_d x1 x2 x3=some res)(a0:B<=w0.z)(a5:repS w0 B (sl A0 N0 C0) x1.rules)(aW:inI x2)(aX:inI x3.number)(ap:repS w0 B (sl A7 N7 C7) x3.bytes)(a7:repS w0 B (sl A8 N8 C8) x3.items)(hC3:T_ w0 b3 o3 [vI x3.number,sl A7 N7 C7,sl A8 N8 C8])(hC3b:B b3):l_ prog 142 [(.agg #[sl A0 N0 C0]),vI x2,(.pointer<|some ⟨b3,o3,none⟩)] w0 (Q0 w0 B res):=by
 unfold i_d at hm
 refine goG func142 z z z λfn hr=>Ws<|E z (fb z) ?_
 rintro _ G ⟨rfl,aK⟩;have H:=aK.below;have hh:Blk G w0.z [sl A0 N0 C0]:=aK.blk;refine Rw z<|Ws<|Rf z a_3 z<|R z (l0 a_8 z<|hh.at z)<|Rm z ?_
 obtain ⟨xc,bp,aY⟩:=bdS hm;have aL:=a5.e H;refine RX z (at_ (α:=g_) a_a o_ z z z aL bp) ?_;rintro _ ⟨W,Y,_,rfl,hb,bq,_⟩;obtain ⟨_,_,_,_,_,_,_,_,_,_,_,_,rfl,_,_,bt,_,_,_,hi⟩:=a_D bq;refine Rw z<|Ws<|RA z z<|Rw z<|Wq<|Wm z<|R z (C_ z)<|Rf z a_u z<|R z (l0 g_3 z<|hb.at (j:=1) z)<|Wn<|Wb<|Ws<|Rq z z z<|Rw z ?_
 obtain ⟨bu,aq,ar⟩:=bdS aY;refine Wt (λa w=>∃(xj:Int)(xd:Int)(xa:Int),Sum.inl (xj,xd,xa)=bu/\Sat 136 [(2,.pointer<|some ⟨b3,o3,none⟩),(7,.pointer<|some ⟨W,Y,none⟩),(8,vI xj),(9,vI xd),(10,vI xa)] a/\Below G.z G w/\inI xj/\inI xd/\inI xa) ?_ ?_
 .refine Wc z (λa8=>?_)<|λa8=>?_
  .refine Wg<|R z (lN (vs:=[sl A0 N0 C0]) t_ r_ z z fid<|hh.row 0 1 z)<|Rm z ?_
   obtain ⟨bv,bw,aZ⟩:=bdS<|ifT aq a8;refine E z (fc call116 z<|e_U bw (zt' a0 H.s) aL aW) ?_;rintro _ _ ⟨bx,rfl,bz⟩;exact Ra z<|Wl (λ_ q=>⟨bv,0,0,som aZ,q.k<|s5 z z z z z,bx,bz,ii z,ii z⟩)
  refine Ws<|Rq z z z<|Rw z ?_
  obtain ⟨bA,au,av⟩:=bdS<|ifF aq a8;refine Wt (λa w=>∃(xk:Int)(xl:Int)(xm:Int),Sum.inl (xk,xl,xm)=bA/\Sat 136 [(2,.pointer<|some ⟨b3,o3,none⟩),(7,.pointer<|some ⟨W,Y,none⟩),(8,vI xk),(9,vI xl),(10,vI xm)] a/\Below G.z G w/\inI xk/\inI xl/\inI xm) ?_ ?_
  .refine Wc z (λa9=>?_)<|λa9=>?_
   .have aw:=ifT au a9;refine Wq<|Wq (Wd (X:=noX) 0 (pl_ 10 []) mo (by kernel_rfl) λcQ sn _=>dM z z z<|dR z z (C_ z)<|dR z z (fd a_T z)<|dR z z (l0 R_ z<|((hC3.e H).e sn).at (j:=1) z)<|dR z z (lnR n_ z<|ap.g<|(H.ag B).e sn)<|dM z z z<|dR z z (C_ z)<|dR z z (fd a_F z) ?_)
    have aM:=hb.e sn;refine dR z z (l0 g_3 z<|aM.at (j:=2) z)<|dR z z (nq z z)<|pD<|Wo<|Wc z (λaa=>?_) (λaa=>?_)
    .refine Ws<|Rw z ?_
     obtain rfl:=som<|ifT aw aa;have b0:=elR av;obtain rfl:=som b0;have b1:=elR ar;obtain rfl:=som b1;exact Wr<|rtO<|e_ hr z ⟨bup H sn,z⟩
    exact Wk<|Wg<|Rm z<|R z (C_ z)<|Rf z a_F z<|R z (l0 g_3 z<|aM.at (j:=2) z)<|Ra z<|Wl (λ_ q=>⟨0,xc.size,0,som<|ifF aw aa,q.k<|s5 z z z z z,sn,ii z,bt,ii z⟩)
   refine Ws<|Rq z z z<|Rw z ?_
   obtain ⟨bB,ax,b2⟩:=bdS<|ifF au a9;refine Wt (λa w=>∃(xo:Int)(xp:Int)(xq:Int),(xo,xp,xq)=bB/\Sat 136 [(2,.pointer<|some ⟨b3,o3,none⟩),(7,.pointer<|some ⟨W,Y,none⟩),(8,vI xo),(9,vI xp),(10,vI xq)] a/\Below G.z G w/\inI xo/\inI xp/\inI xq) ?_ ?_
   .refine Wc z (λab=>?_)<|λab=>?_
    .refine Wd (X:=noX) 0 (pl_ 10 [7,8]) mo (by kernel_rfl) λcR se _=>dR z z (lN (vs:=[sl A0 N0 C0]) t_ r_ z z fid<|(hh.e se).row 0 1 z)<|dM z z z<|dR z z (C_ z)<|dR z z (fd J_ z)<|dR z z (l0 A_ z<|(hb.e se).at (j:=7) z) ?_
     obtain ⟨_,bC,b4⟩:=bdS<|ifT ax ab;refine dRX z z (at_ (α:=Int) v_ z_3 z z z (hi.e se) bC) ?_;rintro _ ⟨_,_,_,rfl,bD,bE,_⟩;obtain ⟨rfl,bF⟩:=O_ bE;refine dR z z (l0 g_3 z<|bD.at0 z) ?_;have aN:=lt_ H.s se.s;obtain ⟨_,bG,b5⟩:=bdS b4;refine dE z z (fc call116 z<|e_U bG (zt' a0 aN) (a5.g<|(H.ag B).e se) bF) (.inr λ_ _ h=>p_<|h.1) ?_;rintro _ _ ⟨aO,rfl,bH⟩;obtain ⟨bI,bJ,b6⟩:=bdS b5;refine dE z z (fc call151 z<|W_w25 bJ (zt' a0<|lt_ aN aO.s) (ii z) bH) (.inr λ_ _ h=>p_<|h.1) ?_;rintro _ _ ⟨bK,rfl,bL⟩;exact dQ z z z<|pD (λ_ q=>⟨0,bI,0,som b6,q.k<|s5 z z z z z,bup (bup se aO) bK,ii z,bL,ii z⟩)
    refine Ws<|Rq z z z<|Rw z ?_
    obtain ⟨bM,ay,b7⟩:=bdS<|ifF ax ab;refine Wt (λa w=>∃(xr:Int)(xs:Int)(xt:Int),(xr,xs,xt)=bM/\Sat 136 [(2,.pointer<|some ⟨b3,o3,none⟩),(7,.pointer<|some ⟨W,Y,none⟩),(8,vI xr),(9,vI xs),(10,vI xt)] a/\Below G.z G w/\inI xr/\inI xs/\inI xt) ?_ ?_
    .refine Wc z (λad=>?_)<|λad=>?_
     .exact Wg<|Ra z<|Wl (λ_ q=>⟨0,400,0,som<|ifT ay ad,q.k<|s5 z z z z z,br G,ii z,ii z,ii z⟩)
     refine Ws<|Rq z z z<|Rw z ?_
     obtain ⟨bN,az,b9⟩:=bdS<|ifF ay ad;refine Wt (λa w=>∃(xu:Int)(xv:Int),(xu,xv)=bN/\Sat 136 [(2,.pointer<|some ⟨b3,o3,none⟩),(7,.pointer<|some ⟨W,Y,none⟩),(8,vI xu),(9,vI 0),(10,vI xv)] a/\Below G.z G w/\inI xu/\inI xv) ?_ ?_
     .refine Wc z (λae=>?_)<|λae=>?_
      .refine Wd (X:=noX) 0 (pl_ 10 [7,8]) mo (by kernel_rfl) λcS sf _=>dR z z (lN (vs:=[sl A0 N0 C0]) t_ r_ z z fid<|(hh.e sf).row 0 1 z)<|dM z z z<|dR z z (C_ z)<|dR z z (fd J_ z)<|dR z z (l0 A_ z<|(hb.e sf).at (j:=7) z) ?_
       obtain ⟨_,bO,ba⟩:=bdS<|ifT az ae;refine dRX z z (at_ (α:=Int) v_ z_3 z z z (hi.e sf) bO) ?_;rintro _ ⟨_,_,_,rfl,bP,bQ,_⟩;obtain ⟨rfl,bR⟩:=O_ bQ;refine dR z z (l0 g_3 z<|bP.at0 z) ?_;have aP:=lt_ H.s sf.s;obtain ⟨_,bS,bb⟩:=bdS ba;refine dE z z (fc call116 z<|e_U bS (zt' a0 aP) (a5.g<|(H.ag B).e sf) bR) (.inr λ_ _ h=>p_<|h.1) ?_;rintro _ _ ⟨aQ,rfl,bT⟩;obtain ⟨bU,bV,bc⟩:=bdS bb;refine dE z z (fc call151 z<|W_w25 bV (zt' a0<|lt_ aP aQ.s) (ii z) bT) (.inr λ_ _ h=>p_<|h.1) ?_;rintro _ _ ⟨bW,rfl,bX⟩;exact dQ z z z<|pD (λ_ q=>⟨0,bU,som bc,q.k<|s5 z z z z z,bup (bup sf aQ) bW,ii z,bX⟩)
      refine Ws<|Rq z z z<|Rw z ?_
      obtain ⟨bY,aA,be⟩:=bdS<|ifF az ae;refine Wt (λa w=>∃(xw:Int)(xx:Int),(xw,xx)=bY/\Sat 136 [(2,.pointer<|some ⟨b3,o3,none⟩),(7,.pointer<|some ⟨W,Y,none⟩),(8,vI xw),(9,vI 0),(10,vI xx)] a/\Below G.z G w/\inI xw/\inI xx) ?_ ?_
      .refine Wc z (λaf=>?_)<|λaf=>?_
       .exact Wg<|Rm z<|R z (C_ z)<|Rf z J_ z<|R z (l0 A_ z<|hb.at (j:=7) z)<|R z (lnR v_ z hi)<|Ra z<|Wl (λ_ q=>⟨0,(xc.kids.length:Int),som<|ifT aA af,q.k<|s5 z z z z z,br G,ii z,b_0<|repS.len hi⟩)
       refine Ws<|Rq z z z<|Rw z ?_
       obtain ⟨bZ,aB,bf⟩:=bdS<|ifF aA af;refine Wt (λa w=>∃(xy:Int)(xz:Int),(xy,xz)=bZ/\Sat 136 [(2,.pointer<|some ⟨b3,o3,none⟩),(7,.pointer<|some ⟨W,Y,none⟩),(8,vI xy),(9,vI 0),(10,vI xz)] a/\Below G.z G w/\inI xy/\inI xz) ?_ ?_
       .refine Wc z (λah=>?_)<|λah=>?_
        .refine Wd (X:=noX) 0 (pl_ 10 [7]) mo (by kernel_rfl) λcT sg _=>dR z z (lN (vs:=[sl A0 N0 C0]) t_ r_ z z fid<|(hh.e sg).row 0 1 z)<|dM z z z<|dR z z (C_ z)<|dR z z (fd J_ z)<|dR z z (l0 A_ z<|(hb.e sg).at (j:=7) z) ?_
         obtain ⟨_,c0,bg⟩:=bdS<|ifT aB ah;refine dRX z z (at_ (α:=Int) v_ z_3 z z z (hi.e sg) c0) ?_;rintro _ ⟨_,_,_,rfl,c1,c2,_⟩;obtain ⟨rfl,c3⟩:=O_ c2;refine dR z z (l0 g_3 z<|c1.at0 z) ?_;obtain ⟨c4,c5,bh⟩:=bdS bg;refine dE z z (fc call116 z<|e_U c5 (zt' a0<|lt_ H.s sg.s) (a5.g<|(H.ag B).e sg) c3) (.inr λ_ _ h=>p_<|h.1) ?_;rintro _ _ ⟨c6,rfl,c7⟩;exact dQ z z z<|dQ z z z<|pD (λ_ q=>⟨c4,1,som bh,q.k<|s5 z z z z z,bup sg c6,c7,ii z⟩)
        refine Wq<|Ws<|Rq z z z<|Rw z ?_
        obtain ⟨c8,aC,bi⟩:=bdS<|ifF aB ah;refine Wt (λa w=>∃(al:Bool),al=c8/\Sat 136 [(2,.pointer<|some ⟨b3,o3,none⟩),(7,.pointer<|some ⟨W,Y,none⟩),(8,vI 0),(9,vI 0),(10,vI 0),(81,vB al)] a/\Below G.z G w) ?_ ?_
        .refine Wc z (λai=>?_)<|λai=>?_
         .exact a_k<|λ_ q=>⟨xc.kind==8,som<|ifT aC ai,q.k<|s6 z z z z z z,br G⟩
         exact Wg<|Rq z z z<|Ra z<|Wl (λ_ q=>⟨xc.kind==9,som<|ifF aC ai,q.k<|s6 z z z z z z,br G⟩)
        rintro c9 a6 ⟨al,rfl,_,ca⟩;revert c9;refine Wo ?_;obtain ⟨cb,aD,bj⟩:=bdS bi;refine Wt (λa w=>∃(a1:Int),a1=cb/\Sat 136 [(2,.pointer<|some ⟨b3,o3,none⟩),(7,.pointer<|some ⟨W,Y,none⟩),(8,vI 0),(9,vI 0),(10,vI a1)] a/\Below a6.z a6 w/\inI a1) ?_ ?_
        .refine Wc z (λaj=>?_)<|λaj=>?_
         .exact Wg<|Ra z<|Wl (λ_ q=>⟨1,som<|ifT aD aj,q.k<|s5 z z z z z,br a6,ii z⟩)
         exact a_k<|λ_ q=>⟨0,som<|ifF aD aj,q.k<|s5 z z z z z,br a6,ii z⟩
        rintro cc _ ⟨a1,rfl,_,cd,ce⟩;revert cc;exact λ_ q=>⟨0,a1,som bj,q.k<|s5 z z z z z,bup ca cd,ii z,ce⟩
       rintro cf _ ⟨xy,xz,rfl,_,cg,ch,ci⟩;revert cf;exact λ_ q=>⟨xy,xz,som<|a_O bf,q.k<|s5 z z z z z,cg,ch,ci⟩
      rintro cj _ ⟨xw,xx,rfl,_,ck,cl,cm⟩;revert cj;exact λ_ q=>⟨xw,xx,som<|a_O be,q.k<|s5 z z z z z,ck,cl,cm⟩
     rintro cn _ ⟨xu,xv,rfl,_,co,cp,cq⟩;revert cn;exact λ_ q=>⟨xu,0,xv,som<|a_O b9,q.k<|s5 z z z z z,co,cp,ii z,cq⟩
    rintro cr _ ⟨xr,xs,xt,rfl,_,ct,cu,cv,cw⟩;revert cr;exact λ_ q=>⟨xr,xs,xt,som<|b_s b7,q.k<|s5 z z z z z,ct,cu,cv,cw⟩
   rintro cx _ ⟨xo,xp,xq,rfl,_,cy,cz,cA,cB⟩;revert cx;exact λ_ q=>⟨xo,xp,xq,som<|b_s b2,q.k<|s5 z z z z z,cy,cz,cA,cB⟩
  rintro cC _ ⟨xk,xl,xm,rfl,_,cD,cE,cF,cG⟩;have bk:=elL av;revert cC;exact λ_ q=>⟨xk,xl,xm,som<|b_s bk,q.k<|s5 z z z z z,cD,cE,cF,cG⟩
 rintro cH a2 ⟨xj,xd,xa,rfl,_,s7,cI,_,_⟩;have bm:=elL ar;revert cH;refine Wo<|Wq<|Wq ?_
 obtain ⟨cJ,aE,aF⟩:=bdS<|b_s bm;refine Wt (λa w=>∃(am:Bool),am=cJ/\Sat 136 [(2,.pointer<|some ⟨b3,o3,none⟩),(8,vI xj),(9,vI xd),(10,vI xa),(111,vB am)] a/\Below a2.z a2 w) ?_ ?_
 .refine Wg<|Rm z<|R z (C_ z)<|Rf z a_u z ?_
  have an:=hb.e s7;refine R z (l0 g_3 z<|an.at (j:=1) z)<|Rq z z z<|Rm z ?_
  rcases bs (xc.kind==6) with O | O
  .iterate 5 refine Nh z O ?_
   exact R z (pT z O z)<|Rm z<|Nh z z<|Nh z z<|Nh z z<|Nh z z<|Nh z z<|R z (pT z z z)<|Rm z<|Rh z z (mv z)<|Rh z z (C_ z)<|Rh z z (fd V_ z)<|Rh z z (l0 a_9 z<|((hC3.e H).e s7).at (j:=2) z)<|Rh z z (lnR a_i z<|a7.g<|(H.ag B).e s7)<|Rh z z (mv z)<|Rh z z (nq z z)<|R z (pT z z z)<|Wl (λ_ q=>⟨(x3.items.length:Int) != xa,som<|ifT aE O,q.k<|s5 z z z z z,br a2⟩)
  refine Rh z O (mv z)<|Rh z O (C_ z)<|Rh z O (fd a_u z)<|Rh z O (l0 g_3 z<|an.at (j:=1) z)<|Rh z O (eql z z)<|R z (pF z O z)<|Rm z ?_
  obtain ⟨aR,aG,aH⟩:=bdS<|ifF aE O;refine d_g 102 aR 6 ?_ ?_
  .rcases bs (xc.kind==7) with V | V
   .iterate 5 refine Nh z V ?_
    exact R z (pT z V z)<|WLq 6 (ifT aG V) z z z
   exact Rh z V (mv z)<|Rh z V (C_ z)<|Rh z V (fd a_u z)<|Rh z V (l0 g_3 z<|an.at (j:=1) z)<|Rh z V (eql z z)<|R z (pF z V z)<|WLq 6 (ifF aG V) z z z
  refine Rm z ?_
  rcases bs aR with I | I
  .exact Rh z I (mv z)<|Rh z I (C_ z)<|Rh z I (fd V_ z)<|Rh z I (l0 a_9 z<|((hC3.e H).e s7).at (j:=2) z)<|Rh z I (lnR a_i z<|a7.g<|(H.ag B).e s7)<|Rh z I (mv z)<|Rh z I (nq z z)<|R z (pT z I z)<|Wl (λ_ q=>⟨(x3.items.length:Int) != xa,som<|ifT aH I,q.k<|s5 z z z z z,br a2⟩)
  iterate 7 refine Nh z I ?_
  exact R z (pF z I z)<|Wl (λ_ q=>⟨false,som<|ifF aH I,q.k<|s5 z z z z z,br a2⟩)
 rintro cK aS ⟨am,rfl,_,a3⟩;revert cK;refine Wo<|Wc z (λak=>?_) (λak=>?_)
 .refine Ws<|Rw z ?_
  obtain rfl:=som<|ifT aF ak;exact Wr<|e_ hr z ⟨bup (bup H s7) a3,z⟩
 refine Wk<|Wq ?_
 obtain ⟨cL,bn,bo⟩:=bdS<|ifF aF ak;refine Wt (λa w=>∃(ao:Bool),ao=cL/\Sat 136 [(6,vB ao)] a/\Below aS.z aS w) ?_ ?_
 .refine Wg<|Rm z<|R z (C_ z)<|Rf z a_S z ?_
  have aT:=((hC3.e H).e s7).e a3;refine R z (l0 g_3 z<|aT.at (j:=0) z)<|Rm z ?_
  obtain ⟨cM,cN,aI⟩:=bdS bn;refine E z (fc call54 z<|d_O cN (zt' a0<|lt_ (lt_ H.s s7.s) a3.s) aX (ii z) cI) ?_;rintro _ _ ⟨a4,rfl⟩;refine Rm z ?_
  rcases bs cM with J | J
  .have aJ:=ifT aI J;refine Rh z J (mv z)<|Rh z J (C_ z)<|Rh z J (fd a_T z) ?_
   have aU:=aT.e a4;refine Rh z J (l0 R_ z<|aU.at (j:=1) z) ?_;have aV:=(((H.ag B).e s7).e a3).e a4;refine Rh z J (lnR n_ z<|ap.g aV)<|Rh z J (mv z)<|Rh z J (c_5 z z)<|R z (pT z J z)<|Rm z ?_
   rcases bs (decide<|(x3.bytes.length:Int)<=xd) with L | L
   .exact Rh z L (mv z)<|Rh z L (C_ z)<|Rh z L (fd V_ z)<|Rh z L (l0 a_9 z<|aU.at (j:=2) z)<|Rh z L (lnR a_i z<|a7.g aV)<|Rh z L (mv z)<|Rh z L (c_5 z z)<|R z (pT z L z)<|Ra z<|Wl (λ_ q=>⟨decide<|(x3.items.length:Int)<=xa,som<|ifT aJ L,q.k<|s1 z,a4⟩)
   iterate 7 refine Nh z L ?_
   exact R z (pF z L z)<|Ra z<|Wl (λ_ q=>⟨false,som<|ifF aJ L,q.k<|s1 z,a4⟩)
  iterate 7 refine Nh z J ?_
  exact R z (pF z J z)<|Rm z<|Nh z z<|Nh z z<|Nh z z<|Nh z z<|Nh z z<|Nh z z<|Nh z z<|R z (pF z z z)<|Ra z<|Wl (λ_ q=>⟨false,som<|ifF aI J,q.k<|s1 z,a4⟩)
 rintro cO _ ⟨ao,rfl,_,cP⟩;revert cO;refine Wo ?_;obtain rfl:=som bo;exact Wr<|e_ hr z ⟨bup (bup (bup H s7) a3) cP,z⟩
theorem W_w26 {x1:d_}{x2:Int}{x3:Val}{b3 o3:Nat}{x4:Int}{res:Int}(hm:g_n x1 x2 x3 x4=some res)(aU:B<=w0.z)(O:repS w0 B (sl A0 N0 C0) x1.rules)(aP:inI x2)(aQ:inI x3.number)(aR:repS w0 B (sl A7 N7 C7) x3.bytes)(aS:repS w0 B (sl A8 N8 C8) x3.items)(hC3:T_ w0 b3 o3 [vI x3.number,sl A7 N7 C7,sl A8 N8 C8])(hC3b:B b3)(aT:inI x4):l_ prog 105 [(.agg #[sl A0 N0 C0]),vI x2,.pointer<|some ⟨b3,o3,none⟩,vI x4] w0 (Q9 w0 B res):=by
 unfold g_n at hm
 refine goG func105 z z z λfn hr=>Ws<|E z (fb z) ?_
 rintro _ G ⟨rfl,hj⟩;have H:=hj.below;refine Rw z<|Ws<|Rf z a_3 z<|R z (l0 a_8 z<|(hj.blk:Blk G w0.z [sl A0 N0 C0]).at z)<|Rm z ?_
 obtain ⟨L,ew,hmk⟩:=bdS hm;refine RX z (at_ (α:=g_) a_a o_ z z z (O.e H) ew) ?_;rintro _ ⟨bl,om,_,rfl,h2,hx,_⟩;obtain ⟨_,_,_,_,_,_,ay,nz,ah,_,_,_,rfl,_,_,_,_,_,h5,h4⟩:=a_D hx;refine Rw z<|Wq<|Wm z<|R z (C_ z)<|Rf z a_u z<|R z (l0 g_3 z<|h2.at (j:=1) z)<|Wn<|Wb<|Ws<|Rq z z z<|Rw z<|Wc z (λJ=>?_) (λJ=>?_)
 .refine Wm z<|R z (C_ z)<|Rf z J_ z<|R z (l0 A_ z<|h2.at (j:=7) z) ?_
  obtain ⟨_,ai,V⟩:=bdS<|ifT hmk J;refine RX z (at_ (α:=Int) v_ z_3 z z z h4 ai) ?_;rintro _ ⟨_,_,_,rfl,aj,ak,_⟩;obtain ⟨rfl,al⟩:=O_ ak;refine R z (l0 g_3 z<|aj.at0 z)<|Rw z ?_
  obtain rfl:=som V;exact Wr<|rtO<|e_ hr z ⟨H,z,al⟩
 refine Ws<|Rq z z z<|Rw z ?_
 obtain ⟨am,hun,I⟩:=bdS<|ifF hmk J;refine Wt (λa w=>Sum.inl ()=am/\Sat 80 [] a/\Below G.z G w) ?_ ?_
 .refine Wc z (λhca=>?_)<|λhca=>?_
  .have hmo:=ifT hun hca;refine Wm z<|Rm z<|R z (C_ z)<|Rf z J_ z<|R z (l0 A_ z<|h2.at (j:=7) z)<|R z (lnR v_ z h4)<|Rl z z z<|Wx z (λhcb=>?_) (λhcb=>?_)
   .refine Wm z<|R z (C_ z)<|Rf z J_ z<|R z (l0 A_ z<|h2.at (j:=7) z)<|Rm z ?_
    obtain ⟨_,an,W⟩:=bdS<|ifT hmo hcb;refine RX z (at_ (α:=Int) v_ z_3 z z z h4 an) ?_;rintro _ ⟨_,_,_,rfl,ao,ap,_⟩;obtain ⟨rfl,aq⟩:=O_ ap;refine R z (l0 g_3 z<|ao.at0 z)<|Rw z ?_
    obtain rfl:=som W;have Y:=elR I;obtain rfl:=som Y;exact Wr<|rtO<|e_ hr z ⟨H,z,aq⟩
   exact a_k<|λ_ q=>⟨som<|ifF hmo hcb,q.k sn,br G⟩
  refine Ws<|Rq z z z<|Rw z ?_
  obtain ⟨ar,hup,hmc⟩:=bdS<|ifF hun hca;refine Wt (λa w=>Sum.inl ()=ar/\Sat 80 [] a/\Below G.z G w) ?_ ?_
  .refine Wc z (λhcd=>?_)<|λhcd=>?_
   .refine Wm z<|R z (C_ z)<|Rf z b_1 z<|R z (l0 A_ z<|h2.at (j:=6) z)<|R z (lnR v_ z h5)<|Rm z<|Wn ?_
    obtain ⟨_,a0,hmq⟩:=bdS<|ifT hup hcd;refine Wf (σ:=Unit) (ρ:=Int) (λ(kr:Nat)(_:Unit) a w=>Sat 80 [(2,.pointer<|some ⟨b3,o3,none⟩),(9,.pointer<|some ⟨bl,om,none⟩),(49,sl ay nz ah),(50,vI (L.tags.length:Int)),(51,vI ((kr:Nat):Int))] a/\Below G.z G w) (λ(_:Unit) a w=>Sat 80 [] a/\Below G.z G w) (rQ prog fn<|Q9 w0 B) a0 ?_ ?_ ?_ ?_ ?_
    .exact λ_ q=>⟨q.k<|s5 z z z z z,br G⟩
    .rintro kr _ _ _ _ hke ⟨a1,s3⟩ a2;refine Wu ?_ a1;refine Ws<|Rl z z z<|Wn<|Wq<|Wc z (λ_=>?_) (λhc=>(a_6 hke hc).elim)
     refine Wk<|Wq<|Wb<|Wm z ?_
     obtain ⟨_,au,hms⟩:=bdS a2;refine RX z (at_ (α:=Int) v_ z_3 z z z (h5.e s3) au) ?_;rintro _ ⟨_,_,_,rfl,av,aw,_⟩;obtain ⟨rfl,_⟩:=O_ aw;refine R z (l0 g_3 z<|av.at0 z)<|Ra z<|Rw z<|Wm z<|Rm z<|R z (C_ z)<|Rf z a_S z<|R z (l0 g_3 z<|((hC3.e H).e s3).at (j:=0) z)<|Rq z z z<|Wx z (λhcf=>?_) (λhcf=>?_)
     .refine Wm z<|R z (C_ z)<|Rf z J_ z<|R z (l0 A_ z<|(h2.e s3).at (j:=7) z)<|Rm z<|R z (inc_ hke (lt_ (repS.len h5) M_) z z) ?_
      obtain ⟨_,ax,a3⟩:=bdS<|ifT hms hcf;refine RX z (at_ (α:=Int) v_ z_3 z z z (h4.e s3) ax) ?_;rintro _ ⟨_,_,_,rfl,az,aA,_⟩;obtain ⟨rfl,aB⟩:=O_ aA;exact R z (l0 g_3 z<|az.at0 z)<|Rw z<|Wr<|rtO<|qL (som a3).symm<|e_ hr z ⟨bup H s3,z,aB⟩
     exact Wk<|Wg<|R z (inc_ hke (lt_ (repS.len h5) M_) z z)<|Rm z<|Wl (λ_ q=>⟨(),(som<|ifF hms hcf).symm,⟨q.k<|s5 z z z z z,s3⟩⟩)
    .rintro _ _ _ ⟨a4,aC⟩;refine Wu ?_ a4;refine Ws<|Rl z z z<|Wn<|Wq<|Wc z (λhc=>(a_7 hc).elim) (λ_=>?_)
     exact We<|λ_ q=>⟨rfl,⟨q.k sn,aC⟩⟩
    .rintro _ aD _ rfl ⟨_,aE⟩;have a5:=elL hmq;revert aD;exact λ_ q=>⟨som a5,q.k sn,aE⟩
    rintro _ _ _ _ rfl ⟨rfl,a6⟩;have a7:=elR hmq;obtain rfl:=som a7;have a8:=elR hmc;obtain rfl:=som a8;have a9:=elR I;obtain rfl:=som a9;exact ⟨a6,z⟩
   refine Wq<|Ws<|Rq z z z<|Rw z ?_
   obtain ⟨aF,hut,hmu⟩:=bdS<|ifF hup hcd;refine Wt (λa w=>∃(xg:Bool),xg=aF/\Sat 80 [(9,.pointer<|some ⟨bl,om,none⟩),(71,vB xg)] a/\Below G.z G w) ?_ ?_
   .refine Wc z (λhch=>?_)<|λhch=>?_
    .exact a_k<|λ_ q=>⟨L.kind==8,som<|ifT hut hch,q.k<|s2 z z,br G⟩
    exact Wg<|Rq z z z<|Ra z<|Wl (λ_ q=>⟨L.kind==9,som<|ifF hut hch,q.k<|s2 z z,br G⟩)
   rintro aG _ ⟨xg,rfl,_,s7⟩;revert aG;refine Wo<|Wc z (λhci=>?_) (λhci=>?_)
   .refine Wm z<|R z (C_ z)<|Rf z J_ z<|R z (l0 A_ z<|(h2.e s7).at (j:=7) z) ?_
    obtain ⟨_,aH,aa⟩:=bdS<|ifT hmu hci;refine RX z (at_ (α:=Int) v_ z_3 z z z (h4.e s7) aH) ?_;rintro _ ⟨_,_,_,rfl,aI,aJ,_⟩;obtain ⟨rfl,aK⟩:=O_ aJ;refine R z (l0 g_3 z<|aI.at0 z)<|Rw z ?_
    obtain rfl:=som aa;have ab:=elR hmc;obtain rfl:=som ab;have ad:=elR I;obtain rfl:=som ad;exact Wr<|rtO<|e_ hr z ⟨bup H s7,z,aK⟩
   exact a_k<|λ_ q=>⟨som<|ifF hmu hci,q.k sn,s7⟩
  rintro aL _ ⟨rfl,_,aM⟩;have ae:=elL hmc;revert aL;exact λ_ q=>⟨som ae,q.k sn,aM⟩
 rintro aN _ ⟨rfl,_,aO⟩;have af:=elL I;revert aN;refine Wo<|Ws<|Rw z ?_
 obtain rfl:=som af;exact Wr<|e_ hr z ⟨bup H aO,z,ii z⟩
structure k_P (f:d_->Int->Val->Option Bool):Prop where
  run:∀{A0 A7 A8:Option Addr}{N0 C0 N7 C7 N8 C8 b3 o3:Nat}{B:Zone}{x1:d_}{x2:Int}{x3:Val}{res:Bool}{w0:World}(hm:f x1 x2 x3=some res)(hBw:B<=w0.z)(p1_0:repS w0 B (sl A0 N0 C0) x1.rules)(p2_0:inI x2)(p3_0:inI x3.number)(p3_1:repS w0 B (sl A7 N7 C7) x3.bytes)(p3_2:repS w0 B (sl A8 N8 C8) x3.items)(hC3:T_ w0 b3 o3 [vI x3.number,sl A7 N7 C7,sl A8 N8 C8])(hC3b:B b3),l_ prog 103 [(.agg #[sl A0 N0 C0]),vI x2,(.pointer<|some ⟨b3,o3,none⟩)] w0<|Q0 w0 B res
abbrev m_E (n:Nat):Prop:=k_P (f_k n).impl_validValue
theorem T_w0m (a6:m_E n):k_P (i_e n<|f_k n):=by
 constructor
 intro A0 A7 A8 N0 C0 N7 C7 N8 C8 b3 o3 B x1 x2 x3 res w0 hm L J V W Y H hC3 hC3b;unfold i_e at hm
 refine goG func103 z z z λfn hr=>Ws<|E z (fb z) ?_
 rintro _ ws ⟨rfl,hd⟩;have h1:=hd.below;have he:Blk ws w0.z [sl A0 N0 C0]:=hd.blk;refine Rw z<|Wq<|Ws<|R z (lN (vs:=[sl A0 N0 C0]) t_ r_ z z fid<|he.row 0 1 z)<|RM z z ?_
 have hf:=hC3.e h1;obtain ⟨_,et,hmg⟩:=bdS hm;refine E z (fc call142 z<|W_w3n et (zt' L h1.s) (J.e h1) V W (Y.e h1) (H.e h1) hf hC3b) ?_;rintro _ I ⟨s2,rfl⟩;refine R z (not_ z)<|Wx z (λO=>?_) (λO=>?_)
 .refine Ws<|Rw z ?_
  obtain rfl:=som<|ifT hmg O;exact Wr<|e_ hr z ⟨bup h1 s2,z⟩
 refine Wk<|Wq<|Wm z<|R z (C_ z)<|Rf z V_ z ?_
 have hh:=hf.e s2;refine R z (l0 a_9 z<|hh.at (j:=2) z) ?_;have hi:=(h1.ag B).e s2;refine R z (lnR a_i z<|H.g hi)<|Rm z<|Wn ?_
 obtain ⟨_,huu,hmj⟩:=bdS<|ifF hmg O;refine Wf (σ:=Unit) (ρ:=Bool) (λ(k9:Nat)(_:Unit) a w=>Sat 42 [(1,vI x2),(2,.pointer<|some ⟨b3,o3,none⟩),(3,pt w0.z),(18,vI (x3.items.length:Int)),(19,vI ((k9:Nat):Int))] a/\Below I.z I w) (λ(_:Unit) a w=>Sat 42 [] a/\Below I.z I w) (rQ prog fn<|Q0 w0 B) huu ?_ ?_ ?_ ?_ ?_
 .exact λ_ q=>⟨q.k<|s5 z z z z z,br I⟩
 .rintro k9 _ _ _ _ hka ⟨hSv,s3⟩ hmw;refine Wu ?_ hSv;refine Ws<|Rl z z z<|Wn<|Wq<|Wc z (λ_=>?_) (λhc=>(a_6 hka hc).elim)
  refine Wk<|Wq<|Wb<|Wm z<|Rw z<|Ws ?_
  have hk:=(he.e s2).e s3;refine R z (lN (vs:=[sl A0 N0 C0]) t_ r_ z z fid<|hk.row 0 1 z)<|RM z z<|Rm z ?_
  have h6:=hi.e s3;have hl:=hh.e s3;have hn:=lt_ (lt_ h1.s s2.s) s3.s;obtain ⟨rx,ey,hmz⟩:=bdS hmw;refine E z (fc call105 z<|W_w26 ey (zt' L hn) (J.g h6) V W (Y.g h6) (H.g h6) hl hC3b<|ic (Nat.le_of_lt hka)<|lt_ (repS.len H) M_) ?_;rintro _ wm ⟨s4,rfl,a7⟩;refine Rw z<|Wq ?_
  obtain ⟨a8,huo,hmp⟩:=bdS hmz;refine Wt (λa w=>∃(xb:Bool),xb=a8/\Sat 42 [(1,vI x2),(2,.pointer<|some ⟨b3,o3,none⟩),(3,pt w0.z),(18,vI (x3.items.length:Int)),(19,vI ((k9:Nat):Int)),(40,vB xb)] a/\Below wm.z wm w) ?_ ?_
  .refine Wd (X:=noX) 0 (pl_ 14 [11]) mo (by kernel_rfl) λap s7 _=>dM z z z<|dR z z (lss z z)<|dM z z z ?_
   rcases bs (decide<|rx<0) with G | G
   .iterate 8 refine dRn z z z G z ?_
    exact dEn z z z G z<|dRn z z z G z<|dR z z (pT z G z)<|pD (λ_ q=>⟨true,som<|ifT huo G,q.k<|s6 z z z z z z,s7⟩)
   refine dRg z z z G z (lN (vs:=[sl A0 N0 C0]) t_ r_ z z fid<|((hk.e s4).e s7).row 0 1 z)<|dRg z z z G z (mv z)<|dRg z z z G z (mv z)<|dRg z z z G z (C_ z)<|dRg z z z G z (fd V_ z)<|dRg z z z G z (l0 a_9 z<|((hl.e s4).e s7).at (j:=2) z)<|dRg z z z G z (mv z) ?_
   obtain ⟨_,a9,a0⟩:=bdS<|ifF huo G;have hq:=(h6.e s4).e s7;refine b_L z z z G z (at_ (α:=Val) a_i h_ z z z (H.g hq) a9) ?_;rintro _ ⟨_,_,_,rfl,aa,ab,ad⟩;obtain ⟨_,_,_,_,_,_,rfl,ae,af,ah⟩:=e_7 ab;obtain ⟨ai,aj,a1⟩:=bdS a0;refine dEg z z z G z (fc call103 z<|a6.run aj (zt' L<|lt_ (lt_ hn s4.s) s7.s) (J.g hq) a7 ae af ah aa ad) (.inr λ_ _ h=>p_<|h.1) ?_;rintro _ _ ⟨ak,rfl⟩;exact dRg z z z G z (not_ z)<|dR z z (pF z G z)<|pD (λ_ q=>⟨!ai,som a1,q.k<|s6 z z z z z z,bup s7 ak⟩)
  rintro al _ ⟨xb,rfl,_,sr⟩;revert al;refine Wo<|Wc z (λhcc=>?_) (λhcc=>?_)
  .exact Ws<|Rw z<|Wr<|rtO<|qL (som<|ifT hmp hcc).symm<|e_ hr z ⟨bup (bup (bup (bup h1 s2) s3) s4) sr,z⟩
  exact Wk<|Wg<|R z (inc_ hka (lt_ (repS.len H) M_) z z)<|Rm z<|Wl (λ_ q=>⟨(),(som<|ifF hmp hcc).symm,⟨q.k<|s5 z z z z z,bup (bup s3 s4) sr⟩⟩)
 .rintro _ _ _ ⟨a2,am⟩;refine Wu ?_ a2;refine Ws<|Rl z z z<|Wn<|Wq<|Wc z (λhc=>(a_7 hc).elim) (λ_=>?_)
  exact We<|λ_ q=>⟨rfl,⟨q.k sn,am⟩⟩
 .rintro _ an _ rfl ⟨_,ao⟩;have a3:=elL hmj;revert an;refine Wo<|Ws<|Rw z ?_
  obtain rfl:=som a3;exact Wr<|e_ hr z ⟨bup (bup h1 s2) ao,z⟩
 rintro _ _ _ _ rfl ⟨rfl,a4⟩;have a5:=elR hmj;obtain rfl:=som a5;exact ⟨a4,z⟩
theorem A_w0m:∀n,m_E n
  | 0=>⟨λhm=>by intros;exact nomatch (show none=some _ from hm)⟩
  | n+1=>T_w0m<|A_w0m n
theorem W_w0m:k_P (f_k n).impl_validValue:=A_w0m n
theorem W_w3o {x1:d_}{x2:Int}{x3:Val}{res:Bool}(hm:i_f n x1 x2 x3=some res)(a1:B<=w0.z)(J:repS w0 B (sl A0 N0 C0) x1.rules)(L:inI x2)(W:inI x3.number)(Y:repS w0 B (sl A7 N7 C7) x3.bytes)(a0:repS w0 B (sl A8 N8 C8) x3.items):l_ prog 65 [(.agg #[sl A0 N0 C0]),vI x2,(.agg #[vI x3.number,sl A7 N7 C7,sl A8 N8 C8])] w0 (Q0 w0 B res):=by
 unfold i_f at hm
 refine goG func65 z z z λfn hr=>Ws<|E z (fb z) ?_
 rintro _ O ⟨rfl,V⟩;have h5:=V.below;refine E z (fb z) ?_;rintro _ H ⟨rfl,ha⟩;have h3:=ha.below;have hb:Blk H O.z [vI x3.number,sl A7 N7 C7,sl A8 N8 C8]:=ha.blk;refine Rw z<|Wq ?_
 obtain ⟨ug,huh,hmi⟩:=bdS hm;refine Wt (λa w=>∃(x6:Bool),x6=ug/\Sat 15 [(6,vB x6)] a/\Below H.z H w) ?_ ?_
 .refine Wg ?_;have hc:=(V.blk:Blk O w0.z [sl A0 N0 C0]).e h3;refine R z (lN (vs:=[sl A0 N0 C0]) t_ r_ z z fid<|hc.row 0 1 z)<|Rm z ?_
  have hd:=(h5.ag B).e h3;have h4:=zt' a1<|lt_ h5.s h3.s
  obtain ⟨rj,ek,hme⟩:=bdS huh;refine E z (fc call96 z<|k_y (B:=B) ek h4 (J.g hd) L) ?_;rintro _ _ ⟨s2,rfl⟩;refine Rm z ?_
  rcases bs rj with G | G
  .refine Rh z G (lN (vs:=[sl A0 N0 C0]) t_ r_ z z fid<|(hc.e s2).row 0 1 z)<|Rh z G (mv z) ?_
   have I:=hd.e s2;obtain ⟨rl,em,hmn⟩:=bdS<|ifT hme G;refine Eg z z G z (fc call103 z<|W_w0m.run (B:=H.z) em (a_0 s2.s) (repS.mono (J.g I) h4) L W (repS.mono (Y.g I) h4) (repS.mono (a0.g I) h4) ((hb.e s2).row 0 3 z) hb.lt) ?_;rintro _ _ ⟨so,rfl⟩;exact R z (pT z G z)<|Ra z<|Wl (λ_ q=>⟨rl,som hmn,q.k<|s1 z,bup s2 so⟩)
  iterate 3 refine Nh z G ?_
  exact R z (pF z G z)<|Ra z<|Wl (λ_ q=>⟨false,som<|ifF hme G,q.k<|s1 z,s2⟩)
 rintro ap _ ⟨x6,rfl,_,sq⟩;revert ap;refine Wo ?_;obtain rfl:=som hmi;exact Wr<|e_ hr z ⟨bup (bup h5 h3) sq,z⟩
def Q41 (w0:World)(B:Zone)(r:c_W)(v:Value)(w':World):Prop:=Bw w0 w'/\(λG=>∃H I J,(shV (sl H I J) G.1)=v/\repS w' w'.z (sl H I J) G.2) r
theorem W_w3p {x1:g_}{res:c_W}(hm:c_t x1=some res)(a1:B<=w0.z)(a2:x1.name.b.length<=LEN)(a3:inI x1.kind)(a4:inI x1.size)(a5:repS w0 B (sl AB NB CB) x1.bytes)(a0:repS w0 B (sl AA NA CA) x1.names)(a6:repS w0 B (sl AC NC CC) x1.tags)(a7:repS w0 B (sl AD ND CD) x1.kids):l_ prog 106 [(.agg #[Str.v x1.name,vI x1.kind,vI x1.size,vB x1.little,sl AB NB CB,sl AA NA CA,sl AC NC CC,sl AD ND CD])] w0 (Q41 w0 B res):=by
 unfold c_t at hm
 refine goG func106 z z z λfn hr=>Ws<|E z (fb z) ?_
 rintro _ wg ⟨rfl,Y⟩;have G:=Y.below;have h9:Blk wg w0.z (vR x1 AB NB CB AA NA CA AC NC CC AD ND CD):=Y.blk;refine Rw z<|Wq<|Ws<|Rf z a_u z<|R z (l0 g_3 z<|h9.at z)<|Wn<|Wb<|Ws<|Rq z z z<|Rw z<|Wc z (λH=>?_) (λH=>?_)
 .refine Ws<|R z (bP (parts:=[]) (cs:=[]) q_g z z)<|R z (d_o d_152 (λ_ h=>by cases h) z)<|Rw z ?_
  obtain rfl:=som<|ifT hm H;exact Wr<|rtO<|e_ hr z ⟨G,none,0,0,z,repS.mono (or_ onL an_)<|a_0 G.s⟩
 have hma:=ifF hm H;refine Ws<|Rq z z z<|Rw z<|Wc z (λI=>?_) (λI=>?_)
 .refine Ws<|R z (bP (parts:=[]) (cs:=[]) q_h z z)<|R z (d_o d_153 (λ_ h=>by cases h) z)<|Rw z ?_
  obtain rfl:=som<|ifT hma I;exact Wr<|rtO<|e_ hr z ⟨G,none,0,0,z,repS.mono (or_ onL an_)<|a_0 G.s⟩
 have hmb:=ifF hma I;refine Ws<|Rq z z z<|Rw z<|Wc z (λJ=>?_) (λJ=>?_)
 .refine Ws<|R z (bP (parts:=[]) (cs:=[]) q_i z z)<|R z (d_o d_154 (λ_ h=>by cases h) z)<|Rw z ?_
  obtain rfl:=som<|ifT hmb J;exact Wr<|rtO<|e_ hr z ⟨G,none,0,0,z,repS.mono (or_ onL an_)<|a_0 G.s⟩
 have hmc:=ifF hmb J;refine Ws<|Rq z z z<|Rw z<|Wc z (λL=>?_) (λL=>?_)
 .refine Ws<|Rf z c_e z<|R z (l0 b_i z<|h9.at z)<|R z (bP (parts:=[(0,.tmp 20)]) (cs:=[sl AA NA CA]) q_j z z)<|R z (d_o d_157 (λ_ h=>by cases h) z)<|Rw z ?_
  obtain rfl:=som<|ifT hmc L;exact Wr<|rtO<|e_ hr z ⟨G,AA,NA,CA,z,repS.mono (a0.e G)<|zt' a1 G.s⟩
 have hmd:=ifF hmc L;refine Ws<|Rq z z z<|Rw z<|Wc z (λO=>?_) (λO=>?_)
 .refine Ws<|R z (bP (parts:=[]) (cs:=[]) q_k z z)<|R z (d_o d_158 (λ_ h=>by cases h) z)<|Rw z ?_
  obtain rfl:=som<|ifT hmd O;exact Wr<|rtO<|e_ hr z ⟨G,none,0,0,z,repS.mono (or_ onL an_)<|a_0 G.s⟩
 have hme:=ifF hmd O;refine Ws<|Rq z z z<|Rw z<|Wc z (λV=>?_) (λV=>?_)
 .refine Ws<|R z (bP (parts:=[]) (cs:=[]) q_l z z)<|R z (d_o d_159 (λ_ h=>by cases h) z)<|Rw z ?_
  obtain rfl:=som<|ifT hme V;exact Wr<|rtO<|e_ hr z ⟨G,none,0,0,z,repS.mono (or_ onL an_)<|a_0 G.s⟩
 have hmf:=ifF hme V;refine Ws<|Rq z z z<|Rw z<|Wc z (λW=>?_) (λW=>?_)
 .refine Ws<|R z (bP (parts:=[]) (cs:=[]) q_m z z)<|R z (d_o d_160 (λ_ h=>by cases h) z)<|Rw z ?_
  obtain rfl:=som<|ifT hmf W;exact Wr<|rtO<|e_ hr z ⟨G,none,0,0,z,repS.mono (or_ onL an_)<|a_0 G.s⟩
 refine Wk<|Ws<|R z (bP (parts:=[]) (cs:=[]) q_n z z)<|R z (d_o d_189 (λ_ h=>by cases h) z)<|Rw z ?_
 obtain rfl:=som<|ifF hmf W;exact Wr<|e_ hr z ⟨G,none,0,0,z,repS.mono (or_ onL an_)<|a_0 G.s⟩
theorem W_w27 {x1:Int}{res:Str}(hm:i_8 x1=some res)(H:B<=w0.z)(hG:Gl w0 B)(G:inI x1):l_ prog 107 [vI x1] w0 (Q4 w0 B res):=by
 unfold i_8 at hm
 refine goG func107 z z z λfn hr=>Ws<|Rw z<|Wm z ?_
 obtain ⟨_,J,I⟩:=bdS hm;refine E z (fc call143 z<|p_G (B:=B) J H hG G) ?_;rintro _ _ ⟨s2,rfl,h3⟩;refine Rw z ?_
 obtain rfl:=som I;exact Wr<|e_ hr z ⟨s2,z,h3⟩
theorem W_w28 {x1:List Str}{x2:Str}{res:Str}(hm:g_t x1 x2=some res)(I:B<=w0.z)(G:repS w0 B (sl A0 N0 C0) x1)(H:x2.b.length<=LEN):l_ prog 108 [sl A0 N0 C0,Str.v x2] w0 (Q4 w0 B res):=by
 unfold g_t at hm
 refine goG func108 z z z λfn hr=>Ws<|Rw z<|Wm z<|Rm z ?_
 obtain ⟨_,L,J⟩:=bdS hm;refine E z (fc call144 z<|p_I (B:=B) L I G H) ?_;rintro _ _ ⟨s2,rfl,h3⟩;refine Rw z ?_
 obtain rfl:=som J;exact Wr<|e_ hr z ⟨s2,z,h3⟩
theorem W_w3q {x1:Int}{x2:Str}{x3:Str}{x4:Str}{res:Str}(hm:j_V x1 x2 x3 x4=some res)(I:B<=w0.z)(hG:Gl w0 B)(H:inI x1)(a0:x2.b.length<=LEN)(a1:x3.b.length<=LEN)(a2:x4.b.length<=LEN):l_ prog 109 [vI x1,Str.v x2,Str.v x3,Str.v x4] w0 (Q4 w0 B res):=by
 unfold j_V at hm
 refine goG func109 z z z λfn hr=>Ws<|Rw z<|Wm z ?_
 obtain ⟨_,W,J⟩:=bdS hm;refine E z (fc call107 z<|W_w27 (B:=B) W I hG H) ?_;rintro _ _ ⟨s3,rfl,_⟩;refine Rm z ?_;obtain ⟨_,Y,L⟩:=bdS J;refine R z (a_w z z Y)<|Rm z ?_
 obtain ⟨_,e6,O⟩:=bdS L;refine R z (a_w z z e6)<|Rm z ?_
 obtain ⟨_,G,V⟩:=bdS O;refine R z (a_w z z G)<|Rw z ?_
 obtain rfl:=som V;exact Wr<|e_ hr z ⟨s3,z,b_b G⟩
theorem W_w3r {x1:Bt}{res:Str}(hm:i_g x1=some res)(a8:B<=w0.z)(L:repS w0 B (sl A0 N0 C0) x1):l_ prog 110 [sl A0 N0 C0] w0 (Q4 w0 B res):=by
 unfold i_g at hm
 refine goG func110 z z z λfn hr=>Ws<|Rw z<|Wm z<|R z (lnR n_ z L)<|R z (c_K z z) ?_
 obtain ⟨_,ep,hmq⟩:=bdS hm;refine E z (p_q (α:=UInt8) a_2 ep z z) ?_;rintro _ G ⟨ar,ns,ct,rfl,sa,hu⟩;refine Rw z<|Wq<|Wm z<|R z (lnR n_ z<|L.e sa)<|Rm z<|Wn ?_
 obtain ⟨_,huv,hmh⟩:=bdS hmq;refine Wf (σ:=Bt) (ρ:=Str) (λ(ki:Nat)(x5:Bt) a w=>∃a2 I J H,Sat 28 [(3,sl a2 I J),(10,sl A0 N0 C0),(11,vI (x1.length:Int)),(12,vI ((ki:Nat):Int))] a/\Cg [w0.z] G w/\a_ w H (sl a2 I J) x5/\H.Nodup/\(∀k∈H,k∈[w0.z]∨G.z<=k)) (λ(x5:Bt) a w=>∃a2 I J H,Sat 28 [(3,sl a2 I J)] a/\Cg [w0.z] G w/\a_ w H (sl a2 I J) x5/\H.Nodup/\(∀k∈H,k∈[w0.z]∨G.z<=k)) (rQ prog fn<|Q4 w0 B) huv ?_ ?_ ?_ ?_ ?_
 .exact λ_ q=>⟨ar,ns,ct,[w0.z],q.k<|s4 z z z z,cr [w0.z] G,hu,a_y,io sr⟩
 .rintro ki x5 _ ww _ hkj ⟨a2,I,J,H,hSx,sb,h6,O,V⟩ hmy;refine Wu ?_ hSx;refine Ws<|Rl z z z<|Wn<|Wq<|Wc z (λ_=>?_) (λhc=>(a_6 hkj hc).elim)
  refine Wk<|Wq<|Wb<|Ws ?_
  obtain ⟨_,ez,Y⟩:=bdS hmy;refine RX z (at_ (α:=UInt8) n_ z_5 z z z (L.g<|(sa.ag B).c sb<|b_ (or0 (c_ lr) (k_ a8):∀k∈[w0.z],¬B k)) ez) ?_;rintro _ ⟨_,_,_,rfl,a9,aa,_⟩;obtain rfl:=u8 aa;refine R z (l0 g_5 z<|a9.at0 z)<|Ra z<|Wn (Wd (X:=noX) 256 (pl_ 10 [7,8]) mo (by kernel_rfl) λW sc _=>dM z z z<|dM z z z<|dR z z (q_N z z ⟨by decide,by decide⟩) ?_)
  obtain ⟨xd,ek,a0⟩:=bdS Y;refine dR z z (c_i d_9 z z (a_E ek).1 (a_E ek).2.1)<|dM z z z<|dR z z (q_O (b:=(15:UInt8)) z z) ?_
  obtain ⟨xe,el,a1⟩:=bdS a0;refine dR z z (c_i d_9 z z (a_E el).1 (a_E el).2.1)<|dE z z (fS [(.tmp 19),(.tmp 22)] a_2 z z z (a_e z) (lb z)<|lb z) (.inr λ_ _ h=>p_<|h.2.below) ?_
  rintro _ wf ⟨rfl,hn⟩;have hg:=hn.below;obtain ⟨ab,ad,a3⟩:=bdS a1;refine dE z z (fN (α:=UInt8) a_2 ad z z ((h6.e sc).e hg) O<|a_.rep (o_H (l:=[xd,xe]) (hn.blk:Blk wf W.z [vU (byteI xd),vU<|byteI xe]) z:a_ wf [W.z] (sl (some ⟨W.z,0,none⟩) 2 2) [xd,xe])) (.inl z) ?_;rintro _ ae ⟨Sm,af,ah,ai,rfl,aj,ak,al,am⟩;refine dQ z z z<|pD<|Wo<|Wg<|R z (inc_ hkj (lt_ (repS.len L) M_) z z)<|Rm z<|Wl ?_
  have ho:∀k∈H,k∈[w0.z]∨G.z<=k:=or1 V (io sr)<|B_ lr;exact λ_ q=>⟨ab,(som a3).symm,⟨af,ah,ai,Sm,q.k<|s4 z z z z,(cM (f_ (f_ (cM (cr [w0.z] G) sb (io sr):Cg [w0.z] G ww) sc:Cg [w0.z] G W) hg:Cg [w0.z] G wf) aj ho:Cg [w0.z] G ae),ak,al,(or1 am ho (B_<|lt_ (lt_ sb.s sc.s) hg.s):∀k∈Sm,k∈[w0.z]∨G.z<=k)⟩⟩
 .rintro x5 _ an ⟨a2,I,J,H,a4,ao,h6,O,V⟩;refine Wu ?_ a4;refine Ws<|Rl z z z<|Wn<|Wq<|Wc z (λhc=>(a_7 hc).elim) (λ_=>?_)
  exact We<|λ_ q=>⟨rfl,⟨a2,I,J,H,q.k<|s1 z,(cM (cr [w0.z] G) ao (io sr):Cg [w0.z] G an),h6,O,(or1 V (io sr) (B_ lr):∀k∈H,k∈[w0.z]∨G.z<=k)⟩⟩
 .rintro x5 ap _ rfl ⟨a2,I,J,H,_,aq,h6,O,V⟩;have a5:=elL hmh;revert ap;refine Wo<|Wm z<|R z (m_m n_ d_9 d_5 z_5 z<|a_.rep h6)<|Rw z ?_
  obtain rfl:=som a5;exact Wr<|e_ hr z ⟨bM sa aq<|c_ lr,z,repS.len<|a_.rep h6⟩
 rintro _ _ _ _ rfl ⟨rfl,a6⟩;have a7:=elR hmh;obtain rfl:=som a7;exact ⟨a6,z⟩
structure k_Q (f:d_->Int->Val->Option Str):Prop where
  run:∀{A0 A7 A8:Option Addr}{N0 C0 N7 C7 N8 C8 b3 o3:Nat}{B:Zone}{x1:d_}{x2:Int}{x3:Val}{res:Str}{w0:World}(hm:f x1 x2 x3=some res)(hBw:B<=w0.z)(hG:Gl w0 B)(p1_0:repS w0 B (sl A0 N0 C0) x1.rules)(p2_0:inI x2)(p3_0:inI x3.number)(p3_1:repS w0 B (sl A7 N7 C7) x3.bytes)(p3_2:repS w0 B (sl A8 N8 C8) x3.items)(hC3:T_ w0 b3 o3 [vI x3.number,sl A7 N7 C7,sl A8 N8 C8])(hC3b:B b3),l_ prog 66 [(.agg #[sl A0 N0 C0]),vI x2,(.pointer<|some ⟨b3,o3,none⟩)] w0<|Q4 w0 B res
structure k_R (f:Int->d_->Int->Val->Option Str):Prop where
  run:∀{A6 AI AJ:Option Addr}{N6 C6 b2 o2 b3 o3 NI CI NJ CJ b4_0 o4_0 b4 o4:Nat}{B:Zone}{x1:Int}{x2:d_}{x3:Int}{x4:Val}{res:Str}{w0:World}(hm:f x1 x2 x3 x4=some res)(hBw:B<=w0.z)(hG:Gl w0 B)(p1_0:inI x1)(p2_0:repS w0 B (sl A6 N6 C6) x2.rules)(hC2:T_ w0 b2 o2 [sl A6 N6 C6])(hC2b:B b2)(p3_0:inI x3)(hC3:T_ w0 b3 o3 [vI x3])(hC3b:B b3)(p4_0_0:inI x4.number)(p4_0_1:repS w0 B (sl AI NI CI) x4.bytes)(p4_0_2:repS w0 B (sl AJ NJ CJ) x4.items)(p4_0:T_ w0 b4_0 o4_0 [vI x4.number,sl AI NI CI,sl AJ NJ CJ])(p4_0b:B b4_0)(hC4:T_ w0 b4 o4 [(.pointer<|some ⟨b4_0,o4_0,none⟩)])(hC4b:B b4),l_ prog 104 [vI x1,.pointer<|some ⟨b2,o2,none⟩,.pointer<|some ⟨b3,o3,none⟩,(.pointer<|some ⟨b4,o4,none⟩)] w0<|Q4 w0 B res
abbrev k_S (n:Nat):Prop:=k_Q (b_4 n).impl_valueText/\k_R (b_4 n).impl_valueText_1
theorem T_w0a (ih:k_S n):k_Q (b_9 n<|b_4 n):=by
 obtain ⟨_,aj⟩:=ih
 constructor
 intro A0 A7 A8 N0 C0 N7 C7 N8 C8 b3 o3 B x1 x2 x3 res w0 hm O hG a2 a9 a0 a3 V hC3 hC3b;unfold b_9 at hm
 refine goG func66 z z z λfn hr=>Ws<|E z (fb z) ?_
 rintro _ ap ⟨rfl,bb⟩;have h4:=bb.below;have he:Blk ap w0.z [sl A0 N0 C0]:=bb.blk;refine E z (fb z) ?_;rintro _ ar ⟨rfl,bc⟩;have h2:=bc.below;have hf:Blk ar ap.z [vI x2]:=bc.blk;refine E z (fb z) ?_;rintro _ a4 ⟨rfl,be⟩;have h1:=be.below;have h5:Blk a4 ar.z [(.pointer<|some ⟨b3,o3,none⟩)]:=be.blk;refine Rw z<|Ws<|R z (k_2 z)<|Rw z<|Wq<|Ws<|Rf z a_3 z ?_
 have a5:=(he.e h2).e h1;refine R z (l0 a_8 z<|a5.at z) ?_;have a6:=hf.e h1;refine R z (l0 g_3 z<|a6.at z) ?_;obtain ⟨cO,cP,c8⟩:=bdS hm;have a1:=((h4.ag B).e h2).e h1;refine RX z (at_ (α:=g_) a_a o_ z z z (a2.g a1) cP) ?_;rintro _ ⟨_,_,_,rfl,cQ,cR,_⟩;obtain ⟨cS,cT,cU,cV,cW,cX,cY,cZ,d0,d1,d2,d3,rfl,d4,d5,d6,d7,d8,d9,da⟩:=a_D cR;refine R z (lN (vs:=vR cO cS cT cU cV cW cX cY cZ d0 d1 d2 d3) L_ o_ z z fid cQ) ?_;have hj:=lt_ (lt_ h4.s h2.s) h1.s;have h3:=zt' O hj;obtain ⟨ry,db,b0⟩:=bdS c8;refine E z (fc call106 z<|W_w3p (B:=B) db h3 d4 d5 d6 d7 d8 d9 da) ?_;rintro _ wa ⟨G,bf,bg,bh,rfl,au⟩;refine Wn<|Wb<|Ws ?_
 rcases bs (ry.1==1) with aa | aa
 .refine R z (ta_152 z aa)<|Re z z z<|Re z z z<|Wx z (λ_=>?_) (λhc=>(b_M z hc).elim)
  refine Ws<|E z (fa q_w) ?_
  rintro _ dc ⟨rfl,bi⟩;have ak:=bi.below;refine E0 (fs0 (cur':=[]) z_152 z z (bi.blk:Blk dc wa.z []) z z z z) ?_;rintro _ _ ⟨_,dd⟩;have am:=dd.one;refine Wn<|Ws<|R z (l0 e_P z<|(((h5.e G).e ak).c am<|djs<|mm1 h5.lt G.s).at z)<|R z (C_ z)<|Rf z a_S z ?_
  have aD:=lt_ hj G.s;have bj:∀k∈[wa.z],¬B k:=or0 (c_ lr)<|k_<|zt' O aD;refine R z (l0 g_3 z<|((((((hC3.e h4).e h2).e h1).e G).e ak).c am<|(b_ bj) _ hC3b).at (j:=0) z) ?_;obtain ⟨_,de,c9⟩:=bdS<|ifT b0 aa;refine E z (fc call107 z<|W_w27 de (zt' O<|lt_ (lt_ aD ak.s) am.s) ((((((hG.e h4).e h2).e h1).e G).e ak).c am<|b_ bj) a0) ?_;rintro _ _ ⟨df,rfl,dg⟩;refine Rw z ?_
  obtain rfl:=som c9;exact Wr<|rtO<|e_ hr z ⟨bup (bM (bup (bup (bup (bup h4 h2) h1) G) ak) am<|m1 aD) df,z,dg⟩
 have b1:=ifF b0 aa;refine R z (q_6 z aa)<|Re z z z<|Re z z z<|Wx z (λhc=>(b_M hc z).elim) (λ_=>?_)
 refine Ws ?_
 rcases bs (ry.1==2) with ab | ab
 .refine R z (ta_153 z ab)<|Re z z z<|Re z z z<|Wx z (λ_=>?_) (λhc=>(b_M z hc).elim)
  refine Ws<|E z (fa q_x) ?_
  rintro _ dh ⟨rfl,bk⟩;refine E0 (fs0 (cur':=[]) z_153 z z (bk.blk:Blk dh wa.z []) z z z z) ?_;rintro _ _ ⟨_,di⟩;refine Wn<|Ws<|Rw z ?_
  obtain rfl:=som<|ifT b1 ab;exact Wr<|rtO<|e_ hr z ⟨bM (bup (bup (bup (bup h4 h2) h1) G) bk.below) di.one<|m1<|lt_ hj G.s,z,lb z⟩
 have b2:=ifF b1 ab;refine R z (q_7 z ab)<|Re z z z<|Re z z z<|Wx z (λhc=>(b_M hc z).elim) (λ_=>?_)
 refine Ws ?_
 rcases bs (ry.1==5) with ad | ad
 .refine R z (ta_154 z ad)<|Re z z z<|Re z z z<|Wx z (λ_=>?_) (λhc=>(b_M z hc).elim)
  refine Ws<|E z (fa q_y) ?_
  rintro _ dj ⟨rfl,bm⟩;have hh:=bm.below;refine E0 (fs0 (cur':=[]) z_154 z z (bm.blk:Blk dj wa.z []) z z z z) ?_;rintro _ H ⟨_,dk⟩;have hi:=dk.one;refine Wn<|Ws<|E z (f0 (α:=Str) b_5) ?_
  rintro _ J ⟨dl,dm,dn,rfl,sz,dp⟩;refine Rw z<|Wq<|Ws ?_
  have bn:=(((h5.e G).e hh).c hi<|djs<|mm1 h5.lt G.s).e sz;refine R z (l0 e_P z<|bn.at z)<|R z (C_ z)<|Rf z V_ z ?_
  have av:=lt_ hj G.s;have aE:∀k∈[wa.z],¬B k:=or0 (c_ lr)<|k_<|zt' O av;have bo:=((((((hC3.e h4).e h2).e h1).e G).e hh).c hi<|(b_ aE) _ hC3b).e sz;refine R z (l0 a_9 z<|bo.at (j:=2) z) ?_;have bp:=(((a1.e G).e hh).c hi<|b_ aE).e sz;refine R z (lnR a_i z<|V.g bp)<|Rm z<|Wn ?_
  obtain ⟨_,ca,b4⟩:=bdS<|ifT b2 ad;refine Wf (σ:=List Str) (ρ:=Str) (λ(bq:Nat)(a7:List Str) a w=>∃al nn co Sc,Sat 122 [(7,.func (.func 104) #[] #[pt w0.z,pt ap.z,pt ar.z]),(11,sl al nn co),(46,vI (x3.items.length:Int)),(47,vI ((bq:Nat):Int))] a/\Cg [H.z] J w/\a_ w Sc (sl al nn co) a7/\Sc.Nodup/\(∀k∈Sc,k∈[H.z]∨J.z<=k)) (λ(a7:List Str) a w=>∃al nn co Sc,Sat 122 [(11,sl al nn co)] a/\Cg [H.z] J w/\a_ w Sc (sl al nn co) a7/\Sc.Nodup/\(∀k∈Sc,k∈[H.z]∨J.z<=k)) (rQ prog fn<|Q4 w0 B) ca ?_ ?_ ?_ ?_ ?_
  .exact λ_ q=>⟨dl,dm,dn,[H.z],q.k<|s4 z z z z,cr [H.z] J,dp,a_y,io sr⟩
  .rintro bq a7 _ dq _ aA ⟨al,nn,co,Sc,cb,sp,an,aw,ax⟩ cc;refine Wu ?_ cb;refine Ws<|Rl z z z<|Wn<|Wq<|Wc z (λ_=>?_) (λhc=>(a_6 aA hc).elim)
   refine Wk<|Wq<|Wb<|Wm z<|Rw z<|Wg<|RM z z<|Rm z ?_
   have br:=lt_ h2.s h1.s;have bt:=lt_ br G.s;have aF:∀k∈[H.z],¬B k:=or0 (c_ lr)<|k_<|zt' O<|lt_ (lt_ av hh.s) hi.s;have aG:=bp.c sp<|b_ aF
   have bu:=lt_ h1.s G.s;have bv:=lt_ (lt_ G.s hh.s) hi.s;obtain ⟨dr,ds,cd⟩:=bdS cc;refine E z (e_d call104 z z<|aj.run (B:=a4.z) ds (a_0<|lt_ (lt_ bv sz.s) sp.s) (((((((((hG.e h4).e h2).e h1).e G).e hh).c hi<|b_ aE).e sz).c sp<|b_ aF).mono h3) (ic (Nat.le_of_lt aA)<|lt_ (repS.len V) M_) (repS.mono (a2.g aG) h3) ((((((a5.e G).e hh).c hi<|djs<|mm1 he.lt bt).e sz).c sp<|djs<|mm1 he.lt<|lt_ (lt_ bt hh.s) hi.s).row 0 1 z) (zap' (a_0 br) he.lt) a9 ((((((a6.e G).e hh).c hi<|djs<|mm1 hf.lt bu).e sz).c sp<|djs<|mm1 hf.lt<|lt_ (lt_ bu hh.s) hi.s).row 0 1 z) (zap' (a_0 h1.s) hf.lt) a0 (repS.mono (a3.g aG) h3) (repS.mono (V.g aG) h3) (bo.c sp<|(b_ aF) _ hC3b) (zap' h3 hC3b) ((bn.c sp<|djs<|mm1 h5.lt bv).row 0 1 z) h5.lt) ?_;rintro _ bw ⟨aH,rfl,bx⟩;refine E z (fS [(.tmp 53)] b_5 z z z (a_e z) (lb z)<|lb z) ?_;rintro _ bz ⟨rfl,aI⟩;have aJ:=aI.below;have eI:=a_J aI<|c_b bx
   obtain ⟨dt,du,ce⟩:=bdS cd;refine E z (a_X (α:=Str) b_5 du z z ((an.e aH).e aJ) aw (aI.blk:Blk bz bw.z [Str.v dr]) (c_b bx) an_ G_) ?_;rintro _ dv ⟨bA,dw,dx,dy,rfl,dz,dA,dB,dC⟩;refine Rw z<|Wg<|R z (inc_ aA (lt_ (repS.len V) M_) z z)<|Rm z<|Wl ?_
   have bB:∀k∈Sc,k∈[H.z]∨J.z<=k:=or1 ax (io sr)<|B_ lr;exact λ_ q=>⟨dt,(som ce).symm,⟨dw,dx,dy,bA,q.k<|s4 z z z z,(cM (f_ (f_ (cM (cr [H.z] J) sp (io sr):Cg [H.z] J dq) aH:Cg [H.z] J bw) aJ:Cg [H.z] J bz) dz bB:Cg [H.z] J dv),dA,dB,(or2 dC bB an_ (B_<|lt_ (lt_ sp.s aH.s) aJ.s):∀k∈bA,k∈[H.z]∨J.z<=k)⟩⟩
  .rintro a7 _ dD ⟨al,nn,co,Sc,cf,dF,an,aw,ax⟩;refine Wu ?_ cf;refine Ws<|Rl z z z<|Wn<|Wq<|Wc z (λhc=>(a_7 hc).elim) (λ_=>?_)
   exact We<|λ_ q=>⟨rfl,⟨al,nn,co,Sc,q.k<|s1 z,(cM (cr [H.z] J) dF (io sr):Cg [H.z] J dD),an,aw,(or1 ax (io sr) (B_ lr):∀k∈Sc,k∈[H.z]∨J.z<=k)⟩⟩
  .rintro a7 dG dH rfl ⟨al,nn,co,Sc,_,dI,an,aw,ax⟩;have cg:=elL b4;revert dG;refine Wo<|Wm z ?_
   obtain ⟨_,dJ,ch⟩:=bdS cg;refine E z (fc call108 z<|W_w28 (B:=dH.z) dJ zr (a_.rep an)<|lb z) ?_;rintro _ _ ⟨dK,rfl,_⟩;obtain ⟨_,dL,ci⟩:=bdS ch;refine R z (a_w z z dL) ?_;obtain ⟨_,bC,cj⟩:=bdS ci;refine R z (a_w z z bC)<|Rw z ?_
   obtain rfl:=som cj;exact Wr<|rtO<|e_ hr z ⟨bup (bM (bup (bM (bup (bup (bup (bup h4 h2) h1) G) hh) hi<|m1 av) sz) dI<|m1<|lt_ (lt_ av hh.s) hi.s) dK,z,b_b bC⟩
  rintro _ _ _ _ rfl ⟨rfl,ck⟩;have cl:=elR b4;obtain rfl:=som cl;exact ⟨ck,z⟩
 have b5:=ifF b2 ad;refine R z (q_8 z ad)<|Re z z z<|Re z z z<|Wx z (λhc=>(b_M hc z).elim) (λ_=>?_)
 refine Ws ?_
 rcases bs (ry.1==6) with ae | ae
 .refine R z (ta_157 z ae)<|Re z z z<|Re z z z<|Wx z (λ_=>?_) (λhc=>(b_M z hc).elim)
  refine Ws<|E z (fa q_z) ?_
  rintro _ dN ⟨rfl,bD⟩;have hb:=bD.below;refine E0 (fs0 (cur':=[sl bf bg bh]) z_157 z z (bD.blk:Blk dN wa.z [sN]) z z z z) ?_;rintro _ I ⟨dO,dP⟩;have hd:=dP.one;refine Wn<|Ws<|E z (f0 (α:=Str) b_5) ?_
  rintro _ L ⟨dS,dT,dU,rfl,sk,dV⟩;refine Rw z<|Wq<|Ws<|Rf z q_u z<|R z (l0 b_i z<|(dO.e sk).at z) ?_
  have bE:=((hb.ag<|bl wa.z).c hd<|lg<|c_ lr).e sk;refine R z (lnR a_n z<|au.g bE)<|Rm z<|Wn ?_
  obtain ⟨_,cm,b6⟩:=bdS<|ifT b5 ae;refine Wf (σ:=List Str) (ρ:=Str) (λ(bF:Nat)(a8:List Str) a w=>∃aq nr cs Sg,Sat 122 [(7,.func (.func 104) #[] #[pt w0.z,pt ap.z,pt ar.z]),(14,sl aq nr cs),(66,sl bf bg bh),(67,vI (ry.2.length:Int)),(68,vI ((bF:Nat):Int))] a/\Cg [I.z] L w/\a_ w Sg (sl aq nr cs) a8/\Sg.Nodup/\(∀k∈Sg,k∈[I.z]∨L.z<=k)) (λ(a8:List Str) a w=>∃aq nr cs Sg,Sat 122 [(14,sl aq nr cs)] a/\Cg [I.z] L w/\a_ w Sg (sl aq nr cs) a8/\Sg.Nodup/\(∀k∈Sg,k∈[I.z]∨L.z<=k)) (rQ prog fn<|Q4 w0 B) cm ?_ ?_ ?_ ?_ ?_
  .exact λ_ q=>⟨dS,dT,dU,[I.z],q.k<|s5 z z z z z,cr [I.z] L,dV,a_y,io sr⟩
  .rintro bF a8 _ dW _ aB ⟨aq,nr,cs,Sg,cn,sm,ao,ay,az⟩ cp;refine Wu ?_ cn;refine Ws<|Rl z z z<|Wn<|Wq<|Wc z (λ_=>?_) (λhc=>(a_6 aB hc).elim)
   refine Wk<|Wq<|Wb<|Wm z ?_
   obtain ⟨_,dX,cq⟩:=bdS cp;refine RX z (at_ (α:=Str) a_n z_9 z z z (au.g<|bE.c sm<|lg<|m1<|lt_ hb.s hd.s) dX) ?_;rintro _ ⟨_,_,_,rfl,dY,dZ,_⟩;obtain ⟨rfl,_⟩:=b_K dZ;refine R z (l0 g_9 z<|dY.at0 z)<|Ra z<|Rw z<|Wg<|RM z z ?_
   obtain ⟨_,e0,ct⟩:=bdS cq;refine R z (a_w z z e0)<|RM z z ?_
   have bG:=lt_ h2.s h1.s;have bH:=lt_ bG G.s;have bI:=lt_ hj G.s;have aK:∀k∈[wa.z],¬B k:=or0 (c_ lr)<|k_<|zt' O bI;have aL:∀k∈[I.z],¬B k:=or0 (c_ lr)<|k_<|zt' O<|lt_ (lt_ bI hb.s) hd.s;have aM:=((((a1.e G).e hb).c hd<|b_ aK).e sk).c sm<|b_ aL
   have bJ:=lt_ h1.s G.s;have bK:=lt_ (lt_ G.s hb.s) hd.s;obtain ⟨_,e1,cu⟩:=bdS ct;refine E z (e_d call104 z z<|aj.run (B:=a4.z) e1 (a_0<|lt_ (lt_ bK sk.s) sm.s) (((((((((hG.e h4).e h2).e h1).e G).e hb).c hd<|b_ aK).e sk).c sm<|b_ aL).mono h3) (ic (Nat.le_of_lt aB)<|lt_ (repS.len au) M_) (repS.mono (a2.g aM) h3) ((((((a5.e G).e hb).c hd<|djs<|mm1 he.lt bH).e sk).c sm<|djs<|mm1 he.lt<|lt_ (lt_ bH hb.s) hd.s).row 0 1 z) (zap' (a_0 bG) he.lt) a9 ((((((a6.e G).e hb).c hd<|djs<|mm1 hf.lt bJ).e sk).c sm<|djs<|mm1 hf.lt<|lt_ (lt_ bJ hb.s) hd.s).row 0 1 z) (zap' (a_0 h1.s) hf.lt) a0 (repS.mono (a3.g aM) h3) (repS.mono (V.g aM) h3) ((((((((hC3.e h4).e h2).e h1).e G).e hb).c hd<|(b_ aK) _ hC3b).e sk).c sm<|(b_ aL) _ hC3b) (zap' h3 hC3b) ((((((h5.e G).e hb).c hd<|djs<|mm1 h5.lt G.s).e sk).c sm<|djs<|mm1 h5.lt bK).row 0 1 z) h5.lt) ?_;rintro _ bL ⟨aN,rfl,_⟩;obtain ⟨e2,aO,cv⟩:=bdS cu;refine R z (a_w z z aO)<|E z (fS [(.tmp 79)] b_5 z z z (a_e z) (lb z)<|lb z) ?_
   rintro _ bN ⟨rfl,aP⟩;have aQ:=aP.below;have eG:=a_J aP<|c_b<|b_b aO
   obtain ⟨e3,e4,cw⟩:=bdS cv;refine E z (a_X (α:=Str) b_5 e4 z z ((ao.e aN).e aQ) ay (aP.blk:Blk bN bL.z [Str.v e2]) (c_b<|b_b aO) an_ G_) ?_;rintro _ e5 ⟨bO,e6,e7,e8,rfl,e9,ea,eb,ec⟩;refine Rw z<|Wg<|R z (inc_ aB (lt_ (repS.len au) M_) z z)<|Rm z<|Wl ?_
   have bP:∀k∈Sg,k∈[I.z]∨L.z<=k:=or1 az (io sr)<|B_ lr;exact λ_ q=>⟨e3,(som cw).symm,⟨e6,e7,e8,bO,q.k<|s5 z z z z z,(cM (f_ (f_ (cM (cr [I.z] L) sm (io sr):Cg [I.z] L dW) aN:Cg [I.z] L bL) aQ:Cg [I.z] L bN) e9 bP:Cg [I.z] L e5),ea,eb,(or2 ec bP an_ (B_<|lt_ (lt_ sm.s aN.s) aQ.s):∀k∈bO,k∈[I.z]∨L.z<=k)⟩⟩
  .rintro a8 _ ed ⟨aq,nr,cs,Sg,cx,ee,ao,ay,az⟩;refine Wu ?_ cx;refine Ws<|Rl z z z<|Wn<|Wq<|Wc z (λhc=>(a_7 hc).elim) (λ_=>?_)
   exact We<|λ_ q=>⟨rfl,⟨aq,nr,cs,Sg,q.k<|s1 z,(cM (cr [I.z] L) ee (io sr):Cg [I.z] L ed),ao,ay,(or1 az (io sr) (B_ lr):∀k∈Sg,k∈[I.z]∨L.z<=k)⟩⟩
  .rintro a8 ef eg rfl ⟨aq,nr,cs,Sg,_,eh,ao,ay,az⟩;have cy:=elL b6;revert ef;refine Wo<|Wm z ?_
   obtain ⟨_,ei,cz⟩:=bdS cy;refine E z (fc call108 z<|W_w28 (B:=eg.z) ei zr (a_.rep ao)<|lb z) ?_;rintro _ _ ⟨ej,rfl,_⟩;obtain ⟨_,ek,cA⟩:=bdS cz;refine R z (a_w z z ek) ?_;obtain ⟨_,bQ,cB⟩:=bdS cA;refine R z (a_w z z bQ)<|Rw z ?_
   obtain rfl:=som cB;have bR:=lt_ hj G.s;exact Wr<|rtO<|e_ hr z ⟨bup (bM (bup (bM (bup (bup (bup (bup h4 h2) h1) G) hb) hd<|m1 bR) sk) eh<|m1<|lt_ (lt_ bR hb.s) hd.s) ej,z,b_b bQ⟩
  rintro _ _ _ _ rfl ⟨rfl,cC⟩;have cD:=elR b6;obtain rfl:=som cD;exact ⟨cC,z⟩
 have b7:=ifF b5 ae;refine R z (q_9 z ae)<|Re z z z<|Re z z z<|Wx z (λhc=>(b_M hc z).elim) (λ_=>?_)
 refine Ws ?_
 rcases bs (ry.1==7) with af | af
 .refine R z (ta_158 z af)<|Re z z z<|Re z z z<|Wx z (λ_=>?_) (λhc=>(b_M z hc).elim)
  refine Ws<|E z (fa q_A) ?_
  rintro _ em ⟨rfl,bS⟩;have ht:=bS.below;refine E0 (fs0 (cur':=[]) z_158 z z (bS.blk:Blk em wa.z []) z z z z) ?_;rintro _ _ ⟨_,en⟩;have hu:=en.one;refine Wn<|Wq (Wd (X:=noX) 0 (pl_ 8 [5,6]) mo (by kernel_rfl) λeH sv _=>?_)
  have bT:=(((h5.e G).e ht).c hu<|djs<|mm1 h5.lt G.s).e sv;refine dR z z (l0 e_P z<|bT.at z)<|dR z z (C_ z)<|dR z z (fd a_S z) ?_
  have aR:=lt_ hj G.s;have aS:∀k∈[wa.z],¬B k:=or0 (c_ lr)<|k_<|zt' O aR;have bU:=((((((hC3.e h4).e h2).e h1).e G).e ht).c hu<|(b_ aS) _ hC3b).e sv;refine dR z z (l0 g_3 z<|bU.at (j:=0) z)<|dM z z z ?_
  have bV:=lt_ h2.s h1.s;have aT:=(((a1.e G).e ht).c hu<|b_ aS).e sv;have bW:=((((((hG.e h4).e h2).e h1).e G).e ht).c hu<|b_ aS).e sv;obtain ⟨_,eo,cE⟩:=bdS<|ifT b7 af;refine dE z z (e_d call104 z z<|aj.run (B:=a4.z) eo (a_0<|lt_ (lt_ (lt_ G.s ht.s) hu.s) sv.s) (bW.mono h3) (ii z) (repS.mono (a2.g aT) h3) (((((a5.e G).e ht).c hu<|djs<|mm1 he.lt<|lt_ bV G.s).e sv).row 0 1 z) (zap' (a_0 bV) he.lt) a9 (((((a6.e G).e ht).c hu<|djs<|mm1 hf.lt<|lt_ h1.s G.s).e sv).row 0 1 z) (zap' (a_0 h1.s) hf.lt) a0 (repS.mono (a3.g aT) h3) (repS.mono (V.g aT) h3) bU (zap' h3 hC3b) (bT.row 0 1 z) h5.lt) (.inr λ_ _ h=>p_<|h.1) ?_;rintro _ _ ⟨aU,rfl,ep⟩;obtain ⟨_,eq,cF⟩:=bdS cE;refine dE z z (fc call109 z<|W_w3q eq (zt' O<|lt_ (lt_ (lt_ (lt_ aR ht.s) hu.s) sv.s) aU.s) (bW.e aU) a0 (lb z) ep<|lb z) (.inr λ_ _ h=>p_<|h.1) ?_;rintro _ _ ⟨er,rfl,es⟩;refine dQ z z z<|pD<|Wo ?_
  obtain rfl:=som cF;exact Wr<|rtO<|e_ hr z ⟨bup (bup (bup (bM (bup (bup (bup (bup h4 h2) h1) G) ht) hu<|m1 aR) sv) aU) er,z,es⟩
 have b8:=ifF b7 af;refine R z (q_a z af)<|Re z z z<|Re z z z<|Wx z (λhc=>(b_M hc z).elim) (λ_=>?_)
 refine Ws ?_
 rcases bs (ry.1==8) with ah | ah
 .have b9:=ifT b8 ah;refine R z (ta_159 z ah)<|Re z z z<|Re z z z<|Wx z (λ_=>?_) (λhc=>(b_M z hc).elim)
  refine Ws<|E z (fa q_B) ?_
  rintro _ eu ⟨rfl,bX⟩;have hw:=bX.below;refine E0 (fs0 (cur':=[]) z_159 z z (bX.blk:Blk eu wa.z []) z z z z) ?_;rintro _ _ ⟨_,ew⟩;have hx:=ew.one;refine Wn<|Wq<|Ws ?_
  have bY:=((h5.e G).e hw).c hx<|djs<|mm1 h5.lt G.s
  refine R z (l0 e_P z<|bY.at z)<|R z (C_ z)<|Rf z V_ z ?_
  have aV:=lt_ hj G.s;have aW:∀k∈[wa.z],¬B k:=or0 (c_ lr)<|k_<|zt' O aV;have bZ:=(((((hC3.e h4).e h2).e h1).e G).e hw).c hx<|(b_ aW) _ hC3b
  refine R z (l0 a_9 z<|bZ.at (j:=2) z) ?_;have aX:=((a1.e G).e hw).c hx<|b_ aW
  have c0:=V.g aX;refine R z (lnR a_i z c0)<|Rq z z z<|Wx z (λaC=>?_) (λaC=>?_)
  .refine Ws<|Rw z ?_
   obtain rfl:=som<|ifT b9 aC;exact Wr<|rtO<|e_ hr z ⟨bM (bup (bup (bup (bup h4 h2) h1) G) hw) hx<|m1 aV,z,lb z⟩
  refine Wk<|Wm z ?_
  have c1:=lt_ h2.s h1.s;obtain ⟨_,ex,cG⟩:=bdS<|ifF b9 aC;refine E z (e_d call104 z z<|aj.run (B:=a4.z) ex (a_0<|lt_ (lt_ G.s hw.s) hx.s) (((((((hG.e h4).e h2).e h1).e G).e hw).c hx<|b_ aW).mono h3) (ii z) (repS.mono (a2.g aX) h3) ((((a5.e G).e hw).c hx<|djs<|mm1 he.lt<|lt_ c1 G.s).row 0 1 z) (zap' (a_0 c1) he.lt) a9 ((((a6.e G).e hw).c hx<|djs<|mm1 hf.lt<|lt_ h1.s G.s).row 0 1 z) (zap' (a_0 h1.s) hf.lt) a0 (repS.mono (a3.g aX) h3) (repS.mono c0 h3) bZ (zap' h3 hC3b) (bY.row 0 1 z) h5.lt) ?_;rintro _ _ ⟨ey,rfl,_⟩;obtain ⟨_,c2,cH⟩:=bdS cG;refine R z (a_w z z c2)<|Rw z ?_
  obtain rfl:=som cH;exact Wr<|rtO<|e_ hr z ⟨bup (bM (bup (bup (bup (bup h4 h2) h1) G) hw) hx<|m1 aV) ey,z,b_b c2⟩
 have ba:=ifF b8 ah;refine R z (q_b z ah)<|Re z z z<|Re z z z<|Wx z (λhc=>(b_M hc z).elim) (λ_=>?_)
 refine Ws ?_
 rcases bs (ry.1==9) with ai | ai
 .refine R z (ta_160 z ai)<|Re z z z<|Re z z z<|Wx z (λ_=>?_) (λhc=>(b_M z hc).elim)
  refine Ws<|E z (fa q_C) ?_
  rintro _ ez ⟨rfl,c3⟩;have W:=c3.below;refine E0 (fs0 (cur':=[]) z_160 z z (c3.blk:Blk ez wa.z []) z z z z) ?_;rintro _ _ ⟨_,eA⟩;have Y:=eA.one;refine Wn<|Wm z ?_
  have c4:=lt_ h2.s h1.s;have c5:=lt_ hj G.s;have aY:∀k∈[wa.z],¬B k:=or0 (c_ lr)<|k_<|zt' O c5;have aZ:=((a1.e G).e W).c Y<|b_ aY
  obtain ⟨_,eB,cI⟩:=bdS<|ifT ba ai;refine E z (e_d call104 z z<|aj.run (B:=a4.z) eB (a_0<|lt_ (lt_ G.s W.s) Y.s) (((((((hG.e h4).e h2).e h1).e G).e W).c Y<|b_ aY).mono h3) (ii z) (repS.mono (a2.g aZ) h3) ((((a5.e G).e W).c Y<|djs<|mm1 he.lt<|lt_ c4 G.s).row 0 1 z) (zap' (a_0 c4) he.lt) a9 ((((a6.e G).e W).c Y<|djs<|mm1 hf.lt<|lt_ h1.s G.s).row 0 1 z) (zap' (a_0 h1.s) hf.lt) a0 (repS.mono (a3.g aZ) h3) (repS.mono (V.g aZ) h3) ((((((hC3.e h4).e h2).e h1).e G).e W).c Y<|(b_ aY) _ hC3b) (zap' h3 hC3b) ((((h5.e G).e W).c Y<|djs<|mm1 h5.lt G.s).row 0 1 z) h5.lt) ?_;rintro _ _ ⟨eC,rfl,_⟩;obtain ⟨_,eD,cJ⟩:=bdS cI;refine R z (a_w z z eD) ?_;obtain ⟨_,c6,cK⟩:=bdS cJ;refine R z (a_w z z c6)<|Rw z ?_
  obtain rfl:=som cK;exact Wr<|rtO<|e_ hr z ⟨bup (bM (bup (bup (bup (bup h4 h2) h1) G) W) Y<|m1 c5) eC,z,b_b c6⟩
 refine R z (q_c z ai)<|Re z z z<|Re z z z<|Wx z (λhc=>(b_M hc z).elim) (λ_=>?_)
 refine Wk<|Ws<|R z (l0 e_P z<|(h5.e G).at z)<|R z (C_ z)<|Rf z a_T z<|R z (l0 R_ z<|((((hC3.e h4).e h2).e h1).e G).at (j:=1) z) ?_
 obtain ⟨_,eE,cL⟩:=bdS<|ifF ba ai;refine E z (fc call110 z<|W_w3r eE (zt' O<|lt_ hj G.s)<|a3.g<|a1.e G) ?_;rintro _ _ ⟨eF,rfl,_⟩;obtain ⟨_,c7,cN⟩:=bdS cL;refine R z (a_w z z c7)<|Rw z ?_
 obtain rfl:=som cN;exact Wr<|e_ hr z ⟨bup (bup (bup (bup h4 h2) h1) G) eF,z,b_b c7⟩
theorem T_w29 (ih:k_S n):k_R (i_h n<|b_4 n):=by
 obtain ⟨V,_⟩:=ih
 constructor
 intro A6 AI AJ N6 C6 b2 o2 b3 o3 NI CI NJ CJ b4_0 o4_0 b4 o4 B x1 x2 x3 x4 res w0 hm I hG J H hC2 hC2b L hC3 hC3b p4_0_0 p4_0_1 p4_0_2 O p4_0b hC4 hC4b;unfold i_h at hm
 refine goG func104 z z z λfn hr=>Ws<|Rw z<|Wq (Wd (X:=noX) 0 (.rd 0<|.rd 1<|.rd 2<|.rd 3<|.rd 4<|.rd 6<|.rd 7<|.rd 8<|.rd 9<|.rd 10<|.rd 11<|.ef 5<|.ef 12<|.rd 13 .done) mo (by kernel_rfl) λwl G _=>?_)
 have h2:=hC2.e G;refine dR z z (lN (vs:=[sl A6 N6 C6]) t_ r_ z z fid h2)<|dR z z (lN (vs:=[sl A6 N6 C6]) t_ r_ z z fid h2)<|dR z z (l0 g_3 z<|(hC3.e G).at0 z) ?_
 have h3:=hC4.e G;refine dR z z (l0 e_P z<|h3.at0 z)<|dM z z z<|dR z z (l0 e_P z<|h3.at0 z)<|dR z z (C_ z)<|dR z z (fd V_ z) ?_
 have h4:=O.e G;refine dR z z (l0 a_9 z<|h4.at (j:=2) z)<|dM z z z ?_
 obtain ⟨_,Y,W⟩:=bdS hm;have h5:=p4_0_2.e G;refine dRX z z (at_ (α:=Val) a_i h_ z z z h5 Y) ?_;rintro _ ⟨_,_,_,rfl,h8,h9,ha⟩;obtain ⟨_,_,_,_,_,_,rfl,hb,hc,hd⟩:=e_7 h9;obtain ⟨_,ee,hmf⟩:=bdS W;refine dE z z (fc call105 z<|W_w26 ee (zt' I G.s) (H.e G) L p4_0_0 (p4_0_1.e G) h5 h4 p4_0b J) (.inr λ_ _ h=>p_<|h.1) ?_;rintro _ _ ⟨s1,rfl,hg⟩;obtain ⟨_,eh,hmi⟩:=bdS hmf;refine dE z z (fc call66 z<|V.run eh (zt' I<|lt_ G.s s1.s) ((hG.e G).e s1) (H.g<|(G.ag B).e s1) hg hb (hc.e s1) (hd.e s1) (h8.e s1) ha) (.inr λ_ _ h=>p_<|h.1) ?_;rintro _ _ ⟨sj,rfl,hk⟩;refine dQ z z z<|pD<|Wo ?_
 obtain rfl:=som hmi;exact Wr<|e_ hr z ⟨bup (bup G s1) sj,z,hk⟩
theorem j_1:∀n,k_S n
  | 0=>⟨⟨λhm=>by intros;exact nomatch (show none=some _ from hm)⟩,⟨λhm=>by intros;exact nomatch (show none=some _ from hm)⟩⟩
  | n+1=>⟨T_w0a<|j_1 n,T_w29<|j_1 n⟩
theorem W_w0a:k_Q (b_4 n).impl_valueText:=(j_1 n).1
theorem W_w29:k_R (b_4 n).impl_valueText_1:=(j_1 n).2
theorem W_w3s {x1:d_}{x2:Int}{x3:Val}{res:Str}(hm:g_u n x1 x2 x3=some res)(a0:B<=w0.z)(hG:Gl w0 B)(J:repS w0 B (sl A0 N0 C0) x1.rules)(L:inI x2)(O:inI x3.number)(V:repS w0 B (sl A7 N7 C7) x3.bytes)(W:repS w0 B (sl A8 N8 C8) x3.items):l_ prog 34 [(.agg #[sl A0 N0 C0]),vI x2,(.agg #[vI x3.number,sl A7 N7 C7,sl A8 N8 C8])] w0 (Q4 w0 B res):=by
 unfold g_u at hm
 refine goG func34 z z z λfn hr=>Ws<|E z (fb z) ?_
 rintro _ Y ⟨rfl,h9⟩;have h2:=h9.below;refine E z (fb z) ?_;rintro _ wa ⟨rfl,hb⟩;have h1:=hb.below;have h5:Blk wa Y.z [vI x3.number,sl A7 N7 C7,sl A8 N8 C8]:=hb.blk;refine Rw z<|Wq<|Ws ?_
 have hc:=(h9.blk:Blk Y w0.z [sl A0 N0 C0]).e h1;refine R z (lN (vs:=[sl A0 N0 C0]) t_ r_ z z fid<|hc.row 0 1 z)<|Rm z<|R z (lN (vs:=[vI x3.number,sl A7 N7 C7,sl A8 N8 C8]) q_ h_ z z fid<|h5.row 0 3 z) ?_
 have h4:=(h2.ag B).e h1;have h3:=zt' a0<|lt_ h2.s h1.s
 obtain ⟨_,ef,hmd⟩:=bdS hm;refine E z (fc call65 z<|W_w3o (B:=B) ef h3 (J.g h4) L O (V.g h4)<|W.g h4) ?_;rintro _ _ ⟨G,rfl⟩;refine R z (not_ z)<|Wx z (λH=>?_) (λH=>?_)
 .refine Ws<|Rw z ?_
  obtain rfl:=som<|ifT hmd H;exact Wr<|e_ hr z ⟨bup (bup h2 h1) G,z,lb z⟩
 refine Wk<|Ws<|R z (lN (vs:=[sl A0 N0 C0]) t_ r_ z z fid<|(hc.e G).row 0 1 z)<|Rm z ?_
 have I:=h4.e G;obtain ⟨_,eg,hmh⟩:=bdS<|ifF hmd H;refine E z (fc call66 z<|W_w0a.run (B:=wa.z) eg (a_0 G.s) ((((hG.e h2).e h1).e G).mono h3) (repS.mono (J.g I) h3) L O (repS.mono (V.g I) h3) (repS.mono (W.g I) h3) ((h5.e G).row 0 3 z) h5.lt) ?_;rintro _ _ ⟨si,rfl,hj⟩;refine Rw z ?_
 obtain rfl:=som hmh;exact Wr<|e_ hr z ⟨bup (bup (bup h2 h1) G) si,z,hj⟩
theorem W_w3t {x1:d_}{x2:Bt}{x3:Str}{res:Str}(hm:i_i n x1 x2 x3=some res)(V:B<=w0.z)(hG:Gl w0 B)(O:repS w0 B (sl A0 N0 C0) x1.rules)(W:repS w0 B (sl A6 N6 C6) x2)(Y:x3.b.length<=LEN):l_ prog 11 [(.agg #[sl A0 N0 C0]),sl A6 N6 C6,Str.v x3] w0 (Q4 w0 B res):=by
 unfold i_i at hm
 refine goG func11 z z z λfn hr=>Ws<|E z (fb z) ?_
 rintro _ wm ⟨rfl,ha⟩;have G:=ha.below;have h4:Blk wm w0.z [sl A0 N0 C0]:=ha.blk;refine Rw z<|Ws<|R z (lN (vs:=[sl A0 N0 C0]) t_ r_ z z fid<|h4.row 0 1 z)<|RM z z ?_
 have hb:=hG.e G;obtain ⟨rc,_,_,eo,hmd⟩:=w_ hm;refine E z (fc call27 z<|k_M eo (zt' V G.s) hb (O.e G) (W.e G) Y) ?_;rintro _ I ⟨s1,ae,nf,cg,_,ah,ni,cj,_,rfl,hp,h6,J,hq,_,_⟩;refine Rm z ?_
 iterate 3 refine Re z z z ?_
 refine E z (fa a_4) ?_;rintro _ wr ⟨rfl,hk⟩;have h2:=hk.below;refine E0 (fs0 (cur':=[vI rc.number,sl ae nf cg,sl ah ni cj]) h_ z z (hk.blk:Blk wr I.z [vI 0,sN,sN]) z z z z) ?_;rintro _ _ ⟨hu,ss⟩;have h3:=ss.one;refine Ra z<|Rw z<|Wq<|Wm z<|R z (not_ z)<|Wx z (λH=>?_) (λH=>?_)
 .refine Ws<|Rw z ?_
  obtain rfl:=som<|ifT hmd H;exact Wr<|e_ hr z ⟨bM (bup (bup G s1) h2) h3<|m1<|lt_ G.s s1.s,z,lb z⟩
 refine Wk<|Ws<|R z (lN (vs:=[sl A0 N0 C0]) t_ r_ z z fid<|(((h4.e s1).e h2).c h3<|djs<|mm1 h4.lt s1.s).row 0 1 z)<|Rm z<|R z (lN (vs:=[vI rc.number,sl ae nf cg,sl ah ni cj]) q_ h_ z z fid<|hu.row 0 3 z) ?_
 have hl:=lt_ G.s s1.s;have L:=zt' V hl;have hn:∀k∈[I.z],¬B k:=or0 (c_ lr)<|k_ L;obtain ⟨_,ev,hmw⟩:=bdS<|ifF hmd H;refine E z (fc call34 z<|W_w3s (B:=I.z) ev (a_0<|lt_ h2.s h3.s) ((((hb.e s1).e h2).c h3<|b_ hn).mono L) (repS.mono (O.g<|(((G.ag B).e s1).e h2).c h3<|b_ hn) L) hq hp (or_ ((h6.e h2).c h3<|ds<|mnr<|a_.lt h6)<|a_.lt h6)<|or_ ((J.e h2).c h3<|ds<|mnr<|a_.lt J)<|a_.lt J) ?_;rintro _ _ ⟨sx,rfl,hy⟩;refine Rw z ?_
 obtain rfl:=som hmw;exact Wr<|e_ hr z ⟨bup (bM (bup (bup G s1) h2) h3<|m1 hl) sx,z,hy⟩
theorem W_w3u {x1:Int}{x2:Str}{x3:Str}{x4:Str}{res:Str}(hm:j_T n x1 x2 x3 x4=some res)(I:B<=w0.z)(H:inI x1)(a0:x2.b.length<=LEN)(a1:x3.b.length<=LEN)(a2:x4.b.length<=LEN):l_ prog 69 [vI x1,Str.v x2,Str.v x3,Str.v x4] w0 (Q4 w0 B res):=by
 unfold j_T at hm
 refine goG func69 z z z λfn hr=>Ws<|Rw z<|Wm z ?_
 obtain ⟨_,W,J⟩:=bdS hm;refine E z (fc call68 z<|e_T (B:=B) W I H) ?_;rintro _ _ ⟨s3,rfl,_⟩;refine Rm z ?_;obtain ⟨_,Y,L⟩:=bdS J;refine R z (a_w z z Y)<|Rm z ?_
 obtain ⟨_,e6,O⟩:=bdS L;refine R z (a_w z z e6)<|Rm z ?_
 obtain ⟨_,G,V⟩:=bdS O;refine R z (a_w z z G)<|Rw z ?_
 obtain rfl:=som V;exact Wr<|e_ hr z ⟨s3,z,b_b G⟩
theorem W_w3v {x1:Bt}{res:Str}(hm:i_b x1=some res)(O:B<=w0.z)(G:repS w0 B (sl A0 N0 C0) x1):l_ prog 70 [sl A0 N0 C0] w0 (Q4 w0 B res):=by
 unfold i_b at hm
 refine goG func70 z z z λfn hr=>Ws<|Rw z<|Ws<|Rw z<|Ws<|Rw z<|Wq<|Ws<|Rw z ?_
 obtain ⟨_,L,H⟩:=bdS hm;refine Wf (σ:=Str) (ρ:=Str) (λ(k4:Nat)(x0:Str) a w=>Sat 40 [(0,sl A0 N0 C0),(3,Str.v (⟨[48,49,50,51,52,53,54,55,56,57,97,98,99,100,101,102]⟩:Str)),(4,Str.v x0),(5,vI ((k4:Nat):Int))] a/\Below w0.z w0 w/\x0.b.length<=LEN) (λ(x0:Str) a w=>Sat 40 [(4,Str.v x0)] a/\Below w0.z w0 w/\x0.b.length<=LEN) (rQ prog fn<|Q4 w0 B) L ?_ ?_ ?_ ?_ ?_
 .exact λ_ q=>⟨q.k<|s4 z z z z,br w0,lb z⟩
 .rintro k4 x0 _ _ _ I ⟨hSa,s6,h1⟩ hmb;refine Wu ?_ hSa;refine Wq<|Wm z<|Rm z ?_
  have h2:=G.e s6;refine R z (lnR n_ z h2)<|Rl z z z<|Wx z (λ_=>?_) (λhc=>(a_6 I hc).elim)
  refine Wk<|Wq<|Wb<|Wm z<|Rm z ?_
  obtain ⟨_,ec,hmd⟩:=bdS hmb;refine RX z (at_ (α:=UInt8) n_ z_5 z z z h2 ec) ?_;rintro _ ⟨_,_,_,rfl,he,hf,_⟩;obtain rfl:=u8 hf;refine R z (l0 g_5 z<|he.at0 z)<|R z (b_W d_5 d_3 z)<|R z (e_X z z (by decide))<|Rw z<|Wm z<|Rm z ?_
  obtain ⟨_,eg,hmh⟩:=bdS hmd;refine RX z (at_ (α:=UInt8) n_ z_5 z z z h2 eg) ?_;rintro _ ⟨_,_,_,rfl,hi,hj,_⟩;obtain rfl:=u8 hj;refine R z (l0 g_5 z<|hi.at0 z)<|R z (b_W d_5 d_3 z)<|R z (f_E z z (by decide))<|Ra z<|Wn (Wd (X:=noX) 0 (pl_ 14 []) mo (by kernel_rfl) λV sk _=>?_)
  iterate 4 refine dM z z z ?_
  refine dR z z (add_ z z) ?_;obtain ⟨_,el,hmm⟩:=bdS hmh;refine dR z z (h_0 d_9 z z z (lb z) el) ?_;obtain ⟨_,en,hmo⟩:=bdS hmm;refine dR z z (a_w z z en) ?_
  iterate 3 refine dM z z z ?_
  refine dR z z (add_ z z) ?_;obtain ⟨_,ep,hmq⟩:=bdS hmo;refine dR z z (h_0 d_9 z z z (lb z) ep) ?_;obtain ⟨xr,J,hms⟩:=bdS hmq;exact dR z z (a_w z z J)<|dQ z z z<|pD<|Wo<|Wg<|Rm z<|R z (inc_ I (lt_ (repS.len G) M_) z z)<|Ra z<|Wl (λ_ q=>⟨xr,(som hms).symm,⟨q.k<|s4 z z z z,bup s6 sk,b_b J⟩⟩)
 .rintro x0 _ _ ⟨hSt,s8,h1⟩;refine Wu ?_ hSt;refine Wq<|Wm z<|Rm z<|R z (lnR n_ z<|G.e s8)<|Rl z z z<|Wx z (λhc=>(a_7 hc).elim) (λ_=>?_)
  exact We<|λ_ q=>⟨rfl,⟨q.k<|s1 z,s8,h1⟩⟩
 .rintro x0 au _ rfl ⟨_,sv,h1⟩;have hmw:=elL H;revert au;refine Wo<|Wm z<|Rw z ?_
  obtain rfl:=som hmw;exact Wr<|e_ hr z ⟨sv,z,h1⟩
 rintro _ _ _ _ rfl ⟨rfl,hqx⟩;have hmy:=elR H;obtain rfl:=som hmy;exact ⟨hqx,z⟩
structure k_T (f:d_->Int->Val->Option Str):Prop where
  run:∀{A0 A7 A8:Option Addr}{N0 C0 N7 C7 N8 C8:Nat}{B:Zone}{x1:d_}{x2:Int}{x3:Val}{res:Str}{w0:World}(hm:f x1 x2 x3=some res)(hBw:B<=w0.z)(p1_0:repS w0 B (sl A0 N0 C0) x1.rules)(p2_0:inI x2)(p3_0:inI x3.number)(p3_1:repS w0 B (sl A7 N7 C7) x3.bytes)(p3_2:repS w0 B (sl A8 N8 C8) x3.items),l_ prog 35 [(.agg #[sl A0 N0 C0]),vI x2,(.agg #[vI x3.number,sl A7 N7 C7,sl A8 N8 C8])] w0<|Q4 w0 B res
structure k_U (f:d_->g_->Val->Option Str):Prop where
  run:∀{A0 A2 A3 A1 A5 A7 A8:Option Addr}{N0 C0 N2 C2 N3 C3 N1 C1 N5 C5 N7 C7 N8 C8:Nat}{B:Zone}{x1:d_}{x2:g_}{x3:Val}{res:Str}{w0:World}(hm:f x1 x2 x3=some res)(hBw:B<=w0.z)(p1_0:repS w0 B (sl A0 N0 C0) x1.rules)(p2_0:x2.name.b.length<=LEN)(p2_1:inI x2.kind)(p2_2:inI x2.size)(p2_4:repS w0 B (sl A2 N2 C2) x2.bytes)(p2_5:repS w0 B (sl A3 N3 C3) x2.names)(p2_6:repS w0 B (sl A1 N1 C1) x2.tags)(p2_7:repS w0 B (sl A5 N5 C5) x2.kids)(p3_0:inI x3.number)(p3_1:repS w0 B (sl A7 N7 C7) x3.bytes)(p3_2:repS w0 B (sl A8 N8 C8) x3.items),l_ prog 67 [(.agg #[sl A0 N0 C0]),.agg #[Str.v x2.name,vI x2.kind,vI x2.size,vB x2.little,sl A2 N2 C2,sl A3 N3 C3,sl A1 N1 C1,sl A5 N5 C5],(.agg #[vI x3.number,sl A7 N7 C7,sl A8 N8 C8])] w0<|Q4 w0 B res
abbrev k_V (n:Nat):Prop:=k_T (b_p n).spec_l10Text/\k_U (b_p n).spec_l10List
theorem T_w0b (ih:k_V n):k_T (b_8 n<|b_p n):=by
 obtain ⟨_,aC⟩:=ih
 constructor
 intro A0 A7 A8 N0 C0 N7 C7 N8 C8 B x1 x2 x3 res w0 hm H V b2 O W Y;unfold b_8 at hm
 refine goG func35 z z z λfn hr=>Ws<|E z (fb z) ?_
 rintro _ ww ⟨rfl,hx⟩;have h4:=hx.below;have hy:Blk ww w0.z [sl A0 N0 C0]:=hx.blk;refine E z (fb z) ?_;rintro _ wa ⟨rfl,hz⟩;have h3:=hz.below;have a8:Blk wa ww.z [vI x3.number,sl A7 N7 C7,sl A8 N8 C8]:=hz.blk;refine Rw z<|Ws<|Rf z a_3 z ?_
 have a9:=hy.e h3;refine R z (l0 a_8 z<|a9.at z)<|Rm z ?_
 obtain ⟨xb,aD,ao⟩:=bdS hm;have aa:=(h4.ag B).e h3;refine RX z (at_ (α:=g_) a_a o_ z z z (V.g aa) aD) ?_;rintro _ ⟨_,_,_,rfl,aE,aF,_⟩;obtain ⟨ac,nd,ce,af,ng,ch,ai,nj,ck,al,nm,cn,rfl,aG,aH,aI,aJ,aK,aL,aM⟩:=a_D aF;refine R z (lN (vs:=vR xb ac nd ce af ng ch ai nj ck al nm cn) L_ o_ z z fid aE)<|E z (fa b_P) ?_
 rintro _ aN ⟨rfl,ab⟩;have h1:=ab.below;refine E0 (fs0 (cur':=vR xb ac nd ce af ng ch ai nj ck al nm cn) o_ z z (ab.blk:Blk aN wa.z [(Str.v (⟨[]⟩:Str)),vI 0,vI 0,vB false,sN,sN,sN,sN]) z z z z) ?_;rintro _ _ ⟨ad,aO⟩;have h2:=aO.one;refine Wn<|Ws<|R z (lN (vs:=[sl A0 N0 C0]) t_ r_ z z fid<|((a9.e h1).c h2<|djs<|mm1 hy.lt h3.s).row 0 1 z)<|R z (lN (vs:=vR xb ac nd ce af ng ch ai nj ck al nm cn) L_ o_ z z fid<|ad.row 0 8 z) ?_
 have h6:=(a8.e h1).c h2<|djs<|mmr a8.lt
 refine R z (lN (vs:=[vI x3.number,sl A7 N7 C7,sl A8 N8 C8]) q_ h_ z z fid<|h6.row 0 3 z) ?_;have h5:=lt_ h4.s h3.s;have ae:∀k∈[wa.z],¬B k:=or0 (c_ lr)<|k_<|zt' H h5;have I:=(aa.e h1).c h2<|b_ ae
 have J:=(h1.ag B).c h2<|b_ ae
 have L:=lt_ (lt_ h5 h1.s) h2.s;obtain ⟨_,aP,a0⟩:=bdS ao;refine E z (fc call67 z<|aC.run aP (zt' H L) (V.g I) aG aH aI (aJ.g J) (aK.g J) (aL.g J) (aM.g J) O (W.g I)<|Y.g I) ?_;rintro _ _ ⟨G,rfl,aQ⟩;refine Rw z<|Wq<|Ws<|Rf z a_u z<|R z (l0 g_3 z<|(ad.e G).at z)<|Wn<|Wb<|Ws<|Rq z z z<|Rw z<|Wc z (λhco=>?_) (λhco=>?_)
 .refine Ws<|Rf z a_S z<|R z (l0 g_3 z<|(h6.e G).at z) ?_
  obtain ⟨_,aR,ap⟩:=bdS<|ifT a0 hco;refine E z (fc call68 z<|e_T aR (zt' H<|lt_ L G.s) O) ?_;rintro _ _ ⟨aS,rfl,aT⟩;refine Rw z ?_
  obtain rfl:=som ap;exact Wr<|rtO<|e_ hr z ⟨bup (bup (bM (bup (bup h4 h3) h1) h2<|m1 h5) G) aS,z,aT⟩
 have a1:=ifF a0 hco;refine Ws<|Rq z z z<|Rw z<|Wc z (λhcp=>?_) (λhcp=>?_)
 .refine Ws<|Rw z ?_
  obtain rfl:=som<|ifT a1 hcp;exact Wr<|rtO<|e_ hr z ⟨bup (bM (bup (bup h4 h3) h1) h2<|m1 h5) G,z,lb z⟩
 have a2:=ifF a1 hcp;refine Ws<|Rq z z z<|Rw z<|Wc z (λhcq=>?_) (λhcq=>?_)
 .refine Wm z ?_
  obtain ⟨_,aU,aq⟩:=bdS<|ifT a2 hcq;refine R z (a_w z z aU) ?_;obtain ⟨_,ah,ar⟩:=bdS aq;refine R z (a_w z z ah)<|Rw z ?_
  obtain rfl:=som ar;exact Wr<|rtO<|e_ hr z ⟨bup (bM (bup (bup h4 h3) h1) h2<|m1 h5) G,z,b_b ah⟩
 have a3:=ifF a2 hcq;refine Ws<|Rq z z z<|Rw z<|Wc z (λhcr=>?_) (λhcr=>?_)
 .refine Wm z ?_
  obtain ⟨_,aV,au⟩:=bdS<|ifT a3 hcr;refine R z (a_w z z aV) ?_;obtain ⟨_,aj,av⟩:=bdS au;refine R z (a_w z z aj)<|Rw z ?_
  obtain rfl:=som av;exact Wr<|rtO<|e_ hr z ⟨bup (bM (bup (bup h4 h3) h1) h2<|m1 h5) G,z,b_b aj⟩
 have a4:=ifF a3 hcr;refine Ws<|Rq z z z<|Rw z<|Wc z (λhcs=>?_) (λhcs=>?_)
 .refine Ws<|Rf z a_S z<|R z (l0 g_3 z<|(h6.e G).at z)<|Rm z ?_
  obtain ⟨_,aW,aw⟩:=bdS<|ifT a4 hcs;refine E z (fc call69 z<|W_w3u aW (zt' H<|lt_ L G.s) O (lb z) aQ<|lb z) ?_;rintro _ _ ⟨aX,rfl,aY⟩;refine Rw z ?_
  obtain rfl:=som aw;exact Wr<|rtO<|e_ hr z ⟨bup (bup (bM (bup (bup h4 h3) h1) h2<|m1 h5) G) aX,z,aY⟩
 have a5:=ifF a4 hcs;refine Ws<|Rq z z z<|Rw z<|Wc z (λhct=>?_) (λhct=>?_)
 .have a6:=ifT a5 hct;refine Wq<|Ws<|Rf z V_ z<|R z (l0 a_9 z<|(h6.e G).at z)<|R z (lnR a_i z<|Y.g<|I.e G)<|Rq z z z<|Wx z (λhcu=>?_) (λhcu=>?_)
  .refine Ws<|Rw z ?_
   obtain rfl:=som<|ifT a6 hcu;exact Wr<|rtO<|e_ hr z ⟨bup (bM (bup (bup h4 h3) h1) h2<|m1 h5) G,z,lb z⟩
  refine Wk<|Wm z ?_
  obtain ⟨_,ak,ax⟩:=bdS<|ifF a6 hcu;refine R z (a_w z z ak)<|Rw z ?_
  obtain rfl:=som ax;exact Wr<|rtO<|e_ hr z ⟨bup (bM (bup (bup h4 h3) h1) h2<|m1 h5) G,z,b_b ak⟩
 have a7:=ifF a5 hct;refine Ws<|Rq z z z<|Rw z<|Wc z (λhcv=>?_) (λhcv=>?_)
 .refine Wm z ?_
  obtain ⟨_,aZ,ay⟩:=bdS<|ifT a7 hcv;refine R z (a_w z z aZ) ?_;obtain ⟨_,am,az⟩:=bdS ay;refine R z (a_w z z am)<|Rw z ?_
  obtain rfl:=som az;exact Wr<|rtO<|e_ hr z ⟨bup (bM (bup (bup h4 h3) h1) h2<|m1 h5) G,z,b_b am⟩
 refine Wk<|Ws<|Rf z a_T z<|R z (l0 R_ z<|(h6.e G).at z) ?_
 obtain ⟨_,b0,aA⟩:=bdS<|ifF a7 hcv;refine E z (fc call70 z<|W_w3v b0 (zt' H<|lt_ L G.s)<|W.g<|I.e G) ?_;rintro _ _ ⟨b1,rfl,_⟩;obtain ⟨_,an,aB⟩:=bdS aA;refine R z (a_w z z an)<|Rw z ?_
 obtain rfl:=som aB;exact Wr<|e_ hr z ⟨bup (bup (bM (bup (bup h4 h3) h1) h2<|m1 h5) G) b1,z,b_b an⟩
theorem T_w2a (ih:k_V n):k_U (i_c n<|b_p n):=by
 obtain ⟨aq,_⟩:=ih
 constructor
 intro A0 A2 A3 A1 A5 A7 A8 N0 C0 N2 C2 N3 C3 N1 C1 N5 C5 N7 C7 N8 C8 B x1 x2 x3 res w0 hm O Y a0 a1 a2 a3 L a4 a5 a6 aY H;unfold i_c at hm
 refine goG func67 z z z λfn hr=>Ws<|E z (fb z) ?_
 rintro _ I ⟨rfl,hp⟩;have he:=hp.below;refine E z (fb z) ?_;rintro _ J ⟨rfl,hq⟩;have ha:=hq.below;refine E z (fb z) ?_;rintro _ G ⟨rfl,ht⟩;have h3:=ht.below;have hu:Blk G J.z [vI x3.number,sl A7 N7 C7,sl A8 N8 C8]:=ht.blk;refine Rw z<|Ws<|Rw z<|Wq<|Ws<|Rw z ?_
 obtain ⟨_,a7,hmr⟩:=bdS hm;refine Wf (σ:=Str) (ρ:=Str) (λ(kf:Nat)(x0:Str) a w=>Sat 46 [(3,pt w0.z),(4,pt I.z),(5,pt J.z),(7,Str.v x0),(8,vI ((kf:Nat):Int))] a/\Below G.z G w/\x0.b.length<=LEN) (λ(x0:Str) a w=>Sat 46 [(7,Str.v x0)] a/\Below G.z G w/\x0.b.length<=LEN) (rQ prog fn<|Q4 w0 B) a7 ?_ ?_ ?_ ?_ ?_
 .exact λ_ q=>⟨q.k<|s5 z z z z z,br G,lb z⟩
 .rintro kf x0 _ wg _ hkj ⟨a8,s4,hb⟩ a9;refine Wu ?_ a8;refine Wq<|Wm z<|Rf z V_ z ?_
  have hv:=hu.e s4;refine R z (l0 a_9 z<|hv.at z) ?_;have hk:=(((he.ag B).e ha).e h3).e s4;refine R z (lnR a_i z<|H.g hk)<|Rl z z z<|Wx z (λ_=>?_) (λhc=>(a_6 hkj hc).elim)
  refine Wk<|Wq<|Wb<|Wq<|Wm z<|R z (a_g z z)<|Wn ?_
  obtain ⟨ar,hus,aa⟩:=bdS a9;refine Wt (λa w=>∃(xc:Str),xc=ar/\Sat 46 [(3,pt w0.z),(4,pt I.z),(5,pt J.z),(7,Str.v xc),(8,vI ((kf:Nat):Int))] a/\Below wg.z wg w/\xc.b.length<=LEN) ?_ ?_
  .refine Wc z (λhcl=>?_)<|λhcl=>?_
   .refine Wg<|Rm z ?_
    obtain ⟨au,ew,ab⟩:=bdS<|ifT hus hcl;exact R z (a_w z z ew)<|Ra z<|Wl (λ_ q=>⟨au,som ab,q.k<|s5 z z z z z,br wg,b_b ew⟩)
   exact a_k<|λ_ q=>⟨x0,som<|ifF hus hcl,q.k<|s5 z z z z z,br wg,hb⟩
  rintro av wh ⟨xc,rfl,_,s2,aw⟩;revert av;refine Wo<|Wq<|Ws<|Rf z a_u z ?_
  have hn:=(((hq.blk:Blk J I.z (vR x2 A2 N2 C2 A3 N3 C3 A1 N1 C1 A5 N5 C5)).e h3).e s4).e s2;refine R z (l0 g_3 z<|hn.at z)<|Rq z z z<|Wn ?_
  obtain ⟨ax,hux,ad⟩:=bdS aa;refine Wt (λa w=>∃(xi:Str),xi=ax/\Sat 46 [(3,pt w0.z),(4,pt I.z),(5,pt J.z),(7,Str.v xi),(8,vI ((kf:Nat):Int))] a/\Below wh.z wh w/\xi.b.length<=LEN) ?_ ?_
  .refine Wc z (λhcm=>?_)<|λhcm=>?_
   .refine Wg<|Rm z<|Rf z c_e z<|R z (l0 b_i z<|hn.at z)<|Rm z ?_
    obtain ⟨_,ay,ae⟩:=bdS<|ifT hux hcm;refine RX z (at_ (α:=Str) a_n z_9 z z z (L.g<|hk.e s2) ay) ?_;rintro _ ⟨_,_,_,rfl,az,aA,_⟩;obtain ⟨rfl,_⟩:=b_K aA;refine R z (l0 g_9 z<|az.at0 z) ?_;obtain ⟨_,aB,af⟩:=bdS ae;refine R z (a_w z z aB) ?_;obtain ⟨aC,ey,ah⟩:=bdS af;exact R z (a_w z z ey)<|Ra z<|Wl (λ_ q=>⟨aC,som ah,q.k<|s5 z z z z z,br wh,b_b ey⟩)
   exact a_k<|λ_ q=>⟨xc,som<|ifF hux hcm,q.k<|s5 z z z z z,br wh,aw⟩
  rintro aD _ ⟨xi,rfl,_,s6,_⟩;revert aD;refine Wo (Wd (X:=noX) 0 (.rd 0<|.rd 1<|.rd 2<|.rd 3<|.rd 4<|.rd 5<|.rd 7<|.rd 8<|.rd 9<|.rd 10<|.rd 11<|.ef 6<|.ef 12<|.rd 13<|.rd 14 .done) mo (by kernel_rfl) λaZ s7 _=>dM z z z<|dR z z (lN (vs:=[sl A0 N0 C0]) t_ r_ z z fid<|(((((((hp.blk:Blk I w0.z [sl A0 N0 C0]).e ha).e h3).e s4).e s2).e s6).e s7).row 0 1 z)<|dR z z (lN (vs:=vR x2 A2 N2 C2 A3 N3 C3 A1 N1 C1 A5 N5 C5) L_ o_ z z fid<|((hn.e s6).e s7).row 0 8 z)<|dR z z (fd a_S z) ?_);have hz:=((hv.e s2).e s6).e s7;refine dR z z (l0 g_3 z<|hz.at z)<|dM z z z<|dR z z (fd V_ z)<|dR z z (l0 a_9 z<|hz.at z)<|dM z z z ?_
  obtain ⟨aE,aF,ai⟩:=bdS ad;have h5:=((hk.e s2).e s6).e s7;refine dRX z z (at_ (α:=Val) a_i h_ z z z (H.g h5) aF) ?_;rintro _ ⟨_,_,_,rfl,aG,aH,_⟩;obtain ⟨aI,aJ,aK,aL,aM,aN,rfl,aO,aP,aQ⟩:=e_7 aH;refine dR z z (lN (vs:=[vI aE.number,sl aI aJ aK,sl aL aM aN]) q_ h_ z z fid aG) ?_;have V:=lt_ (lt_ (lt_ (lt_ (lt_ (lt_ he.s ha.s) h3.s) s4.s) s2.s) s6.s) s7.s;obtain ⟨_,aR,aj⟩:=bdS ai;refine dE z z (fc call31 z<|d_M aR (zt' O V) a0 a1 a2 (a3.g h5) (L.g h5) (a4.g h5) (a5.g h5) a6<|ic (Nat.le_of_lt hkj)<|lt_ (repS.len H) M_) (.inr λ_ _ h=>p_<|h.1) ?_;rintro _ _ ⟨sd,rfl,aS⟩;obtain ⟨_,aT,ak⟩:=bdS aj;refine dE z z (fc call35 z<|aq.run aT (zt' O<|lt_ V sd.s) (Y.g<|h5.e sd) aS aO (aP.e sd)<|aQ.e sd) (.inr λ_ _ h=>p_<|h.1) ?_;rintro _ _ ⟨aU,rfl,_⟩;obtain ⟨aV,W,al⟩:=bdS ak;exact dR z z (a_w z z W)<|dQ z z z<|pD<|Wo<|Wg<|Rm z<|R z (inc_ hkj (lt_ (repS.len H) M_) z z)<|Ra z<|Wl (λ_ q=>⟨aV,(som al).symm,⟨q.k<|s5 z z z z z,bup (bup (bup (bup (bup s4 s2) s6) s7) sd) aU,b_b W⟩⟩)
 .rintro x0 _ _ ⟨am,so,hb⟩;refine Wu ?_ am;refine Wq<|Wm z<|Rf z V_ z<|R z (l0 a_9 z<|(hu.e so).at z)<|R z (lnR a_i z<|H.g<|(((he.ag B).e ha).e h3).e so)<|Rl z z z<|Wx z (λhc=>(a_7 hc).elim) (λ_=>?_)
  exact We<|λ_ q=>⟨rfl,⟨q.k<|s1 z,so,hb⟩⟩
 .rintro x0 aW _ rfl ⟨_,aX,hb⟩;have an:=elL hmr;revert aW;refine Wo<|Wm z<|Rw z ?_
  obtain rfl:=som an;exact Wr<|e_ hr z ⟨bup (bup (bup he ha) h3) aX,z,hb⟩
 rintro _ _ _ _ rfl ⟨rfl,ao⟩;have ap:=elR hmr;obtain rfl:=som ap;exact ⟨ao,z⟩
theorem j_2:∀n,k_V n
  | 0=>⟨⟨λhm=>by intros;exact nomatch (show none=some _ from hm)⟩,⟨λhm=>by intros;exact nomatch (show none=some _ from hm)⟩⟩
  | n+1=>⟨T_w0b<|j_2 n,T_w2a<|j_2 n⟩
theorem W_w0b:k_T (b_p n).spec_l10Text:=(j_2 n).1
theorem W_w2a:k_U (b_p n).spec_l10List:=(j_2 n).2
theorem W_w3w {x1:d_}{x2:Int}{x3:Val}{res:Str}(hm:g_s n x1 x2 x3=some res)(W:B<=w0.z)(I:repS w0 B (sl A0 N0 C0) x1.rules)(J:inI x2)(L:inI x3.number)(O:repS w0 B (sl A7 N7 C7) x3.bytes)(V:repS w0 B (sl A8 N8 C8) x3.items):l_ prog 12 [(.agg #[sl A0 N0 C0]),vI x2,(.agg #[vI x3.number,sl A7 N7 C7,sl A8 N8 C8])] w0 (Q4 w0 B res):=by
 unfold g_s at hm
 refine goG func12 z z z λfn hr=>Ws<|E z (fb z) ?_
 rintro _ Y ⟨rfl,h7⟩;have h2:=h7.below;refine E z (fb z) ?_;rintro _ we ⟨rfl,h8⟩;have h1:=h8.below;have h9:Blk we Y.z [vI x3.number,sl A7 N7 C7,sl A8 N8 C8]:=h8.blk;refine Rw z<|Wq<|Ws ?_
 have ha:=(h7.blk:Blk Y w0.z [sl A0 N0 C0]).e h1;refine R z (lN (vs:=[sl A0 N0 C0]) t_ r_ z z fid<|ha.row 0 1 z)<|Rm z<|R z (lN (vs:=[vI x3.number,sl A7 N7 C7,sl A8 N8 C8]) q_ h_ z z fid<|h9.row 0 3 z) ?_
 have h3:=(h2.ag B).e h1;have hb:=lt_ h2.s h1.s;obtain ⟨_,ef,hmc⟩:=bdS hm;refine E z (fc call29 z<|k_o ef (zt' W hb) (I.g h3) J L (O.g h3)<|V.g h3) ?_;rintro _ _ ⟨G,rfl⟩;refine R z (not_ z)<|Wx z (λH=>?_) (λH=>?_)
 .refine Ws<|Rw z ?_
  obtain rfl:=som<|ifT hmc H;exact Wr<|e_ hr z ⟨bup (bup h2 h1) G,z,lb z⟩
 refine Wk<|Ws<|R z (lN (vs:=[sl A0 N0 C0]) t_ r_ z z fid<|(ha.e G).row 0 1 z)<|Rm z<|R z (lN (vs:=[vI x3.number,sl A7 N7 C7,sl A8 N8 C8]) q_ h_ z z fid<|(h9.e G).row 0 3 z) ?_
 have h5:=h3.e G;obtain ⟨_,eg,hmh⟩:=bdS<|ifF hmc H;refine E z (fc call35 z<|W_w0b.run eg (zt' W<|lt_ hb G.s) (I.g h5) J L (O.g h5)<|V.g h5) ?_;rintro _ _ ⟨si,rfl,hj⟩;refine Rw z ?_
 obtain rfl:=som hmh;exact Wr<|e_ hr z ⟨bup (bup (bup h2 h1) G) si,z,hj⟩
theorem W_w3x {x1:d_}{x2:Bt}{x3:Str}{res:Int}(hm:g_F n x1 x2 x3=some res)(Y:B<=w0.z)(hG:Gl w0 B)(O:repS w0 B (sl A0 N0 C0) x1.rules)(V:repS w0 B (sl A6 N6 C6) x2)(W:x3.b.length<=LEN):l_ prog 13 [(.agg #[sl A0 N0 C0]),sl A6 N6 C6,Str.v x3] w0 (Q9 w0 B res):=by
 unfold g_F at hm
 refine goG func13 z z z λfn hr=>Ws<|E z (fb z) ?_
 rintro _ wa ⟨rfl,h6⟩;have G:=h6.below;refine Rw z<|Ws<|R z (lN (vs:=[sl A0 N0 C0]) t_ r_ z z fid<|(h6.blk:Blk wa w0.z [sl A0 N0 C0]).row 0 1 z)<|RM z z ?_
 obtain ⟨rc,_,_,ed,I⟩:=w_ hm;refine E z (fc call27 z<|k_M ed (zt' Y G.s) (hG.e G) (O.e G) (V.e G) W) ?_;rintro _ we ⟨s1,af,ng,ch,_,ai,nj,ck,_,rfl,_,_,h2,_,_,_⟩;refine Rm z ?_
 iterate 3 refine Re z z z ?_
 refine E z (fa a_4) ?_;rintro _ wl ⟨rfl,J⟩;have h3:=J.below;refine E0 (fs0 (cur':=[vI rc.number,sl af ng ch,sl ai nj ck]) h_ z z (J.blk:Blk wl we.z [vI 0,sN,sN]) z z z z) ?_;rintro _ _ ⟨ho,sm⟩;have h4:=sm.one;refine Ra z<|Rw z<|Wq<|Wm z<|R z (not_ z)<|Wx z (λH=>?_) (λH=>?_)
 .refine Ws<|Rw z ?_
  obtain rfl:=som<|ifT I H;exact Wr<|e_ hr z ⟨bM (bup (bup G s1) h3) h4<|m1<|lt_ G.s s1.s,z,ii z⟩
 refine Wk<|Ws<|Rf z V_ z<|R z (l0 a_9 z<|ho.at z) ?_
 have L:=(h2.e h3).c h4<|ds<|mnr<|a_.lt h2
 refine R z (lnR a_i z<|or_ L<|a_.lt h2)<|Rw z ?_
 obtain rfl:=som<|ifF I H;exact Wr<|e_ hr z ⟨bM (bup (bup G s1) h3) h4<|m1<|lt_ G.s s1.s,z,b_0<|repS.len<|or_ L<|a_.lt h2⟩
def m_F (w0:World)(B:Zone)(r:Bool)(v:Value)(w':World):Prop:=Bw w0 w'/\(λG=>(vB G)=v) r
theorem q_M {x1:Bt}{res:Bool}(hm:g_G n x1=some res)(L:B<=w0.z)(hG:Gl w0 B)(bw:repS w0 B (sl A0 N0 C0) x1):l_ prog 3 [sl A0 N0 C0] w0 (m_F w0 B res):=by
 unfold g_G at hm
 refine goG func3 z z z λfn hr=>Ws<|Rw z<|Wq<|Wm z ?_
 obtain ⟨_,ee,bx⟩:=bdS hm;refine E z (fc call4 z<|W_w2b (B:=B) ee L bw) ?_;rintro _ _ ⟨sj,rfl⟩;refine Wx z (λb1=>?_) (λb1=>?_)
 .refine Ws<|Rw z ?_
  obtain rfl:=som<|ifT bx b1;exact Wr<|e_ hr z ⟨sj,z⟩
 refine Wk<|Wm z ?_
 obtain ⟨_,_,_,eg,dA⟩:=w_<|ifF bx b1;refine E z (fc call5 z<|W_w2v eg (zt' L sj.s)<|bw.e sj) ?_;rintro _ we ⟨sq,au,nv,cw,_,an,ao,ap,_,aq,ar,av,_,rfl,h6,hh,hf,_,_⟩;refine Rm z ?_
 iterate 3 refine Re z z z ?_
 refine E z (fa g_T) ?_;rintro _ eh ⟨rfl,bL⟩;have hg:=bL.below;have hx:Blk eh we.z [sN]:=bL.blk;refine E0 (fs0 (cur':=[sl au nv cw]) r_ z z hx z z z z) ?_;rintro _ _ ⟨aw,ei⟩;have I:=ei.one;refine Ra z<|Rw z<|Ws<|R z (lN (vs:=[sl au nv cw]) t_ r_ z z fid<|aw.row 0 1 z)<|Rm z ?_
 have hy:=(h6.e hg).c I<|ds<|mnr<|a_.lt h6
 have a3:=(hh.e hg).c I<|ds<|mnr<|a_.lt hh
 have b3:=lt_ hg.s I.s;obtain ⟨bN,_,_,ej,dB⟩:=w_ dA;refine E z (fc call6 z<|W_w1l (B:=we.z) ej (a_0 b3) (or_ hy<|a_.lt h6)<|or_ a3<|a_.lt hh) ?_;rintro _ wn ⟨s3,bO,bP,bQ,_,bR,bS,bT,_,rfl,bU,a4,a5,_,_,_,_⟩;refine Rm z ?_
 iterate 3 refine Re z z z ?_
 refine E z (fa a_4) ?_;rintro _ ek ⟨rfl,bV⟩;have h2:=bV.below;have bW:Blk ek wn.z [vI 0,sN,sN]:=bV.blk;refine E0 (fs0 (cur':=[vI bN.number,sl bO bP bQ,sl bR bS bT]) h_ z z bW z z z z) ?_;rintro _ ax ⟨em,en⟩;have G:=en.one;refine Ra z<|Rw z<|Wq<|Ws<|Rw z ?_
 obtain ⟨_,dC,bz⟩:=bdS dB;refine Wf (σ:=Unit) (ρ:=Bool) (λ(a6:Nat)(_:Unit) a w=>Sat 125 [(3,pt we.z),(4,sl an ao ap),(5,sl aq ar av),(6,pt wn.z),(9,vI ((a6:Nat):Int))] a/\Below ax.z ax w) (λ(_:Unit) a w=>Sat 125 [] a/\Below ax.z ax w) (rQ prog fn<|m_F w0 B) dC ?_ ?_ ?_ ?_ ?_
 .exact λ_ q=>⟨q.k<|s5 z z z z z,br ax⟩
 .rintro a6 _ _ aH _ bA ⟨dD,s1⟩ dF;refine Wu ?_ dD;refine Wq<|Wm z<|Rm z ?_
  have J:=lt_ b3 s3.s;have ay:=(((((hf.e hg).c I<|ds<|mnr<|a_.lt hf).e s3).e h2).c G<|ds<|mno (a_.lt hf) J).e s1;refine R z (lnR e_k z<|or_ ay<|a_.lt hf)<|Rl z z z<|Wx z (λ_=>?_) (λhc=>(a_6 bA hc).elim)
  refine Wk<|Wq<|Wb<|Wq ?_
  obtain ⟨eo,dG,dH⟩:=bdS dF;refine Wt (λa w=>∃(W:Str)(Y:Int)(a0:Int)(a1:Int)(a7:Bool),(W,Y,a0,a1,a7)=eo/\∃(a8:Nat),Sat 125 [(3,pt we.z),(4,sl an ao ap),(5,sl aq ar av),(6,pt wn.z),(9,vI ((a6:Nat):Int)),(10,pt a8),(11,vB a7)] a/\Below aH.z aH w/\W.b.length<=LEN/\inI Y/\inI a0/\inI a1/\Blk w a8 [Str.v W,vI Y,vI a0,vI a1]/\aH.z<=a8) ?_ ?_
  .refine Wd (X:=λk=>k∈([]:List Nat)∨aH.z<=k) 0 (.rd 0<|.rd 1<|.rd 2<|.rd 3<|.rd 4<|.rd 5<|.rd 6<|.br 7 (.rd 8<|.rd 9<|.rd 10<|.ef 11<|.ef 12<|.rd 13 .done) 11<|.ef 7<|.rd 8<|.rd 9<|.rd 10<|.ef 12<|.rd 13 .done) mo (by kernel_rfl) λbX so _=>?_
   have bY:=lt_ I.s s3.s;refine dR z z (lN (vs:=[sl au nv cw]) t_ r_ z z (a_t nm0<|Nat.lt_of_lt_of_le hx.lt<|lt_ (lt_ (lt_ bY h2.s) G.s) s1.s)<|(((((aw.e s3).e h2).c G<|djs<|mm1 hx.lt bY).e s1).e so).row 0 1 z) ?_
   iterate 3 refine dM z z z ?_
   obtain ⟨_,ep,bB⟩:=bdS dG;refine dRX z z (at_ (α:=y_) e_k b_A z z z (or_ (ay.e so)<|a_.lt hf) ep) ?_;rintro _ ⟨_,_,_,rfl,eq,er,es⟩;obtain ⟨rfl,bZ,_,_,_⟩:=f_m er;refine dR z z (fd g_S z) ?_;have b4:=lt_ (lt_ (lt_ J h2.s) G.s) s1.s;refine dR z z (l1 g_9 z (a_t nm0<|zap (a_0 b4) es)<|eq.at (j:=0) z)<|d_D ?_ ?_
   .obtain ⟨rz,eu,ew,dI⟩:=a_r bB;refine dE z z (fc call7 z<|k_F (B:=we.z) ew (a_0<|lt_ b4 so.s) (or_ (((((hy.e s3).e h2).c G<|ds<|mno (a_.lt h6) J).e s1).e so)<|a_.lt h6) (or_ (((((a3.e s3).e h2).c G<|ds<|mno (a_.lt hh) J).e s1).e so)<|a_.lt hh) bZ) (.inr λ_ _ h=>p_<|h.1) ?_;rintro _ c0 ⟨c1,rfl,ex,ey,ez,eA⟩;refine dM z z z<|dR z z (ext_ z z)<|dR z z (ext_ z z)<|dE z z (fa i_S) (.inr λ_ _ h=>p_<|h.2.below) ?_
    rintro _ eB ⟨rfl,c2⟩;have b5:=m1<|lt_ so.s c1.s
    refine dE0 z (fs0 (cur':=[Str.v rz.path,vI rz.rule,vI rz.start,vI rz.end_]) b_A z z (c2.blk:Blk eB c0.z [(Str.v (⟨[]⟩:Str)),vI 0,vI 0,vI 0]) z z z z) (.inr λ_ _ h=>c_d (atp b5) h.2) ?_;rintro _ _ ⟨eC,eD⟩;exact dQ z z z<|pD (λ_ q=>⟨rz.path,rz.rule,rz.start,rz.end_,eu,som dI,c0.z,q.k<|s7 z z z z z z z,bM (bup (bup so c1) c2.below) eD.one b5,ex,ey,ez,eA,eC,atp b5⟩)
   refine dE z z (fa i_S) (.inr λ_ _ h=>p_<|h.2.below) ?_;rintro _ eE ⟨rfl,c3⟩;have aI:=c3.below;obtain ⟨O,eF,eG,dJ⟩:=a_r bB;refine dE z z (fc call7 z<|k_F (B:=we.z) eG (a_0<|lt_ (lt_ b4 so.s) aI.s) (or_ ((((((hy.e s3).e h2).c G<|ds<|mno (a_.lt h6) J).e s1).e so).e aI)<|a_.lt h6) (or_ ((((((a3.e s3).e h2).c G<|ds<|mno (a_.lt hh) J).e s1).e so).e aI)<|a_.lt hh) bZ) (.inr λ_ _ h=>p_<|h.1) ?_;rintro _ _ ⟨c4,rfl,eH,eI,eJ,eK⟩;refine dM z z z<|dR z z (ext_ z z)<|dR z z (ext_ z z) ?_
   have b6:=m1 so.s;refine dE0 z (fs0 (cur':=[Str.v O.path,vI O.rule,vI O.start,vI O.end_]) b_A z z ((c3.blk:Blk eE bX.z [(Str.v (⟨[]⟩:Str)),vI 0,vI 0,vI 0]).e c4) z z z z) (.inr λ_ _ h=>c_d (atp b6) h.2) ?_;rintro _ _ ⟨eL,eM⟩;exact dQ z z z<|pD (λ_ q=>⟨O.path,O.rule,O.start,O.end_,eF,som dJ,bX.z,q.k<|s7 z z z z z z z,bM (bup (bup so aI) c4) eM.one b6,eH,eI,eJ,eK,eL,atp b6⟩)
  rintro eN a9 ⟨W,Y,a0,a1,a7,rfl,a8,_,s4,_,_,_,_,eO,_⟩;revert eN;refine Wo<|Wq ?_
  obtain ⟨eP,dK,dL⟩:=bdS<|c_E dH;refine Wt (λa w=>∃(aa:Int)(aJ:Bt)(aK:List Val)(az:Bool),(aa,aJ,aK,az)=eP/\∃aL aM aN ab aO aP aQ ad a2,Sat 125 [(3,pt we.z),(4,sl an ao ap),(5,sl aq ar av),(6,pt wn.z),(9,vI ((a6:Nat):Int)),(10,pt a8),(11,vB a7),(12,pt a2),(13,vB az)] a/\Below a9.z a9 w/\inI aa/\a_ w ab (sl aL aM aN) aJ/\ab.Nodup/\(∀k∈ab,a9.z<=k)/\a_ w ad (sl aO aP aQ) aK/\ad.Nodup/\(∀k∈ad,a9.z<=k)/\(∀k∈ad,k∉ab)/\Blk w a2 [vI aa,sl aL aM aN,sl aO aP aQ]/\a9.z<=a2/\(∀k∈ab,k∉[a2])/\(∀k∈ad,k∉[a2])) ?_ ?_
  .refine Wd (X:=λk=>k∈([]:List Nat)∨a9.z<=k) 0 (.rd 0<|.rd 1<|.rd 2<|.rd 3<|.rd 4<|.rd 5<|.rd 6<|.br 7 (.rd 8<|.rd 9<|.rd 10<|.ef 11<|.ef 12<|.rd 13 .done) 11<|.ef 7<|.rd 8<|.rd 9<|.rd 10<|.ef 12<|.rd 13 .done) mo (by kernel_rfl) λc5 sd _=>?_
   have c6:=lt_ I.s s3.s;refine dR z z (lN (vs:=[sl au nv cw]) t_ r_ z z (a_t nm0<|Nat.lt_of_lt_of_le hx.lt<|lt_ (lt_ (lt_ (lt_ c6 h2.s) G.s) s1.s) s4.s)<|((((((aw.e s3).e h2).c G<|djs<|mm1 hx.lt c6).e s1).e s4).e sd).row 0 1 z) ?_
   iterate 3 refine dM z z z ?_
   obtain ⟨_,eQ,bC⟩:=bdS dK;refine dRX z z (at_ (α:=y_) e_k b_A z z z (or_ ((ay.e s4).e sd)<|a_.lt hf) eQ) ?_;rintro _ ⟨_,_,_,rfl,eR,eS,eT⟩;obtain ⟨rfl,c7,_,_,_⟩:=f_m eS;refine dR z z (fd g_S z) ?_;have b7:=lt_ (lt_ (lt_ (lt_ J h2.s) G.s) s1.s) s4.s;refine dR z z (l1 g_9 z (a_t nm0<|zap (a_0 b7) eT)<|eR.at (j:=0) z)<|d_D ?_ ?_
   .have c8:=lt_ sj.s sq.s;have c9:=zt' L c8;obtain ⟨aR,eU,eV,dN⟩:=a_r bC;refine dE z z (fc call8 z<|W_w23 (B:=we.z) eV (a_0<|lt_ b7 sd.s) (((((((((((hG.e sj).e sq).e hg).c I<|b_ (or0 (c_ lr) (k_ c9):∀k∈[we.z],¬B k)).e s3).e h2).c G<|b_ (or0 (c_ lr) (k_<|zt' L<|lt_ (lt_ (lt_ c8 hg.s) I.s) s3.s):∀k∈[wn.z],¬B k)).e s1).e s4).e sd).mono c9) (or_ ((((((hy.e s3).e h2).c G<|ds<|mno (a_.lt h6) J).e s1).e s4).e sd)<|a_.lt h6) (or_ ((((((a3.e s3).e h2).c G<|ds<|mno (a_.lt hh) J).e s1).e s4).e sd)<|a_.lt hh) c7) (.inr λ_ _ h=>p_<|h.1) ?_;rintro _ ca ⟨cb,cc,cd,ce,eW,cf,cg,ch,eX,rfl,eY,ci,cj,b8,ck⟩;refine dM z z z<|dR z z (ext_ z z)<|dR z z (ext_ z z)<|dE z z (fa a_4) (.inr λ_ _ h=>p_<|h.2.below) ?_
    rintro _ eZ ⟨rfl,cl⟩;have b9:=cl.below;have ba:=m1<|lt_ sd.s cb.s
    refine dE0 z (fs0 (cur':=[vI aR.number,sl cc cd ce,sl cf cg ch]) h_ z z (cl.blk:Blk eZ ca.z [vI 0,sN,sN]) z z z z) (.inr λ_ _ h=>c_d (atp ba) h.2) ?_;rintro _ _ ⟨f0,f1⟩;have bb:=f1.one;refine dQ z z z<|pD ?_
    have cm:=mnr<|a_.lt ci
    have cn:=mnr<|a_.lt cj
    exact λ_ q=>⟨aR.number,aR.bytes,aR.items,eU,som dN,cc,cd,ce,eW,cf,cg,ch,eX,ca.z,q.k<|s9 z z z z z z z z z,bM (bup (bup sd cb) b9) bb ba,eY,(ci.e b9).c bb<|ds cm,nl_ b8,m_ (al_ ck) sd.s,(cj.e b9).c bb<|ds cn,nr_ b8,m_ (ar_ ck) sd.s,ds<|nj b8,f0,atp ba,ds cm,ds cn⟩
   refine dE z z (fa a_4) (.inr λ_ _ h=>p_<|h.2.below) ?_;rintro _ f2 ⟨rfl,co⟩;have ae:=co.below;have bc:Blk f2 c5.z [vI 0,sN,sN]:=co.blk;have cp:=lt_ sj.s sq.s;have cq:=zt' L cp;obtain ⟨aS,f3,f4,dO⟩:=a_r bC;refine dE z z (fc call8 z<|W_w23 (B:=we.z) f4 (a_0<|lt_ (lt_ b7 sd.s) ae.s) ((((((((((((hG.e sj).e sq).e hg).c I<|b_ (or0 (c_ lr) (k_ cq):∀k∈[we.z],¬B k)).e s3).e h2).c G<|b_ (or0 (c_ lr) (k_<|zt' L<|lt_ (lt_ (lt_ cp hg.s) I.s) s3.s):∀k∈[wn.z],¬B k)).e s1).e s4).e sd).e ae).mono cq) (or_ (((((((hy.e s3).e h2).c G<|ds<|mno (a_.lt h6) J).e s1).e s4).e sd).e ae)<|a_.lt h6) (or_ (((((((a3.e s3).e h2).c G<|ds<|mno (a_.lt hh) J).e s1).e s4).e sd).e ae)<|a_.lt hh) c7) (.inr λ_ _ h=>p_<|h.1) ?_;rintro _ _ ⟨cr,ct,cu,cv,f5,cx,cy,cz,f6,rfl,f7,f8,f9,be,aT⟩;refine dM z z z<|dR z z (ext_ z z)<|dR z z (ext_ z z) ?_
   have bf:=m1 sd.s;refine dE0 z (fs0 (cur':=[vI aS.number,sl ct cu cv,sl cx cy cz]) h_ z z (bc.e cr) z z z z) (.inr λ_ _ h=>c_d (atp bf) h.2) ?_;rintro _ _ ⟨fb,fe⟩;have bg:=fe.one;refine dQ z z z<|pD ?_
   have cA:=j_ (al_ aT) bc.lt lr;have cB:=lt_ sd.s ae.s;have cC:=j_ (ar_ aT) bc.lt lr;exact λ_ q=>⟨aS.number,aS.bytes,aS.items,f3,som dO,ct,cu,cv,f5,cx,cy,cz,f6,c5.z,q.k<|s9 z z z z z z z z z,bM (bup (bup sd ae) cr) bg bf,f7,f8.c bg cA,nl_ be,m_ (al_ aT) cB,f9.c bg cC,nr_ be,m_ (ar_ aT) cB,ds<|nj be,fb,atp bf,cA,cC⟩
  rintro ff af ⟨aa,aJ,aK,az,rfl,aL,aM,aN,ab,aO,aP,aQ,ad,a2,_,s8,fg,cD,_,_,cE,_,_,_,fh,_,_,_⟩;revert ff;refine Wo<|Wq ?_
  obtain ⟨fi,dP,dS⟩:=bdS<|c_u dL;refine Wt (λa w=>∃(V:Int)(aA:Bt)(ah:List Val)(aU:Int)(aV:Bool),(V,aA,ah,aU,aV)=fi/\∃aB aC aD ai aE aF aG aj ak,Sat 125 [(3,pt we.z),(4,sl an ao ap),(5,sl aq ar av),(6,pt wn.z),(9,vI ((a6:Nat):Int)),(10,pt a8),(11,vB a7),(12,pt a2),(13,vB az),(14,pt ak),(15,vI aU),(16,vB aV)] a/\Below af.z af w/\inI V/\a_ w ai (sl aB aC aD) aA/\ai.Nodup/\(∀k∈ai,af.z<=k)/\a_ w aj (sl aE aF aG) ah/\aj.Nodup/\(∀k∈aj,af.z<=k)/\(∀k∈aj,k∉ai)/\inI aU/\Blk w ak [vI V,sl aB aC aD,sl aE aF aG]/\af.z<=ak/\(∀k∈ai,k∉[ak])/\(∀k∈aj,k∉[ak])) ?_ ?_
  .refine Wd (X:=λk=>k∈([]:List Nat)∨af.z<=k) 0 (.rd 0<|.rd 1<|.rd 2<|.rd 3<|.rd 4<|.rd 5<|.rd 6<|.br 7 (.rd 8<|.rd 9<|.rd 10<|.rd 11<|.ef 12<|.ef 13<|.rd 14<|.rd 15 .done) 12<|.ef 7<|.rd 8<|.rd 9<|.rd 10<|.rd 11<|.ef 13<|.rd 14<|.rd 15 .done) mo (by kernel_rfl) λcF sb _=>?_
   have cG:=lt_ I.s s3.s;refine dR z z (lN (vs:=[sl au nv cw]) t_ r_ z z (a_t nm0<|Nat.lt_of_lt_of_le hx.lt<|lt_ (lt_ (lt_ (lt_ (lt_ cG h2.s) G.s) s1.s) s4.s) s8.s)<|(((((((aw.e s3).e h2).c G<|djs<|mm1 hx.lt cG).e s1).e s4).e s8).e sb).row 0 1 z)<|dR z z (lN (vs:=[vI bN.number,sl bO bP bQ,sl bR bS bT]) q_ h_ z z (a_t nm0<|Nat.lt_of_lt_of_le bW.lt<|lt_ (lt_ (lt_ G.s s1.s) s4.s) s8.s)<|((((em.e s1).e s4).e s8).e sb).row 0 3 z)<|dM z z z<|dM z z z ?_
   obtain ⟨_,fj,bD⟩:=bdS dP;refine dRX z z (at_ (α:=y_) e_k b_A z z z (or_ (((ay.e s4).e s8).e sb)<|a_.lt hf) fj) ?_;rintro _ ⟨_,_,_,rfl,fk,fl,fm⟩;obtain ⟨rfl,cH,_,_,_⟩:=f_m fl;refine dR z z (fd g_S z)<|dR z z (l1 g_9 z (a_t nm0<|zap (a_0<|lt_ (lt_ (lt_ (lt_ (lt_ J h2.s) G.s) s1.s) s4.s) s8.s) fm)<|fk.at (j:=0) z)<|d_D ?_ ?_
   .obtain ⟨aW,fo,fp,fq,dT⟩:=w_ bD;refine dE z z (fc call9 z<|W_w24 (B:=wn.z) fq (a_0<|lt_ (lt_ (lt_ (lt_ (lt_ h2.s G.s) s1.s) s4.s) s8.s) sb.s) (repS.mono (or_ (((((((hy.e s3).e h2).c G<|ds<|mno (a_.lt h6) J).e s1).e s4).e s8).e sb)<|a_.lt h6)<|a_0 J) bU (or_ ((((((a4.e h2).c G<|ds<|mnr<|a_.lt a4).e s1).e s4).e s8).e sb)<|a_.lt a4) (or_ ((((((a5.e h2).c G<|ds<|mnr<|a_.lt a5).e s1).e s4).e s8).e sb)<|a_.lt a5) cH) (.inr λ_ _ h=>p_<|h.1) ?_;rintro _ cI ⟨cJ,cK,cL,cM,fr,cN,cO,cP,fs,rfl,ft,cQ,cR,fu,bh,cS⟩;refine dM z z z ?_
    iterate 3 refine dR z z (ext_ z z) ?_
    refine dE z z (fa a_4) (.inr λ_ _ h=>p_<|h.2.below) ?_;rintro _ fv ⟨rfl,cT⟩;have bi:=cT.below;have bj:=m1<|lt_ sb.s cJ.s
    refine dE0 z (fs0 (cur':=[vI aW.number,sl cK cL cM,sl cN cO cP]) h_ z z (cT.blk:Blk fv cI.z [vI 0,sN,sN]) z z z z) (.inr λ_ _ h=>c_d (atp bj) h.2) ?_;rintro _ _ ⟨fw,fx⟩;have bk:=fx.one;refine dQ z z z<|dQ z z z<|pD ?_
    have cU:=mnr<|a_.lt cQ
    have cV:=mnr<|a_.lt cR
    exact λ_ q=>⟨aW.number,aW.bytes,aW.items,fo,fp,som dT,cK,cL,cM,fr,cN,cO,cP,fs,cI.z,q.k<|sc z<|sc z<|sc z<|sc z<|sc z<|sc z<|sc z<|sc z<|sc z<|sc z<|sc z<|sc z sn,bM (bup (bup sb cJ) bi) bk bj,ft,(cQ.e bi).c bk<|ds cU,nl_ bh,m_ (al_ cS) sb.s,(cR.e bi).c bk<|ds cV,nr_ bh,m_ (ar_ cS) sb.s,ds<|nj bh,fu,fw,atp bj,ds cU,ds cV⟩
   refine dE z z (fa a_4) (.inr λ_ _ h=>p_<|h.2.below) ?_;rintro _ fy ⟨rfl,cW⟩;have al:=cW.below;have bm:Blk fy cF.z [vI 0,sN,sN]:=cW.blk;obtain ⟨aX,fz,fA,fB,dU⟩:=w_ bD;refine dE z z (fc call9 z<|W_w24 (B:=wn.z) fB (a_0<|lt_ (lt_ (lt_ (lt_ (lt_ (lt_ h2.s G.s) s1.s) s4.s) s8.s) sb.s) al.s) (repS.mono (or_ ((((((((hy.e s3).e h2).c G<|ds<|mno (a_.lt h6) J).e s1).e s4).e s8).e sb).e al)<|a_.lt h6)<|a_0 J) bU (or_ (((((((a4.e h2).c G<|ds<|mnr<|a_.lt a4).e s1).e s4).e s8).e sb).e al)<|a_.lt a4) (or_ (((((((a5.e h2).c G<|ds<|mnr<|a_.lt a5).e s1).e s4).e s8).e sb).e al)<|a_.lt a5) cH) (.inr λ_ _ h=>p_<|h.1) ?_;rintro _ _ ⟨cX,cY,cZ,d0,fC,d1,d2,d3,fD,rfl,fE,fF,fG,fH,bn,aY⟩;refine dM z z z ?_
   iterate 3 refine dR z z (ext_ z z) ?_
   have bo:=m1 sb.s;refine dE0 z (fs0 (cur':=[vI aX.number,sl cY cZ d0,sl d1 d2 d3]) h_ z z (bm.e cX) z z z z) (.inr λ_ _ h=>c_d (atp bo) h.2) ?_;rintro _ _ ⟨fI,fJ⟩;have bp:=fJ.one;refine dQ z z z<|dQ z z z<|pD ?_
   have d4:=j_ (al_ aY) bm.lt lr;have d5:=lt_ sb.s al.s;have d6:=j_ (ar_ aY) bm.lt lr;exact λ_ q=>⟨aX.number,aX.bytes,aX.items,fz,fA,som dU,cY,cZ,d0,fC,d1,d2,d3,fD,cF.z,q.k<|sc z<|sc z<|sc z<|sc z<|sc z<|sc z<|sc z<|sc z<|sc z<|sc z<|sc z<|sc z sn,bM (bup (bup sb al) cX) bp bo,fE,fF.c bp d4,nl_ bn,m_ (al_ aY) d5,fG.c bp d6,nr_ bn,m_ (ar_ aY) d5,ds<|nj bn,fH,fI,atp bo,d4,d6⟩
  rintro fK aZ ⟨V,aA,ah,aU,aV,rfl,aB,aC,aD,ai,aE,aF,aG,aj,ak,_,si,d7,bq,_,_,b0,_,_,_,fL,fM,_,_,_⟩;revert fK;refine Wo<|Wq ?_
  obtain ⟨fN,bE,bF⟩:=bdS<|c_E dS;refine Wt (λa w=>∃(bt:Bool),bt=fN/\Sat 125 [(3,pt we.z),(4,sl an ao ap),(5,sl aq ar av),(6,pt wn.z),(9,vI ((a6:Nat):Int)),(124,vB bt)] a/\Below aZ.z aZ w) ?_ ?_
  .refine Wd (X:=noX) 0 (.rd 0<|.rd 1<|.rd 2<|.rd 3<|.rd 4<|.rd 5<|.rd 6<|.rd 7<|.rd 8<|.rd 9<|.rd 10<|.rd 11<|.rd 12<|.rd 13<|.rd 14<|.rd 15<|.rd 16<|.rd 17<|.rd 18<|.rd 19<|.rd 20<|.ef 21<|.rd 22<|.rd 23<|.rd 24<|.rd 25<|.rd 26<|.rd 27<|.rd 28<|.rd 29<|.rd 30<|.rd 31<|.rd 33<|.rd 34<|.rd 35<|.ef 32<|.ef 36<|.rd 37<|.rd 38<|.rd 39<|.rd 40<|.rd 41<|.rd 42<|.rd 43<|.rd 44<|.rd 45<|.rd 46<|.rd 48<|.rd 49<|.rd 50<|.ef 47<|.rd 51<|.rd 52 .done) mo (by kernel_rfl) λfS sa _=>dM z z z<|dR z z (not_ z)<|dM z z z ?_
   rcases bs (!a7) with hcs | hcs
   .refine dRn z z z hcs z<|dRn z z z hcs z<|dR z z (pT z hcs z)<|dM z z z<|dRn z z z z z<|dRn z z z z z<|dR z z (pT z z z)<|dM z z z ?_
    iterate 6 refine dRn z z z z z ?_
    refine dR z z (pT z z z)<|dM z z z<|dRn z z z z z<|dRn z z z z z<|dEn z z z z z<|dRn z z z z z<|dR z z (pT z z z)<|dM z z z ?_
    iterate 10 refine dRn z z z z z ?_
    refine dEn z z z z z<|dEn z z z z z<|dRn z z z z z<|dR z z (pT z z z)<|dM z z z ?_
    iterate 10 refine dRn z z z z z ?_
    exact dEn z z z z z<|dRn z z z z z<|dR z z (pT z z z)<|pD (λ_ q=>⟨true,som<|ifT bE hcs,q.k<|s6 z z z z z z,sa⟩)
   have bG:=ifF bE hcs;refine dRg z z z hcs z (mv z)<|dRg z z z hcs z (not_ z)<|dR z z (pF z hcs z)<|dM z z z ?_
   rcases bs (!az) with hct | hct
   .refine dRn z z z hct z<|dRn z z z hct z<|dR z z (pT z hct z)<|dM z z z ?_
    iterate 6 refine dRn z z z z z ?_
    refine dR z z (pT z z z)<|dM z z z<|dRn z z z z z<|dRn z z z z z<|dEn z z z z z<|dRn z z z z z<|dR z z (pT z z z)<|dM z z z ?_
    iterate 10 refine dRn z z z z z ?_
    refine dEn z z z z z<|dEn z z z z z<|dRn z z z z z<|dR z z (pT z z z)<|dM z z z ?_
    iterate 10 refine dRn z z z z z ?_
    exact dEn z z z z z<|dRn z z z z z<|dR z z (pT z z z)<|pD (λ_ q=>⟨true,som<|ifT bG hct,q.k<|s6 z z z z z z,sa⟩)
   have bH:=ifF bG hct;refine dRg z z z hct z (mv z)<|dRg z z z hct z (not_ z)<|dR z z (pF z hct z)<|dM z z z ?_
   rcases bs (!aV) with hcl | hcl
   .iterate 6 refine dRn z z z hcl z ?_
    refine dR z z (pT z hcl z)<|dM z z z<|dRn z z z z z<|dRn z z z z z<|dEn z z z z z<|dRn z z z z z<|dR z z (pT z z z)<|dM z z z ?_
    iterate 10 refine dRn z z z z z ?_
    refine dEn z z z z z<|dEn z z z z z<|dRn z z z z z<|dR z z (pT z z z)<|dM z z z ?_
    iterate 10 refine dRn z z z z z ?_
    exact dEn z z z z z<|dRn z z z z z<|dR z z (pT z z z)<|pD (λ_ q=>⟨true,som<|ifT bH hcl,q.k<|s6 z z z z z z,sa⟩)
   refine dRg z z z hcl z (lN (vs:=[Str.v W,vI Y,vI a0,vI a1]) f_x b_A z z fid<|(((eO.e s8).e si).e sa).row 0 4 z)<|dRg z z z hcl z (mv z)<|dRg z z z hcl z (mv z) ?_
   obtain ⟨am,fO,bI⟩:=bdS<|ifF bH hcl;have d8:=(((ay.e s4).e s8).e si).e sa;refine b_L z z z hcl z (at_ (α:=y_) e_k b_A z z z (or_ d8<|a_.lt hf) fO) ?_;rintro _ ⟨_,_,_,rfl,fP,fQ,_⟩;obtain ⟨rfl,_,_,_,_⟩:=f_m fQ;refine dRg z z z hcl z (lN (vs:=[Str.v am.path,vI am.rule,vI am.start,vI am.end_]) f_x b_A z z fid fP)<|dRg z z z hcl z (p_8 (a:=((⟨W,Y,a0,a1⟩:y_):y_)) (b:=(am:y_)) eqa_36 z z)<|dR z z (pF z hcl z)<|dM z z z ?_
   rcases bs (!decide (((⟨W,Y,a0,a1⟩:y_):y_)=(am:y_))) with hck | hck
   .refine dRn z z z hck z<|dRn z z z hck z<|dEn z z z hck z<|dRn z z z hck z<|dR z z (pT z hck z)<|dM z z z ?_
    iterate 10 refine dRn z z z z z ?_
    refine dEn z z z z z<|dEn z z z z z<|dRn z z z z z<|dR z z (pT z z z)<|dM z z z ?_
    iterate 10 refine dRn z z z z z ?_
    exact dEn z z z z z<|dRn z z z z z<|dR z z (pT z z z)<|pD (λ_ q=>⟨true,som<|ifT bI hck,q.k<|s6 z z z z z z,sa⟩)
   refine dRg z z z hck z (lN (vs:=[vI aa,sl aL aM aN,sl aO aP aQ]) q_ h_ z z fid<|((fh.e si).e sa).row 0 3 z) ?_;have d9:=fM.e sa;refine dRg z z z hck z (lN (vs:=[vI V,sl aB aC aD,sl aE aF aG]) q_ h_ z z fid<|d9.row 0 3 z) ?_;have da:=bq.e sa;have db:=b0.e sa;obtain ⟨fR,dV,bJ⟩:=bdS<|ifF bI hck;refine dEg z z z hck z (fc call10 z<|W_w0l.run (B:=aZ.z) (x1:=(⟨aa,aJ,aK⟩:Val)) (x2:=(⟨V,aA,ah⟩:Val)) dV (a_0 sa.s) fg (repS.mono (or_ ((cD.e si).e sa)<|a_.lt cD)<|a_0 si.s) (repS.mono (or_ ((cE.e si).e sa)<|a_.lt cE)<|a_0 si.s) d7 (or_ da<|a_.lt bq)<|or_ db<|a_.lt b0) (.inr λ_ _ h=>p_<|h.1) ?_;rintro _ _ ⟨sm,rfl⟩;refine dRg z z z hck z (not_ z)<|dR z z (pF z hck z)<|dM z z z ?_
   rcases bs (!fR) with H | H
   .iterate 10 refine dRn z z z H z ?_
    refine dEn z z z H z<|dEn z z z H z<|dRn z z z H z<|dR z z (pT z H z)<|dM z z z ?_
    iterate 10 refine dRn z z z z z ?_
    exact dEn z z z z z<|dRn z z z z z<|dR z z (pT z z z)<|pD (λ_ q=>⟨true,som<|ifT bJ H,q.k<|s6 z z z z z z,bup sa sm⟩)
   have bu:=((((((((aw.e s3).e h2).c G<|djs<|mm1 hx.lt<|lt_ I.s s3.s).e s1).e s4).e s8).e si).e sa).e sm;refine dRg z z z H z (lN (vs:=[sl au nv cw]) t_ r_ z z fid<|bu.row 0 1 z) ?_
   iterate 3 refine dRg z z z H z (mv z) ?_
   obtain ⟨_,dW,dr⟩:=bdS<|ifF bJ H;have dc:=d8.e sm;refine b_L z z z H z (at_ (α:=y_) e_k b_A z z z (or_ dc<|a_.lt hf) dW) ?_;rintro _ ⟨_,_,_,rfl,dX,dY,_⟩;obtain ⟨rfl,dZ,_,_,_⟩:=f_m dY;refine dRg z z z H z (fd g_S z)<|dRg z z z H z (l0 g_9 z<|dX.at (j:=0) z)<|dRg z z z H z (lN (vs:=[sl au nv cw]) t_ r_ z z fid<|bu.row 0 1 z)<|dRg z z z H z (mv z) ?_
   have dd:=d9.e sm;refine dRg z z z H z (lN (vs:=[vI V,sl aB aC aD,sl aE aF aG]) q_ h_ z z fid<|dd.row 0 3 z) ?_;have de:=((((((((hy.e s3).e h2).c G<|ds<|mno (a_.lt h6) J).e s1).e s4).e s8).e si).e sa).e sm;have df:=((((((((a3.e s3).e h2).c G<|ds<|mno (a_.lt hh) J).e s1).e s4).e s8).e si).e sa).e sm;have dg:=lt_ sj.s sq.s;have bv:=zt' L dg;have dh:=((((((((((((hG.e sj).e sq).e hg).c I<|b_ (or0 (c_ lr) (k_ bv):∀k∈[we.z],¬B k)).e s3).e h2).c G<|b_ (or0 (c_ lr) (k_<|zt' L<|lt_ (lt_ (lt_ dg hg.s) I.s) s3.s):∀k∈[wn.z],¬B k)).e s1).e s4).e s8).e si).e sa).e sm;have di:=lt_ (lt_ (lt_ (lt_ (lt_ (lt_ J h2.s) G.s) s1.s) s4.s) s8.s) si.s;have dj:=lt_ (lt_ di sa.s) sm.s;obtain ⟨e0,e1,dt⟩:=bdS dr;refine dEg z z z H z (fc call11 z<|W_w3t (B:=we.z) e1 (a_0 dj) (dh.mono bv) (or_ de<|a_.lt h6) (or_ df<|a_.lt hh) dZ) (.inr λ_ _ h=>p_<|h.1) ?_;rintro _ _ ⟨sp,rfl,_⟩;have dk:=de.e sp;have dl:=(db.e sm).e sp;obtain ⟨e2,e3,bK⟩:=bdS dt;refine dEg z z z H z (fc call12 z<|W_w3w (B:=aZ.z) (x3:=(⟨V,aA,ah⟩:Val)) e3 (a_0<|lt_ (lt_ sa.s sm.s) sp.s) (repS.mono (or_ dk<|a_.lt h6)<|a_0 di) fL d7 (or_ ((da.e sm).e sp)<|a_.lt bq)<|or_ dl<|a_.lt b0) (.inr λ_ _ h=>p_<|h.1) ?_;rintro _ _ ⟨sr,rfl,_⟩;refine dRg z z z H z (j_d z z)<|dR z z (pF z H z)<|dM z z z ?_
   rcases bs (e0.b != e2.b) with hcc | hcc
   .iterate 10 refine dRn z z z hcc z ?_
    exact dEn z z z hcc z<|dRn z z z hcc z<|dR z z (pT z hcc z)<|pD (λ_ q=>⟨true,som<|ifT bK hcc,q.k<|s6 z z z z z z,bup (bup (bup sa sm) sp) sr⟩)
   refine dRg z z z hcc z (lN (vs:=[sl au nv cw]) t_ r_ z z fid<|((bu.e sp).e sr).row 0 1 z) ?_
   iterate 3 refine dRg z z z hcc z (mv z) ?_
   obtain ⟨_,e4,du⟩:=bdS<|ifF bK hcc;refine b_L z z z hcc z (at_ (α:=y_) e_k b_A z z z (or_ ((dc.e sp).e sr)<|a_.lt hf) e4) ?_;rintro _ ⟨_,_,_,rfl,e5,e6,_⟩;obtain ⟨rfl,e7,_,_,_⟩:=f_m e6;refine dRg z z z hcc z (fd g_S z)<|dRg z z z hcc z (l0 g_9 z<|e5.at (j:=0) z)<|dRg z z z hcc z (fd V_ z)<|dRg z z z hcc z (l0 a_9 z<|((dd.e sp).e sr).at z)<|dRg z z z hcc z (lnR a_i z<|or_ (dl.e sr)<|a_.lt b0) ?_
   obtain ⟨e8,e9,dv⟩:=bdS du;refine dEg z z z hcc z (fc call13 z<|W_w3x (B:=we.z) e9 (a_0<|lt_ (lt_ dj sp.s) sr.s) (((dh.e sp).e sr).mono bv) (or_ (dk.e sr)<|a_.lt h6) (or_ ((df.e sp).e sr)<|a_.lt hh) e7) (.inr λ_ _ h=>p_<|h.1) ?_;rintro _ _ ⟨ea,rfl,_⟩;exact dRg z z z hcc z (nq z z)<|dR z z (pF z hcc z)<|pD (λ_ q=>⟨e8 != (ah.length:Int),som dv,q.k<|s6 z z z z z z,bup (bup (bup (bup sa sm) sp) sr) ea⟩)
  rintro eb _ ⟨bt,rfl,_,dm⟩;revert eb;refine Wo<|Wc z (λb2=>?_) (λb2=>?_)
  .refine Ws<|Rw z ?_
   have dn:=lt_ sj.s sq.s;exact Wr<|rtO<|qL (som<|ifT bF b2).symm<|e_ hr z ⟨bup (bup (bup (bup (bup (bM (bup (bup (bM (bup (bup sj sq) hg) I<|m1 dn) s3) h2) G<|m1<|lt_ (lt_ (lt_ dn hg.s) I.s) s3.s) s1) s4) s8) si) dm,z⟩
  exact Wk<|Wg<|Rm z<|R z (inc_ bA (lt_ (a_.len hf) M_) z z)<|Ra z<|Wl (λ_ q=>⟨(),(som<|ifF bF b2).symm,⟨q.k<|s5 z z z z z,bup (bup (bup (bup s1 s4) s8) si) dm⟩⟩)
 .rintro _ _ _ ⟨dw,dp⟩;refine Wu ?_ dw;refine Wq<|Wm z<|Rm z<|R z (lnR e_k z<|or_ ((((((hf.e hg).c I<|ds<|mnr<|a_.lt hf).e s3).e h2).c G<|ds<|mno (a_.lt hf)<|lt_ b3 s3.s).e dp)<|a_.lt hf)<|Rl z z z<|Wx z (λhc=>(a_7 hc).elim) (λ_=>?_)
  exact We<|λ_ q=>⟨rfl,⟨q.k sn,dp⟩⟩
 .rintro _ ec _ rfl ⟨_,ed⟩;have dx:=elL bz;revert ec;refine Wo<|Ws<|Rw z ?_
  obtain rfl:=som dx;have dq:=lt_ sj.s sq.s;exact Wr<|e_ hr z ⟨bup (bM (bup (bup (bM (bup (bup sj sq) hg) I<|m1 dq) s3) h2) G<|m1<|lt_ (lt_ (lt_ dq hg.s) I.s) s3.s) ed,z⟩
 rintro _ _ _ _ rfl ⟨rfl,dy⟩;have dz:=elR bz;obtain rfl:=som dz;exact ⟨dy,z⟩
end Go.Vw
