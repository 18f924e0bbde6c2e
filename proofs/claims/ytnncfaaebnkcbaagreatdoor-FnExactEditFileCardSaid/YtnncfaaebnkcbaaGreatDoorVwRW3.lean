
import Derived.Test.YtnncfaaebnkcbaaGreatDoorVwRW2
set_option linter.unusedVariables false
namespace Go.Vw
open Go.RowKit Dat Go.Proofs
open Go.Proofs.Tryz
open Go.Vw renaming O_->Wq,a_b->Wg,WC.of_KC->Wo,a_0->Wl,b_F->Wc,b_E->Wr,f_q->Wu,g_8->pT,g_a->pF,g_t->fd,c_c->l1,b_5->lN,a_c->mv,a_y->asg,g_b->lnR,d_Z->lss,i_c->eql,d_6->ext_,j_n->bP,i_b->add_,g_7->inc_,d_7->not_,g_c->at_,b_e->fc,a_X->fs,c_v->fb,d_p->fa,j_g->sr,j_k->cr,j_l->cM,d_O->bM,j_9->iS,j_8->iA,j_b->br,b_3->oA,h_U->bs,ltge->lg,inor->io,i_d->nq,j_y->lnT,j_z->sb_,j_e->ar_,j_d->al_,j_f->ds,l_0->m1,j_i->nr_,j_h->nl_,h_V->aa_,all_nil->an_,d_H->Wb,h_R->u8,e_r->pD,g_1->We,h_Q->Wt,h_M->fS,f_Z->or_,i_8->Wf,h_Y->qL,f_g->Wd,j_o->fN,h_W->na_,j_j->nj,g_d->f0,j_m->rX,j_p->tl_,j_q->ic
variable {A0:Option Addr}{N0 C0:Nat}{B:Zone}{w0:World}{AD:Option Addr}{AC:Option Addr}{AE:Option Addr}{AF:Option Addr}{ND CD:Nat}{NC CC:Nat}{NE CE:Nat}{NF CF:Nat}{n:Nat}{A2:Option Addr}{A3:Option Addr}{A1:Option Addr}{A4:Option Addr}{N2 C2:Nat}{N3 C3:Nat}{N1 C1:Nat}{N4 C4:Nat}{A9:Option Addr}{N9 C9:Nat}{A8:Option Addr}{N8 C8:Nat}{A6:Option Addr}{A7:Option Addr}{N6 C6:Nat}{N7 C7:Nat}{AA:Option Addr}{AB:Option Addr}{NA CA:Nat}{NB CB:Nat}{AH:Option Addr}{AI:Option Addr}{NH CH:Nat}{NI CI:Nat}{A5:Option Addr}{N5 C5:Nat}{AG:Option Addr}{NG CG:Nat}
theorem W_w3d {x2:Int}{x3:List Int}{res:Int}(hm:j_0 x2 x3=some res)(W:B<=w0.z)(V:inI x2)(H:repS w0 B (sl A9 N9 C9) x3):k_ prog 149 [(.func (.func 150) #[] #[]),vI x2,sl A9 N9 C9] w0 (Q0 w0 B res):=by
 unfold j_0 at hm
 refine goG func149 z z z fun fn hr=>Ws<|Rw z<|Wq<|Wm z<|R z (lnR x_ z H)<|Rm z<|Wn ?_
 obtain ⟨_,hub,J⟩:=bdS hm;refine Wf (σ:=Int) (ρ:=Int) (fun (k3:Nat)(x0:Int) a w=>Sat 22 [(0,.func (.func 150) #[] #[]),(1,vI x0),(9,sl A9 N9 C9),(10,vI (x3.length:Int)),(11,vI ((k3:Nat):Int))] a/\Below w0.z w0 w/\inI x0) (fun (x0:Int) a w=>Sat 22 [(1,vI x0)] a/\Below w0.z w0 w/\inI x0) (rQ prog fn<|Q0 w0 B) hub ?_ ?_ ?_ ?_ ?_
 ·exact fun _ q=>⟨q.k<|s5 z z z z z,br w0,V⟩
 ·rintro k3 x0 _ _ _ L ⟨hSc,s6,h1⟩ hmd;refine Wu ?_ hSc;refine Ws<|Rl z z z<|Wn<|Wq<|Wc z (fun _=>?_) (fun hc=>(U_ L hc).elim)
  refine Wk<|Wq<|Wb<|Ws ?_
  obtain ⟨xe,ef,hmg⟩:=bdS hmd;refine RX z (at_ (α:=Int) x_ z_3 z z z (H.e s6) ef) ?_;rintro _ ⟨_,_,_,rfl,hh,hi,_⟩;obtain ⟨rfl,O⟩:=a_1 hi;refine R z (l0 g_3 z<|hh.at0 z)<|Rw z<|Wm z<|RM z z ?_
  obtain ⟨_,ej,hmk⟩:=bdS hmg;refine E z (d_L call150 z z<|W_w3c ej (zt' W s6.s) O h1) ?_;rintro _ G ⟨sm,rfl⟩;refine Wn ?_;obtain ⟨ul,hua,hmn⟩:=bdS hmk;refine Wt (fun a w=>∃(x4:Int),x4=ul/\Sat 22 [(0,.func (.func 150) #[] #[]),(1,vI x4),(9,sl A9 N9 C9),(10,vI (x3.length:Int)),(11,vI ((k3:Nat):Int))] a/\Below G.z G w/\inI x4) ?_ ?_
  ·refine Wc z (fun I=>?_)<|fun I=>?_
   ·exact Wg<|Rm z<|Ra z<|Wl (fun _ q=>⟨xe,som<|ifT hua I,q.k<|s5 z z z z z,br G,O⟩)
   exact a_h<|fun _ q=>⟨x0,som<|ifF hua I,q.k<|s5 z z z z z,br G,h1⟩
  rintro ao _ ⟨x4,rfl,_,sp,hq⟩;revert ao;exact Wo<|Wg<|R z (inc_ L (lt_ (repS.len H) D_) z z)<|Rm z<|Wl (fun _ q=>⟨x4,(som hmn).symm,⟨q.k<|s5 z z z z z,bup (bup s6 sm) sp,hq⟩⟩)
 ·rintro x0 _ _ ⟨hSr,ss,h1⟩;refine Wu ?_ hSr;refine Ws<|Rl z z z<|Wn<|Wq<|Wc z (fun hc=>(V_ hc).elim) (fun _=>?_)
  exact We<|fun _ q=>⟨rfl,⟨q.k<|s1 z,ss,h1⟩⟩
 ·rintro x0 au _ rfl ⟨_,st,h1⟩;have hmv:=elL J;revert au;refine Wo<|Wm z<|Rw z ?_
  obtain rfl:=som hmv;exact Wr<|d_ hr z ⟨st,z,h1⟩
 rintro _ _ _ _ rfl ⟨rfl,hqw⟩;have hmx:=elR J;obtain rfl:=som hmx;exact ⟨hqw,z⟩
theorem W_w1w {x1:Int}{x2:Int}{res:Int}(hm:f_Y x1 x2=some res)(V:B<=w0.z)(I:inI x1)(J:inI x2):k_ prog 141 [vI x1,vI x2] w0 (Q0 w0 B res):=by
 unfold f_Y at hm
 refine goG func141 z z z fun fn hr=>Ws<|Rw z<|Wm z<|Rm z<|E z (fS [(.tmp 6)] k_b z z z (a_Q z) (lb z)<|lb z) ?_
 rintro _ H ⟨rfl,G⟩;have h6:Blk H w0.z [vI x2]:=G.blk;obtain ⟨_,O,L⟩:=bdS hm;refine E z (fc call149 z<|W_w3d (B:=H.z) O zr I<|a_.rep<|b_a G<|d_N J) ?_;rintro _ _ ⟨s4,rfl,h5⟩;refine Rw z ?_
 obtain rfl:=som L;exact Wr<|d_ hr z ⟨bup G.below s4,z,h5⟩
theorem W_w3e {x1:f_}{x2:Int}{x3:Val}{b3 o3:Nat}{res:Bool}(hm:h_I x1 x2 x3=some res)(a0:B<=w0.z)(a5:repS w0 B (sl A0 N0 C0) x1.rules)(aW:inI x2)(aX:inI x3.number)(ap:repS w0 B (sl A6 N6 C6) x3.bytes)(a7:repS w0 B (sl A7 N7 C7) x3.items)(hC3:I_ w0 b3 o3 [vI x3.number,sl A6 N6 C6,sl A7 N7 C7])(hC3b:B b3):k_ prog 113 [(.agg #[sl A0 N0 C0]),vI x2,(.pointer<|some ⟨b3,o3,none⟩)] w0 (Q9 w0 B res):=by
 unfold h_I at hm
 refine goG func113 z z z fun fn hr=>Ws<|E z (fb z) ?_
 rintro _ G ⟨rfl,aK⟩;have H:=aK.below;have hh:Blk G w0.z [sl A0 N0 C0]:=aK.blk;refine Rw z<|Ws<|Rf z a_d z<|R z (l0 a_g z<|hh.at z)<|Rm z ?_
 obtain ⟨xc,bt,aY⟩:=bdS hm;have aL:=a5.e H;refine RX z (at_ (α:=b_) P_ r_ z z z aL bt) ?_;rintro _ ⟨W,Y,_,rfl,hb,bu,_⟩;obtain ⟨_,_,_,_,_,_,_,_,_,_,_,_,rfl,_,_,bv,_,_,_,hi⟩:=a_A bu;refine Rw z<|Ws<|RA z z<|Rw z<|Wq<|Wm z<|R z (N_ z)<|Rf z a_x z<|R z (l0 g_3 z<|hb.at (j:=1) z)<|Wn<|Wb<|Ws<|Rq z z z<|Rw z ?_
 obtain ⟨bw,aq,ar⟩:=bdS aY;refine Wt (fun a w=>∃(xj:Int)(xd:Int)(xa:Int),Sum.inl (xj,xd,xa)=bw/\Sat 136 [(2,.pointer<|some ⟨b3,o3,none⟩),(7,.pointer<|some ⟨W,Y,none⟩),(8,vI xj),(9,vI xd),(10,vI xa)] a/\Below G.z G w/\inI xj/\inI xd/\inI xa) ?_ ?_
 ·refine Wc z (fun a8=>?_)<|fun a8=>?_
  ·refine Wg<|R z (lN (vs:=[sl A0 N0 C0]) v_ u_ z z fid<|hh.row 0 1 z)<|Rm z ?_
   obtain ⟨bx,bz,aZ⟩:=bdS<|ifT aq a8;refine E z (fc call140 z<|f_1 bz (zt' a0 H.s) aL aW) ?_;rintro _ _ ⟨bA,rfl,bB⟩;exact Ra z<|Wl (fun _ q=>⟨bx,0,0,som aZ,q.k<|s5 z z z z z,bA,bB,ii z,ii z⟩)
  refine Ws<|Rq z z z<|Rw z ?_
  obtain ⟨bC,au,av⟩:=bdS<|ifF aq a8;refine Wt (fun a w=>∃(xk:Int)(xl:Int)(xm:Int),Sum.inl (xk,xl,xm)=bC/\Sat 136 [(2,.pointer<|some ⟨b3,o3,none⟩),(7,.pointer<|some ⟨W,Y,none⟩),(8,vI xk),(9,vI xl),(10,vI xm)] a/\Below G.z G w/\inI xk/\inI xl/\inI xm) ?_ ?_
  ·refine Wc z (fun a9=>?_)<|fun a9=>?_
   ·have aw:=ifT au a9;refine Wq<|Wq (Wd (X:=noX) 0 (pl_ 10 []) mo (by kernel_rfl) fun cS sn _=>dM z z z<|dR z z (N_ z)<|dR z z (fd a_E z)<|dR z z (l0 F_ z<|((hC3.e H).e sn).at (j:=1) z)<|dR z z (lnR p_ z<|ap.g<|(H.ag B).e sn)<|dM z z z<|dR z z (N_ z)<|dR z z (fd a_F z) ?_)
    have aM:=hb.e sn;refine dR z z (l0 g_3 z<|aM.at (j:=2) z)<|dR z z (nq z z)<|pD<|Wo<|Wc z (fun aa=>?_) (fun aa=>?_)
    ·refine Ws<|Rw z ?_
     obtain rfl:=som<|ifT aw aa;have b0:=elR av;obtain rfl:=som b0;have b4:=elR ar;obtain rfl:=som b4;exact Wr<|rtO<|d_ hr z ⟨bup H sn,z⟩
    exact Wk<|Wg<|Rm z<|R z (N_ z)<|Rf z a_F z<|R z (l0 g_3 z<|aM.at (j:=2) z)<|Ra z<|Wl (fun _ q=>⟨0,xc.size,0,som<|ifF aw aa,q.k<|s5 z z z z z,sn,ii z,bv,ii z⟩)
   refine Ws<|Rq z z z<|Rw z ?_
   obtain ⟨bD,ax,b5⟩:=bdS<|ifF au a9;refine Wt (fun a w=>∃(xo:Int)(xp:Int)(xq:Int),(xo,xp,xq)=bD/\Sat 136 [(2,.pointer<|some ⟨b3,o3,none⟩),(7,.pointer<|some ⟨W,Y,none⟩),(8,vI xo),(9,vI xp),(10,vI xq)] a/\Below G.z G w/\inI xo/\inI xp/\inI xq) ?_ ?_
   ·refine Wc z (fun ab=>?_)<|fun ab=>?_
    ·refine Wd (X:=noX) 0 (pl_ 10 [7,8]) mo (by kernel_rfl) fun cT se _=>dR z z (lN (vs:=[sl A0 N0 C0]) v_ u_ z z fid<|(hh.e se).row 0 1 z)<|dM z z z<|dR z z (N_ z)<|dR z z (fd T_ z)<|dR z z (l0 B_ z<|(hb.e se).at (j:=7) z) ?_
     obtain ⟨_,bE,b6⟩:=bdS<|ifT ax ab;refine dRX z z (at_ (α:=Int) x_ z_3 z z z (hi.e se) bE) ?_;rintro _ ⟨_,_,_,rfl,bF,bG,_⟩;obtain ⟨rfl,bH⟩:=a_1 bG;refine dR z z (l0 g_3 z<|bF.at0 z) ?_;have aN:=lt_ H.s se.s;obtain ⟨_,bI,b7⟩:=bdS b6;refine dE z z (fc call140 z<|f_1 bI (zt' a0 aN) (a5.g<|(H.ag B).e se) bH) (.inr fun _ _ h=>o_<|h.1) ?_;rintro _ _ ⟨aO,rfl,bJ⟩;obtain ⟨bK,bL,b9⟩:=bdS b7;refine dE z z (fc call141 z<|W_w1w bL (zt' a0<|lt_ aN aO.s) (ii z) bJ) (.inr fun _ _ h=>o_<|h.1) ?_;rintro _ _ ⟨bM,rfl,bN⟩;exact dQ z z z<|pD (fun _ q=>⟨0,bK,0,som b9,q.k<|s5 z z z z z,bup (bup se aO) bM,ii z,bN,ii z⟩)
    refine Ws<|Rq z z z<|Rw z ?_
    obtain ⟨bO,ay,ba⟩:=bdS<|ifF ax ab;refine Wt (fun a w=>∃(xr:Int)(xs:Int)(xt:Int),(xr,xs,xt)=bO/\Sat 136 [(2,.pointer<|some ⟨b3,o3,none⟩),(7,.pointer<|some ⟨W,Y,none⟩),(8,vI xr),(9,vI xs),(10,vI xt)] a/\Below G.z G w/\inI xr/\inI xs/\inI xt) ?_ ?_
    ·refine Wc z (fun ad=>?_)<|fun ad=>?_
     ·exact Wg<|Ra z<|Wl (fun _ q=>⟨0,400,0,som<|ifT ay ad,q.k<|s5 z z z z z,br G,ii z,ii z,ii z⟩)
     refine Ws<|Rq z z z<|Rw z ?_
     obtain ⟨bP,az,bb⟩:=bdS<|ifF ay ad;refine Wt (fun a w=>∃(xu:Int)(xv:Int),(xu,xv)=bP/\Sat 136 [(2,.pointer<|some ⟨b3,o3,none⟩),(7,.pointer<|some ⟨W,Y,none⟩),(8,vI xu),(9,vI 0),(10,vI xv)] a/\Below G.z G w/\inI xu/\inI xv) ?_ ?_
     ·refine Wc z (fun ae=>?_)<|fun ae=>?_
      ·refine Wd (X:=noX) 0 (pl_ 10 [7,8]) mo (by kernel_rfl) fun cU sf _=>dR z z (lN (vs:=[sl A0 N0 C0]) v_ u_ z z fid<|(hh.e sf).row 0 1 z)<|dM z z z<|dR z z (N_ z)<|dR z z (fd T_ z)<|dR z z (l0 B_ z<|(hb.e sf).at (j:=7) z) ?_
       obtain ⟨_,bQ,bc⟩:=bdS<|ifT az ae;refine dRX z z (at_ (α:=Int) x_ z_3 z z z (hi.e sf) bQ) ?_;rintro _ ⟨_,_,_,rfl,bR,bS,_⟩;obtain ⟨rfl,bT⟩:=a_1 bS;refine dR z z (l0 g_3 z<|bR.at0 z) ?_;have aP:=lt_ H.s sf.s;obtain ⟨_,bU,be⟩:=bdS bc;refine dE z z (fc call140 z<|f_1 bU (zt' a0 aP) (a5.g<|(H.ag B).e sf) bT) (.inr fun _ _ h=>o_<|h.1) ?_;rintro _ _ ⟨aQ,rfl,bV⟩;obtain ⟨bW,bX,bf⟩:=bdS be;refine dE z z (fc call141 z<|W_w1w bX (zt' a0<|lt_ aP aQ.s) (ii z) bV) (.inr fun _ _ h=>o_<|h.1) ?_;rintro _ _ ⟨bY,rfl,bZ⟩;exact dQ z z z<|pD (fun _ q=>⟨0,bW,som bf,q.k<|s5 z z z z z,bup (bup sf aQ) bY,ii z,bZ⟩)
      refine Ws<|Rq z z z<|Rw z ?_
      obtain ⟨c0,aA,bg⟩:=bdS<|ifF az ae;refine Wt (fun a w=>∃(xw:Int)(xx:Int),(xw,xx)=c0/\Sat 136 [(2,.pointer<|some ⟨b3,o3,none⟩),(7,.pointer<|some ⟨W,Y,none⟩),(8,vI xw),(9,vI 0),(10,vI xx)] a/\Below G.z G w/\inI xw/\inI xx) ?_ ?_
      ·refine Wc z (fun af=>?_)<|fun af=>?_
       ·exact Wg<|Rm z<|R z (N_ z)<|Rf z T_ z<|R z (l0 B_ z<|hb.at (j:=7) z)<|R z (lnR x_ z hi)<|Ra z<|Wl (fun _ q=>⟨0,(xc.kids.length:Int),som<|ifT aA af,q.k<|s5 z z z z z,br G,ii z,b_f<|repS.len hi⟩)
       refine Ws<|Rq z z z<|Rw z ?_
       obtain ⟨c1,aB,bh⟩:=bdS<|ifF aA af;refine Wt (fun a w=>∃(xy:Int)(xz:Int),(xy,xz)=c1/\Sat 136 [(2,.pointer<|some ⟨b3,o3,none⟩),(7,.pointer<|some ⟨W,Y,none⟩),(8,vI xy),(9,vI 0),(10,vI xz)] a/\Below G.z G w/\inI xy/\inI xz) ?_ ?_
       ·refine Wc z (fun ah=>?_)<|fun ah=>?_
        ·refine Wd (X:=noX) 0 (pl_ 10 [7]) mo (by kernel_rfl) fun cV sg _=>dR z z (lN (vs:=[sl A0 N0 C0]) v_ u_ z z fid<|(hh.e sg).row 0 1 z)<|dM z z z<|dR z z (N_ z)<|dR z z (fd T_ z)<|dR z z (l0 B_ z<|(hb.e sg).at (j:=7) z) ?_
         obtain ⟨_,c2,bi⟩:=bdS<|ifT aB ah;refine dRX z z (at_ (α:=Int) x_ z_3 z z z (hi.e sg) c2) ?_;rintro _ ⟨_,_,_,rfl,c3,c4,_⟩;obtain ⟨rfl,c5⟩:=a_1 c4;refine dR z z (l0 g_3 z<|c3.at0 z) ?_;obtain ⟨c6,c7,bj⟩:=bdS bi;refine dE z z (fc call140 z<|f_1 c7 (zt' a0<|lt_ H.s sg.s) (a5.g<|(H.ag B).e sg) c5) (.inr fun _ _ h=>o_<|h.1) ?_;rintro _ _ ⟨c8,rfl,c9⟩;exact dQ z z z<|dQ z z z<|pD (fun _ q=>⟨c6,1,som bj,q.k<|s5 z z z z z,bup sg c8,c9,ii z⟩)
        refine Wq<|Ws<|Rq z z z<|Rw z ?_
        obtain ⟨ca,aC,bk⟩:=bdS<|ifF aB ah;refine Wt (fun a w=>∃(al:Bool),al=ca/\Sat 136 [(2,.pointer<|some ⟨b3,o3,none⟩),(7,.pointer<|some ⟨W,Y,none⟩),(8,vI 0),(9,vI 0),(10,vI 0),(81,vB al)] a/\Below G.z G w) ?_ ?_
        ·refine Wc z (fun ai=>?_)<|fun ai=>?_
         ·exact a_h<|fun _ q=>⟨xc.kind==8,som<|ifT aC ai,q.k<|s6 z z z z z z,br G⟩
         exact Wg<|Rq z z z<|Ra z<|Wl (fun _ q=>⟨xc.kind==9,som<|ifF aC ai,q.k<|s6 z z z z z z,br G⟩)
        rintro cb a6 ⟨al,rfl,_,cc⟩;revert cb;refine Wo ?_;obtain ⟨cd,aD,bm⟩:=bdS bk;refine Wt (fun a w=>∃(a1:Int),a1=cd/\Sat 136 [(2,.pointer<|some ⟨b3,o3,none⟩),(7,.pointer<|some ⟨W,Y,none⟩),(8,vI 0),(9,vI 0),(10,vI a1)] a/\Below a6.z a6 w/\inI a1) ?_ ?_
        ·refine Wc z (fun aj=>?_)<|fun aj=>?_
         ·exact Wg<|Ra z<|Wl (fun _ q=>⟨1,som<|ifT aD aj,q.k<|s5 z z z z z,br a6,ii z⟩)
         exact a_h<|fun _ q=>⟨0,som<|ifF aD aj,q.k<|s5 z z z z z,br a6,ii z⟩
        rintro ce _ ⟨a1,rfl,_,cf,cg⟩;revert ce;exact fun _ q=>⟨0,a1,som bm,q.k<|s5 z z z z z,bup cc cf,ii z,cg⟩
       rintro ch _ ⟨xy,xz,rfl,_,ci,cj,ck⟩;revert ch;exact fun _ q=>⟨xy,xz,som<|a_P bh,q.k<|s5 z z z z z,ci,cj,ck⟩
      rintro cl _ ⟨xw,xx,rfl,_,cm,cn,co⟩;revert cl;exact fun _ q=>⟨xw,xx,som<|a_P bg,q.k<|s5 z z z z z,cm,cn,co⟩
     rintro cp _ ⟨xu,xv,rfl,_,cq,cr,ct⟩;revert cp;exact fun _ q=>⟨xu,0,xv,som<|a_P bb,q.k<|s5 z z z z z,cq,cr,ii z,ct⟩
    rintro cu _ ⟨xr,xs,xt,rfl,_,cv,cw,cx,cy⟩;revert cu;exact fun _ q=>⟨xr,xs,xt,som<|b_0 ba,q.k<|s5 z z z z z,cv,cw,cx,cy⟩
   rintro cz _ ⟨xo,xp,xq,rfl,_,cA,cB,cC,cD⟩;revert cz;exact fun _ q=>⟨xo,xp,xq,som<|b_0 b5,q.k<|s5 z z z z z,cA,cB,cC,cD⟩
  rintro cE _ ⟨xk,xl,xm,rfl,_,cF,cG,cH,cI⟩;have bn:=elL av;revert cE;exact fun _ q=>⟨xk,xl,xm,som<|b_0 bn,q.k<|s5 z z z z z,cF,cG,cH,cI⟩
 rintro cJ a2 ⟨xj,xd,xa,rfl,_,s7,cK,_,_⟩;have bo:=elL ar;revert cJ;refine Wo<|Wq<|Wq ?_
 obtain ⟨cL,aE,aF⟩:=bdS<|b_0 bo;refine Wt (fun a w=>∃(am:Bool),am=cL/\Sat 136 [(2,.pointer<|some ⟨b3,o3,none⟩),(8,vI xj),(9,vI xd),(10,vI xa),(111,vB am)] a/\Below a2.z a2 w) ?_ ?_
 ·refine Wg<|Rm z<|R z (N_ z)<|Rf z a_x z ?_
  have an:=hb.e s7;refine R z (l0 g_3 z<|an.at (j:=1) z)<|Rq z z z<|Rm z ?_
  rcases bs (xc.kind==6) with O | O
  ·iterate 5 refine Nh z O ?_
   exact R z (pT z O z)<|Rm z<|Nh z z<|Nh z z<|Nh z z<|Nh z z<|Nh z z<|R z (pT z z z)<|Rm z<|Rh z z (mv z)<|Rh z z (N_ z)<|Rh z z (fd Y_ z)<|Rh z z (l0 a_6 z<|((hC3.e H).e s7).at (j:=2) z)<|Rh z z (lnR Z_ z<|a7.g<|(H.ag B).e s7)<|Rh z z (mv z)<|Rh z z (nq z z)<|R z (pT z z z)<|Wl (fun _ q=>⟨(x3.items.length:Int) != xa,som<|ifT aE O,q.k<|s5 z z z z z,br a2⟩)
  refine Rh z O (mv z)<|Rh z O (N_ z)<|Rh z O (fd a_x z)<|Rh z O (l0 g_3 z<|an.at (j:=1) z)<|Rh z O (eql z z)<|R z (pF z O z)<|Rm z ?_
  obtain ⟨aR,aG,aH⟩:=bdS<|ifF aE O;refine c_V 102 aR 6 ?_ ?_
  ·rcases bs (xc.kind==7) with V | V
   ·iterate 5 refine Nh z V ?_
    exact R z (pT z V z)<|WLq 6 (ifT aG V) z z z
   exact Rh z V (mv z)<|Rh z V (N_ z)<|Rh z V (fd a_x z)<|Rh z V (l0 g_3 z<|an.at (j:=1) z)<|Rh z V (eql z z)<|R z (pF z V z)<|WLq 6 (ifF aG V) z z z
  refine Rm z ?_
  rcases bs aR with I | I
  ·exact Rh z I (mv z)<|Rh z I (N_ z)<|Rh z I (fd Y_ z)<|Rh z I (l0 a_6 z<|((hC3.e H).e s7).at (j:=2) z)<|Rh z I (lnR Z_ z<|a7.g<|(H.ag B).e s7)<|Rh z I (mv z)<|Rh z I (nq z z)<|R z (pT z I z)<|Wl (fun _ q=>⟨(x3.items.length:Int) != xa,som<|ifT aH I,q.k<|s5 z z z z z,br a2⟩)
  iterate 7 refine Nh z I ?_
  exact R z (pF z I z)<|Wl (fun _ q=>⟨false,som<|ifF aH I,q.k<|s5 z z z z z,br a2⟩)
 rintro cM aS ⟨am,rfl,_,a3⟩;revert cM;refine Wo<|Wc z (fun ak=>?_) (fun ak=>?_)
 ·refine Ws<|Rw z ?_
  obtain rfl:=som<|ifT aF ak;exact Wr<|d_ hr z ⟨bup (bup H s7) a3,z⟩
 refine Wk<|Wq ?_
 obtain ⟨cN,bp,bq⟩:=bdS<|ifF aF ak;refine Wt (fun a w=>∃(ao:Bool),ao=cN/\Sat 136 [(6,vB ao)] a/\Below aS.z aS w) ?_ ?_
 ·refine Wg<|Rm z<|R z (N_ z)<|Rf z a_M z ?_
  have aT:=((hC3.e H).e s7).e a3;refine R z (l0 g_3 z<|aT.at (j:=0) z)<|Rm z ?_
  obtain ⟨cO,cP,aI⟩:=bdS bp;refine E z (fc call127 z<|d_h cP (zt' a0<|lt_ (lt_ H.s s7.s) a3.s) aX (ii z) cK) ?_;rintro _ _ ⟨a4,rfl⟩;refine Rm z ?_
  rcases bs cO with J | J
  ·have aJ:=ifT aI J;refine Rh z J (mv z)<|Rh z J (N_ z)<|Rh z J (fd a_E z) ?_
   have aU:=aT.e a4;refine Rh z J (l0 F_ z<|aU.at (j:=1) z) ?_;have aV:=(((H.ag B).e s7).e a3).e a4;refine Rh z J (lnR p_ z<|ap.g aV)<|Rh z J (mv z)<|Rh z J (b_U z z)<|R z (pT z J z)<|Rm z ?_
   rcases bs (decide<|(x3.bytes.length:Int)<=xd) with L | L
   ·exact Rh z L (mv z)<|Rh z L (N_ z)<|Rh z L (fd Y_ z)<|Rh z L (l0 a_6 z<|aU.at (j:=2) z)<|Rh z L (lnR Z_ z<|a7.g aV)<|Rh z L (mv z)<|Rh z L (b_U z z)<|R z (pT z L z)<|Ra z<|Wl (fun _ q=>⟨decide<|(x3.items.length:Int)<=xa,som<|ifT aJ L,q.k<|s1 z,a4⟩)
   iterate 7 refine Nh z L ?_
   exact R z (pF z L z)<|Ra z<|Wl (fun _ q=>⟨false,som<|ifF aJ L,q.k<|s1 z,a4⟩)
  iterate 7 refine Nh z J ?_
  exact R z (pF z J z)<|Rm z<|Nh z z<|Nh z z<|Nh z z<|Nh z z<|Nh z z<|Nh z z<|Nh z z<|R z (pF z z z)<|Ra z<|Wl (fun _ q=>⟨false,som<|ifF aI J,q.k<|s1 z,a4⟩)
 rintro cQ _ ⟨ao,rfl,_,cR⟩;revert cQ;refine Wo ?_;obtain rfl:=som bq;exact Wr<|d_ hr z ⟨bup (bup (bup H s7) a3) cR,z⟩
theorem k_L {x1:f_}{x2:Int}{x3:Val}{b3 o3:Nat}{x4:Int}{res:Int}(hm:d_m x1 x2 x3 x4=some res)(aU:B<=w0.z)(O:repS w0 B (sl A0 N0 C0) x1.rules)(aP:inI x2)(aQ:inI x3.number)(aR:repS w0 B (sl A6 N6 C6) x3.bytes)(aS:repS w0 B (sl A7 N7 C7) x3.items)(hC3:I_ w0 b3 o3 [vI x3.number,sl A6 N6 C6,sl A7 N7 C7])(hC3b:B b3)(aT:inI x4):k_ prog 112 [(.agg #[sl A0 N0 C0]),vI x2,.pointer<|some ⟨b3,o3,none⟩,vI x4] w0 (Q0 w0 B res):=by
 unfold d_m at hm
 refine goG func112 z z z fun fn hr=>Ws<|E z (fb z) ?_
 rintro _ G ⟨rfl,hj⟩;have H:=hj.below;refine Rw z<|Ws<|Rf z a_d z<|R z (l0 a_g z<|(hj.blk:Blk G w0.z [sl A0 N0 C0]).at z)<|Rm z ?_
 obtain ⟨L,ew,hmk⟩:=bdS hm;refine RX z (at_ (α:=b_) P_ r_ z z z (O.e H) ew) ?_;rintro _ ⟨bl,om,_,rfl,h2,hx,_⟩;obtain ⟨_,_,_,_,_,_,ay,nz,ah,_,_,_,rfl,_,_,_,_,_,h5,h4⟩:=a_A hx;refine Rw z<|Wq<|Wm z<|R z (N_ z)<|Rf z a_x z<|R z (l0 g_3 z<|h2.at (j:=1) z)<|Wn<|Wb<|Ws<|Rq z z z<|Rw z<|Wc z (fun J=>?_) (fun J=>?_)
 ·refine Wm z<|R z (N_ z)<|Rf z T_ z<|R z (l0 B_ z<|h2.at (j:=7) z) ?_
  obtain ⟨_,ai,V⟩:=bdS<|ifT hmk J;refine RX z (at_ (α:=Int) x_ z_3 z z z h4 ai) ?_;rintro _ ⟨_,_,_,rfl,aj,ak,_⟩;obtain ⟨rfl,al⟩:=a_1 ak;refine R z (l0 g_3 z<|aj.at0 z)<|Rw z ?_
  obtain rfl:=som V;exact Wr<|rtO<|d_ hr z ⟨H,z,al⟩
 refine Ws<|Rq z z z<|Rw z ?_
 obtain ⟨am,hun,I⟩:=bdS<|ifF hmk J;refine Wt (fun a w=>Sum.inl ()=am/\Sat 80 [] a/\Below G.z G w) ?_ ?_
 ·refine Wc z (fun hca=>?_)<|fun hca=>?_
  ·have hmo:=ifT hun hca;refine Wm z<|Rm z<|R z (N_ z)<|Rf z T_ z<|R z (l0 B_ z<|h2.at (j:=7) z)<|R z (lnR x_ z h4)<|Rl z z z<|Wx z (fun hcb=>?_) (fun hcb=>?_)
   ·refine Wm z<|R z (N_ z)<|Rf z T_ z<|R z (l0 B_ z<|h2.at (j:=7) z)<|Rm z ?_
    obtain ⟨_,an,W⟩:=bdS<|ifT hmo hcb;refine RX z (at_ (α:=Int) x_ z_3 z z z h4 an) ?_;rintro _ ⟨_,_,_,rfl,ao,ap,_⟩;obtain ⟨rfl,aq⟩:=a_1 ap;refine R z (l0 g_3 z<|ao.at0 z)<|Rw z ?_
    obtain rfl:=som W;have Y:=elR I;obtain rfl:=som Y;exact Wr<|rtO<|d_ hr z ⟨H,z,aq⟩
   exact a_h<|fun _ q=>⟨som<|ifF hmo hcb,q.k sn,br G⟩
  refine Ws<|Rq z z z<|Rw z ?_
  obtain ⟨ar,hup,hmc⟩:=bdS<|ifF hun hca;refine Wt (fun a w=>Sum.inl ()=ar/\Sat 80 [] a/\Below G.z G w) ?_ ?_
  ·refine Wc z (fun hcd=>?_)<|fun hcd=>?_
   ·refine Wm z<|R z (N_ z)<|Rf z b_2 z<|R z (l0 B_ z<|h2.at (j:=6) z)<|R z (lnR x_ z h5)<|Rm z<|Wn ?_
    obtain ⟨_,a0,hmq⟩:=bdS<|ifT hup hcd;refine Wf (σ:=Unit) (ρ:=Int) (fun (kr:Nat)(_:Unit) a w=>Sat 80 [(2,.pointer<|some ⟨b3,o3,none⟩),(9,.pointer<|some ⟨bl,om,none⟩),(49,sl ay nz ah),(50,vI (L.tags.length:Int)),(51,vI ((kr:Nat):Int))] a/\Below G.z G w) (fun (_:Unit) a w=>Sat 80 [] a/\Below G.z G w) (rQ prog fn<|Q0 w0 B) a0 ?_ ?_ ?_ ?_ ?_
    ·exact fun _ q=>⟨q.k<|s5 z z z z z,br G⟩
    ·rintro kr _ _ _ _ hke ⟨a1,s3⟩ a2;refine Wu ?_ a1;refine Ws<|Rl z z z<|Wn<|Wq<|Wc z (fun _=>?_) (fun hc=>(U_ hke hc).elim)
     refine Wk<|Wq<|Wb<|Wm z ?_
     obtain ⟨_,au,hms⟩:=bdS a2;refine RX z (at_ (α:=Int) x_ z_3 z z z (h5.e s3) au) ?_;rintro _ ⟨_,_,_,rfl,av,aw,_⟩;obtain ⟨rfl,_⟩:=a_1 aw;refine R z (l0 g_3 z<|av.at0 z)<|Ra z<|Rw z<|Wm z<|Rm z<|R z (N_ z)<|Rf z a_M z<|R z (l0 g_3 z<|((hC3.e H).e s3).at (j:=0) z)<|Rq z z z<|Wx z (fun hcf=>?_) (fun hcf=>?_)
     ·refine Wm z<|R z (N_ z)<|Rf z T_ z<|R z (l0 B_ z<|(h2.e s3).at (j:=7) z)<|Rm z<|R z (inc_ hke (lt_ (repS.len h5) D_) z z) ?_
      obtain ⟨_,ax,a3⟩:=bdS<|ifT hms hcf;refine RX z (at_ (α:=Int) x_ z_3 z z z (h4.e s3) ax) ?_;rintro _ ⟨_,_,_,rfl,az,aA,_⟩;obtain ⟨rfl,aB⟩:=a_1 aA;exact R z (l0 g_3 z<|az.at0 z)<|Rw z<|Wr<|rtO<|qL (som a3).symm<|d_ hr z ⟨bup H s3,z,aB⟩
     exact Wk<|Wg<|R z (inc_ hke (lt_ (repS.len h5) D_) z z)<|Rm z<|Wl (fun _ q=>⟨(),(som<|ifF hms hcf).symm,⟨q.k<|s5 z z z z z,s3⟩⟩)
    ·rintro _ _ _ ⟨a4,aC⟩;refine Wu ?_ a4;refine Ws<|Rl z z z<|Wn<|Wq<|Wc z (fun hc=>(V_ hc).elim) (fun _=>?_)
     exact We<|fun _ q=>⟨rfl,⟨q.k sn,aC⟩⟩
    ·rintro _ aD _ rfl ⟨_,aE⟩;have a5:=elL hmq;revert aD;exact fun _ q=>⟨som a5,q.k sn,aE⟩
    rintro _ _ _ _ rfl ⟨rfl,a6⟩;have a7:=elR hmq;obtain rfl:=som a7;have a8:=elR hmc;obtain rfl:=som a8;have a9:=elR I;obtain rfl:=som a9;exact ⟨a6,z⟩
   refine Wq<|Ws<|Rq z z z<|Rw z ?_
   obtain ⟨aF,hut,hmu⟩:=bdS<|ifF hup hcd;refine Wt (fun a w=>∃(xg:Bool),xg=aF/\Sat 80 [(9,.pointer<|some ⟨bl,om,none⟩),(71,vB xg)] a/\Below G.z G w) ?_ ?_
   ·refine Wc z (fun hch=>?_)<|fun hch=>?_
    ·exact a_h<|fun _ q=>⟨L.kind==8,som<|ifT hut hch,q.k<|s2 z z,br G⟩
    exact Wg<|Rq z z z<|Ra z<|Wl (fun _ q=>⟨L.kind==9,som<|ifF hut hch,q.k<|s2 z z,br G⟩)
   rintro aG _ ⟨xg,rfl,_,s7⟩;revert aG;refine Wo<|Wc z (fun hci=>?_) (fun hci=>?_)
   ·refine Wm z<|R z (N_ z)<|Rf z T_ z<|R z (l0 B_ z<|(h2.e s7).at (j:=7) z) ?_
    obtain ⟨_,aH,aa⟩:=bdS<|ifT hmu hci;refine RX z (at_ (α:=Int) x_ z_3 z z z (h4.e s7) aH) ?_;rintro _ ⟨_,_,_,rfl,aI,aJ,_⟩;obtain ⟨rfl,aK⟩:=a_1 aJ;refine R z (l0 g_3 z<|aI.at0 z)<|Rw z ?_
    obtain rfl:=som aa;have ab:=elR hmc;obtain rfl:=som ab;have ad:=elR I;obtain rfl:=som ad;exact Wr<|rtO<|d_ hr z ⟨bup H s7,z,aK⟩
   exact a_h<|fun _ q=>⟨som<|ifF hmu hci,q.k sn,s7⟩
  rintro aL _ ⟨rfl,_,aM⟩;have ae:=elL hmc;revert aL;exact fun _ q=>⟨som ae,q.k sn,aM⟩
 rintro aN _ ⟨rfl,_,aO⟩;have af:=elL I;revert aN;refine Wo<|Ws<|Rw z ?_
 obtain rfl:=som af;exact Wr<|d_ hr z ⟨bup H aO,z,ii z⟩
structure k_M (f:f_->Int->Val->Option Bool):Prop where
  run:∀{A0 A6 A7:Option Addr}{N0 C0 N6 C6 N7 C7 b3 o3:Nat}{B:Zone}{x1:f_}{x2:Int}{x3:Val}{res:Bool}{w0:World}(hm:f x1 x2 x3=some res)(hBw:B<=w0.z)(p1_0:repS w0 B (sl A0 N0 C0) x1.rules)(p2_0:inI x2)(p3_0:inI x3.number)(p3_1:repS w0 B (sl A6 N6 C6) x3.bytes)(p3_2:repS w0 B (sl A7 N7 C7) x3.items)(hC3:I_ w0 b3 o3 [vI x3.number,sl A6 N6 C6,sl A7 N7 C7])(hC3b:B b3),k_ prog 72 [(.agg #[sl A0 N0 C0]),vI x2,(.pointer<|some ⟨b3,o3,none⟩)] w0<|Q9 w0 B res
abbrev n_f (n:Nat):Prop:=k_M (e_q n).impl_validValue
theorem T_w0k (a6:n_f n):k_M (h_J n<|e_q n):=by
 constructor
 intro A0 A6 A7 N0 C0 N6 C6 N7 C7 b3 o3 B x1 x2 x3 res w0 hm L J V W Y H hC3 hC3b;unfold h_J at hm
 refine goG func72 z z z fun fn hr=>Ws<|E z (fb z) ?_
 rintro _ ws ⟨rfl,hd⟩;have h1:=hd.below;have he:Blk ws w0.z [sl A0 N0 C0]:=hd.blk;refine Rw z<|Wq<|Ws<|R z (lN (vs:=[sl A0 N0 C0]) v_ u_ z z fid<|he.row 0 1 z)<|RM z z ?_
 have hf:=hC3.e h1;obtain ⟨_,et,hmg⟩:=bdS hm;refine E z (fc call113 z<|W_w3e et (zt' L h1.s) (J.e h1) V W (Y.e h1) (H.e h1) hf hC3b) ?_;rintro _ I ⟨s2,rfl⟩;refine R z (not_ z)<|Wx z (fun O=>?_) (fun O=>?_)
 ·refine Ws<|Rw z ?_
  obtain rfl:=som<|ifT hmg O;exact Wr<|d_ hr z ⟨bup h1 s2,z⟩
 refine Wk<|Wq<|Wm z<|R z (N_ z)<|Rf z Y_ z ?_
 have hh:=hf.e s2;refine R z (l0 a_6 z<|hh.at (j:=2) z) ?_;have hi:=(h1.ag B).e s2;refine R z (lnR Z_ z<|H.g hi)<|Rm z<|Wn ?_
 obtain ⟨_,huu,hmj⟩:=bdS<|ifF hmg O;refine Wf (σ:=Unit) (ρ:=Bool) (fun (k9:Nat)(_:Unit) a w=>Sat 42 [(1,vI x2),(2,.pointer<|some ⟨b3,o3,none⟩),(3,pt w0.z),(18,vI (x3.items.length:Int)),(19,vI ((k9:Nat):Int))] a/\Below I.z I w) (fun (_:Unit) a w=>Sat 42 [] a/\Below I.z I w) (rQ prog fn<|Q9 w0 B) huu ?_ ?_ ?_ ?_ ?_
 ·exact fun _ q=>⟨q.k<|s5 z z z z z,br I⟩
 ·rintro k9 _ _ _ _ hka ⟨hSv,s3⟩ hmw;refine Wu ?_ hSv;refine Ws<|Rl z z z<|Wn<|Wq<|Wc z (fun _=>?_) (fun hc=>(U_ hka hc).elim)
  refine Wk<|Wq<|Wb<|Wm z<|Rw z<|Ws ?_
  have hk:=(he.e s2).e s3;refine R z (lN (vs:=[sl A0 N0 C0]) v_ u_ z z fid<|hk.row 0 1 z)<|RM z z<|Rm z ?_
  have h6:=hi.e s3;have hl:=hh.e s3;have hn:=lt_ (lt_ h1.s s2.s) s3.s;obtain ⟨rx,ey,hmz⟩:=bdS hmw;refine E z (fc call112 z<|k_L ey (zt' L hn) (J.g h6) V W (Y.g h6) (H.g h6) hl hC3b<|ic (Nat.le_of_lt hka)<|lt_ (repS.len H) D_) ?_;rintro _ wm ⟨s4,rfl,a7⟩;refine Rw z<|Wq ?_
  obtain ⟨a8,huo,hmp⟩:=bdS hmz;refine Wt (fun a w=>∃(xb:Bool),xb=a8/\Sat 42 [(1,vI x2),(2,.pointer<|some ⟨b3,o3,none⟩),(3,pt w0.z),(18,vI (x3.items.length:Int)),(19,vI ((k9:Nat):Int)),(40,vB xb)] a/\Below wm.z wm w) ?_ ?_
  ·refine Wd (X:=noX) 0 (pl_ 14 [11]) mo (by kernel_rfl) fun ap s7 _=>dM z z z<|dR z z (lss z z)<|dM z z z ?_
   rcases bs (decide<|rx<0) with G | G
   ·iterate 8 refine dRn z z z G z ?_
    exact dEn z z z G z<|dRn z z z G z<|dR z z (pT z G z)<|pD (fun _ q=>⟨true,som<|ifT huo G,q.k<|s6 z z z z z z,s7⟩)
   refine dRg z z z G z (lN (vs:=[sl A0 N0 C0]) v_ u_ z z fid<|((hk.e s4).e s7).row 0 1 z)<|dRg z z z G z (mv z)<|dRg z z z G z (mv z)<|dRg z z z G z (N_ z)<|dRg z z z G z (fd Y_ z)<|dRg z z z G z (l0 a_6 z<|((hl.e s4).e s7).at (j:=2) z)<|dRg z z z G z (mv z) ?_
   obtain ⟨_,a9,a0⟩:=bdS<|ifF huo G;have hq:=(h6.e s4).e s7;refine c_l z z z G z (at_ (α:=Val) Z_ c_ z z z (H.g hq) a9) ?_;rintro _ ⟨_,_,_,rfl,aa,ab,ad⟩;obtain ⟨_,_,_,_,_,_,rfl,ae,af,ah⟩:=c_a ab;obtain ⟨ai,aj,a1⟩:=bdS a0;refine dEg z z z G z (fc call72 z<|a6.run aj (zt' L<|lt_ (lt_ hn s4.s) s7.s) (J.g hq) a7 ae af ah aa ad) (.inr fun _ _ h=>o_<|h.1) ?_;rintro _ _ ⟨ak,rfl⟩;exact dRg z z z G z (not_ z)<|dR z z (pF z G z)<|pD (fun _ q=>⟨!ai,som a1,q.k<|s6 z z z z z z,bup s7 ak⟩)
  rintro al _ ⟨xb,rfl,_,sr⟩;revert al;refine Wo<|Wc z (fun hcc=>?_) (fun hcc=>?_)
  ·exact Ws<|Rw z<|Wr<|rtO<|qL (som<|ifT hmp hcc).symm<|d_ hr z ⟨bup (bup (bup (bup h1 s2) s3) s4) sr,z⟩
  exact Wk<|Wg<|R z (inc_ hka (lt_ (repS.len H) D_) z z)<|Rm z<|Wl (fun _ q=>⟨(),(som<|ifF hmp hcc).symm,⟨q.k<|s5 z z z z z,bup (bup s3 s4) sr⟩⟩)
 ·rintro _ _ _ ⟨a2,am⟩;refine Wu ?_ a2;refine Ws<|Rl z z z<|Wn<|Wq<|Wc z (fun hc=>(V_ hc).elim) (fun _=>?_)
  exact We<|fun _ q=>⟨rfl,⟨q.k sn,am⟩⟩
 ·rintro _ an _ rfl ⟨_,ao⟩;have a3:=elL hmj;revert an;refine Wo<|Ws<|Rw z ?_
  obtain rfl:=som a3;exact Wr<|d_ hr z ⟨bup (bup h1 s2) ao,z⟩
 rintro _ _ _ _ rfl ⟨rfl,a4⟩;have a5:=elR hmj;obtain rfl:=som a5;exact ⟨a4,z⟩
theorem A_w0k:∀n,n_f n
  | 0=>⟨fun hm=>by intros;exact nomatch (show none=some _ from hm)⟩
  | n+1=>T_w0k<|A_w0k n
theorem W_w0k:k_M (e_q n).impl_validValue:=A_w0k n
theorem k_N {x1:f_}{x2:Int}{x3:Val}{res:Bool}(hm:d_n n x1 x2 x3=some res)(a1:B<=w0.z)(J:repS w0 B (sl A0 N0 C0) x1.rules)(L:inI x2)(W:inI x3.number)(Y:repS w0 B (sl A6 N6 C6) x3.bytes)(a0:repS w0 B (sl A7 N7 C7) x3.items):k_ prog 47 [(.agg #[sl A0 N0 C0]),vI x2,(.agg #[vI x3.number,sl A6 N6 C6,sl A7 N7 C7])] w0 (Q9 w0 B res):=by
 unfold d_n at hm
 refine goG func47 z z z fun fn hr=>Ws<|E z (fb z) ?_
 rintro _ O ⟨rfl,V⟩;have h5:=V.below;refine E z (fb z) ?_;rintro _ H ⟨rfl,ha⟩;have h3:=ha.below;have hb:Blk H O.z [vI x3.number,sl A6 N6 C6,sl A7 N7 C7]:=ha.blk;refine Rw z<|Wq ?_
 obtain ⟨ug,huh,hmi⟩:=bdS hm;refine Wt (fun a w=>∃(x6:Bool),x6=ug/\Sat 15 [(6,vB x6)] a/\Below H.z H w) ?_ ?_
 ·refine Wg ?_;have hc:=(V.blk:Blk O w0.z [sl A0 N0 C0]).e h3;refine R z (lN (vs:=[sl A0 N0 C0]) v_ u_ z z fid<|hc.row 0 1 z)<|Rm z ?_
  have hd:=(h5.ag B).e h3;have h4:=zt' a1<|lt_ h5.s h3.s
  obtain ⟨rj,ek,hme⟩:=bdS huh;refine E z (fc call67 z<|i_L (B:=B) ek h4 (J.g hd) L) ?_;rintro _ _ ⟨s2,rfl⟩;refine Rm z ?_
  rcases bs rj with G | G
  ·refine Rh z G (lN (vs:=[sl A0 N0 C0]) v_ u_ z z fid<|(hc.e s2).row 0 1 z)<|Rh z G (mv z) ?_
   have I:=hd.e s2;obtain ⟨rl,em,hmn⟩:=bdS<|ifT hme G;refine Eg z z G z (fc call72 z<|W_w0k.run (B:=H.z) em (a_I s2.s) (repS.mono (J.g I) h4) L W (repS.mono (Y.g I) h4) (repS.mono (a0.g I) h4) ((hb.e s2).row 0 3 z) hb.lt) ?_;rintro _ _ ⟨so,rfl⟩;exact R z (pT z G z)<|Ra z<|Wl (fun _ q=>⟨rl,som hmn,q.k<|s1 z,bup s2 so⟩)
  iterate 3 refine Nh z G ?_
  exact R z (pF z G z)<|Ra z<|Wl (fun _ q=>⟨false,som<|ifF hme G,q.k<|s1 z,s2⟩)
 rintro ap _ ⟨x6,rfl,_,sq⟩;revert ap;refine Wo ?_;obtain rfl:=som hmi;exact Wr<|d_ hr z ⟨bup (bup h5 h3) sq,z⟩
structure k_O (f:Val->Option Val):Prop where
  run:∀{A5 AG:Option Addr}{N5 C5 NG CG:Nat}{B:Zone}{x1:Val}{res:Val}{w0:World}(hm:f x1=some res)(hBw:B<=w0.z)(p1_0:inI x1.number)(p1_1:repS w0 B (sl A5 N5 C5) x1.bytes)(p1_2:repS w0 B (sl AG NG CG) x1.items),k_ prog 48 [(.agg #[vI x1.number,sl A5 N5 C5,sl AG NG CG])] w0<|Q7 w0 B res
abbrev n_g (n:Nat):Prop:=k_O (d_Y n).impl_CopyValue
theorem T_w05 (iq:n_g n):k_O (e_L n<|d_Y n):=by
 constructor
 intro A5 AG N5 C5 NG CG B x1 res w0 hm aT O Y aD;unfold e_L at hm
 refine goG func48 z z z fun fn hr=>Ws<|E z (fb z) ?_
 rintro _ a4 ⟨rfl,dc⟩;have a5:=dc.below;have ax:Blk a4 w0.z [vI x1.number,sl A5 N5 C5,sl AG NG CG]:=dc.blk;refine E z (fa L_) ?_;rintro _ I ⟨rfl,dd⟩;have hh:=dd.below;have ay:Blk I a4.z [vI 0,sl none 0 0,sl none 0 0]:=dd.blk;refine Wn<|Wq ?_
 obtain ⟨ir,hur,gf⟩:=bdS hm;refine Wt (fun a w=>∃(xi:Int)(aU:List UInt8)(aV:List Val),(xi,aU,aV)=ir/\∃aj nk cl Sx aE aF aG S3 g1,Sat 33 [(1,pt w0.z),(2,pt a4.z),(3,pt g1)] a/\Below I.z I w/\inI xi/\a_ w Sx (sl aj nk cl) aU/\Sx.Nodup/\(∀k∈Sx,I.z<=k)/\a_ w S3 (sl aE aF aG) aV/\S3.Nodup/\(∀k∈S3,I.z<=k)/\(∀k∈S3,k∉Sx)/\Blk w g1 [vI xi,sl aj nk cl,sl aE aF aG]/\I.z<=g1/\(∀k∈Sx,k∉[g1])/\(∀k∈S3,k∉[g1])) ?_ ?_
 ·refine Wd (X:=fun k=>k∈([]:List Nat)∨I.z<=k) 4096 (.rd 0<|.rd 1<|.rd 3<|.rd 4<|.rd 6<|.rd 7<|.rd 8<|.br3 2 (.br3 5 (.br 9 (.rd 10<|.ef 11<|.ef 12 .done) 11<|.ef 9<|.rd 10<|.ef 12 .done) 9 (.br 5 (.rd 10<|.ef 11<|.ef 12 .done) 11<|.ef 5<|.rd 10<|.ef 12 .done) 11<|.br 5 (.ef 9<|.rd 10<|.ef 12 .done) 9<|.ef 5<|.rd 10<|.ef 12 .done) 9 (.br 2 (.br 5 (.rd 10<|.ef 11<|.ef 12 .done) 11<|.ef 5<|.rd 10<|.ef 12 .done) 11<|.ef 2<|.ef 5<|.rd 10<|.ef 12 .done) 11<|.br 2 (.br 5 (.ef 9<|.rd 10<|.ef 12 .done) 9<|.ef 5<|.rd 10<|.ef 12 .done) 9<|.ef 2<|.ef 5<|.rd 10<|.ef 12 .done) mo (by kernel_rfl) fun L G _=>dR z z (fd a_M z) ?_
  have aW:=(ax.e hh).e G;refine dR z z (l1 g_3 z (c_y nm0<|Nat.lt_of_lt_of_le ax.lt hh.s)<|aW.at z)<|dR z z (fd a_E z)<|dR z z (l1 F_ z (c_y nm0<|Nat.lt_of_lt_of_le ax.lt hh.s)<|aW.at z)<|dR z z (fd Y_ z)<|dR z z (l1 a_6 z (c_y nm0<|Nat.lt_of_lt_of_le ax.lt hh.s)<|aW.at z) ?_
  have V:=((a5.ag B).e hh).e G;refine dR z z (lnR Z_ z<|aD.g V)<|l_9 ?_ ?_ ?_
  ·refine dE z z (f0 (α:=UInt8) z_) (.inr fun _ _ h=>o_ (by obtain ⟨_,_,_,_,h,_⟩:=h;exact h)) ?_;rintro _ wy ⟨_,_,_,rfl,s6,hg⟩;refine l_9 ?_ ?_ ?_
   ·obtain ⟨de,it,d8⟩:=bdS hur;refine dE z z (fN (α:=UInt8) z_ it z z hg M_<|Y.g<|V.e s6) (.inr fun _ _ h=>by obtain ⟨_,_,_,_,_,h,_⟩:=h;exact h.mono fun k _ hk=>(mor G.s:∀k∈[L.z],k∈([]:List Nat)∨I.z<=k) k hk) ?_;rintro _ aX ⟨df,a6,a7,a8,rfl,aH,a9,dg,dh⟩;refine b_G ?_ ?_
    ·obtain ⟨_,iu,fO⟩:=bdS d8;refine dE z z (c_Z (α:=Val) b_t iu z z) (.inr fun _ _ h=>o_ (by obtain ⟨_,_,_,_,h,_⟩:=h;exact h)) ?_;rintro _ di ⟨aY,aZ,b0,rfl,aI,dj⟩;refine dR z z (bP (parts:=[(0,.tmp 7),(1,.tmp 11),(2,.tmp 15)]) (cs:=[vI x1.number,sl a6 a7 a8,sl aY aZ b0]) J_ z z)<|dE z z (fa L_) (.inr fun _ _ h=>o_<|h.2.below) ?_
     rintro _ gg ⟨rfl,dk⟩;have b3:=dk.below;have dl:=lt_ G.s s6.s;have dm:=lt_ dl aH.s;have b4:=m1<|lt_ dm aI.s
     refine dE0 z (fs0 (cur':=[vI x1.number,sl a6 a7 a8,sl aY aZ b0]) c_ z z (dk.blk:Blk gg di.z [vI 0,sl none 0 0,sl none 0 0]) z z z z) (.inr fun _ _ h=>a_V (atp b4) h.2) ?_;rintro _ _ ⟨gh,gi⟩;have b5:=gi.one;refine pD ?_;have dn:=mno (a_.lt a9) aI.s;have dp:=m1 G.s;have dq:=mnr<|a_.lt dj
     exact fun _ q=>⟨x1.number,de,([]:List Val),som fO,a6,a7,a8,df,aY,aZ,b0,[aX.z],di.z,q.k<|s3 z z z,bM (bup (bup (bM (bup G s6) aH dp) aI) b3) b5 b4,O,((a9.e aI).e b3).c b5<|ds dn,dg,a_8 dh dp dl,(dj.e b3).c b5<|ds dq,M_,m1 dm,mnr<|a_.lt a9,gh,atp b4,ds dn,ds dq⟩
    refine dE z z (fa L_) (.inr fun _ _ h=>o_<|h.2.below) ?_;rintro _ dr ⟨rfl,dt⟩;have aJ:=dt.below;have du:Blk dr aX.z [vI 0,sl none 0 0,sl none 0 0]:=dt.blk;obtain ⟨_,gj,fP⟩:=bdS d8;refine dE z z (c_Z (α:=Val) b_t gj z z) (.inr fun _ _ h=>o_ (by obtain ⟨_,_,_,_,h,_⟩:=h;exact h)) ?_;rintro _ _ ⟨b6,b7,b8,rfl,b9,gk⟩;refine dR z z (bP (parts:=[(0,.tmp 7),(1,.tmp 11),(2,.tmp 15)]) (cs:=[vI x1.number,sl a6 a7 a8,sl b6 b7 b8]) J_ z z) ?_;have dv:=lt_ G.s s6.s;have dw:=lt_ dv aH.s;have ba:=m1 dw;refine dE0 z (fs0 (cur':=[vI x1.number,sl a6 a7 a8,sl b6 b7 b8]) c_ z z (du.e b9) z z z z) (.inr fun _ _ h=>a_V (atp ba) h.2) ?_;rintro _ _ ⟨gl,gm⟩;have bb:=gm.one;refine pD ?_;have dx:=mnr<|a_.lt a9
    have dy:=m1 G.s;have dz:=mmr du.lt;exact fun _ q=>⟨x1.number,de,([]:List Val),som fP,a6,a7,a8,df,b6,b7,b8,[dr.z],aX.z,q.k<|s3 z z z,bM (bup (bup (bM (bup G s6) aH dy) aJ) b9) bb ba,O,((a9.e aJ).e b9).c bb<|ds dx,dg,a_8 dh dy dv,gk.c bb dz,M_,m1<|lt_ dw aJ.s,mno (a_.lt a9) aJ.s,gl,atp ba,ds dx,dz⟩
   ·obtain ⟨dA,dB,fQ⟩:=bdS hur;obtain ⟨_,gn,d9⟩:=bdS fQ;refine dE z z (c_Z (α:=Val) b_t gn z z) (.inr fun _ _ h=>o_ (by obtain ⟨_,_,_,_,h,_⟩:=h;exact h)) ?_;rintro _ bc ⟨aa,ab,ae,rfl,sm,af⟩;refine b_G ?_ ?_
    ·have gp:∀k∈[L.z],k∈([]:List Nat)∨I.z<=k:=mor G.s;refine dE z z (fN (α:=UInt8) z_ dB z z (hg.e sm) M_<|Y.g<|(V.e s6).e sm) (.inr fun _ _ h=>by obtain ⟨_,_,_,_,_,h,_⟩:=h;exact h.mono fun k _ hk=>gp k hk) ?_;rintro _ dC ⟨gq,be,bf,bg,rfl,aK,dD,gr,dF⟩;refine dR z z (bP (parts:=[(0,.tmp 7),(1,.tmp 11),(2,.tmp 15)]) (cs:=[vI x1.number,sl be bf bg,sl aa ab ae]) J_ z z)<|dE z z (fa L_) (.inr fun _ _ h=>o_<|h.2.below) ?_
     rintro _ gs ⟨rfl,dG⟩;have bh:=dG.below;have dH:=lt_ G.s s6.s;have dI:=lt_ dH sm.s;have bi:=m1<|lt_ dI aK.s
     refine dE0 z (fs0 (cur':=[vI x1.number,sl be bf bg,sl aa ab ae]) c_ z z (dG.blk:Blk gs dC.z [vI 0,sl none 0 0,sl none 0 0]) z z z z) (.inr fun _ _ h=>a_V (atp bi) h.2) ?_;rintro _ _ ⟨gt,gu⟩;have bj:=gu.one;refine pD ?_;have dJ:=mnr<|a_.lt dD
     have dK:=m1 G.s;have dL:=mnr<|a_.lt hg
     have dN:=mno (a_.lt af) aK.s;exact fun _ q=>⟨x1.number,dA,([]:List Val),som d9,be,bf,bg,gq,aa,ab,ae,[wy.z],dC.z,q.k<|s3 z z z,bM (bup (bM (bup (bup G s6) sm) aK dK) bh) bj bi,O,(dD.e bh).c bj<|ds dJ,gr,a_8 dF dK dI,((af.c aK dL).e bh).c bj<|ds dN,M_,m1 dH,ds<|a_N dF (ds dL) (a_.lt af) lr,gt,atp bi,ds dJ,ds dN⟩
    refine dE z z (fa L_) (.inr fun _ _ h=>o_<|h.2.below) ?_;rintro _ gv ⟨rfl,dO⟩;have ah:=dO.below;have dP:Blk gv bc.z [vI 0,sl none 0 0,sl none 0 0]:=dO.blk;refine dE z z (fN (α:=UInt8) z_ dB z z ((hg.e sm).e ah) M_<|Y.g<|((V.e s6).e sm).e ah) (.inr fun _ _ h=>by obtain ⟨_,_,_,_,_,h,_⟩:=h;exact h.mono fun k _ hk=>(mor G.s:∀k∈[L.z],k∈([]:List Nat)∨I.z<=k) k hk) ?_;rintro _ _ ⟨dS,bk,bm,bn,rfl,bo,gw,gx,bp⟩;refine dR z z (bP (parts:=[(0,.tmp 7),(1,.tmp 11),(2,.tmp 15)]) (cs:=[vI x1.number,sl bk bm bn,sl aa ab ae]) J_ z z) ?_;have dT:=mno (a_.lt hg) sm.s;have dU:=lt_ G.s s6.s;have dV:=lt_ dU sm.s;have bq:=m1 dV;refine dE0 z (fs0 (cur':=[vI x1.number,sl bk bm bn,sl aa ab ae]) c_ z z (dP.c bo<|atp dT) z z z z) (.inr fun _ _ h=>a_V (atp bq) h.2) ?_;rintro _ _ ⟨gy,gz⟩;have bs:=gz.one;refine pD ?_;have dW:∀k∈dS,k∉[bc.z]:=or1 bp (ds dT)<|X_ (e_ dP.lt) lr;have dX:=m1 G.s;have dY:=mnr<|a_.lt hg
    have dZ:=mnr<|a_.lt af
    exact fun _ q=>⟨x1.number,dA,([]:List Val),som d9,bk,bm,bn,dS,aa,ab,ae,[wy.z],bc.z,q.k<|s3 z z z,bM (bM (bup (bup (bup G s6) sm) ah) bo dX) bs bq,O,gw.c bs dW,gx,a_8 bp dX<|lt_ dV ah.s,((af.e ah).c bo dY).c bs<|ds dZ,M_,m1 dU,ds<|a_N bp (ds dY) (a_.lt af) ah.s,gy,atp bq,dW,ds dZ⟩
   refine dE z z (fa L_) (.inr fun _ _ h=>o_<|h.2.below) ?_;rintro _ e0 ⟨rfl,e1⟩;have hn:=e1.below;have ai:Blk e0 wy.z [vI 0,sl none 0 0,sl none 0 0]:=e1.blk;refine b_G ?_ ?_
   ·obtain ⟨gA,gB,fR⟩:=bdS hur;refine dE z z (fN (α:=UInt8) z_ gB z z (hg.e hn) M_<|Y.g<|(V.e s6).e hn) (.inr fun _ _ h=>by obtain ⟨_,_,_,_,_,h,_⟩:=h;exact h.mono fun k _ hk=>(mor G.s:∀k∈[L.z],k∈([]:List Nat)∨I.z<=k) k hk) ?_;rintro _ gC ⟨e2,bt,bu,bv,rfl,aL,e3,gD,e4⟩;obtain ⟨_,gE,fT⟩:=bdS fR;refine dE z z (c_Z (α:=Val) b_t gE z z) (.inr fun _ _ h=>o_ (by obtain ⟨_,_,_,_,h,_⟩:=h;exact h)) ?_;rintro _ _ ⟨bw,bx,bz,rfl,bA,gF⟩;refine dR z z (bP (parts:=[(0,.tmp 7),(1,.tmp 11),(2,.tmp 15)]) (cs:=[vI x1.number,sl bt bu bv,sl bw bx bz]) J_ z z) ?_;have e5:=mnr<|a_.lt hg
    have e6:=lt_ G.s s6.s;have bB:=m1 e6;refine dE0 z (fs0 (cur':=[vI x1.number,sl bt bu bv,sl bw bx bz]) c_ z z ((ai.c aL<|atp e5).e bA) z z z z) (.inr fun _ _ h=>a_V (atp bB) h.2) ?_;rintro _ _ ⟨gG,gH⟩;have bC:=gH.one;refine pD ?_;have e7:∀k∈e2,k∉[wy.z]:=or1 e4 (ds e5)<|X_ (e_ ai.lt) lr;have e8:=lt_ e6 hn.s;have e9:=m1 G.s;have ea:=mm1 ai.lt aL.s;exact fun _ q=>⟨x1.number,gA,([]:List Val),som fT,bt,bu,bv,e2,bw,bx,bz,[gC.z],wy.z,q.k<|s3 z z z,bM (bup (bM (bup (bup G s6) hn) aL e9) bA) bC bB,O,(e3.e bA).c bC e7,gD,a_8 e4 e9 e8,gF.c bC ea,M_,m1<|lt_ e8 aL.s,mnr<|a_.lt e3,gG,atp bB,e7,ea⟩
   obtain ⟨gI,gJ,fU⟩:=bdS hur;obtain ⟨_,gK,fV⟩:=bdS fU;refine dE z z (c_Z (α:=Val) b_t gK z z) (.inr fun _ _ h=>o_ (by obtain ⟨_,_,_,_,h,_⟩:=h;exact h)) ?_;rintro _ _ ⟨bD,bE,bF,rfl,ak,eb⟩;refine dE z z (fN (α:=UInt8) z_ gJ z z ((hg.e hn).e ak) M_<|Y.g<|((V.e s6).e hn).e ak) (.inr fun _ _ h=>by obtain ⟨_,_,_,_,_,h,_⟩:=h;exact h.mono fun k _ hk=>(mor G.s:∀k∈[L.z],k∈([]:List Nat)∨I.z<=k) k hk) ?_;rintro _ _ ⟨ec,bG,bH,bI,rfl,bJ,gL,gM,bK⟩;refine dR z z (bP (parts:=[(0,.tmp 7),(1,.tmp 11),(2,.tmp 15)]) (cs:=[vI x1.number,sl bG bH bI,sl bD bE bF]) J_ z z) ?_;have ed:=mnr<|a_.lt hg
   have ee:=lt_ G.s s6.s;have bL:=m1 ee;refine dE0 z (fs0 (cur':=[vI x1.number,sl bG bH bI,sl bD bE bF]) c_ z z ((ai.e ak).c bJ<|atp ed) z z z z) (.inr fun _ _ h=>a_V (atp bL) h.2) ?_;rintro _ _ ⟨gN,gO⟩;have bN:=gO.one;refine pD ?_;have eg:∀k∈ec,k∉[wy.z]:=or1 bK (ds ed)<|X_ (e_ ai.lt) ak.s;have eh:=lt_ ee hn.s;have ei:=m1 G.s;have ej:=mno (a_.lt hg) hn.s;have ek:=mmr ai.lt;exact fun _ q=>⟨x1.number,gI,([]:List Val),som fV,bG,bH,bI,ec,bD,bE,bF,[e0.z],wy.z,q.k<|s3 z z z,bM (bM (bup (bup (bup G s6) hn) ak) bJ ei) bN bL,O,gL.c bN eg,gM,a_8 bK ei<|lt_ eh ak.s,(eb.c bJ ej).c bN ek,M_,m1 eh,ds<|a_N bK (ds ej) (a_.lt eb) lr,gN,atp bL,eg,ek⟩
  ·obtain ⟨bO,bQ,fW⟩:=bdS hur;obtain ⟨_,gP,aS⟩:=bdS fW;refine dE z z (c_Z (α:=Val) b_t gP z z) (.inr fun _ _ h=>o_ (by obtain ⟨_,_,_,_,h,_⟩:=h;exact h)) ?_;rintro _ az ⟨ao,np,cq,rfl,ss,W⟩;refine b_G ?_ ?_
   ·refine dE z z (f0 (α:=UInt8) z_) (.inr fun _ _ h=>o_ (by obtain ⟨_,_,_,_,h,_⟩:=h;exact h)) ?_;rintro _ bR ⟨_,_,_,rfl,sa,bS⟩;refine b_G ?_ ?_
    ·have bT:=lt_ G.s ss.s;refine dE z z (fN (α:=UInt8) z_ bQ z z bS M_<|Y.g<|(V.e ss).e sa) (.inr fun _ _ h=>by obtain ⟨_,_,_,_,_,h,_⟩:=h;exact h.mono fun k _ hk=>(mor bT:∀k∈[az.z],k∈([]:List Nat)∨I.z<=k) k hk) ?_;rintro _ em ⟨gQ,bU,bV,bW,rfl,aM,en,gR,eo⟩;refine dR z z (bP (parts:=[(0,.tmp 7),(1,.tmp 11),(2,.tmp 15)]) (cs:=[vI x1.number,sl bU bV bW,sl ao np cq]) J_ z z)<|dE z z (fa L_) (.inr fun _ _ h=>o_<|h.2.below) ?_
     rintro _ gS ⟨rfl,ep⟩;have bX:=ep.below;have er:=lt_ bT sa.s;have bY:=m1<|lt_ er aM.s
     refine dE0 z (fs0 (cur':=[vI x1.number,sl bU bV bW,sl ao np cq]) c_ z z (ep.blk:Blk gS em.z [vI 0,sl none 0 0,sl none 0 0]) z z z z) (.inr fun _ _ h=>a_V (atp bY) h.2) ?_;rintro _ _ ⟨gT,gU⟩;have bZ:=gU.one;refine pD ?_;have es:=mnr<|a_.lt en
     have eu:=m1 bT;have ew:=mnr<|a_.lt W
     have ex:=mno (a_.lt W)<|lt_ sa.s aM.s
     exact fun _ q=>⟨x1.number,bO,([]:List Val),som aS,bU,bV,bW,gQ,ao,np,cq,[L.z],em.z,q.k<|s3 z z z,bM (bup (bM (bup (bup G ss) sa) aM eu) bX) bZ bY,O,(en.e bX).c bZ<|ds es,gR,a_8 eo eu er,(((W.e sa).c aM<|ds ew).e bX).c bZ<|ds ex,M_,m1 G.s,ds<|a_N eo ew (a_.lt W) sa.s,gT,atp bY,ds es,ds ex⟩
    refine dE z z (fa L_) (.inr fun _ _ h=>o_<|h.2.below) ?_;rintro _ gV ⟨rfl,ey⟩;have al:=ey.below;have ez:Blk gV bR.z [vI 0,sl none 0 0,sl none 0 0]:=ey.blk;have c0:=lt_ G.s ss.s;refine dE z z (fN (α:=UInt8) z_ bQ z z (bS.e al) M_<|Y.g<|((V.e ss).e sa).e al) (.inr fun _ _ h=>by obtain ⟨_,_,_,_,_,h,_⟩:=h;exact h.mono fun k _ hk=>(mor c0:∀k∈[az.z],k∈([]:List Nat)∨I.z<=k) k hk) ?_;rintro _ _ ⟨eA,c1,c2,c3,rfl,c4,gW,gX,c5⟩;refine dR z z (bP (parts:=[(0,.tmp 7),(1,.tmp 11),(2,.tmp 15)]) (cs:=[vI x1.number,sl c1 c2 c3,sl ao np cq]) J_ z z) ?_;have eB:=mnr<|a_.lt bS
    have eC:=lt_ c0 sa.s;have c6:=m1 eC;refine dE0 z (fs0 (cur':=[vI x1.number,sl c1 c2 c3,sl ao np cq]) c_ z z (ez.c c4<|atp eB) z z z z) (.inr fun _ _ h=>a_V (atp c6) h.2) ?_;rintro _ _ ⟨gY,gZ⟩;have c7:=gZ.one;refine pD ?_;have eD:∀k∈eA,k∉[bR.z]:=or1 c5 (ds eB)<|X_ (e_ ez.lt) lr;have eE:=m1 c0;have eF:=mnr<|a_.lt W
    have eG:=mno (a_.lt W) sa.s;exact fun _ q=>⟨x1.number,bO,([]:List Val),som aS,c1,c2,c3,eA,ao,np,cq,[L.z],bR.z,q.k<|s3 z z z,bM (bM (bup (bup (bup G ss) sa) al) c4 eE) c7 c6,O,gW.c c7 eD,gX,a_8 c5 eE<|lt_ eC al.s,(((W.e sa).e al).c c4<|ds eF).c c7<|ds eG,M_,m1 G.s,ds<|a_N c5 eF (a_.lt W)<|lt_ sa.s al.s,gY,atp c6,eD,ds eG⟩
   refine dE z z (fa L_) (.inr fun _ _ h=>o_<|h.2.below) ?_;rintro _ eH ⟨rfl,eI⟩;have am:=eI.below;have c8:Blk eH az.z [vI 0,sl none 0 0,sl none 0 0]:=eI.blk;refine dE z z (f0 (α:=UInt8) z_) (.inr fun _ _ h=>o_ (by obtain ⟨_,_,_,_,h,_⟩:=h;exact h)) ?_;rintro _ _ ⟨_,_,_,rfl,sz,h0⟩;have eJ:=lt_ G.s ss.s;have c9:=lt_ eJ am.s;refine dE z z (fN (α:=UInt8) z_ bQ z z h0 M_<|Y.g<|((V.e ss).e am).e sz) (.inr fun _ _ h=>by obtain ⟨_,_,_,_,_,h,_⟩:=h;exact h.mono fun k _ hk=>(mor c9:∀k∈[eH.z],k∈([]:List Nat)∨I.z<=k) k hk) ?_;rintro _ _ ⟨eK,ca,cb,cc,rfl,cd,h1,h2,ce⟩;refine dR z z (bP (parts:=[(0,.tmp 7),(1,.tmp 11),(2,.tmp 15)]) (cs:=[vI x1.number,sl ca cb cc,sl ao np cq]) J_ z z) ?_;have eL:=mmr c8.lt;have cg:=m1 eJ;refine dE0 z (fs0 (cur':=[vI x1.number,sl ca cb cc,sl ao np cq]) c_ z z ((c8.e sz).c cd<|djs eL) z z z z) (.inr fun _ _ h=>a_V (atp cg) h.2) ?_;rintro _ _ ⟨h3,h4⟩;have ch:=h4.one;refine pD ?_;have eM:∀k∈eK,k∉[az.z]:=or1 ce eL<|X_ (e_ c8.lt) sz.s;have eN:=m1 c9;have eO:=mno (a_.lt W) am.s;have eP:=mnr<|a_.lt W
   exact fun _ q=>⟨x1.number,bO,([]:List Val),som aS,ca,cb,cc,eK,ao,np,cq,[L.z],az.z,q.k<|s3 z z z,bM (bM (bup (bup (bup G ss) am) sz) cd eN) ch cg,O,h1.c ch eM,h2,a_8 ce eN<|lt_ c9 sz.s,(((W.e am).e sz).c cd<|ds eO).c ch<|ds eP,M_,m1 G.s,ds<|a_N ce eO (a_.lt W)<|lt_ am.s sz.s,h3,atp cg,eM,ds eP⟩
  refine dE z z (fa L_) (.inr fun _ _ h=>o_<|h.2.below) ?_;rintro _ aN ⟨rfl,eQ⟩;have ht:=eQ.below;have hb:Blk aN L.z [vI 0,sl none 0 0,sl none 0 0]:=eQ.blk;refine b_G ?_ ?_
  ·refine dE z z (f0 (α:=UInt8) z_) (.inr fun _ _ h=>o_ (by obtain ⟨_,_,_,_,h,_⟩:=h;exact h)) ?_;rintro _ h5 ⟨_,_,_,rfl,sc,ci⟩;refine b_G ?_ ?_
   ·obtain ⟨h6,h7,fX⟩:=bdS hur;have cj:=lt_ G.s ht.s;refine dE z z (fN (α:=UInt8) z_ h7 z z ci M_<|Y.g<|(V.e ht).e sc) (.inr fun _ _ h=>by obtain ⟨_,_,_,_,_,h,_⟩:=h;exact h.mono fun k _ hk=>(mor cj:∀k∈[aN.z],k∈([]:List Nat)∨I.z<=k) k hk) ?_;rintro _ ha ⟨eR,ck,cm,cn,rfl,aO,eS,hd,eT⟩;obtain ⟨_,he,fY⟩:=bdS fX;refine dE z z (c_Z (α:=Val) b_t he z z) (.inr fun _ _ h=>o_ (by obtain ⟨_,_,_,_,h,_⟩:=h;exact h)) ?_;rintro _ _ ⟨co,cp,ct,rfl,cu,hf⟩;refine dR z z (bP (parts:=[(0,.tmp 7),(1,.tmp 11),(2,.tmp 15)]) (cs:=[vI x1.number,sl ck cm cn,sl co cp ct]) J_ z z) ?_;have eU:=mmr hb.lt;have cv:=m1 G.s;refine dE0 z (fs0 (cur':=[vI x1.number,sl ck cm cn,sl co cp ct]) c_ z z (((hb.e sc).c aO<|djs eU).e cu) z z z z) (.inr fun _ _ h=>a_V (atp cv) h.2) ?_;rintro _ _ ⟨hi,hj⟩;have cw:=hj.one;refine pD ?_;have eV:∀k∈eR,k∉[L.z]:=or1 eT eU<|X_ (e_ hb.lt) sc.s;have eW:=lt_ cj sc.s;have eX:=m1 cj;have eY:=mm1 hb.lt<|lt_ sc.s aO.s
    exact fun _ q=>⟨x1.number,h6,([]:List Val),som fY,ck,cm,cn,eR,co,cp,ct,[ha.z],L.z,q.k<|s3 z z z,bM (bup (bM (bup (bup G ht) sc) aO eX) cu) cw cv,O,(eS.e cu).c cw eV,hd,a_8 eT eX eW,hf.c cw eY,M_,m1<|lt_ eW aO.s,mnr<|a_.lt eS,hi,atp cv,eV,eY⟩
   obtain ⟨hl,ho,fZ⟩:=bdS hur;obtain ⟨_,hp,g0⟩:=bdS fZ;refine dE z z (c_Z (α:=Val) b_t hp z z) (.inr fun _ _ h=>o_ (by obtain ⟨_,_,_,_,h,_⟩:=h;exact h)) ?_;rintro _ _ ⟨cx,cy,cz,rfl,an,eZ⟩;have cA:=lt_ G.s ht.s;refine dE z z (fN (α:=UInt8) z_ ho z z (ci.e an) M_<|Y.g<|((V.e ht).e sc).e an) (.inr fun _ _ h=>by obtain ⟨_,_,_,_,_,h,_⟩:=h;exact h.mono fun k _ hk=>(mor cA:∀k∈[aN.z],k∈([]:List Nat)∨I.z<=k) k hk) ?_;rintro _ _ ⟨f1,cB,cC,cD,rfl,cE,hq,hw,cF⟩;refine dR z z (bP (parts:=[(0,.tmp 7),(1,.tmp 11),(2,.tmp 15)]) (cs:=[vI x1.number,sl cB cC cD,sl cx cy cz]) J_ z z) ?_;have f2:=mmr hb.lt;have cG:=m1 G.s;refine dE0 z (fs0 (cur':=[vI x1.number,sl cB cC cD,sl cx cy cz]) c_ z z (((hb.e sc).e an).c cE<|djs f2) z z z z) (.inr fun _ _ h=>a_V (atp cG) h.2) ?_;rintro _ _ ⟨hx,hy⟩;have cH:=hy.one;refine pD ?_;have f3:∀k∈f1,k∉[L.z]:=or1 cF f2<|X_ (e_ hb.lt)<|lt_ sc.s an.s;have f4:=lt_ cA sc.s;have f5:=m1 cA;have f6:=mnr<|a_.lt ci
   have f7:=mm1 hb.lt sc.s;exact fun _ q=>⟨x1.number,hl,([]:List Val),som g0,cB,cC,cD,f1,cx,cy,cz,[h5.z],L.z,q.k<|s3 z z z,bM (bM (bup (bup (bup G ht) sc) an) cE f5) cH cG,O,hq.c cH f3,hw,a_8 cF f5<|lt_ f4 an.s,(eZ.c cE f6).c cH f7,M_,m1 f4,ds<|a_N cF (ds f6) (a_.lt eZ) lr,hx,atp cG,f3,f7⟩
  obtain ⟨hz,hA,g2⟩:=bdS hur;obtain ⟨_,hB,g3⟩:=bdS g2;refine dE z z (c_Z (α:=Val) b_t hB z z) (.inr fun _ _ h=>o_ (by obtain ⟨_,_,_,_,h,_⟩:=h;exact h)) ?_;rintro _ hC ⟨cI,cJ,cK,rfl,ap,cL⟩;refine dE z z (f0 (α:=UInt8) z_) (.inr fun _ _ h=>o_ (by obtain ⟨_,_,_,_,h,_⟩:=h;exact h)) ?_;rintro _ _ ⟨_,_,_,rfl,a0,hD⟩;have f8:=lt_ G.s ht.s;have cN:=lt_ f8 ap.s;refine dE z z (fN (α:=UInt8) z_ hA z z hD M_<|Y.g<|((V.e ht).e ap).e a0) (.inr fun _ _ h=>by obtain ⟨_,_,_,_,_,h,_⟩:=h;exact h.mono fun k _ hk=>(mor cN:∀k∈[hC.z],k∈([]:List Nat)∨I.z<=k) k hk) ?_;rintro _ _ ⟨f9,cO,cP,cQ,rfl,cR,hE,hF,cS⟩;refine dR z z (bP (parts:=[(0,.tmp 7),(1,.tmp 11),(2,.tmp 15)]) (cs:=[vI x1.number,sl cO cP cQ,sl cI cJ cK]) J_ z z) ?_;have fe:=mm1 hb.lt ap.s;have cT:=m1 G.s;refine dE0 z (fs0 (cur':=[vI x1.number,sl cO cP cQ,sl cI cJ cK]) c_ z z (((hb.e ap).e a0).c cR<|djs fe) z z z z) (.inr fun _ _ h=>a_V (atp cT) h.2) ?_;rintro _ _ ⟨hG,hH⟩;have cU:=hH.one;refine pD ?_;have ff:∀k∈f9,k∉[L.z]:=or1 cS fe<|X_ (e_ hb.lt)<|lt_ ap.s a0.s;have fg:=m1 cN;have fh:=mnr<|a_.lt cL
  have fi:=mmr hb.lt;exact fun _ q=>⟨x1.number,hz,([]:List Val),som g3,cO,cP,cQ,f9,cI,cJ,cK,[aN.z],L.z,q.k<|s3 z z z,bM (bM (bup (bup (bup G ht) ap) a0) cR fg) cU cT,O,hE.c cU ff,hF,a_8 cS fg<|lt_ cN a0.s,((cL.e a0).c cR<|ds fh).c cU fi,M_,m1 f8,ds<|a_N cS fh (a_.lt cL) a0.s,hG,atp cT,ff,fi⟩
 rintro hI H ⟨xi,aU,aV,rfl,aj,nk,cl,Sx,aE,aF,aG,S3,g1,_,a1,hJ,fj,hK,fk,hL,hM,cV,fl,aq,cW,hN,hO⟩;revert hI;refine Wo<|Wq<|Ws<|Rf z Y_ z<|R z (l0 a_6 z<|((ax.e hh).e a1).at z) ?_
 have fm:=((a5.ag B).e hh).e a1;refine R z (lnR Z_ z<|aD.g fm)<|Rm z<|Wn ?_
 obtain ⟨_,g4,da⟩:=bdS<|b_0 gf;refine Wf (σ:=List Val) (ρ:=Val) (fun (fo:Nat)(ar:List Val) a w=>∃ad ne cf J,Sat 33 [(2,pt a4.z),(3,pt g1),(18,sl AG NG CG),(19,vI (x1.items.length:Int)),(20,vI ((fo:Nat):Int))] a/\Chg (· ∈ (S3++[g1])) H w/\a_ w J (sl ad ne cf) ar/\J.Nodup/\(∀k∈J,k∈S3∨H.z<=k)/\Blk w g1 [vI xi,sl aj nk cl,sl ad ne cf]) (fun (ar:List Val) a w=>∃ad ne cf J,Sat 33 [(2,pt a4.z),(3,pt g1)] a/\Chg (· ∈ (S3++[g1])) H w/\a_ w J (sl ad ne cf) ar/\J.Nodup/\(∀k∈J,k∈S3∨H.z<=k)/\Blk w g1 [vI xi,sl aj nk cl,sl ad ne cf]) (rQ prog fn<|Q7 w0 B) g4 ?_ ?_ ?_ ?_ ?_
 ·exact fun _ q=>⟨aE,aF,aG,S3,q.k<|s5 z z z z z,cr (S3++[g1]) H,hL,hM,io sr,aq⟩
 ·rintro fo ar _ aP _ db ⟨ad,ne,cf,J,g5,au,hv,aA,hu,aB⟩ g6;refine Wu ?_ g5;refine Ws<|Rl z z z<|Wn<|Wq<|Wc z (fun _=>?_) (fun hc=>(U_ db hc).elim)
  refine Wk<|Wq<|Wb<|Ws ?_
  obtain ⟨cX,hP,g7⟩:=bdS g6;have fp:=lt_ a5.s hh.s;have fq:=zt' aT fp;refine RX z (at_ (α:=Val) Z_ c_ z z z (aD.g<|fm.c au<|nmA (g_ (or0 cV (m_ fq):∀k∈S3,¬B k))<|g_ (or0 (e_ cW) (m_ fq):∀k∈[g1],¬B k)) hP) ?_;rintro _ ⟨_,_,_,rfl,hQ,hR,_⟩;obtain ⟨cY,cZ,d0,d1,d2,d3,rfl,hS,hT,hU⟩:=c_a hR;refine R z (lN (vs:=[vI cX.number,sl cY cZ d0,sl d1 d2 d3]) l_ c_ z z fid hQ)<|E z (fa L_) ?_
  rintro _ fr ⟨rfl,fs⟩;have a2:=fs.below;refine E0 (fs0 (cur':=[vI cX.number,sl cY cZ d0,sl d1 d2 d3]) c_ z z (fs.blk:Blk fr aP.z [vI 0,sl none 0 0,sl none 0 0]) z z z z) ?_;rintro _ hV ⟨hW,hX⟩;have a3:=hX.one;refine Wn<|Wd (X:=noX) 160 (pl_ 8 [3,4,5,7]) mo (by kernel_rfl) fun hY sw _=>dR z z (fd Y_ z) ?_;have ft:=((aB.e a2).c a3<|djs<|mm1 (Blk.lt aq) au.s).e sw;refine dR z z (l0 a_6 z<|ft.at z)<|dR z z (lN (vs:=[vI cX.number,sl cY cZ d0,sl d1 d2 d3]) l_ c_ z z fid<|(hW.e sw).row 0 3 z) ?_
  have fu:=lt_ (lt_ fp a1.s) au.s;have fv:=((a2.ag B).c a3<|g_ (or0 (e_ lr) (m_<|zt' aT fu):∀k∈[aP.z],¬B k)).e sw;obtain ⟨fw,hZ,g8⟩:=bdS g7;refine dE z z (fc call48 z<|iq.run hZ (zt' aT<|lt_ (lt_ (lt_ fu a2.s) a3.s) sw.s) hS (hT.g fv)<|hU.g fv) (.inr fun _ _ h=>o_<|h.1) ?_;rintro _ fx ⟨aQ,i0,i1,i2,fy,i3,i4,i5,fz,rfl,i6,i7,i8,d4,av⟩;refine dE z z (fS [(.tmp 27)] b_t z z z (a_Q z) (lb z)<|lb z) (.inr fun _ _ h=>o_<|h.2.below) ?_;rintro _ fA ⟨rfl,fB⟩;have aw:=fB.below;obtain ⟨i9,ia,g9⟩:=bdS g8;have fC:=lt_ (lt_ a2.s a3.s) sw.s;refine dE z z (b_g (α:=Val) b_t ia z z (((((hv.e a2).c a3<|ds<|mnr<|a_.lt hv).e sw).e aQ).e aw) aA (fB.blk:Blk fA fx.z [vI fw.number,sl i0 i1 i2,sl i3 i4 i5]) (c_k (x:=fw) (S1:=fy) (S2:=fz) i6 (i7.e aw)<|i8.e aw) (aa_ (a_4 (al_ av) (a_.lt hv) fC)<|a_4 (ar_ av) (a_.lt hv) fC)<|na_ (nl_ d4) (nr_ d4)<|nj d4) (.inl z) ?_;rintro _ ib ⟨d5,fD,fE,fF,rfl,fG,ic,id,fH⟩;refine dR z z (fd Y_ z) ?_;have fI:∀k∈J,k∉[g1]:=or1 hu hO<|X_ (e_<|Blk.lt aq) lr;refine dE0 z (fs0 (cur':=[vI xi,sl aj nk cl,sl fD fE fF]) z_38 z z (((ft.e aQ).e aw).c fG<|djs fI) z z z z) (.inl z) ?_;rintro _ ie ⟨ig,ih⟩;have fJ:=ih.one;refine pD<|Wo<|Wg<|R z (inc_ db (lt_ (repS.len aD) D_) z z)<|Rm z<|Wl ?_
  have aC:=lt_ (lt_ (lt_ au.s a2.s) a3.s) sw.s;have fK:=lt_ (lt_ aC aQ.s) aw.s;exact fun _ q=>⟨i9,(som g9).symm,⟨fD,fE,fF,d5,q.k<|s5 z z z z z,(cM (cM (C_ (C_ (C_ (cM (C_ (cM (cr (S3++[g1]) H) au (aa_ (io<|R_ sr)<|io<|E_ sr):Chg (· ∈ (S3++[g1])) H aP) a2:Chg (· ∈ (S3++[g1])) H fr) a3 (mor au.s:∀k∈[aP.z],k∈(S3++[g1])∨H.z<=k):Chg (· ∈ (S3++[g1])) H hV) sw:Chg (· ∈ (S3++[g1])) H hY) aQ:Chg (· ∈ (S3++[g1])) H fx) aw:Chg (· ∈ (S3++[g1])) H fA) fG (or1 hu (io<|R_ sr) (j_ lr):∀k∈J,k∈(S3++[g1])∨H.z<=k):Chg (· ∈ (S3++[g1])) H ib) fJ (io<|E_ sr):Chg (· ∈ (S3++[g1])) H ie),ic.c fJ (or2 fH fI (aa_ (n_ (al_ av) (Blk.lt aq) aC)<|n_ (ar_ av) (Blk.lt aq) aC) (X_ (e_<|Blk.lt aq) fK):∀k∈d5,k∉[g1]),id,(or2 fH (or1 hu (io sr) (j_ lr):∀k∈J,k∈S3∨H.z<=k) (aa_ (or0 (al_ av) (j_ aC):∀k∈fy,k∈S3∨H.z<=k) (or0 (ar_ av) (j_ aC):∀k∈fz,k∈S3∨H.z<=k)) (j_ fK):∀k∈d5,k∈S3∨H.z<=k),ig⟩⟩
 ·rintro ar _ ij ⟨ad,ne,cf,J,ga,ik,hv,aA,hu,aB⟩;refine Wu ?_ ga;refine Ws<|Rl z z z<|Wn<|Wq<|Wc z (fun hc=>(V_ hc).elim) (fun _=>?_)
  exact We<|fun _ q=>⟨rfl,⟨ad,ne,cf,J,q.k<|s2 z z,(cM (cr (S3++[g1]) H) ik (aa_ (io<|R_ sr)<|io<|E_ sr):Chg (· ∈ (S3++[g1])) H ij),hv,aA,(or1 hu (io sr) (j_ lr):∀k∈J,k∈S3∨H.z<=k),aB⟩⟩
 ·rintro ar il _ rfl ⟨ad,ne,cf,J,_,d6,hv,aA,hu,aB⟩;have gb:=elL da;revert il;refine Wo<|Ws<|R z (lN (vs:=[vI xi,sl aj nk cl,sl ad ne cf]) l_ c_ z z fid<|aB.row 0 3 z) ?_
  have fL:=n_ cV ay.lt lr;refine E0 (fs0 (cur':=[vI xi,sl aj nk cl,sl ad ne cf]) c_ z z ((ay.e a1).c d6<|atp<|nmA (ds fL)<|ds<|n_ (e_ cW) ay.lt lr) z z z z) ?_;rintro _ _ ⟨im,ip⟩;have d7:=ip.one;refine Wn ?_;obtain rfl:=som gb;have aR:=lt_ a5.s hh.s;have fM:=h_ cV aR;exact Wr<|d_ hr (y_ l_ c_ z im z) ⟨bM (bM (bup (bup a5 hh) a1) d6<|aa_ fM<|h_ (e_ cW) aR) d7<|m1 a5.s,aj,nk,cl,Sx,ad,ne,cf,J,z,hJ,(fj.c d6<|nmA (ds fl) hN).c d7<|n_ fk ay.lt lr,hv.c d7 (or1 hu fL (X_ (e_ ay.lt) a1.s):∀k∈J,k∉[a4.z]),na_ hK aA<|ds<|a_N hu fl (a_.lt fj) lr,aa_ (h_ fk aR)<|a_8 hu fM<|lt_ aR a1.s⟩
 rintro _ _ _ _ rfl ⟨rfl,gc⟩;have ge:=elR da;obtain rfl:=som ge;exact ⟨gc,z⟩
theorem A_w05:∀n,n_g n
  | 0=>⟨fun hm=>by intros;exact nomatch (show none=some _ from hm)⟩
  | n+1=>T_w05<|A_w05 n
theorem g_R:k_O (d_Y n).impl_CopyValue:=A_w05 n
theorem W_w3f {x1:Str}{x2:Str}{b2 G:Nat}{res:Bool}(hm:f_r x1 x2=some res)(O:B<=w0.z)(I:x1.b.length<=LEN)(J:x2.b.length<=LEN)(H:I_ w0 b2 G [Str.v x2])(L:B b2):k_ prog 138 [Str.v x1,(.pointer<|some ⟨b2,G,none⟩)] w0 (Q9 w0 B res):=by
 unfold f_r at hm
 refine goG func138 z z z fun fn hr=>Ws<|Rw z<|Wm z<|R z (l0 g_9 z<|H.at0 z)<|R z (b_y z z)<|Rw z ?_
 obtain rfl:=som hm;exact Wr<|d_ hr z ⟨br w0,z⟩
theorem W_w3g {x1:List Str}{J:Str}{H L:Nat}{res:Int}(hm:d_r x1 J=some res)(a2:B<=w0.z)(I:repS w0 B (sl A0 N0 C0) x1)(p2c0_0:J.b.length<=LEN)(a1:I_ w0 H L [Str.v J])(a0:B H):k_ prog 137 [sl A0 N0 C0,(.func (.func 138) #[] #[(.pointer<|some ⟨H,L,none⟩)])] w0 (Q0 w0 B res):=by
 unfold d_r at hm
 refine goG func137 z z z fun fn hr=>Ws<|Rw z<|Wq<|Wm z<|R z (lnR Q_ z I)<|Rm z<|Wn ?_
 obtain ⟨_,a3,W⟩:=bdS hm;refine Wf (σ:=Unit) (ρ:=Int) (fun (k4:Nat)(_:Unit) a w=>Sat 19 [(1,.func (.func 138) #[] #[(.pointer<|some ⟨H,L,none⟩)]),(7,sl A0 N0 C0),(8,vI (x1.length:Int)),(9,vI ((k4:Nat):Int))] a/\Below w0.z w0 w) (fun (_:Unit) a w=>Sat 19 [] a/\Below w0.z w0 w) (rQ prog fn<|Q0 w0 B) a3 ?_ ?_ ?_ ?_ ?_
 ·exact fun _ q=>⟨q.k<|s4 z z z z,br w0⟩
 ·rintro k4 _ _ _ _ O ⟨a4,G⟩ a5;refine Wu ?_ a4;refine Ws<|Rl z z z<|Wn<|Wq<|Wc z (fun _=>?_) (fun hc=>(U_ O hc).elim)
  refine Wk<|Wq<|Wb<|Wm z ?_
  obtain ⟨_,ea,hmb⟩:=bdS a5;refine RX z (at_ (α:=Str) Q_ z_9 z z z (I.e G) ea) ?_;rintro _ ⟨_,_,_,rfl,hd,he,_⟩;obtain ⟨rfl,hf⟩:=b_9 he;refine R z (l0 g_9 z<|hd.at0 z)<|Ra z<|Rw z<|Wm z<|Rm z ?_
  obtain ⟨_,ec,Y⟩:=bdS hmb;refine E z (d_L call138 z z<|W_w3f ec (zt' a2 G.s) hf p2c0_0 (a1.e G) a0) ?_;rintro _ _ ⟨s6,rfl⟩;refine Wx z (fun V=>?_) (fun V=>?_)
  ·exact Wm z<|Rw z<|Wr<|rtO<|qL (som<|ifT Y V).symm<|d_ hr z ⟨bup G s6,z,ic (Nat.le_of_lt O)<|lt_ (repS.len I) D_⟩
  exact Wk<|Wg<|R z (inc_ O (lt_ (repS.len I) D_) z z)<|Rm z<|Wl (fun _ q=>⟨(),(som<|ifF Y V).symm,⟨q.k<|s4 z z z z,bup G s6⟩⟩)
 ·rintro _ _ _ ⟨hSg,sh⟩;refine Wu ?_ hSg;refine Ws<|Rl z z z<|Wn<|Wq<|Wc z (fun hc=>(V_ hc).elim) (fun _=>?_)
  exact We<|fun _ q=>⟨rfl,⟨q.k sn,sh⟩⟩
 ·rintro _ ai _ rfl ⟨_,sj⟩;have hmk:=elL W;revert ai;refine Wo<|Ws<|Rw z ?_
  obtain rfl:=som hmk;exact Wr<|d_ hr z ⟨sj,z,ii z⟩
 rintro _ _ _ _ rfl ⟨rfl,hql⟩;have hmm:=elR W;obtain rfl:=som hmm;exact ⟨hql,z⟩
theorem W_w3h {x1:Int}{res:Str}(hm:i_Z x1=some res)(H:B<=w0.z)(hG:Gl w0 B)(G:inI x1):k_ prog 148 [vI x1] w0 (Q13 w0 B res):=by
 unfold i_Z at hm
 refine goG func148 z z z fun fn hr=>Ws<|Rw z<|Wm z ?_
 obtain ⟨_,J,I⟩:=bdS hm;refine E z (fc call157 z<|r_1 (B:=B) J H hG G) ?_;rintro _ _ ⟨s2,rfl,h3⟩;refine Rw z ?_
 obtain rfl:=som I;exact Wr<|d_ hr z ⟨s2,z,h3⟩
theorem W_w3i {x1:f_}{x2:Int}{x3:Int}{res:Str}(hm:h_G n x1 x2 x3=some res)(J:B<=w0.z)(hG:Gl w0 B)(W:repS w0 B (sl A0 N0 C0) x1.rules)(ae:inI x2)(af:inI x3):k_ prog 139 [(.agg #[sl A0 N0 C0]),vI x2,vI x3] w0 (Q13 w0 B res):=by
 unfold h_G at hm
 refine goG func139 z z z fun fn hr=>Ws<|E z (fb z) ?_
 rintro _ wb ⟨rfl,hn⟩;have G:=hn.below;have ho:Blk wb w0.z [sl A0 N0 C0]:=hn.blk;refine Rw z<|Wq<|Wq ?_
 obtain ⟨ak,ah,hmp⟩:=bdS hm;refine Wt (fun a w=>∃(xc:Bool),xc=ak/\Sat 58 [(1,vI x2),(2,vI x3),(3,pt w0.z),(15,vB xc)] a/\Below wb.z wb w) ?_ ?_
 ·refine Wg<|R z (lN (vs:=[sl A0 N0 C0]) v_ u_ z z fid<|ho.row 0 1 z)<|Rm z ?_
  obtain ⟨al,am,hmq⟩:=bdS ah;refine E z (fc call67 z<|i_L am (zt' J G.s) (W.e G) ae) ?_;rintro _ _ ⟨sr,rfl⟩;refine R z (not_ z)<|Rm z ?_
  rcases bs (!al) with I | I
  ·exact Nh z I<|Nh z I<|R z (pT z I z)<|Wl (fun _ q=>⟨true,som<|ifT hmq I,q.k<|s4 z z z z,sr⟩)
  exact Rh z I (mv z)<|Rh z I (lss z z)<|R z (pF z I z)<|Wl (fun _ q=>⟨decide<|x3<0,som<|ifF hmq I,q.k<|s4 z z z z,sr⟩)
 rintro an L ⟨xc,rfl,_,s1⟩;revert an;refine Wo<|Wc z (fun hcd=>?_) (fun hcd=>?_)
 ·refine Ws<|Rw z ?_
  obtain rfl:=som<|ifT hmp hcd;exact Wr<|d_ hr z ⟨bup G s1,z,lb z⟩
 refine Wk<|Ws<|Rf z a_d z<|R z (l0 a_g z<|(ho.e s1).at z)<|Rm z ?_
 obtain ⟨V,ao,hms⟩:=bdS<|ifF hmp hcd;refine RX z (at_ (α:=b_) P_ r_ z z z (W.g<|(G.ag B).e s1) ao) ?_;rintro _ ⟨_,_,_,rfl,ap,aq,_⟩;obtain ⟨au,nt,cv,aw,nx,cy,az,a5,a6,a7,a8,a9,rfl,_,_,_,_,aa,_,_⟩:=a_A aq;refine R z (lN (vs:=vR V au nt cv aw nx cy az a5 a6 a7 a8 a9) G_ r_ z z fid ap)<|E z (fa c_8) ?_
 rintro _ ar ⟨rfl,ab⟩;have h2:=ab.below;refine E0 (fs0 (cur':=vR V au nt cv aw nx cy az a5 a6 a7 a8 a9) r_ z z (ab.blk:Blk ar L.z [(Str.v (⟨[]⟩:Str)),vI 0,vI 0,vB false,sl none 0 0,sl none 0 0,sl none 0 0,sl none 0 0]) z z z z) ?_;rintro _ wa ⟨O,av⟩;have h3:=av.one;refine Wn<|Wq<|Wb<|Ws<|Rf z a_x z<|R z (l0 g_3 z<|O.at z)<|Rq z z z<|Rw z<|Wc z (fun hce=>?_) (fun hce=>?_)
 ·refine Wm z ?_
  have hf:=lt_ G.s s1.s;obtain ⟨_,ax,ai⟩:=bdS<|ifT hms hce;refine E z (fc call148 z<|W_w3h ax (zt' J<|lt_ (lt_ hf h2.s) h3.s) ((((hG.e G).e s1).e h2).c h3<|g_ (or0 (e_ lr) (m_<|zt' J hf):∀k∈[L.z],¬B k)) af) ?_;rintro _ _ ⟨ay,rfl,aA⟩;refine Rw z ?_
  obtain rfl:=som ai;exact Wr<|rtO<|d_ hr z ⟨bup (bM (bup (bup G s1) h2) h3<|m1 hf) ay,z,aA⟩
 refine Wq ?_;obtain ⟨aB,Y,a0⟩:=bdS<|ifF hms hce;refine Wt (fun a w=>∃(xg:Bool),xg=aB/\Sat 58 [(2,vI x3),(7,pt L.z),(27,vB xg)] a/\Below wa.z wa w) ?_ ?_
 ·refine Wg<|Rf z a_x z<|R z (l0 g_3 z<|O.at z)<|Rq z z z<|Rm z ?_
  rcases bs (V.kind==6) with H | H
  ·refine Rh z H (mv z)<|Rh z H (fd b_M z)<|Rh z H (l0 a_T z<|O.at z) ?_
   exact Rh z H (lnR Q_ z<|aa.g<|(h2.ag B).c h3<|g_ (or0 (e_ lr) (m_<|zt' J<|lt_ G.s s1.s):∀k∈[L.z],¬B k))<|Rh z H (lss z z)<|R z (pT z H z)<|Ra z<|Wl (fun _ q=>⟨decide<|x3<(V.names.length:Int),som<|ifT Y H,q.k<|s3 z z z,br wa⟩)
  iterate 5 refine Nh z H ?_
  exact R z (pF z H z)<|Ra z<|Wl (fun _ q=>⟨false,som<|ifF Y H,q.k<|s3 z z z,br wa⟩)
 rintro aC _ ⟨xg,rfl,_,s6⟩;revert aC;refine Wo<|Wc z (fun hch=>?_) (fun hch=>?_)
 ·refine Ws<|Rf z b_M z<|R z (l0 a_T z<|(O.e s6).at z)<|Rm z ?_
  obtain ⟨_,aD,aj⟩:=bdS<|ifT a0 hch;have ad:=lt_ G.s s1.s;refine RX z (at_ (α:=Str) Q_ z_9 z z z (aa.g<|((h2.ag B).c h3<|g_ (or0 (e_ lr) (m_<|zt' J ad):∀k∈[L.z],¬B k)).e s6) aD) ?_;rintro _ ⟨_,_,_,rfl,aE,aF,_⟩;obtain ⟨rfl,aG⟩:=b_9 aF;refine R z (l0 g_9 z<|aE.at0 z)<|Rw z ?_
  obtain rfl:=som aj;exact Wr<|rtO<|d_ hr z ⟨bup (bM (bup (bup G s1) h2) h3<|m1 ad) s6,z,aG⟩
 have a1:=ifF a0 hch;refine Wm z<|R z (a_z z z)<|Rw z<|Wc z (fun hci=>?_) (fun hci=>?_)
 ·refine Ws<|Rw z ?_
  obtain rfl:=som<|ifT a1 hci;exact Wr<|rtO<|d_ hr z ⟨bup (bM (bup (bup G s1) h2) h3<|m1<|lt_ G.s s1.s) s6,z,lb z⟩
 have a2:=ifF a1 hci;refine Ws<|Rf z a_x z ?_
 have hj:=O.e s6;refine R z (l0 g_3 z<|hj.at z)<|Rq z z z<|Rw z<|Wc z (fun hck=>?_) (fun hck=>?_)
 ·refine Ws<|Rw z ?_
  obtain rfl:=som<|ifT a2 hck;exact Wr<|rtO<|d_ hr z ⟨bup (bM (bup (bup G s1) h2) h3<|m1<|lt_ G.s s1.s) s6,z,lb z⟩
 have a3:=ifF a2 hck;refine Ws<|Rf z a_x z<|R z (l0 g_3 z<|hj.at z)<|Rq z z z<|Rw z<|Wc z (fun hcl=>?_) (fun hcl=>?_)
 ·refine Ws<|Rw z ?_
  obtain rfl:=som<|ifT a3 hcl;exact Wr<|rtO<|d_ hr z ⟨bup (bM (bup (bup G s1) h2) h3<|m1<|lt_ G.s s1.s) s6,z,lb z⟩
 have a4:=ifF a3 hcl;refine Ws<|Rf z a_x z<|R z (l0 g_3 z<|hj.at z)<|Rq z z z<|Rw z<|Wc z (fun hcm=>?_) (fun hcm=>?_)
 ·refine Ws<|Rw z ?_
  obtain rfl:=som<|ifT a4 hcm;exact Wr<|rtO<|d_ hr z ⟨bup (bM (bup (bup G s1) h2) h3<|m1<|lt_ G.s s1.s) s6,z,lb z⟩
 refine Wk<|Ws<|Rw z ?_
 obtain rfl:=som<|ifF a4 hcm;exact Wr<|d_ hr z ⟨bup (bM (bup (bup G s1) h2) h3<|m1<|lt_ G.s s1.s) s6,z,lb z⟩
theorem W_w3j {x1:f_}{x2:Int}{x3:Val}{x4:Str}{res:Int}(hm:d_X n x1 x2 x3 x4=some res)(O:B<=w0.z)(hG:Gl w0 B)(V:repS w0 B (sl A0 N0 C0) x1.rules)(W:inI x2)(b8:inI x3.number)(b9:repS w0 B (sl A6 N6 C6) x3.bytes)(aC:repS w0 B (sl A7 N7 C7) x3.items)(Y:x4.b.length<=LEN):k_ prog 111 [(.agg #[sl A0 N0 C0]),vI x2,.agg #[vI x3.number,sl A6 N6 C6,sl A7 N7 C7],Str.v x4] w0 (Q0 w0 B res):=by
 unfold d_X at hm
 refine goG func111 z z z fun fn hr=>Ws<|E z (fb z) ?_
 rintro _ wg ⟨rfl,hq⟩;have ha:=hq.below;have ht:Blk wg w0.z [sl A0 N0 C0]:=hq.blk;refine E z (fb z) ?_;rintro _ wh ⟨rfl,hu⟩;have L:=hu.below;have hv:Blk wh wg.z [vI x3.number,sl A6 N6 C6,sl A7 N7 C7]:=hu.blk;refine E z (fb z) ?_;rintro _ wr ⟨rfl,hw⟩;have h4:=hw.below;have hb:Blk wr wh.z [Str.v x4]:=hw.blk;refine Rw z<|Wq<|Ws ?_
 have hx:=(ht.e L).e h4;refine R z (lN (vs:=[sl A0 N0 C0]) v_ u_ z z fid<|hx.row 0 1 z)<|Rm z ?_
 have hy:=((ha.ag B).e L).e h4;have hd:=lt_ (lt_ ha.s L.s) h4.s;have hz:=zt' O hd;obtain ⟨_,aI,hms⟩:=bdS hm;refine E z (fc call67 z<|i_L (B:=B) aI hz (V.g hy) W) ?_;rintro _ wi ⟨G,rfl⟩;refine R z (not_ z)<|Wx z (fun hcj=>?_) (fun hcj=>?_)
 ·refine Ws<|Rw z ?_
  obtain rfl:=som<|ifT hms hcj;exact Wr<|d_ hr z ⟨bup (bup (bup ha L) h4) G,z,ii z⟩
 refine Wk<|Ws<|Rw z<|Wq<|Ws<|Rf z a_d z ?_
 have a8:=hx.e G;refine R z (l0 a_g z<|a8.at z)<|Rm z ?_
 obtain ⟨a9,aJ,aD⟩:=bdS<|ifF hms hcj;have aa:=hy.e G;refine RX z (at_ (α:=b_) P_ r_ z z z (V.g aa) aJ) ?_;rintro _ ⟨_,_,_,rfl,aK,aL,_⟩;obtain ⟨ab,ad,ae,af,ah,ai,aj,ak,al,am,an,ao,rfl,_,_,_,_,aM,_,_⟩:=a_A aL;refine R z (lN (vs:=vR a9 ab ad ae af ah ai aj ak al am an ao) G_ r_ z z fid aK)<|E z (fa c_8) ?_
 rintro _ aN ⟨rfl,ap⟩;have h1:=ap.below;refine E0 (fs0 (cur':=vR a9 ab ad ae af ah ai aj ak al am an ao) r_ z z (ap.blk:Blk aN wi.z [(Str.v (⟨[]⟩:Str)),vI 0,vI 0,vB false,sl none 0 0,sl none 0 0,sl none 0 0,sl none 0 0]) z z z z) ?_;rintro _ we ⟨aq,aO⟩;have h2:=aO.one;refine Wn<|Ws<|Rf z a_x z<|R z (l0 g_3 z<|aq.at z)<|Wn<|Wb<|Ws<|Rq z z z<|Rw z ?_
 obtain ⟨aP,a0,a1⟩:=bdS aD;refine Wt (fun a w=>∃(xc:Int),Sum.inl xc=aP/\Sat 62 [(1,vI x2),(4,pt w0.z),(6,pt wg.z),(7,pt wh.z),(9,vI xc)] a/\Below we.z we w/\inI xc) ?_ ?_
 ·refine Wc z (fun hck=>?_)<|fun hck=>?_
  ·refine Ws<|R z (l0 g_9 z<|(((hb.e G).e h1).c h2<|djs<|mm1 hb.lt G.s).at z) ?_
   have ar:=lt_ hd G.s;obtain ⟨aQ,_,aR,a2⟩:=a_n<|ifT a0 hck;refine E z (fc call136 z<|W_w1v aR (zt' O<|lt_ (lt_ ar h1.s) h2.s) Y) ?_;rintro _ _ ⟨au,rfl,aS⟩;refine Rm z<|Re z z z<|Re z z z<|Ra z<|Rw z<|Wq<|Wm z<|R z (not_ z)<|Wx z (fun hcl=>?_) (fun hcl=>?_)
   ·refine Ws<|Rw z ?_
    obtain rfl:=som<|ifT a2 hcl;have aE:=elR a1;obtain rfl:=som aE;exact Wr<|rtO<|d_ hr z ⟨bup (bM (bup (bup (bup (bup ha L) h4) G) h1) h2<|m1 ar) au,z,ii z⟩
   exact Wk<|Wg<|Rm z<|Ra z<|Wl (fun _ q=>⟨aQ,som<|ifF a2 hcl,q.k<|s5 z z z z z,au,aS⟩)
  refine Ws<|Rq z z z<|Rw z ?_
  obtain ⟨aT,a3,aF⟩:=bdS<|ifF a0 hck;refine Wt (fun a w=>∃(xf:Int),xf=aT/\Sat 62 [(1,vI x2),(4,pt w0.z),(6,pt wg.z),(7,pt wh.z),(9,vI xf)] a/\Below we.z we w/\inI xf) ?_ ?_
  ·refine Wc z (fun hcm=>?_)<|fun hcm=>?_
   ·refine Wg<|Rf z b_M z<|R z (l0 a_T z<|aq.at z)<|R z (h_O z) ?_
    obtain ⟨aU,aV,aG⟩:=bdS<|ifT a3 hcm;refine E z (fc call137 z<|W_w3g (B:=wr.z) aV (a_I<|lt_ (lt_ G.s h1.s) h2.s) (repS.mono (aM.g<|(h1.ag B).c h2<|g_ (or0 (e_ lr) (m_<|zt' O<|lt_ hd G.s):∀k∈[wi.z],¬B k)) hz) Y ((((hb.e G).e h1).c h2<|djs<|mm1 hb.lt G.s).row 0 1 z) hb.lt) ?_;rintro _ _ ⟨aW,rfl,aX⟩;exact Ra z<|Wl (fun _ q=>⟨aU,som aG,q.k<|s5 z z z z z,aW,aX⟩)
   exact a_h<|fun _ q=>⟨0,som<|ifF a3 hcm,q.k<|s5 z z z z z,br we,ii z⟩
  rintro aY _ ⟨xf,rfl,_,aZ,b0⟩;revert aY;exact fun _ q=>⟨xf,som aF,q.k<|s5 z z z z z,aZ,b0⟩
 rintro b3 av ⟨xc,rfl,_,s9,aw⟩;have aH:=elL a1;revert b3;refine Wo<|Wq<|Wq ?_
 obtain ⟨b4,a4,a5⟩:=bdS aH;refine Wt (fun a w=>∃(xn:Bool),xn=b4/\Sat 62 [(9,vI xc),(60,vB xn)] a/\Below av.z av w) ?_ ?_
 ·refine Wd (X:=noX) 0 (.rd 0<|.rd 1<|.rd 2<|.rd 3<|.rd 4<|.rd 5<|.rd 6<|.rd 7<|.rd 8<|.rd 9<|.rd 10<|.rd 11<|.rd 12<|.rd 14<|.ef 13<|.rd 15<|.rd 16<|.rd 17<|.rd 18<|.rd 19<|.rd 20 .done) mo (by kernel_rfl) fun ba s6 _=>dM z z z<|dR z z (lss z z)<|dM z z z ?_
  rcases bs (decide<|xc<0) with I | I
  ·iterate 5 refine dRn z z z I z ?_
   refine dR z z (pT z I z)<|dM z z z ?_
   iterate 4 refine dRn z z z z z ?_
   exact dEn z z z z z<|dRn z z z z z<|dR z z (pT z z z)<|dM z z z<|dRn z z z z z<|dRn z z z z z<|dR z z (pT z z z)<|pD (fun _ q=>⟨true,som<|ifT a4 I,q.k<|s2 z z,s6⟩)
  have a6:=ifF a4 I;refine dRg z z z I z (mv z)<|dRg z z z I z (fd Y_ z)<|dRg z z z I z (l0 a_6 z<|((((((hv.e h4).e G).e h1).c h2<|djs<|mm1 hv.lt<|lt_ h4.s G.s).e s9).e s6).at z) ?_
  have ax:=lt_ hd G.s;have ay:∀k∈[wi.z],¬B k:=or0 (e_ lr)<|m_<|zt' O ax;have az:=(((aa.e h1).c h2<|g_ ay).e s9).e s6;refine dRg z z z I z (lnR Z_ z<|aC.g az)<|dRg z z z I z (b_k z z)<|dR z z (pF z I z)<|dM z z z ?_
  rcases bs (decide<|(x3.items.length:Int)<=xc) with H | H
  ·iterate 4 refine dRn z z z H z ?_
   exact dEn z z z H z<|dRn z z z H z<|dR z z (pT z H z)<|dM z z z<|dRn z z z z z<|dRn z z z z z<|dR z z (pT z z z)<|pD (fun _ q=>⟨true,som<|ifT a6 H,q.k<|s2 z z,s6⟩)
  refine dRg z z z H z (lN (vs:=[sl A0 N0 C0]) v_ u_ z z fid<|((((a8.e h1).c h2<|djs<|mm1 ht.lt<|lt_ (lt_ L.s h4.s) G.s).e s9).e s6).row 0 1 z)<|dRg z z z H z (mv z)<|dRg z z z H z (mv z) ?_
  have aA:=((((hb.e G).e h1).c h2<|djs<|mm1 hb.lt G.s).e s9).e s6;refine dRg z z z H z (l0 g_9 z<|aA.at z) ?_;obtain ⟨b5,b6,a7⟩:=bdS<|ifF a6 H;refine dEg z z z H z (fc call139 z<|W_w3i b6 (zt' O<|lt_ (lt_ (lt_ (lt_ ax h1.s) h2.s) s9.s) s6.s) ((((((((hG.e ha).e L).e h4).e G).e h1).c h2<|g_ ay).e s9).e s6) (V.g az) W aw) (.inr fun _ _ h=>o_<|h.1) ?_;rintro _ _ ⟨so,rfl,_⟩;refine dRg z z z H z (f_t z z)<|dR z z (pF z H z)<|dM z z z ?_
  rcases bs (b5.b != x4.b) with J | J
  ·exact dRn z z z J z<|dRn z z z J z<|dR z z (pT z J z)<|pD (fun _ q=>⟨true,som<|ifT a7 J,q.k<|s2 z z,bup s6 so⟩)
  exact dRg z z z J z (l0 g_9 z<|(aA.e so).at z)<|dRg z z z J z (b_y z z)<|dR z z (pF z J z)<|pD (fun _ q=>⟨x4.b==(⟨[]⟩:Str).b,som<|ifF a7 J,q.k<|s2 z z,bup s6 so⟩)
 rintro b7 _ ⟨xn,rfl,_,aB⟩;revert b7;refine Wo<|Wc z (fun hcp=>?_) (fun hcp=>?_)
 ·refine Ws<|Rw z ?_
  obtain rfl:=som<|ifT a5 hcp;exact Wr<|d_ hr z ⟨bup (bup (bM (bup (bup (bup (bup ha L) h4) G) h1) h2<|m1<|lt_ hd G.s) s9) aB,z,ii z⟩
 refine Wk<|Wm z<|Rw z ?_
 obtain rfl:=som<|ifF a5 hcp;exact Wr<|d_ hr z ⟨bup (bup (bM (bup (bup (bup (bup ha L) h4) G) h1) h2<|m1<|lt_ hd G.s) s9) aB,z,aw⟩
def Q27 (w0:World)(H:Nat)(S:List Nat)(r:(Option<|Val×(Val->Val))×Int)(v:Value)(w':World):Prop:=Bw w0 w'/\un2 (fun I G=>∃(v1:Value),v = .tuple #[v1,(vI G)]/\holeO w0 H S v1 I/\inI G) r
theorem W_w3k {n:Nat}{B:Zone}{x1:f_}{A0:Option Addr}{N0 C0:Nat}{x2:Val}{b2 o2 g0:Nat}{S:List Nat}{x3:List Str}{A9:Option Addr}{N9 C9:Nat}{res:(Option<|Val×(Val->Val))×Int}{w0:World}(hm:i_1 n x1 x2 x3=some res)(a9:B<=w0.heap.size)(hG:Gl w0 B)(a4:repS w0 B (sl A0 N0 C0) x1.rules)(hH:b_H w0 g0 S b2 o2 x2 (fun y=>y))(hS:∀j∈g0::S,B j)(a5:repS w0 B (sl A9 N9 C9) x3):k_ Tryz.prog 71 [.agg #[.slice A0 N0 C0],.pointer<|some ⟨b2,o2,none⟩,sl A9 N9 C9] w0 (Q27 w0 g0 S res):=by
  unfold i_1 at hm
  obtain ⟨fn,hf,hb,hN,hr⟩:=fnE Tryz.func71;refine e_J hf (hb.trans rfl) (hN.trans rfl) (Nat.le_of_ble_eq_true rfl) ?_;refine O_<|a_b ?_;refine E rfl (c_v rfl) ?_;rintro _ aa ⟨rfl,ay⟩;have a2:=ay.below;have az:Blk aa w0.heap.size [.slice A0 N0 C0]:=ay.blk;refine R rfl (a_y rfl) ?_;refine R rfl (a_y rfl) ?_;refine a_0<|WC.of_KC ?_;refine O_<|a_b ?_;refine R rfl (b_5 (vs:=[.slice A0 N0 C0]) v_ u_ rfl rfl (fun h=>h)<|az.row 0 1 rfl) ?_;obtain ⟨_,b8,aM⟩:=bdS hm;refine E rfl (b_e Tryz.call44 rfl<|g_Q b8 (zt' a9 a2.size)<|a4.ext a2) ?_;rintro _ _ ⟨ab,rfl,b9⟩;refine R rfl (a_y rfl) ?_;refine a_0<|WC.of_KC ?_;refine O_<|O_<|a_b ?_;refine R rfl (a_c rfl) ?_;refine R rfl (g_b Q_ rfl<|a5.g<|(a2.ag B).e ab) ?_;refine R rfl (a_c rfl) ?_;refine a_0<|WC.of_KC ?_;obtain ⟨_,aA,ad⟩:=bdS aM;refine i_8 (σ:=(Val×(Val->Val))×Int) (ρ:=(Option<|Val×(Val->Val))×Int) (fun (a6:Nat) s a w=>un2 (fun I J=>∃(H G:Nat),Sat 43 [(1,.pointer<|some ⟨H,G,none⟩),(3,pt w0.heap.size),(8,vI J),(14,sl A9 N9 C9),(15,vI (x3.length:Int)),(16,vI ((a6:Nat):Int))] a/\Below w0.heap.size w0 w/\Below aa.heap.size aa w/\b_H w0 g0 S H G I.1 I.2/\inI J) s) (fun s a w=>un2 (fun I J=>∃(H G:Nat),Sat 43 [(1,.pointer<|some ⟨H,G,none⟩),(8,vI J)] a/\Below w0.heap.size w0 w/\b_H w0 g0 S H G I.1 I.2/\inI J) s) (fun r ex a w=>ex = .ret/\b_S Tryz.prog fn (Q27 w0 g0 S r) a w) aA ?_ ?_ ?_ ?_ ?_
  · exact fun a' ha'=>⟨b2,o2,ha'.weaken<|sc rfl<|sc rfl<|sc rfl<|sc rfl<|sc rfl<|sc rfl sn,bup a2 ab,ab,hH,b9⟩
  · rintro a6 ⟨I,J⟩ bh ah bi ae ⟨H,G,aB,a0,ai,O,V⟩ aC
    obtain ⟨_,aj,aN,aO⟩:=O.rd a0 hS;obtain ⟨aP,aQ,aR,ak,al,am,rfl,an,ao,a7⟩:=c_a aN;refine f_q (e:=[(1,.pointer<|some ⟨H,G,none⟩),(3,pt w0.heap.size),(8,vI J),(14,sl A9 N9 C9),(15,vI (x3.length:Int)),(16,vI ((a6:Nat):Int))]) (N:=43) ?_ aB;refine O_<|a_b<|R rfl (d_Z rfl rfl)<|a_0<|WC.of_KC ?_;refine O_<|b_F rfl (fun _=>?_)<|fun hc=>(U_ ae hc).elim;refine a_h<|WC.of_KC ?_;refine O_<|d_H<|O_<|a_b ?_;obtain ⟨_,aS,aD⟩:=bdS<|a_P aC;refine RX rfl (g_c (α:=Str) Q_ z_9 rfl rfl rfl (a5.g<|a0.ag B) aS) ?_;rintro _ ⟨_,_,_,rfl,aT,aU,_⟩;obtain ⟨rfl,aV⟩:=b_9 aU;refine R rfl (c_c g_9 rfl (fun h=>h)<|aT.at0 rfl) ?_;refine R rfl (a_y rfl) ?_;refine a_0<|WC.of_KC ?_;refine O_<|f_g (X:=noX) 0 (pl_ 8 [6]) mo (by kernel_rfl) fun bj L _=>?_;have ap:=az.ext<|bup ai L;refine dR rfl rfl (b_5 (vs:=[.slice A0 N0 C0]) v_ u_ rfl rfl (fun h=>h)<|ap.row 0 1 rfl) ?_;refine dR rfl rfl (a_c rfl) ?_;refine dR rfl rfl (a_c rfl) ?_;refine dR rfl rfl (N_ rfl) ?_;have aq:=aj.ext L;refine dR rfl rfl (b_5 (vs:=[vI I.1.number,sl aP aQ aR,sl ak al am]) l_ c_ rfl rfl (fun h=>h) aq) ?_;refine dR rfl rfl (a_c rfl) ?_;have a1:=bup a0 L;obtain ⟨aW,aX,af⟩:=bdS aD;refine dE rfl rfl (b_e Tryz.call111 rfl<|W_w3j aX (zt' a9 a1.size) (hG.ext a1) (a4.ext a1) V an (ao.ext L) (a7.ext L) aV) (.inr fun _ _ h=>o_<|h.1) ?_;rintro _ _ ⟨W,rfl,aY⟩;refine dR rfl rfl (a_y rfl) ?_;refine e_r<|WC.of_KC ?_;refine O_<|O_<|a_b ?_;refine R rfl (a_c rfl) ?_;refine R rfl (d_Z rfl rfl) ?_;refine a_0<|WC.of_KC ?_;have ar:=bup a1 W;refine b_F rfl (fun a3=>?_)<|fun a3=>?_
    · have aE:=ifT af a3
      refine O_<|a_b ?_;refine R rfl (a_y rfl) ?_;refine R rfl (a_y rfl) ?_;refine a_0<|WC.of_KC ?_;exact b_E<|rtO<|h_Y (som aE).symm (a_9 hr rfl rfl ⟨ar,.pointer none,rfl,rfl,l_p _ rfl⟩)
    · have aF:=ifF af a3
      refine a_h<|WC.of_KC ?_;refine f_g (X:=noX) 0 (.rd 0<|.rd 1<|.rd 2<|.rd 3<|.rd 5<|.rd 6<|.rd 7<|.rd 8<|.rd 9<|.rd 10<|.ef 4<|.rd 11<|.rd 12 .done) mo (by kernel_rfl) fun bk Y _=>?_
      refine dR rfl rfl (b_5 (vs:=[.slice A0 N0 C0]) v_ u_ rfl rfl (fun h=>h)<|((ap.ext W).ext Y).row 0 1 rfl) ?_;refine dR rfl rfl (a_c rfl) ?_;refine dR rfl rfl (a_c rfl) ?_;refine dR rfl rfl (a_c rfl) ?_;refine dR rfl rfl (a_c rfl) ?_;refine dR rfl rfl (N_ rfl) ?_;refine dR rfl rfl (g_t Y_ rfl) ?_;have au:=(aq.ext W).ext Y;refine dR rfl rfl (c_c a_6 rfl (fun h=>h)<|au.at (j:=2) rfl) ?_;refine dR rfl rfl (a_c rfl) ?_;obtain ⟨aZ,av,aG⟩:=bdS aF;have a8:=bup ar Y;obtain ⟨aw,⟨_,n0,c0,_,ba,bb⟩,bc⟩:=O.step av;obtain ⟨i0,_,i2⟩:=a_o av
      have hcell:ah.cell? ⟨H,G+2,none⟩=some (sl (some ⟨aw,0,none⟩) n0 c0):=by
        have:=((ba.ext a0).row G 3 bb) 2 _ rfl;exact this
      have hcell2:ah.cell? ⟨H,G+2,none⟩=some (sl ak al am):=aj 2 _ rfl
      rw [hcell] at hcell2
      simp only [Option.some.injEq,Value.slice.injEq] at hcell2
      obtain ⟨rfl,rfl,rfl⟩:=hcell2
      have be:n0=I.1.items.length:=by
        obtain ⟨_,_,he,_⟩:=a7
        cases he;rfl
      refine dR rfl rfl (i_a Z_ c_ rfl rfl i0 (by rw [be];exact i2)) ?_;obtain ⟨b0,b3,aH⟩:=bdS aG;refine dE rfl rfl (b_e Tryz.call112 rfl<|k_L b3 (zt' a9 a8.size) (a4.ext a8) V an ((ao.ext L).ext (bup W Y)) ((a7.ext L).ext (bup W Y)) au aO aY) (.inr fun _ _ h=>o_<|h.1) ?_;rintro _ _ ⟨ax,rfl,b4⟩;refine dR rfl rfl (a_y rfl) ?_;refine dR rfl rfl (a_y rfl) ?_;refine e_r<|WC.of_KC ?_;refine a_b ?_;refine R rfl (g_7 ae (Nat.le_trans (repS.len a5) D_) rfl rfl) ?_;refine R rfl (a_c rfl) ?_;refine a_0 ?_
      rw [Nat.zero_add]
      exact fun a' ha'=>⟨((aZ,fun z=>I.2<|.mk I.1.number I.1.bytes<|I.1.items.set aW.toNat z),b0),(som aH).symm,⟨aw,_,ha'.weaken<|sc rfl<|sc rfl<|sc rfl<|sc rfl<|sc rfl<|sc rfl sn,bup a8 ax,bup (bup (bup (bup ai L) W) Y) ax,bc,b4⟩⟩
  · rintro ⟨I,J⟩ bm bn ⟨H,G,aI,b5,bo,O,V⟩
    refine f_q (e:=[(1,.pointer<|some ⟨H,G,none⟩),(3,pt w0.heap.size),(8,vI J),(14,sl A9 N9 C9),(15,vI (x3.length:Int)),(16,vI ((x3.length:Nat):Int))]) (N:=43) ?_ aI;refine O_<|a_b<|R rfl (d_Z rfl rfl)<|a_0<|WC.of_KC ?_;refine O_<|b_F rfl (fun hc=>(V_ hc).elim)<|fun _=>?_;exact g_1<|fun a' ha'=>⟨rfl,⟨H,G,ha'.weaken<|sc rfl<|sc rfl sn,b5,O,V⟩⟩
  · rintro ⟨I,J⟩ b6 bp rfl ⟨H,G,bf,b7,O,V⟩
    have aJ:=elL ad;revert b6;refine WC.of_KC ?_;refine O_<|a_b ?_;refine R rfl (a_c rfl) ?_;refine R rfl (a_c rfl) ?_;refine R rfl (a_y rfl) ?_;refine R rfl (a_y rfl) ?_;refine a_0<|WC.of_KC ?_;obtain rfl:=som<|a_P aJ;exact b_E<|a_9 hr rfl rfl ⟨b7,.pointer<|some ⟨H,G,none⟩,rfl,⟨H,G,rfl,O⟩,V⟩
  · rintro bq bg br bs rfl ⟨rfl,aK⟩
    have aL:=elR ad;obtain rfl:=som aL;exact ⟨aK,rfl⟩
def r_E (wb w0:World)(H b:Nat)(S:List Nat)(k:Val->Val)(y:Val)(G:Bool)(v:Value)(w':World):Prop:=vB G=v/\Chg (· = b) w0 w'/\(G=true->∃c' S',Blk w' H c'/\own w' S' c' (k y)/\S'.Nodup/\(∀j∈S',j∈S∨wb.heap.size<=j))
theorem W_w3l {n:Nat}{B:Zone}{x1:f_}{A0:Option Addr}{N0 C0:Nat}{x4 y x:Val}{AH AI:Option Addr}{NH CH NI CI:Nat}{gd gp b o V:Nat}{rule:Int}{G:Bool}{S:List Nat}{k:Val->Val}{wb w0:World}(hv:d_n n x1 rule x4=some G)(hy:G=true->d_2 n x4=some y)(L:B<=w0.heap.size)(W:repS w0 B (sl A0 N0 C0) x1.rules)(hru:inI rule)(H:inI x4.number)(I:repS w0 B (sl AH NH CH) x4.bytes)(J:repS w0 B (sl AI NI CI) x4.items)
    (kd:Blk w0 gd [.slice A0 N0 C0]) (kp:Blk w0 gp [vI x4.number,sl AH NH CH,sl AI NI CI]) (hH:b_H wb V S b o x k) (hb:Below wb.heap.size wb w0) :
    k_ Tryz.prog 46 [.pointer (some ⟨b,o,none⟩),vI rule,pt gd,pt gp] w0 (r_E wb w0 V b S k y G):=by
  obtain ⟨_,hf,hb',hN,hr⟩:=fnE Tryz.func46;refine e_J hf (hb'.trans rfl) (hN.trans rfl) (Nat.le_of_ble_eq_true rfl) ?_;refine O_<|a_b ?_;refine R rfl (a_y rfl) ?_;refine a_0<|WC.of_KC ?_;refine O_<|O_<|a_b ?_;refine R rfl (b_5 (vs:=[.slice A0 N0 C0]) v_ u_ rfl rfl (fun h=>h)<|kd.row 0 1 rfl) ?_;refine R rfl (a_c rfl) ?_;refine R rfl (b_5 (vs:=[vI x4.number,sl AH NH CH,sl AI NI CI]) l_ c_ rfl rfl (fun h=>h)<|kp.row 0 3 rfl) ?_;refine E rfl (b_e Tryz.call47 rfl<|k_N (B:=B) hv L W hru H I J) ?_;rintro _ _ ⟨s1,rfl⟩;refine R rfl (d_7 rfl) ?_;refine a_0<|WC.of_KC ?_;refine b_F rfl (fun hc=>?_)<|fun hc=>?_
  · obtain rfl:G=false:=by cases G <;> simp_all
    refine O_<|a_b ?_;refine R rfl (a_y rfl) ?_;refine a_0<|WC.of_KC ?_;exact b_E (d_ hr rfl ⟨rfl,(Chg.refl _ w0).ext s1,fun h=>by cases h⟩)
  · obtain rfl:G=true:=by cases G <;> simp_all
    refine a_h<|WC.of_KC ?_;refine O_<|a_b ?_;refine R rfl (a_c rfl) ?_;refine R rfl (b_5 (vs:=[vI x4.number,sl AH NH CH,sl AI NI CI]) l_ c_ rfl rfl (fun h=>h)<|(kp.ext s1).row 0 3 rfl) ?_;refine E rfl (b_e Tryz.call48 rfl<|g_R.run (B:=B) (hy rfl) (zt' L s1.size) H (I.ext s1)<|J.ext s1) ?_;rintro _ _ ⟨s2,a1,n1,c1,_,a2,n2,c2,_,rfl,q0,q1,q2,qn,qs⟩;refine R rfl (N_ rfl) ?_;obtain ⟨cur,hB,hlen,_,hput⟩:=hH.put (bup hb<|bup s1 s2) (c_k q0 q1 q2) qn<|fun j hj=>Nat.le_trans hb.size<|Nat.le_trans s1.size<|qs j hj;refine E0 (a_X (cur':=cur.take o++[vI y.number,sl a1 n1 c1,sl a2 n2 c2]++cur.drop (o+3)) c_ rfl rfl hB rfl hlen (b_3 rfl) rfl) ?_;rintro _ w3 ⟨Y,O⟩;refine a_0<|WC.of_KC ?_;refine O_<|a_b ?_;refine R rfl (a_y rfl) ?_;refine a_0<|WC.of_KC ?_;exact b_E<|d_ hr rfl ⟨rfl,((Chg.refl _ w0).ext (bup s1 s2)).comp O (fun _ _ h=>h),fun _=>hput w3 Y O⟩
def n_h (w0:World)(B:Zone)(r:Val×Bool)(v:Value)(w':World):Prop:=Bw w0 w'/\un2 (fun G V=>∃(H:Option Addr)(I J:Nat)(S1:List Nat)(a2:Option Addr)(L O:Nat)(S2:List Nat),v = .tuple #[(.agg #[vI G.number,sl H I J,sl a2 L O]),vB V]/\inI G.number/\a_ w' S1 (sl H I J) G.bytes/\a_ w' S2 (sl a2 L O) G.items/\(S1++S2).Nodup/\(∀k∈(S1++S2),w0.heap.size<=k)) r
theorem W_w3m {n:Nat}{B:Zone}{x1:f_}{A0:Option Addr}{N0 C0:Nat}{x2:Val}{AA AB:Option Addr}{NA CA NB CB:Nat}{x3:Str}{x4:Val}{AH AI:Option Addr}{NH CH NI CI:Nat}{gd gp:Nat}{res:Val×Bool}{w0:World}(hm:f_m n x1 x2 x3 x4=some res)(O:B<=w0.heap.size)(hG:Gl w0 B)(aa:repS w0 B (sl A0 N0 C0) x1.rules)(a5:inI x2.number)(a6:repS w0 B (sl AA NA CA) x2.bytes)(a7:repS w0 B (sl AB NB CB) x2.items)(aU:x3.b.length<=LEN)(aV:inI x4.number)(aW:repS w0 B (sl AH NH CH) x4.bytes)(aX:repS w0 B (sl AI NI CI) x4.items)
    (kd:Blk w0 gd [.slice A0 N0 C0]) (kp:Blk w0 gp [vI x4.number,sl AH NH CH,sl AI NI CI]) :
    k_ Tryz.prog 45 [.agg #[.slice A0 N0 C0],.agg #[vI x2.number,sl AA NA CA,sl AB NB CB],Str.v x3,.func (.func 46) #[] #[pt gd,pt gp]] w0 (n_h w0 B res):=by
  unfold f_m at hm
  obtain ⟨_,hf,hb,hN,hr⟩:=fnE Tryz.func45;refine e_J hf (hb.trans rfl) (hN.trans rfl) (Nat.le_of_ble_eq_true rfl) ?_;refine O_<|a_b ?_;refine E rfl (c_v rfl) ?_;rintro _ al ⟨rfl,aA⟩;have aB:=aA.below;refine E rfl (c_v rfl) ?_;rintro _ W ⟨rfl,aC⟩;have am:=aC.below;refine E rfl (d_p L_) ?_;rintro _ be ⟨rfl,aD⟩;have an:=aD.below;refine R rfl (a_y rfl) ?_;refine a_0<|WC.of_KC ?_;have aE:=bup (bup aB am) an;refine O_<|a_b ?_;refine R rfl (a_c rfl) ?_;obtain ⟨bf,bg,bh,aY⟩:=a_n hm;refine E rfl (b_e Tryz.call70 rfl<|W_w3b bh (zt' O aE.size) aU) ?_;rintro _ aF ⟨af,aG,aH,aI,_,rfl,bi,_,_⟩;refine R rfl (a_c rfl) ?_;refine R rfl (d_6 rfl rfl) ?_;refine R rfl (d_6 rfl rfl) ?_;refine R rfl (a_y rfl) ?_;refine R rfl (a_y rfl) ?_;refine a_0<|WC.of_KC ?_;have aJ:=bup aE af;have ao:=(aA.blk:Blk al w0.heap.size [.slice A0 N0 C0]).ext (bup (bup am an) af);have aK:=(aC.blk:Blk W al.heap.size [vI x2.number,sl AA NA CA,sl AB NB CB]).ext (bup an af);have ab:w0.heap.size<=W.heap.size:=Nat.le_trans aB.size am.size;refine O_<|O_ ?_;obtain ⟨bj,av,aw⟩:=bdS aY;refine h_Q (fun a w=>∃(ap:Bool),ap=bj/\Sat 52 [(3,.func (.func 46) #[] #[pt gd,pt gp]),(4,pt w0.heap.size),(5,pt al.heap.size),(8,pt W.heap.size),(10,sl aG aH aI),(29,vB ap)] a/\Below aF.heap.size aF w) ?_ ?_
  · refine f_g (X:=noX) 0 (.rd 0<|.rd 1<|.rd 2<|.rd 3<|.rd 4<|.rd 6<|.ef 5<|.ef 7<|.rd 8<|.rd 9 .done) mo (by kernel_rfl) fun bx a3 _=>?_
    refine dR rfl rfl (a_c rfl) ?_;refine dR rfl rfl (d_7 rfl) ?_;refine dR rfl rfl (a_c rfl) ?_
    rcases h_U (!bg) with G | G
    · have aZ:=ifT av G
      refine dRn rfl rfl rfl G rfl ?_;refine dRn rfl rfl rfl G rfl ?_;refine dRn rfl rfl rfl G rfl ?_;refine dEn rfl rfl rfl G rfl ?_;refine dEn rfl rfl rfl G rfl ?_;refine dRn rfl rfl rfl G rfl ?_;refine dR rfl rfl (g_8 rfl G rfl) ?_;refine e_r ?_;exact fun a' ha'=>⟨true,som aZ,ha'.weaken<|sc rfl<|sc rfl<|sc rfl<|sc rfl<|sc rfl<|sc rfl sn,a3⟩
    · have b0:=ifF av G
      have aq:=bup aJ a3;refine dRg rfl rfl rfl G rfl (b_5 (vs:=[.slice A0 N0 C0]) v_ u_ rfl rfl (fun h=>h)<|(ao.ext a3).row 0 1 rfl) ?_;refine dRg rfl rfl rfl G rfl (b_5 (vs:=[.slice A0 N0 C0]) v_ u_ rfl rfl (fun h=>h)<|(ao.ext a3).row 0 1 rfl) ?_;refine dRg rfl rfl rfl G rfl (b_5 (vs:=[vI x2.number,sl AA NA CA,sl AB NB CB]) l_ c_ rfl rfl (fun h=>h)<|(aK.ext a3).row 0 3 rfl) ?_;obtain ⟨_,b3,aM⟩:=bdS b0;refine dEg rfl rfl rfl G rfl (b_e Tryz.call44 rfl<|g_Q b3 (zt' O aq.size)<|aa.ext aq) (.inr fun _ _ h=>o_<|h.1) ?_;rintro _ _ ⟨ax,rfl,b4⟩;have ad:=bup aq ax;obtain ⟨b5,b6,aN⟩:=bdS aM;refine dEg rfl rfl rfl G rfl (b_e Tryz.call47 rfl<|k_N b6 (zt' O ad.size) (aa.ext ad) b4 a5 (a6.ext ad)<|a7.ext ad) (.inr fun _ _ h=>o_<|h.1) ?_;rintro _ _ ⟨b8,rfl⟩;refine dRg rfl rfl rfl G rfl (d_7 rfl) ?_;refine dR rfl rfl (g_a rfl G rfl) ?_;refine e_r ?_;exact fun a' ha'=>⟨!b5,som aN,ha'.weaken<|sc rfl<|sc rfl<|sc rfl<|sc rfl<|sc rfl<|sc rfl sn,bup (bup a3 ax) b8⟩
  rintro b9 a0 ⟨ap,rfl,_,a8⟩;revert b9;refine WC.of_KC ?_;have I:=bup aJ a8;have ae:=aK.ext a8;have V:=((aD.blk:Blk be W.heap.size [vI 0,sl none 0 0,sl none 0 0]).ext af).ext a8;refine b_F rfl (fun ai=>?_)<|fun ai=>?_
  · have aO:=ifT aw ai
    refine O_<|a_b ?_;refine R rfl (b_5 (vs:=[vI x2.number,sl AA NA CA,sl AB NB CB]) l_ c_ rfl rfl (fun h=>h)<|ae.row 0 3 rfl) ?_;obtain ⟨bk,bm,aP⟩:=bdS aO;refine E rfl (b_e Tryz.call48 rfl<|g_R.run bm (zt' O I.size) a5 (a6.ext I)<|a7.ext I) ?_;rintro _ w2 ⟨s2,a1,n1,c1,S1,a2,n2,c2,S2,rfl,q0,q1,q2,qn,qs⟩;refine E0 (a_X (cur':=[vI bk.number,sl a1 n1 c1,sl a2 n2 c2]) c_ rfl rfl (V.ext s2) rfl (Nat.le_of_ble_eq_true rfl) (b_3 rfl) rfl) ?_;rintro _ w3 ⟨Y,H⟩;refine R rfl (a_y rfl) ?_;refine a_0<|WC.of_KC ?_;obtain rfl:=som aP;have hne:∀j∈S1++S2,¬j=W.heap.size:=fun j hj e=>absurd (qs j hj)<|Nat.not_le.2<|e ▸ V.lt
    exact b_E<|a_9 hr (y_ l_ c_ rfl Y rfl) rfl ⟨b_v (bup I s2) H<|fun j hj e=>absurd (e ▸ hj)<|Nat.not_lt.2 ab,a1,n1,c1,S1,a2,n2,c2,S2,rfl,q0,q1.chg H<|fun j hj=>hne j<|List.mem_append_left _ hj,q2.chg H<|fun j hj=>hne j<|List.mem_append_right _ hj,qn,fun j hj=>Nat.le_trans I.size<|qs j hj⟩
  refine a_h<|WC.of_KC ?_;refine O_<|a_b ?_;refine R rfl (b_5 (vs:=[vI x2.number,sl AA NA CA,sl AB NB CB]) l_ c_ rfl rfl (fun h=>h)<|ae.row 0 3 rfl) ?_;obtain ⟨ah,bn,aQ⟩:=bdS<|ifF aw ai;refine E rfl (b_e Tryz.call48 rfl<|g_R.run bn (zt' O I.size) a5 (a6.ext I)<|a7.ext I) ?_;rintro _ w5 ⟨s5,a1,n1,c1,S1,a2,n2,c2,S2,rfl,q0,q1,q2,qn,qs⟩;refine E rfl (d_p L_) ?_;rintro _ w6 ⟨rfl,h6⟩;have t6:=h6.below;refine E0 (a_X (cur':=[vI ah.number,sl a1 n1 c1,sl a2 n2 c2]) c_ rfl rfl (h6.blk:Blk w6 w5.heap.size [vI 0,sl none 0 0,sl none 0 0]) rfl (Nat.le_of_ble_eq_true rfl) (b_3 rfl) rfl) ?_;rintro _ L ⟨b7,c7⟩;refine a_0<|WC.of_KC ?_;have aL:∀j∈S1++S2,j<w5.heap.size:=fun j hj=>(List.mem_append.1 hj).elim (q1.lt j) (q2.lt j)
  have hne:∀j∈S1++S2,¬j=w5.heap.size:=fun j hj e=>absurd (aL j hj)<|Nat.not_lt.2<|Nat.le_of_eq e.symm
  have k1:a_ L S1 (sl a1 n1 c1) ah.bytes:=(q1.ext t6).chg c7 (fun j hj=>hne j<|List.mem_append_left _ hj);have k2:a_ L S2 (sl a2 n2 c2) ah.items:=(q2.ext t6).chg c7 (fun j hj=>hne j<|List.mem_append_right _ hj);have hH:b_H L w5.heap.size (S1++S2) w5.heap.size 0 ah (fun y=>y):=b_H.root b7 (c_k q0 k1 k2) qn<|fun h=>hne _ h rfl;have g7:Below w0.heap.size w0 L:=b_v (bup (bup I s5) t6) c7<|fun j hj e=>absurd (e ▸ hj)<|Nat.not_lt.2<|Nat.le_trans I.size s5.size;have f7:Below a0.heap.size a0 L:=b_v (bup s5 t6) c7<|fun j hj e=>absurd (e ▸ hj)<|Nat.not_lt.2 s5.size;have hSB:∀j∈w5.heap.size::(S1++S2),(bl L.heap.size) j:=fun j hj=>(List.mem_cons.1 hj).elim (fun e=>e ▸ b7.lt) (fun h=>Nat.lt_of_lt_of_le (aL j h)<|Nat.le_trans t6.size c7.size)
  have z7:B<=bl L.heap.size:=zt' O g7.size;refine O_<|a_b ?_;refine R rfl (b_5 (vs:=[.slice A0 N0 C0]) v_ u_ rfl rfl (fun h=>h)<|((ao.ext a8).ext f7).row 0 1 rfl) ?_;refine R rfl (a_c rfl) ?_;obtain ⟨ba,_,bb,ar⟩:=a_n aQ;refine E rfl (b_e Tryz.call71 rfl<|W_w3k (B:=bl L.heap.size) bb (zr) ((hG.ext g7).mono z7) ((aa.ext g7).mono z7) hH hSB (a_.rep (bi.ext<|bup a8 f7):repS L (bl L.heap.size) (sl aG aH aI) bf)) ?_;rintro _ _ ⟨s8,_,rfl,ay,bc⟩;refine R rfl (a_c rfl) ?_;refine R rfl (d_6 rfl rfl) ?_;refine R rfl (d_6 rfl rfl) ?_;refine R rfl (a_y rfl) ?_;refine R rfl (a_y rfl) ?_;refine a_0<|WC.of_KC ?_;have J:=bup g7 s8;have f8:=bup f7 s8;refine O_<|O_<|a_b ?_;refine R rfl (a_c rfl) ?_
  rcases ba with _ | az
  · have aR:=opN ar
    obtain rfl:=ay;refine R rfl (m_P d_80 rfl) ?_;refine R rfl (a_c rfl) ?_;have hct:(Option.isNone (none:Option Addr))=true:=rfl;refine Ng rfl rfl hct rfl ?_;refine Ng rfl rfl hct rfl ?_;refine Ng rfl rfl hct rfl ?_;refine Ng rfl rfl hct rfl ?_;refine Ng rfl rfl hct rfl ?_;refine R rfl (g_8 rfl hct rfl) ?_;refine a_0<|WC.of_KC ?_;refine b_F rfl (fun _=>?_)<|fun hc=>(bcon rfl hc).elim;refine O_<|a_b ?_;refine R rfl (b_5 (vs:=[vI x2.number,sl AA NA CA,sl AB NB CB]) l_ c_ rfl rfl (fun h=>h)<|(ae.ext f8).row 0 3 rfl) ?_;obtain ⟨bo,bp,aj⟩:=bdS aR;refine E rfl (b_e Tryz.call48 rfl<|g_R.run bp (zt' O J.size) a5 (a6.ext J)<|a7.ext J) ?_;rintro _ w2 ⟨s2,a1',n1',c1',S1',a2',n2',c2',S2',rfl,q0',q1',q2',qn',qs'⟩;refine E0 (a_X (cur':=[vI bo.number,sl a1' n1' c1',sl a2' n2' c2']) c_ rfl rfl ((V.ext f8).ext s2) rfl (Nat.le_of_ble_eq_true rfl) (b_3 rfl) rfl) ?_;rintro _ w3 ⟨Y,H⟩;refine R rfl (a_y rfl) ?_;refine a_0<|WC.of_KC ?_;obtain rfl:=som aj;have hne':∀j∈S1'++S2',¬j=W.heap.size:=fun j hj e=>absurd (qs' j hj)<|Nat.not_le.2<|e ▸ (V.ext f8).lt
    exact b_E<|a_9 hr (y_ l_ c_ rfl Y rfl) rfl ⟨b_v (bup J s2) H<|fun j hj e=>absurd (e ▸ hj)<|Nat.not_lt.2 ab,a1',n1',c1',S1',a2',n2',c2',S2',rfl,q0',q1'.chg H<|fun j hj=>hne' j<|List.mem_append_left _ hj,q2'.chg H<|fun j hj=>hne' j<|List.mem_append_right _ hj,qn',fun j hj=>Nat.le_trans J.size<|qs' j hj⟩
  · have aS:=opJ ar
    obtain ⟨b,o,rfl,hHq⟩:=ay;refine R rfl (m_P d_80 rfl) ?_;refine R rfl (a_c rfl) ?_;have hcf:(Option.isNone<|some (⟨b,o,none⟩:Addr))=false:=rfl;refine Rg rfl rfl hcf rfl (a_c rfl) ?_;refine Rg rfl rfl hcf rfl (a_c rfl) ?_;refine Rg rfl rfl hcf rfl (a_c rfl) ?_;obtain ⟨a4,bq,ak⟩:=bdS aS
    have hbS:b=w5.heap.size∨b∈S1++S2:=by
      obtain ⟨_,_,_,_,_,_,_,h6',_⟩:=hHq;exact List.mem_cons.1 h6'
    have au:a0.heap.size<=b:=hbS.elim (fun e=>e ▸ s5.size)<|fun h=>qs b h
    obtain ⟨y,hy⟩:∃y,a4=true->d_2 n x4=some y:=by
      cases a4
      · exact ⟨x4,fun h=>by cases h⟩
      · obtain ⟨y,hy,_⟩:=bdS (ifT ak rfl)
        exact ⟨y,fun _=>hy⟩
    refine Eg rfl rfl hcf rfl (d_L Tryz.call46 rfl rfl<|W_w3l (B:=B) bq hy (zt' O J.size) (aa.ext J) bc aV (aW.ext J) (aX.ext J) (kd.ext J) (kp.ext J) hHq s8) ?_;rintro _ w9 ⟨rfl,c9,hput⟩;refine Rg rfl rfl hcf rfl (d_7 rfl) ?_;refine R rfl (g_a rfl hcf rfl) ?_;refine a_0<|WC.of_KC ?_;have g9:Below w0.heap.size w0 w9:=b_v J c9<|fun j hj e=>absurd (e ▸ hj)<|Nat.not_lt.2 (Nat.le_trans I.size au:w0.heap.size<=b);have f9:Below a0.heap.size a0 w9:=b_v f8 c9<|fun j hj e=>absurd (e ▸ hj)<|Nat.not_lt.2 au;refine b_F rfl (fun aT=>?_)<|fun aT=>?_
    · obtain rfl:a4=false:=by cases a4 <;> simp_all
      have a9:=ifF ak rfl;refine O_<|a_b ?_;refine R rfl (b_5 (vs:=[vI x2.number,sl AA NA CA,sl AB NB CB]) l_ c_ rfl rfl (fun h=>h)<|(ae.ext f9).row 0 3 rfl) ?_;obtain ⟨br,bs,aj⟩:=bdS a9;refine E rfl (b_e Tryz.call48 rfl<|g_R.run bs (zt' O g9.size) a5 (a6.ext g9)<|a7.ext g9) ?_;rintro _ w2 ⟨s2,a1',n1',c1',S1',a2',n2',c2',S2',rfl,q0',q1',q2',qn',qs'⟩;refine E0 (a_X (cur':=[vI br.number,sl a1' n1' c1',sl a2' n2' c2']) c_ rfl rfl ((V.ext f9).ext s2) rfl (Nat.le_of_ble_eq_true rfl) (b_3 rfl) rfl) ?_;rintro _ w3 ⟨Y,H⟩;refine R rfl (a_y rfl) ?_;refine a_0<|WC.of_KC ?_;obtain rfl:=som aj;have hne':∀j∈S1'++S2',¬j=W.heap.size:=fun j hj e=>absurd (qs' j hj)<|Nat.not_le.2<|e ▸ (V.ext f9).lt
      exact b_E<|a_9 hr (y_ l_ c_ rfl Y rfl) rfl ⟨b_v (bup g9 s2) H<|fun j hj e=>absurd (e ▸ hj)<|Nat.not_lt.2 ab,a1',n1',c1',S1',a2',n2',c2',S2',rfl,q0',q1'.chg H<|fun j hj=>hne' j<|List.mem_append_left _ hj,q2'.chg H<|fun j hj=>hne' j<|List.mem_append_right _ hj,qn',fun j hj=>Nat.le_trans g9.size<|qs' j hj⟩
    · obtain rfl:a4=true:=by cases a4 <;> simp_all
      have a9:=ifT ak rfl;refine a_h<|WC.of_KC ?_;obtain ⟨_,_,bt,bu,bv,bw⟩:=hput rfl;obtain ⟨a1',n1',c1',a2',n2',c2',S1',S2',rfl,rfl,q0',q1',q2'⟩:=g_0 bu;refine O_<|a_b ?_;refine R rfl (b_5 (vs:=[vI (az.2 y).number,sl a1' n1' c1',sl a2' n2' c2']) l_ c_ rfl rfl (fun h=>h)<|bt.row 0 3 rfl) ?_;refine E0 (a_X (cur':=[vI (az.2 y).number,sl a1' n1' c1',sl a2' n2' c2']) c_ rfl rfl (V.ext f9) rfl (Nat.le_of_ble_eq_true rfl) (b_3 rfl) rfl) ?_;rintro _ w3 ⟨Y,H⟩;refine R rfl (a_y rfl) ?_;refine a_0<|WC.of_KC ?_
      rw [hy rfl,bd_some] at a9
      obtain rfl:=som a9;have hge:∀j∈S1'++S2',a0.heap.size<=j:=fun j hj=>(bw j hj).elim (qs j) (fun h=>Nat.le_trans f7.size h)
      have hne':∀j∈S1'++S2',¬j=W.heap.size:=fun j hj e=>absurd (hge j hj)<|Nat.not_le.2<|e ▸ V.lt
      exact b_E<|a_9 hr (y_ l_ c_ rfl Y rfl) rfl ⟨b_v g9 H<|fun j hj e=>absurd (e ▸ hj)<|Nat.not_lt.2 ab,a1',n1',c1',S1',a2',n2',c2',S2',rfl,q0',q1'.chg H<|fun j hj=>hne' j<|List.mem_append_left _ hj,q2'.chg H<|fun j hj=>hne' j<|List.mem_append_right _ hj,bv,fun j hj=>Nat.le_trans I.size<|hge j hj⟩
theorem W_w3n {n:Nat}{B:Zone}{x1:f_}{A0:Option Addr}{N0 C0:Nat}{x2:Val}{AA AB:Option Addr}{NA CA NB CB:Nat}{x3:Str}{x4:Val}{AH AI:Option Addr}{NH CH NI CI:Nat}{res:Val×Bool}{w0:World}(hm:f_m n x1 x2 x3 x4=some res)(aa:B<=w0.heap.size)(hG:Gl w0 B)(a0:repS w0 B (sl A0 N0 C0) x1.rules)(a3:inI x2.number)(a4:repS w0 B (sl AA NA CA) x2.bytes)(a5:repS w0 B (sl AB NB CB) x2.items)(a6:x3.b.length<=LEN)(a7:inI x4.number)(a8:repS w0 B (sl AH NH CH) x4.bytes)(a9:repS w0 B (sl AI NI CI) x4.items) :
    k_ Tryz.prog 27 [.agg #[.slice A0 N0 C0],.agg #[vI x2.number,sl AA NA CA,sl AB NB CB],Str.v x3,.agg #[vI x4.number,sl AH NH CH,sl AI NI CI]] w0 (n_h w0 B res):=by
  obtain ⟨_,hf,hb,hN,hr⟩:=fnE Tryz.func27;refine e_J hf (hb.trans rfl) (hN.trans rfl) (Nat.le_of_ble_eq_true rfl) ?_;refine O_<|a_b ?_;refine E rfl (c_v rfl) ?_;rintro _ J ⟨rfl,h1⟩;have s1:=h1.below;have b1:Blk J w0.heap.size [.slice A0 N0 C0]:=h1.blk;refine E rfl (c_v rfl) ?_;rintro _ L ⟨rfl,h2⟩;have s2:=h2.below;refine E rfl (c_v rfl) ?_;rintro _ I ⟨rfl,h3⟩;have s3:=h3.below;refine E rfl (d_p L_) ?_;rintro _ w4 ⟨rfl,h4⟩;have s4:=h4.below;have O:Blk w4 I.heap.size [vI 0,sl none 0 0,sl none 0 0]:=h4.blk;refine R rfl (a_y rfl) ?_;refine a_0<|WC.of_KC ?_;have G:=bup (bup (bup s1 s2) s3) s4;refine O_<|a_b ?_;refine R rfl (b_5 (vs:=[.slice A0 N0 C0]) v_ u_ rfl rfl (fun h=>h)<|(b1.ext<|bup (bup s2 s3) s4).row 0 1 rfl) ?_;refine R rfl (b_5 (vs:=[vI x2.number,sl AA NA CA,sl AB NB CB]) l_ c_ rfl rfl (fun h=>h)<|((h2.blk:Blk L J.heap.size [vI x2.number,sl AA NA CA,sl AB NB CB]).ext (bup s3 s4)).row 0 3 rfl) ?_;refine R rfl (a_c rfl) ?_;refine R rfl (h_O rfl) ?_;refine E rfl (b_e Tryz.call45 rfl<|W_w3m hm (zt' aa G.size) (hG.ext G) (a0.ext G) a3 (a4.ext G) (a5.ext G) a6 a7 (a8.ext G) (a9.ext G) (b1.ext<|bup (bup s2 s3) s4)<|(h3.blk:Blk I L.heap.size [vI x4.number,sl AH NH CH,sl AI NI CI]).ext s4) ?_;obtain ⟨rv,_⟩:=res;rintro _ _ ⟨s5,V,W,Y,S1,a2,n2,c2,S2,rfl,q0,q1,q2,qn,qs⟩;refine R rfl (d_6 rfl rfl) ?_;refine R rfl (d_6 rfl rfl) ?_;refine E0 (a_X (cur':=[vI rv.number,sl V W Y,sl a2 n2 c2]) c_ rfl rfl (O.ext s5) rfl (Nat.le_of_ble_eq_true rfl) (b_3 rfl) rfl) ?_;rintro _ _ ⟨ab,H⟩;refine R rfl (a_y rfl) ?_;refine a_0<|WC.of_KC ?_;have hne:∀j∈S1++S2,¬j=I.heap.size:=fun j hj e=>absurd (qs j hj)<|Nat.not_le.2<|e ▸ O.lt
  exact b_E<|a_9 hr (y_ l_ c_ rfl ab rfl) rfl ⟨b_v (bup G s5) H<|fun j hj e=>absurd (e ▸ hj)<|Nat.not_lt.2<|Nat.le_trans s1.size<|Nat.le_trans s2.size s3.size,V,W,Y,S1,a2,n2,c2,S2,rfl,q0,q1.chg H<|fun j hj=>hne j<|List.mem_append_left _ hj,q2.chg H<|fun j hj=>hne j<|List.mem_append_right _ hj,qn,fun j hj=>Nat.le_trans G.size<|qs j hj⟩
def Q28 (w0:World)(g1:Nat)(B:Zone)(A0:Option Addr)(N0 C0:Nat)(A5:Option Addr)(N5 C5:Nat)(S1_1:List Nat)(x1:a_O)(r:(List UInt8))(v:Value)(w':World):Prop:=Chg (· ∈ ([g1]++S1_1)) w0 w'/\(fun J=>∃G H I S1,v = .tuple #[]/\a_ w' S1 (sl G H I) J/\S1.Nodup/\(∀k∈S1,k∈S1_1∨w0.z<=k)/\Blk w' g1 [sl A0 N0 C0,sl G H I]) r
theorem f_3 {x1:a_O}{S1_1:List Nat}{g1:Nat}{x2:List UInt8}{res:(List UInt8)}(hm:c_2 x1 x2=some res)(hB1:Blk w0 g1 [sl A0 N0 C0,sl A5 N5 C5])(a2:B<=w0.z)(hBg:¬B g1)(a0:repS w0 B (sl A0 N0 C0) x1.d.rules)(L:a_ w0 S1_1 (sl A5 N5 C5) x1.out)(p1_1n:S1_1.Nodup)(p1_1g:∀k∈S1_1,¬B k)(p1_1d:∀k∈S1_1,k∉[g1])(O:repS w0 B (sl A8 N8 C8) x2):k_ prog 115 [pt g1,sl A8 N8 C8] w0 (Q28 w0 g1 B A0 N0 C0 A5 N5 C5 S1_1 x1 res):=by
 unfold c_2 at hm
 refine goG func115 z z z fun fn hr=>Wg<|RM z z<|R z (N_ z)<|Rf z f_D z<|R z (l0 F_ z<|hB1.at z)<|Rm z ?_
 obtain ⟨_,W,V⟩:=bdS hm;refine E z (fN (α:=UInt8) z_ W z z L p1_1n O) ?_;rintro _ Y ⟨G,H,I,J,rfl,s4,ha,hb,h5⟩;refine R z (N_ z)<|Rf z f_D z<|E0 (fs0 (cur':=[sl A0 N0 C0,sl H I J]) z_25 z z (hB1.c s4<|djs p1_1d) z z z z) ?_
 rintro _ wc ⟨hd,se⟩;have h6:=se.one;refine Wl ?_;obtain rfl:=som V;exact e_K hr ⟨(cM (cM (cr ([g1]++S1_1) w0) s4 (io<|E_ sr):Chg (· ∈ ([g1]++S1_1)) w0 Y) h6 (io<|R_ sr):Chg (· ∈ ([g1]++S1_1)) w0 wc),H,I,J,G,z,ha.c h6 (or1 h5 p1_1d (X_ (e_<|Blk.lt hB1) lr):∀k∈G,k∉[g1]),hb,(or1 h5 (io sr) (j_ lr):∀k∈G,k∈S1_1∨w0.z<=k),hd⟩
theorem W_w3o {x1:List UInt8}{x2:UInt8}{res:(List UInt8)}(hm:g_j x1 x2=some res)(av:B<=w0.z)(a0:repS w0 B (sl A0 N0 C0) x1):k_ prog 117 [sl A0 N0 C0,vU<|byteI x2] w0 (Q1 w0 B res):=by
 unfold g_j at hm
 refine goG func117 z z z fun fn hr=>Ws<|Rw z<|Wm z<|R z (lnR p_ z a0)<|R z (add_ z z) ?_
 obtain ⟨_,aw,ad⟩:=bdS hm;refine E z (c_Z (α:=UInt8) z_ aw z z) ?_;rintro _ H ⟨ax,ay,az,rfl,sa,aA⟩;refine Rw z<|Wq<|Wm z<|R z (lnR p_ z<|a0.e sa)<|Rm z<|Wn ?_
 obtain ⟨_,ae,hmr⟩:=bdS ad;refine Wf (σ:=List UInt8) (ρ:=List UInt8) (fun (kf:Nat)(V:List UInt8) a w=>∃a2 I J G,Sat 37 [(1,vU<|byteI x2),(5,sl a2 I J),(12,sl A0 N0 C0),(13,vI (x1.length:Int)),(14,vI ((kf:Nat):Int))] a/\Chg (· ∈ [w0.z]) H w/\a_ w G (sl a2 I J) V/\G.Nodup/\(∀k∈G,k∈[w0.z]∨H.z<=k)) (fun (V:List UInt8) a w=>∃a2 I J G,Sat 37 [(1,vU<|byteI x2),(5,sl a2 I J)] a/\Chg (· ∈ [w0.z]) H w/\a_ w G (sl a2 I J) V/\G.Nodup/\(∀k∈G,k∈[w0.z]∨H.z<=k)) (rQ prog fn<|Q1 w0 B) ae ?_ ?_ ?_ ?_ ?_
 ·exact fun _ q=>⟨ax,ay,az,[w0.z],q.k<|s5 z z z z z,cr [w0.z] H,aA,M_,io sr⟩
 ·rintro kf V _ wb _ hks ⟨a2,I,J,G,af,sh,W,Y,hd⟩ ah;refine Wu ?_ af;refine Ws<|Rl z z z<|Wn<|Wq<|Wc z (fun _=>?_) (fun hc=>(U_ hks hc).elim)
  refine Wk<|Wq<|Wb<|Ws ?_
  obtain ⟨xc,aB,ai⟩:=bdS ah;refine RX z (at_ (α:=UInt8) p_ z_5 z z z (a0.g<|(sa.ag B).c sh<|g_ (or0 (e_ lr) (m_ av):∀k∈[w0.z],¬B k)) aB) ?_;rintro _ ⟨_,_,_,rfl,aC,aD,_⟩;obtain rfl:=u8 aD;refine R z (l0 g_5 z<|aC.at0 z)<|Rw z<|Wq<|Wq ?_
  obtain ⟨aE,huw,aj⟩:=bdS ai;refine Wt (fun a w=>∃(xi:Bool),xi=aE/\Sat 37 [(1,vU<|byteI x2),(5,sl a2 I J),(7,vU<|byteI xc),(12,sl A0 N0 C0),(13,vI (x1.length:Int)),(14,vI ((kf:Nat):Int)),(24,vB xi)] a/\Below wb.z wb w) ?_ ?_
  ·refine Wg<|RM z z<|Rq z z z<|Rm z ?_
   rcases bs ((byteI xc)==(byteI x2)) with L | L
   ·exact Nh z L<|Nh z L<|R z (pT z L z)<|Wl (fun _ q=>⟨true,som<|ifT huw L,q.k<|s7 z z z z z z z,br wb⟩)
   exact Rh z L (mv z)<|Rh z L (eql z z)<|R z (pF z L z)<|Wl (fun _ q=>⟨(byteI xc)==(byteI (92:UInt8)),som<|ifF huw L,q.k<|s7 z z z z z z z,br wb⟩)
  rintro aF O ⟨xi,rfl,_,sg⟩;revert aF;refine Wo ?_;obtain ⟨aG,hux,al⟩:=bdS aj;refine Wt (fun a w=>∃(xj:List UInt8),xj=aG/\∃ak nl cm Se,Sat 37 [(1,vU<|byteI x2),(5,sl ak nl cm),(7,vU<|byteI xc),(12,sl A0 N0 C0),(13,vI (x1.length:Int)),(14,vI ((kf:Nat):Int))] a/\Chg (· ∈ G) O w/\a_ w Se (sl ak nl cm) xj/\Se.Nodup/\(∀k∈Se,k∈G∨O.z<=k)) ?_ ?_
  ·refine Wc z (fun hcn=>?_)<|fun hcn=>?_
   ·refine Wg<|Rm z<|E z (fS [(.const<|.int .u8 92)] z_ z z z (a_Q z) (lb z)<|lb z) ?_
    rintro _ wy ⟨rfl,ho⟩;have hp:=ho.below;have bm:=b_a ho<|h_N (x:=(92:UInt8)) z
    obtain ⟨aH,aI,am⟩:=bdS<|ifT hux hcn;refine E z (b_g (α:=UInt8) z_ aI z z ((W.e sg).e hp) Y (ho.blk:Blk wy O.z [(vU<|byteI (92:UInt8))]) (h_N (x:=(92:UInt8)) z) an_ a_2) ?_;rintro _ aJ ⟨Sz,aK,aL,aM,rfl,aN,aO,aP,aQ⟩;refine Ra z<|Wl ?_
    exact fun _ q=>⟨aH,som am,aK,aL,aM,Sz,q.k<|s6 z z z z z z,(cM (C_ (cr G O) hp:Chg (· ∈ G) O wy) aN (io sr):Chg (· ∈ G) O aJ),aO,aP,(or2 aQ (io sr) an_ (j_ hp.s):∀k∈Sz,k∈G∨O.z<=k)⟩
   exact a_h<|fun _ q=>⟨V,som<|ifF hux hcn,a2,I,J,G,q.k<|s6 z z z z z z,cr G O,W.e sg,Y,io sr⟩
  rintro aR a1 ⟨xj,rfl,ak,nl,cm,Se,_,a3,aS,aT,aU⟩;revert aR;refine Wo<|Wg<|RM z z<|E z (fS [(.tmp 29)] z_ z z z (a_Q z) (lb z)<|lb z) ?_
  rintro _ a4 ⟨rfl,hq⟩;have ht:=hq.below;have bn:=b_a hq a_B;obtain ⟨aV,aW,an⟩:=bdS al;refine E z (b_g (α:=UInt8) z_ aW z z (aS.e ht) aT (hq.blk:Blk a4 a1.z [vU (byteI xc)]) a_B an_ a_2) ?_;rintro _ aX ⟨a5,aY,aZ,b0,rfl,b3,b4,b5,b6⟩;refine Rw z<|Wg<|R z (inc_ hks (lt_ (repS.len a0) D_) z z)<|Rm z<|Wl ?_
  have a6:=lt_ sh.s sg.s;have a7:∀k∈G,k∈[w0.z]∨H.z<=k:=or1 hd (io sr)<|j_ lr;have a8:∀k∈Se,k∈[w0.z]∨H.z<=k:=or1 aU a7<|j_ a6;exact fun _ q=>⟨aV,(som an).symm,⟨aY,aZ,b0,a5,q.k<|s5 z z z z z,(cM (C_ (cM (C_ (cM (cr [w0.z] H) sh (io sr):Chg (· ∈ [w0.z]) H wb) sg:Chg (· ∈ [w0.z]) H O) a3 a7:Chg (· ∈ [w0.z]) H a1) ht:Chg (· ∈ [w0.z]) H a4) b3 a8:Chg (· ∈ [w0.z]) H aX),b4,b5,(or2 b6 a8 an_ (j_<|lt_ (lt_ a6 a3.s) ht.s):∀k∈a5,k∈[w0.z]∨H.z<=k)⟩⟩
 ·rintro V _ b7 ⟨a2,I,J,G,ao,b8,W,Y,hd⟩;refine Wu ?_ ao;refine Ws<|Rl z z z<|Wn<|Wq<|Wc z (fun hc=>(V_ hc).elim) (fun _=>?_)
  exact We<|fun _ q=>⟨rfl,⟨a2,I,J,G,q.k<|s2 z z,(cM (cr [w0.z] H) b8 (io sr):Chg (· ∈ [w0.z]) H b7),W,Y,(or1 hd (io sr) (j_ lr):∀k∈G,k∈[w0.z]∨H.z<=k)⟩⟩
 ·rintro V b9 ba rfl ⟨a2,I,J,G,_,a9,W,Y,hd⟩;have ap:=elL hmr;revert b9;refine Wo<|Wm z<|Rm z<|E z (fS [(.tmp 34)] z_ z z z (a_Q z) (lb z)<|lb z) ?_
  rintro _ bb ⟨rfl,hu⟩;have hv:=hu.below;have bo:=b_a hu a_B;obtain ⟨_,bc,aq⟩:=bdS ap;refine E z (b_g (α:=UInt8) z_ bc z z (W.e hv) Y (hu.blk:Blk bb ba.z [vU (byteI x2)]) a_B an_ a_2) ?_;rintro _ _ ⟨aa,be,bf,bg,rfl,bh,bi,bj,bk⟩;refine Rw z ?_
  obtain rfl:=som aq;have ab:∀k∈G,w0.z<=k:=or1 hd (e_ lr)<|b_4 sa.s;exact Wr<|d_ hr z ⟨bM (bup (bM sa a9<|e_ lr) hv) bh ab,be,bf,bg,aa,z,bi,bj,(or2 bk ab an_ (b_4<|lt_ (lt_ sa.s a9.s) hv.s):∀k∈aa,w0.z<=k)⟩
 rintro _ _ _ _ rfl ⟨rfl,ar⟩;have au:=elR hmr;obtain rfl:=som au;exact ⟨ar,z⟩
theorem W_w1x {x1:a_O}{b1 o1:Nat}{res:Bool}(hm:e_E x1=some res)(I:B<=w0.z)(H:repS w0 B (sl A0 N0 C0) x1.d.rules)(G:repS w0 B (sl A5 N5 C5) x1.out)(hC1:I_ w0 b1 o1 [sl A0 N0 C0,sl A5 N5 C5])(hC1b:B b1):k_ prog 74 [(.pointer<|some ⟨b1,o1,none⟩)] w0 (Q9 w0 B res):=by
 unfold e_E at hm
 refine goG func74 z z z fun fn hr=>Ws<|Rw z<|Wm z<|R z (N_ z)<|Rf z f_D z<|R z (l0 F_ z<|hC1.at (j:=1) z)<|R z (lnR p_ z G)<|R z (a_z z z)<|Rw z ?_
 obtain rfl:=som hm;exact Wr<|d_ hr z ⟨br w0,z⟩
theorem W_w1y {x1:Int}{x2:Int}{res:(List UInt8)}(hm:e_F n x1 x2=some res)(aa:B<=w0.z)(W:inI x1)(Y:inI x2):k_ prog 143 [vI x1,vI x2] w0 (Q1 w0 B res):=by
 unfold e_F at hm
 refine goG func143 z z z fun fn hr=>Ws<|Rw z<|Wq<|Wq ?_
 obtain ⟨ux,huy,hml⟩:=bdS hm;refine Wt (fun a w=>∃(xf:Bool),xf=ux/\Sat 38 [(0,vI x1),(1,vI x2),(20,vB xf)] a/\Below w0.z w0 w) ?_ ?_
 ·refine Wg<|Rm z ?_
  obtain ⟨rz,ab,hmm⟩:=bdS huy;refine E z (fc call127 z<|d_h (B:=B) ab aa Y (ii z)<|ii z) ?_;rintro _ _ ⟨sg,rfl⟩;refine R z (not_ z)<|Rm z ?_
  rcases bs (!rz) with L | L
  ·exact Nh z L<|Nh z L<|R z (pT z L z)<|Rm z<|Nh z z<|Nh z z<|Nh z z<|Nh z z<|Nh z z<|R z (pT z z z)<|Wl (fun _ q=>⟨true,som<|ifT hmm L,q.k<|s3 z z z,sg⟩)
  have hmn:=ifF hmm L;refine Rh z L (mv z)<|Rh z L (lss z z)<|R z (pF z L z)<|Rm z ?_
  rcases bs (decide<|x1<0) with J | J
  ·iterate 5 refine Nh z J ?_
   exact R z (pT z J z)<|Wl (fun _ q=>⟨true,som<|ifT hmn J,q.k<|s3 z z z,sg⟩)
  refine Rh z J (mv z)<|Rh z J (mv z)<|Rh z J (e_M z z) ?_
  obtain ⟨_,ad,a0⟩:=bdS<|ifF hmn J;exact Rh z J (g_v z z<|nnS ad)<|Rh z J (b_k z z)<|R z (pF z J z)<|Wl (fun _ q=>⟨decide<|(b_j .i64 1<|a_m 8 x2)<=x1,som a0,q.k<|s3 z z z,sg⟩)
 rintro ae G ⟨xf,rfl,_,s7⟩;revert ae;refine Wo<|Wc z (fun hch=>?_) (fun hch=>?_)
 ·refine Ws<|E z (f0 (α:=UInt8) z_) ?_
  rintro _ _ ⟨af,ah,ai,rfl,aj,ak⟩;refine Rw z ?_
  obtain rfl:=som<|ifT hml hch;exact Wr<|d_ hr z ⟨bup s7 aj,af,ah,ai,[G.z],z,ak,M_,m1 s7.s⟩
 refine Wk<|Wm z ?_
 obtain ⟨_,al,a1⟩:=bdS<|ifF hml hch;refine E z (e_A (α:=UInt8) z_ (fun _=>l_v) al z z) ?_;rintro _ H ⟨O,V,ca,rfl,so,am⟩;refine Rw z<|Wq<|Wm z<|R z (sb_ z z)<|Rw z ?_
 obtain ⟨_,a2,hmp⟩:=bdS a1;refine b_w (σ:=Int×(List UInt8)×Int) (ρ:=List UInt8) (fun s a w=>un3 (fun x5 xb x6=>∃(I:List Nat),Sat 38 [(0,vI x5),(5,sl O V ca),(6,vI x6)] a/\Chg (· ∈ [G.z]) H w/\inI x5/\a_ w I (sl O V ca) xb/\I.Nodup/\(∀k∈I,k∈[G.z]∨H.z<=k)/\inI x6) s) (fun s a w=>un3 (fun x5 xb x6=>∃(I:List Nat),Sat 38 [(5,sl O V ca)] a/\Chg (· ∈ [G.z]) H w/\inI x5/\a_ w I (sl O V ca) xb/\I.Nodup/\(∀k∈I,k∈[G.z]∨H.z<=k)/\inI x6) s) (rQ prog fn<|Q1 w0 B) a2 ?_ ?_ ?_ ?_
 ·exact fun _ q=>⟨[G.z],q.k<|s3 z z z,cr [G.z] H,W,am,M_,io sr,iS _ _⟩
 ·rintro ⟨x5,xb,x6⟩ _ wq _ ⟨I,a3,si,hj,hc,hd,he,ht⟩ a4;have hmr:=b_0 a4;refine Wu ?_ a3;refine Wq<|Wm z<|R z (b_k z z)<|Wx z (fun hck=>?_) (fun hck=>?_)
  ·refine Wk<|Wq<|Wb<|Wm z<|RM z z<|R z (c_Y d_3 d_5 z) ?_
   obtain ⟨an,es,a5⟩:=bdS<|ifT hmr hck;refine RX z (b_P (α:=UInt8) p_ z_5 z z hc es) ?_;rintro _ ⟨_,ao,rfl⟩;refine E0 (b_Q (α:=UInt8) z_5 z ao z z z es hc hd a_B an_ a_2) ?_;rintro _ ap ⟨Su,aq,ar,au,av⟩;refine Wn<|Wg<|Rm z<|R z (l_P z z (by decide))<|Rw z<|Wg<|Rm z<|R z (sb_ z z)<|Ra z<|Wl ?_
   have hv:∀k∈I,k∈[G.z]∨H.z<=k:=or1 he (io sr)<|j_ lr;exact fun _ q=>⟨(a_H .i64 x5 8,an,q_ x6 1),(som a5).symm,⟨Su,q.k<|s3 z z z,(cM (cM (cr [G.z] H) si (io sr):Chg (· ∈ [G.z]) H wq) aq hv:Chg (· ∈ [G.z]) H ap),o_o hj,ar,au,(or2 av hv an_ (j_ si.s):∀k∈Su,k∈[G.z]∨H.z<=k),iS _ _⟩⟩
  exact We<|fun _ q=>b_h (som<|ifF hmr hck).symm ⟨I,q.k<|s1 z,(cM (cr [G.z] H) si (io sr):Chg (· ∈ [G.z]) H wq),hj,hc,hd,(or1 he (io sr) (j_ lr):∀k∈I,k∈[G.z]∨H.z<=k),ht⟩
 ·rintro ⟨x5,xb,x6⟩ aw _ rfl ⟨I,_,ax,hj,hc,hd,he,ht⟩;have a6:=elL hmp;revert aw;refine Wo<|Wm z<|Rw z ?_
  obtain rfl:=som<|b_0 a6;have hw:=m1 s7.s;exact Wr<|d_ hr z ⟨bM (bup s7 so) ax hw,O,V,ca,I,z,hc,hd,a_8 he hw<|lt_ s7.s so.s⟩
 rintro _ _ _ _ rfl ⟨rfl,a7⟩;have a9:=elR hmp;obtain rfl:=som a9;exact ⟨a7,z⟩
theorem W_w3p {x1:Int}{x2:Int}{res:(List UInt8)}(hm:g_k n x1 x2=some res)(an:B<=w0.z)(a4:inI x1)(a5:inI x2):k_ prog 142 [vI x1,vI x2] w0 (Q1 w0 B res):=by
 unfold g_k at hm
 refine goG func142 z z z fun fn hr=>Ws<|Rw z<|Wm z<|Rm z ?_
 obtain ⟨_,ao,a7⟩:=bdS hm;refine E z (fc call143 z<|W_w1y (B:=B) ao an a4 a5) ?_;rintro _ I ⟨sj,J,L,O,S2,rfl,hk,ap,hl⟩;refine Rw z<|Wq<|Wm z<|R z (lnR p_ z<|a_.rep hk)<|R z (sb_ z z)<|Ra z<|Rw z ?_
 obtain ⟨_,a8,hmm⟩:=bdS a7;refine b_w (σ:=(List UInt8)×Int×Int) (ρ:=List UInt8) (fun s a w=>un3 (fun xd x4 x5=>∃(G:List Nat),Sat 36 [(5,sl J L O),(6,vI x4),(7,vI x5)] a/\Chg (· ∈ S2) I w/\a_ w G (sl J L O) xd/\G.Nodup/\(∀k∈G,k∈S2∨I.z<=k)/\inI x4/\inI x5) s) (fun s a w=>un3 (fun xd x4 x5=>∃(G:List Nat),Sat 36 [(5,sl J L O)] a/\Chg (· ∈ S2) I w/\a_ w G (sl J L O) xd/\G.Nodup/\(∀k∈G,k∈S2∨I.z<=k)/\inI x4/\inI x5) s) (rQ prog fn<|Q1 w0 B) a8 ?_ ?_ ?_ ?_
 ·exact fun _ q=>⟨S2,q.k<|s3 z z z,cr S2 I,hk,ap,io sr,ii z,iS _ _⟩
 ·rintro ⟨xd,x4,x5⟩ _ H _ ⟨G,a9,sh,ha,he,hf,hn,ho⟩ aa;have hmp:=b_0 aa;refine Wu ?_ a9;refine Wq<|Wm z<|Rm z<|Rl z z z<|Wx z (fun hci=>?_) (fun hci=>?_)
  ·refine Wk<|Wq<|Wb ?_
   obtain ⟨aq,ab,ad⟩:=bdS<|ifT hmp hci;refine Wt (fun a w=>∃(xg:List UInt8),xg=aq/\∃(Sb:List Nat),Sat 36 [(5,sl J L O),(6,vI x4),(7,vI x5)] a/\Chg (· ∈ G) H w/\a_ w Sb (sl J L O) xg/\Sb.Nodup/\(∀k∈Sb,k∈G∨H.z<=k)) ?_ ?_
   ·refine Wd (X:=anyX) 0 (.rd 0<|.rd 1<|.rd 2<|.rd 3<|.rd 4<|.rd 5<|.rd 6<|.rd 8<|.rd 9<|.rd 10<|.br 7 (.ef 11<|.rd 12<|.ef 13<|.rd 14<|.ef 15 .done) 11<|.ef 7<|.rd 12<|.ef 13<|.rd 14<|.ef 15 .done) mo (by kernel_rfl) fun wq s9 _=>?_
    iterate 6 refine dM z z z ?_
    obtain ⟨_,ar,ae⟩:=bdS ab;have hc:=ha.e s9;refine dRX z z (at_ (α:=UInt8) p_ z_5 z z z (or_ hc<|a_.lt ha) ar) ?_;rintro _ ⟨_,_,_,rfl,ht,au,_⟩;obtain rfl:=u8 au;refine dM z z z<|dM z z z ?_
    obtain ⟨_,av,hmr⟩:=bdS ae;refine dRX z z (at_ (α:=UInt8) p_ z_5 z z z (or_ hc<|a_.lt ha) av) ?_;rintro _ ⟨_,_,_,rfl,hu,aw,_⟩;obtain rfl:=u8 aw;refine b_G ?_ ?_
    ·refine dAn z z (l0 g_5 z<|ht.at0 z)<|dAn z z (l0 g_5 z<|hu.at0 z) ?_
     obtain ⟨_,es,af⟩:=bdS hmr;refine dRX z z (b_P (α:=UInt8) p_ z_5 z z hc es) ?_;rintro _ ⟨_,ax,rfl⟩;refine dE0 z (b_Q (α:=UInt8) z_5 z ax z z z es hc he a_B an_ a_2) (.inr fun _ _ h=>by obtain ⟨_,h,_⟩:=h;exact i_0 h) ?_;rintro _ ay ⟨az,sv,hw,aA,aB⟩;obtain ⟨aC,ey,ah⟩:=bdS af;refine dRX z z (b_P (α:=UInt8) p_ z_5 z z hw ey) ?_;rintro _ ⟨_,aD,rfl⟩;refine dE0 z (b_Q (α:=UInt8) z_5 z aD z z z ey hw aA a_B an_ a_2) (.inr fun _ _ h=>by obtain ⟨_,h,_⟩:=h;exact i_0 h) ?_;rintro _ aE ⟨Sx,aF,aG,aH,aI⟩;refine pD ?_;have hz:∀k∈az,k∈G∨H.z<=k:=or2 aB (io sr) an_<|j_ s9.s;exact fun _ q=>⟨aC,som ah,Sx,q.k<|s3 z z z,(cM (cM (C_ (cr G H) s9:Chg (· ∈ G) H wq) sv (io sr):Chg (· ∈ G) H ay) aF hz:Chg (· ∈ G) H aE),aG,aH,(or2 aI hz an_ (j_<|lt_ s9.s sv.s):∀k∈Sx,k∈G∨H.z<=k)⟩
    refine dAn z z (l0 g_5 z<|hu.at0 z)<|dAn z z (l0 g_5 z<|ht.at0 z) ?_
    obtain ⟨_,V,ai⟩:=bdS hmr;refine dRX z z (b_P (α:=UInt8) p_ z_5 z z hc V) ?_;rintro _ ⟨_,aJ,rfl⟩;refine dE0 z (b_Q (α:=UInt8) z_5 z aJ z z z V hc he a_B an_ a_2) (.inr fun _ _ h=>by obtain ⟨_,h,_⟩:=h;exact i_0 h) ?_;rintro _ aK ⟨aL,W,Y,aM,aN⟩;obtain ⟨aO,a0,aj⟩:=bdS ai;refine dRX z z (b_P (α:=UInt8) p_ z_5 z z Y a0) ?_;rintro _ ⟨_,aP,rfl⟩;refine dE0 z (b_Q (α:=UInt8) z_5 z aP z z z a0 Y aM a_B an_ a_2) (.inr fun _ _ h=>by obtain ⟨_,h,_⟩:=h;exact i_0 h) ?_;rintro _ aQ ⟨a1,aR,aS,aT,aU⟩;refine pD ?_;have a2:∀k∈aL,k∈G∨H.z<=k:=or2 aN (io sr) an_<|j_ s9.s;exact fun _ q=>⟨aO,som aj,a1,q.k<|s3 z z z,(cM (cM (C_ (cr G H) s9:Chg (· ∈ G) H wq) W (io sr):Chg (· ∈ G) H aK) aR a2:Chg (· ∈ G) H aQ),aS,aT,(or2 aU a2 an_ (j_<|lt_ s9.s W.s):∀k∈a1,k∈G∨H.z<=k)⟩
   rintro aV aW ⟨xg,rfl,Sb,_,aX,aY,aZ,b0⟩;revert aV;refine Wo<|Wg<|Rm z<|R z (add_ z z)<|Rm z<|R z (sb_ z z)<|RA z z<|Wl ?_
   have a3:∀k∈G,k∈S2∨I.z<=k:=or1 hf (io sr)<|j_ lr;exact fun _ q=>⟨(xg,i_ x4 1,q_ x5 1),(som ad).symm,⟨Sb,q.k<|s3 z z z,(cM (cM (cr S2 I) sh (io sr):Chg (· ∈ S2) I H) aX a3:Chg (· ∈ S2) I aW),aY,aZ,(or1 b0 a3 (j_ sh.s):∀k∈Sb,k∈S2∨I.z<=k),iA _ _,iS _ _⟩⟩
  exact We<|fun _ q=>b_h (som<|ifF hmp hci).symm ⟨G,q.k<|s1 z,(cM (cr S2 I) sh (io sr):Chg (· ∈ S2) I H),ha,he,(or1 hf (io sr) (j_ lr):∀k∈G,k∈S2∨I.z<=k),hn,ho⟩
 ·rintro ⟨xd,x4,x5⟩ b3 _ rfl ⟨G,_,b4,ha,he,hf,hn,ho⟩;have ak:=elL hmm;revert b3;refine Wo<|Wm z<|Rw z ?_
  obtain rfl:=som<|b_0 ak;exact Wr<|d_ hr z ⟨bM sj b4 hl,J,L,O,G,z,ha,he,a_8 hf hl sj.s⟩
 rintro _ _ _ _ rfl ⟨rfl,al⟩;have am:=elR hmm;obtain rfl:=som am;exact ⟨al,z⟩
theorem W_w3q {x1:b_}{x2:Int}{res:(List UInt8)}(hm:e_G n x1 x2=some res)(L:B<=w0.z)(a0:x1.name.b.length<=LEN)(a1:inI x1.kind)(I:inI x1.size)(a2:repS w0 B (sl AD ND CD) x1.bytes)(a3:repS w0 B (sl AC NC CC) x1.names)(a4:repS w0 B (sl AE NE CE) x1.tags)(a5:repS w0 B (sl AF NF CF) x1.kids)(J:inI x2):k_ prog 116 [(.agg #[Str.v x1.name,vI x1.kind,vI x1.size,vB x1.little,sl AD ND CD,sl AC NC CC,sl AE NE CE,sl AF NF CF]),vI x2] w0 (Q1 w0 B res):=by
 unfold e_G at hm
 refine goG func116 z z z fun fn hr=>Ws<|E z (fb z) ?_
 rintro _ V ⟨rfl,h3⟩;have G:=h3.below;have h1:Blk V w0.z (vR x1 AD ND CD AC NC CC AE NE CE AF NF CF):=h3.blk;refine Rw z<|Wq<|Ws<|Rf z c_s z<|R z (l0 g_4 z<|h1.at z)<|Wx z (fun H=>?_) (fun H=>?_)
 ·refine Wm z<|Rf z a_F z<|R z (l0 g_3 z<|h1.at z) ?_
  obtain ⟨_,W,O⟩:=bdS<|ifT hm H;refine E z (fc call142 z<|W_w3p W (zt' L G.s) J I) ?_;rintro _ _ ⟨s7,Y,n9,ca,Sb,rfl,hc,hd,he⟩;refine Rw z ?_
  obtain rfl:=som O;exact Wr<|d_ hr z ⟨bup G s7,Y,n9,ca,Sb,z,hc,hd,h_ he G.s⟩
 refine Wk<|Wm z<|Rf z a_F z<|R z (l0 g_3 z<|h1.at z) ?_
 obtain ⟨_,ef,hmg⟩:=bdS<|ifF hm H;refine E z (fc call143 z<|W_w1y ef (zt' L G.s) J I) ?_;rintro _ _ ⟨sh,ai,nj,ck,Sl,rfl,hn,ho,hp⟩;refine Rw z ?_
 obtain rfl:=som hmg;exact Wr<|d_ hr z ⟨bup G sh,ai,nj,ck,Sl,z,hn,ho,h_ hp G.s⟩
def Q29 (w0:World)(G:Nat)(B:Zone)(A9:Option Addr)(N9 C9:Nat)(A6:Option Addr)(N6 C6:Nat)(S3_1:List Nat)(x3:a_O)(r:(List UInt8))(v:Value)(w':World):Prop:=Chg (· ∈ ([G]++S3_1)) w0 w'/\(fun L=>∃H I J S1,v = .tuple #[]/\a_ w' S1 (sl H I J) L/\S1.Nodup/\(∀k∈S1,k∈S3_1∨w0.z<=k)/\Blk w' G [sl A9 N9 C9,sl H I J]) r
theorem i_O {x1:Int}{x2:Int}{x3:a_O}{S3_1:List Nat}{G:Nat}{L W:Nat}{res:(List UInt8)}(hm:d_T n x1 x2 x3=some res)(Y:Blk w0 G [sl A9 N9 C9,sl A6 N6 C6])(a0:B<=w0.z)(hBg:¬B G)(ai:inI x1)(a1:inI x2)(O:repS w0 B (sl A9 N9 C9) x3.d.rules)(V:a_ w0 S3_1 (sl A6 N6 C6) x3.out)(p3_1n:S3_1.Nodup)(p3_1g:∀k∈S3_1,¬B k)(p3_1d:∀k∈S3_1,k∉[G])(a3:I_ w0 L W [pt G])(aj:B L):k_ prog 114 [vI x1,vI x2,(.pointer<|some ⟨L,W,none⟩)] w0 (Q29 w0 G B A9 N9 C9 A6 N6 C6 S3_1 x3 res):=by
 unfold d_T at hm
 refine goG func114 z z z fun fn hr=>Wd (X:=noX) 2048 (pl_ 12 [10,11]) mo (by kernel_rfl) fun I H _=>?_
 have h4:=a3.e H;refine dR z z (l0 c_r z<|h4.at0 z)<|dR z z (l0 c_r z<|h4.at0 z)<|dR z z (N_ z)<|dR z z (fd k_c z)<|dR z z (fd a_d z) ?_
 have h5:=Y.e H;refine dR z z (l0 a_g z<|h5.at z)<|dM z z z ?_
 obtain ⟨x9,ea,hmb⟩:=bdS hm;refine dRX z z (at_ (α:=b_) P_ r_ z z z (O.e H) ea) ?_;rintro _ ⟨_,_,_,rfl,hc,hd,_⟩;obtain ⟨ae,nf,cg,ah,ni,cj,ak,nl,cm,an,no,cp,rfl,hq,ht,hu,hv,hw,hx,hy⟩:=a_A hd;refine dR z z (lN (vs:=vR x9 ae nf cg ah ni cj ak nl cm an no cp) G_ r_ z z fid hc)<|dM z z z ?_
 obtain ⟨_,er,hms⟩:=bdS hmb;refine dE z z (fc call116 z<|W_w3q er (zt' a0 H.s) hq ht hu hv hw hx hy a1) (.inr fun _ _ h=>o_<|h.1) ?_;rintro _ J ⟨s1,_,_,_,_,rfl,h6,_,hz⟩;have h7:=lt_ H.s s1.s;obtain ⟨_,a4,a2⟩:=bdS hms;refine dE z z (fc call115 z<|f_3 (B:=zn B I.z J.z) a4 (h5.e s1) (c_A (zt' a0 h7) lr) (atp ((b_p (e_ hBg) (e_<|Blk.lt Y) H.s):∀k∈[G],¬(zn B I.z J.z) k)) (repS.mono (O.g<|(H.ag B).e s1) b_x) ((V.e H).e s1) p3_1n ((b_p p3_1g (a_.lt V) H.s):∀k∈S3_1,¬(zn B I.z J.z) k) p3_1d<|or_ h6<|zin (B:=B) hz<|a_.lt h6) (.inl z) ?_;rintro _ a5 ⟨a6,a7,a8,a9,S8,rfl,aa,ab,ad,af⟩;refine pD ?_;obtain rfl:=som a2;exact e_K hr ⟨(cM (C_ (C_ (cr ([G]++S3_1) w0) H:Chg (· ∈ ([G]++S3_1)) w0 I) s1:Chg (· ∈ ([G]++S3_1)) w0 J) a6 (aa_ (io<|R_ sr)<|io<|E_ sr):Chg (· ∈ ([G]++S3_1)) w0 a5),a7,a8,a9,S8,z,aa,ab,(or1 ad (io sr) (j_ h7):∀k∈S8,k∈S3_1∨w0.z<=k),af⟩
structure k_P (f:a_O->Int->Val->Option (List UInt8)):Prop where
  run:∀{A0 A5 A6 A7:Option Addr}{N0 C0 N5 C5 g1 N6 C6 N7 C7 b3 o3:Nat}{S1_1:List Nat}{B:Zone}{x1:a_O}{x2:Int}{x3:Val}{res:(List UInt8)}{w0:World}(hm:f x1 x2 x3=some res)(hB1:Blk w0 g1 [sl A0 N0 C0,sl A5 N5 C5])(hBw:B<=w0.z)(hBg:¬B g1)(p1_0:repS w0 B (sl A0 N0 C0) x1.d.rules)(p1_1:a_ w0 S1_1 (sl A5 N5 C5) x1.out)(p1_1n:S1_1.Nodup)(p1_1g:∀k∈S1_1,¬B k)(p1_1d:∀k∈S1_1,k∉[g1])(p2_0:inI x2)(p3_0:inI x3.number)(p3_1:repS w0 B (sl A6 N6 C6) x3.bytes)(p3_2:repS w0 B (sl A7 N7 C7) x3.items)(hC3:I_ w0 b3 o3 [vI x3.number,sl A6 N6 C6,sl A7 N7 C7])(hC3b:B b3),k_ prog 73 [pt g1,vI x2,(.pointer<|some ⟨b3,o3,none⟩)] w0<|Q28 w0 g1 B A0 N0 C0 A5 N5 C5 S1_1 x1 res
structure k_Q (f:a_O->Int->Val->Option (List UInt8)):Prop where
  run:∀{A0 A5 A6 A7:Option Addr}{N0 C0 N5 C5 g1 N6 C6 N7 C7 b3 o3:Nat}{S1_1:List Nat}{B:Zone}{x1:a_O}{x2:Int}{x3:Val}{res:(List UInt8)}{w0:World}(hm:f x1 x2 x3=some res)(hB1:Blk w0 g1 [sl A0 N0 C0,sl A5 N5 C5])(hBw:B<=w0.z)(hBg:¬B g1)(p1_0:repS w0 B (sl A0 N0 C0) x1.d.rules)(p1_1:a_ w0 S1_1 (sl A5 N5 C5) x1.out)(p1_1n:S1_1.Nodup)(p1_1g:∀k∈S1_1,¬B k)(p1_1d:∀k∈S1_1,k∉[g1])(p2_0:inI x2)(p3_0:inI x3.number)(p3_1:repS w0 B (sl A6 N6 C6) x3.bytes)(p3_2:repS w0 B (sl A7 N7 C7) x3.items)(hC3:I_ w0 b3 o3 [vI x3.number,sl A6 N6 C6,sl A7 N7 C7])(hC3b:B b3),k_ prog 118 [pt g1,vI x2,(.pointer<|some ⟨b3,o3,none⟩)] w0<|Q28 w0 g1 B A0 N0 C0 A5 N5 C5 S1_1 x1 res
abbrev k_R (n:Nat):Prop:=k_P (c_b n).impl_printer_value/\k_Q (c_b n).impl_printer_items
theorem T_w0c (ih:k_R n):k_P (b_R n<|c_b n):=by
 obtain ⟨_,es⟩:=ih
 constructor
 intro A0 A5 A6 A7 N0 C0 N5 C5 g1 N6 C6 N7 C7 b3 o3 S1_1 B x1 x2 x3 res w0 hm hB1 L hBg V J p1_1n p1_1g p1_1d bh aL W aM hC3 hC3b;unfold b_R at hm
 refine goG func73 z z z fun fn hr=>Ws<|E z (fb z) ?_
 rintro _ I ⟨rfl,bs⟩;have H:=bs.below;have h5:Blk I w0.z [pt g1]:=bs.blk;refine Wn<|Ws<|R z (l0 c_r z<|h5.at z)<|R z (N_ z)<|Rf z k_c z<|Rf z a_d z ?_
 have hb:=hB1.e H;refine R z (l0 a_g z<|hb.at z)<|Rm z ?_
 obtain ⟨bt,eu,cz⟩:=bdS hm;refine RX z (at_ (α:=b_) P_ r_ z z z (V.e H) eu) ?_;rintro _ ⟨_,_,_,rfl,ew,ex,_⟩;obtain ⟨bu,bv,bw,bx,bz,bA,bB,bC,bD,bE,bF,bG,rfl,_,_,_,bH,_,_,aW⟩:=a_A ex;refine R z (lN (vs:=vR bt bu bv bw bx bz bA bB bC bD bE bF bG) G_ r_ z z fid ew)<|E z (fa c_8) ?_
 rintro _ bI ⟨rfl,bJ⟩;have h3:=bJ.below;have bK:Blk bI I.z [(Str.v (⟨[]⟩:Str)),vI 0,vI 0,vB false,sl none 0 0,sl none 0 0,sl none 0 0,sl none 0 0]:=bJ.blk;refine E0 (fs0 (cur':=vR bt bu bv bw bx bz bA bB bC bD bE bF bG) r_ z z bK z z z z) ?_;rintro _ G ⟨hi,ey⟩;have h2:=ey.one;refine Wn<|Ws<|R z (h_O z)<|Rw z<|Wq<|Ws<|Rf z a_x z<|R z (l0 g_3 z<|hi.at z)<|Wn<|Wb<|Ws<|Rq z z z<|Rw z ?_
 obtain ⟨ez,bi,cA⟩:=bdS cz;refine Wt (fun a w=>∃(aX:List UInt8),aX=ez/\∃aY aZ b0 Sc,Sat 134 [(1,vI x2),(2,.pointer<|some ⟨b3,o3,none⟩),(3,pt w0.z),(6,pt I.z)] a/\Chg (· ∈ ([g1]++S1_1)) G w/\a_ w Sc (sl aY aZ b0) aX/\Sc.Nodup/\(∀k∈Sc,k∈S1_1∨G.z<=k)/\Blk w g1 [sl A0 N0 C0,sl aY aZ b0]) ?_ ?_
 ·refine Wc z (fun aN=>?_)<|fun aN=>?_
  ·refine Wg<|RM z z<|Rm z<|R z (N_ z)<|Rf z a_M z ?_
   have bL:∀k∈[I.z],¬B k:=or0 (e_ lr)<|m_<|zt' L H.s;refine R z (l0 g_3 z<|(((hC3.e H).e h3).c h2<|(g_ bL) _ hC3b).at (j:=0) z) ?_;obtain ⟨eA,eB,cB⟩:=bdS<|ifT bi aN;refine E z (d_L call114 z z<|i_O (B:=zn B w0.z I.z) eB ((hb.e h3).c h2<|djs<|mm1 (Blk.lt hB1) H.s) (c_A (zt' L<|lt_ (lt_ H.s h3.s) h2.s)<|lt_ h3.s h2.s) (atp ((b_p (e_ hBg) (e_<|Blk.lt hB1) lr):∀k∈[g1],¬(zn B w0.z I.z) k)) bh aL (repS.mono (V.g<|((H.ag B).e h3).c h2<|g_ bL) b_x) (((J.e H).e h3).c h2<|ds<|mno (a_.lt J) H.s) p1_1n ((b_p p1_1g (a_.lt J) lr):∀k∈S1_1,¬(zn B w0.z I.z) k) p1_1d (((h5.e h3).c h2<|djs<|mmr h5.lt).row 0 1 z)<|atp<|zin (B:=B) (e_ lr)<|e_ h5.lt) ?_;rintro _ eC ⟨eD,eE,eF,eG,bM,rfl,eH,eI,eJ,eK⟩;refine Wl ?_;exact fun _ q=>⟨eA,som cB,eE,eF,eG,bM,q.k<|s4 z z z z,(cM (cr ([g1]++S1_1) G) eD (aa_ (io<|R_ sr)<|io<|E_ sr):Chg (· ∈ ([g1]++S1_1)) G eC),eH,eI,(or1 eJ (io sr) (j_ lr):∀k∈bM,k∈S1_1∨G.z<=k),eK⟩
  refine Ws<|Rq z z z<|Rw z ?_
  obtain ⟨eL,bj,cC⟩:=bdS<|ifF bi aN;refine Wt (fun a w=>∃(a4:List UInt8),a4=eL/\∃a5 a6 a7 Sj,Sat 134 [(1,vI x2),(2,.pointer<|some ⟨b3,o3,none⟩),(3,pt w0.z),(6,pt I.z)] a/\Chg (· ∈ ([g1]++S1_1)) G w/\a_ w Sj (sl a5 a6 a7) a4/\Sj.Nodup/\(∀k∈Sj,k∈S1_1∨G.z<=k)/\Blk w g1 [sl A0 N0 C0,sl a5 a6 a7]) ?_ ?_
  ·refine Wc z (fun aO=>?_)<|fun aO=>?_
   ·refine Wg<|R z (l0 c_r z<|((h5.e h3).c h2<|djs<|mmr h5.lt).at z)<|Rf z a_U z<|R z (l0 F_ z<|hi.at z) ?_
    have bN:∀k∈[I.z],¬B k:=or0 (e_ lr)<|m_<|zt' L H.s;obtain ⟨eM,eN,cD⟩:=bdS<|ifT bj aO;refine E z (fc call115 z<|f_3 (B:=B) eN ((hb.e h3).c h2<|djs<|mm1 (Blk.lt hB1) H.s) (zt' L<|lt_ (lt_ H.s h3.s) h2.s) hBg (V.g<|((H.ag B).e h3).c h2<|g_ bN) (((J.e H).e h3).c h2<|ds<|mno (a_.lt J) H.s) p1_1n p1_1g p1_1d<|bH.g<|(h3.ag B).c h2<|g_ bN) ?_;rintro _ eO ⟨eP,eQ,eR,eS,bO,rfl,eT,eU,eV,eW⟩;refine Wl ?_;exact fun _ q=>⟨eM,som cD,eQ,eR,eS,bO,q.k<|s4 z z z z,(cM (cr ([g1]++S1_1) G) eP (aa_ (io<|R_ sr)<|io<|E_ sr):Chg (· ∈ ([g1]++S1_1)) G eO),eT,eU,(or1 eV (io sr) (j_ lr):∀k∈bO,k∈S1_1∨G.z<=k),eW⟩
   refine Ws<|Rq z z z<|Rw z ?_
   obtain ⟨eX,bk,cE⟩:=bdS<|ifF bj aO;refine Wt (fun a w=>∃(a8:List UInt8),a8=eX/\∃a9 aa ab Sk,Sat 134 [(1,vI x2),(2,.pointer<|some ⟨b3,o3,none⟩),(3,pt w0.z),(6,pt I.z)] a/\Chg (· ∈ ([g1]++S1_1)) G w/\a_ w Sk (sl a9 aa ab) a8/\Sk.Nodup/\(∀k∈Sk,k∈S1_1∨G.z<=k)/\Blk w g1 [sl A0 N0 C0,sl a9 aa ab]) ?_ ?_
   ·refine Wc z (fun aP=>?_)<|fun aP=>?_
    ·refine Wd (X:=noX) 32 (pl_ 6 [5]) mo (by kernel_rfl) fun eY se _=>dR z z (l0 c_r z<|(((h5.e h3).c h2<|djs<|mmr h5.lt).e se).at z)<|dM z z z<|dR z z (N_ z)<|dR z z (fd a_E z) ?_
     have bP:∀k∈[I.z],¬B k:=or0 (e_ lr)<|m_<|zt' L H.s;refine dR z z (l0 F_ z<|((((hC3.e H).e h3).c h2<|(g_ bP) _ hC3b).e se).at (j:=1) z) ?_;have bQ:=(((H.ag B).e h3).c h2<|g_ bP).e se;obtain ⟨eZ,f0,cF⟩:=bdS<|ifT bk aP;refine dE z z (fc call115 z<|f_3 (B:=B) f0 (((hb.e h3).c h2<|djs<|mm1 (Blk.lt hB1) H.s).e se) (zt' L<|lt_ (lt_ (lt_ H.s h3.s) h2.s) se.s) hBg (V.g bQ) ((((J.e H).e h3).c h2<|ds<|mno (a_.lt J) H.s).e se) p1_1n p1_1g p1_1d<|W.g bQ) (.inl z) ?_;rintro _ f1 ⟨f2,f3,f4,f5,bR,rfl,f6,f7,f8,f9⟩;refine pD ?_;exact fun _ q=>⟨eZ,som cF,f3,f4,f5,bR,q.k<|s4 z z z z,(cM (C_ (cr ([g1]++S1_1) G) se:Chg (· ∈ ([g1]++S1_1)) G eY) f2 (aa_ (io<|R_ sr)<|io<|E_ sr):Chg (· ∈ ([g1]++S1_1)) G f1),f6,f7,(or1 f8 (io sr) (j_ se.s):∀k∈bR,k∈S1_1∨G.z<=k),f9⟩
    refine Ws<|Rq z z z<|Rw z ?_
    obtain ⟨fe,bm,cG⟩:=bdS<|ifF bk aP;refine Wt (fun a w=>∃(ad:List UInt8),ad=fe/\∃ae af ah Sl,Sat 134 [(1,vI x2),(2,.pointer<|some ⟨b3,o3,none⟩),(3,pt w0.z),(6,pt I.z)] a/\Chg (· ∈ ([g1]++S1_1)) G w/\a_ w Sl (sl ae af ah) ad/\Sl.Nodup/\(∀k∈Sl,k∈S1_1∨G.z<=k)/\Blk w g1 [sl A0 N0 C0,sl ae af ah]) ?_ ?_
    ·refine Wc z (fun aQ=>?_)<|fun aQ=>?_
     ·refine Wq (Wd (X:=noX) 1024 (pl_ 11 [10]) mo (by kernel_rfl) fun ff s7 _=>dM z z z<|dR z z (fd T_ z)<|dR z z (l0 B_ z<|(hi.e s7).at z) ?_);obtain ⟨_,fg,cH⟩:=bdS<|ifT bm aQ;have b4:∀k∈[I.z],¬B k:=or0 (e_ lr)<|m_<|zt' L H.s;refine dRX z z (at_ (α:=Int) x_ z_3 z z z (aW.g<|((h3.ag B).c h2<|g_ b4).e s7) fg) ?_;rintro _ ⟨_,_,_,rfl,fh,fi,_⟩;obtain ⟨rfl,fj⟩:=a_1 fi;refine dR z z (l0 g_3 z<|fh.at0 z)<|dM z z z<|dR z z (N_ z)<|dR z z (fd a_E z) ?_
      have bS:=(((hC3.e H).e h3).c h2<|(g_ b4) _ hC3b).e s7;refine dR z z (l0 F_ z<|bS.at (j:=1) z) ?_;have b5:=(((H.ag B).e h3).c h2<|g_ b4).e s7;have bT:=W.g b5;refine dR z z (lnR p_ z bT) ?_;have bU:=((h5.e h3).c h2<|djs<|mmr h5.lt).e s7;have b6:=lt_ (lt_ (lt_ H.s h3.s) h2.s) s7.s;have bV:=zt' L b6;obtain ⟨_,fk,cI⟩:=bdS cH;refine dE z z (d_L call114 z z<|i_O (B:=zn B w0.z I.z) fk (((hb.e h3).c h2<|djs<|mm1 (Blk.lt hB1) H.s).e s7) (c_A bV<|lt_ (lt_ h3.s h2.s) s7.s) (atp ((b_p (e_ hBg) (e_<|Blk.lt hB1) lr):∀k∈[g1],¬(zn B w0.z I.z) k)) fj (b_f<|repS.len bT) (repS.mono (V.g b5) b_x) ((((J.e H).e h3).c h2<|ds<|mno (a_.lt J) H.s).e s7) p1_1n ((b_p p1_1g (a_.lt J) lr):∀k∈S1_1,¬(zn B w0.z I.z) k) p1_1d (bU.row 0 1 z)<|atp<|zin (B:=B) (e_ lr)<|e_ h5.lt) (.inl z) ?_;rintro _ fl ⟨sm,_,_,_,ai,rfl,fm,fo,aj,fp⟩;refine pD<|Wo (Wd (X:=noX) 32 (pl_ 6 [5]) mo (by kernel_rfl) fun fq sf _=>dR z z (l0 c_r z<|((bU.c sm<|atp<|nmA (mmr<|Blk.lt hB1)<|mnr<|a_.lt J).e sf).at z)<|dM z z z<|dR z z (N_ z)<|dR z z (fd a_E z)<|dR z z (l0 F_ z<|((bS.c sm<|(nmA (g_<|e_ hBg)<|g_ p1_1g) _ hC3b).e sf).at (j:=1) z) ?_)
      have bW:=(b5.c sm<|nmA (g_<|e_ hBg)<|g_ p1_1g).e sf;obtain ⟨fr,fs,cJ⟩:=bdS cI;refine dE z z (fc call115 z<|f_3 (B:=B) fs (fp.e sf) (zt' L<|lt_ (lt_ b6 sm.s) sf.s) hBg (V.g bW) (fm.e sf) fo (or1 aj p1_1g (m_ bV):∀k∈ai,¬B k) (or1 aj p1_1d (X_ (e_<|Blk.lt hB1) b6):∀k∈ai,k∉[g1])<|W.g bW) (.inl z) ?_;rintro _ ft ⟨fu,fv,fw,fx,bX,rfl,fy,fz,fA,fB⟩;refine pD ?_;exact fun _ q=>⟨fr,som cJ,fv,fw,fx,bX,q.k<|s4 z z z z,(cM (C_ (cM (C_ (cr ([g1]++S1_1) G) s7:Chg (· ∈ ([g1]++S1_1)) G ff) sm (aa_ (io<|R_ sr)<|io<|E_ sr):Chg (· ∈ ([g1]++S1_1)) G fl) sf:Chg (· ∈ ([g1]++S1_1)) G fq) fu (aa_ (io<|R_ sr) (or1 aj (io<|E_ sr) (j_ s7.s):∀k∈ai,k∈([g1]++S1_1)∨G.z<=k)):Chg (· ∈ ([g1]++S1_1)) G ft),fy,fz,(or1 fA (or1 aj (io sr) (j_ s7.s):∀k∈ai,k∈S1_1∨G.z<=k) (j_<|lt_ (lt_ s7.s sm.s) sf.s):∀k∈bX,k∈S1_1∨G.z<=k),fB⟩
     refine Ws<|Rq z z z<|Rw z ?_
     obtain ⟨fC,bn,cK⟩:=bdS<|ifF bm aQ;refine Wt (fun a w=>∃(ak:List UInt8),ak=fC/\∃al am an Sn,Sat 134 [(1,vI x2),(2,.pointer<|some ⟨b3,o3,none⟩),(3,pt w0.z),(6,pt I.z)] a/\Chg (· ∈ ([g1]++S1_1)) G w/\a_ w Sn (sl al am an) ak/\Sn.Nodup/\(∀k∈Sn,k∈S1_1∨G.z<=k)/\Blk w g1 [sl A0 N0 C0,sl al am an]) ?_ ?_
     ·refine Wc z (fun aR=>?_)<|fun aR=>?_
      ·refine Wd (X:=noX) 1024 (pl_ 11 [10]) mo (by kernel_rfl) fun fD s8 _=>dM z z z<|dR z z (fd T_ z)<|dR z z (l0 B_ z<|(hi.e s8).at z) ?_
       obtain ⟨_,fE,cL⟩:=bdS<|ifT bn aR;have b7:∀k∈[I.z],¬B k:=or0 (e_ lr)<|m_<|zt' L H.s;refine dRX z z (at_ (α:=Int) x_ z_3 z z z (aW.g<|((h3.ag B).c h2<|g_ b7).e s8) fE) ?_;rintro _ ⟨_,_,_,rfl,fF,fG,_⟩;obtain ⟨rfl,fH⟩:=a_1 fG;refine dR z z (l0 g_3 z<|fF.at0 z)<|dM z z z<|dR z z (N_ z)<|dR z z (fd Y_ z)<|dR z z (l0 a_6 z<|((((hC3.e H).e h3).c h2<|(g_ b7) _ hC3b).e s8).at (j:=2) z) ?_
       have bY:=(((H.ag B).e h3).c h2<|g_ b7).e s8;have bZ:=aM.g bY;refine dR z z (lnR Z_ z bZ) ?_;obtain ⟨fI,fJ,cN⟩:=bdS cL;refine dE z z (d_L call114 z z<|i_O (B:=zn B w0.z I.z) fJ (((hb.e h3).c h2<|djs<|mm1 (Blk.lt hB1) H.s).e s8) (c_A (zt' L<|lt_ (lt_ (lt_ H.s h3.s) h2.s) s8.s)<|lt_ (lt_ h3.s h2.s) s8.s) (atp ((b_p (e_ hBg) (e_<|Blk.lt hB1) lr):∀k∈[g1],¬(zn B w0.z I.z) k)) fH (b_f<|repS.len bZ) (repS.mono (V.g bY) b_x) ((((J.e H).e h3).c h2<|ds<|mno (a_.lt J) H.s).e s8) p1_1n ((b_p p1_1g (a_.lt J) lr):∀k∈S1_1,¬(zn B w0.z I.z) k) p1_1d ((((h5.e h3).c h2<|djs<|mmr h5.lt).e s8).row 0 1 z)<|atp<|zin (B:=B) (e_ lr)<|e_ h5.lt) (.inl z) ?_;rintro _ fK ⟨fL,fM,fN,fO,c0,rfl,fP,fQ,fR,fT⟩;refine pD ?_;exact fun _ q=>⟨fI,som cN,fM,fN,fO,c0,q.k<|s4 z z z z,(cM (C_ (cr ([g1]++S1_1) G) s8:Chg (· ∈ ([g1]++S1_1)) G fD) fL (aa_ (io<|R_ sr)<|io<|E_ sr):Chg (· ∈ ([g1]++S1_1)) G fK),fP,fQ,(or1 fR (io sr) (j_ s8.s):∀k∈c0,k∈S1_1∨G.z<=k),fT⟩
      refine Ws<|Rq z z z<|Rw z ?_
      obtain ⟨fU,bo,cO⟩:=bdS<|ifF bn aR;refine Wt (fun a w=>∃(ao:List UInt8),ao=fU/\∃ap aq ar So,Sat 134 [(1,vI x2),(2,.pointer<|some ⟨b3,o3,none⟩),(3,pt w0.z),(6,pt I.z)] a/\Chg (· ∈ ([g1]++S1_1)) G w/\a_ w So (sl ap aq ar) ao/\So.Nodup/\(∀k∈So,k∈S1_1∨G.z<=k)/\Blk w g1 [sl A0 N0 C0,sl ap aq ar]) ?_ ?_
      ·refine Wc z (fun aS=>?_)<|fun aS=>?_
       ·refine Wd (X:=noX) 512 (pl_ 10 [9]) mo (by kernel_rfl) fun fV s9 _=>dM z z z<|dR z z (fd T_ z)<|dR z z (l0 B_ z<|(hi.e s9).at z) ?_
        obtain ⟨_,fW,cP⟩:=bdS<|ifT bo aS;have b8:∀k∈[I.z],¬B k:=or0 (e_ lr)<|m_<|zt' L H.s;refine dRX z z (at_ (α:=Int) x_ z_3 z z z (aW.g<|((h3.ag B).c h2<|g_ b8).e s9) fW) ?_;rintro _ ⟨_,_,_,rfl,fX,fY,_⟩;obtain ⟨rfl,fZ⟩:=a_1 fY;refine dR z z (l0 g_3 z<|fX.at0 z)<|dM z z z<|dR z z (N_ z)<|dR z z (fd a_M z)<|dR z z (l0 g_3 z<|((((hC3.e H).e h3).c h2<|(g_ b8) _ hC3b).e s9).at (j:=0) z) ?_
        obtain ⟨g0,g2,cQ⟩:=bdS cP;refine dE z z (d_L call114 z z<|i_O (B:=zn B w0.z I.z) g2 (((hb.e h3).c h2<|djs<|mm1 (Blk.lt hB1) H.s).e s9) (c_A (zt' L<|lt_ (lt_ (lt_ H.s h3.s) h2.s) s9.s)<|lt_ (lt_ h3.s h2.s) s9.s) (atp ((b_p (e_ hBg) (e_<|Blk.lt hB1) lr):∀k∈[g1],¬(zn B w0.z I.z) k)) fZ aL (repS.mono (V.g<|(((H.ag B).e h3).c h2<|g_ b8).e s9) b_x) ((((J.e H).e h3).c h2<|ds<|mno (a_.lt J) H.s).e s9) p1_1n ((b_p p1_1g (a_.lt J) lr):∀k∈S1_1,¬(zn B w0.z I.z) k) p1_1d ((((h5.e h3).c h2<|djs<|mmr h5.lt).e s9).row 0 1 z)<|atp<|zin (B:=B) (e_ lr)<|e_ h5.lt) (.inl z) ?_;rintro _ g3 ⟨g4,g5,g6,g7,c1,rfl,g8,g9,ga,gb⟩;refine pD ?_;exact fun _ q=>⟨g0,som cQ,g5,g6,g7,c1,q.k<|s4 z z z z,(cM (C_ (cr ([g1]++S1_1) G) s9:Chg (· ∈ ([g1]++S1_1)) G fV) g4 (aa_ (io<|R_ sr)<|io<|E_ sr):Chg (· ∈ ([g1]++S1_1)) G g3),g8,g9,(or1 ga (io sr) (j_ s9.s):∀k∈c1,k∈S1_1∨G.z<=k),gb⟩
       refine Ws<|Rq z z z<|Rw z ?_
       obtain ⟨gc,bp,cR⟩:=bdS<|ifF bo aS;refine Wt (fun a w=>∃(au:List UInt8),au=gc/\∃av aw ax Sp,Sat 134 [(1,vI x2),(2,.pointer<|some ⟨b3,o3,none⟩),(3,pt w0.z),(6,pt I.z)] a/\Chg (· ∈ ([g1]++S1_1)) G w/\a_ w Sp (sl av aw ax) au/\Sp.Nodup/\(∀k∈Sp,k∈S1_1∨G.z<=k)/\Blk w g1 [sl A0 N0 C0,sl av aw ax]) ?_ ?_
       ·refine Wc z (fun aT=>?_)<|fun aT=>?_
        ·refine Wd (X:=noX) 256 (pl_ 9 [7,8]) mo (by kernel_rfl) fun Y sg _=>dR z z (l0 c_r z<|(((h5.e h3).c h2<|djs<|mmr h5.lt).e sg).at z)<|dM z z z<|dR z z (N_ z)<|dR z z (fd Y_ z) ?_
         have c2:∀k∈[I.z],¬B k:=or0 (e_ lr)<|m_<|zt' L H.s;refine dR z z (l0 a_6 z<|((((hC3.e H).e h3).c h2<|(g_ c2) _ hC3b).e sg).at (j:=2) z) ?_;have c3:=(((H.ag B).e h3).c h2<|g_ c2).e sg;refine dR z z (lnR Z_ z<|aM.g c3)<|dR z z (c_Y d_3 d_5 z)<|dE z z (fS [(.tmp 95)] z_ z z z (a_Q z) (lb z)<|lb z) (.inr fun _ _ h=>o_<|h.2.below) ?_
         rintro _ a0 ⟨rfl,b9⟩;have hq:=b9.below;have gD:Blk a0 Y.z [(vU<|byteI<|mkB (x3.items.length:Int))]:=b9.blk;have c4:=b_a b9 a_B;have ba:=lt_ (lt_ (lt_ H.s h3.s) h2.s) sg.s;obtain ⟨ge,gf,cS⟩:=bdS<|ifT bp aT;refine dE z z (fc call115 z<|f_3 (B:=zn B Y.z a0.z) gf ((((hb.e h3).c h2<|djs<|mm1 (Blk.lt hB1) H.s).e sg).e hq) (c_A (zt' L<|lt_ ba hq.s) lr) (atp ((b_p (e_ hBg) (e_<|Blk.lt hB1) ba):∀k∈[g1],¬(zn B Y.z a0.z) k)) (repS.mono (V.g<|c3.e hq) b_x) (((((J.e H).e h3).c h2<|ds<|mno (a_.lt J) H.s).e sg).e hq) p1_1n ((b_p p1_1g (a_.lt J) ba):∀k∈S1_1,¬(zn B Y.z a0.z) k) p1_1d<|or_ c4<|zin (B:=B) (e_ lr)<|a_.lt c4) (.inl z) ?_;rintro _ gg ⟨gh,gi,gj,gk,c5,rfl,gl,gm,gn,gp⟩;refine pD ?_;exact fun _ q=>⟨ge,som cS,gi,gj,gk,c5,q.k<|s4 z z z z,(cM (C_ (C_ (cr ([g1]++S1_1) G) sg:Chg (· ∈ ([g1]++S1_1)) G Y) hq:Chg (· ∈ ([g1]++S1_1)) G a0) gh (aa_ (io<|R_ sr)<|io<|E_ sr):Chg (· ∈ ([g1]++S1_1)) G gg),gl,gm,(or1 gn (io sr) (j_<|lt_ sg.s hq.s):∀k∈c5,k∈S1_1∨G.z<=k),gp⟩
        refine Ws<|Rq z z z<|Rw z ?_
        obtain ⟨gq,bq,cT⟩:=bdS<|ifF bp aT;refine Wt (fun a w=>∃(ay:List UInt8),ay=gq/\∃az aA aB Sr,Sat 134 [(1,vI x2),(2,.pointer<|some ⟨b3,o3,none⟩),(3,pt w0.z),(6,pt I.z)] a/\Chg (· ∈ ([g1]++S1_1)) G w/\a_ w Sr (sl az aA aB) ay/\Sr.Nodup/\(∀k∈Sr,k∈S1_1∨G.z<=k)/\Blk w g1 [sl A0 N0 C0,sl az aA aB]) ?_ ?_
        ·refine Wc z (fun aU=>?_)<|fun aU=>?_
         ·refine Wd (X:=noX) 1024 (pl_ 11 [9,10]) mo (by kernel_rfl) fun aC sd _=>dR z z (l0 c_r z<|(((h5.e h3).c h2<|djs<|mmr h5.lt).e sd).at z)<|dM z z z<|dR z z (N_ z)<|dR z z (fd a_E z) ?_
          have bb:∀k∈[I.z],¬B k:=or0 (e_ lr)<|m_<|zt' L H.s;refine dR z z (l0 F_ z<|((((hC3.e H).e h3).c h2<|(g_ bb) _ hC3b).e sd).at (j:=1) z)<|dR z z (fd a_U z)<|dR z z (l0 F_ z<|(hi.e sd).at z) ?_
          obtain ⟨_,gr,cU⟩:=bdS<|ifT bq aU;refine dRX z z (at_ (α:=UInt8) p_ z_5 z z z (bH.g<|((h3.ag B).c h2<|g_ bb).e sd) gr) ?_;rintro _ ⟨_,_,_,rfl,gs,gt,_⟩;obtain rfl:=u8 gt;refine dR z z (l0 g_5 z<|gs.at0 z) ?_;have c6:=(((H.ag B).e h3).c h2<|g_ bb).e sd;have aD:=lt_ (lt_ (lt_ H.s h3.s) h2.s) sd.s;obtain ⟨_,gu,cV⟩:=bdS cU;refine dE z z (fc call117 z<|W_w3o gu (zt' L aD)<|W.g c6) (.inr fun _ _ h=>o_<|h.1) ?_;rintro _ aE ⟨ss,_,_,_,_,rfl,c7,_,gv⟩;obtain ⟨gw,gx,cW⟩:=bdS cV;refine dE z z (fc call115 z<|f_3 (B:=zn B aC.z aE.z) gx ((((hb.e h3).c h2<|djs<|mm1 (Blk.lt hB1) H.s).e sd).e ss) (c_A (zt' L<|lt_ aD ss.s) lr) (atp ((b_p (e_ hBg) (e_<|Blk.lt hB1) aD):∀k∈[g1],¬(zn B aC.z aE.z) k)) (repS.mono (V.g<|c6.e ss) b_x) (((((J.e H).e h3).c h2<|ds<|mno (a_.lt J) H.s).e sd).e ss) p1_1n ((b_p p1_1g (a_.lt J) aD):∀k∈S1_1,¬(zn B aC.z aE.z) k) p1_1d<|or_ c7<|zin (B:=B) gv<|a_.lt c7) (.inl z) ?_;rintro _ gy ⟨gz,gA,gB,gC,c8,rfl,cX,cY,cZ,d0⟩;refine pD ?_;exact fun _ q=>⟨gw,som cW,gA,gB,gC,c8,q.k<|s4 z z z z,(cM (C_ (C_ (cr ([g1]++S1_1) G) sd:Chg (· ∈ ([g1]++S1_1)) G aC) ss:Chg (· ∈ ([g1]++S1_1)) G aE) gz (aa_ (io<|R_ sr)<|io<|E_ sr):Chg (· ∈ ([g1]++S1_1)) G gy),cX,cY,(or1 cZ (io sr) (j_<|lt_ sd.s ss.s):∀k∈c8,k∈S1_1∨G.z<=k),d0⟩
         exact a_h<|fun _ q=>⟨x1.out,som<|ifF bq aU,A5,N5,C5,S1_1,q.k<|s4 z z z z,cr ([g1]++S1_1) G,((J.e H).e h3).c h2<|ds<|mno (a_.lt J) H.s,p1_1n,io sr,(hb.e h3).c h2<|djs<|mm1 (Blk.lt hB1) H.s⟩
        rintro d1 d2 ⟨ay,rfl,az,aA,aB,Sr,_,d3,d4,d5,d6,d7⟩;revert d1;exact fun _ q=>⟨ay,som cT,az,aA,aB,Sr,q.k<|s4 z z z z,(cM (cr ([g1]++S1_1) G) d3 (aa_ (io<|R_ sr)<|io<|E_ sr):Chg (· ∈ ([g1]++S1_1)) G d2),d4,d5,(or1 d6 (io sr) (j_ lr):∀k∈Sr,k∈S1_1∨G.z<=k),d7⟩
       rintro d8 d9 ⟨au,rfl,av,aw,ax,Sp,_,da,db,dc,dd,de⟩;revert d8;exact fun _ q=>⟨au,som cR,av,aw,ax,Sp,q.k<|s4 z z z z,(cM (cr ([g1]++S1_1) G) da (aa_ (io<|R_ sr)<|io<|E_ sr):Chg (· ∈ ([g1]++S1_1)) G d9),db,dc,(or1 dd (io sr) (j_ lr):∀k∈Sp,k∈S1_1∨G.z<=k),de⟩
      rintro df dg ⟨ao,rfl,ap,aq,ar,So,_,dh,di,dj,dk,dl⟩;revert df;exact fun _ q=>⟨ao,som cO,ap,aq,ar,So,q.k<|s4 z z z z,(cM (cr ([g1]++S1_1) G) dh (aa_ (io<|R_ sr)<|io<|E_ sr):Chg (· ∈ ([g1]++S1_1)) G dg),di,dj,(or1 dk (io sr) (j_ lr):∀k∈So,k∈S1_1∨G.z<=k),dl⟩
     rintro dm dn ⟨ak,rfl,al,am,an,Sn,_,dp,dq,dr,dt,du⟩;revert dm;exact fun _ q=>⟨ak,som cK,al,am,an,Sn,q.k<|s4 z z z z,(cM (cr ([g1]++S1_1) G) dp (aa_ (io<|R_ sr)<|io<|E_ sr):Chg (· ∈ ([g1]++S1_1)) G dn),dq,dr,(or1 dt (io sr) (j_ lr):∀k∈Sn,k∈S1_1∨G.z<=k),du⟩
    rintro dv dw ⟨ad,rfl,ae,af,ah,Sl,_,dx,dy,dz,dA,dB⟩;revert dv;exact fun _ q=>⟨ad,som cG,ae,af,ah,Sl,q.k<|s4 z z z z,(cM (cr ([g1]++S1_1) G) dx (aa_ (io<|R_ sr)<|io<|E_ sr):Chg (· ∈ ([g1]++S1_1)) G dw),dy,dz,(or1 dA (io sr) (j_ lr):∀k∈Sl,k∈S1_1∨G.z<=k),dB⟩
   rintro dC dD ⟨a8,rfl,a9,aa,ab,Sk,_,dF,dG,dH,dI,dJ⟩;revert dC;exact fun _ q=>⟨a8,som cE,a9,aa,ab,Sk,q.k<|s4 z z z z,(cM (cr ([g1]++S1_1) G) dF (aa_ (io<|R_ sr)<|io<|E_ sr):Chg (· ∈ ([g1]++S1_1)) G dD),dG,dH,(or1 dI (io sr) (j_ lr):∀k∈Sk,k∈S1_1∨G.z<=k),dJ⟩
  rintro dK dL ⟨a4,rfl,a5,a6,a7,Sj,_,dN,dO,dP,dS,dT⟩;revert dK;exact fun _ q=>⟨a4,som cC,a5,a6,a7,Sj,q.k<|s4 z z z z,(cM (cr ([g1]++S1_1) G) dN (aa_ (io<|R_ sr)<|io<|E_ sr):Chg (· ∈ ([g1]++S1_1)) G dL),dO,dP,(or1 dS (io sr) (j_ lr):∀k∈Sj,k∈S1_1∨G.z<=k),dT⟩
 rintro dU dV ⟨aX,rfl,aY,aZ,b0,Sc,_,st,c9,dW,hu,ca⟩;revert dU;refine Wo<|Ws ?_
 have cb:=mnr<|a_.lt J
 have cc:=mmr<|Blk.lt hB1
 have bc:=((h5.e h3).c h2<|djs<|mmr h5.lt).c st<|atp<|nmA cc cb
 refine R z (l0 c_r z<|bc.at z)<|R z (N_ z)<|Rf z f_D z<|R z (l0 F_ z<|ca.at z) ?_
 have a1:=lt_ (lt_ H.s h3.s) h2.s;refine R z (lnR p_ z<|a_.rep c9)<|Rw z<|Ws<|R z (l0 c_r z<|bc.at z)<|RM z z ?_
 have cd:∀k∈[I.z],¬B k:=or0 (e_ lr)<|m_<|zt' L H.s;have aF:=(((H.ag B).e h3).c h2<|g_ cd).c st<|nmA (g_<|e_ hBg)<|g_ p1_1g
 have be:∀k∈Sc,¬B k:=or1 hu p1_1g<|m_<|zt' L a1;have ce:∀k∈Sc,k∉[g1]:=or1 hu p1_1d<|X_ (e_<|Blk.lt hB1) a1;have hv:=lt_ a1 st.s;have cf:=zt' L hv;obtain ⟨dX,dY,cu⟩:=bdS cA;refine E z (fc call118 z<|es.run (B:=B) dY ca cf hBg (V.g aF) c9 dW be ce bh aL (W.g aF) (aM.g aF) ((((hC3.e H).e h3).c h2<|(g_ cd) _ hC3b).c st<|(nmA (g_<|e_ hBg)<|g_ p1_1g) _ hC3b) hC3b) ?_;rintro _ wa ⟨sw,dZ,e0,e1,O,rfl,aG,cg,aH,ch⟩;refine Wn<|Ws<|Rf z a_x z ?_
 have ci:=mno (a_.lt J) H.s;have cj:=mm1 (Blk.lt hB1) H.s;refine R z (l0 g_3 z<|((hi.c st<|atp<|nmA cj ci).c sw<|atp<|nmA cj<|ds (or1 hu (ds ci) (X_ (e_ bK.lt) h2.s):∀k∈Sc,k∉[I.z])).at z)<|Rq z z z<|Wn ?_
 obtain ⟨e2,br,cv⟩:=bdS cu;refine Wt (fun a w=>∃(bf:List UInt8),bf=e2/\∃aI aJ aK Sx,Sat 134 [] a/\Chg (· ∈ ([g1]++O)) wa w/\a_ w Sx (sl aI aJ aK) bf/\Sx.Nodup/\(∀k∈Sx,k∈O∨wa.z<=k)/\Blk w g1 [sl A0 N0 C0,sl aI aJ aK]) ?_ ?_
 ·refine Wc z (fun aV=>?_)<|fun aV=>?_
  ·refine Wd (X:=noX) 1024 (pl_ 11 [7,9,10]) mo (by kernel_rfl) fun e3 sh _=>?_
   have ck:=(bc.c sw<|atp<|nmA cc<|ds (or1 hu (ds cb) (X_ (e_ h5.lt)<|lt_ h3.s h2.s):∀k∈Sc,k∉[w0.z])).e sh;refine dR z z (l0 c_r z<|ck.at z)<|dR z z (l0 c_r z<|ck.at z)<|dR z z (N_ z)<|dR z z (fd f_D z) ?_
   have cl:=ch.e sh;refine dR z z (l0 F_ z<|cl.at z)<|dM z z z ?_
   obtain ⟨_,e4,cw⟩:=bdS<|ifT br aV;have cm:=aG.e sh;refine dRX z z (rX p_ z_5 z z (or_ cm<|a_.lt aG) z z e4) ?_;rintro _ ⟨_,_,_,rfl,e5⟩;obtain ⟨e6,e7,cx⟩:=bdS cw;refine dE z z (fc call119 z<|W_w1p (B:=wa.z) e7 (a_I sh.s) e5) (.inr fun _ _ h=>o_<|h.1) ?_;rintro _ a2 ⟨sy,rfl,_⟩;refine dR z z (c_Y d_3 d_5 z)<|dE z z (fS [(.tmp 131)] z_ z z z (a_Q z) (lb z)<|lb z) (.inr fun _ _ h=>o_<|h.2.below) ?_
   rintro _ a3 ⟨rfl,bg⟩;have hz:=bg.below;have gE:Blk a3 a2.z [(vU<|byteI<|mkB e6)]:=bg.blk;have cn:=b_a bg a_B;have co:=lt_ sh.s sy.s;have cp:=lt_ (lt_ (lt_ hv sw.s) sh.s) sy.s;obtain ⟨e8,e9,cy⟩:=bdS cx;refine dE z z (fc call115 z<|f_3 (B:=zn B a2.z a3.z) e9 ((cl.e sy).e hz) (c_A (zt' L<|lt_ cp hz.s) lr) (atp ((b_p (e_ hBg) (e_<|Blk.lt hB1) cp):∀k∈[g1],¬(zn B a2.z a3.z) k)) (repS.mono (V.g<|(((aF.c sw<|nmA (g_<|e_ hBg)<|g_ be).e sh).e sy).e hz) b_x) ((cm.e sy).e hz) cg ((b_p (or1 aH be (m_ cf):∀k∈O,¬B k) (a_.lt aG) co):∀k∈O,¬(zn B a2.z a3.z) k) (or1 aH ce (X_ (e_<|Blk.lt hB1) hv):∀k∈O,k∉[g1])<|or_ cn<|zin (B:=B) (e_ lr)<|a_.lt cn) (.inl z) ?_;rintro _ ea ⟨eb,ec,ed,ee,cq,rfl,ef,eg,eh,ei⟩;refine pD ?_;exact fun _ q=>⟨e8,som cy,ec,ed,ee,cq,q.k sn,(cM (C_ (C_ (C_ (cr ([g1]++O) wa) sh:Chg (· ∈ ([g1]++O)) wa e3) sy:Chg (· ∈ ([g1]++O)) wa a2) hz:Chg (· ∈ ([g1]++O)) wa a3) eb (aa_ (io<|R_ sr)<|io<|E_ sr):Chg (· ∈ ([g1]++O)) wa ea),ef,eg,(or1 eh (io sr) (j_<|lt_ co hz.s):∀k∈cq,k∈O∨wa.z<=k),ei⟩
  exact a_h<|fun _ q=>⟨dX,som<|ifF br aV,dZ,e0,e1,O,q.k sn,cr ([g1]++O) wa,aG,cg,io sr,ch⟩
 rintro ej ek ⟨bf,rfl,aI,aJ,aK,Sx,_,em,en,eo,ep,er⟩;revert ej;obtain rfl:=som cv;have ct:∀k∈Sc,k∈([g1]++S1_1)∨w0.z<=k:=or1 hu (io<|E_ sr)<|j_ a1;exact e_K hr ⟨(cM (cM (cM (cM (C_ (C_ (cr ([g1]++S1_1) w0) H:Chg (· ∈ ([g1]++S1_1)) w0 I) h3:Chg (· ∈ ([g1]++S1_1)) w0 bI) h2 (mor H.s:∀k∈[I.z],k∈([g1]++S1_1)∨w0.z<=k):Chg (· ∈ ([g1]++S1_1)) w0 G) st (aa_ (io<|R_ sr)<|io<|E_ sr):Chg (· ∈ ([g1]++S1_1)) w0 dV) sw (aa_ (io<|R_ sr) ct):Chg (· ∈ ([g1]++S1_1)) w0 wa) em (aa_ (io<|R_ sr) (or1 aH ct (j_ hv):∀k∈O,k∈([g1]++S1_1)∨w0.z<=k)):Chg (· ∈ ([g1]++S1_1)) w0 ek),aI,aJ,aK,Sx,z,en,eo,(or1 ep (or1 aH (or1 hu (io sr) (j_ a1):∀k∈Sc,k∈S1_1∨w0.z<=k) (j_ hv):∀k∈O,k∈S1_1∨w0.z<=k) (j_<|lt_ hv sw.s):∀k∈Sx,k∈S1_1∨w0.z<=k),er⟩
theorem T_w1z (ih:k_R n):k_Q (g_m n<|c_b n):=by
 obtain ⟨ab,_⟩:=ih
 constructor
 intro A0 A5 A6 A7 N0 C0 N5 C5 g1 N6 C6 N7 C7 b3 o3 S1_1 B x1 x2 x3 res w0 hm hB1 V hBg W Y p1_1n p1_1g p1_1d a0 a2 a3 O hC3 hC3b;unfold g_m at hm
 refine goG func118 z z z fun fn hr=>Wm z<|R z (o_5 z)<|Rw z<|Wm z<|R z (N_ z)<|Rf z Y_ z<|R z (l0 a_6 z<|hC3.at (j:=2) z)<|R z (lnR Z_ z O)<|Rm z<|Wn ?_
 obtain ⟨_,hur,hmh⟩:=bdS hm;refine Wf (σ:=List UInt8) (ρ:=List UInt8) (fun (ki:Nat)(xa:List UInt8) a w=>∃H I J G,Sat 37 [(0,pt g1),(1,vI x2),(2,.pointer<|some ⟨b3,o3,none⟩),(6,.func (.func 73) #[pt g1] #[]),(14,vI (x3.items.length:Int)),(15,vI ((ki:Nat):Int))] a/\Chg (· ∈ ([g1]++S1_1)) w0 w/\a_ w G (sl H I J) xa/\G.Nodup/\(∀k∈G,k∈S1_1∨w0.z<=k)/\Blk w g1 [sl A0 N0 C0,sl H I J]) (fun (xa:List UInt8) a w=>∃H I J G,Sat 37 [] a/\Chg (· ∈ ([g1]++S1_1)) w0 w/\a_ w G (sl H I J) xa/\G.Nodup/\(∀k∈G,k∈S1_1∨w0.z<=k)/\Blk w g1 [sl A0 N0 C0,sl H I J]) (rQ prog fn<|Q28 w0 g1 B A0 N0 C0 A5 N5 C5 S1_1 x1) hur ?_ ?_ ?_ ?_ ?_
 ·exact fun _ q=>⟨A5,N5,C5,S1_1,q.k<|s6 z z z z z z,cr ([g1]++S1_1) w0,Y,p1_1n,io sr,hB1⟩
 ·rintro ki xa _ we _ hkf ⟨H,I,J,G,hSs,s7,h6,hb,h4,L⟩ hmt;refine Wu ?_ hSs;refine Ws<|Rl z z z<|Wn<|Wq<|Wc z (fun _=>?_) (fun hc=>(U_ hkf hc).elim)
  refine Wk<|Wq<|Wb<|Wm z<|Rw z<|Wq<|Wm z ?_
  obtain ⟨_,eu,hmj⟩:=bdS hmt;refine E z (fc call74 z<|W_w1x (B:=we.z) eu zr (repS.mono (W.c s7<|nmA (g_<|e_ hBg)<|g_ p1_1g)<|zt' V s7.s) (a_.rep h6) (L.row 0 2 z)<|zap' (a_I s7.s)<|Blk.lt hB1) ?_;rintro _ wk ⟨s5,rfl⟩;refine Wx z (fun hcg=>?_) (fun hcg=>?_)
  ·have hv:Chg (· ∈ ([g1]++S1_1)) w0 we:=cM (cr ([g1]++S1_1) w0) s7<|aa_ (io<|R_ sr)<|io<|E_ sr;exact Wr<|rtO<|qL (som<|ifT hmj hcg).symm<|e_K hr ⟨(C_ hv s5:Chg (· ∈ ([g1]++S1_1)) w0 wk),H,I,J,G,z,h6.e s5,hb,(or1 h4 (io sr) (j_ lr):∀k∈G,k∈S1_1∨w0.z<=k),L.e s5⟩
  refine Wk (Wd (X:=noX) 32768 (.rd 0<|.rd 1<|.rd 2<|.rd 3<|.rd 4<|.rd 5<|.rd 6<|.rd 7<|.rd 9<|.rd 10<|.rd 11<|.rd 12<|.rd 13<|.rd 14<|.ef 8<|.ef 15 .done) mo (by kernel_rfl) fun wy sc _=>dM z z z<|dM z z z<|dR z z (N_ z)<|dR z z (fd k_c z) ?_);have hl:=(L.e s5).e sc;refine dR z z (lN (vs:=[sl A0 N0 C0]) v_ u_ z z fid<|hl.row 0 1 z) ?_
  iterate 4 refine dM z z z ?_
  refine dR z z (N_ z)<|dR z z (fd Y_ z) ?_
  have hn:=((hC3.c s7<|(nmA (g_<|e_ hBg)<|g_ p1_1g) _ hC3b).e s5).e sc;refine dR z z (l0 a_6 z<|hn.at (j:=2) z)<|dM z z z ?_
  obtain ⟨_,ez,a4⟩:=bdS<|ifF hmj hcg;have hd:=((s7.agc B<|nmA (g_<|e_ hBg)<|g_ p1_1g).e s5).e sc;have ho:=O.g hd;refine dRX z z (at_ (α:=Val) Z_ c_ z z z ho ez) ?_;rintro _ ⟨_,_,_,rfl,ad,ae,af⟩;obtain ⟨_,_,_,_,_,_,rfl,ah,ai,aj⟩:=c_a ae;have hp:=lt_ (lt_ s7.s s5.s) sc.s;obtain ⟨_,ak,a5⟩:=bdS a4;refine dE z z (fc call112 z<|k_L (B:=B) (x1:=(⟨x1.d.rules⟩:f_)) ak (zt' V hp) (W.g hd) a0 a2 (a3.g hd) ho hn hC3b<|ic (Nat.le_of_lt hkf)<|lt_ (repS.len O) D_) (.inr fun _ _ h=>o_<|h.1) ?_;rintro _ al ⟨s8,rfl,am⟩;have hq:=lt_ hp s8.s;obtain ⟨an,ao,a6⟩:=bdS a5;refine dE z z (o_6 call73 z z<|ab.run (B:=B) ao (hl.e s8) (zt' V hq) hBg (W.g<|hd.e s8) (((h6.e s5).e sc).e s8) hb (or1 h4 p1_1g (m_ V):∀k∈G,¬B k) (or1 h4 p1_1d (X_ (e_<|Blk.lt hB1) lr):∀k∈G,k∉[g1]) am ah (ai.e s8) (aj.e s8) (ad.e s8) af) (.inl z) ?_;rintro _ ap ⟨aq,ar,au,av,Sm,rfl,aw,ax,ay,az⟩;refine pD<|Wo<|Wg<|R z (inc_ hkf (lt_ (repS.len O) D_) z z)<|Rm z<|Wl ?_
  exact fun _ q=>⟨an,(som a6).symm,⟨ar,au,av,Sm,q.k<|s6 z z z z z z,(cM (C_ (C_ (C_ (cM (cr ([g1]++S1_1) w0) s7 (aa_ (io<|R_ sr)<|io<|E_ sr):Chg (· ∈ ([g1]++S1_1)) w0 we) s5:Chg (· ∈ ([g1]++S1_1)) w0 wk) sc:Chg (· ∈ ([g1]++S1_1)) w0 wy) s8:Chg (· ∈ ([g1]++S1_1)) w0 al) aq (aa_ (io<|R_ sr) (or1 h4 (io<|E_ sr) (j_ lr):∀k∈G,k∈([g1]++S1_1)∨w0.z<=k)):Chg (· ∈ ([g1]++S1_1)) w0 ap),aw,ax,(or1 ay (or1 h4 (io sr) (j_ lr):∀k∈G,k∈S1_1∨w0.z<=k) (j_ hq):∀k∈Sm,k∈S1_1∨w0.z<=k),az⟩⟩
 ·rintro xa _ aA ⟨H,I,J,G,a7,aB,h6,hb,h4,L⟩;refine Wu ?_ a7;refine Ws<|Rl z z z<|Wn<|Wq<|Wc z (fun hc=>(V_ hc).elim) (fun _=>?_)
  exact We<|fun _ q=>⟨rfl,⟨H,I,J,G,q.k sn,(cM (cr ([g1]++S1_1) w0) aB (aa_ (io<|R_ sr)<|io<|E_ sr):Chg (· ∈ ([g1]++S1_1)) w0 aA),h6,hb,(or1 h4 (io sr) (j_ lr):∀k∈G,k∈S1_1∨w0.z<=k),L⟩⟩
 ·rintro xa aC aD rfl ⟨H,I,J,G,_,aE,h6,hb,h4,L⟩;have a8:=elL hmh;revert aC;obtain rfl:=som a8;exact e_K hr ⟨(cM (cr ([g1]++S1_1) w0) aE (aa_ (io<|R_ sr)<|io<|E_ sr):Chg (· ∈ ([g1]++S1_1)) w0 aD),H,I,J,G,z,h6,hb,(or1 h4 (io sr) (j_ lr):∀k∈G,k∈S1_1∨w0.z<=k),L⟩
 rintro _ _ _ _ rfl ⟨rfl,a9⟩;have aa:=elR hmh;obtain rfl:=som aa;exact ⟨a9,z⟩
theorem i_P:∀n,k_R n
  | 0=>⟨⟨fun hm=>by intros;exact nomatch (show none=some _ from hm)⟩,⟨fun hm=>by intros;exact nomatch (show none=some _ from hm)⟩⟩
  | n+1=>⟨T_w0c<|i_P n,T_w1z<|i_P n⟩
theorem W_w0c:k_P (c_b n).impl_printer_value:=(i_P n).1
theorem W_w1z:k_Q (c_b n).impl_printer_items:=(i_P n).2
theorem W_w3r {x1:f_}{x2:Int}{x3:Val}{res:(List UInt8)×Bool}(hm:i_2 n x1 x2 x3=some res)(I:B<=w0.z)(V:repS w0 B (sl A0 N0 C0) x1.rules)(W:inI x2)(Y:inI x3.number)(a0:repS w0 B (sl A6 N6 C6) x3.bytes)(a1:repS w0 B (sl A7 N7 C7) x3.items):k_ prog 49 [(.agg #[sl A0 N0 C0]),vI x2,(.agg #[vI x3.number,sl A6 N6 C6,sl A7 N7 C7])] w0 (Q18 w0 B res):=by
 unfold i_2 at hm
 refine goG func49 z z z fun fn hr=>Ws<|E z (fb z) ?_
 rintro _ J ⟨rfl,hj⟩;have h3:=hj.below;refine E z (fb z) ?_;rintro _ wb ⟨rfl,hk⟩;have h2:=hk.below;have hc:Blk wb J.z [vI x3.number,sl A6 N6 C6,sl A7 N7 C7]:=hk.blk;refine Ra z<|Rw z<|Wq<|Ws ?_
 have hl:=(hj.blk:Blk J w0.z [sl A0 N0 C0]).e h2;refine R z (lN (vs:=[sl A0 N0 C0]) v_ u_ z z fid<|hl.row 0 1 z)<|Rm z<|R z (lN (vs:=[vI x3.number,sl A6 N6 C6,sl A7 N7 C7]) l_ c_ z z fid<|hc.row 0 3 z) ?_
 have L:=(h3.ag B).e h2;have hd:=lt_ h3.s h2.s;obtain ⟨_,es,hmm⟩:=bdS hm;refine E z (fc call47 z<|k_N es (zt' I hd) (V.g L) W Y (a0.g L)<|a1.g L) ?_;rintro _ H ⟨G,rfl⟩;refine R z (not_ z)<|Wx z (fun hce=>?_) (fun hce=>?_)
 ·refine Ws<|E z (f0 (α:=UInt8) z_) ?_
  rintro _ _ ⟨ax,ny,cz,rfl,a3,a4⟩;refine Ra z<|Rw z ?_
  obtain rfl:=som<|ifT hmm hce;exact Wr<|a_9 hr z z ⟨bup (bup (bup h3 h2) G) a3,ax,ny,cz,[H.z],z,a4,M_,m1<|lt_ hd G.s⟩
 refine Wk<|Ws<|R z (lN (vs:=[sl A0 N0 C0]) v_ u_ z z fid<|(hl.e G).row 0 1 z)<|R z (bP (parts:=[(0,.tmp 15)]) (cs:=[sl A0 N0 C0,sl none 0 0]) r_q z z)<|E z (fb z) ?_
 rintro _ wn ⟨rfl,ho⟩;have h1:=ho.below;have hp:Blk wn H.z [sl A0 N0 C0,sl none 0 0]:=ho.blk;refine Rw z<|Wm z<|Rm z ?_
 have O:=(L.e G).e h1;have ha:=lt_ hd G.s;have hq:=zt' I ha;have hf:=lt_ ha h1.s;obtain ⟨_,a5,a2⟩:=bdS<|ifF hmm hce;refine E z (fc call73 z<|W_w0c.run (B:=zn B J.z wb.z) a5 hp (c_A (zt' I hf)<|lt_ G.s h1.s) (atp (or0 (e_ lr) (lenz (m_ hq) G.s):∀k∈[H.z],¬(zn B J.z wb.z) k)) (repS.mono (V.g O) b_x) onL a_2 an_ an_ W Y (repS.mono (a0.g O) b_x) (repS.mono (a1.g O) b_x) (((hc.e G).e h1).row 0 3 z)<|atp<|zin (B:=B) (e_ lr)<|e_ hc.lt) ?_;rintro _ a6 ⟨s5,a7,a8,a9,Sg,rfl,hh,aa,ht,hu⟩;refine Wn<|Wq<|Wm z ?_
 have hv:=lt_ hf s5.s;obtain ⟨_,ab,hmr⟩:=bdS a2;refine E z (fc call74 z<|W_w1x (B:=zn B H.z a6.z) ab (c_A (zt' I hv) lr) (repS.mono (V.g<|O.c s5<|nmA (g_ (or0 (e_ lr) (m_ hq):∀k∈[H.z],¬B k))<|g_ an_) b_x) (repS.mono (or_ hh<|zin (B:=B) (or1 ht an_ (b_4 lr):∀k∈Sg,wn.z<=k)<|a_.lt hh)<|g_r h1.s lr) (hu.row 0 2 z)<|zap' (g_r lr s5.s)<|atp<|zin (B:=B) (e_ lr)<|e_ hp.lt) ?_;rintro _ ad ⟨s6,rfl⟩;refine Wx z (fun hci=>?_) (fun hci=>?_)
 ·refine Ws<|E z (f0 (α:=UInt8) z_) ?_
  rintro _ _ ⟨ae,af,ah,rfl,ai,aj⟩;refine Ra z<|Rw z ?_
  obtain rfl:=som<|ifT hmr hci;exact Wr<|a_9 hr z z ⟨bup (bup (bM (bup (bup (bup h3 h2) G) h1) s5<|aa_ (m1 ha) an_) s6) ai,ae,af,ah,[ad.z],z,aj,M_,m1<|lt_ hv s6.s⟩
 refine Wk<|Wm z<|R z (N_ z)<|Rf z f_D z<|R z (l0 F_ z<|(hu.e s6).at z)<|Ra z<|Rw z ?_
 obtain rfl:=som<|ifF hmr hci;exact Wr<|a_9 hr z z ⟨bup (bM (bup (bup (bup h3 h2) G) h1) s5<|aa_ (m1 ha) an_) s6,a7,a8,a9,Sg,z,hh.e s6,aa,(or1 ht an_ (b_4 hf):∀k∈Sg,w0.z<=k)⟩
theorem W_w3s {x1:f_}{x2:Val}{res:(List UInt8)×Bool}(hm:g_o n x1 x2=some res)(I:B<=w0.z)(H:repS w0 B (sl A0 N0 C0) x1.rules)(W:inI x2.number)(Y:repS w0 B (sl AA NA CA) x2.bytes)(a0:repS w0 B (sl AB NB CB) x2.items):k_ prog 28 [(.agg #[sl A0 N0 C0]),(.agg #[vI x2.number,sl AA NA CA,sl AB NB CB])] w0 (Q18 w0 B res):=by
 unfold g_o at hm
 refine goG func28 z z z fun fn hr=>Ws<|E z (fb z) ?_
 rintro _ J ⟨rfl,h6⟩;have h2:=h6.below;refine E z (fb z) ?_;rintro _ wd ⟨rfl,L⟩;have h1:=L.below;refine Ra z<|Rw z<|Wq (Wd (X:=noX) 0 (.rd 0<|.rd 1<|.rd 3<|.ef 2<|.ef 4<|.rd 5<|.rd 6<|.rd 7<|.rd 8 .done) mo (by kernel_rfl) fun wr G _=>?_)
 have O:=((h6.blk:Blk J w0.z [sl A0 N0 C0]).e h1).e G;refine dR z z (lN (vs:=[sl A0 N0 C0]) v_ u_ z z fid<|O.row 0 1 z)<|dR z z (lN (vs:=[sl A0 N0 C0]) v_ u_ z z fid<|O.row 0 1 z)<|dR z z (lN (vs:=[vI x2.number,sl AA NA CA,sl AB NB CB]) l_ c_ z z fid<|((L.blk:Blk wd J.z [vI x2.number,sl AA NA CA,sl AB NB CB]).e G).row 0 3 z) ?_
 have V:=((h2.ag B).e h1).e G;have ha:=lt_ (lt_ h2.s h1.s) G.s;obtain ⟨_,eg,hmf⟩:=bdS hm;refine dE z z (fc call44 z<|g_Q eg (zt' I ha)<|H.g V) (.inr fun _ _ h=>o_<|h.1) ?_;rintro _ _ ⟨s3,rfl,hh⟩;have h4:=V.e s3;have hb:=lt_ ha s3.s;obtain ⟨_,_,ei,hmj⟩:=a_n hmf;refine dE z z (fc call49 z<|W_w3r ei (zt' I hb) (H.g h4) hh W (Y.g h4)<|a0.g h4) (.inr fun _ _ h=>o_<|h.1) ?_;rintro _ _ ⟨sk,al,nm,cn,So,rfl,hp,hq,ht⟩;refine dR z z (ext_ z z)<|dR z z (ext_ z z)<|dQ z z z<|dQ z z z<|pD<|Wo ?_
 obtain rfl:=som hmj;exact Wr<|a_9 hr z z ⟨bup (bup (bup (bup h2 h1) G) s3) sk,al,nm,cn,So,z,hp,hq,h_ ht hb⟩
theorem W_w20 {x1:f_}{x2:List UInt8}{x3:Str}{x4:Val}{res:(List UInt8)×Bool}(hm:f_n n x1 x2 x3 x4=some res)(J:B<=w0.z)(hG:Gl w0 B)(O:repS w0 B (sl A0 N0 C0) x1.rules)(V:repS w0 B (sl A8 N8 C8) x2)(ar:x3.b.length<=LEN)(au:inI x4.number)(av:repS w0 B (sl AH NH CH) x4.bytes)(aw:repS w0 B (sl AI NI CI) x4.items):k_ prog 10 [(.agg #[sl A0 N0 C0]),sl A8 N8 C8,Str.v x3,(.agg #[vI x4.number,sl AH NH CH,sl AI NI CI])] w0 (Q18 w0 B res):=by
 unfold f_n at hm
 refine goG func10 z z z fun fn hr=>Ws<|E z (fb z) ?_
 rintro _ ws ⟨rfl,hu⟩;have H:=hu.below;have hc:Blk ws w0.z [sl A0 N0 C0]:=hu.blk;refine E z (fb z) ?_;rintro _ aE ⟨rfl,hv⟩;have h5:=hv.below;have hw:Blk aE ws.z [vI x4.number,sl AH NH CH,sl AI NI CI]:=hv.blk;refine Ra z<|Rw z<|Ws ?_
 have hx:=hc.e h5;refine R z (lN (vs:=[sl A0 N0 C0]) v_ u_ z z fid<|hx.row 0 1 z)<|Rm z ?_
 have L:=(H.ag B).e h5;have hy:=(hG.e H).e h5;have hd:=lt_ H.s h5.s;obtain ⟨rz,_,_,aF,ax⟩:=a_3 hm;refine E z (fc call26 z<|W_w37 aF (zt' J hd) hy (O.g L)<|V.g L) ?_;rintro _ wa ⟨s2,a3,a4,a5,_,a6,a7,a8,_,rfl,aG,he,hf,_,_,_,_⟩;refine Rm z ?_
 iterate 3 refine Re z z z ?_
 refine E z (fa L_) ?_;rintro _ aH ⟨rfl,a9⟩;have G:=a9.below;refine E0 (fs0 (cur':=[vI rz.number,sl a3 a4 a5,sl a6 a7 a8]) c_ z z (a9.blk:Blk aH wa.z [vI 0,sl none 0 0,sl none 0 0]) z z z z) ?_;rintro _ wg ⟨aI,aJ⟩;have h1:=aJ.one;refine Ra z<|Rw z<|Wq<|Wm z<|Rq z z z<|Wn ?_
 obtain ⟨aK,W,Y⟩:=bdS ax;refine Wt (fun a w=>Sum.inl ()=aK/\Sat 46 [(1,sl A8 N8 C8)] a/\Below wg.z wg w) ?_ ?_
 ·refine Wc z (fun hch=>?_)<|fun hch=>?_
  ·refine Ws ?_;have aa:=lt_ h5.s s2.s;have ab:=((hx.e s2).e G).c h1<|djs<|mm1 hc.lt aa
   refine R z (lN (vs:=[sl A0 N0 C0]) v_ u_ z z fid<|ab.row 0 1 z)<|R z (lN (vs:=[vI rz.number,sl a3 a4 a5,sl a6 a7 a8]) l_ c_ z z fid<|aI.row 0 3 z)<|Rm z<|R z (lN (vs:=[vI x4.number,sl AH NH CH,sl AI NI CI]) l_ c_ z z fid<|(((hw.e s2).e G).c h1<|djs<|mm1 hw.lt s2.s).row 0 3 z) ?_
   have hi:=lt_ hd s2.s;have I:=zt' J hi;have ad:∀k∈[wa.z],¬B k:=or0 (e_ lr)<|m_ I;have hb:=((L.e s2).e G).c h1<|g_ ad
   obtain ⟨ae,_,aL,ay⟩:=a_n<|ifT W hch;refine E z (fc call27 z<|W_w3n (B:=wa.z) aL (a_I<|lt_ G.s h1.s) ((((hy.e s2).e G).c h1<|g_ ad).mono I) (repS.mono (O.g hb) I) aG (or_ ((he.e G).c h1<|ds<|mnr<|a_.lt he)<|a_.lt he) (or_ ((hf.e G).c h1<|ds<|mnr<|a_.lt hf)<|a_.lt hf) ar au (repS.mono (av.g hb) I)<|repS.mono (aw.g hb) I) ?_;rintro _ wj ⟨s6,af,ah,ai,_,aj,ak,al,_,rfl,aM,hk,hl,_,_⟩;refine Rm z<|Re z z z<|Re z z z<|E z (fa L_) ?_
   rintro _ aN ⟨rfl,am⟩;have h3:=am.below;refine E0 (fs0 (cur':=[vI ae.number,sl af ah ai,sl aj ak al]) c_ z z (am.blk:Blk aN wj.z [vI 0,sl none 0 0,sl none 0 0]) z z z z) ?_;rintro _ wm ⟨aO,aP⟩;have h4:=aP.one;refine Rw z<|Wm z<|Wn ?_
   obtain ⟨aQ,a0,a1⟩:=bdS ay;refine Wt (fun a w=>Sum.inl ()=aQ/\Sat 46 [(1,sl A8 N8 C8)] a/\Below wm.z wm w) ?_ ?_
   ·refine Wc z (fun hcn=>?_)<|fun hcn=>?_
    ·refine Ws<|R z (lN (vs:=[sl A0 N0 C0]) v_ u_ z z fid<|(((ab.e s6).e h3).c h4<|djs<|mm1 hc.lt<|lt_ (lt_ (lt_ aa G.s) h1.s) s6.s).row 0 1 z)<|R z (lN (vs:=[vI ae.number,sl af ah ai,sl aj ak al]) l_ c_ z z fid<|aO.row 0 3 z) ?_
     have ho:=lt_ (lt_ (lt_ hi G.s) h1.s) s6.s;have an:=zt' J ho;obtain ⟨_,_,aR,a2⟩:=a_n<|ifT a0 hcn;refine E z (fc call28 z<|W_w3s (B:=wj.z) aR (a_I<|lt_ h3.s h4.s) (repS.mono (O.g<|((hb.e s6).e h3).c h4<|g_ (or0 (e_ lr) (m_ an):∀k∈[wj.z],¬B k)) an) aM (or_ ((hk.e h3).c h4<|ds<|mnr<|a_.lt hk)<|a_.lt hk)<|or_ ((hl.e h3).c h4<|ds<|mnr<|a_.lt hl)<|a_.lt hl) ?_;rintro _ _ ⟨ao,aS,aT,aU,aV,rfl,aW,aX,aY⟩;refine Rm z<|Re z z z<|Re z z z<|Ra z<|Rw z<|Wm z<|Wx z (fun hcp=>?_) (fun hcp=>?_)
     ·refine Wm z<|Ra z<|Rw z ?_
      obtain rfl:=som<|ifT a2 hcp;have az:=elR a1;obtain rfl:=som az;have aA:=elR Y;obtain rfl:=som aA;exact Wr<|a_9 hr z z ⟨bup (bM (bup (bup (bM (bup (bup (bup H h5) s2) G) h1<|m1 hi) s6) h3) h4<|m1 ho) ao,aS,aT,aU,aV,z,aW,aX,h_ aY<|lt_ (lt_ ho h3.s) h4.s⟩
     exact a_h<|fun _ q=>⟨som<|ifF a2 hcp,q.k<|s1 z,ao⟩
    exact a_h<|fun _ q=>⟨som<|ifF a0 hcn,q.k<|s1 z,br wm⟩
   rintro aZ _ ⟨rfl,_,b0⟩;have aB:=elL a1;revert aZ;exact fun _ q=>⟨som aB,q.k<|s1 z,bup (bM (bup s6 h3) h4<|m1 s6.s) b0⟩
  exact a_h<|fun _ q=>⟨som<|ifF W hch,q.k<|s1 z,br wg⟩
 rintro b3 _ ⟨rfl,_,sq⟩;have aC:=elL Y;revert b3;refine Wo<|Ws<|E z (f0 (α:=UInt8) z_) ?_
 rintro _ _ ⟨_,_,_,rfl,sr,b4⟩;refine Rm z ?_;obtain ⟨_,b5,aD⟩:=bdS aC;have ht:=lt_ hd s2.s;refine E z (fN (α:=UInt8) z_ b5 z z b4 M_<|V.g<|((((L.e s2).e G).c h1<|g_ (or0 (e_ lr) (m_<|zt' J ht):∀k∈[wa.z],¬B k)).e sq).e sr) ?_;rintro _ _ ⟨b6,b7,b8,b9,rfl,ba,bb,bc,be⟩;refine Ra z<|Rw z ?_
 obtain rfl:=som aD;have ap:=lt_ (lt_ (lt_ ht G.s) h1.s) sq.s;have aq:=m1 ap;exact Wr<|a_9 hr z z ⟨bM (bup (bup (bM (bup (bup (bup H h5) s2) G) h1<|m1 ht) sq) sr) ba aq,b7,b8,b9,b6,z,bb,bc,a_8 be aq<|lt_ ap sr.s⟩
theorem f_H {x1:List UInt8}{x2:List UInt8}{res:Bool}(hm:d_k x1 x2=some res)(a0:B<=w0.z)(G:repS w0 B (sl A0 N0 C0) x1)(L:repS w0 B (sl A8 N8 C8) x2):k_ prog 11 [sl A0 N0 C0,sl A8 N8 C8] w0 (Q9 w0 B res):=by
 unfold d_k at hm
 refine goG func11 z z z fun fn hr=>Ws<|Rw z<|Wq<|Wm z<|R z (lnR p_ z G)<|Rm z<|R z (lnR p_ z L)<|R z (nq z z)<|Wx z (fun I=>?_) (fun I=>?_)
 ·refine Ws<|Rw z ?_
  obtain rfl:=som<|ifT hm I;exact Wr<|d_ hr z ⟨br w0,z⟩
 refine Wk<|Wq<|Ws<|Rw z ?_
 obtain ⟨_,hua,O⟩:=bdS<|ifF hm I;refine Wf (σ:=Unit) (ρ:=Bool) (fun (k5:Nat)(_:Unit) a w=>Sat 26 [(0,sl A0 N0 C0),(1,sl A8 N8 C8),(5,vI ((k5:Nat):Int))] a/\Below w0.z w0 w) (fun (_:Unit) a w=>Sat 26 [] a/\Below w0.z w0 w) (rQ prog fn<|Q9 w0 B) hua ?_ ?_ ?_ ?_ ?_
 ·exact fun _ q=>⟨q.k<|s3 z z z,br w0⟩
 ·rintro k5 _ _ _ _ V ⟨hSb,H⟩ hmc;refine Wu ?_ hSb;refine Wq<|Wm z<|Rm z<|R z (lnR p_ z<|G.e H)<|Rl z z z<|Wx z (fun _=>?_) (fun hc=>(U_ V hc).elim)
  refine Wk<|Wq<|Wb<|Wq (Wd (X:=noX) 0 (pl_ 9 []) mo (by kernel_rfl) fun wu s2 _=>dM z z z<|dM z z z ?_)
  obtain ⟨_,ed,hme⟩:=bdS hmc;have Y:=(H.ag B).e s2;refine dRX z z (at_ (α:=UInt8) p_ z_5 z z z (G.g Y) ed) ?_;rintro _ ⟨_,_,_,rfl,hf,hg,_⟩;obtain rfl:=u8 hg;refine dR z z (l0 g_5 z<|hf.at0 z)<|dM z z z<|dM z z z ?_
  obtain ⟨_,eh,W⟩:=bdS hme;refine dRX z z (at_ (α:=UInt8) p_ z_5 z z z (L.g Y) eh) ?_;rintro _ ⟨_,_,_,rfl,hi,hj,_⟩;obtain rfl:=u8 hj;refine dR z z (l0 g_5 z<|hi.at0 z)<|dR z z (nq z z)<|pD<|Wo<|Wc z (fun J=>?_) (fun J=>?_)
  ·exact Ws<|Rw z<|Wr<|rtO<|qL (som<|ifT W J).symm<|d_ hr z ⟨bup H s2,z⟩
  exact Wk<|Wg<|Rm z<|R z (inc_ V (lt_ (repS.len G) D_) z z)<|Ra z<|Wl (fun _ q=>⟨(),(som<|ifF W J).symm,⟨q.k<|s3 z z z,bup H s2⟩⟩)
 ·rintro _ _ _ ⟨hSk,s9⟩;refine Wu ?_ hSk;refine Wq<|Wm z<|Rm z<|R z (lnR p_ z<|G.e s9)<|Rl z z z<|Wx z (fun hc=>(V_ hc).elim) (fun _=>?_)
  exact We<|fun _ q=>⟨rfl,⟨q.k sn,s9⟩⟩
 ·rintro _ al _ rfl ⟨_,sm⟩;have hmn:=elL O;revert al;refine Wo<|Ws<|Rw z ?_
  obtain rfl:=som hmn;exact Wr<|d_ hr z ⟨sm,z⟩
 rintro _ _ _ _ rfl ⟨rfl,hqo⟩;have hmp:=elR O;obtain rfl:=som hmp;exact ⟨hqo,z⟩
theorem W_w3t {x1:List Str}{x2:List Str}{res:Bool}(hm:h_x x1 x2=some res)(a0:B<=w0.z)(G:repS w0 B (sl A0 N0 C0) x1)(L:repS w0 B (sl A8 N8 C8) x2):k_ prog 75 [sl A0 N0 C0,sl A8 N8 C8] w0 (Q9 w0 B res):=by
 unfold h_x at hm
 refine goG func75 z z z fun fn hr=>Ws<|Rw z<|Wq<|Wm z<|R z (lnR Q_ z G)<|Rm z<|R z (lnR Q_ z L)<|R z (nq z z)<|Wx z (fun I=>?_) (fun I=>?_)
 ·refine Ws<|Rw z ?_
  obtain rfl:=som<|ifT hm I;exact Wr<|d_ hr z ⟨br w0,z⟩
 refine Wk<|Wq<|Ws<|Rw z ?_
 obtain ⟨_,hua,O⟩:=bdS<|ifF hm I;refine Wf (σ:=Unit) (ρ:=Bool) (fun (k5:Nat)(_:Unit) a w=>Sat 26 [(0,sl A0 N0 C0),(1,sl A8 N8 C8),(5,vI ((k5:Nat):Int))] a/\Below w0.z w0 w) (fun (_:Unit) a w=>Sat 26 [] a/\Below w0.z w0 w) (rQ prog fn<|Q9 w0 B) hua ?_ ?_ ?_ ?_ ?_
 ·exact fun _ q=>⟨q.k<|s3 z z z,br w0⟩
 ·rintro k5 _ _ _ _ V ⟨hSb,H⟩ hmc;refine Wu ?_ hSb;refine Wq<|Wm z<|Rm z<|R z (lnR Q_ z<|G.e H)<|Rl z z z<|Wx z (fun _=>?_) (fun hc=>(U_ V hc).elim)
  refine Wk<|Wq<|Wb<|Wq (Wd (X:=noX) 0 (pl_ 9 []) mo (by kernel_rfl) fun wu s2 _=>dM z z z<|dM z z z ?_)
  obtain ⟨_,ed,hme⟩:=bdS hmc;have Y:=(H.ag B).e s2;refine dRX z z (at_ (α:=Str) Q_ z_9 z z z (G.g Y) ed) ?_;rintro _ ⟨_,_,_,rfl,hf,hg,_⟩;obtain ⟨rfl,_⟩:=b_9 hg;refine dR z z (l0 g_9 z<|hf.at0 z)<|dM z z z<|dM z z z ?_
  obtain ⟨_,eh,W⟩:=bdS hme;refine dRX z z (at_ (α:=Str) Q_ z_9 z z z (L.g Y) eh) ?_;rintro _ ⟨_,_,_,rfl,hi,hj,_⟩;obtain ⟨rfl,_⟩:=b_9 hj;refine dR z z (l0 g_9 z<|hi.at0 z)<|dR z z (f_t z z)<|pD<|Wo<|Wc z (fun J=>?_) (fun J=>?_)
  ·exact Ws<|Rw z<|Wr<|rtO<|qL (som<|ifT W J).symm<|d_ hr z ⟨bup H s2,z⟩
  exact Wk<|Wg<|Rm z<|R z (inc_ V (lt_ (repS.len G) D_) z z)<|Ra z<|Wl (fun _ q=>⟨(),(som<|ifF W J).symm,⟨q.k<|s3 z z z,bup H s2⟩⟩)
 ·rintro _ _ _ ⟨hSk,s9⟩;refine Wu ?_ hSk;refine Wq<|Wm z<|Rm z<|R z (lnR Q_ z<|G.e s9)<|Rl z z z<|Wx z (fun hc=>(V_ hc).elim) (fun _=>?_)
  exact We<|fun _ q=>⟨rfl,⟨q.k sn,s9⟩⟩
 ·rintro _ al _ rfl ⟨_,sm⟩;have hmn:=elL O;revert al;refine Wo<|Ws<|Rw z ?_
  obtain rfl:=som hmn;exact Wr<|d_ hr z ⟨sm,z⟩
 rintro _ _ _ _ rfl ⟨rfl,hqo⟩;have hmp:=elR O;obtain rfl:=som hmp;exact ⟨hqo,z⟩
theorem W_w21 {x1:List Int}{x2:List Int}{res:Bool}(hm:f_U x1 x2=some res)(a0:B<=w0.z)(G:repS w0 B (sl A0 N0 C0) x1)(L:repS w0 B (sl A8 N8 C8) x2):k_ prog 76 [sl A0 N0 C0,sl A8 N8 C8] w0 (Q9 w0 B res):=by
 unfold f_U at hm
 refine goG func76 z z z fun fn hr=>Ws<|Rw z<|Wq<|Wm z<|R z (lnR x_ z G)<|Rm z<|R z (lnR x_ z L)<|R z (nq z z)<|Wx z (fun I=>?_) (fun I=>?_)
 ·refine Ws<|Rw z ?_
  obtain rfl:=som<|ifT hm I;exact Wr<|d_ hr z ⟨br w0,z⟩
 refine Wk<|Wq<|Ws<|Rw z ?_
 obtain ⟨_,hua,O⟩:=bdS<|ifF hm I;refine Wf (σ:=Unit) (ρ:=Bool) (fun (k5:Nat)(_:Unit) a w=>Sat 26 [(0,sl A0 N0 C0),(1,sl A8 N8 C8),(5,vI ((k5:Nat):Int))] a/\Below w0.z w0 w) (fun (_:Unit) a w=>Sat 26 [] a/\Below w0.z w0 w) (rQ prog fn<|Q9 w0 B) hua ?_ ?_ ?_ ?_ ?_
 ·exact fun _ q=>⟨q.k<|s3 z z z,br w0⟩
 ·rintro k5 _ _ _ _ V ⟨hSb,H⟩ hmc;refine Wu ?_ hSb;refine Wq<|Wm z<|Rm z<|R z (lnR x_ z<|G.e H)<|Rl z z z<|Wx z (fun _=>?_) (fun hc=>(U_ V hc).elim)
  refine Wk<|Wq<|Wb<|Wq (Wd (X:=noX) 0 (pl_ 9 []) mo (by kernel_rfl) fun wu s2 _=>dM z z z<|dM z z z ?_)
  obtain ⟨_,ed,hme⟩:=bdS hmc;have Y:=(H.ag B).e s2;refine dRX z z (at_ (α:=Int) x_ z_3 z z z (G.g Y) ed) ?_;rintro _ ⟨_,_,_,rfl,hf,hg,_⟩;obtain ⟨rfl,_⟩:=a_1 hg;refine dR z z (l0 g_3 z<|hf.at0 z)<|dM z z z<|dM z z z ?_
  obtain ⟨_,eh,W⟩:=bdS hme;refine dRX z z (at_ (α:=Int) x_ z_3 z z z (L.g Y) eh) ?_;rintro _ ⟨_,_,_,rfl,hi,hj,_⟩;obtain ⟨rfl,_⟩:=a_1 hj;refine dR z z (l0 g_3 z<|hi.at0 z)<|dR z z (nq z z)<|pD<|Wo<|Wc z (fun J=>?_) (fun J=>?_)
  ·exact Ws<|Rw z<|Wr<|rtO<|qL (som<|ifT W J).symm<|d_ hr z ⟨bup H s2,z⟩
  exact Wk<|Wg<|Rm z<|R z (inc_ V (lt_ (repS.len G) D_) z z)<|Ra z<|Wl (fun _ q=>⟨(),(som<|ifF W J).symm,⟨q.k<|s3 z z z,bup H s2⟩⟩)
 ·rintro _ _ _ ⟨hSk,s9⟩;refine Wu ?_ hSk;refine Wq<|Wm z<|Rm z<|R z (lnR x_ z<|G.e s9)<|Rl z z z<|Wx z (fun hc=>(V_ hc).elim) (fun _=>?_)
  exact We<|fun _ q=>⟨rfl,⟨q.k sn,s9⟩⟩
 ·rintro _ al _ rfl ⟨_,sm⟩;have hmn:=elL O;revert al;refine Wo<|Ws<|Rw z ?_
  obtain rfl:=som hmn;exact Wr<|d_ hr z ⟨sm,z⟩
 rintro _ _ _ _ rfl ⟨rfl,hqo⟩;have hmp:=elR O;obtain rfl:=som hmp;exact ⟨hqo,z⟩
theorem W_w3u {x1:b_}{x2:b_}{res:Bool}(hm:h_y x1 x2=some res)(H:B<=w0.z)(aa:x1.name.b.length<=LEN)(ab:inI x1.kind)(ad:inI x1.size)(V:repS w0 B (sl AD ND CD) x1.bytes)(W:repS w0 B (sl AC NC CC) x1.names)(Y:repS w0 B (sl AE NE CE) x1.tags)(a0:repS w0 B (sl AF NF CF) x1.kids)(ae:x2.name.b.length<=LEN)(af:inI x2.kind)(ah:inI x2.size)(a1:repS w0 B (sl A2 N2 C2) x2.bytes)(a2:repS w0 B (sl A3 N3 C3) x2.names)(a3:repS w0 B (sl A1 N1 C1) x2.tags)(a4:repS w0 B (sl A4 N4 C4) x2.kids):k_ prog 50 [(.agg #[Str.v x1.name,vI x1.kind,vI x1.size,vB x1.little,sl AD ND CD,sl AC NC CC,sl AE NE CE,sl AF NF CF]),(.agg #[Str.v x2.name,vI x2.kind,vI x2.size,vB x2.little,sl A2 N2 C2,sl A3 N3 C3,sl A1 N1 C1,sl A4 N4 C4])] w0 (Q9 w0 B res):=by
 unfold h_y at hm
 refine goG func50 z z z fun fn hr=>Ws<|E z (fb z) ?_
 rintro _ wi ⟨rfl,hj⟩;have h1:=hj.below;refine E z (fb z) ?_;rintro _ a5 ⟨rfl,hk⟩;have G:=hk.below;have h5:Blk a5 wi.z (vR x2 A2 N2 C2 A3 N3 C3 A1 N1 C1 A4 N4 C4):=hk.blk;refine Rw z<|Wq<|Ws<|Rf z d_f z ?_
 have h6:=(hj.blk:Blk wi w0.z (vR x1 AD ND CD AC NC CC AE NE CE AF NF CF)).e G;refine R z (l0 g_9 z<|h6.at z)<|Rf z d_f z<|R z (l0 g_9 z<|h5.at z)<|R z (f_t z z)<|Wx z (fun I=>?_) (fun I=>?_)
 ·refine Ws<|Rw z ?_
  obtain rfl:=som<|ifT hm I;exact Wr<|d_ hr z ⟨bup h1 G,z⟩
 have hml:=ifF hm I;refine Wk<|Wq<|Ws<|Rf z a_x z<|R z (l0 g_3 z<|h6.at z)<|Rf z a_x z<|R z (l0 g_3 z<|h5.at z)<|R z (nq z z)<|Wx z (fun J=>?_) (fun J=>?_)
 ·refine Ws<|Rw z ?_
  obtain rfl:=som<|ifT hml J;exact Wr<|d_ hr z ⟨bup h1 G,z⟩
 have hmm:=ifF hml J;refine Wk<|Wq<|Ws<|Rf z a_F z<|R z (l0 g_3 z<|h6.at z)<|Rf z a_F z<|R z (l0 g_3 z<|h5.at z)<|R z (nq z z)<|Wx z (fun L=>?_) (fun L=>?_)
 ·refine Ws<|Rw z ?_
  obtain rfl:=som<|ifT hmm L;exact Wr<|d_ hr z ⟨bup h1 G,z⟩
 have hmn:=ifF hmm L;refine Wk<|Wq<|Ws<|Rf z c_s z<|R z (l0 g_4 z<|h6.at z)<|Rf z c_s z<|R z (l0 g_4 z<|h5.at z)<|R z (i_e d_4 z z)<|Wx z (fun hca=>?_) (fun hca=>?_)
 ·refine Ws<|Rw z ?_
  obtain rfl:=som<|ifT hmn hca;exact Wr<|d_ hr z ⟨bup h1 G,z⟩
 refine Wk<|Wq<|Ws<|Rf z a_U z<|R z (l0 F_ z<|h6.at z)<|Rf z a_U z<|R z (l0 F_ z<|h5.at z) ?_
 have hb:=(h1.ag B).e G;have ho:=lt_ h1.s G.s;obtain ⟨_,a6,hmp⟩:=bdS<|ifF hmn hca;refine E z (fc call11 z<|f_H a6 (zt' H ho) (V.g hb)<|a1.g hb) ?_;rintro _ _ ⟨s2,rfl⟩;refine R z (not_ z)<|Wx z (fun hcc=>?_) (fun hcc=>?_)
 ·refine Ws<|Rw z ?_
  obtain rfl:=som<|ifT hmp hcc;exact Wr<|d_ hr z ⟨bup (bup h1 G) s2,z⟩
 refine Wk<|Wq<|Ws<|Rf z b_M z ?_
 have hq:=h6.e s2;refine R z (l0 a_T z<|hq.at z)<|Rf z b_M z ?_
 have ht:=h5.e s2;refine R z (l0 a_T z<|ht.at z) ?_;have hd:=hb.e s2;have hu:=lt_ ho s2.s;obtain ⟨_,a7,hmr⟩:=bdS<|ifF hmp hcc;refine E z (fc call75 z<|W_w3t a7 (zt' H hu) (W.g hd)<|a2.g hd) ?_;rintro _ _ ⟨s3,rfl⟩;refine R z (not_ z)<|Wx z (fun hce=>?_) (fun hce=>?_)
 ·refine Ws<|Rw z ?_
  obtain rfl:=som<|ifT hmr hce;exact Wr<|d_ hr z ⟨bup (bup (bup h1 G) s2) s3,z⟩
 refine Wk<|Wq<|Ws<|Rf z b_2 z ?_
 have hv:=hq.e s3;refine R z (l0 B_ z<|hv.at z)<|Rf z b_2 z ?_
 have hw:=ht.e s3;refine R z (l0 B_ z<|hw.at z) ?_;have hf:=hd.e s3;have hx:=lt_ hu s3.s;obtain ⟨_,a8,hms⟩:=bdS<|ifF hmr hce;refine E z (fc call76 z<|W_w21 a8 (zt' H hx) (Y.g hf)<|a3.g hf) ?_;rintro _ _ ⟨s4,rfl⟩;refine R z (not_ z)<|Wx z (fun hcg=>?_) (fun hcg=>?_)
 ·refine Ws<|Rw z ?_
  obtain rfl:=som<|ifT hms hcg;exact Wr<|d_ hr z ⟨bup (bup (bup (bup h1 G) s2) s3) s4,z⟩
 refine Wk<|Wq<|Ws<|Rf z T_ z<|R z (l0 B_ z<|(hv.e s4).at z)<|Rf z T_ z<|R z (l0 B_ z<|(hw.e s4).at z) ?_
 have hy:=hf.e s4;obtain ⟨_,a9,hmz⟩:=bdS<|ifF hms hcg;refine E z (fc call76 z<|W_w21 a9 (zt' H<|lt_ hx s4.s) (a0.g hy)<|a4.g hy) ?_;rintro _ _ ⟨O,rfl⟩;refine R z (not_ z)<|Wx z (fun hch=>?_) (fun hch=>?_)
 ·refine Ws<|Rw z ?_
  obtain rfl:=som<|ifT hmz hch;exact Wr<|d_ hr z ⟨bup (bup (bup (bup (bup h1 G) s2) s3) s4) O,z⟩
 refine Wk<|Ws<|Rw z ?_
 obtain rfl:=som<|ifF hmz hch;exact Wr<|d_ hr z ⟨bup (bup (bup (bup (bup h1 G) s2) s3) s4) O,z⟩
theorem W_w3v {x1:List b_}{x2:List b_}{res:Bool}(hm:i_Y x1 x2=some res)(a5:B<=w0.z)(G:repS w0 B (sl A0 N0 C0) x1)(L:repS w0 B (sl A8 N8 C8) x2):k_ prog 29 [sl A0 N0 C0,sl A8 N8 C8] w0 (Q9 w0 B res):=by
 unfold i_Y at hm
 refine goG func29 z z z fun fn hr=>Ws<|Rw z<|Wq<|Wm z<|R z (lnR P_ z G)<|Rm z<|R z (lnR P_ z L)<|R z (nq z z)<|Wx z (fun I=>?_) (fun I=>?_)
 ·refine Ws<|Rw z ?_
  obtain rfl:=som<|ifT hm I;exact Wr<|d_ hr z ⟨br w0,z⟩
 refine Wk<|Wq<|Ws<|Rw z ?_
 obtain ⟨_,hub,O⟩:=bdS<|ifF hm I;refine Wf (σ:=Unit) (ρ:=Bool) (fun (k5:Nat)(_:Unit) a w=>Sat 27 [(0,sl A0 N0 C0),(1,sl A8 N8 C8),(5,vI ((k5:Nat):Int))] a/\Below w0.z w0 w) (fun (_:Unit) a w=>Sat 27 [] a/\Below w0.z w0 w) (rQ prog fn<|Q9 w0 B) hub ?_ ?_ ?_ ?_ ?_
 ·exact fun _ q=>⟨q.k<|s3 z z z,br w0⟩
 ·rintro k5 _ _ _ _ V ⟨hSc,H⟩ hmd;refine Wu ?_ hSc;refine Wq<|Wm z<|Rm z<|R z (lnR P_ z<|G.e H)<|Rl z z z<|Wx z (fun _=>?_) (fun hc=>(U_ V hc).elim)
  refine Wk<|Wq<|Wb<|Wq (Wd (X:=noX) 0 (pl_ 10 [8]) mo (by kernel_rfl) fun aG s1 _=>dM z z z<|dM z z z ?_)
  obtain ⟨xe,eg,hmf⟩:=bdS hmd;have Y:=(H.ag B).e s1;refine dRX z z (at_ (α:=b_) P_ r_ z z z (G.g Y) eg) ?_;rintro _ ⟨_,_,_,rfl,hh,hi,_⟩;obtain ⟨aj,nk,cl,am,nn,co,ap,nr,cq,au,ns,ct,rfl,hv,hw,hx,hy,hz,a6,a7⟩:=a_A hi;refine dR z z (lN (vs:=vR xe aj nk cl am nn co ap nr cq au ns ct) G_ r_ z z fid hh)<|dM z z z<|dM z z z ?_
  obtain ⟨a8,a9,a0⟩:=bdS hmf;refine dRX z z (at_ (α:=b_) P_ r_ z z z (L.g Y) a9) ?_;rintro _ ⟨_,_,_,rfl,aa,ab,_⟩;obtain ⟨ad,ae,af,ah,ai,ak,al,an,ao,aq,ar,av,rfl,aw,ax,ay,az,aA,aB,aC⟩:=a_A ab;refine dR z z (lN (vs:=vR a8 ad ae af ah ai ak al an ao aq ar av) G_ r_ z z fid aa) ?_;obtain ⟨_,aD,W⟩:=bdS a0;refine dE z z (fc call50 z<|W_w3u aD (zt' a5<|lt_ H.s s1.s) hv hw hx hy hz a6 a7 aw ax ay az aA aB aC) (.inr fun _ _ h=>o_<|h.1) ?_;rintro _ _ ⟨s9,rfl⟩;refine dR z z (not_ z)<|pD<|Wo<|Wc z (fun J=>?_) (fun J=>?_)
  ·exact Ws<|Rw z<|Wr<|rtO<|qL (som<|ifT W J).symm<|d_ hr z ⟨bup (bup H s1) s9,z⟩
  exact Wk<|Wg<|Rm z<|R z (inc_ V (lt_ (repS.len G) D_) z z)<|Ra z<|Wl (fun _ q=>⟨(),(som<|ifF W J).symm,⟨q.k<|s3 z z z,bup (bup H s1) s9⟩⟩)
 ·rintro _ _ _ ⟨a1,sa⟩;refine Wu ?_ a1;refine Wq<|Wm z<|Rm z<|R z (lnR P_ z<|G.e sa)<|Rl z z z<|Wx z (fun hc=>(V_ hc).elim) (fun _=>?_)
  exact We<|fun _ q=>⟨rfl,⟨q.k sn,sa⟩⟩
 ·rintro _ aE _ rfl ⟨_,aF⟩;have a2:=elL O;revert aE;refine Wo<|Ws<|Rw z ?_
  obtain rfl:=som a2;exact Wr<|d_ hr z ⟨aF,z⟩
 rintro _ _ _ _ rfl ⟨rfl,a3⟩;have a4:=elR O;obtain rfl:=som a4;exact ⟨a3,z⟩
theorem W_w3w {x1:f_}{x2:f_}{res:Bool}(hm:h_z x1 x2=some res)(V:B<=w0.z)(L:repS w0 B (sl A0 N0 C0) x1.rules)(O:repS w0 B (sl A8 N8 C8) x2.rules):k_ prog 12 [(.agg #[sl A0 N0 C0]),(.agg #[sl A8 N8 C8])] w0 (Q9 w0 B res):=by
 unfold h_z at hm
 refine goG func12 z z z fun fn hr=>Ws<|E z (fb z) ?_
 rintro _ J ⟨rfl,h4⟩;have h1:=h4.below;refine E z (fb z) ?_;rintro _ wa ⟨rfl,h5⟩;have G:=h5.below;refine Rw z<|Wq<|Ws<|Rf z a_d z<|R z (l0 a_g z<|((h4.blk:Blk J w0.z [sl A0 N0 C0]).e G).at z)<|Rf z a_d z<|R z (l0 a_g z<|(h5.blk:Blk wa J.z [sl A8 N8 C8]).at z) ?_
 have h6:=(h1.ag B).e G;obtain ⟨_,ec,I⟩:=bdS hm;refine E z (fc call29 z<|W_w3v ec (zt' V<|lt_ h1.s G.s) (L.g h6)<|O.g h6) ?_;rintro _ _ ⟨s8,rfl⟩;refine R z (not_ z)<|Wx z (fun H=>?_) (fun H=>?_)
 ·refine Ws<|Rw z ?_
  obtain rfl:=som<|ifT I H;exact Wr<|d_ hr z ⟨bup (bup h1 G) s8,z⟩
 refine Wk<|Ws<|Rw z ?_
 obtain rfl:=som<|ifF I H;exact Wr<|d_ hr z ⟨bup (bup h1 G) s8,z⟩
structure k_S (f:Val->Val->Option Bool):Prop where
  run:∀{A5 AG AA AB:Option Addr}{N5 C5 NG CG NA CA NB CB:Nat}{B:Zone}{x1:Val}{x2:Val}{res:Bool}{w0:World}(hm:f x1 x2=some res)(hBw:B<=w0.z)(p1_0:inI x1.number)(p1_1:repS w0 B (sl A5 N5 C5) x1.bytes)(p1_2:repS w0 B (sl AG NG CG) x1.items)(p2_0:inI x2.number)(p2_1:repS w0 B (sl AA NA CA) x2.bytes)(p2_2:repS w0 B (sl AB NB CB) x2.items),k_ prog 13 [(.agg #[vI x1.number,sl A5 N5 C5,sl AG NG CG]),(.agg #[vI x2.number,sl AA NA CA,sl AB NB CB])] w0<|Q9 w0 B res
structure k_T (f:(List Val)->(List Val)->Option Bool):Prop where
  run:∀{A0 A8:Option Addr}{N0 C0 N8 C8:Nat}{B:Zone}{x1:List Val}{x2:List Val}{res:Bool}{w0:World}(hm:f x1 x2=some res)(hBw:B<=w0.z)(p1_0:repS w0 B (sl A0 N0 C0) x1)(p2_0:repS w0 B (sl A8 N8 C8) x2),k_ prog 30 [sl A0 N0 C0,sl A8 N8 C8] w0<|Q9 w0 B res
abbrev k_U (n:Nat):Prop:=k_S (c_9 n).laws_eqValue/\k_T (c_9 n).laws_eqValueS
theorem T_w0d (ih:k_U n):k_S (h_C n<|c_9 n):=by
 obtain ⟨_,a1⟩:=ih
 constructor
 intro A5 AG AA AB N5 C5 NG CG NA CA NB CB B x1 x2 res w0 hm L a2 V W a3 Y a0;unfold h_C at hm
 refine goG func13 z z z fun fn hr=>Ws<|E z (fb z) ?_
 rintro _ O ⟨rfl,ha⟩;have h2:=ha.below;refine E z (fb z) ?_;rintro _ wi ⟨rfl,hb⟩;have G:=hb.below;have h3:Blk wi O.z [vI x2.number,sl AA NA CA,sl AB NB CB]:=hb.blk;refine Rw z<|Wq<|Ws<|Rf z a_M z ?_
 have h4:=(ha.blk:Blk O w0.z [vI x1.number,sl A5 N5 C5,sl AG NG CG]).e G;refine R z (l0 g_3 z<|h4.at z)<|Rf z a_M z<|R z (l0 g_3 z<|h3.at z)<|R z (nq z z)<|Wx z (fun H=>?_) (fun H=>?_)
 ·refine Ws<|Rw z ?_
  obtain rfl:=som<|ifT hm H;exact Wr<|d_ hr z ⟨bup h2 G,z⟩
 refine Wk<|Wq<|Ws<|Rf z a_E z<|R z (l0 F_ z<|h4.at z)<|Rf z a_E z<|R z (l0 F_ z<|h3.at z) ?_
 have h6:=(h2.ag B).e G;have hc:=lt_ h2.s G.s;obtain ⟨_,ej,hmd⟩:=bdS<|ifF hm H;refine E z (fc call11 z<|f_H ej (zt' L hc) (V.g h6)<|Y.g h6) ?_;rintro _ _ ⟨s1,rfl⟩;refine R z (not_ z)<|Wx z (fun I=>?_) (fun I=>?_)
 ·refine Ws<|Rw z ?_
  obtain rfl:=som<|ifT hmd I;exact Wr<|d_ hr z ⟨bup (bup h2 G) s1,z⟩
 refine Wk<|Wq<|Ws<|Rf z Y_ z<|R z (l0 a_6 z<|(h4.e s1).at z)<|Rf z Y_ z<|R z (l0 a_6 z<|(h3.e s1).at z) ?_
 have he:=h6.e s1;obtain ⟨_,ek,hmf⟩:=bdS<|ifF hmd I;refine E z (fc call30 z<|a1.run ek (zt' L<|lt_ hc s1.s) (W.g he)<|a0.g he) ?_;rintro _ _ ⟨sg,rfl⟩;refine R z (not_ z)<|Wx z (fun J=>?_) (fun J=>?_)
 ·refine Ws<|Rw z ?_
  obtain rfl:=som<|ifT hmf J;exact Wr<|d_ hr z ⟨bup (bup (bup h2 G) s1) sg,z⟩
 refine Wk<|Ws<|Rw z ?_
 obtain rfl:=som<|ifF hmf J;exact Wr<|d_ hr z ⟨bup (bup (bup h2 G) s1) sg,z⟩
theorem T_w22 (ih:k_U n):k_T (h_D n<|c_9 n):=by
 obtain ⟨a4,_⟩:=ih
 constructor
 intro A0 A8 N0 C0 N8 C8 B x1 x2 res w0 hm a5 G L;unfold h_D at hm
 refine goG func30 z z z fun fn hr=>Ws<|Rw z<|Wq<|Wm z<|R z (lnR Z_ z G)<|Rm z<|R z (lnR Z_ z L)<|R z (nq z z)<|Wx z (fun I=>?_) (fun I=>?_)
 ·refine Ws<|Rw z ?_
  obtain rfl:=som<|ifT hm I;exact Wr<|d_ hr z ⟨br w0,z⟩
 refine Wk<|Wq<|Ws<|Rw z ?_
 obtain ⟨_,hub,O⟩:=bdS<|ifF hm I;refine Wf (σ:=Unit) (ρ:=Bool) (fun (k5:Nat)(_:Unit) a w=>Sat 27 [(0,sl A0 N0 C0),(1,sl A8 N8 C8),(5,vI ((k5:Nat):Int))] a/\Below w0.z w0 w) (fun (_:Unit) a w=>Sat 27 [] a/\Below w0.z w0 w) (rQ prog fn<|Q9 w0 B) hub ?_ ?_ ?_ ?_ ?_
 ·exact fun _ q=>⟨q.k<|s3 z z z,br w0⟩
 ·rintro k5 _ _ _ _ V ⟨hSc,H⟩ hmd;refine Wu ?_ hSc;refine Wq<|Wm z<|Rm z<|R z (lnR Z_ z<|G.e H)<|Rl z z z<|Wx z (fun _=>?_) (fun hc=>(U_ V hc).elim)
  refine Wk<|Wq<|Wb<|Wq (Wd (X:=noX) 0 (pl_ 10 [8]) mo (by kernel_rfl) fun ah s1 _=>dM z z z<|dM z z z ?_)
  obtain ⟨xe,eg,hmf⟩:=bdS hmd;have Y:=(H.ag B).e s1;refine dRX z z (at_ (α:=Val) Z_ c_ z z z (G.g Y) eg) ?_;rintro _ ⟨_,_,_,rfl,hh,hi,_⟩;obtain ⟨aj,nk,cl,am,nn,co,rfl,hp,hq,ht⟩:=c_a hi;refine dR z z (lN (vs:=[vI xe.number,sl aj nk cl,sl am nn co]) l_ c_ z z fid hh)<|dM z z z<|dM z z z ?_
  obtain ⟨xr,es,hmu⟩:=bdS hmf;refine dRX z z (at_ (α:=Val) Z_ c_ z z z (L.g Y) es) ?_;rintro _ ⟨_,_,_,rfl,hv,hw,_⟩;obtain ⟨ax,ny,cz,a6,a7,a8,rfl,a9,aa,ab⟩:=c_a hw;refine dR z z (lN (vs:=[vI xr.number,sl ax ny cz,sl a6 a7 a8]) l_ c_ z z fid hv) ?_;obtain ⟨_,ad,W⟩:=bdS hmu;refine dE z z (fc call13 z<|a4.run ad (zt' a5<|lt_ H.s s1.s) hp hq ht a9 aa ab) (.inr fun _ _ h=>o_<|h.1) ?_;rintro _ _ ⟨s9,rfl⟩;refine dR z z (not_ z)<|pD<|Wo<|Wc z (fun J=>?_) (fun J=>?_)
  ·exact Ws<|Rw z<|Wr<|rtO<|qL (som<|ifT W J).symm<|d_ hr z ⟨bup (bup H s1) s9,z⟩
  exact Wk<|Wg<|Rm z<|R z (inc_ V (lt_ (repS.len G) D_) z z)<|Ra z<|Wl (fun _ q=>⟨(),(som<|ifF W J).symm,⟨q.k<|s3 z z z,bup (bup H s1) s9⟩⟩)
 ·rintro _ _ _ ⟨a0,sa⟩;refine Wu ?_ a0;refine Wq<|Wm z<|Rm z<|R z (lnR Z_ z<|G.e sa)<|Rl z z z<|Wx z (fun hc=>(V_ hc).elim) (fun _=>?_)
  exact We<|fun _ q=>⟨rfl,⟨q.k sn,sa⟩⟩
 ·rintro _ ae _ rfl ⟨_,af⟩;have a1:=elL O;revert ae;refine Wo<|Ws<|Rw z ?_
  obtain rfl:=som a1;exact Wr<|d_ hr z ⟨af,z⟩
 rintro _ _ _ _ rfl ⟨rfl,a2⟩;have a3:=elR O;obtain rfl:=som a3;exact ⟨a2,z⟩
theorem i_Q:∀n,k_U n
  | 0=>⟨⟨fun hm=>by intros;exact nomatch (show none=some _ from hm)⟩,⟨fun hm=>by intros;exact nomatch (show none=some _ from hm)⟩⟩
  | n+1=>⟨T_w0d<|i_Q n,T_w22<|i_Q n⟩
theorem W_w0d:k_S (c_9 n).laws_eqValue:=(i_Q n).1
theorem W_w22:k_T (c_9 n).laws_eqValueS:=(i_Q n).2
theorem W_w23 {x1:Int}{res:Str}(hm:d_G n x1=some res)(W:B<=w0.z)(V:inI x1):k_ prog 51 [vI x1] w0 (Q13 w0 B res):=by
 unfold d_G at hm
 refine goG func51 z z z fun fn hr=>Ws<|Rw z<|Wq<|Wm z<|R z (b_U z z)<|Wx z (fun G=>?_) (fun G=>?_)
 ·refine Ws<|Rw z ?_
  obtain rfl:=som<|ifT hm G;exact Wr<|d_ hr z ⟨br w0,z,lb z⟩
 refine Wk<|Ws<|Rw z<|Wq ?_
 obtain ⟨_,huc,I⟩:=bdS<|ifF hm G;refine b_w (σ:=Int×Str) (ρ:=Str) (fun s a w=>un2 (fun x0 x2=>Sat 20 [(0,vI x0),(3,Str.v x2)] a/\Below w0.z w0 w/\inI x0/\x2.b.length<=LEN) s) (fun s a w=>un2 (fun x0 x2=>Sat 20 [(3,Str.v x2)] a/\Below w0.z w0 w/\inI x0/\x2.b.length<=LEN) s) (rQ prog fn<|Q13 w0 B) huc ?_ ?_ ?_ ?_
 ·exact fun _ q=>⟨q.k<|s2 z z,br w0,V,lb z⟩
 ·rintro ⟨x0,x2⟩ _ wd _ ⟨hSe,s6,L,O⟩ hmf;have J:=a_P hmf;refine Wu ?_ hSe;refine Wq<|Wm z<|R z (a_z z z)<|Wx z (fun H=>?_) (fun H=>?_)
  ·refine Wk<|Wb<|Wm z<|R z (g_u z z (by decide))<|R z (add_ z z)<|R z (c_Y d_3 d_5 z)<|E z (fS [(.tmp 11)] z_ z z z (a_Q z) (lb z)<|lb z) ?_
   rintro _ wg ⟨rfl,h4⟩;have ht:Blk wg wd.z [(vU<|byteI<|mkB<|i_ 48<|a_R x0 10)]:=h4.blk;refine R z (l_x p_ d_9 d_5 z_5 z<|a_.rep<|b_a h4 a_B)<|Rm z ?_
   obtain ⟨xh,ea,hmi⟩:=bdS<|ifT J H;exact R z (h_Z z z ea)<|Rw z<|Wg<|Rm z<|R z (l_O z z (by decide))<|Ra z<|Wl (fun _ q=>⟨(c_B x0 10,xh),(som hmi).symm,⟨q.k<|s2 z z,bup s6 h4.below,l_n _ _,h_S ea⟩⟩)
  exact We<|fun _ q=>b_h (som<|ifF J H).symm ⟨q.k<|s1 z,s6,L,O⟩
 ·rintro ⟨x0,x2⟩ aj _ rfl ⟨_,sk,L,O⟩;have hml:=elL I;revert aj;refine Wo<|Wm z ?_
  obtain ⟨_,eb,hmn⟩:=bdS<|a_P hml;refine R z (h_Z z z eb)<|Rw z ?_
  obtain rfl:=som hmn;exact Wr<|d_ hr z ⟨sk,z,h_S eb⟩
 rintro _ _ _ _ rfl ⟨rfl,hqo⟩;have hmp:=elR I;obtain rfl:=som hmp;exact ⟨hqo,z⟩
def Q30 (w0:World)(B:Zone)(A0:Option Addr)(N0 C0:Nat)(S1_0:List Nat)(r:Int×(List UInt8))(v:Value)(w':World):Prop:=Chg (· ∈ S1_0) w0 w'/\un2 (fun G H=>∃S1,(vI G)=v/\inI G/\a_ w' S1 (sl A0 N0 C0) H/\S1.Nodup/\(∀k∈S1,k∈S1_0∨w0.z<=k)) r
theorem g_S {x1:List UInt8}{S1_0:List Nat}{x2:Int}{res:Int×(List UInt8)}(hm:c_u n x1 x2=some res)(Y:B<=w0.z)(J:a_ w0 S1_0 (sl A0 N0 C0) x1)(p1_0n:S1_0.Nodup)(p1_0g:∀k∈S1_0,¬B k)(L:inI x2):k_ prog 15 [sl A0 N0 C0,vI x2] w0 (Q30 w0 B A0 N0 C0 S1_0 res):=by
 unfold c_u at hm
 refine goG func15 z z z fun fn hr=>Ws<|Rw z<|Wq<|Ws<|Rw z ?_
 obtain ⟨_,huh,hma⟩:=bdS hm;refine b_w (σ:=(List UInt8)×Int×Int) (ρ:=Int×(List UInt8)) (fun s a w=>un3 (fun x5 x3 x4=>∃(G:List Nat),Sat 20 [(0,sl A0 N0 C0),(1,vI x3),(5,vI x4)] a/\Chg (· ∈ S1_0) w0 w/\a_ w G (sl A0 N0 C0) x5/\G.Nodup/\(∀k∈G,k∈S1_0∨w0.z<=k)/\inI x3/\inI x4) s) (fun s a w=>un3 (fun x5 x3 x4=>∃(G:List Nat),Sat 20 [(0,sl A0 N0 C0),(1,vI x3)] a/\Chg (· ∈ S1_0) w0 w/\a_ w G (sl A0 N0 C0) x5/\G.Nodup/\(∀k∈G,k∈S1_0∨w0.z<=k)/\inI x3/\inI x4) s) (rQ prog fn<|Q30 w0 B A0 N0 C0 S1_0) huh ?_ ?_ ?_ ?_
 ·exact fun _ q=>⟨S1_0,q.k<|s3 z z z,cr S1_0 w0,J,p1_0n,io sr,L,ii z⟩
 ·rintro ⟨x5,x3,x4⟩ _ wb _ ⟨G,hSi,s7,h1,h2,h6,I,hc⟩ hmj;have hmd:=b_0 hmj;refine Wu ?_ hSi;refine Wq<|Wm z<|Rm z<|R z (lnR p_ z<|a_.rep h1)<|Rl z z z<|Wx z (fun H=>?_) (fun H=>?_)
  ·refine Wk<|Wq<|Wb<|Wm z<|RM z z<|R z (c_Y d_3 d_5 z) ?_
   obtain ⟨xk,ee,hml⟩:=bdS<|ifT hmd H;refine RX z (b_P (α:=UInt8) p_ z_5 z z h1 ee) ?_;rintro _ ⟨_,hn,rfl⟩;refine E0 (b_Q (α:=UInt8) z_5 z hn z z z ee h1 h2 a_B an_ a_2) ?_;rintro _ wm ⟨Sf,so,hp,hq,ht⟩;refine Wn<|Wg<|Rm z<|R z (add_ z z)<|Rw z<|Wg<|Rm z<|R z (add_ z z)<|Ra z<|Wl ?_
   have hg:∀k∈G,k∈S1_0∨w0.z<=k:=or1 h6 (io sr)<|j_ lr;exact fun _ q=>⟨(xk,i_ x3 1,i_ x4 1),(som hml).symm,⟨Sf,q.k<|s3 z z z,(cM (cM (cr S1_0 w0) s7 (io sr):Chg (· ∈ S1_0) w0 wb) so hg:Chg (· ∈ S1_0) w0 wm),hp,hq,(or2 ht hg an_ (j_ s7.s):∀k∈Sf,k∈S1_0∨w0.z<=k),iA _ _,iA _ _⟩⟩
  exact We<|fun _ q=>b_h (som<|ifF hmd H).symm ⟨G,q.k<|s2 z z,(cM (cr S1_0 w0) s7 (io sr):Chg (· ∈ S1_0) w0 wb),h1,h2,(or1 h6 (io sr) (j_ lr):∀k∈G,k∈S1_0∨w0.z<=k),I,hc⟩
 ·rintro ⟨x5,x3,x4⟩ ar ws rfl ⟨G,_,sz,h1,h2,h6,I,hc⟩;have O:=elL hma;revert ar;refine Wo<|Wm z<|Rw z ?_
  obtain rfl:=som<|b_0 O;exact Wr<|d_ hr z ⟨(cM (cr S1_0 w0) sz (io sr):Chg (· ∈ S1_0) w0 ws),G,z,I,h1,h2,(or1 h6 (io sr) (j_ lr):∀k∈G,k∈S1_0∨w0.z<=k)⟩
 rintro _ _ _ _ rfl ⟨rfl,V⟩;have W:=elR hma;obtain rfl:=som W;exact ⟨V,z⟩
def Q31 (w0:World)(B:Zone)(A0:Option Addr)(N0 C0:Nat)(S1_0:List Nat)(r:Int×(List Str))(v:Value)(w':World):Prop:=Chg (· ∈ S1_0) w0 w'/\un2 (fun G H=>∃S1,(vI G)=v/\inI G/\a_ w' S1 (sl A0 N0 C0) H/\S1.Nodup/\(∀k∈S1,k∈S1_0∨w0.z<=k)) r
theorem W_w3x {x1:List Str}{S1_0:List Nat}{x2:Int}{res:Int×(List Str)}(hm:f_c n x1 x2=some res)(a0:B<=w0.z)(L:a_ w0 S1_0 (sl A0 N0 C0) x1)(p1_0n:S1_0.Nodup)(p1_0g:∀k∈S1_0,¬B k)(O:inI x2):k_ prog 52 [sl A0 N0 C0,vI x2] w0 (Q31 w0 B A0 N0 C0 S1_0 res):=by
 unfold f_c at hm
 refine goG func52 z z z fun fn hr=>Ws<|Rw z<|Wq<|Ws<|Rw z ?_
 obtain ⟨_,huj,hmb⟩:=bdS hm;refine b_w (σ:=(List Str)×Int×Int) (ρ:=Int×(List Str)) (fun s a w=>un3 (fun x5 x3 x4=>∃(G:List Nat),Sat 20 [(0,sl A0 N0 C0),(1,vI x3),(5,vI x4)] a/\Chg (· ∈ S1_0) w0 w/\a_ w G (sl A0 N0 C0) x5/\G.Nodup/\(∀k∈G,k∈S1_0∨w0.z<=k)/\inI x3/\inI x4) s) (fun s a w=>un3 (fun x5 x3 x4=>∃(G:List Nat),Sat 20 [(0,sl A0 N0 C0),(1,vI x3)] a/\Chg (· ∈ S1_0) w0 w/\a_ w G (sl A0 N0 C0) x5/\G.Nodup/\(∀k∈G,k∈S1_0∨w0.z<=k)/\inI x3/\inI x4) s) (rQ prog fn<|Q31 w0 B A0 N0 C0 S1_0) huj ?_ ?_ ?_ ?_
 ·exact fun _ q=>⟨S1_0,q.k<|s3 z z z,cr S1_0 w0,L,p1_0n,io sr,O,ii z⟩
 ·rintro ⟨x5,x3,x4⟩ _ wc _ ⟨G,hSk,s6,h1,h2,H,I,hd⟩ hml;have hme:=b_0 hml;refine Wu ?_ hSk;refine Wq<|Wm z<|Rm z<|R z (lnR Q_ z<|a_.rep h1)<|Rl z z z<|Wx z (fun J=>?_) (fun J=>?_)
  ·refine Wk<|Wq<|Wb<|Wm z<|RM z z ?_
   obtain ⟨_,em,hmn⟩:=bdS<|ifT hme J;refine E z (fc call51 z<|W_w23 em (zt' a0 s6.s) I) ?_;rintro _ wo ⟨sa,rfl,hp⟩;obtain ⟨xq,ef,hmr⟩:=bdS hmn;have hg:=h1.e sa;refine RX z (b_P (α:=Str) Q_ z_9 z z hg ef) ?_;rintro _ ⟨_,ht,rfl⟩;refine E0 (b_Q (α:=Str) z_9 z ht z z z ef hg h2 (c_x hp) an_ a_2) ?_;rintro _ ws ⟨Sh,su,hv,hw,hx⟩;refine Wn<|Wg<|Rm z<|R z (add_ z z)<|Rw z<|Wg<|Rm z<|R z (add_ z z)<|Ra z<|Wl ?_
   have hi:∀k∈G,k∈S1_0∨w0.z<=k:=or1 H (io sr)<|j_ lr;exact fun _ q=>⟨(xq,i_ x3 1,i_ x4 1),(som hmr).symm,⟨Sh,q.k<|s3 z z z,(cM (C_ (cM (cr S1_0 w0) s6 (io sr):Chg (· ∈ S1_0) w0 wc) sa:Chg (· ∈ S1_0) w0 wo) su hi:Chg (· ∈ S1_0) w0 ws),hv,hw,(or2 hx hi an_ (j_<|lt_ s6.s sa.s):∀k∈Sh,k∈S1_0∨w0.z<=k),iA _ _,iA _ _⟩⟩
  exact We<|fun _ q=>b_h (som<|ifF hme J).symm ⟨G,q.k<|s2 z z,(cM (cr S1_0 w0) s6 (io sr):Chg (· ∈ S1_0) w0 wc),h1,h2,(or1 H (io sr) (j_ lr):∀k∈G,k∈S1_0∨w0.z<=k),I,hd⟩
 ·rintro ⟨x5,x3,x4⟩ a1 a2 rfl ⟨G,_,a3,h1,h2,H,I,hd⟩;have V:=elL hmb;revert a1;refine Wo<|Wm z<|Rw z ?_
  obtain rfl:=som<|b_0 V;exact Wr<|d_ hr z ⟨(cM (cr S1_0 w0) a3 (io sr):Chg (· ∈ S1_0) w0 a2),G,z,I,h1,h2,(or1 H (io sr) (j_ lr):∀k∈G,k∈S1_0∨w0.z<=k)⟩
 rintro _ _ _ _ rfl ⟨rfl,W⟩;have Y:=elR hmb;obtain rfl:=som Y;exact ⟨W,z⟩
def Q32 (w0:World)(B:Zone)(A0:Option Addr)(N0 C0:Nat)(S1_0:List Nat)(r:Int×(List Int))(v:Value)(w':World):Prop:=Chg (· ∈ S1_0) w0 w'/\un2 (fun G H=>∃S1,(vI G)=v/\inI G/\a_ w' S1 (sl A0 N0 C0) H/\S1.Nodup/\(∀k∈S1,k∈S1_0∨w0.z<=k)) r
theorem W_w24 {x1:List Int}{S1_0:List Nat}{x2:Int}{res:Int×(List Int)}(hm:d_l n x1 x2=some res)(Y:B<=w0.z)(J:a_ w0 S1_0 (sl A0 N0 C0) x1)(p1_0n:S1_0.Nodup)(p1_0g:∀k∈S1_0,¬B k)(L:inI x2):k_ prog 53 [sl A0 N0 C0,vI x2] w0 (Q32 w0 B A0 N0 C0 S1_0 res):=by
 unfold d_l at hm
 refine goG func53 z z z fun fn hr=>Ws<|Rw z<|Wq<|Ws<|Rw z ?_
 obtain ⟨_,huh,hma⟩:=bdS hm;refine b_w (σ:=(List Int)×Int×Int) (ρ:=Int×(List Int)) (fun s a w=>un3 (fun x5 x3 x4=>∃(G:List Nat),Sat 19 [(0,sl A0 N0 C0),(1,vI x3),(5,vI x4)] a/\Chg (· ∈ S1_0) w0 w/\a_ w G (sl A0 N0 C0) x5/\G.Nodup/\(∀k∈G,k∈S1_0∨w0.z<=k)/\inI x3/\inI x4) s) (fun s a w=>un3 (fun x5 x3 x4=>∃(G:List Nat),Sat 19 [(0,sl A0 N0 C0),(1,vI x3)] a/\Chg (· ∈ S1_0) w0 w/\a_ w G (sl A0 N0 C0) x5/\G.Nodup/\(∀k∈G,k∈S1_0∨w0.z<=k)/\inI x3/\inI x4) s) (rQ prog fn<|Q32 w0 B A0 N0 C0 S1_0) huh ?_ ?_ ?_ ?_
 ·exact fun _ q=>⟨S1_0,q.k<|s3 z z z,cr S1_0 w0,J,p1_0n,io sr,L,ii z⟩
 ·rintro ⟨x5,x3,x4⟩ _ wb _ ⟨G,hSi,s8,h1,h2,h6,H,hc⟩ hmj;have hmd:=b_0 hmj;refine Wu ?_ hSi;refine Wq<|Wm z<|Rm z<|R z (lnR x_ z<|a_.rep h1)<|Rl z z z<|Wx z (fun I=>?_) (fun I=>?_)
  ·refine Wk<|Wq<|Wb<|Wm z<|RM z z ?_
   obtain ⟨xk,ee,hml⟩:=bdS<|ifT hmd I;refine RX z (b_P (α:=Int) x_ z_3 z z h1 ee) ?_;rintro _ ⟨_,hn,rfl⟩;refine E0 (b_Q (α:=Int) z_3 z hn z z z ee h1 h2 (d_N H) an_ a_2) ?_;rintro _ wm ⟨Sf,so,hp,hq,ht⟩;refine Wn<|Wg<|Rm z<|R z (add_ z z)<|Rw z<|Wg<|Rm z<|R z (add_ z z)<|Ra z<|Wl ?_
   have hg:∀k∈G,k∈S1_0∨w0.z<=k:=or1 h6 (io sr)<|j_ lr;exact fun _ q=>⟨(xk,i_ x3 1,i_ x4 1),(som hml).symm,⟨Sf,q.k<|s3 z z z,(cM (cM (cr S1_0 w0) s8 (io sr):Chg (· ∈ S1_0) w0 wb) so hg:Chg (· ∈ S1_0) w0 wm),hp,hq,(or2 ht hg an_ (j_ s8.s):∀k∈Sf,k∈S1_0∨w0.z<=k),iA _ _,iA _ _⟩⟩
  exact We<|fun _ q=>b_h (som<|ifF hmd I).symm ⟨G,q.k<|s2 z z,(cM (cr S1_0 w0) s8 (io sr):Chg (· ∈ S1_0) w0 wb),h1,h2,(or1 h6 (io sr) (j_ lr):∀k∈G,k∈S1_0∨w0.z<=k),H,hc⟩
 ·rintro ⟨x5,x3,x4⟩ ar ws rfl ⟨G,_,sz,h1,h2,h6,H,hc⟩;have O:=elL hma;revert ar;refine Wo<|Wm z<|Rw z ?_
  obtain rfl:=som<|b_0 O;exact Wr<|d_ hr z ⟨(cM (cr S1_0 w0) sz (io sr):Chg (· ∈ S1_0) w0 ws),G,z,H,h1,h2,(or1 h6 (io sr) (j_ lr):∀k∈G,k∈S1_0∨w0.z<=k)⟩
 rintro _ _ _ _ rfl ⟨rfl,V⟩;have W:=elR hma;obtain rfl:=som W;exact ⟨V,z⟩
def Q33 (w0:World)(B:Zone)(A0:Option Addr)(N0 C0:Nat)(S1_0:List Nat)(r:Int×(List b_))(v:Value)(w':World):Prop:=Chg (· ∈ S1_0) w0 w'/\un2 (fun G H=>∃S1,(vI G)=v/\inI G/\a_ w' S1 (sl A0 N0 C0) H/\S1.Nodup/\(∀k∈S1,k∈S1_0∨w0.z<=k)) r
theorem W_w3y {x1:List b_}{S1_0:List Nat}{x2:Int}{res:Int×(List b_)}(hm:h_A n x1 x2=some res)(L:B<=w0.z)(bJ:a_ w0 S1_0 (sl A0 N0 C0) x1)(p1_0n:S1_0.Nodup)(p1_0g:∀k∈S1_0,¬B k)(bK:inI x2):k_ prog 31 [sl A0 N0 C0,vI x2] w0 (Q33 w0 B A0 N0 C0 S1_0 res):=by
 unfold h_A at hm
 refine goG func31 z z z fun fn hr=>Ws<|Rw z<|Wq<|Ws<|Rw z ?_
 obtain ⟨_,bL,ao⟩:=bdS hm;refine b_w (σ:=(List b_)×Int×Int) (ρ:=Int×(List b_)) (fun s a w=>un3 (fun xi xa J=>∃(G:List Nat),Sat 72 [(0,sl A0 N0 C0),(1,vI xa),(5,vI J)] a/\Chg (· ∈ S1_0) w0 w/\a_ w G (sl A0 N0 C0) xi/\G.Nodup/\(∀k∈G,k∈S1_0∨w0.z<=k)/\inI xa/\inI J) s) (fun s a w=>un3 (fun xi xa J=>∃(G:List Nat),Sat 72 [(0,sl A0 N0 C0),(1,vI xa)] a/\Chg (· ∈ S1_0) w0 w/\a_ w G (sl A0 N0 C0) xi/\G.Nodup/\(∀k∈G,k∈S1_0∨w0.z<=k)/\inI xa/\inI J) s) (rQ prog fn<|Q33 w0 B A0 N0 C0 S1_0) bL ?_ ?_ ?_ ?_
 ·exact fun _ q=>⟨S1_0,q.k<|s3 z z z,cr S1_0 w0,bJ,p1_0n,io sr,bK,ii z⟩
 ·rintro ⟨xi,xa,J⟩ _ aq _ ⟨G,bM,st,hj,hu,hl,hv,ar⟩ bN;have ap:=b_0 bN;refine Wu ?_ bM;refine Wq<|Wm z<|Rm z<|R z (lnR P_ z<|a_.rep hj)<|Rl z z z<|Wx z (fun ad=>?_) (fun ad=>?_)
  ·refine Wk<|Wq<|Wb<|Wm z<|RM z z ?_
   obtain ⟨c8,c9,bO⟩:=bdS<|ifT ap ad;refine E z (fc call51 z<|W_w23 c9 (zt' L st.s) hv) ?_;rintro _ ca ⟨ae,rfl,cb⟩;obtain ⟨xb,au,bP⟩:=bdS bO;have av:=hj.e ae;refine RX z (c_z (α:=b_) P_ r_ z z av au) ?_;rintro _ ⟨_,cc,rfl⟩;refine Rf z d_f z ?_;obtain ⟨_,cd,bQ⟩:=bdS bP;refine E0 (g_q (α:=b_) (v':=(⟨c8,xb.kind,xb.size,xb.little,xb.bytes,xb.names,xb.tags,xb.kids⟩:b_)) z_9 z cc z z z z au cd av hu (lb z)<|fun _ _ _ h=>n_T h cb) ?_;rintro _ ce ⟨aw,ax,ay,cf,az⟩;refine Wn<|Wm z<|R z (add_ z z)<|Rw z<|Wm z<|RM z z ?_
   obtain ⟨xc,aA,bR⟩:=bdS bQ;refine RX z (c_z (α:=b_) P_ r_ z z ay aA) ?_;rintro _ ⟨_,cg,rfl⟩;refine Rf z a_x z ?_;obtain ⟨_,ch,bS⟩:=bdS bR;refine E0 (g_q (α:=b_) (v':=(⟨xc.name,i_ xa 1,xc.size,xc.little,xc.bytes,xc.names,xc.tags,xc.kids⟩:b_)) z_3 z cg z z z z aA ch ay cf (lb z) (fun _ _ _ h=>n_U h<|iA _ _)) ?_;rintro _ ci ⟨aB,aC,aD,cj,aE⟩;refine Wn<|Wm z<|R z (add_ z z)<|Rw z<|Wm z<|RM z z ?_
   obtain ⟨xd,aF,bT⟩:=bdS bS;refine RX z (c_z (α:=b_) P_ r_ z z aD aF) ?_;rintro _ ⟨_,ck,rfl⟩;refine Rf z a_F z ?_;obtain ⟨_,cl,bU⟩:=bdS bT;refine E0 (g_q (α:=b_) (v':=(⟨xd.name,xd.kind,i_ (i_ xa 1) 1,xd.little,xd.bytes,xd.names,xd.tags,xd.kids⟩:b_)) z_3 z ck z z z z aF cl aD cj (lb z) (fun _ _ _ h=>n_V h<|iA _ _)) ?_;rintro _ cm ⟨aG,aH,aI,cn,aJ⟩;refine Wn<|Wm z<|R z (add_ z z)<|Rw z<|Wm z<|RM z z<|R z (g_u z z (by decide))<|Rq z z z ?_
   obtain ⟨xe,aK,bV⟩:=bdS bU;refine RX z (c_z (α:=b_) P_ r_ z z aI aK) ?_;rintro _ ⟨_,co,rfl⟩;refine Rf z c_s z ?_;obtain ⟨cp,cq,bW⟩:=bdS bV;refine E0 (g_q (α:=b_) (v':=(⟨xe.name,xe.kind,xe.size,(a_R (i_ (i_ (i_ xa 1) 1) 1) 3)==0,xe.bytes,xe.names,xe.tags,xe.kids⟩:b_)) z_4 z co z z z z aK cq aI cn (lb z)<|fun _ _ _ h=>n_W h) ?_;rintro _ ww ⟨aL,aM,aN,ct,aO⟩;refine Wn<|Wm z<|R z (add_ z z)<|Rw z<|Wm z<|Rm z ?_
   obtain ⟨x3,aP,bX⟩:=bdS bW;refine RX z (c_z (α:=b_) P_ r_ z z aN aP) ?_;rintro _ ⟨_,cu,rfl⟩;obtain ⟨_,_,cv,cw,h1,aQ,_,cx⟩:=f_p cu aN ct aP;obtain ⟨_,_,_,_,_,_,_,_,_,_,_,_,Sk,Sx,Sy,Sz,rfl,rfl,cy,cz,cA,cB,aR,aS,aT⟩:=d_K cw;refine Rf z a_U z<|R z (l0 F_ z<|cv.at (j:=4) z)<|Rm z ?_
   have af:=lt_ st.s ae.s;have ah:=lt_ af ax.s;have ai:=lt_ ah aC.s;have aj:=lt_ ai aH.s;have O:=lt_ aj aM.s;have ak:=zt' L O;have aU:∀k∈aL,¬B k:=or1 aO (or1 aJ (or1 aE (or1 az (or1 hl p1_0g (m_ L):∀k∈G,¬B k) (m_<|zt' L af):∀k∈aw,¬B k) (m_<|zt' L ah):∀k∈aB,¬B k) (m_<|zt' L ai):∀k∈aG,¬B k)<|m_<|zt' L aj;have cC:∀k∈Sk,¬B k:=or1 (fun k hk=>.inl<|aQ k<|List.mem_append_left _ hk) aU<|m_ ak;obtain ⟨_,aV,cD,bY⟩:=a_n bX;refine E z (fc call15 z<|g_S (B:=B) cD ak cB (nl_ h1) cC<|iA _ _) ?_;rintro _ wm ⟨sf,aW,rfl,cE,cF,cG,V⟩;obtain ⟨aX,aY,cH,aZ⟩:=cx _ _ _ (cM (cr (Sk++(Sx++(Sy++Sz))) ww) sf (io<|R_ sr):Chg (· ∈ (Sk++(Sx++(Sy++Sz)))) ww wm) (c_W (x:=(⟨x3.name,x3.kind,x3.size,x3.little,aV,x3.names,x3.tags,x3.kids⟩:b_)) (S1:=aW) (S2:=Sx) (S3:=Sy) (S4:=Sz) cy cz cA cF (aR.c sf<|ds<|nmL<|nj h1) (aS.c sf<|ds<|nmL<|nmR<|nj h1)<|aT.c sf<|ds<|nmR<|nmR<|nj h1) (na_ cG (na_ (nl_<|nr_ h1) (na_ (nl_<|nr_<|nr_ h1) (nr_<|nr_<|nr_ h1)<|nj<|nr_<|nr_ h1)<|nmA (nmL<|nj<|nr_ h1)<|nmR<|nj<|nr_ h1)<|nmA (a_N V (nmL<|nj h1) (a_.lt aR) lr)<|nmA (a_N V (nmL<|nmR<|nj h1) (a_.lt aS) lr)<|a_N V (nmR<|nmR<|nj h1) (a_.lt aT) lr)<|aa_ (or1 V (io<|R_ sr) (j_ lr):∀k∈aW,k∈(Sk++(Sx++(Sy++Sz)))∨ww.z<=k)<|aa_ (io<|E_<|R_ sr)<|aa_ (io<|E_<|E_<|R_ sr)<|io<|E_<|E_<|E_ sr;refine Rw z<|Wm z<|Rm z ?_
   obtain ⟨x4,b0,bZ⟩:=bdS bY;refine RX z (c_z (α:=b_) P_ r_ z z aY b0) ?_;rintro _ ⟨_,cI,rfl⟩;obtain ⟨_,_,cJ,cK,h2,b3,_,cL⟩:=f_p cI aY cH b0;obtain ⟨_,_,_,_,_,_,_,_,_,_,_,_,W,Sn,Y,a0,rfl,rfl,cN,cO,cP,b4,cQ,b5,b6⟩:=d_K cK;refine Rf z b_M z<|R z (l0 a_T z<|cJ.at (j:=5) z)<|Rm z ?_
   have a1:=lt_ O sf.s;have al:=zt' L a1;have b7:∀k∈aX,¬B k:=or1 aZ aU<|m_ ak;have cR:∀k∈Sn,¬B k:=or1 (fun k hk=>.inl<|(fun k hk=>b3 k<|List.mem_append_right _ hk) k<|List.mem_append_left _ hk) b7<|m_ al;obtain ⟨_,b8,cS,c0⟩:=a_n bZ;refine E z (fc call52 z<|W_w3x (B:=B) cS al cQ (nl_<|nr_ h2) cR cE) ?_;rintro _ wo ⟨sg,b9,rfl,cT,cU,cV,a2⟩;obtain ⟨ba,bb,cW,bc⟩:=cL _ _ _ (cM (cr (W++(Sn++(Y++a0))) wm) sg (io<|E_<|R_ sr):Chg (· ∈ (W++(Sn++(Y++a0)))) wm wo) (c_W (x:=(⟨x4.name,x4.kind,x4.size,x4.little,x4.bytes,b8,x4.tags,x4.kids⟩:b_)) (S1:=W) (S2:=b9) (S3:=Y) (S4:=a0) cN cO cP (b4.c sg<|nmL<|nj h2) cU (b5.c sg<|ds<|nmL<|nj<|nr_ h2)<|b6.c sg<|ds<|nmR<|nj<|nr_ h2) (na_ (nl_ h2) (na_ cV (na_ (nl_<|nr_<|nr_ h2) (nr_<|nr_<|nr_ h2)<|nj<|nr_<|nr_ h2)<|nmA (a_N a2 (nmL<|nj<|nr_ h2) (a_.lt b5) lr)<|a_N a2 (nmR<|nj<|nr_ h2) (a_.lt b6) lr)<|nmA (ds<|a_N a2 (ds<|nmL<|nj h2) (a_.lt b4) lr)<|nmA (nmL<|nmR<|nj h2)<|nmR<|nmR<|nj h2)<|aa_ (io<|R_ sr)<|aa_ (or1 a2 (io<|E_<|R_ sr) (j_ lr):∀k∈b9,k∈(W++(Sn++(Y++a0)))∨wm.z<=k)<|aa_ (io<|E_<|E_<|R_ sr)<|io<|E_<|E_<|E_ sr;refine Rw z<|Wm z<|Rm z ?_
   obtain ⟨x5,be,c1⟩:=bdS c0;refine RX z (c_z (α:=b_) P_ r_ z z bb be) ?_;rintro _ ⟨_,cX,rfl⟩;obtain ⟨_,_,cY,cZ,H,bf,_,d0⟩:=f_p cX bb cW be;obtain ⟨_,_,_,_,_,_,_,_,_,_,_,_,a3,a4,Sp,a5,rfl,rfl,d1,d2,d3,bg,bh,d4,bi⟩:=d_K cZ;refine Rf z b_2 z<|R z (l0 B_ z<|cY.at (j:=6) z)<|Rm z ?_
   have a6:=lt_ a1 sg.s;have am:=zt' L a6;have bj:∀k∈ba,¬B k:=or1 bc b7<|m_ al;have d5:∀k∈Sp,¬B k:=or1 (fun k hk=>.inl<|(fun k hk=>(fun k hk=>bf k<|List.mem_append_right _ hk) k<|List.mem_append_right _ hk) k<|List.mem_append_left _ hk) bj<|m_ am;obtain ⟨_,bk,d6,c2⟩:=a_n c1;refine E z (fc call53 z<|W_w24 (B:=B) d6 am d4 (nl_<|nr_<|nr_ H) d5 cT) ?_;rintro _ wq ⟨sh,bm,rfl,d7,d8,d9,a7⟩;obtain ⟨bn,bo,da,bp⟩:=d0 _ _ _ (cM (cr (a3++(a4++(Sp++a5))) wo) sh (io<|E_<|E_<|R_ sr):Chg (· ∈ (a3++(a4++(Sp++a5)))) wo wq) (c_W (x:=(⟨x5.name,x5.kind,x5.size,x5.little,x5.bytes,x5.names,bk,x5.kids⟩:b_)) (S1:=a3) (S2:=a4) (S3:=bm) (S4:=a5) d1 d2 d3 (bg.c sh<|nmL<|nmR<|nj H) (bh.c sh<|nmL<|nj<|nr_ H) d8<|bi.c sh<|ds<|nj<|nr_<|nr_ H) (na_ (nl_ H) (na_ (nl_<|nr_ H) (na_ d9 (nr_<|nr_<|nr_ H)<|a_N a7 (nj<|nr_<|nr_ H) (a_.lt bi) lr)<|nmA (ds<|a_N a7 (ds<|nmL<|nj<|nr_ H) (a_.lt bh) lr)<|nmR<|nj<|nr_ H)<|nmA (nmL<|nj H)<|nmA (ds<|a_N a7 (ds<|nmL<|nmR<|nj H) (a_.lt bg) lr)<|nmR<|nmR<|nj H)<|aa_ (io<|R_ sr)<|aa_ (io<|E_<|R_ sr)<|aa_ (or1 a7 (io<|E_<|E_<|R_ sr) (j_ lr):∀k∈bm,k∈(a3++(a4++(Sp++a5)))∨wo.z<=k)<|io<|E_<|E_<|E_ sr;refine Rw z<|Wg<|RM z z ?_
   obtain ⟨x6,bq,c3⟩:=bdS c2;refine RX z (c_z (α:=b_) P_ r_ z z bo bq) ?_;rintro _ ⟨_,db,rfl⟩;obtain ⟨_,_,dc,dd,I,br,_,de⟩:=f_p db bo da bq;obtain ⟨_,_,_,_,_,_,_,_,_,_,_,_,a8,a9,aa,Sr,rfl,rfl,df,dg,dh,bs,bt,bu,di⟩:=d_K dd;refine Rf z T_ z<|R z (l0 B_ z<|dc.at (j:=7) z)<|Rm z ?_
   have an:=lt_ a6 sh.s;have bv:=zt' L an;have dj:∀k∈Sr,¬B k:=or1 (fun k hk=>.inl<|(fun k hk=>(fun k hk=>(fun k hk=>br k<|List.mem_append_right _ hk) k<|List.mem_append_right _ hk) k<|List.mem_append_right _ hk) k hk) (or1 bp bj (m_ am):∀k∈bn,¬B k)<|m_ bv;obtain ⟨dk,bw,dl,c4⟩:=a_n c3;refine E z (fc call53 z<|W_w24 (B:=B) dl bv di (nr_<|nr_<|nr_ I) dj d7) ?_;rintro _ bx ⟨ss,bz,rfl,dm,dn,dp,ab⟩;obtain ⟨bA,dq,dr,dt⟩:=de _ _ _ (cM (cr (a8++(a9++(aa++Sr))) wq) ss (io<|E_<|E_<|E_ sr):Chg (· ∈ (a8++(a9++(aa++Sr)))) wq bx) (c_W (x:=(⟨x6.name,x6.kind,x6.size,x6.little,x6.bytes,x6.names,x6.tags,bw⟩:b_)) (S1:=a8) (S2:=a9) (S3:=aa) (S4:=bz) df dg dh (bs.c ss<|nmR<|nmR<|nj I) (bt.c ss<|nmR<|nj<|nr_ I) (bu.c ss<|nj<|nr_<|nr_ I) dn) (na_ (nl_ I) (na_ (nl_<|nr_ I) (na_ (nl_<|nr_<|nr_ I) dp<|ds<|a_N ab (ds<|nj<|nr_<|nr_ I) (a_.lt bu) lr)<|nmA (nmL<|nj<|nr_ I)<|ds<|a_N ab (ds<|nmR<|nj<|nr_ I) (a_.lt bt) lr)<|nmA (nmL<|nj I)<|nmA (nmL<|nmR<|nj I)<|ds<|a_N ab (ds<|nmR<|nmR<|nj I) (a_.lt bs) lr)<|aa_ (io<|R_ sr)<|aa_ (io<|E_<|R_ sr)<|aa_ (io<|E_<|E_<|R_ sr) (or1 ab (io<|E_<|E_<|E_ sr) (j_ lr):∀k∈bz,k∈(a8++(a9++(aa++Sr)))∨wq.z<=k);refine Rw z<|Wg<|Rm z<|R z (add_ z z)<|Ra z<|Wl ?_
   have bB:∀k∈G,k∈S1_0∨w0.z<=k:=or1 hl (io sr)<|j_ lr;have bC:∀k∈aw,k∈S1_0∨w0.z<=k:=or1 az bB<|j_ af;have bD:∀k∈aB,k∈S1_0∨w0.z<=k:=or1 aE bC<|j_ ah;have bE:∀k∈aG,k∈S1_0∨w0.z<=k:=or1 aJ bD<|j_ ai;have bF:∀k∈aL,k∈S1_0∨w0.z<=k:=or1 aO bE<|j_ aj;have bG:∀k∈aX,k∈S1_0∨w0.z<=k:=or1 aZ bF<|j_ O;have bH:∀k∈ba,k∈S1_0∨w0.z<=k:=or1 bc bG<|j_ a1;have bI:∀k∈bn,k∈S1_0∨w0.z<=k:=or1 bp bH<|j_ a6;have du:∀k∈Sk,k∈S1_0∨w0.z<=k:=or1 (fun k hk=>.inl<|aQ k<|List.mem_append_left _ hk) bF<|j_ O;have dv:∀k∈Sn,k∈S1_0∨w0.z<=k:=or1 (fun k hk=>.inl<|(fun k hk=>b3 k<|List.mem_append_right _ hk) k<|List.mem_append_left _ hk) bG<|j_ a1;have dw:∀k∈Sp,k∈S1_0∨w0.z<=k:=or1 (fun k hk=>.inl<|(fun k hk=>(fun k hk=>bf k<|List.mem_append_right _ hk) k<|List.mem_append_right _ hk) k<|List.mem_append_left _ hk) bH<|j_ a6;have dx:∀k∈Sr,k∈S1_0∨w0.z<=k:=or1 (fun k hk=>.inl<|(fun k hk=>(fun k hk=>(fun k hk=>br k<|List.mem_append_right _ hk) k<|List.mem_append_right _ hk) k<|List.mem_append_right _ hk) k hk) bI<|j_ an;exact fun _ q=>⟨((((cp.set (J).toNat (⟨x3.name,x3.kind,x3.size,x3.little,aV,x3.names,x3.tags,x3.kids⟩:b_)).set (J).toNat (⟨x4.name,x4.kind,x4.size,x4.little,x4.bytes,b8,x4.tags,x4.kids⟩:b_)).set (J).toNat (⟨x5.name,x5.kind,x5.size,x5.little,x5.bytes,x5.names,bk,x5.kids⟩:b_)).set (J).toNat (⟨x6.name,x6.kind,x6.size,x6.little,x6.bytes,x6.names,x6.tags,bw⟩:b_),dk,i_ J 1),(som c4).symm,⟨bA,q.k<|s3 z z z,(cM (cM (cM (cM (cM (cM (cM (cM (C_ (cM (cr S1_0 w0) st (io sr):Chg (· ∈ S1_0) w0 aq) ae:Chg (· ∈ S1_0) w0 ca) ax bB:Chg (· ∈ S1_0) w0 ce) aC bC:Chg (· ∈ S1_0) w0 ci) aH bD:Chg (· ∈ S1_0) w0 cm) aM bE:Chg (· ∈ S1_0) w0 ww) sf du:Chg (· ∈ S1_0) w0 wm) sg dv:Chg (· ∈ S1_0) w0 wo) sh dw:Chg (· ∈ S1_0) w0 wq) ss dx:Chg (· ∈ S1_0) w0 bx),dq,dr,(or1 dt bI (j_ an):∀k∈bA,k∈S1_0∨w0.z<=k),dm,iA _ _⟩⟩
  exact We<|fun _ q=>b_h (som<|ifF ap ad).symm ⟨G,q.k<|s2 z z,(cM (cr S1_0 w0) st (io sr):Chg (· ∈ S1_0) w0 aq),hj,hu,(or1 hl (io sr) (j_ lr):∀k∈G,k∈S1_0∨w0.z<=k),hv,ar⟩
 ·rintro ⟨xi,xa,J⟩ dy dz rfl ⟨G,_,dA,hj,hu,hl,hv,ar⟩;have c5:=elL ao;revert dy;refine Wo<|Wm z<|Rw z ?_
  obtain rfl:=som<|b_0 c5;exact Wr<|d_ hr z ⟨(cM (cr S1_0 w0) dA (io sr):Chg (· ∈ S1_0) w0 dz),G,z,hv,hj,hu,(or1 hl (io sr) (j_ lr):∀k∈G,k∈S1_0∨w0.z<=k)⟩
 rintro _ _ _ _ rfl ⟨rfl,c6⟩;have c7:=elR ao;obtain rfl:=som c7;exact ⟨c6,z⟩
theorem W_w3z {x1:f_}{S1_0:List Nat}{x2:Int}{res:Int×(List b_)}(hm:h_B n x1 x2=some res)(L:B<=w0.z)(I:a_ w0 S1_0 (sl A0 N0 C0) x1.rules)(p1_0n:S1_0.Nodup)(p1_0g:∀k∈S1_0,¬B k)(J:inI x2):k_ prog 14 [(.agg #[sl A0 N0 C0]),vI x2] w0 (Q33 w0 B A0 N0 C0 S1_0 res):=by
 unfold h_B at hm
 refine goG func14 z z z fun fn hr=>Ws<|E z (fb z) ?_
 rintro _ H ⟨rfl,h2⟩;have G:=h2.below;refine Rw z<|Ws<|Rf z a_d z<|R z (l0 a_g z<|(h2.blk:Blk H w0.z [sl A0 N0 C0]).at z)<|Rm z ?_
 obtain ⟨_,_,V,O⟩:=a_n hm;refine E z (fc call31 z<|W_w3y V (zt' L G.s) (I.e G) p1_0n p1_0g J) ?_;rintro _ W ⟨s8,S3,rfl,Y,ha,hb,hc⟩;refine Rw z<|Wm z<|Rw z ?_
 obtain rfl:=som O;exact Wr<|d_ hr z ⟨(cM (C_ (cr S1_0 w0) G:Chg (· ∈ S1_0) w0 H) s8 (io sr):Chg (· ∈ S1_0) w0 W),S3,z,Y,ha,hb,(or1 hc (io sr) (j_ G.s):∀k∈S3,k∈S1_0∨w0.z<=k)⟩
def Q34 (w0:World)(B:Zone)(A0:Option Addr)(N0 C0:Nat)(S1_0:List Nat)(r:Int×(List Val))(v:Value)(w':World):Prop:=Chg (· ∈ S1_0) w0 w'/\un2 (fun G H=>∃S1,(vI G)=v/\inI G/\a_ w' S1 (sl A0 N0 C0) H/\S1.Nodup/\(∀k∈S1,k∈S1_0∨w0.z<=k)) r
structure k_V (f:(List Val)->Int->Option (Int×(List Val))):Prop where
  run:∀{A0:Option Addr}{N0 C0:Nat}{S1_0:List Nat}{B:Zone}{x1:List Val}{x2:Int}{res:Int×(List Val)}{w0:World}(hm:f x1 x2=some res)(hBw:B<=w0.z)(p1_0:a_ w0 S1_0 (sl A0 N0 C0) x1)(p1_0n:S1_0.Nodup)(p1_0g:∀k∈S1_0,¬B k)(p2_0:inI x2),k_ prog 32 [sl A0 N0 C0,vI x2] w0<|Q34 w0 B A0 N0 C0 S1_0 res
abbrev n_i (n:Nat):Prop:=k_V (e_p n).laws_markValueS
theorem T_w0m (az:n_i n):k_V (h_E n<|e_p n):=by
 constructor
 intro A0 N0 C0 S1_0 B x1 x2 res w0 hm L aj p1_0n p1_0g ak;unfold h_E at hm
 refine goG func32 z z z fun fn hr=>Ws<|Rw z<|Wq<|Ws<|Rw z ?_
 obtain ⟨_,al,hmp⟩:=bdS hm;refine b_w (σ:=(List Val)×Int×Int) (ρ:=Int×(List Val)) (fun s a w=>un3 (fun x5 x4 x3=>∃(G:List Nat),Sat 34 [(0,sl A0 N0 C0),(1,vI x4),(5,vI x3)] a/\Chg (· ∈ S1_0) w0 w/\a_ w G (sl A0 N0 C0) x5/\G.Nodup/\(∀k∈G,k∈S1_0∨w0.z<=k)/\inI x4/\inI x3) s) (fun s a w=>un3 (fun x5 x4 x3=>∃(G:List Nat),Sat 34 [(0,sl A0 N0 C0),(1,vI x4)] a/\Chg (· ∈ S1_0) w0 w/\a_ w G (sl A0 N0 C0) x5/\G.Nodup/\(∀k∈G,k∈S1_0∨w0.z<=k)/\inI x4/\inI x3) s) (rQ prog fn<|Q34 w0 B A0 N0 C0 S1_0) al ?_ ?_ ?_ ?_
 ·exact fun _ q=>⟨S1_0,q.k<|s3 z z z,cr S1_0 w0,aj,p1_0n,io sr,ak,ii z⟩
 ·rintro ⟨x5,x4,x3⟩ _ wq _ ⟨G,am,s6,h1,ha,h2,hb,ht⟩ an;have hmr:=b_0 an;refine Wu ?_ am;refine Wq<|Wm z<|Rm z<|R z (lnR Z_ z<|a_.rep h1)<|Rl z z z<|Wx z (fun hcl=>?_) (fun hcl=>?_)
  ·refine Wk<|Wq<|Wb<|Wm z<|RM z z ?_
   obtain ⟨xs,eu,ao⟩:=bdS<|ifT hmr hcl;refine RX z (c_z (α:=Val) Z_ c_ z z h1 eu) ?_;rintro _ ⟨_,aA,rfl⟩;refine Rf z a_M z ?_;obtain ⟨aB,aC,ap⟩:=bdS ao;refine E0 (g_q (α:=Val) (v':=(⟨x4,xs.bytes,xs.items⟩:Val)) z_3 z aA z z z z eu aC h1 ha (lb z)<|fun _ _ _ h=>o_K h hb) ?_;rintro _ wc ⟨Sv,sw,hx,aD,hy⟩;refine Wn<|Wm z<|R z (add_ z z)<|Rw z<|Wm z<|Rm z ?_
   obtain ⟨xd,ez,aq⟩:=bdS ap;refine RX z (c_z (α:=Val) Z_ c_ z z hx ez) ?_;rintro _ ⟨_,aE,rfl⟩;obtain ⟨_,_,aF,aG,he,O,_,aH⟩:=f_p aE hx aD ez;obtain ⟨_,_,_,_,_,_,H,Sf,rfl,rfl,aI,aJ,V⟩:=g_0 aG;refine Rf z a_E z<|R z (l0 F_ z<|aF.at (j:=1) z)<|Rm z ?_
   have hg:=lt_ s6.s sw.s;have hn:=zt' L hg;have W:∀k∈Sv,¬B k:=or1 hy (or1 h2 p1_0g (m_ L):∀k∈G,¬B k)<|m_<|zt' L s6.s;have aK:∀k∈H,¬B k:=or1 (fun k hk=>.inl<|O k<|List.mem_append_left _ hk) W<|m_ hn;obtain ⟨_,Y,aL,ar⟩:=a_n aq;refine E z (fc call15 z<|g_S (B:=B) aL hn aJ (nl_ he) aK<|iA _ _) ?_;rintro _ I ⟨sh,a0,rfl,aM,aN,aO,a1⟩;obtain ⟨a2,a3,aP,a4⟩:=aH _ _ _ (cM (cr (H++Sf) wc) sh (io<|R_ sr):Chg (· ∈ (H++Sf)) wc I) (c_k (x:=(⟨xd.number,Y,xd.items⟩:Val)) (S1:=a0) (S2:=Sf) aI aN<|V.c sh<|ds<|nj he) (na_ aO (nr_ he)<|a_N a1 (nj he) (a_.lt V) lr)<|aa_ (or1 a1 (io<|R_ sr) (j_ lr):∀k∈a0,k∈(H++Sf)∨wc.z<=k)<|io<|E_ sr;refine Rw z<|Wg<|RM z z ?_
   obtain ⟨xi,a5,au⟩:=bdS ar;refine RX z (c_z (α:=Val) Z_ c_ z z a3 a5) ?_;rintro _ ⟨_,aQ,rfl⟩;obtain ⟨_,_,aR,aS,hj,a6,_,aT⟩:=f_p aQ a3 aP a5;obtain ⟨_,_,_,_,_,_,Sk,J,rfl,rfl,aU,a7,aV⟩:=g_0 aS;refine Rf z Y_ z<|R z (l0 a_6 z<|aR.at (j:=2) z)<|Rm z ?_
   have ho:=lt_ hg sh.s;have a8:=zt' L ho;have aW:∀k∈J,¬B k:=or1 (fun k hk=>.inl<|(fun k hk=>a6 k<|List.mem_append_right _ hk) k hk) (or1 a4 W (m_ hn):∀k∈a2,¬B k)<|m_ a8;obtain ⟨aX,a9,aY,av⟩:=a_n au;refine E z (fc call32 z<|az.run (B:=B) aY a8 aV (nr_ hj) aW aM) ?_;rintro _ aa ⟨sm,ab,rfl,aZ,b0,b3,ad⟩;obtain ⟨ae,b4,b5,b6⟩:=aT _ _ _ (cM (cr (Sk++J) I) sm (io<|E_ sr):Chg (· ∈ (Sk++J)) I aa) (c_k (x:=(⟨xi.number,xi.bytes,a9⟩:Val)) (S1:=Sk) (S2:=ab) aU (a7.c sm<|nj hj) b0) (na_ (nl_ hj) b3<|ds<|a_N ad (ds<|nj hj) (a_.lt a7) lr)<|aa_ (io<|R_ sr) (or1 ad (io<|E_ sr) (j_ lr):∀k∈ab,k∈(Sk++J)∨I.z<=k);refine Rw z<|Wg<|Rm z<|R z (add_ z z)<|Ra z<|Wl ?_
   have af:∀k∈G,k∈S1_0∨w0.z<=k:=or1 h2 (io sr)<|j_ lr;have ah:∀k∈Sv,k∈S1_0∨w0.z<=k:=or1 hy af<|j_ s6.s;have ai:∀k∈a2,k∈S1_0∨w0.z<=k:=or1 a4 ah<|j_ hg;have b7:∀k∈H,k∈S1_0∨w0.z<=k:=or1 (fun k hk=>.inl<|O k<|List.mem_append_left _ hk) ah<|j_ hg;have b8:∀k∈J,k∈S1_0∨w0.z<=k:=or1 (fun k hk=>.inl<|(fun k hk=>a6 k<|List.mem_append_right _ hk) k hk) ai<|j_ ho;exact fun _ q=>⟨((aB.set (x3).toNat (⟨xd.number,Y,xd.items⟩:Val)).set (x3).toNat (⟨xi.number,xi.bytes,a9⟩:Val),aX,i_ x3 1),(som av).symm,⟨ae,q.k<|s3 z z z,(cM (cM (cM (cM (cr S1_0 w0) s6 (io sr):Chg (· ∈ S1_0) w0 wq) sw af:Chg (· ∈ S1_0) w0 wc) sh b7:Chg (· ∈ S1_0) w0 I) sm b8:Chg (· ∈ S1_0) w0 aa),b4,b5,(or1 b6 ai (j_ ho):∀k∈ae,k∈S1_0∨w0.z<=k),aZ,iA _ _⟩⟩
  exact We<|fun _ q=>b_h (som<|ifF hmr hcl).symm ⟨G,q.k<|s2 z z,(cM (cr S1_0 w0) s6 (io sr):Chg (· ∈ S1_0) w0 wq),h1,ha,(or1 h2 (io sr) (j_ lr):∀k∈G,k∈S1_0∨w0.z<=k),hb,ht⟩
 ·rintro ⟨x5,x4,x3⟩ b9 ba rfl ⟨G,_,bb,h1,ha,h2,hb,ht⟩;have aw:=elL hmp;revert b9;refine Wo<|Wm z<|Rw z ?_
  obtain rfl:=som<|b_0 aw;exact Wr<|d_ hr z ⟨(cM (cr S1_0 w0) bb (io sr):Chg (· ∈ S1_0) w0 ba),G,z,hb,h1,ha,(or1 h2 (io sr) (j_ lr):∀k∈G,k∈S1_0∨w0.z<=k)⟩
 rintro _ _ _ _ rfl ⟨rfl,ax⟩;have ay:=elR hmp;obtain rfl:=som ay;exact ⟨ax,z⟩
theorem A_w0m:∀n,n_i n
  | 0=>⟨fun hm=>by intros;exact nomatch (show none=some _ from hm)⟩
  | n+1=>T_w0m<|A_w0m n
theorem W_w0m:k_V (e_p n).laws_markValueS:=A_w0m n
def Q35 (w0:World)(B:Zone)(A5:Option Addr)(N5 C5:Nat)(S1_1:List Nat)(AG:Option Addr)(NG CG:Nat)(S1_2:List Nat)(r:Int×(List UInt8)×(List Val))(v:Value)(w':World):Prop:=Chg (· ∈ (S1_1++S1_2)) w0 w'/\un3 (fun G H I=>∃S1 S2,(vI G)=v/\inI G/\a_ w' S1 (sl A5 N5 C5) H/\S1.Nodup/\(∀k∈S1,k∈S1_1∨w0.z<=k)/\a_ w' S2 (sl AG NG CG) I/\S2.Nodup/\(∀k∈S2,k∈S1_2∨w0.z<=k)) r
theorem W_w40 {x1:Val}{S1_1:List Nat}{S1_2:List Nat}{x2:Int}{res:Int×(List UInt8)×(List Val)}(hm:h_F n x1 x2=some res)(J:B<=w0.z)(a0:inI x1.number)(H:a_ w0 S1_1 (sl A5 N5 C5) x1.bytes)(p1_1n:S1_1.Nodup)(p1_1g:∀k∈S1_1,¬B k)(I:a_ w0 S1_2 (sl AG NG CG) x1.items)(p1_2n:S1_2.Nodup)(p1_2g:∀k∈S1_2,¬B k)(p1_2d1:∀k∈S1_2,k∉S1_1)(Y:inI x2):k_ prog 16 [(.agg #[vI x1.number,sl A5 N5 C5,sl AG NG CG]),vI x2] w0 (Q35 w0 B A5 N5 C5 S1_1 AG NG CG S1_2 res):=by
 unfold h_F at hm
 refine goG func16 z z z fun fn hr=>Ws<|E z (fb z) ?_
 rintro _ L ⟨rfl,h3⟩;have G:=h3.below;have h4:Blk L w0.z [vI x1.number,sl A5 N5 C5,sl AG NG CG]:=h3.blk;refine Rw z<|Ws<|Rf z a_E z<|R z (l0 F_ z<|h4.at z)<|Rm z ?_
 obtain ⟨_,_,ea,hmb⟩:=a_n hm;refine E z (fc call15 z<|g_S ea (zt' J G.s) (H.e G) p1_1n p1_1g Y) ?_;rintro _ wc ⟨s1,O,rfl,hd,he,hf,h6⟩;refine Rw z<|Ws<|Rf z Y_ z<|R z (l0 a_6 z<|(h4.c s1<|atp<|mnr<|a_.lt H).at z)<|Rm z ?_
 have V:=lt_ G.s s1.s;obtain ⟨_,_,eg,hmh⟩:=a_n hmb;refine E z (fc call32 z<|W_w0m.run eg (zt' J V) ((I.e G).c s1 p1_2d1) p1_2n p1_2g hd) ?_;rintro _ wi ⟨s8,W,rfl,hj,hk,hl,hn⟩;refine Rw z<|Wm z<|Rw z ?_
 obtain rfl:=som hmh;exact Wr<|d_ hr z ⟨(cM (cM (C_ (cr (S1_1++S1_2) w0) G:Chg (· ∈ (S1_1++S1_2)) w0 L) s1 (io<|R_ sr):Chg (· ∈ (S1_1++S1_2)) w0 wc) s8 (io<|E_ sr):Chg (· ∈ (S1_1++S1_2)) w0 wi),O,W,z,hj,he.c s8<|a_N h6 (ds p1_2d1) (a_.lt I) G.s,hf,(or1 h6 (io sr) (j_ G.s):∀k∈O,k∈S1_1∨w0.z<=k),hk,hl,(or1 hn (io sr) (j_ V):∀k∈W,k∈S1_2∨w0.z<=k)⟩
theorem W_w25 {x1:List UInt8}{x2:Int}{res:Int}(hm:f_V x1 x2=some res)(W:B<=w0.z)(G:repS w0 B (sl A0 N0 C0) x1)(V:inI x2):k_ prog 17 [sl A0 N0 C0,vI x2] w0 (Q0 w0 B res):=by
 unfold f_V at hm
 refine goG func17 z z z fun fn hr=>Ws<|Rw z<|Wq<|Ws<|Rw z ?_
 obtain ⟨_,hua,I⟩:=bdS hm;refine Wf (σ:=Int) (ρ:=Int) (fun (k5:Nat)(x0:Int) a w=>Sat 22 [(0,sl A0 N0 C0),(1,vI x0),(5,vI ((k5:Nat):Int))] a/\Below w0.z w0 w/\inI x0) (fun (x0:Int) a w=>Sat 22 [(1,vI x0)] a/\Below w0.z w0 w/\inI x0) (rQ prog fn<|Q0 w0 B) hua ?_ ?_ ?_ ?_ ?_
 ·exact fun _ q=>⟨q.k<|s3 z z z,br w0,V⟩
 ·rintro k5 x0 _ _ _ J ⟨hSb,s2,h1⟩ hmc;refine Wu ?_ hSb;refine Wq<|Wm z<|Rm z ?_
  have O:=G.e s2;refine R z (lnR p_ z O)<|Rl z z z<|Wx z (fun _=>?_) (fun hc=>(U_ J hc).elim)
  refine Wk<|Wq<|Wb<|Wq<|Wm z<|Rm z ?_
  obtain ⟨_,ed,L⟩:=bdS hmc;refine RX z (at_ (α:=UInt8) p_ z_5 z z z O ed) ?_;rintro _ ⟨_,_,_,rfl,he,hf,_⟩;obtain rfl:=u8 hf;refine R z (l0 g_5 z<|he.at0 z)<|Rm z<|R z (c_Y d_3 d_5 z)<|R z (nq z z)<|Wx z (fun H=>?_) (fun H=>?_)
  ·exact Ws<|Rw z<|Wr<|rtO<|qL (som<|ifT L H).symm<|d_ hr z ⟨s2,z,ii z⟩
  exact Wk<|Wg<|Rm z<|R z (add_ z z)<|Rw z<|Wg<|Rm z<|R z (inc_ J (lt_ (repS.len G) D_) z z)<|Ra z<|Wl (fun _ q=>⟨i_ x0 1,(som<|ifF L H).symm,⟨q.k<|s3 z z z,s2,iA _ _⟩⟩)
 ·rintro x0 _ _ ⟨hSg,s9,h1⟩;refine Wu ?_ hSg;refine Wq<|Wm z<|Rm z<|R z (lnR p_ z<|G.e s9)<|Rl z z z<|Wx z (fun hc=>(V_ hc).elim) (fun _=>?_)
  exact We<|fun _ q=>⟨rfl,⟨q.k<|s1 z,s9,h1⟩⟩
 ·rintro x0 ah _ rfl ⟨_,si,h1⟩;have hmj:=elL I;revert ah;refine Wo<|Wm z<|Rw z ?_
  obtain rfl:=som hmj;exact Wr<|d_ hr z ⟨si,z,h1⟩
 rintro _ _ _ _ rfl ⟨rfl,hqk⟩;have hml:=elR I;obtain rfl:=som hml;exact ⟨hqk,z⟩
def r_F (w0:World)(B:Zone)(r:Bool)(v:Value)(w':World):Prop:=Bw w0 w'/\(fun G=>(vB G)=v) r
theorem r_G {x1:f_}{x2:List UInt8}{x3:Str}{x4:Val}{res:Bool}(hm:g_p n x1 x2 x3 x4=some res)(I:B<=w0.z)(hG:Gl w0 B)(ak:repS w0 B (sl A0 N0 C0) x1.rules)(al:repS w0 B (sl A8 N8 C8) x2)(aG:x3.b.length<=LEN)(am:inI x4.number)(an:repS w0 B (sl AH NH CH) x4.bytes)(ao:repS w0 B (sl AI NI CI) x4.items):k_ prog 3 [(.agg #[sl A0 N0 C0]),sl A8 N8 C8,Str.v x3,(.agg #[vI x4.number,sl AH NH CH,sl AI NI CI])] w0 (r_F w0 B res):=by
 unfold g_p at hm
 refine goG func3 z z z fun fn hr=>Ws<|E z (fb z) ?_
 rintro _ aq ⟨rfl,bR⟩;have hn:=bR.below;have a9:Blk aq w0.z [sl A0 N0 C0]:=bR.blk;refine E z (fb z) ?_;rintro _ dB ⟨rfl,bS⟩;have hl:=bS.below;have aa:Blk dB aq.z [vI x4.number,sl AH NH CH,sl AI NI CI]:=bS.blk;refine Rw z<|Wq<|Wm z ?_
 have aV:=(hn.ag B).e hl;refine R z (lnR p_ z<|al.g aV)<|R z (a_z z z)<|Wx z (fun aH=>?_) (fun aH=>?_)
 ·refine Ws<|Rw z ?_
  obtain rfl:=som<|ifT hm aH;exact Wr<|d_ hr z ⟨bup hn hl,z⟩
 have bz:=ifF hm aH;refine Wk<|Wq<|Wm z<|R z (lnT d_9 z)<|R z (a_z z z)<|Wx z (fun aI=>?_) (fun aI=>?_)
 ·refine Ws<|Rw z ?_
  obtain rfl:=som<|ifT bz aI;exact Wr<|d_ hr z ⟨bup hn hl,z⟩
 refine Wk<|Ws<|Rw z<|Ws ?_
 have bT:=a9.e hl;refine R z (lN (vs:=[sl A0 N0 C0]) g_24 z_24 z z fid<|bT.row 0 1 z)<|Rm z ?_
 have bU:=lt_ hn.s hl.s;obtain ⟨_,dC,bA⟩:=bdS<|ifF bz aI;refine E z (fc call4 z<|W_w29 dC (zt' I bU) (ak.g aV)<|ii z) ?_;rintro _ _ ⟨so,rfl,dD⟩;refine Rw z<|Wq<|Wm z<|Rl z z z<|Wx z (fun aJ=>?_) (fun aJ=>?_)
 ·refine Ws<|Rw z ?_
  obtain rfl:=som<|ifT bA aJ;exact Wr<|d_ hr z ⟨bup (bup hn hl) so,z⟩
 refine Wk<|Ws ?_
 have bV:=aa.e so;refine R z (lN (vs:=[vI x4.number,sl AH NH CH,sl AI NI CI]) e_Z d_y z z fid<|bV.row 0 3 z)<|Rm z ?_
 have aW:=aV.e so;have bW:=lt_ bU so.s;obtain ⟨_,dF,bB⟩:=bdS<|ifF bA aJ;refine E z (fc call5 z<|W_w09.run dF (zt' I bW) am (an.g aW) (ao.g aW) dD) ?_;rintro _ _ ⟨sq,rfl,_⟩;refine Rw z<|Wq<|Wm z<|Rl z z z<|Wx z (fun aK=>?_) (fun aK=>?_)
 ·refine Ws<|Rw z ?_
  obtain rfl:=som<|ifT bB aK;exact Wr<|d_ hr z ⟨bup (bup (bup hn hl) so) sq,z⟩
 refine Wk<|Wq (Wd (X:=noX) 0 (.rd 0<|.rd 2<|.rd 4<|.rd 5<|.ef 1<|.ef 3<|.ef 6<|.ef 7<|.rd 8<|.rd 9<|.rd 10<|.rd 11<|.rd 12 .done) mo (by kernel_rfl) fun f3 sr _=>?_)
 have bX:=((bT.e so).e sq).e sr;refine dR z z (lN (vs:=[sl A0 N0 C0]) g_24 z_24 z z fid<|bX.row 0 1 z)<|dM z z z<|dM z z z ?_
 have bY:=(bV.e sq).e sr;refine dR z z (lN (vs:=[vI x4.number,sl AH NH CH,sl AI NI CI]) e_Z d_y z z fid<|bY.row 0 3 z) ?_;have bZ:=(aW.e sq).e sr;have c0:=lt_ (lt_ bW sq.s) sr.s;obtain ⟨_,dG,de⟩:=bdS<|ifF bB aK;refine dE z z (fc call7 z<|i_G dG (zt' I c0)<|ak.g bZ) (.inr fun _ _ h=>o_<|h.1) ?_;rintro _ _ ⟨ss,_,_,_,_,rfl,c1,_,_⟩;have c2:=bZ.e ss;have c3:=lt_ c0 ss.s;obtain ⟨_,dH,df⟩:=bdS de;refine dE z z (fc call8 z<|f_F dH (zt' I c3)<|al.g c2) (.inr fun _ _ h=>o_<|h.1) ?_;rintro _ _ ⟨sp,_,_,_,_,rfl,c4,_,_⟩;have aX:=c2.e sp;have c5:=lt_ c3 sp.s;obtain ⟨_,dI,dg⟩:=bdS df;refine dE z z (fc call9 z<|i_I.run dI (zt' I c5) am (an.g aX)<|ao.g aX) (.inr fun _ _ h=>o_<|h.1) ?_;rintro _ dJ ⟨si,_,_,_,_,_,_,_,_,rfl,dK,dL,dN,_,_⟩;obtain ⟨_,ap,dO,dh⟩:=a_n dg;refine dE z z (fc call6 z<|W_w2x (B:=dJ.z) dO zr (repS.mono (or_ ((c1.e sp).e si)<|a_.lt c1)<|a_I<|lt_ sp.s si.s) (repS.mono (or_ (c4.e si)<|a_.lt c4)<|a_I si.s) aG dK (a_.rep dL)<|a_.rep dN) (.inr fun _ _ h=>o_<|h.1) ?_;rintro _ _ ⟨st,c6,c7,c8,_,rfl,hk,_,_⟩;refine dM z z z<|dR z z (ext_ z z)<|dR z z (ext_ z z)<|dQ z z z<|dQ z z z<|pD<|Wo<|Ws ?_
 have c9:=(((bX.e ss).e sp).e si).e st;refine R z (lN (vs:=[sl A0 N0 C0]) g_24 z_24 z z fid<|c9.row 0 1 z) ?_;have ca:=(aX.e si).e st;have a7:=lt_ (lt_ c5 si.s) st.s;have cb:=zt' I a7;obtain ⟨_,dP,di⟩:=bdS dh;refine E z (fc call7 z<|i_G (B:=B) dP cb<|ak.g ca) ?_;rintro _ aY ⟨sd,ar,au,av,dS,rfl,a3,dT,a0⟩;refine E z (fa k_d) ?_;rintro _ dU ⟨rfl,cc⟩;have hc:=cc.below;have cd:Blk dU aY.z [sl none 0 0]:=cc.blk;refine E0 (fs0 (cur':=[sl ar au av]) u_ z z cd z z z z) ?_;rintro _ _ ⟨dV,dW⟩;have H:=dW.one;refine Wn<|Wm z ?_
 have J:=lt_ a7 sd.s;have ce:∀k∈[aY.z],¬B k:=or0 (e_ lr)<|m_<|zt' I J;have cf:=((ca.e sd).e hc).c H<|g_ ce
 have a8:=lt_ (lt_ J hc.s) H.s;have cg:=zt' I a8;obtain ⟨_,dX,dj⟩:=bdS di;refine E z (fc call8 z<|f_F (B:=B) dX cg<|al.g cf) ?_;rintro _ _ ⟨sa,dY,dZ,e0,e1,rfl,ab,e2,L⟩;refine Rw z<|Ws ?_
 have ch:=lt_ (lt_ (lt_ (lt_ (lt_ (lt_ so.s sq.s) sr.s) ss.s) sp.s) si.s) st.s;have ci:=lt_ ch sd.s;have cj:=(((((((bY.e ss).e sp).e si).e st).e sd).e hc).c H<|djs<|mm1 aa.lt ci).e sa;refine R z (lN (vs:=[vI x4.number,sl AH NH CH,sl AI NI CI]) e_Z d_y z z fid<|cj.row 0 3 z) ?_;have aZ:=cf.e sa;have hw:=lt_ a8 sa.s;have b0:=zt' I hw;obtain ⟨aw,e3,dk⟩:=bdS dj;refine E z (fc call9 z<|i_I.run (B:=B) e3 b0 am (an.g aZ)<|ao.g aZ) ?_;rintro _ ax ⟨G,ay,az,aA,e4,aB,aC,aD,e5,rfl,b3,af,ah,b4,h3⟩;refine E z (fa L_) ?_;rintro _ e6 ⟨rfl,ck⟩;have h1:=ck.below;refine E0 (fs0 (cur':=[vI aw.number,sl ay az aA,sl aB aC aD]) c_ z z (ck.blk:Blk e6 ax.z [vI 0,sl none 0 0,sl none 0 0]) z z z z) ?_;rintro _ _ ⟨cl,e7⟩;have h2:=e7.one;refine Wn<|Ws ?_
 have cm:=(((dV.e sa).e G).e h1).c h2<|djs<|mm1 cd.lt<|lt_ (lt_ H.s sa.s) G.s
 refine R z (lN (vs:=[sl ar au av]) v_ u_ z z fid<|cm.row 0 1 z)<|RM z z<|R z (lN (vs:=[vI aw.number,sl ay az aA,sl aB aC aD]) l_ c_ z z fid<|cl.row 0 3 z) ?_
 have cn:=lt_ hc.s H.s;have b5:=lt_ cn sa.s;have b6:=lt_ b5 G.s;have co:=mno (a_.lt a3) b6;have cp:=(((((a3.e hc).c H<|ds<|mnr<|a_.lt a3).e sa).e G).e h1).c h2<|ds co
 have cq:=mno (a_.lt ab) G.s;have cr:=((ab.e G).e h1).c h2<|ds cq
 have ct:=(af.e h1).c h2<|ds<|mnr<|a_.lt af
 have cu:=(ah.e h1).c h2<|ds<|mnr<|a_.lt ah
 have O:=lt_ hw G.s;have cv:=zt' I O;have cw:∀k∈[ax.z],¬B k:=or0 (e_ lr)<|m_ cv;have cx:=(((((((((((((((hG.e hn).e hl).e so).e sq).e sr).e ss).e sp).e si).e st).e sd).e hc).c H<|g_ ce).e sa).e G).e h1).c h2<|g_ cw
 have ai:=lt_ h1.s h2.s;obtain ⟨_,b7,e8,dl⟩:=a_n dk;refine E z (fc call10 z<|W_w20 (B:=ax.z) e8 (a_I ai) (cx.mono cv) (repS.mono (or_ cp<|a_.lt a3)<|a_I b6) (repS.mono (or_ cr<|a_.lt ab)<|a_I G.s) aG b3 (or_ ct<|a_.lt af)<|or_ cu<|a_.lt ah) ?_;rintro _ aE ⟨s4,b8,b9,ba,e9,rfl,aF,ea,hu⟩;refine Rm z<|Re z z z<|Re z z z<|Ra z<|Rw z<|Wq<|Wq ?_
 obtain ⟨eb,dm,bC⟩:=bdS dl;refine Wt (fun a w=>∃(bb:Bool),bb=eb/\Sat 148 [(1,sl A8 N8 C8),(2,Str.v x3),(4,pt w0.z),(7,pt aq.z),(10,sl c6 c7 c8),(11,vB ap),(12,pt aY.z),(13,sl dY dZ e0),(14,pt ax.z),(15,sl b8 b9 ba),(16,vB b7),(71,vB bb)] a/\Below aE.z aE w) ?_ ?_
 ·refine Wg<|RM z z ?_
  have cy:=lt_ (lt_ (lt_ (lt_ sd.s hc.s) H.s) sa.s) G.s;obtain ⟨ec,ed,bD⟩:=bdS dm;refine E z (fc call11 z<|f_H (B:=aE.z) ed zr (a_.rep aF)<|repS.mono (or_ ((((((((hk.e sd).e hc).c H<|ds<|mno (a_.lt hk) sd.s).e sa).e G).e h1).c h2<|ds<|mno (a_.lt hk) cy).e s4)<|a_.lt hk)<|a_I<|lt_ (lt_ (lt_ cy h1.s) h2.s) s4.s) ?_;rintro _ _ ⟨cz,rfl⟩;refine R z (not_ z)<|Rm z ?_
  rcases bs (!ec) with a4 | a4
  ·iterate 3 refine Nh z a4 ?_
   exact R z (pT z a4 z)<|Wl (fun _ q=>⟨true,som<|ifT bD a4,q.k<|sc z<|sc z<|sc z<|sc z<|sc z<|sc z<|sc z<|sc z<|sc z<|sc z<|sc z<|sc z sn,cz⟩)
  exact Rh z a4 (mv z)<|Rh z a4 (mv z)<|Rh z a4 (i_e d_4 z z)<|R z (pF z a4 z)<|Wl (fun _ q=>⟨b7 != ap,som<|ifF bD a4,q.k<|sc z<|sc z<|sc z<|sc z<|sc z<|sc z<|sc z<|sc z<|sc z<|sc z<|sc z<|sc z sn,cz⟩)
 rintro ee _ ⟨bb,rfl,_,s5⟩;revert ee;refine Wo<|Wc z (fun aL=>?_) (fun aL=>?_)
 ·refine Ws<|Rw z ?_
  obtain rfl:=som<|ifT bC aL;exact Wr<|d_ hr z ⟨bup (bup (bM (bup (bup (bup (bM (bup (bup (bup (bup (bup (bup (bup (bup (bup (bup hn hl) so) sq) sr) ss) sp) si) st) sd) hc) H<|m1 J) sa) G) h1) h2<|m1 O) s4) s5,z⟩
 refine Wk<|Wq<|Wq (Wd (X:=noX) 0 (pl_ 5 [2,3]) mo (by kernel_rfl) fun f0 s6 _=>?_)
 have cA:=((cm.e s4).e s5).e s6;refine dR z z (lN (vs:=[sl ar au av]) v_ u_ z z fid<|cA.row 0 1 z) ?_;have cB:=lt_ (lt_ (lt_ (lt_ (lt_ (lt_ (lt_ hl.s so.s) sq.s) sr.s) ss.s) sp.s) si.s) st.s;have cC:=lt_ cB sd.s;have cD:=lt_ (lt_ cC hc.s) H.s;have bc:=lt_ cD sa.s;have cE:=lt_ bc G.s;have cF:=(((((((((c9.e sd).e hc).c H<|djs<|mm1 a9.lt cC).e sa).e G).e h1).c h2<|djs<|mm1 a9.lt cE).e s4).e s5).e s6;refine dR z z (lN (vs:=[sl A0 N0 C0]) g_24 z_24 z z fid<|cF.row 0 1 z) ?_;have cG:=(((((aZ.e G).e h1).c h2<|g_ cw).e s4).e s5).e s6;have ad:=lt_ (lt_ O h1.s) h2.s;have cH:=lt_ (lt_ (lt_ ad s4.s) s5.s) s6.s;obtain ⟨_,eg,dn⟩:=bdS<|ifF bC aL;refine dE z z (fc call7 z<|i_G eg (zt' I cH)<|ak.g cG) (.inr fun _ _ h=>o_<|h.1) ?_;rintro _ eh ⟨s7,_,_,_,_,rfl,ei,_,_⟩;have cI:=(((cp.e s4).e s5).e s6).e s7;have be:=lt_ (lt_ b6 h1.s) h2.s;obtain ⟨_,ej,bE⟩:=bdS dn;refine dE z z (fc call12 z<|W_w3w (B:=eh.z) ej zr (repS.mono (or_ cI<|a_.lt a3)<|a_I<|lt_ (lt_ (lt_ (lt_ be s4.s) s5.s) s6.s) s7.s)<|a_.rep ei) (.inr fun _ _ h=>o_<|h.1) ?_;rintro _ _ ⟨s9,rfl⟩;refine dR z z (not_ z)<|pD<|Wo<|Wc z (fun aM=>?_) (fun aM=>?_)
 ·refine Ws<|Rw z ?_
  obtain rfl:=som<|ifT bE aM;exact Wr<|d_ hr z ⟨bup (bup (bup (bup (bup (bM (bup (bup (bup (bM (bup (bup (bup (bup (bup (bup (bup (bup (bup (bup hn hl) so) sq) sr) ss) sp) si) st) sd) hc) H<|m1 J) sa) G) h1) h2<|m1 O) s4) s5) s6) s7) s9,z⟩
 refine Wk<|Wq<|Wm z<|Rm z ?_
 have cJ:=(cG.e s7).e s9;have cK:=lt_ (lt_ cH s7.s) s9.s;obtain ⟨_,ek,dp⟩:=bdS<|ifF bE aM;refine E z (fc call8 z<|f_F ek (zt' I cK)<|al.g cJ) ?_;rintro _ em ⟨sb,_,_,_,_,rfl,en,_,_⟩;have cL:=(((((cr.e s4).e s5).e s6).e s7).e s9).e sb;have bf:=lt_ (lt_ G.s h1.s) h2.s;obtain ⟨_,eo,bF⟩:=bdS dp;refine E z (fc call11 z<|f_H (B:=em.z) eo zr (repS.mono (or_ cL<|a_.lt ab)<|a_I<|lt_ (lt_ (lt_ (lt_ (lt_ (lt_ bf s4.s) s5.s) s6.s) s7.s) s9.s) sb.s)<|a_.rep en) ?_;rintro _ _ ⟨se,rfl⟩;refine R z (not_ z)<|Wx z (fun aN=>?_) (fun aN=>?_)
 ·refine Ws<|Rw z ?_
  obtain rfl:=som<|ifT bF aN;exact Wr<|d_ hr z ⟨bup (bup (bup (bup (bup (bup (bup (bM (bup (bup (bup (bM (bup (bup (bup (bup (bup (bup (bup (bup (bup (bup hn hl) so) sq) sr) ss) sp) si) st) sd) hc) H<|m1 J) sa) G) h1) h2<|m1 O) s4) s5) s6) s7) s9) sb) se,z⟩
 refine Wk<|Wq<|Wq (Wd (X:=noX) 0 (pl_ 5 [2,3]) mo (by kernel_rfl) fun f1 sf _=>?_)
 have cM:=(((((((cl.e s4).e s5).e s6).e s7).e s9).e sb).e se).e sf;refine dR z z (lN (vs:=[vI aw.number,sl ay az aA,sl aB aC aD]) l_ c_ z z fid<|cM.row 0 3 z) ?_;have cN:=lt_ (lt_ ci hc.s) H.s;have bg:=lt_ cN sa.s;have cO:=lt_ bg G.s;have cP:=((((((((((cj.e G).e h1).c h2<|djs<|mm1 aa.lt cO).e s4).e s5).e s6).e s7).e s9).e sb).e se).e sf;refine dR z z (lN (vs:=[vI x4.number,sl AH NH CH,sl AI NI CI]) e_Z d_y z z fid<|cP.row 0 3 z) ?_;have bh:=((cJ.e sb).e se).e sf;have cQ:=lt_ (lt_ (lt_ cK sb.s) se.s) sf.s;obtain ⟨_,ep,dq⟩:=bdS<|ifF bF aN;refine dE z z (fc call9 z<|i_I.run ep (zt' I cQ) am (an.g bh)<|ao.g bh) (.inr fun _ _ h=>o_<|h.1) ?_;rintro _ er ⟨sg,_,_,_,_,_,_,_,_,rfl,es,eu,ew,_,_⟩;have cR:=((((((((ct.e s4).e s5).e s6).e s7).e s9).e sb).e se).e sf).e sg;have cS:=((((((((cu.e s4).e s5).e s6).e s7).e s9).e sb).e se).e sf).e sg;have cT:=lt_ (lt_ (lt_ (lt_ (lt_ (lt_ (lt_ (lt_ (lt_ ai s4.s) s5.s) s6.s) s7.s) s9.s) sb.s) se.s) sf.s) sg.s;obtain ⟨_,ex,bG⟩:=bdS dq;refine dE z z (fc call13 z<|W_w0d.run (B:=er.z) ex zr b3 (repS.mono (or_ cR<|a_.lt af)<|a_I cT) (repS.mono (or_ cS<|a_.lt ah)<|a_I cT) es (a_.rep eu)<|a_.rep ew) (.inr fun _ _ h=>o_<|h.1) ?_;rintro _ _ ⟨sh,rfl⟩;refine dR z z (not_ z)<|pD<|Wo<|Wc z (fun aO=>?_) (fun aO=>?_)
 ·refine Ws<|Rw z ?_
  obtain rfl:=som<|ifT bG aO;exact Wr<|d_ hr z ⟨bup (bup (bup (bup (bup (bup (bup (bup (bup (bup (bM (bup (bup (bup (bM (bup (bup (bup (bup (bup (bup (bup (bup (bup (bup hn hl) so) sq) sr) ss) sp) si) st) sd) hc) H<|m1 J) sa) G) h1) h2<|m1 O) s4) s5) s6) s7) s9) sb) se) sf) sg) sh,z⟩
 refine Wk<|Ws<|Rw z<|Ws<|R z (lN (vs:=[sl ar au av]) v_ u_ z z fid<|(((((((cA.e s7).e s9).e sb).e se).e sf).e sg).e sh).row 0 1 z)<|Rm z ?_
 have bi:∀k∈dS,¬B k:=or0 a0<|m_ cb;have cU:=lt_ (lt_ cQ sg.s) sh.s;obtain ⟨_,_,ey,dr⟩:=a_n<|ifF bG aO;refine E z (fc call14 z<|W_w3z ey (zt' I cU) ((((((cI.e s9).e sb).e se).e sf).e sg).e sh) dT bi<|ii z) ?_;rintro _ _ ⟨sj,_,rfl,ez,_,_,_⟩;refine Rw z<|Wm z<|Rm z ?_
 have bj:∀k∈e1,¬B k:=or0 L<|m_ cg;have cV:=lt_ cU sj.s;obtain ⟨_,_,eA,dt⟩:=a_n dr;refine E z (fc call15 z<|g_S eA (zt' I cV) (((((cL.e se).e sf).e sg).e sh).c sj<|a_4 L (a_.lt a3) cn) e2 bj ez) ?_;rintro _ _ ⟨sm,_,rfl,eB,_,_,_⟩;refine Rw z<|Ws<|R z (lN (vs:=[vI aw.number,sl ay az aA,sl aB aC aD]) l_ c_ z z fid<|((((cM.e sg).e sh).c sj<|atp co).c sm<|atp cq).row 0 3 z)<|Rm z ?_
 have bk:∀k∈e4,¬B k:=or0 (al_ h3)<|m_ b0;have bm:∀k∈e5,¬B k:=or0 (ar_ h3)<|m_ b0;have cW:=lt_ cV sm.s;obtain ⟨eC,_,_,eD,du⟩:=a_3 dt;refine E z (fc call16 z<|W_w40 eD (zt' I cW) b3 (((cR.e sh).c sj<|a_4 (al_ h3) (a_.lt a3) b5).c sm<|a_4 (al_ h3) (a_.lt ab) lr) (nl_ b4) bk (((cS.e sh).c sj<|a_4 (ar_ h3) (a_.lt a3) b5).c sm<|a_4 (ar_ h3) (a_.lt ab) lr) (nr_ b4) bm (ds<|nj b4) eB) ?_;rintro _ bn ⟨sv,_,_,rfl,_,_,_,_,_,_,_⟩;refine Rw z<|Wq<|Wq ?_
 obtain ⟨eE,bH,bI⟩:=bdS du;refine Wt (fun a w=>∃(bo:Bool),bo=eE/\Sat 148 [(1,sl A8 N8 C8),(2,Str.v x3),(4,pt w0.z),(7,pt aq.z),(10,sl c6 c7 c8),(11,vB ap),(15,sl b8 b9 ba),(108,vB bo)] a/\Below bn.z bn w) ?_ ?_
 ·refine Wg<|Rm z<|Rl z z z<|Rm z ?_
  rcases bs (decide<|eC<0) with a2 | a2
  ·iterate 4 refine Nh z a2 ?_
   exact R z (pT z a2 z)<|Rm z<|Nh z z<|Nh z z<|Nh z z<|R z (pT z z z)<|Wl (fun _ q=>⟨true,som<|ifT bH a2,q.k<|s8 z z z z z z z z,br bn⟩)
  refine Rh z a2 (mv z)<|Rh z a2 (mv z) ?_
  have cX:=lt_ (lt_ sd.s hc.s) H.s;have bp:=lt_ cX sa.s;have cY:=lt_ bp G.s;obtain ⟨eF,eG,bJ⟩:=bdS<|ifF bH a2;refine Eg z z a2 z (fc call11 z<|f_H (B:=aE.z) eG (a_I<|lt_ (lt_ (lt_ (lt_ (lt_ (lt_ (lt_ (lt_ (lt_ (lt_ (lt_ s5.s s6.s) s7.s) s9.s) sb.s) se.s) sf.s) sg.s) sh.s) sj.s) sm.s) sv.s) (or_ ((((((((((((aF.e s5).e s6).e s7).e s9).e sb).e se).e sf).e sg).e sh).c sj<|a_4 hu (a_.lt a3) be).c sm<|a_4 hu (a_.lt ab) bf).c sv<|nmA (a_4 hu (a_.lt af) ai)<|a_4 hu (a_.lt ah) ai)<|a_.lt aF)<|repS.mono (or_ ((((((((((((((((((((hk.e sd).e hc).c H<|ds<|mno (a_.lt hk) sd.s).e sa).e G).e h1).c h2<|ds<|mno (a_.lt hk) cY).e s4).e s5).e s6).e s7).e s9).e sb).e se).e sf).e sg).e sh).c sj<|ds<|a_4 a0 (a_.lt hk) lr).c sm<|ds<|a_4 L (a_.lt hk) cX).c sv<|nmA (ds<|a_4 (al_ h3) (a_.lt hk) bp)<|ds<|a_4 (ar_ h3) (a_.lt hk) bp)<|a_.lt hk)<|a_I<|lt_ (lt_ (lt_ cY h1.s) h2.s) s4.s) ?_;rintro _ _ ⟨cZ,rfl⟩;refine Rh z a2 (not_ z)<|R z (pF z a2 z)<|Rm z ?_
  rcases bs (!eF) with a5 | a5
  ·iterate 3 refine Nh z a5 ?_
   exact R z (pT z a5 z)<|Wl (fun _ q=>⟨true,som<|ifT bJ a5,q.k<|s8 z z z z z z z z,cZ⟩)
  exact Rh z a5 (mv z)<|Rh z a5 (mv z)<|Rh z a5 (i_e d_4 z z)<|R z (pF z a5 z)<|Wl (fun _ q=>⟨b7 != ap,som<|ifF bJ a5,q.k<|s8 z z z z z z z z,cZ⟩)
 rintro eH _ ⟨bo,rfl,_,sx⟩;revert eH;refine Wo<|Wc z (fun aP=>?_) (fun aP=>?_)
 ·refine Ws<|Rw z ?_
  obtain rfl:=som<|ifT bI aP;exact Wr<|d_ hr z ⟨bup (bM (bM (bM (bup (bup (bup (bup (bup (bup (bup (bup (bup (bup (bM (bup (bup (bup (bM (bup (bup (bup (bup (bup (bup (bup (bup (bup (bup hn hl) so) sq) sr) ss) sp) si) st) sd) hc) H<|m1 J) sa) G) h1) h2<|m1 O) s4) s5) s6) s7) s9) sb) se) sf) sg) sh) sj<|h_ a0 a7) sm<|h_ L a8) sv<|aa_ (h_ (al_ h3) hw)<|h_ (ar_ h3) hw) sx,z⟩
 refine Wk<|Ws<|Rw z<|Wm z<|Rm z ?_
 have bq:∀k∈e9,¬B k:=or0 hu<|m_<|zt' I ad;have d0:=lt_ (lt_ cW sv.s) sx.s;obtain ⟨eI,_,eJ,dv⟩:=a_n<|ifF bI aP;refine E z (fc call15 z<|g_S eJ (zt' I d0) (((((((((((((aF.e s5).e s6).e s7).e s9).e sb).e se).e sf).e sg).e sh).c sj<|a_4 hu (a_.lt a3) be).c sm<|a_4 hu (a_.lt ab) bf).c sv<|nmA (a_4 hu (a_.lt af) ai)<|a_4 hu (a_.lt ah) ai).e sx) ea bq<|ii z) ?_;rintro _ d1 ⟨V,_,rfl,_,bt,_,_⟩;refine Rw z<|Ws<|Rw z<|Wm z<|Rm z ?_
 obtain ⟨_,eK,bK⟩:=bdS dv;refine E z (fc call17 z<|W_w25 (B:=d1.z) eK zr (a_.rep bt)<|ii z) ?_;rintro _ _ ⟨sy,rfl,_⟩;refine Rw z<|Wq<|Wm z<|Rl z z z<|Wx z (fun aQ=>?_) (fun aQ=>?_)
 ·refine Ws<|Rw z ?_
  obtain rfl:=som<|ifT bK aQ;exact Wr<|d_ hr z ⟨bup (bM (bup (bM (bM (bM (bup (bup (bup (bup (bup (bup (bup (bup (bup (bup (bM (bup (bup (bup (bM (bup (bup (bup (bup (bup (bup (bup (bup (bup (bup hn hl) so) sq) sr) ss) sp) si) st) sd) hc) H<|m1 J) sa) G) h1) h2<|m1 O) s4) s5) s6) s7) s9) sb) se) sf) sg) sh) sj<|h_ a0 a7) sm<|h_ L a8) sv<|aa_ (h_ (al_ h3) hw)<|h_ (ar_ h3) hw) sx) V<|h_ hu ad) sy,z⟩
 have bL:=ifF bK aQ;refine Wk<|Wq<|Wm z<|Rm z<|R z (nq z z)<|Wx z (fun aR=>?_) (fun aR=>?_)
 ·refine Ws<|Rw z ?_
  obtain rfl:=som<|ifT bL aR;exact Wr<|d_ hr z ⟨bup (bM (bup (bM (bM (bM (bup (bup (bup (bup (bup (bup (bup (bup (bup (bup (bM (bup (bup (bup (bM (bup (bup (bup (bup (bup (bup (bup (bup (bup (bup hn hl) so) sq) sr) ss) sp) si) st) sd) hc) H<|m1 J) sa) G) h1) h2<|m1 O) s4) s5) s6) s7) s9) sb) se) sf) sg) sh) sj<|h_ a0 a7) sm<|h_ L a8) sv<|aa_ (h_ (al_ h3) hw)<|h_ (ar_ h3) hw) sx) V<|h_ hu ad) sy,z⟩
 refine Wk<|Wq (Wd (X:=noX) 0 (.rd 0<|.rd 2<|.rd 4<|.rd 5<|.ef 1<|.ef 3<|.ef 6<|.ef 7<|.rd 8<|.rd 9<|.rd 10<|.rd 11<|.rd 12 .done) mo (by kernel_rfl) fun f2 W _=>?_)
 refine dR z z (lN (vs:=[sl A0 N0 C0]) g_24 z_24 z z fid<|((((((((((((((cF.e s7).e s9).e sb).e se).e sf).e sg).e sh).c sj<|djs<|n_ a0 a9.lt cB).c sm<|djs<|n_ L a9.lt cD).c sv<|atp<|nmA (ds<|n_ (al_ h3) a9.lt bc)<|ds<|n_ (ar_ h3) a9.lt bc).e sx).c V<|djs<|n_ hu a9.lt<|lt_ (lt_ cE h1.s) h2.s).e sy).e W).row 0 1 z)<|dM z z z<|dM z z z ?_
 refine dR z z (lN (vs:=[vI x4.number,sl AH NH CH,sl AI NI CI]) e_Z d_y z z fid<|(((((((((cP.e sg).e sh).c sj<|djs<|n_ a0 aa.lt ch).c sm<|djs<|n_ L aa.lt cN).c sv<|atp<|nmA (ds<|n_ (al_ h3) aa.lt bg)<|ds<|n_ (ar_ h3) aa.lt bg).e sx).c V<|djs<|n_ hu aa.lt<|lt_ (lt_ cO h1.s) h2.s).e sy).e W).row 0 3 z) ?_;have d2:=((((((((bh.e sg).e sh).c sj<|g_ bi).c sm<|g_ bj).c sv<|nmA (g_ bk)<|g_ bm).e sx).c V<|g_ bq).e sy).e W;have d3:=lt_ (lt_ (lt_ d0 V.s) sy.s) W.s;obtain ⟨_,eL,dw⟩:=bdS<|ifF bL aR;refine dE z z (fc call7 z<|i_G eL (zt' I d3)<|ak.g d2) (.inr fun _ _ h=>o_<|h.1) ?_;rintro _ _ ⟨a1,_,_,_,_,rfl,d4,_,_⟩;have d5:=d2.e a1;have d6:=lt_ d3 a1.s;obtain ⟨_,eM,dx⟩:=bdS dw;refine dE z z (fc call8 z<|f_F eM (zt' I d6)<|al.g d5) (.inr fun _ _ h=>o_<|h.1) ?_;rintro _ _ ⟨Y,_,_,_,_,rfl,d7,_,_⟩;have d8:=d5.e Y;have d9:=lt_ d6 Y.s;obtain ⟨_,eN,dy⟩:=bdS dx;refine dE z z (fc call9 z<|i_I.run eN (zt' I d9) am (an.g d8)<|ao.g d8) (.inr fun _ _ h=>o_<|h.1) ?_;rintro _ eO ⟨sz,_,_,_,_,_,_,_,_,rfl,eP,eQ,eR,_,_⟩;obtain ⟨_,eS,eT,dz⟩:=a_n dy;refine dE z z (fc call10 z<|W_w20 (B:=eO.z) eT zr (((((((((((((((((((((cx.e s4).e s5).e s6).e s7).e s9).e sb).e se).e sf).e sg).e sh).c sj<|g_ bi).c sm<|g_ bj).c sv<|nmA (g_ bk)<|g_ bm).e sx).c V<|g_ bq).e sy).e W).e a1).e Y).e sz).mono<|zt' I<|lt_ d9 sz.s) (repS.mono (or_ ((d4.e Y).e sz)<|a_.lt d4)<|a_I<|lt_ Y.s sz.s) (repS.mono (or_ (d7.e sz)<|a_.lt d7)<|a_I sz.s) aG eP (a_.rep eQ)<|a_.rep eR) (.inr fun _ _ h=>o_<|h.1) ?_;rintro _ bu ⟨ae,_,_,_,_,rfl,eU,_,_⟩;refine dM z z z<|dR z z (ext_ z z)<|dR z z (ext_ z z)<|dQ z z z<|dQ z z z<|pD<|Wo<|Wq<|Wq ?_
 obtain ⟨eV,dA,bN⟩:=bdS dz;refine Wt (fun a w=>∃(bv:Bool),bv=eV/\Sat 148 [(15,sl b8 b9 ba),(18,vI eI),(139,vB bv)] a/\Below bu.z bu w) ?_ ?_
 ·refine Wg<|RM z z ?_
  have da:=lt_ (lt_ sd.s hc.s) H.s;have bw:=lt_ da sa.s;have db:=lt_ bw G.s;have dc:=lt_ (lt_ db h1.s) h2.s;obtain ⟨eW,eX,bO⟩:=bdS dA;refine E z (fc call11 z<|f_H (B:=bu.z) eX zr (a_.rep eU)<|repS.mono (or_ ((((((((((((((((((((((((((((hk.e sd).e hc).c H<|ds<|mno (a_.lt hk) sd.s).e sa).e G).e h1).c h2<|ds<|mno (a_.lt hk) db).e s4).e s5).e s6).e s7).e s9).e sb).e se).e sf).e sg).e sh).c sj<|ds<|a_4 a0 (a_.lt hk) lr).c sm<|ds<|a_4 L (a_.lt hk) da).c sv<|nmA (ds<|a_4 (al_ h3) (a_.lt hk) bw)<|ds<|a_4 (ar_ h3) (a_.lt hk) bw).e sx).c V<|ds<|a_4 hu (a_.lt hk) dc).e sy).e W).e a1).e Y).e sz).e ae)<|a_.lt hk)<|a_I<|lt_ (lt_ (lt_ (lt_ (lt_ (lt_ (lt_ (lt_ (lt_ (lt_ (lt_ (lt_ (lt_ (lt_ (lt_ (lt_ (lt_ (lt_ (lt_ (lt_ (lt_ dc s4.s) s5.s) s6.s) s7.s) s9.s) sb.s) se.s) sf.s) sg.s) sh.s) sj.s) sm.s) sv.s) sx.s) V.s) sy.s) W.s) a1.s) Y.s) sz.s) ae.s) ?_;rintro _ _ ⟨dd,rfl⟩;refine R z (not_ z)<|Rm z ?_
  rcases bs (!eW) with a6 | a6
  ·iterate 3 refine Nh z a6 ?_
   exact R z (pT z a6 z)<|Wl (fun _ q=>⟨true,som<|ifT bO a6,q.k<|s3 z z z,dd⟩)
  exact Rh z a6 (mv z)<|Rh z a6 (mv z)<|Rh z a6 (i_e d_4 z z)<|R z (pF z a6 z)<|Wl (fun _ q=>⟨eS != ap,som<|ifF bO a6,q.k<|s3 z z z,dd⟩)
 rintro eY _ ⟨bv,rfl,_,aj⟩;revert eY;refine Wo<|Wc z (fun aS=>?_) (fun aS=>?_)
 ·refine Ws<|Rw z ?_
  obtain rfl:=som<|ifT bN aS;exact Wr<|d_ hr z ⟨bup (bup (bup (bup (bup (bup (bup (bM (bup (bM (bM (bM (bup (bup (bup (bup (bup (bup (bup (bup (bup (bup (bM (bup (bup (bup (bM (bup (bup (bup (bup (bup (bup (bup (bup (bup (bup hn hl) so) sq) sr) ss) sp) si) st) sd) hc) H<|m1 J) sa) G) h1) h2<|m1 O) s4) s5) s6) s7) s9) sb) se) sf) sg) sh) sj<|h_ a0 a7) sm<|h_ L a8) sv<|aa_ (h_ (al_ h3) hw)<|h_ (ar_ h3) hw) sx) V<|h_ hu ad) sy) W) a1) Y) sz) ae) aj,z⟩
 refine Wk<|Ws<|Rw z<|Wm z<|Rm z ?_
 obtain ⟨_,eZ,bP⟩:=bdS<|ifF bN aS;refine E z (fc call17 z<|W_w25 (B:=d1.z) eZ (a_I<|lt_ (lt_ (lt_ (lt_ (lt_ (lt_ sy.s W.s) a1.s) Y.s) sz.s) ae.s) aj.s) (or_ (((((((bt.e sy).e W).e a1).e Y).e sz).e ae).e aj)<|a_.lt bt)<|ii z) ?_;rintro _ _ ⟨bx,rfl,_⟩;refine Rw z<|Wq<|Wm z<|Rl z z z<|Wx z (fun aT=>?_) (fun aT=>?_)
 ·refine Ws<|Rw z ?_
  obtain rfl:=som<|ifT bP aT;exact Wr<|d_ hr z ⟨bup (bup (bup (bup (bup (bup (bup (bup (bM (bup (bM (bM (bM (bup (bup (bup (bup (bup (bup (bup (bup (bup (bup (bM (bup (bup (bup (bM (bup (bup (bup (bup (bup (bup (bup (bup (bup (bup hn hl) so) sq) sr) ss) sp) si) st) sd) hc) H<|m1 J) sa) G) h1) h2<|m1 O) s4) s5) s6) s7) s9) sb) se) sf) sg) sh) sj<|h_ a0 a7) sm<|h_ L a8) sv<|aa_ (h_ (al_ h3) hw)<|h_ (ar_ h3) hw) sx) V<|h_ hu ad) sy) W) a1) Y) sz) ae) aj) bx,z⟩
 have bQ:=ifF bP aT;refine Wk<|Wq<|Wm z<|Rm z<|R z (nq z z)<|Wx z (fun aU=>?_) (fun aU=>?_)
 ·refine Ws<|Rw z ?_
  obtain rfl:=som<|ifT bQ aU;exact Wr<|d_ hr z ⟨bup (bup (bup (bup (bup (bup (bup (bup (bM (bup (bM (bM (bM (bup (bup (bup (bup (bup (bup (bup (bup (bup (bup (bM (bup (bup (bup (bM (bup (bup (bup (bup (bup (bup (bup (bup (bup (bup hn hl) so) sq) sr) ss) sp) si) st) sd) hc) H<|m1 J) sa) G) h1) h2<|m1 O) s4) s5) s6) s7) s9) sb) se) sf) sg) sh) sj<|h_ a0 a7) sm<|h_ L a8) sv<|aa_ (h_ (al_ h3) hw)<|h_ (ar_ h3) hw) sx) V<|h_ hu ad) sy) W) a1) Y) sz) ae) aj) bx,z⟩
 refine Wk<|Ws<|Rw z ?_
 obtain rfl:=som<|ifF bQ aU;exact Wr<|d_ hr z ⟨bup (bup (bup (bup (bup (bup (bup (bup (bM (bup (bM (bM (bM (bup (bup (bup (bup (bup (bup (bup (bup (bup (bup (bM (bup (bup (bup (bM (bup (bup (bup (bup (bup (bup (bup (bup (bup (bup hn hl) so) sq) sr) ss) sp) si) st) sd) hc) H<|m1 J) sa) G) h1) h2<|m1 O) s4) s5) s6) s7) s9) sb) se) sf) sg) sh) sj<|h_ a0 a7) sm<|h_ L a8) sv<|aa_ (h_ (al_ h3) hw)<|h_ (ar_ h3) hw) sx) V<|h_ hu ad) sy) W) a1) Y) sz) ae) aj) bx,z⟩
end Go.Vw
