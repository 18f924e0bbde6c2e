
import Derived.Test.YtnncfaaebnkcbaaGreatDoorVwRW1
set_option linter.unusedVariables false
namespace Go.Vw
open Go.RowKit Dat Go.Proofs
open Go.Proofs.Tryz
open Go.Vw renaming O_->Wq,a_b->Wg,WC.of_KC->Wo,a_0->Wl,b_F->Wc,b_E->Wr,f_q->Wu,g_8->pT,g_a->pF,g_t->fd,c_c->l1,b_5->lN,a_c->mv,a_y->asg,g_b->lnR,d_Z->lss,i_c->eql,d_6->ext_,j_n->bP,i_b->add_,g_7->inc_,d_7->not_,g_c->at_,b_e->fc,a_X->fs,c_v->fb,d_p->fa,j_g->sr,j_k->cr,j_l->cM,d_O->bM,j_9->iS,j_8->iA,j_b->br,b_3->oA,h_U->bs,ltge->lg,inor->io,i_d->nq,j_y->lnT,j_z->sb_,j_e->ar_,j_d->al_,j_f->ds,l_0->m1,j_i->nr_,j_h->nl_,h_V->aa_,all_nil->an_,d_H->Wb,h_R->u8,e_r->pD,g_1->We,h_Q->Wt,h_M->fS,f_Z->or_,i_8->Wf,h_Y->qL,f_g->Wd,j_o->fN,h_W->na_,j_j->nj,g_d->f0,j_m->rX,j_p->tl_,j_q->ic
variable {A0:Option Addr}{N0 C0:Nat}{B:Zone}{w0:World}{AD:Option Addr}{AC:Option Addr}{AE:Option Addr}{AF:Option Addr}{ND CD:Nat}{NC CC:Nat}{NE CE:Nat}{NF CF:Nat}{n:Nat}{A2:Option Addr}{A3:Option Addr}{A1:Option Addr}{A4:Option Addr}{N2 C2:Nat}{N3 C3:Nat}{N1 C1:Nat}{N4 C4:Nat}{A9:Option Addr}{N9 C9:Nat}{A8:Option Addr}{N8 C8:Nat}{A6:Option Addr}{A7:Option Addr}{N6 C6:Nat}{N7 C7:Nat}{AA:Option Addr}{AB:Option Addr}{NA CA:Nat}{NB CB:Nat}{AH:Option Addr}{AI:Option Addr}{NH CH:Nat}{NI CI:Nat}{A5:Option Addr}{N5 C5:Nat}{AG:Option Addr}{NG CG:Nat}
theorem W_w2s {x1:f_}{x2:Val}{x3:Str}{res:Val×Int×Bool}(hm:h_P n x1 x2 x3=some res)(W:B<=w0.z)(Y:repS w0 B (sl A0 N0 C0) x1.rules)(ap:inI x2.number)(aq:repS w0 B (sl AA NA CA) x2.bytes)(ar:repS w0 B (sl AB NB CB) x2.items)(b0:x3.b.length<=LEN):k_ prog 36 [(.agg #[sl A0 N0 C0]),.agg #[vI x2.number,sl AA NA CA,sl AB NB CB],Str.v x3] w0 (Q16 w0 B res):=by
 unfold h_P at hm
 refine goG func36 z z z fun fn hr=>Ws<|E z (fb z) ?_
 rintro _ G ⟨rfl,az⟩;have hf:=az.below;have aA:Blk G w0.z [sl A0 N0 C0]:=az.blk;refine E z (fb z) ?_;rintro _ wr ⟨rfl,aB⟩;have hl:=aB.below;have hn:Blk wr G.z [vI x2.number,sl AA NA CA,sl AB NB CB]:=aB.blk;refine E z (fa L_) ?_;rintro _ bj ⟨rfl,aC⟩;have he:=aC.below;have ht:Blk bj wr.z [vI 0,sl none 0 0,sl none 0 0]:=aC.blk;refine Ra z<|Rw z<|Ws ?_
 have a8:=(aA.e hl).e he;refine R z (lN (vs:=[sl A0 N0 C0]) v_ u_ z z fid<|a8.row 0 1 z) ?_;have hx:=((hf.ag B).e hl).e he;have hy:=lt_ hf.s hl.s;have aD:=lt_ hy he.s;obtain ⟨bk,bm,b3⟩:=bdS hm;refine E z (fc call35 z<|g_O bm (zt' W aD)<|Y.g hx) ?_;rintro _ wz ⟨H,rfl,aE⟩;refine Rw z<|Wm z ?_
 have a0:=lt_ aD H.s;obtain ⟨_,bn,bo,b4⟩:=a_n b3;refine E z (fc call39 z<|W_w1k bo (zt' W a0) b0) ?_;rintro _ wk ⟨s2,aF,aG,aH,rfl,a1⟩;refine Rm z<|Re z z z<|Re z z z<|Ra z<|Rw z<|Wq<|Wq ?_
 obtain ⟨bp,au,av⟩:=bdS b4;refine Wt (fun a w=>∃(a9:Bool),a9=bp/\Sat 65 [(3,pt w0.z),(4,pt G.z),(6,pt wr.z),(9,vI bk),(10,sl aF aG aH),(29,vB a9)] a/\Below wk.z wk w) ?_ ?_
 ·refine Wg<|Rm z<|R z (not_ z)<|Rm z ?_
  rcases bs (!bn) with J | J
  ·iterate 5 refine Nh z J ?_
   exact R z (pT z J z)<|Wl (fun _ q=>⟨true,som<|ifT au J,q.k<|s6 z z z z z z,br wk⟩)
  refine Rh z J (lN (vs:=[sl A0 N0 C0]) v_ u_ z z fid<|((a8.e H).e s2).row 0 1 z)<|Rh z J (mv z)<|Rh z J (lN (vs:=[vI x2.number,sl AA NA CA,sl AB NB CB]) l_ c_ z z fid<|(((hn.e he).e H).e s2).row 0 3 z) ?_
  have ab:=(hx.e H).e s2;obtain ⟨bq,bt,b5⟩:=bdS<|ifF au J;refine Eg z z J z (fc call37 z<|k_y bt (zt' W<|lt_ a0 s2.s) (Y.g ab) aE ap (aq.g ab)<|ar.g ab) ?_;rintro _ _ ⟨bu,rfl⟩;exact Rh z J (not_ z)<|R z (pF z J z)<|Wl (fun _ q=>⟨!bq,som b5,q.k<|s6 z z z z z z,bu⟩)
 rintro bv I ⟨a9,rfl,_,s4⟩;revert bv;refine Wo<|Wc z (fun a5=>?_) (fun a5=>?_)
 ·refine Ws<|R z (bP (parts:=[]) (cs:=[vI 0,sl none 0 0,sl none 0 0]) J_ z z)<|E0 (fs0 (cur':=[vI 0,sl none 0 0,sl none 0 0]) c_ z z (((ht.e H).e s2).e s4) z z z z) ?_
  rintro _ _ ⟨bw,bx⟩;refine Ra z<|Rw z ?_
  obtain rfl:=som<|ifT av a5;exact Wr<|A_ hr (y_ l_ c_ z bw z) z z ⟨bM (bup (bup (bup (bup (bup hf hl) he) H) s2) s4) bx.one<|m1 hy,none,0,0,[],none,0,0,[],z,ii z,onL,onL,ii z,nd0,al0⟩
 refine Wk<|Wq<|Ws<|Rw z ?_
 obtain ⟨_,b6,aw⟩:=bdS<|ifF av a5;refine Wf (σ:=Int×Int×(List UInt8)×(List Val)) (ρ:=Val×Int×Bool) (fun (aI:Nat) s a w=>un4 (fun xg x5 xh xi=>∃L O V aa nb cc,Sat 65 [(3,pt w0.z),(4,pt G.z),(6,pt wr.z),(9,vI xg),(10,sl aF aG aH),(12,vI ((aI:Nat):Int))] a/\Chg (· ∈ [G.z]) I w/\inI xg/\inI x5/\repS w B (sl L O V) xh/\repS w B (sl aa nb cc) xi/\Blk w G.z [vI x5,sl L O V,sl aa nb cc]) s) (fun s a w=>un4 (fun xg x5 xh xi=>∃L O V aa nb cc,Sat 65 [(4,pt G.z),(6,pt wr.z),(9,vI xg)] a/\Chg (· ∈ [G.z]) I w/\inI xg/\inI x5/\repS w B (sl L O V) xh/\repS w B (sl aa nb cc) xi/\Blk w G.z [vI x5,sl L O V,sl aa nb cc]) s) (rQ prog fn<|Q16 w0 B) b6 ?_ ?_ ?_ ?_ ?_
 ·have aJ:=((hx.e H).e s2).e s4;exact fun _ q=>⟨AA,NA,CA,AB,NB,CB,q.k<|s6 z z z z z z,cr [G.z] I,aE,ap,aq.g aJ,ar.g aJ,(((hn.e he).e H).e s2).e s4⟩
 ·rintro aI ⟨xg,x5,xh,xi⟩ _ bz _ ax ⟨L,O,V,aa,nb,cc,b7,sm,hu,ho,hv,hp,hw⟩ b8;refine Wu ?_ b7;refine Wq<|Wm z<|Rm z ?_
  have a2:∀k∈[G.z],¬B k:=or0 (e_ lr)<|m_<|zt' W hf.s;have aK:=(s4.ag<|zn B wz.z wk.z).c sm<|g_ ((b_p a2 (e_ hn.lt)<|lt_ he.s H.s):∀k∈[G.z],¬(zn B wz.z wk.z) k)
  refine R z (lnR Q_ z<|a1.g aK)<|Rl z z z<|Wx z (fun _=>?_) (fun hc=>(U_ ax hc).elim)
  refine Wk<|Wq<|Wb<|Wq (Wd (X:=noX) 0 (pl_ 9 [7]) mo (by kernel_rfl) fun bA sd _=>?_)
  have aL:=((((a8.e H).e s2).e s4).c sm<|djs<|mmr aA.lt).e sd;refine dR z z (lN (vs:=[sl A0 N0 C0]) v_ u_ z z fid<|aL.row 0 1 z)<|dM z z z ?_
  have aM:=hw.e sd;refine dR z z (lN (vs:=[vI x5,sl L O V,sl aa nb cc]) l_ c_ z z fid<|aM.row 0 3 z)<|dM z z z<|dM z z z ?_
  obtain ⟨_,bB,b9⟩:=bdS<|un4S b8;refine dRX z z (at_ (α:=Str) Q_ z_9 z z z (a1.g<|aK.e sd) bB) ?_;rintro _ ⟨_,_,_,rfl,bC,bD,_⟩;obtain ⟨rfl,bE⟩:=b_9 bD;refine dR z z (l0 g_9 z<|bC.at0 z) ?_;have aN:=((((hx.e H).e s2).e s4).c sm<|g_ a2).e sd;have aO:=lt_ (lt_ (lt_ (lt_ a0 s2.s) s4.s) sm.s) sd.s;obtain ⟨_,bF,ay⟩:=bdS b9;refine dE z z (fc call59 z<|W_w1m (B:=B) (x3:=(⟨x5,xh,xi⟩:Val)) bF (zt' W aO) (Y.g aN) hu ho (hv.e sd) (hp.e sd) bE) (.inr fun _ _ h=>o_<|h.1) ?_;rintro _ bG ⟨sj,rfl,bH⟩;refine dQ z z z<|pD<|Wo<|Wq<|Wm z<|Rl z z z<|Wx z (fun a6=>?_) (fun a6=>?_)
  ·refine Ws<|R z (bP (parts:=[]) (cs:=[vI 0,sl none 0 0,sl none 0 0]) J_ z z)<|E0 (fs0 (cur':=[vI 0,sl none 0 0,sl none 0 0]) c_ z z ((((((ht.e H).e s2).e s4).c sm<|atp<|mmr hn.lt).e sd).e sj) z z z z) ?_
   rintro _ _ ⟨bI,bJ⟩;exact Ra z<|Rw z<|Wr<|rtO<|qL (som<|ifT ay a6).symm<|A_ hr (y_ l_ c_ z bI z) z z ⟨bM (bup (bup (bM (bup (bup (bup (bup (bup hf hl) he) H) s2) s4) sm<|m1 hf.s) sd) sj) bJ.one<|m1 hy,none,0,0,[],none,0,0,[],z,ii z,onL,onL,ii z,nd0,al0⟩
  refine Wk<|Wq (Wd (X:=noX) 0 (pl_ 10 [8]) mo (by kernel_rfl) fun bK sq _=>dR z z (fd a_d z)<|dR z z (l0 a_g z<|((aL.e sj).e sq).at z)<|dM z z z ?_)
  obtain ⟨bL,bN,ba⟩:=bdS<|ifF ay a6;refine dRX z z (at_ (α:=b_) P_ r_ z z z (Y.g<|(aN.e sj).e sq) bN) ?_;rintro _ ⟨_,_,_,rfl,bO,bQ,_⟩;obtain ⟨bR,bS,bT,bU,bV,bW,bX,bY,bZ,c0,c1,c2,rfl,c3,c4,c5,c6,c7,c8,ca⟩:=a_A bQ;refine dR z z (lN (vs:=vR bL bR bS bT bU bV bW bX bY bZ c0 c1 c2) G_ r_ z z fid bO)<|dR z z (fd a_M z) ?_
  have aP:=(aM.e sj).e sq;refine dR z z (l0 g_3 z<|aP.at z)<|dM z z z ?_
  obtain ⟨cb,cd,bb⟩:=bdS ba;refine dE z z (fc call60 z<|e_d cd (zt' W<|lt_ (lt_ aO sj.s) sq.s) c3 c4 c5 c6 c7 c8 ca ho bH) (.inr fun _ _ h=>o_<|h.1) ?_;rintro _ ce ⟨ad,rfl,cf⟩;refine dQ z z z<|pD<|Wo<|Wg<|Rf z Y_ z ?_
  have aQ:=aP.e ad;refine R z (l0 a_6 z<|aQ.at z)<|Rm z ?_
  obtain ⟨xs,cg,bc⟩:=bdS bb;refine RX z (at_ (α:=Val) Z_ c_ z z z (hp.g<|(((sd.ag B).e sj).e sq).e ad) cg) ?_;rintro _ ⟨_,_,_,rfl,ch,ci,_⟩;obtain ⟨ae,af,ah,ai,aj,ak,rfl,cj,ck,cl⟩:=c_a ci;refine R z (lN (vs:=[vI xs.number,sl ae af ah,sl ai aj ak]) l_ c_ z z fid ch)<|E0 (fs0 (cur':=[vI xs.number,sl ae af ah,sl ai aj ak]) c_ z z aQ z z z z) ?_
  rintro _ cm ⟨cn,co⟩;have al:=co.one;refine Wn<|Wg<|Rm z<|R z (inc_ ax (lt_ (repS.len a1) D_) z z)<|Ra z<|Wl ?_
  exact fun _ q=>⟨(cb,xs.number,xs.bytes,xs.items),(som bc).symm,⟨ae,af,ah,ai,aj,ak,q.k<|s6 z z z z z z,(cM (C_ (C_ (C_ (C_ (cM (cr [G.z] I) sm (io sr):Chg (· ∈ [G.z]) I bz) sd:Chg (· ∈ [G.z]) I bA) sj:Chg (· ∈ [G.z]) I bG) sq:Chg (· ∈ [G.z]) I bK) ad:Chg (· ∈ [G.z]) I ce) al (io sr):Chg (· ∈ [G.z]) I cm),cf,cj,ck.c al<|g_ a2,cl.c al<|g_ a2,cn⟩⟩
 ·rintro ⟨xg,x5,xh,xi⟩ _ cp ⟨L,O,V,aa,nb,cc,be,aR,hu,ho,hv,hp,hw⟩;refine Wu ?_ be;refine Wq<|Wm z<|Rm z ?_
  refine R z (lnR Q_ z<|a1.g<|(s4.ag<|zn B wz.z wk.z).c aR<|g_ ((b_p (or0 (e_ lr) (m_<|zt' W hf.s):∀k∈[G.z],¬B k) (e_ hn.lt)<|lt_ he.s H.s):∀k∈[G.z],¬(zn B wz.z wk.z) k))<|Rl z z z<|Wx z (fun hc=>(V_ hc).elim) (fun _=>?_)
  exact We<|fun _ q=>⟨rfl,⟨L,O,V,aa,nb,cc,q.k<|s3 z z z,(cM (cr [G.z] I) aR (io sr):Chg (· ∈ [G.z]) I cp),hu,ho,hv,hp,hw⟩⟩
 ·rintro ⟨xg,x5,xh,xi⟩ cq _ rfl ⟨L,O,V,aa,nb,cc,_,a3,hu,ho,hv,hp,hw⟩;have bf:=elL aw;revert cq;refine Wo<|Ws<|R z (lN (vs:=[vI x5,sl L O V,sl aa nb cc]) l_ c_ z z fid<|hw.row 0 3 z) ?_
  have am:=lt_ (lt_ (lt_ a0 s2.s) s4.s) a3.s;obtain ⟨ct,cu,bg⟩:=bdS<|un4S bf;refine E z (fc call38 z<|i_J.run (B:=B) (x1:=(⟨x5,xh,xi⟩:Val)) cu (zt' W am) ho hv hp) ?_;rintro _ _ ⟨aS,aT,aU,aV,cv,aW,aX,aY,cw,rfl,cx,cy,cz,an,a4⟩;refine Rm z<|E0 (fs0 (cur':=[vI ct.number,sl aT aU aV,sl aW aX aY]) c_ z z (((((ht.e H).e s2).e s4).c a3<|atp<|mmr hn.lt).e aS) z z z z) ?_
  rintro _ _ ⟨cA,cB⟩;have ao:=cB.one;refine Ra z<|Rw z ?_
  obtain rfl:=som bg;have aZ:=lt_ (lt_ (lt_ H.s s2.s) s4.s) a3.s;exact Wr<|A_ hr (y_ l_ c_ z cA z) z z ⟨bM (bup (bM (bup (bup (bup (bup (bup hf hl) he) H) s2) s4) a3<|m1 hf.s) aS) ao<|m1 hy,aT,aU,aV,cv,aW,aX,aY,cw,z,cx,cy.c ao<|n_ (al_ a4) ht.lt aZ,cz.c ao<|n_ (ar_ a4) ht.lt aZ,hu,na_ (nl_ an) (nr_ an)<|nj an,aa_ (h_ (al_ a4) am)<|h_ (ar_ a4) am⟩
 rintro _ _ _ _ rfl ⟨rfl,bh⟩;have bi:=elR aw;obtain rfl:=som bi;exact ⟨bh,z⟩
structure k_A (f:f_->Int->Val->(List Str)->Val->Option Val):Prop where
  run:∀{A0 A6 A7 AM AK AL:Option Addr}{N0 C0 N6 C6 N7 C7 NM CM NK CK NL CL:Nat}{B:Zone}{x1:f_}{x2:Int}{x3:Val}{x4:List Str}{x5:Val}{res:Val}{w0:World}(hm:f x1 x2 x3 x4 x5=some res)(hBw:B<=w0.z)(p1_0:repS w0 B (sl A0 N0 C0) x1.rules)(p2_0:inI x2)(p3_0:inI x3.number)(p3_1:repS w0 B (sl A6 N6 C6) x3.bytes)(p3_2:repS w0 B (sl A7 N7 C7) x3.items)(p4_0:repS w0 B (sl AM NM CM) x4)(p5_0:inI x5.number)(p5_1:repS w0 B (sl AK NK CK) x5.bytes)(p5_2:repS w0 B (sl AL NL CL) x5.items),k_ prog 40 [(.agg #[sl A0 N0 C0]),vI x2,.agg #[vI x3.number,sl A6 N6 C6,sl A7 N7 C7],sl AM NM CM,(.agg #[vI x5.number,sl AK NK CK,sl AL NL CL])] w0<|Q7 w0 B res
abbrev n_c (n:Nat):Prop:=k_A (d_S n).spec_l22Put
theorem T_w0i (b4:n_c n):k_A (e_D n<|d_S n):=by
 constructor
 intro A0 A6 A7 AM AK AL N0 C0 N6 C6 N7 C7 NM CM NK CK NL CL B x1 x2 x3 x4 x5 res w0 hm L O aR V aa W Y ab ad ae;unfold e_D at hm
 refine goG func40 z z z fun fn hr=>Ws<|E z (fb z) ?_
 rintro _ af ⟨rfl,ah⟩;have he:=ah.below;have ai:Blk af w0.z [sl A0 N0 C0]:=ah.blk;refine E z (fb z) ?_;rintro _ aj ⟨rfl,al⟩;have hc:=al.below;have am:Blk aj af.z [vI x3.number,sl A6 N6 C6,sl A7 N7 C7]:=al.blk;refine E z (fb z) ?_;rintro _ wx ⟨rfl,ao⟩;have J:=ao.below;have hy:Blk wx aj.z [vI x5.number,sl AK NK CK,sl AL NL CL]:=ao.blk;refine E z (fa L_) ?_;rintro _ b5 ⟨rfl,ap⟩;have G:=ap.below;have I:Blk b5 wx.z [vI 0,sl none 0 0,sl none 0 0]:=ap.blk;refine Wn<|Wq<|Wm z ?_
 have hd:=(((he.ag B).e hc).e J).e G;refine R z (lnR Q_ z<|Y.g hd)<|Rq z z z<|Wx z (fun hcz=>?_) (fun hcz=>?_)
 ·refine Ws<|R z (lN (vs:=[vI x5.number,sl AK NK CK,sl AL NL CL]) l_ c_ z z fid<|(hy.e G).row 0 3 z) ?_
  have aq:=lt_ (lt_ he.s hc.s) J.s;have a0:=lt_ aq G.s;obtain ⟨b6,b7,aS⟩:=bdS<|ifT hm hcz;refine E z (fc call38 z<|i_J.run b7 (zt' L a0) ab (ad.g hd)<|ae.g hd) ?_;rintro _ _ ⟨ar,au,av,aw,b8,ax,ay,az,b9,rfl,ba,bb,bc,a1,hi⟩;refine E0 (fs0 (cur':=[vI b6.number,sl au av aw,sl ax ay az]) c_ z z (I.e ar) z z z z) ?_;rintro _ _ ⟨be,bf⟩;have a2:=bf.one;refine Wn ?_;obtain rfl:=som aS;exact Wr<|d_ hr (y_ l_ c_ z be z) ⟨bM (bup (bup (bup (bup he hc) J) G) ar) a2<|m1 aq,au,av,aw,b8,ax,ay,az,b9,z,ba,bb.c a2<|n_ (al_ hi) I.lt lr,bc.c a2<|n_ (ar_ hi) I.lt lr,na_ (nl_ a1) (nr_ a1)<|nj a1,aa_ (h_ (al_ hi) a0)<|h_ (ar_ hi) a0⟩
 refine Wk<|Ws ?_
 have aA:=(am.e J).e G;refine R z (lN (vs:=[vI x3.number,sl A6 N6 C6,sl A7 N7 C7]) l_ c_ z z fid<|aA.row 0 3 z) ?_;have aB:=lt_ (lt_ he.s hc.s) J.s;have hj:=lt_ aB G.s;obtain ⟨a3,bg,aT⟩:=bdS<|ifF hm hcz;refine E z (fc call38 z<|i_J.run bg (zt' L hj) V (aa.g hd)<|W.g hd) ?_;rintro _ aC ⟨s1,ak,nl,cm,aD,an,no,cp,_,rfl,bh,hf,hq,ht,hu⟩;refine E z (fa L_) ?_;rintro _ bi ⟨rfl,aE⟩;have h6:=aE.below;refine E0 (fs0 (cur':=[vI a3.number,sl ak nl cm,sl an no cp]) c_ z z (aE.blk:Blk bi aC.z [vI 0,sl none 0 0,sl none 0 0]) z z z z) ?_;rintro _ _ ⟨bj,bk⟩;have H:=bk.one;refine Wn<|Wq (Wd (X:=noX) 0 (pl_ 8 [6]) mo (by kernel_rfl) fun ck s2 _=>?_)
 have aF:=((((((ai.e hc).e J).e G).e s1).e h6).c H<|djs<|mm1 ai.lt<|lt_ (lt_ (lt_ hc.s J.s) G.s) s1.s).e s2;refine dR z z (lN (vs:=[sl A0 N0 C0]) v_ u_ z z fid<|aF.row 0 1 z)<|dM z z z ?_
 have aG:=(((aA.e s1).e h6).c H<|djs<|mm1 am.lt<|lt_ (lt_ J.s G.s) s1.s).e s2;refine dR z z (lN (vs:=[vI x3.number,sl A6 N6 C6,sl A7 N7 C7]) l_ c_ z z fid<|aG.row 0 3 z)<|dM z z z ?_
 obtain ⟨_,bm,aU⟩:=bdS aT;have a4:=lt_ hj s1.s;have hg:=(((hd.e s1).e h6).c H<|g_ (or0 (e_ lr) (m_<|zt' L a4):∀k∈[aC.z],¬B k)).e s2;refine dRX z z (at_ (α:=Str) Q_ z_9 z z z (Y.g hg) bm) ?_;rintro _ ⟨_,_,_,rfl,bn,bo,_⟩;obtain ⟨rfl,bp⟩:=b_9 bo;refine dR z z (l0 g_9 z<|bn.at0 z) ?_;have aH:=lt_ (lt_ (lt_ a4 h6.s) H.s) s2.s;obtain ⟨_,bq,aV⟩:=bdS aU;refine dE z z (fc call59 z<|W_w1m bq (zt' L aH) (O.g hg) aR V (aa.g hg) (W.g hg) bp) (.inr fun _ _ h=>o_<|h.1) ?_;rintro _ _ ⟨s3,rfl,br⟩;refine dQ z z z<|pD<|Wo<|Wq (Wd (X:=noX) 8388608 (.rd 0<|.rd 1<|.rd 2<|.rd 3<|.rd 4<|.rd 5<|.rd 6<|.rd 7<|.rd 8<|.rd 9<|.rd 10<|.rd 11<|.rd 13<|.rd 14<|.rd 15<|.rd 16<|.rd 17<|.rd 18<|.rd 19<|.rd 20<|.ef 12<|.ef 21<|.rd 22<|.ef 23 .done) mo (by kernel_rfl) fun cl s4 _=>dR z z (fd Y_ z) ?_)
 have aI:=((bj.e s2).e s3).e s4;refine dR z z (l0 a_6 z<|aI.at z)<|dM z z z ?_
 have aJ:=(aF.e s3).e s4;refine dR z z (lN (vs:=[sl A0 N0 C0]) v_ u_ z z fid<|aJ.row 0 1 z)<|dR z z (fd a_d z)<|dR z z (l0 a_g z<|aJ.at z)<|dM z z z ?_
 obtain ⟨bs,bt,aW⟩:=bdS aV;have hv:=(hg.e s3).e s4;refine dRX z z (at_ (α:=b_) P_ r_ z z z (O.g hv) bt) ?_;rintro _ ⟨_,_,_,rfl,bu,bv,_⟩;obtain ⟨bw,bx,bz,bA,bB,bC,bD,bE,bF,bG,bH,bI,rfl,bJ,bK,bL,bN,bO,bP,bQ⟩:=a_A bv;refine dR z z (lN (vs:=vR bs bw bx bz bA bB bC bD bE bF bG bH bI) G_ r_ z z fid bu)<|dR z z (fd a_M z) ?_
 have aK:=(aG.e s3).e s4;refine dR z z (l0 g_3 z<|aK.at z)<|dM z z z<|dR z z (fd Y_ z)<|dR z z (l0 a_6 z<|aK.at z)<|dM z z z ?_
 obtain ⟨bR,bS,aX⟩:=bdS aW;refine dRX z z (at_ (α:=Val) Z_ c_ z z z (W.g hv) bS) ?_;rintro _ ⟨_,_,_,rfl,bT,bU,_⟩;obtain ⟨bV,bW,bX,bY,bZ,c0,rfl,c1,c2,c3⟩:=c_a bU;refine dR z z (lN (vs:=[vI bR.number,sl bV bW bX,sl bY bZ c0]) l_ c_ z z fid bT)<|dM z z z ?_
 obtain ⟨_,c4,aY⟩:=bdS aX;refine dRX z z (rX Q_ z_9 z z (Y.g hv) z z c4) ?_;rintro _ ⟨_,_,_,rfl,c5⟩;refine dR z z (lN (vs:=[vI x5.number,sl AK NK CK,sl AL NL CL]) l_ c_ z z fid<|(((((((hy.e G).e s1).e h6).c H<|djs<|mm1 hy.lt<|lt_ G.s s1.s).e s2).e s3).e s4).row 0 3 z) ?_;have aL:=lt_ (lt_ aH s3.s) s4.s;obtain ⟨_,c6,aZ⟩:=bdS aY;refine dE z z (fc call60 z<|e_d c6 (zt' L aL) bJ bK bL bN bO bP bQ V br) (.inr fun _ _ h=>o_<|h.1) ?_;rintro _ _ ⟨s5,rfl,c7⟩;have a5:=hv.e s5;have hw:=lt_ aL s5.s;obtain ⟨c8,c9,b0⟩:=bdS aZ;refine dE z z (fc call40 z<|b4.run c9 (zt' L hw) (O.g a5) c7 c1 (c2.e s5) (c3.e s5) (c5.e s5) ab (ad.g a5)<|ae.g a5) (.inr fun _ _ h=>o_<|h.1) ?_;rintro _ _ ⟨sa,_,_,_,ca,_,_,_,cb,rfl,cc,cd,ce,a6,hb⟩;obtain ⟨_,aM,b3⟩:=bdS b0;have aN:=mnr<|a_.lt hq
 have aO:=((((((hq.e h6).c H<|ds aN).e s2).e s3).e s4).e s5).e sa;refine dRX z z (b_P (α:=Val) Z_ c_ z z aO aM) ?_;rintro _ ⟨_,cf,rfl⟩;have hh:=lt_ (lt_ (lt_ (lt_ (lt_ h6.s H.s) s2.s) s3.s) s4.s) s5.s;refine dE0 z (b_Q (α:=Val) c_ z cf z z z aM aO (nr_ ht) (c_k (x:=c8) (S1:=ca) (S2:=cb) cc cd ce) (aa_ (a_4 (al_ hb) (a_.lt hq) hh)<|a_4 (ar_ hb) (a_.lt hq) hh)<|na_ (nl_ a6) (nr_ a6)<|nj a6) (.inl z) ?_;rintro _ _ ⟨Sr,ss,cg,ch,a7⟩;refine pD<|Wo<|Ws<|R z (lN (vs:=[vI a3.number,sl ak nl cm,sl an no cp]) l_ c_ z z fid<|(((aI.e s5).e sa).c ss<|atp aN).row 0 3 z) ?_
 have aP:=n_ (ar_ hu) I.lt lr;refine E0 (fs0 (cur':=[vI a3.number,sl ak nl cm,sl an no cp]) c_ z z (((((((((I.e s1).e h6).c H<|djs<|mm1 I.lt s1.s).e s2).e s3).e s4).e s5).e sa).c ss<|djs aP) z z z z) ?_;rintro _ _ ⟨ci,cj⟩;have a8:=cj.one;refine Wn ?_;obtain rfl:=som b3;have a9:=lt_ (lt_ (lt_ (lt_ (lt_ (lt_ s1.s h6.s) H.s) s2.s) s3.s) s4.s) s5.s;have aQ:=h_ (ar_ hu) hj;exact Wr<|d_ hr (y_ l_ c_ z ci z) ⟨bM (bM (bup (bup (bup (bup (bup (bM (bup (bup (bup (bup (bup he hc) J) G) s1) h6) H<|m1 a4) s2) s3) s4) s5) sa) ss aQ) a8<|m1 aB,ak,nl,cm,aD,an,no,cp,Sr,z,bh,((((((((hf.e h6).c H<|ds<|mnr<|a_.lt hf).e s2).e s3).e s4).e s5).e sa).c ss<|nj ht).c a8<|n_ (al_ hu) I.lt lr,cg.c a8 (or2 a7 aP (aa_ (n_ (al_ hb) I.lt a9)<|n_ (ar_ hb) I.lt a9) (X_ (e_ I.lt)<|lt_ a9 sa.s):∀k∈Sr,k∉[wx.z]),na_ (nl_ ht) ch<|ds (or2 a7 (ds<|nj ht) (aa_ (a_4 (al_ hb) (a_.lt hf) hh)<|a_4 (ar_ hb) (a_.lt hf) hh) (X_ (a_.lt hf)<|lt_ hh sa.s):∀k∈Sr,k∉aD),aa_ (h_ (al_ hu) hj) (or2 a7 aQ (aa_ (h_ (al_ hb) hw)<|h_ (ar_ hb) hw) (b_4<|lt_ hw sa.s):∀k∈Sr,w0.z<=k)⟩
theorem A_w0i:∀n,n_c n
  | 0=>⟨fun hm=>by intros;exact nomatch (show none=some _ from hm)⟩
  | n+1=>T_w0i<|A_w0i n
theorem W_w0i:k_A (d_S n).spec_l22Put:=A_w0i n
def Q17 (w0:World)(B:Zone)(r:Val×Bool)(v:Value)(w':World):Prop:=Bw w0 w'/\un2 (fun G V=>∃H I J S1 a2 L O S2,v = .tuple #[(.agg #[vI G.number,sl H I J,sl a2 L O]),vB V]/\inI G.number/\a_ w' S1 (sl H I J) G.bytes/\a_ w' S2 (sl a2 L O) G.items/\(S1++S2).Nodup/\(∀k∈(S1++S2),w0.z<=k)) r
theorem W_w2t {x1:f_}{x2:Val}{x3:Str}{x4:Val}{res:Val×Bool}(hm:g_h n x1 x2 x3 x4=some res)(I:B<=w0.z)(L:repS w0 B (sl A0 N0 C0) x1.rules)(O:inI x2.number)(V:repS w0 B (sl AA NA CA) x2.bytes)(W:repS w0 B (sl AB NB CB) x2.items)(a3:x3.b.length<=LEN)(a4:inI x4.number)(a5:repS w0 B (sl AH NH CH) x4.bytes)(a6:repS w0 B (sl AI NI CI) x4.items):k_ prog 22 [(.agg #[sl A0 N0 C0]),.agg #[vI x2.number,sl AA NA CA,sl AB NB CB],Str.v x3,(.agg #[vI x4.number,sl AH NH CH,sl AI NI CI])] w0 (Q17 w0 B res):=by
 unfold g_h at hm
 refine goG func22 z z z fun fn hr=>Ws<|E z (fb z) ?_
 rintro _ wk ⟨rfl,a9⟩;have he:=a9.below;have hl:Blk wk w0.z [sl A0 N0 C0]:=a9.blk;refine E z (fb z) ?_;rintro _ wm ⟨rfl,aa⟩;have ha:=aa.below;have hn:Blk wm wk.z [vI x2.number,sl AA NA CA,sl AB NB CB]:=aa.blk;refine E z (fb z) ?_;rintro _ wo ⟨rfl,ab⟩;have h6:=ab.below;have hf:Blk wo wm.z [vI x4.number,sl AH NH CH,sl AI NI CI]:=ab.blk;refine E z (fa L_) ?_;rintro _ aM ⟨rfl,ad⟩;have h3:=ad.below;have J:Blk aM wo.z [vI 0,sl none 0 0,sl none 0 0]:=ad.blk;refine Rw z<|Ws ?_
 have hp:=((hl.e ha).e h6).e h3;refine R z (lN (vs:=[sl A0 N0 C0]) v_ u_ z z fid<|hp.row 0 1 z) ?_;have hq:=(hn.e h6).e h3;refine R z (lN (vs:=[vI x2.number,sl AA NA CA,sl AB NB CB]) l_ c_ z z fid<|hq.row 0 3 z)<|Rm z ?_
 have hc:=(((he.ag B).e ha).e h6).e h3;have ht:=lt_ (lt_ he.s ha.s) h6.s;have hg:=lt_ ht h3.s;obtain ⟨aN,_,aO,aP,aG⟩:=a_3 hm;refine E z (fc call36 z<|W_w2s aP (zt' I hg) (L.g hc) O (V.g hc) (W.g hc) a3) ?_;rintro _ wh ⟨G,aQ,aR,aS,_,aT,aU,aV,_,rfl,_,_,_,aW,_,_⟩;refine Rm z ?_
 iterate 3 refine Re z z z ?_
 refine E z (fa L_) ?_;rintro _ aX ⟨rfl,ae⟩;have h1:=ae.below;refine E0 (fs0 (cur':=[vI aN.number,sl aQ aR aS,sl aT aU aV]) c_ z z (ae.blk:Blk aX wh.z [vI 0,sl none 0 0,sl none 0 0]) z z z z) ?_;rintro _ wr ⟨_,aY⟩;have h2:=aY.one;refine Ra z<|Rw z<|Wq<|Wq ?_
 obtain ⟨aZ,a7,a8⟩:=bdS aG;refine Wt (fun a w=>∃(xs:Bool),xs=aZ/\Sat 46 [(2,Str.v x3),(4,pt w0.z),(5,pt wk.z),(7,pt wm.z),(8,pt wo.z),(31,vB xs)] a/\Below wr.z wr w) ?_ ?_
 ·refine Wg<|Rm z<|R z (not_ z)<|Rm z ?_
  rcases bs (!aO) with H | H
  ·iterate 5 refine Nh z H ?_
   exact R z (pT z H z)<|Wl (fun _ q=>⟨true,som<|ifT a7 H,q.k<|s6 z z z z z z,br wr⟩)
  refine Rh z H (lN (vs:=[sl A0 N0 C0]) v_ u_ z z fid<|(((hp.e G).e h1).c h2<|djs<|mm1 hl.lt<|lt_ (lt_ (lt_ ha.s h6.s) h3.s) G.s).row 0 1 z)<|Rh z H (mv z)<|Rh z H (lN (vs:=[vI x4.number,sl AH NH CH,sl AI NI CI]) l_ c_ z z fid<|((((hf.e h3).e G).e h1).c h2<|djs<|mm1 hf.lt<|lt_ h3.s G.s).row 0 3 z) ?_
  have af:=lt_ hg G.s;have hu:=((hc.e G).e h1).c h2<|g_ (or0 (e_ lr) (m_<|zt' I af):∀k∈[wh.z],¬B k)
  obtain ⟨b0,b3,aH⟩:=bdS<|ifF a7 H;refine Eg z z H z (fc call37 z<|k_y b3 (zt' I<|lt_ (lt_ af h1.s) h2.s) (L.g hu) aW a4 (a5.g hu)<|a6.g hu) ?_;rintro _ _ ⟨b4,rfl⟩;exact Rh z H (not_ z)<|R z (pF z H z)<|Wl (fun _ q=>⟨!b0,som aH,q.k<|s6 z z z z z z,b4⟩)
 rintro b5 ah ⟨xs,rfl,_,s4⟩;revert b5;refine Wo<|Wc z (fun hcv=>?_) (fun hcv=>?_)
 ·refine Ws<|R z (lN (vs:=[vI x2.number,sl AA NA CA,sl AB NB CB]) l_ c_ z z fid<|((((hq.e G).e h1).c h2<|djs<|mm1 hn.lt<|lt_ (lt_ h6.s h3.s) G.s).e s4).row 0 3 z) ?_
  have hw:=lt_ hg G.s;have ai:=(((hc.e G).e h1).c h2<|g_ (or0 (e_ lr) (m_<|zt' I hw):∀k∈[wh.z],¬B k)).e s4;have hx:=lt_ (lt_ (lt_ hw h1.s) h2.s) s4.s;obtain ⟨b6,b7,aI⟩:=bdS<|ifT a8 hcv;refine E z (fc call38 z<|i_J.run b7 (zt' I hx) O (V.g ai)<|W.g ai) ?_;rintro _ _ ⟨aj,ak,al,am,b8,an,ao,ap,b9,rfl,ba,bb,bc,hy,hi⟩;refine E0 (fs0 (cur':=[vI b6.number,sl ak al am,sl an ao ap]) c_ z z (((((J.e G).e h1).c h2<|djs<|mm1 J.lt G.s).e s4).e aj) z z z z) ?_;rintro _ _ ⟨be,bf⟩;have hz:=bf.one;refine Rw z ?_
  obtain rfl:=som aI;have aq:=lt_ (lt_ (lt_ G.s h1.s) h2.s) s4.s;exact Wr<|a_9 hr (y_ l_ c_ z be z) z ⟨bM (bup (bup (bM (bup (bup (bup (bup (bup he ha) h6) h3) G) h1) h2<|m1 hw) s4) aj) hz<|m1 ht,ak,al,am,b8,an,ao,ap,b9,z,ba,bb.c hz<|n_ (al_ hi) J.lt aq,bc.c hz<|n_ (ar_ hi) J.lt aq,na_ (nl_ hy) (nr_ hy)<|nj hy,aa_ (h_ (al_ hi) hx)<|h_ (ar_ hi) hx⟩
 refine Wk<|Wm z ?_
 have Y:=lt_ hg G.s;have ar:=lt_ (lt_ (lt_ Y h1.s) h2.s) s4.s;obtain ⟨_,_,bg,aJ⟩:=a_n<|ifF a8 hcv;refine E z (fc call39 z<|W_w1k bg (zt' I ar) a3) ?_;rintro _ au ⟨s9,_,_,_,rfl,bh⟩;refine Rm z<|Re z z z<|Re z z z<|Ra z<|Rw z<|Wq (Wd (X:=noX) 128 (.rd 0<|.rd 1<|.rd 3<|.rd 4<|.rd 5<|.ef 2<|.ef 6<|.ef 7<|.rd 8 .done) mo (by kernel_rfl) fun bw s7 _=>?_)
 have av:=(((((hp.e G).e h1).c h2<|djs<|mm1 hl.lt<|lt_ (lt_ (lt_ ha.s h6.s) h3.s) G.s).e s4).e s9).e s7;refine dR z z (lN (vs:=[sl A0 N0 C0]) v_ u_ z z fid<|av.row 0 1 z)<|dR z z (lN (vs:=[sl A0 N0 C0]) v_ u_ z z fid<|av.row 0 1 z)<|dR z z (lN (vs:=[vI x2.number,sl AA NA CA,sl AB NB CB]) l_ c_ z z fid<|((((((hq.e G).e h1).c h2<|djs<|mm1 hn.lt<|lt_ (lt_ h6.s h3.s) G.s).e s4).e s9).e s7).row 0 3 z)<|dM z z z<|dR z z (lN (vs:=[vI x4.number,sl AH NH CH,sl AI NI CI]) l_ c_ z z fid<|(((((((hf.e h3).e G).e h1).c h2<|djs<|mm1 hf.lt<|lt_ h3.s G.s).e s4).e s9).e s7).row 0 3 z) ?_
 have aw:=(((((hc.e G).e h1).c h2<|g_ (or0 (e_ lr) (m_<|zt' I Y):∀k∈[wh.z],¬B k)).e s4).e s9).e s7;have ax:=lt_ (lt_ ar s9.s) s7.s;obtain ⟨_,bi,aK⟩:=bdS aJ;refine dE z z (fc call35 z<|g_O bi (zt' I ax)<|L.g aw) (.inr fun _ _ h=>o_<|h.1) ?_;rintro _ _ ⟨sb,rfl,bj⟩;have hd:=aw.e sb;have a0:=lt_ ax sb.s;obtain ⟨bk,bm,aL⟩:=bdS aK;refine dE z z (fc call40 z<|W_w0i.run (B:=zn B ah.z au.z) bm (c_A (zt' I a0)<|lt_ s7.s sb.s) (repS.mono (L.g hd) b_x) bj O (repS.mono (V.g hd) b_x) (repS.mono (W.g hd) b_x) (bh.g<|(s7.ag<|zn B ah.z au.z).e sb) a4 (repS.mono (a5.g hd) b_x)<|repS.mono (a6.g hd) b_x) (.inr fun _ _ h=>o_<|h.1) ?_;rintro _ _ ⟨ay,az,aA,aB,bn,aC,aD,aE,bo,rfl,bp,bq,bt,a1,hj⟩;refine dE0 z (fs0 (cur':=[vI bk.number,sl az aA aB,sl aC aD aE]) c_ z z ((((((((J.e G).e h1).c h2<|djs<|mm1 J.lt G.s).e s4).e s9).e s7).e sb).e ay) z z z z) (.inl z) ?_;rintro _ _ ⟨bu,bv⟩;have a2:=bv.one;refine dQ z z z<|pD<|Wo ?_
 obtain rfl:=som aL;have aF:=lt_ (lt_ (lt_ (lt_ (lt_ (lt_ G.s h1.s) h2.s) s4.s) s9.s) s7.s) sb.s;exact Wr<|a_9 hr (y_ l_ c_ z bu z) z ⟨bM (bup (bup (bup (bup (bup (bM (bup (bup (bup (bup (bup he ha) h6) h3) G) h1) h2<|m1 Y) s4) s9) s7) sb) ay) a2<|m1 ht,az,aA,aB,bn,aC,aD,aE,bo,z,bp,bq.c a2<|n_ (al_ hj) J.lt aF,bt.c a2<|n_ (ar_ hj) J.lt aF,na_ (nl_ a1) (nr_ a1)<|nj a1,aa_ (h_ (al_ hj) a0)<|h_ (ar_ hj) a0⟩
theorem W_w1n {x1:Int}{x2:Int}{res:(List UInt8)}(hm:f_d n x1 x2=some res)(W:B<=w0.z)(a0:inI x1)(Y:inI x2):k_ prog 126 [vI x1,vI x2] w0 (Q1 w0 B res):=by
 unfold f_d at hm
 refine goG func126 z z z fun fn hr=>Ws<|Rw z<|Ws<|E z (f0 (α:=UInt8) z_) ?_
 rintro _ wm ⟨ad,ne,cf,rfl,s7,hp⟩;refine Rw z<|Wq<|Wq ?_
 obtain ⟨af,a1,hmq⟩:=bdS hm;refine Wt (fun a w=>∃(xg:Bool),xg=af/\Sat 35 [(0,vI x1),(1,vI x2),(5,sl ad ne cf),(18,vB xg)] a/\Below wm.z wm w) ?_ ?_
 ·refine Wg<|Rm z ?_
  obtain ⟨ah,ai,hmr⟩:=bdS a1;refine E z (fc call57 z<|b_c ai (zt' W s7.s) Y (ii z)<|ii z) ?_;rintro _ _ ⟨sh,rfl⟩;refine R z (not_ z)<|Rm z ?_
  rcases bs (!ah) with I | I
  ·iterate 6 refine Nh z I ?_
   exact R z (pT z I z)<|Wl (fun _ q=>⟨true,som<|ifT hmr I,q.k<|s4 z z z z,sh⟩)
  refine Rh z I (mv z)<|Rh z I (mv z) ?_
  have ht:=lt_ s7.s sh.s;obtain ⟨_,aj,a2⟩:=bdS<|ifF hmr I;refine Eg z z I z (fc call122 z<|k_n aj (zt' W ht) Y) ?_;rintro _ _ ⟨ss,rfl,_⟩;refine Rh z I (sb_ z z) ?_;obtain ⟨ak,al,a4⟩:=bdS a2;refine Eg z z I z (fc call57 z<|b_c al (zt' W<|lt_ ht ss.s) a0 (ii z)<|iS _ _) ?_;rintro _ _ ⟨am,rfl⟩;exact Rh z I (not_ z)<|R z (pF z I z)<|Wl (fun _ q=>⟨!ak,som a4,q.k<|s4 z z z z,bup (bup sh ss) am⟩)
 rintro an G ⟨xg,rfl,_,s8⟩;revert an;refine Wo<|Wc z (fun hci=>?_) (fun hci=>?_)
 ·refine Wm z<|Rw z ?_
  obtain rfl:=som<|ifT hmq hci;exact Wr<|d_ hr z ⟨bup s7 s8,ad,ne,cf,[w0.z],z,hp.e s8,M_,e_ lr⟩
 refine Wk<|Wq<|Wm z<|R z (sb_ z z)<|Rw z ?_
 obtain ⟨_,a5,hmu⟩:=bdS<|ifF hmq hci;refine b_w (σ:=(List UInt8)×Int) (ρ:=List UInt8) (fun s a w=>un2 (fun V x6=>∃J L O H,Sat 35 [(0,vI x1),(5,sl J L O),(6,vI x6)] a/\Chg (· ∈ [w0.z]) G w/\a_ w H (sl J L O) V/\H.Nodup/\(∀k∈H,k∈[w0.z]∨G.z<=k)/\inI x6) s) (fun s a w=>un2 (fun V x6=>∃J L O H,Sat 35 [(5,sl J L O)] a/\Chg (· ∈ [w0.z]) G w/\a_ w H (sl J L O) V/\H.Nodup/\(∀k∈H,k∈[w0.z]∨G.z<=k)/\inI x6) s) (rQ prog fn<|Q1 w0 B) a5 ?_ ?_ ?_ ?_
 ·exact fun _ q=>⟨ad,ne,cf,[w0.z],q.k<|s3 z z z,cr [w0.z] G,hp.e s8,M_,io sr,iS _ _⟩
 ·rintro ⟨V,x6⟩ _ wj _ ⟨J,L,O,H,a6,sk,ha,hb,hc,hv⟩ a7;have hmw:=a_P a7;refine Wu ?_ a6;refine Wq<|Wm z<|R z (b_k z z)<|Wx z (fun hcl=>?_) (fun hcl=>?_)
  ·refine Wk<|Wq<|Wb<|Wg<|RM z z<|Rm z<|R z (e_M z z) ?_
   obtain ⟨_,ao,a8⟩:=bdS<|ifT hmw hcl;refine R z (l_P z z<|nnS ao)<|R z (c_Y d_3 d_5 z)<|E z (fS [(.tmp 31)] z_ z z z (a_Q z) (lb z)<|lb z) ?_
   rintro _ wx ⟨rfl,hn⟩;have ho:=hn.below;have aD:=b_a hn a_B;obtain ⟨ap,aq,a9⟩:=bdS a8;refine E z (b_g (α:=UInt8) z_ aq z z (ha.e ho) hb (hn.blk:Blk wx wj.z [(vU<|byteI<|mkB<|a_H .i64 x1<|a_m 8 x6)]) a_B an_ a_2) ?_;rintro _ ar ⟨Sy,au,av,aw,rfl,ax,ay,az,aA⟩;refine Rw z<|Wg<|Rm z<|R z (sb_ z z)<|Ra z<|Wl ?_
   have hz:∀k∈H,k∈[w0.z]∨G.z<=k:=or1 hc (io sr)<|j_ lr;exact fun _ q=>⟨(ap,q_ x6 1),(som a9).symm,⟨au,av,aw,Sy,q.k<|s3 z z z,(cM (C_ (cM (cr [w0.z] G) sk (io sr):Chg (· ∈ [w0.z]) G wj) ho:Chg (· ∈ [w0.z]) G wx) ax hz:Chg (· ∈ [w0.z]) G ar),ay,az,(or2 aA hz an_ (j_<|lt_ sk.s ho.s):∀k∈Sy,k∈[w0.z]∨G.z<=k),iS _ _⟩⟩
  exact We<|fun _ q=>b_h (som<|ifF hmw hcl).symm ⟨J,L,O,H,q.k<|s1 z,(cM (cr [w0.z] G) sk (io sr):Chg (· ∈ [w0.z]) G wj),ha,hb,(or1 hc (io sr) (j_ lr):∀k∈H,k∈[w0.z]∨G.z<=k),hv⟩
 ·rintro ⟨V,x6⟩ aB _ rfl ⟨J,L,O,H,_,aC,ha,hb,hc,hv⟩;have aa:=elL hmu;revert aB;refine Wo<|Wm z<|Rw z ?_
  obtain rfl:=som<|a_P aa;exact Wr<|d_ hr z ⟨bM (bup s7 s8) aC<|e_ lr,J,L,O,H,z,ha,hb,(or1 hc (e_ lr) (b_4<|lt_ s7.s s8.s):∀k∈H,w0.z<=k)⟩
 rintro _ _ _ _ rfl ⟨rfl,ab⟩;have ae:=elR hmu;obtain rfl:=som ae;exact ⟨ab,z⟩
theorem W_w2u {x1:Int}{x2:Int}{res:(List UInt8)}(hm:g_2 n x1 x2=some res)(aa:B<=w0.z)(Y:inI x1)(a0:inI x2):k_ prog 125 [vI x1,vI x2] w0 (Q1 w0 B res):=by
 unfold g_2 at hm
 refine goG func125 z z z fun fn hr=>Ws<|Rw z<|Wm z<|Rm z ?_
 obtain ⟨_,er,hms⟩:=bdS hm;refine E z (fc call126 z<|W_w1n (B:=B) er aa Y a0) ?_;rintro _ G ⟨sd,au,nt,cv,_,rfl,W,_,_⟩;refine Rw z<|Ws<|E z (f0 (α:=UInt8) z_) ?_
 rintro _ H ⟨aw,nx,cy,rfl,se,hz⟩;refine Rw z<|Wq<|Wm z ?_
 have hj:=W.e se;refine R z (lnR p_ z<|or_ hj<|a_.lt W)<|R z (sb_ z z)<|Rw z ?_
 obtain ⟨_,a1,hmk⟩:=bdS hms;refine b_w (σ:=(List UInt8)×Int) (ρ:=List UInt8) (fun s a w=>un2 (fun V x6=>∃J L O I,Sat 27 [(5,sl au nt cv),(6,sl J L O),(7,vI x6)] a/\Chg (· ∈ [G.z]) H w/\a_ w I (sl J L O) V/\I.Nodup/\(∀k∈I,k∈[G.z]∨H.z<=k)/\inI x6) s) (fun s a w=>un2 (fun V x6=>∃J L O I,Sat 27 [(6,sl J L O)] a/\Chg (· ∈ [G.z]) H w/\a_ w I (sl J L O) V/\I.Nodup/\(∀k∈I,k∈[G.z]∨H.z<=k)/\inI x6) s) (rQ prog fn<|Q1 w0 B) a1 ?_ ?_ ?_ ?_
 ·exact fun _ q=>⟨aw,nx,cy,[G.z],q.k<|s3 z z z,cr [G.z] H,hz,M_,io sr,iS _ _⟩
 ·rintro ⟨V,x6⟩ _ wf _ ⟨J,L,O,I,a2,s9,ha,hb,hc,hl⟩ a4;have hmm:=a_P a4;refine Wu ?_ a2;refine Wq<|Wm z<|R z (b_k z z)<|Wx z (fun hcg=>?_) (fun hcg=>?_)
  ·refine Wk<|Wq<|Wb<|Wg<|RM z z<|Rm z ?_
   obtain ⟨ab,ad,a5⟩:=bdS<|ifT hmm hcg;refine RX z (at_ (α:=UInt8) p_ z_5 z z z (or_ (hj.c s9<|ds<|mnr<|a_.lt W)<|a_.lt W) ad) ?_;rintro _ ⟨_,_,_,rfl,ae,af,_⟩;obtain rfl:=u8 af;refine R z (l0 g_5 z<|ae.at0 z)<|E z (fS [(.tmp 23)] z_ z z z (a_Q z) (lb z)<|lb z) ?_
   rintro _ wn ⟨rfl,hh⟩;have hi:=hh.below;have ax:=b_a hh a_B;obtain ⟨ah,ai,a6⟩:=bdS a5;refine E z (b_g (α:=UInt8) z_ ai z z (ha.e hi) hb (hh.blk:Blk wn wf.z [vU (byteI ab)]) a_B an_ a_2) ?_;rintro _ aj ⟨So,ak,al,am,rfl,an,ao,ap,aq⟩;refine Rw z<|Wg<|Rm z<|R z (sb_ z z)<|Ra z<|Wl ?_
   have hp:∀k∈I,k∈[G.z]∨H.z<=k:=or1 hc (io sr)<|j_ lr;exact fun _ q=>⟨(ah,q_ x6 1),(som a6).symm,⟨ak,al,am,So,q.k<|s3 z z z,(cM (C_ (cM (cr [G.z] H) s9 (io sr):Chg (· ∈ [G.z]) H wf) hi:Chg (· ∈ [G.z]) H wn) an hp:Chg (· ∈ [G.z]) H aj),ao,ap,(or2 aq hp an_ (j_<|lt_ s9.s hi.s):∀k∈So,k∈[G.z]∨H.z<=k),iS _ _⟩⟩
  exact We<|fun _ q=>b_h (som<|ifF hmm hcg).symm ⟨J,L,O,I,q.k<|s1 z,(cM (cr [G.z] H) s9 (io sr):Chg (· ∈ [G.z]) H wf),ha,hb,(or1 hc (io sr) (j_ lr):∀k∈I,k∈[G.z]∨H.z<=k),hl⟩
 ·rintro ⟨V,x6⟩ ar _ rfl ⟨J,L,O,I,_,av,ha,hb,hc,hl⟩;have a7:=elL hmk;revert ar;refine Wo<|Wm z<|Rw z ?_
  obtain rfl:=som<|a_P a7;have hq:=m1 sd.s;exact Wr<|d_ hr z ⟨bM (bup sd se) av hq,J,L,O,I,z,ha,hb,a_8 hc hq<|lt_ sd.s se.s⟩
 rintro _ _ _ _ rfl ⟨rfl,a8⟩;have a9:=elR hmk;obtain rfl:=som a9;exact ⟨a8,z⟩
theorem i_K {x1:b_}{x2:Int}{res:(List UInt8)}(hm:d_o n x1 x2=some res)(L:B<=w0.z)(a0:x1.name.b.length<=LEN)(a1:inI x1.kind)(I:inI x1.size)(a2:repS w0 B (sl AD ND CD) x1.bytes)(a3:repS w0 B (sl AC NC CC) x1.names)(a4:repS w0 B (sl AE NE CE) x1.tags)(a5:repS w0 B (sl AF NF CF) x1.kids)(J:inI x2):k_ prog 91 [(.agg #[Str.v x1.name,vI x1.kind,vI x1.size,vB x1.little,sl AD ND CD,sl AC NC CC,sl AE NE CE,sl AF NF CF]),vI x2] w0 (Q1 w0 B res):=by
 unfold d_o at hm
 refine goG func91 z z z fun fn hr=>Ws<|E z (fb z) ?_
 rintro _ V ⟨rfl,h3⟩;have G:=h3.below;have h1:Blk V w0.z (vR x1 AD ND CD AC NC CC AE NE CE AF NF CF):=h3.blk;refine Rw z<|Wq<|Ws<|Rf z c_s z<|R z (l0 g_4 z<|h1.at z)<|Wx z (fun H=>?_) (fun H=>?_)
 ·refine Wm z<|Rf z a_F z<|R z (l0 g_3 z<|h1.at z) ?_
  obtain ⟨_,W,O⟩:=bdS<|ifT hm H;refine E z (fc call125 z<|W_w2u W (zt' L G.s) J I) ?_;rintro _ _ ⟨s7,Y,n9,ca,Sb,rfl,hc,hd,he⟩;refine Rw z ?_
  obtain rfl:=som O;exact Wr<|d_ hr z ⟨bup G s7,Y,n9,ca,Sb,z,hc,hd,h_ he G.s⟩
 refine Wk<|Wm z<|Rf z a_F z<|R z (l0 g_3 z<|h1.at z) ?_
 obtain ⟨_,ef,hmg⟩:=bdS<|ifF hm H;refine E z (fc call126 z<|W_w1n ef (zt' L G.s) J I) ?_;rintro _ _ ⟨sh,ai,nj,ck,Sl,rfl,hn,ho,hp⟩;refine Rw z ?_
 obtain rfl:=som hmg;exact Wr<|d_ hr z ⟨bup G sh,ai,nj,ck,Sl,z,hn,ho,h_ hp G.s⟩
structure k_B (f:f_->Int->Val->Option (List UInt8)):Prop where
  run:∀{A0 A6 A7:Option Addr}{N0 C0 N6 C6 N7 C7:Nat}{B:Zone}{x1:f_}{x2:Int}{x3:Val}{res:(List UInt8)}{w0:World}(hm:f x1 x2 x3=some res)(hBw:B<=w0.z)(p1_0:repS w0 B (sl A0 N0 C0) x1.rules)(p2_0:inI x2)(p3_0:inI x3.number)(p3_1:repS w0 B (sl A6 N6 C6) x3.bytes)(p3_2:repS w0 B (sl A7 N7 C7) x3.items),k_ prog 64 [(.agg #[sl A0 N0 C0]),vI x2,(.agg #[vI x3.number,sl A6 N6 C6,sl A7 N7 C7])] w0<|Q1 w0 B res
abbrev n_d (n:Nat):Prop:=k_B (e_s n).spec_l11Print
theorem T_w0j (gZ:n_d n):k_B (b_O n<|e_s n):=by
 constructor
 intro A0 A6 A7 N0 C0 N6 C6 N7 C7 B x1 x2 x3 res w0 hm H a4 j3 aA O V;unfold b_O at hm
 refine goG func64 z z z fun fn hr=>Ws<|E z (fb z) ?_
 rintro _ wm ⟨rfl,bU⟩;have J:=bU.below;have ho:Blk wm w0.z [sl A0 N0 C0]:=bU.blk;refine E z (fb z) ?_;rintro _ wa ⟨rfl,bV⟩;have h4:=bV.below;have h5:Blk wa wm.z [vI x3.number,sl A6 N6 C6,sl A7 N7 C7]:=bV.blk;refine Rw z<|Ws<|Rf z a_d z ?_
 have a5:=ho.e h4;refine R z (l0 a_g z<|a5.at z)<|Rm z ?_
 obtain ⟨aa,h2,dN⟩:=bdS hm;have hn:=(J.ag B).e h4;refine RX z (at_ (α:=b_) P_ r_ z z z (a4.g hn) h2) ?_;rintro _ ⟨_,_,_,rfl,h3,h6,_⟩;obtain ⟨ab,ad,ae,af,ai,ak,al,am,an,ao,ap,aq,rfl,bW,bX,bY,a6,bZ,c0,a7⟩:=a_A h6;refine R z (lN (vs:=vR aa ab ad ae af ai ak al am an ao ap aq) G_ r_ z z fid h3)<|E z (fa c_8) ?_
 rintro _ h7 ⟨rfl,c1⟩;have h1:=c1.below;have a8:Blk h7 wa.z [(Str.v (⟨[]⟩:Str)),vI 0,vI 0,vB false,sl none 0 0,sl none 0 0,sl none 0 0,sl none 0 0]:=c1.blk;refine E0 (fs0 (cur':=vR aa ab ad ae af ai ak al am an ao ap aq) r_ z z a8 z z z z) ?_;rintro _ I ⟨c2,h9⟩;have G:=h9.one;refine Wn<|Ws<|E z (f0 (α:=UInt8) z_) ?_
 rintro _ wc ⟨ha,hb,hf,rfl,s3,hg⟩;refine Rw z<|Wq<|Ws<|Rw z ?_
 obtain ⟨_,dO,bF⟩:=bdS dN;refine Wf (σ:=List UInt8) (ρ:=List UInt8) (fun (c3:Nat)(W:List UInt8) a w=>∃ah ng ci S2,Sat 169 [(3,pt w0.z),(5,pt wm.z),(7,pt wa.z),(8,sl ah ng ci),(9,vI ((c3:Nat):Int))] a/\Chg (· ∈ [I.z]) wc w/\a_ w S2 (sl ah ng ci) W/\S2.Nodup/\(∀k∈S2,k∈[I.z]∨wc.z<=k)) (fun (W:List UInt8) a w=>∃ah ng ci S2,Sat 169 [(3,pt w0.z),(5,pt wm.z),(7,pt wa.z),(8,sl ah ng ci)] a/\Chg (· ∈ [I.z]) wc w/\a_ w S2 (sl ah ng ci) W/\S2.Nodup/\(∀k∈S2,k∈[I.z]∨wc.z<=k)) (rQ prog fn<|Q1 w0 B) dO ?_ ?_ ?_ ?_ ?_
 ·exact fun _ q=>⟨ha,hb,hf,[I.z],q.k<|s5 z z z z z,cr [I.z] wc,hg,M_,io sr⟩
 ·rintro c3 W _ hh _ aB ⟨ah,ng,ci,S2,dP,ss,hd,hw,he⟩ dS;refine Wu ?_ dP;refine Wq<|Wm z<|Rf z Y_ z ?_
  have c4:=(((h5.e h1).c G<|djs<|mmr h5.lt).e s3).c ss<|djs<|mm1 h5.lt<|lt_ h1.s G.s
  refine R z (l0 a_6 z<|c4.at z) ?_;have c5:=lt_ J.s h4.s;have c6:∀k∈[wa.z],¬B k:=or0 (e_ lr)<|m_<|zt' H c5;have c7:=lt_ (lt_ c5 h1.s) G.s;have c8:∀k∈[I.z],¬B k:=or0 (e_ lr)<|m_<|zt' H c7;have c9:=(((hn.e h1).c G<|g_ c6).e s3).c ss<|g_ c8
  refine R z (lnR Z_ z<|V.g c9)<|Rl z z z<|Wx z (fun _=>?_) (fun hc=>(U_ aB hc).elim)
  refine Wk<|Wq<|Wb (Wd (X:=noX) 8192 (.rd 0<|.rd 1<|.rd 2<|.rd 3<|.rd 4<|.rd 5<|.rd 7<|.rd 8<|.rd 9<|.rd 10<|.rd 11<|.ef 6<|.ef 12<|.ef 13<|.rd 14 .done) mo (by kernel_rfl) fun hi sp _=>dM z z z ?_)
  refine dR z z (lN (vs:=[sl A0 N0 C0]) v_ u_ z z fid<|(((((a5.e h1).c G<|djs<|mm1 ho.lt h4.s).e s3).c ss<|djs<|mm1 ho.lt<|lt_ (lt_ h4.s h1.s) G.s).e sp).row 0 1 z)<|dR z z (lN (vs:=vR aa ab ad ae af ai ak al am an ao ap aq) G_ r_ z z fid<|(((c2.e s3).c ss<|djs<|mm1 a8.lt G.s).e sp).row 0 8 z)<|dR z z (fd a_M z) ?_
  have ca:=c4.e sp;refine dR z z (l0 g_3 z<|ca.at z)<|dM z z z<|dR z z (fd Y_ z)<|dR z z (l0 a_6 z<|ca.at z)<|dM z z z ?_
  obtain ⟨hj,hk,dT⟩:=bdS dS;have cb:=c9.e sp;refine dRX z z (at_ (α:=Val) Z_ c_ z z z (V.g cb) hk) ?_;rintro _ ⟨_,_,_,rfl,hl,hp,_⟩;obtain ⟨hq,hu,hv,hx,hy,hA,rfl,hB,hC,hD⟩:=c_a hp;refine dR z z (lN (vs:=[vI hj.number,sl hq hu hv,sl hx hy hA]) l_ c_ z z fid hl) ?_;have ar:=((((h1.ag B).c G<|g_ c6).e s3).c ss<|g_ c8).e sp;have cc:=lt_ (lt_ (lt_ c7 s3.s) ss.s) sp.s;obtain ⟨_,hE,dU⟩:=bdS dT;refine dE z z (fc call60 z<|e_d hE (zt' H cc) bW bX bY (a6.g ar) (bZ.g ar) (c0.g ar) (a7.g ar) aA<|ic (Nat.le_of_lt aB)<|lt_ (repS.len V) D_) (.inr fun _ _ h=>o_<|h.1) ?_;rintro _ hF ⟨sx,rfl,hG⟩;obtain ⟨_,hH,dV⟩:=bdS dU;refine dE z z (fc call64 z<|gZ.run hH (zt' H<|lt_ cc sx.s) (a4.g<|cb.e sx) hG hB (hC.e sx)<|hD.e sx) (.inr fun _ _ h=>o_<|h.1) ?_;rintro _ hI ⟨aM,_,_,_,_,rfl,hJ,_,_⟩;obtain ⟨hK,hL,dW⟩:=bdS dV;refine dE z z (fN (α:=UInt8) z_ hL z z (((hd.e sp).e sx).e aM) hw<|a_.rep hJ) (.inl z) ?_;rintro _ hM ⟨cd,hN,hO,hP,rfl,hQ,hR,hS,hT⟩;refine dQ z z z<|pD<|Wo<|Wg<|Rm z<|R z (inc_ aB (lt_ (repS.len V) D_) z z)<|Ra z<|Wl ?_
  have ce:∀k∈S2,k∈[I.z]∨wc.z<=k:=or1 he (io sr)<|j_ lr;exact fun _ q=>⟨hK,(som dW).symm,⟨hN,hO,hP,cd,q.k<|s5 z z z z z,(cM (C_ (C_ (C_ (cM (cr [I.z] wc) ss (io sr):Chg (· ∈ [I.z]) wc hh) sp:Chg (· ∈ [I.z]) wc hi) sx:Chg (· ∈ [I.z]) wc hF) aM:Chg (· ∈ [I.z]) wc hI) hQ ce:Chg (· ∈ [I.z]) wc hM),hR,hS,(or1 hT ce (j_<|lt_ (lt_ (lt_ ss.s sp.s) sx.s) aM.s):∀k∈cd,k∈[I.z]∨wc.z<=k)⟩⟩
 ·rintro W _ hU ⟨ah,ng,ci,S2,dX,aN,hd,hw,he⟩;refine Wu ?_ dX;refine Wq<|Wm z<|Rf z Y_ z<|R z (l0 a_6 z<|((((h5.e h1).c G<|djs<|mmr h5.lt).e s3).c aN<|djs<|mm1 h5.lt<|lt_ h1.s G.s).at z) ?_
  have cf:=lt_ J.s h4.s;refine R z (lnR Z_ z<|V.g<|(((hn.e h1).c G<|g_ (or0 (e_ lr) (m_<|zt' H cf):∀k∈[wa.z],¬B k)).e s3).c aN<|g_ (or0 (e_ lr) (m_<|zt' H<|lt_ (lt_ cf h1.s) G.s):∀k∈[I.z],¬B k))<|Rl z z z<|Wx z (fun hc=>(V_ hc).elim) (fun _=>?_)
  exact We<|fun _ q=>⟨rfl,⟨ah,ng,ci,S2,q.k<|s4 z z z z,(cM (cr [I.z] wc) aN (io sr):Chg (· ∈ [I.z]) wc hU),hd,hw,(or1 he (io sr) (j_ lr):∀k∈S2,k∈[I.z]∨wc.z<=k)⟩⟩
 ·rintro W hV wb rfl ⟨ah,ng,ci,S2,_,s6,hd,hw,he⟩;have bG:=elL bF;revert hV;refine Wo<|Wq<|Ws<|Rf z a_x z ?_
  have aO:=mm1 a8.lt G.s;have ht:=(c2.e s3).c s6<|djs aO
  refine R z (l0 g_3 z<|ht.at z)<|Wn<|Wb<|Ws<|Rq z z z<|Rw z<|Wc z (fun aC=>?_) (fun aC=>?_)
  ·refine Ws<|R z (lN (vs:=vR aa ab ad ae af ai ak al am an ao ap aq) G_ r_ z z fid<|ht.row 0 8 z)<|Rf z a_M z<|R z (l0 g_3 z<|((((h5.e h1).c G<|djs<|mmr h5.lt).e s3).c s6<|djs<|mm1 h5.lt<|lt_ h1.s G.s).at z) ?_
   have aP:=lt_ J.s h4.s;have aQ:=lt_ (lt_ aP h1.s) G.s;have au:=(((h1.ag B).c G<|g_ (or0 (e_ lr) (m_<|zt' H aP):∀k∈[wa.z],¬B k)).e s3).c s6<|g_ (or0 (e_ lr) (m_<|zt' H aQ):∀k∈[I.z],¬B k)
   have cg:=lt_ (lt_ aQ s3.s) s6.s;obtain ⟨_,hW,dY⟩:=bdS<|ifT bG aC;refine E z (fc call91 z<|i_K hW (zt' H cg) bW bX bY (a6.g au) (bZ.g au) (c0.g au) (a7.g au) aA) ?_;rintro _ _ ⟨hX,hY,hZ,i0,i1,rfl,i2,i3,i4⟩;refine Rw z ?_
   obtain rfl:=som dY;exact Wr<|rtO<|d_ hr z ⟨bup (bM (bup (bM (bup (bup J h4) h1) G<|m1 aP) s3) s6<|m1 aQ) hX,hY,hZ,i0,i1,z,i2,i3,h_ i4 cg⟩
  have bH:=ifF bG aC;refine Ws<|Rq z z z<|Rw z<|Wc z (fun aD=>?_) (fun aD=>?_)
  ·refine Ws<|E z (f0 (α:=UInt8) z_) ?_
   rintro _ _ ⟨_,_,_,rfl,av,i5⟩;refine Rf z a_U z<|R z (l0 F_ z<|(ht.e av).at z) ?_
   obtain ⟨_,i6,dZ⟩:=bdS<|ifT bH aD;have aR:=lt_ J.s h4.s;have aS:=lt_ (lt_ aR h1.s) G.s;refine E z (fN (α:=UInt8) z_ i6 z z i5 M_<|a6.g<|((((h1.ag B).c G<|g_ (or0 (e_ lr) (m_<|zt' H aR):∀k∈[wa.z],¬B k)).e s3).c s6<|g_ (or0 (e_ lr) (m_<|zt' H aS):∀k∈[I.z],¬B k)).e av) ?_;rintro _ _ ⟨i7,i8,i9,ia,rfl,ib,id,ie,ig⟩;refine Rw z ?_
   obtain rfl:=som dZ;have ch:=lt_ (lt_ aS s3.s) s6.s;have cj:=m1 ch;exact Wr<|rtO<|d_ hr z ⟨bM (bup (bM (bup (bM (bup (bup J h4) h1) G<|m1 aR) s3) s6<|m1 aS) av) ib cj,i8,i9,ia,i7,z,id,ie,a_8 ig cj<|lt_ ch av.s⟩
  have bI:=ifF bH aD;refine Ws<|Rq z z z<|Rw z<|Wc z (fun aE=>?_) (fun aE=>?_)
  ·refine Wq<|Wd (X:=noX) 16384 (.rd 0<|.rd 1<|.rd 2<|.rd 3<|.rd 4<|.rd 5<|.rd 6<|.rd 7<|.rd 8<|.rd 9<|.rd 10<|.rd 12<|.rd 13<|.ef 11<|.ef 14<|.rd 15 .done) mo (by kernel_rfl) fun j4 sy _=>dR z z (fd a_d z) ?_;refine dR z z (l0 a_g z<|(((((a5.e h1).c G<|djs<|mm1 ho.lt h4.s).e s3).c s6<|djs<|mm1 ho.lt<|lt_ (lt_ h4.s h1.s) G.s).e sy).at z)<|dR z z (fd T_ z)<|dR z z (l0 B_ z<|(ht.e sy).at z) ?_
   obtain ⟨_,ih,e0⟩:=bdS<|ifT bI aE;have aT:=lt_ J.s h4.s;have ck:∀k∈[wa.z],¬B k:=or0 (e_ lr)<|m_<|zt' H aT;have aU:=lt_ (lt_ aT h1.s) G.s;have cm:∀k∈[I.z],¬B k:=or0 (e_ lr)<|m_<|zt' H aU;refine dRX z z (at_ (α:=Int) x_ z_3 z z z (a7.g<|((((h1.ag B).c G<|g_ ck).e s3).c s6<|g_ cm).e sy) ih) ?_;rintro _ ⟨_,_,_,rfl,ij,ik,_⟩;obtain ⟨rfl,_⟩:=a_1 ik;refine dR z z (l0 g_3 z<|ij.at0 z) ?_;obtain ⟨il,im,e1⟩:=bdS e0;have aV:=((((hn.e h1).c G<|g_ ck).e s3).c s6<|g_ cm).e sy;refine dRX z z (at_ (α:=b_) P_ r_ z z z (a4.g aV) im) ?_;rintro _ ⟨_,_,_,rfl,ip,iq,_⟩;obtain ⟨ir,it,iu,iv,iw,ix,iy,iz,iA,iB,iC,iD,rfl,iE,iF,iG,iH,iI,iJ,iK⟩:=a_A iq;refine dR z z (lN (vs:=vR il ir it iu iv iw ix iy iz iA iB iC iD) G_ r_ z z fid ip)<|dR z z (fd a_E z) ?_
   have cn:=((((h5.e h1).c G<|djs<|mmr h5.lt).e s3).c s6<|djs<|mm1 h5.lt<|lt_ h1.s G.s).e sy;refine dR z z (l0 F_ z<|cn.at z) ?_;have co:=O.g aV;refine dR z z (lnR p_ z co)<|dR z z (fd a_E z)<|dR z z (l0 F_ z<|cn.at z) ?_
   have aW:=lt_ (lt_ (lt_ aU s3.s) s6.s) sy.s;obtain ⟨_,iL,e2⟩:=bdS e1;refine dE z z (fc call91 z<|i_K iL (zt' H aW) iE iF iG iH iI iJ iK<|b_f<|repS.len co) (.inr fun _ _ h=>o_<|h.1) ?_;rintro _ _ ⟨aX,_,_,_,_,rfl,iM,iN,iO⟩;obtain ⟨_,iP,e3⟩:=bdS e2;refine dE z z (fN (α:=UInt8) z_ iP z z iM iN<|O.g<|aV.e aX) (.inl z) ?_;rintro _ _ ⟨iQ,iR,iS,iT,rfl,iU,iV,iW,iX⟩;refine dQ z z z<|pD<|Wo ?_
   obtain rfl:=som e3;have cp:=h_ iO aW;exact Wr<|rtO<|d_ hr z ⟨bM (bup (bup (bM (bup (bM (bup (bup J h4) h1) G<|m1 aT) s3) s6<|m1 aU) sy) aX) iU cp,iR,iS,iT,iQ,z,iV,iW,a_8 iX cp<|lt_ aW aX.s⟩
  have bJ:=ifF bI aE;refine Ws<|Rq z z z<|Rw z<|Wc z (fun aF=>?_) (fun aF=>?_)
  ·refine Wq<|Wd (X:=noX) 8192 (.rd 0<|.rd 1<|.rd 2<|.rd 3<|.rd 4<|.rd 5<|.rd 6<|.rd 7<|.rd 8<|.rd 9<|.rd 10<|.rd 12<|.ef 11<|.ef 13<|.rd 14 .done) mo (by kernel_rfl) fun j5 su _=>dR z z (fd a_d z) ?_;refine dR z z (l0 a_g z<|(((((a5.e h1).c G<|djs<|mm1 ho.lt h4.s).e s3).c s6<|djs<|mm1 ho.lt<|lt_ (lt_ h4.s h1.s) G.s).e su).at z)<|dR z z (fd T_ z)<|dR z z (l0 B_ z<|(ht.e su).at z) ?_
   obtain ⟨_,iY,e4⟩:=bdS<|ifT bJ aF;have aY:=lt_ J.s h4.s;have cq:∀k∈[wa.z],¬B k:=or0 (e_ lr)<|m_<|zt' H aY;have aZ:=lt_ (lt_ aY h1.s) G.s;have ct:∀k∈[I.z],¬B k:=or0 (e_ lr)<|m_<|zt' H aZ;refine dRX z z (at_ (α:=Int) x_ z_3 z z z (a7.g<|((((h1.ag B).c G<|g_ cq).e s3).c s6<|g_ ct).e su) iY) ?_;rintro _ ⟨_,_,_,rfl,iZ,j0,_⟩;obtain ⟨rfl,_⟩:=a_1 j0;refine dR z z (l0 g_3 z<|iZ.at0 z) ?_;obtain ⟨j1,j2,e5⟩:=bdS e4;have cu:=((((hn.e h1).c G<|g_ cq).e s3).c s6<|g_ ct).e su;refine dRX z z (at_ (α:=b_) P_ r_ z z z (a4.g cu) j2) ?_;rintro _ ⟨_,_,_,rfl,e6,e7,_⟩;obtain ⟨e8,e9,ea,eb,ec,ed,ee,eg,eh,ei,ej,ek,rfl,em,en,eo,ep,er,es,eu⟩:=a_A e7;refine dR z z (lN (vs:=vR j1 e8 e9 ea eb ec ed ee eg eh ei ej ek) G_ r_ z z fid e6)<|dR z z (fd Y_ z)<|dR z z (l0 a_6 z<|(((((h5.e h1).c G<|djs<|mmr h5.lt).e s3).c s6<|djs<|mm1 h5.lt<|lt_ h1.s G.s).e su).at z) ?_
   have cv:=V.g cu;refine dR z z (lnR Z_ z cv)<|dM z z z ?_
   have b0:=lt_ (lt_ (lt_ aZ s3.s) s6.s) su.s;obtain ⟨_,ew,dh⟩:=bdS e5;refine dE z z (fc call91 z<|i_K ew (zt' H b0) em en eo ep er es eu<|b_f<|repS.len cv) (.inr fun _ _ h=>o_<|h.1) ?_;rintro _ _ ⟨b3,_,_,_,_,rfl,ex,ey,ez⟩;obtain ⟨_,eA,di⟩:=bdS dh;refine dE z z (fN (α:=UInt8) z_ eA z z ex ey<|or_ ((hd.e su).e b3)<|a_.lt hd) (.inl z) ?_;rintro _ _ ⟨eB,eC,eD,eE,rfl,eF,eG,eH,eI⟩;refine dQ z z z<|pD<|Wo ?_
   obtain rfl:=som di;have cw:=h_ ez b0;exact Wr<|rtO<|d_ hr z ⟨bM (bup (bup (bM (bup (bM (bup (bup J h4) h1) G<|m1 aY) s3) s6<|m1 aZ) su) b3) eF cw,eC,eD,eE,eB,z,eG,eH,a_8 eI cw<|lt_ b0 b3.s⟩
  have bK:=ifF bJ aF;refine Ws<|Rq z z z<|Rw z<|Wc z (fun aG=>?_) (fun aG=>?_)
  ·refine Wq<|Wd (X:=noX) 4096 (.rd 0<|.rd 1<|.rd 2<|.rd 3<|.rd 4<|.rd 5<|.rd 6<|.rd 7<|.rd 8<|.rd 9<|.rd 11<|.ef 10<|.ef 12<|.rd 13 .done) mo (by kernel_rfl) fun j6 sv _=>dR z z (fd a_d z) ?_;refine dR z z (l0 a_g z<|(((((a5.e h1).c G<|djs<|mm1 ho.lt h4.s).e s3).c s6<|djs<|mm1 ho.lt<|lt_ (lt_ h4.s h1.s) G.s).e sv).at z)<|dR z z (fd T_ z)<|dR z z (l0 B_ z<|(ht.e sv).at z) ?_
   obtain ⟨_,eJ,dj⟩:=bdS<|ifT bK aG;have b4:=lt_ J.s h4.s;have cx:∀k∈[wa.z],¬B k:=or0 (e_ lr)<|m_<|zt' H b4;have b5:=lt_ (lt_ b4 h1.s) G.s;have cy:∀k∈[I.z],¬B k:=or0 (e_ lr)<|m_<|zt' H b5;refine dRX z z (at_ (α:=Int) x_ z_3 z z z (a7.g<|((((h1.ag B).c G<|g_ cx).e s3).c s6<|g_ cy).e sv) eJ) ?_;rintro _ ⟨_,_,_,rfl,eK,eL,_⟩;obtain ⟨rfl,_⟩:=a_1 eL;refine dR z z (l0 g_3 z<|eK.at0 z) ?_;obtain ⟨eM,eN,dk⟩:=bdS dj;refine dRX z z (at_ (α:=b_) P_ r_ z z z (a4.g<|((((hn.e h1).c G<|g_ cx).e s3).c s6<|g_ cy).e sv) eN) ?_;rintro _ ⟨_,_,_,rfl,eO,eP,_⟩;obtain ⟨eQ,eR,eS,eT,eU,eV,eW,eX,eY,eZ,f1,f2,rfl,f3,f4,f5,f6,f7,f8,f9⟩:=a_A eP;refine dR z z (lN (vs:=vR eM eQ eR eS eT eU eV eW eX eY eZ f1 f2) G_ r_ z z fid eO)<|dR z z (fd a_M z)<|dR z z (l0 g_3 z<|(((((h5.e h1).c G<|djs<|mmr h5.lt).e s3).c s6<|djs<|mm1 h5.lt<|lt_ h1.s G.s).e sv).at z)<|dM z z z ?_
   have b6:=lt_ (lt_ (lt_ b5 s3.s) s6.s) sv.s;obtain ⟨_,fe,dl⟩:=bdS dk;refine dE z z (fc call91 z<|i_K fe (zt' H b6) f3 f4 f5 f6 f7 f8 f9 aA) (.inr fun _ _ h=>o_<|h.1) ?_;rintro _ _ ⟨b7,_,_,_,_,rfl,ff,fg,fh⟩;obtain ⟨_,fi,dm⟩:=bdS dl;refine dE z z (fN (α:=UInt8) z_ fi z z ff fg<|or_ ((hd.e sv).e b7)<|a_.lt hd) (.inl z) ?_;rintro _ _ ⟨fj,fk,fl,fm,rfl,fo,fp,fq,fr⟩;refine dQ z z z<|pD<|Wo ?_
   obtain rfl:=som dm;have cz:=h_ fh b6;exact Wr<|rtO<|d_ hr z ⟨bM (bup (bup (bM (bup (bM (bup (bup J h4) h1) G<|m1 b4) s3) s6<|m1 b5) sv) b7) fo cz,fk,fl,fm,fj,z,fp,fq,a_8 fr cz<|lt_ b6 b7.s⟩
  have bL:=ifF bK aG;refine Ws<|Rq z z z<|Rw z<|Wc z (fun aH=>?_) (fun aH=>?_)
  ·refine Ws<|Rf z Y_ z<|R z (l0 a_6 z<|((((h5.e h1).c G<|djs<|mmr h5.lt).e s3).c s6<|djs<|mm1 h5.lt<|lt_ h1.s G.s).at z) ?_
   have b8:=lt_ J.s h4.s;have b9:=lt_ (lt_ b8 h1.s) G.s;refine R z (lnR Z_ z<|V.g<|(((hn.e h1).c G<|g_ (or0 (e_ lr) (m_<|zt' H b8):∀k∈[wa.z],¬B k)).e s3).c s6<|g_ (or0 (e_ lr) (m_<|zt' H b9):∀k∈[I.z],¬B k))<|R z (c_Y d_3 d_5 z)<|E z (fS [(.tmp 105)] z_ z z z (a_Q z) (lb z)<|lb z) ?_
   rintro _ fs ⟨rfl,ba⟩;have bb:=ba.below;have j7:Blk fs wb.z [(vU<|byteI<|mkB (x3.items.length:Int))]:=ba.blk;refine Rm z ?_;obtain ⟨_,ft,dn⟩:=bdS<|ifT bL aH;refine E z (fN (α:=UInt8) z_ ft z z (b_a ba a_B) M_<|or_ (hd.e bb)<|a_.lt hd) ?_;rintro _ _ ⟨fu,fv,fw,fx,rfl,fy,fz,fA,fB⟩;refine Rw z ?_
   obtain rfl:=som dn;have cA:=lt_ (lt_ b9 s3.s) s6.s;have cB:=m1 cA;exact Wr<|rtO<|d_ hr z ⟨bM (bup (bM (bup (bM (bup (bup J h4) h1) G<|m1 b8) s3) s6<|m1 b9) bb) fy cB,fv,fw,fx,fu,z,fz,fA,a_8 fB cB<|lt_ cA bb.s⟩
  have bN:=ifF bL aH;refine Ws<|Rq z z z<|Rw z<|Wc z (fun aI=>?_) (fun aI=>?_)
  ·refine Wm z<|Rm z ?_
   obtain ⟨fC,fD,dp⟩:=bdS<|ifT bN aI;refine E z (fc call92 z<|W_w1f (B:=wb.z) fD zr<|a_.rep hd) ?_;rintro _ fE ⟨bc,rfl,_⟩;refine R z (c_Y d_3 d_5 z)<|E z (fS [(.tmp 114)] z_ z z z (a_Q z) (lb z)<|lb z) ?_
   rintro _ fF ⟨rfl,be⟩;have bf:=be.below;have j8:=b_a be a_B;obtain ⟨_,fG,dq⟩:=bdS dp;refine E z (b_g (α:=UInt8) z_ fG z z ((hd.e bc).e bf) hw (be.blk:Blk fF fE.z [(vU<|byteI<|mkB fC)]) a_B an_ a_2) ?_;rintro _ _ ⟨cC,fH,fI,fJ,rfl,fK,fL,fM,fO⟩;refine Rw z ?_
   obtain rfl:=som dq;have cD:=lt_ J.s h4.s;have cE:=lt_ (lt_ cD h1.s) G.s;have cF:=m1 cE;have cG:=lt_ cE s3.s;have cH:=a_8 he cF cG;exact Wr<|rtO<|d_ hr z ⟨bM (bup (bup (bM (bup (bM (bup (bup J h4) h1) G<|m1 cD) s3) s6 cF) bc) bf) fK cH,fH,fI,fJ,cC,z,fL,fM,(or2 fO cH an_ (b_4<|lt_ (lt_ (lt_ cG s6.s) bc.s) bf.s):∀k∈cC,w0.z<=k)⟩
  have bO:=ifF bN aI;refine Ws<|Rq z z z<|Rw z<|Wc z (fun aJ=>?_) (fun aJ=>?_)
  ·refine Wq<|Ws<|Rw z ?_
   obtain ⟨_,dr,bP⟩:=bdS<|ifT bO aJ;refine Wf (σ:=List UInt8) (ρ:=List UInt8) (fun (aw:Nat)(xr:List UInt8) a w=>∃aj nk cl L,Sat 169 [(5,pt wm.z),(7,pt wa.z),(8,sl aj nk cl),(10,vI ((aw:Nat):Int))] a/\Chg (· ∈ S2) wb w/\a_ w L (sl aj nk cl) xr/\L.Nodup/\(∀k∈L,k∈S2∨wb.z<=k)) (fun (xr:List UInt8) a w=>∃aj nk cl L,Sat 169 [(7,pt wa.z),(8,sl aj nk cl)] a/\Chg (· ∈ S2) wb w/\a_ w L (sl aj nk cl) xr/\L.Nodup/\(∀k∈L,k∈S2∨wb.z<=k)) (rQ prog fn<|Q1 w0 B) dr ?_ ?_ ?_ ?_ ?_
   ·exact fun _ q=>⟨ah,ng,ci,S2,q.k<|s4 z z z z,cr S2 wb,hd,hw,io sr⟩
   ·rintro aw xr _ bg _ bQ ⟨aj,nk,cl,L,ds,Y,a0,a1,hz⟩ dt;refine Wu ?_ ds;refine Wq<|Wm z<|Rf z a_E z ?_
    have cI:=lt_ h1.s G.s;have cJ:=mm1 h5.lt cI;have cK:=lt_ cI s3.s;have cL:∀k∈S2,k∉[wm.z]:=or1 he cJ<|X_ (e_ h5.lt) cK;have bh:=((((h5.e h1).c G<|djs<|mmr h5.lt).e s3).c s6<|djs cJ).c Y<|djs cL
    refine R z (l0 F_ z<|bh.at z) ?_;have cN:=lt_ J.s h4.s;have cO:∀k∈[wa.z],¬B k:=or0 (e_ lr)<|m_<|zt' H cN;have cP:=lt_ (lt_ cN h1.s) G.s;have bi:∀k∈[I.z],¬B k:=or0 (e_ lr)<|m_<|zt' H cP;have cQ:=lt_ cP s3.s;have bj:∀k∈S2,¬B k:=or1 he bi<|m_<|zt' H cQ;have bk:=((((hn.e h1).c G<|g_ cO).e s3).c s6<|g_ bi).c Y<|g_ bj
    refine R z (lnR p_ z<|O.g bk)<|Rl z z z<|Wx z (fun _=>?_) (fun hc=>(U_ bQ hc).elim)
    refine Wk<|Wq<|Wb<|Wq<|Wq ?_
    obtain ⟨fP,du,dv⟩:=bdS dt;refine Wt (fun a w=>∃(bm:Bool),bm=fP/\Sat 169 [(5,pt wm.z),(7,pt wa.z),(8,sl aj nk cl),(10,vI ((aw:Nat):Int)),(143,vB bm)] a/\Below bg.z bg w) ?_ ?_
    ·refine Wd (X:=noX) 0 (pl_ 18 []) mo (by kernel_rfl) fun j9 a2 _=>dR z z (fd a_E z) ?_
     have cR:=bh.e a2;refine dR z z (l0 F_ z<|cR.at z)<|dM z z z ?_
     obtain ⟨fQ,fR,dw⟩:=bdS du;have cS:=O.g<|bk.e a2
     refine dRX z z (at_ (α:=UInt8) p_ z_5 z z z cS fR) ?_;rintro _ ⟨_,_,_,rfl,fT,fU,_⟩;obtain rfl:=u8 fU;refine dR z z (l0 g_5 z<|fT.at0 z)<|dR z z (fd a_U z) ?_
     refine dR z z (l0 F_ z<|((ht.c Y<|djs (or1 he aO (X_ (e_ a8.lt)<|lt_ G.s s3.s):∀k∈S2,k∉[wa.z])).e a2).at z) ?_;obtain ⟨fV,fW,bR⟩:=bdS dw;refine dRX z z (at_ (α:=UInt8) p_ z_5 z z z (a6.g<|(((((h1.ag B).c G<|g_ cO).e s3).c s6<|g_ bi).c Y<|g_ bj).e a2) fW) ?_;rintro _ ⟨_,_,_,rfl,fX,fY,_⟩;obtain rfl:=u8 fY;refine dR z z (l0 g_5 z<|fX.at0 z)<|dR z z (eql z z)<|dM z z z ?_
     rcases bs ((byteI fQ)==(byteI fV)) with hcf | hcf
     ·iterate 6 refine dRn z z z hcf z ?_
      exact dR z z (pT z hcf z)<|pD (fun _ q=>⟨true,som<|ifT bR hcf,q.k<|s5 z z z z z,a2⟩)
     refine dRg z z z hcf z (fd a_E z)<|dRg z z z hcf z (l0 F_ z<|cR.at z)<|dRg z z z hcf z (mv z) ?_
     obtain ⟨fZ,g0,dx⟩:=bdS<|ifF bR hcf;refine c_l z z z hcf z (at_ (α:=UInt8) p_ z_5 z z z cS g0) ?_;rintro _ ⟨_,_,_,rfl,g1,g2,_⟩;obtain rfl:=u8 g2;exact dRg z z z hcf z (l0 g_5 z<|g1.at0 z)<|dRg z z z hcf z (eql z z)<|dR z z (pF z hcf z)<|pD (fun _ q=>⟨(byteI fZ)==(byteI (92:UInt8)),som dx,q.k<|s5 z z z z z,a2⟩)
    rintro g3 wq ⟨bm,rfl,_,a3⟩;revert g3;refine Wo ?_;obtain ⟨g4,bS,dy⟩:=bdS dv;refine Wt (fun a w=>∃(bn:List UInt8),bn=g4/\∃bo bp bq a9,Sat 169 [(5,pt wm.z),(7,pt wa.z),(8,sl bo bp bq),(10,vI ((aw:Nat):Int))] a/\Chg (· ∈ L) wq w/\a_ w a9 (sl bo bp bq) bn/\a9.Nodup/\(∀k∈a9,k∈L∨wq.z<=k)) ?_ ?_
    ·refine Wc z (fun aK=>?_)<|fun aK=>?_
     ·refine Wg<|Rm z<|E z (fS [(.const<|.int .u8 92)] z_ z z z (a_Q z) (lb z)<|lb z) ?_
      rintro _ cT ⟨rfl,br⟩;have bt:=br.below;have ja:=b_a br<|h_N (x:=(92:UInt8)) z
      obtain ⟨g5,g6,dz⟩:=bdS<|ifT bS aK;refine E z (b_g (α:=UInt8) z_ g6 z z ((a0.e a3).e bt) a1 (br.blk:Blk cT wq.z [(vU<|byteI (92:UInt8))]) (h_N (x:=(92:UInt8)) z) an_ a_2) ?_;rintro _ g7 ⟨cU,g8,g9,ga,rfl,gb,gc,ge,gf⟩;refine Ra z<|Wl ?_
      exact fun _ q=>⟨g5,som dz,g8,g9,ga,cU,q.k<|s4 z z z z,(cM (C_ (cr L wq) bt:Chg (· ∈ L) wq cT) gb (io sr):Chg (· ∈ L) wq g7),gc,ge,(or2 gf (io sr) an_ (j_ bt.s):∀k∈cU,k∈L∨wq.z<=k)⟩
     exact a_h<|fun _ q=>⟨xr,som<|ifF bS aK,aj,nk,cl,L,q.k<|s4 z z z z,cr L wq,a0.e a3,a1,io sr⟩
    rintro gg cV ⟨bn,rfl,bo,bp,bq,a9,_,ax,gh,gi,gj⟩;revert gg;refine Wo<|Wg<|Rm z<|Rf z a_E z ?_
    refine R z (l0 F_ z<|((bh.e a3).c ax<|djs (or1 hz cL (X_ (e_ h5.lt)<|lt_ cK s6.s):∀k∈L,k∉[wm.z])).at z)<|Rm z ?_
    obtain ⟨gk,gl,dA⟩:=bdS dy;refine RX z (at_ (α:=UInt8) p_ z_5 z z z (O.g<|(bk.e a3).c ax<|g_ (or1 hz bj (m_<|zt' H<|lt_ cQ s6.s):∀k∈L,¬B k)) gl) ?_;rintro _ ⟨_,_,_,rfl,gm,gn,_⟩;obtain rfl:=u8 gn;refine R z (l0 g_5 z<|gm.at0 z)<|E z (fS [(.tmp 152)] z_ z z z (a_Q z) (lb z)<|lb z) ?_
    rintro _ cW ⟨rfl,bu⟩;have bv:=bu.below;have jb:=b_a bu a_B;obtain ⟨gp,gq,dB⟩:=bdS dA;refine E z (b_g (α:=UInt8) z_ gq z z (gh.e bv) gi (bu.blk:Blk cW cV.z [vU (byteI gk)]) a_B an_ a_2) ?_;rintro _ gr ⟨cX,gs,gt,gu,rfl,gv,gw,gx,gy⟩;refine Rw z<|Wg<|Rm z<|R z (inc_ bQ (lt_ (repS.len O) D_) z z)<|Ra z<|Wl ?_
    have cY:=lt_ Y.s a3.s;have cZ:∀k∈L,k∈S2∨wb.z<=k:=or1 hz (io sr)<|j_ lr;have d0:∀k∈a9,k∈S2∨wb.z<=k:=or1 gj cZ<|j_ cY;exact fun _ q=>⟨gp,(som dB).symm,⟨gs,gt,gu,cX,q.k<|s4 z z z z,(cM (C_ (cM (C_ (cM (cr S2 wb) Y (io sr):Chg (· ∈ S2) wb bg) a3:Chg (· ∈ S2) wb wq) ax cZ:Chg (· ∈ S2) wb cV) bv:Chg (· ∈ S2) wb cW) gv d0:Chg (· ∈ S2) wb gr),gw,gx,(or2 gy d0 an_ (j_<|lt_ (lt_ cY ax.s) bv.s):∀k∈cX,k∈S2∨wb.z<=k)⟩⟩
   ·rintro xr _ gz ⟨aj,nk,cl,L,dC,bw,a0,a1,hz⟩;refine Wu ?_ dC;refine Wq<|Wm z<|Rf z a_E z ?_
    have d1:=lt_ h1.s G.s;have d2:=mm1 h5.lt d1;refine R z (l0 F_ z<|(((((h5.e h1).c G<|djs<|mmr h5.lt).e s3).c s6<|djs d2).c bw<|djs (or1 he d2 (X_ (e_ h5.lt)<|lt_ d1 s3.s):∀k∈S2,k∉[wm.z])).at z) ?_;have d3:=lt_ J.s h4.s;have d4:=lt_ (lt_ d3 h1.s) G.s;have d5:∀k∈[I.z],¬B k:=or0 (e_ lr)<|m_<|zt' H d4;refine R z (lnR p_ z<|O.g<|((((hn.e h1).c G<|g_ (or0 (e_ lr) (m_<|zt' H d3):∀k∈[wa.z],¬B k)).e s3).c s6<|g_ d5).c bw<|g_ (or1 he d5 (m_<|zt' H<|lt_ d4 s3.s):∀k∈S2,¬B k))<|Rl z z z<|Wx z (fun hc=>(V_ hc).elim) (fun _=>?_)
    exact We<|fun _ q=>⟨rfl,⟨aj,nk,cl,L,q.k<|s2 z z,(cM (cr S2 wb) bw (io sr):Chg (· ∈ S2) wb gz),a0,a1,(or1 hz (io sr) (j_ lr):∀k∈L,k∈S2∨wb.z<=k)⟩⟩
   ·rintro xr gA gB rfl ⟨aj,nk,cl,L,_,ay,a0,a1,hz⟩;have dD:=elL bP;revert gA;refine Wo<|Wm z<|Rf z a_U z ?_
    refine R z (l0 F_ z<|(ht.c ay<|djs (or1 he aO (X_ (e_ a8.lt)<|lt_ G.s s3.s):∀k∈S2,k∉[wa.z])).at z) ?_;obtain ⟨gC,gD,dF⟩:=bdS dD;have bx:=lt_ J.s h4.s;have bz:=lt_ (lt_ bx h1.s) G.s;have d6:∀k∈[I.z],¬B k:=or0 (e_ lr)<|m_<|zt' H bz;have bA:=lt_ bz s3.s;refine RX z (at_ (α:=UInt8) p_ z_5 z z z (a6.g<|((((h1.ag B).c G<|g_ (or0 (e_ lr) (m_<|zt' H bx):∀k∈[wa.z],¬B k)).e s3).c s6<|g_ d6).c ay<|g_ (or1 he d6 (m_<|zt' H bA):∀k∈S2,¬B k)) gD) ?_;rintro _ ⟨_,_,_,rfl,gE,gF,_⟩;obtain rfl:=u8 gF;refine R z (l0 g_5 z<|gE.at0 z)<|E z (fS [(.tmp 159)] z_ z z z (a_Q z) (lb z)<|lb z) ?_
    rintro _ gG ⟨rfl,bB⟩;have bC:=bB.below;have jc:=b_a bB a_B;obtain ⟨_,gH,dG⟩:=bdS dF;refine E z (b_g (α:=UInt8) z_ gH z z (a0.e bC) a1 (bB.blk:Blk gG gB.z [vU (byteI gC)]) a_B an_ a_2) ?_;rintro _ _ ⟨d7,gI,gJ,gK,rfl,gL,gM,gN,gO⟩;refine Rw z ?_
    obtain rfl:=som dG;have d8:=m1 bz;have d9:=a_8 he d8 bA;have da:=lt_ bA s6.s;have db:=a_8 hz d9 da;exact Wr<|rtO<|d_ hr z ⟨bM (bup (bM (bM (bup (bM (bup (bup J h4) h1) G<|m1 bx) s3) s6 d8) ay d9) bC) gL db,gI,gJ,gK,d7,z,gM,gN,(or2 gO db an_ (b_4<|lt_ (lt_ da ay.s) bC.s):∀k∈d7,w0.z<=k)⟩
   rintro _ _ _ _ rfl ⟨rfl,dH⟩;have dI:=elR bP;obtain rfl:=som dI;exact ⟨dH,z⟩
  have bT:=ifF bO aJ;refine Ws<|Rq z z z<|Rw z<|Wc z (fun aL=>?_) (fun aL=>?_)
  ·refine Ws<|E z (f0 (α:=UInt8) z_) ?_
   rintro _ _ ⟨_,_,_,rfl,az,gP⟩;refine Rf z a_E z<|R z (l0 F_ z<|(((((h5.e h1).c G<|djs<|mmr h5.lt).e s3).c s6<|djs<|mm1 h5.lt<|lt_ h1.s G.s).e az).at z) ?_
   obtain ⟨_,gQ,dJ⟩:=bdS<|ifT bT aL;have bD:=lt_ J.s h4.s;have bE:=lt_ (lt_ bD h1.s) G.s;refine E z (fN (α:=UInt8) z_ gQ z z gP M_<|O.g<|((((hn.e h1).c G<|g_ (or0 (e_ lr) (m_<|zt' H bD):∀k∈[wa.z],¬B k)).e s3).c s6<|g_ (or0 (e_ lr) (m_<|zt' H bE):∀k∈[I.z],¬B k)).e az) ?_;rintro _ _ ⟨gR,gS,gT,gU,rfl,gV,gW,gX,gY⟩;refine Rw z ?_
   obtain rfl:=som dJ;have dc:=lt_ (lt_ bE s3.s) s6.s;have dd:=m1 dc;exact Wr<|rtO<|d_ hr z ⟨bM (bup (bM (bup (bM (bup (bup J h4) h1) G<|m1 bD) s3) s6<|m1 bE) az) gV dd,gS,gT,gU,gR,z,gW,gX,a_8 gY dd<|lt_ dc az.s⟩
  refine Wk<|Wm z<|Rw z ?_
  obtain rfl:=som<|ifF bT aL;have de:=lt_ J.s h4.s;have df:=lt_ (lt_ de h1.s) G.s;have dg:=m1 df;exact Wr<|d_ hr z ⟨bM (bup (bM (bup (bup J h4) h1) G<|m1 de) s3) s6 dg,ah,ng,ci,S2,z,hd,hw,a_8 he dg<|lt_ df s3.s⟩
 rintro _ _ _ _ rfl ⟨rfl,dK⟩;have dL:=elR bF;obtain rfl:=som dL;exact ⟨dK,z⟩
theorem A_w0j:∀n,n_d n
  | 0=>⟨fun hm=>by intros;exact nomatch (show none=some _ from hm)⟩
  | n+1=>T_w0j<|A_w0j n
theorem W_w0j:k_B (e_s n).spec_l11Print:=A_w0j n
def Q18 (w0:World)(B:Zone)(r:(List UInt8)×Bool)(v:Value)(w':World):Prop:=Bw w0 w'/\un2 (fun J L=>∃G H I S1,v = .tuple #[sl G H I,vB L]/\a_ w' S1 (sl G H I) J/\S1.Nodup/\(∀k∈S1,w0.z<=k)) r
theorem W_w2v {x1:f_}{x2:Int}{x3:Val}{res:(List UInt8)×Bool}(hm:i_E n x1 x2 x3=some res)(a0:B<=w0.z)(L:repS w0 B (sl A0 N0 C0) x1.rules)(O:inI x2)(V:inI x3.number)(W:repS w0 B (sl A6 N6 C6) x3.bytes)(Y:repS w0 B (sl A7 N7 C7) x3.items):k_ prog 41 [(.agg #[sl A0 N0 C0]),vI x2,(.agg #[vI x3.number,sl A6 N6 C6,sl A7 N7 C7])] w0 (Q18 w0 B res):=by
 unfold i_E at hm
 refine goG func41 z z z fun fn hr=>Ws<|E z (fb z) ?_
 rintro _ wa ⟨rfl,hb⟩;have h2:=hb.below;refine E z (fb z) ?_;rintro _ wj ⟨rfl,hc⟩;have h1:=hc.below;have hd:Blk wj wa.z [vI x3.number,sl A6 N6 C6,sl A7 N7 C7]:=hc.blk;refine Ra z<|Rw z<|Wq<|Ws ?_
 have he:=(hb.blk:Blk wa w0.z [sl A0 N0 C0]).e h1;refine R z (lN (vs:=[sl A0 N0 C0]) v_ u_ z z fid<|he.row 0 1 z)<|Rm z<|R z (lN (vs:=[vI x3.number,sl A6 N6 C6,sl A7 N7 C7]) l_ c_ z z fid<|hd.row 0 3 z) ?_
 have h3:=(h2.ag B).e h1;have h4:=lt_ h2.s h1.s;obtain ⟨_,ek,hmf⟩:=bdS hm;refine E z (fc call37 z<|k_y ek (zt' a0 h4) (L.g h3) O V (W.g h3)<|Y.g h3) ?_;rintro _ wl ⟨G,rfl⟩;refine R z (not_ z)<|Wx z (fun H=>?_) (fun H=>?_)
 ·refine Ws<|E z (f0 (α:=UInt8) z_) ?_
  rintro _ _ ⟨am,nn,co,rfl,sp,hq⟩;refine Ra z<|Rw z ?_
  obtain rfl:=som<|ifT hmf H;exact Wr<|a_9 hr z z ⟨bup (bup (bup h2 h1) G) sp,am,nn,co,[wl.z],z,hq,M_,m1<|lt_ h4 G.s⟩
 refine Wk<|Ws<|R z (lN (vs:=[sl A0 N0 C0]) v_ u_ z z fid<|(he.e G).row 0 1 z)<|Rm z<|R z (lN (vs:=[vI x3.number,sl A6 N6 C6,sl A7 N7 C7]) l_ c_ z z fid<|(hd.e G).row 0 3 z) ?_
 have h6:=h3.e G;have J:=lt_ h4 G.s;obtain ⟨_,er,hmg⟩:=bdS<|ifF hmf H;refine E z (fc call64 z<|W_w0j.run er (zt' a0 J) (L.g h6) O V (W.g h6)<|Y.g h6) ?_;rintro _ ws ⟨s8,au,nt,cv,Sw,rfl,hh,hx,hy⟩;refine Rw z<|Wq<|Wm z<|R z (lnR p_ z<|a_.rep hh)<|R z (a_z z z)<|Wx z (fun I=>?_) (fun I=>?_)
 ·refine Ws<|E z (f0 (α:=UInt8) z_) ?_
  rintro _ _ ⟨az,a1,a2,rfl,a3,a4⟩;refine Ra z<|Rw z ?_
  obtain rfl:=som<|ifT hmg I;exact Wr<|a_9 hr z z ⟨bup (bup (bup (bup h2 h1) G) s8) a3,az,a1,a2,[ws.z],z,a4,M_,m1<|lt_ J s8.s⟩
 refine Wk<|Wm z<|Ra z<|Rw z ?_
 obtain rfl:=som<|ifF hmg I;exact Wr<|a_9 hr z z ⟨bup (bup (bup h2 h1) G) s8,au,nt,cv,Sw,z,hh,hx,h_ hy J⟩
theorem W_w2w {x1:f_}{x2:Val}{res:(List UInt8)×Bool}(hm:g_N n x1 x2=some res)(I:B<=w0.z)(H:repS w0 B (sl A0 N0 C0) x1.rules)(W:inI x2.number)(Y:repS w0 B (sl AA NA CA) x2.bytes)(a0:repS w0 B (sl AB NB CB) x2.items):k_ prog 23 [(.agg #[sl A0 N0 C0]),(.agg #[vI x2.number,sl AA NA CA,sl AB NB CB])] w0 (Q18 w0 B res):=by
 unfold g_N at hm
 refine goG func23 z z z fun fn hr=>Ws<|E z (fb z) ?_
 rintro _ J ⟨rfl,h6⟩;have h2:=h6.below;refine E z (fb z) ?_;rintro _ wd ⟨rfl,L⟩;have h1:=L.below;refine Ra z<|Rw z<|Wq (Wd (X:=noX) 0 (.rd 0<|.rd 1<|.rd 3<|.ef 2<|.ef 4<|.rd 5<|.rd 6<|.rd 7<|.rd 8 .done) mo (by kernel_rfl) fun wr G _=>?_)
 have O:=((h6.blk:Blk J w0.z [sl A0 N0 C0]).e h1).e G;refine dR z z (lN (vs:=[sl A0 N0 C0]) v_ u_ z z fid<|O.row 0 1 z)<|dR z z (lN (vs:=[sl A0 N0 C0]) v_ u_ z z fid<|O.row 0 1 z)<|dR z z (lN (vs:=[vI x2.number,sl AA NA CA,sl AB NB CB]) l_ c_ z z fid<|((L.blk:Blk wd J.z [vI x2.number,sl AA NA CA,sl AB NB CB]).e G).row 0 3 z) ?_
 have V:=((h2.ag B).e h1).e G;have ha:=lt_ (lt_ h2.s h1.s) G.s;obtain ⟨_,eg,hmf⟩:=bdS hm;refine dE z z (fc call35 z<|g_O eg (zt' I ha)<|H.g V) (.inr fun _ _ h=>o_<|h.1) ?_;rintro _ _ ⟨s3,rfl,hh⟩;have h4:=V.e s3;have hb:=lt_ ha s3.s;obtain ⟨_,_,ei,hmj⟩:=a_n hmf;refine dE z z (fc call41 z<|W_w2v ei (zt' I hb) (H.g h4) hh W (Y.g h4)<|a0.g h4) (.inr fun _ _ h=>o_<|h.1) ?_;rintro _ _ ⟨sk,al,nm,cn,So,rfl,hp,hq,ht⟩;refine dR z z (ext_ z z)<|dR z z (ext_ z z)<|dQ z z z<|dQ z z z<|pD<|Wo ?_
 obtain rfl:=som hmj;exact Wr<|a_9 hr z z ⟨bup (bup (bup (bup h2 h1) G) s3) sk,al,nm,cn,So,z,hp,hq,h_ ht hb⟩
theorem W_w2x {x1:f_}{x2:List UInt8}{x3:Str}{x4:Val}{res:(List UInt8)×Bool}(hm:g_i n x1 x2 x3 x4=some res)(L:B<=w0.z)(O:repS w0 B (sl A0 N0 C0) x1.rules)(V:repS w0 B (sl A8 N8 C8) x2)(ar:x3.b.length<=LEN)(au:inI x4.number)(av:repS w0 B (sl AH NH CH) x4.bytes)(aw:repS w0 B (sl AI NI CI) x4.items):k_ prog 6 [(.agg #[sl A0 N0 C0]),sl A8 N8 C8,Str.v x3,(.agg #[vI x4.number,sl AH NH CH,sl AI NI CI])] w0 (Q18 w0 B res):=by
 unfold g_i at hm
 refine goG func6 z z z fun fn hr=>Ws<|E z (fb z) ?_
 rintro _ wu ⟨rfl,hv⟩;have ha:=hv.below;have hh:Blk wu w0.z [sl A0 N0 C0]:=hv.blk;refine E z (fb z) ?_;rintro _ aB ⟨rfl,hw⟩;have I:=hw.below;have hx:Blk aB wu.z [vI x4.number,sl AH NH CH,sl AI NI CI]:=hw.blk;refine Ra z<|Rw z<|Ws ?_
 have hy:=hh.e I;refine R z (lN (vs:=[sl A0 N0 C0]) v_ u_ z z fid<|hy.row 0 1 z)<|Rm z ?_
 have hi:=(ha.ag B).e I;have hz:=lt_ ha.s I.s;obtain ⟨a1,_,aC,aD,ax⟩:=a_3 hm;refine E z (fc call21 z<|W_w2m aD (zt' L hz) (O.g hi)<|V.g hi) ?_;rintro _ wj ⟨s5,a2,a3,a4,_,a5,a6,a7,_,rfl,aE,hk,hl,_,_,_,_⟩;refine Rm z ?_
 iterate 3 refine Re z z z ?_
 refine E z (fa L_) ?_;rintro _ aF ⟨rfl,a8⟩;have h1:=a8.below;refine E0 (fs0 (cur':=[vI a1.number,sl a2 a3 a4,sl a5 a6 a7]) c_ z z (a8.blk:Blk aF wj.z [vI 0,sl none 0 0,sl none 0 0]) z z z z) ?_;rintro _ _ ⟨aG,aH⟩;have h2:=aH.one;refine Ra z<|Rw z<|Ws ?_
 have a9:=lt_ I.s s5.s;have aa:=((hy.e s5).e h1).c h2<|djs<|mm1 hh.lt a9
 refine R z (lN (vs:=[sl A0 N0 C0]) v_ u_ z z fid<|aa.row 0 1 z)<|R z (lN (vs:=[vI a1.number,sl a2 a3 a4,sl a5 a6 a7]) l_ c_ z z fid<|aG.row 0 3 z)<|Rm z<|R z (lN (vs:=[vI x4.number,sl AH NH CH,sl AI NI CI]) l_ c_ z z fid<|(((hx.e s5).e h1).c h2<|djs<|mm1 hx.lt s5.s).row 0 3 z) ?_
 have J:=lt_ hz s5.s;have he:=zt' L J;have hb:=((hi.e s5).e h1).c h2<|g_ (or0 (e_ lr) (m_ he):∀k∈[wj.z],¬B k)
 obtain ⟨ab,aI,aJ,ay⟩:=a_n ax;refine E z (fc call22 z<|W_w2t (B:=wj.z) aJ (a_I<|lt_ h1.s h2.s) (repS.mono (O.g hb) he) aE (or_ ((hk.e h1).c h2<|ds<|mnr<|a_.lt hk)<|a_.lt hk) (or_ ((hl.e h1).c h2<|ds<|mnr<|a_.lt hl)<|a_.lt hl) ar au (repS.mono (av.g hb) he)<|repS.mono (aw.g hb) he) ?_;rintro _ wc ⟨s6,ad,ae,af,_,ah,ai,aj,_,rfl,aK,hn,ho,_,_⟩;refine Rm z<|Re z z z<|Re z z z<|E z (fa L_) ?_
 rintro _ aL ⟨rfl,ak⟩;have h3:=ak.below;refine E0 (fs0 (cur':=[vI ab.number,sl ad ae af,sl ah ai aj]) c_ z z (ak.blk:Blk aL wc.z [vI 0,sl none 0 0,sl none 0 0]) z z z z) ?_;rintro _ wf ⟨aM,aN⟩;have h4:=aN.one;refine Rw z<|Wq<|Wq ?_
 obtain ⟨aO,W,Y⟩:=bdS ay;refine Wt (fun a w=>∃(xm:Bool),xm=aO/\Sat 53 [(1,sl A8 N8 C8),(4,pt w0.z),(13,pt wc.z),(37,vB xm)] a/\Below wf.z wf w) ?_ ?_
 ·refine Wg<|Rm z<|R z (nq z z)<|Rm z ?_
  rcases bs (aC != 0) with H | H
  ·exact Nh z H<|Nh z H<|R z (pT z H z)<|Wl (fun _ q=>⟨true,som<|ifT W H,q.k<|s4 z z z z,br wf⟩)
  exact Rh z H (mv z)<|Rh z H (not_ z)<|R z (pF z H z)<|Wl (fun _ q=>⟨!aI,som<|ifF W H,q.k<|s4 z z z z,br wf⟩)
 rintro aP _ ⟨xm,rfl,_,G⟩;revert aP;refine Wo<|Wc z (fun hcp=>?_) (fun hcp=>?_)
 ·refine Ws<|E z (f0 (α:=UInt8) z_) ?_
  rintro _ _ ⟨_,_,_,rfl,sq,aQ⟩;refine Rm z ?_;obtain ⟨_,aR,az⟩:=bdS<|ifT Y hcp;have ht:=lt_ (lt_ (lt_ J h1.s) h2.s) s6.s;refine E z (fN (α:=UInt8) z_ aR z z aQ M_<|V.g<|((((hb.e s6).e h3).c h4<|g_ (or0 (e_ lr) (m_<|zt' L ht):∀k∈[wc.z],¬B k)).e G).e sq) ?_;rintro _ _ ⟨aS,aT,aU,aV,rfl,aW,aX,aY,aZ⟩;refine Ra z<|Rw z ?_
  obtain rfl:=som az;have al:=lt_ (lt_ (lt_ ht h3.s) h4.s) G.s;have am:=m1 al;exact Wr<|a_9 hr z z ⟨bM (bup (bup (bM (bup (bup (bM (bup (bup (bup ha I) s5) h1) h2<|m1 J) s6) h3) h4<|m1 ht) G) sq) aW am,aT,aU,aV,aS,z,aX,aY,a_8 aZ am<|lt_ al sq.s⟩
 refine Wk<|Ws<|R z (lN (vs:=[sl A0 N0 C0]) v_ u_ z z fid<|((((aa.e s6).e h3).c h4<|djs<|mm1 hh.lt<|lt_ (lt_ (lt_ a9 h1.s) h2.s) s6.s).e G).row 0 1 z)<|R z (lN (vs:=[vI ab.number,sl ad ae af,sl ah ai aj]) l_ c_ z z fid<|(aM.e G).row 0 3 z) ?_
 have hd:=lt_ (lt_ (lt_ J h1.s) h2.s) s6.s;have an:=zt' L hd;have ao:=(((hb.e s6).e h3).c h4<|g_ (or0 (e_ lr) (m_ an):∀k∈[wc.z],¬B k)).e G;obtain ⟨_,_,b0,a0⟩:=a_n<|ifF Y hcp;refine E z (fc call23 z<|W_w2w (B:=wc.z) b0 (a_I<|lt_ (lt_ h3.s h4.s) G.s) (repS.mono (O.g ao) an) aK (or_ (((hn.e h3).c h4<|ds<|mnr<|a_.lt hn).e G)<|a_.lt hn)<|or_ (((ho.e h3).c h4<|ds<|mnr<|a_.lt ho).e G)<|a_.lt ho) ?_;rintro _ _ ⟨sg,b3,b4,b5,b6,rfl,b7,b8,b9⟩;refine Rm z<|Re z z z<|Re z z z<|Ra z<|Rw z<|Wq<|Wm z<|R z (not_ z)<|Wx z (fun hcr=>?_) (fun hcr=>?_)
 ·refine Ws<|E z (f0 (α:=UInt8) z_) ?_
  rintro _ _ ⟨_,_,_,rfl,ss,ba⟩;refine Rm z ?_;obtain ⟨_,bb,aA⟩:=bdS<|ifT a0 hcr;refine E z (fN (α:=UInt8) z_ bb z z ba M_<|V.g<|(ao.e sg).e ss) ?_;rintro _ _ ⟨bc,be,bf,bg,rfl,bh,bi,bj,bk⟩;refine Ra z<|Rw z ?_
  obtain rfl:=som aA;have ap:=lt_ (lt_ (lt_ (lt_ hd h3.s) h4.s) G.s) sg.s;have aq:=m1 ap;exact Wr<|a_9 hr z z ⟨bM (bup (bup (bup (bM (bup (bup (bM (bup (bup (bup ha I) s5) h1) h2<|m1 J) s6) h3) h4<|m1 hd) G) sg) ss) bh aq,be,bf,bg,bc,z,bi,bj,a_8 bk aq<|lt_ ap ss.s⟩
 refine Wk<|Wm z<|Ra z<|Rw z ?_
 obtain rfl:=som<|ifF a0 hcr;exact Wr<|a_9 hr z z ⟨bup (bup (bM (bup (bup (bM (bup (bup (bup ha I) s5) h1) h2<|m1 J) s6) h3) h4<|m1 hd) G) sg,b3,b4,b5,b6,z,b7,b8,h_ b9<|lt_ (lt_ (lt_ hd h3.s) h4.s) G.s⟩
theorem g_Q {x1:f_}{res:Int}(hm:e_l x1=some res)(J:B<=w0.z)(H:repS w0 B (sl A0 N0 C0) x1.rules):k_ prog 44 [(.agg #[sl A0 N0 C0])] w0 (Q0 w0 B res):=by
 unfold e_l at hm
 refine goG func44 z z z fun fn hr=>Ws<|E z (fb z) ?_
 rintro _ I ⟨rfl,G⟩;have h1:=G.below;refine Rw z<|Ws<|Rf z a_d z<|R z (l0 a_g z<|(G.blk:Blk I w0.z [sl A0 N0 C0]).at z)<|R z (lnR P_ z<|H.e h1)<|R z (sb_ z z)<|Rw z ?_
 obtain rfl:=som hm;exact Wr<|d_ hr z ⟨h1,z,iS _ _⟩
theorem d_h {x1:Int}{x2:Int}{x3:Int}{res:Bool}(hm:b_Z x1 x2 x3=some res)(Y:B<=w0.z)(O:inI x1)(V:inI x2)(W:inI x3):k_ prog 127 [vI x1,vI x2,vI x3] w0 (Q9 w0 B res):=by
 unfold b_Z at hm
 refine goG func127 z z z fun fn hr=>Ws<|Rw z<|Wq ?_
 obtain ⟨J,H,I⟩:=bdS hm;refine Wt (fun a w=>∃(x4:Bool),x4=J/\Sat 15 [(6,vB x4)] a/\Below w0.z w0 w) ?_ ?_
 ·refine Wg<|RM z z<|R z (b_U z z)<|Rm z ?_
  rcases bs (decide<|x2<=x1) with G | G
  ·exact Rh z G (mv z)<|Rh z G (mv z)<|Rh z G (b_U z z)<|R z (pT z G z)<|Ra z<|Wl (fun _ q=>⟨decide<|x1<=x3,som<|ifT H G,q.k<|s1 z,br w0⟩)
  iterate 3 refine Nh z G ?_
  exact R z (pF z G z)<|Ra z<|Wl (fun _ q=>⟨false,som<|ifF H G,q.k<|s1 z,br w0⟩)
 rintro L _ ⟨x4,rfl,_,s6⟩;revert L;refine Wo ?_;obtain rfl:=som I;exact Wr<|d_ hr z ⟨s6,z⟩
theorem k_C {x1:f_}{x2:Int}{res:Bool}(hm:e_k x1 x2=some res)(Y:B<=w0.z)(J:repS w0 B (sl A0 N0 C0) x1.rules)(W:inI x2):k_ prog 94 [(.agg #[sl A0 N0 C0]),vI x2] w0 (Q9 w0 B res):=by
 unfold e_k at hm
 refine goG func94 z z z fun fn hr=>Ws<|E z (fb z) ?_
 rintro _ H ⟨rfl,h2⟩;have h4:=h2.below;refine Rw z<|Wq ?_
 obtain ⟨O,I,L⟩:=bdS hm;refine Wt (fun a w=>∃(x3:Bool),x3=O/\Sat 14 [(4,vB x3)] a/\Below H.z H w) ?_ ?_
 ·refine Wg<|Rm z<|R z (b_k z z)<|Rm z ?_
  rcases bs (decide<|0<=x2) with G | G
  ·exact Rh z G (mv z)<|Rh z G (fd a_d z)<|Rh z G (l0 a_g z<|(h2.blk:Blk H w0.z [sl A0 N0 C0]).at z)<|Rh z G (lnR P_ z<|J.e h4)<|Rh z G (lss z z)<|R z (pT z G z)<|Ra z<|Wl (fun _ q=>⟨decide<|x2<(x1.rules.length:Int),som<|ifT I G,q.k<|s1 z,br H⟩)
  iterate 5 refine Nh z G ?_
  exact R z (pF z G z)<|Ra z<|Wl (fun _ q=>⟨false,som<|ifF I G,q.k<|s1 z,br H⟩)
 rintro V _ ⟨x3,rfl,_,sa⟩;revert V;refine Wo ?_;obtain rfl:=som L;exact Wr<|d_ hr z ⟨bup h4 sa,z⟩
theorem k_D {x1:Str}{res:Bool}(hm:e_i n x1=some res)(ap:B<=w0.z)(ao:x1.b.length<=LEN):k_ prog 135 [Str.v x1] w0 (Q9 w0 B res):=by
 unfold e_i at hm
 refine goG func135 z z z fun fn hr=>Ws<|Rw z<|Wq<|Wq ?_
 obtain ⟨a8,huo,hmp⟩:=bdS hm;refine Wt (fun a w=>∃(xg:Bool),xg=a8/\Sat 43 [(0,Str.v x1),(14,vB xg)] a/\Below w0.z w0 w) ?_ ?_
 ·refine Wg<|Rm z<|R z (lnT d_9 z)<|Rl z z z<|Rm z ?_
  rcases bs (decide<|(x1.b.length:Int)<1) with J | J
  ·iterate 3 refine Nh z J ?_
   exact R z (pT z J z)<|Wl (fun _ q=>⟨true,som<|ifT huo J,q.k<|s2 z z,br w0⟩)
  exact Rh z J (mv z)<|Rh z J (lnT d_9 z)<|Rh z J (a_z z z)<|R z (pF z J z)<|Wl (fun _ q=>⟨decide<|12<(x1.b.length:Int),som<|ifF huo J,q.k<|s2 z z,br w0⟩)
 rintro a9 G ⟨xg,rfl,_,s9⟩;revert a9;refine Wo<|Wc z (fun hch=>?_) (fun hch=>?_)
 ·refine Ws<|Rw z ?_
  obtain rfl:=som<|ifT hmp hch;exact Wr<|d_ hr z ⟨s9,z⟩
 refine Wk<|Wq<|Wm z<|E z (o_t d_9 z) ?_
 rintro _ I ⟨rfl,sq,aa⟩;refine Wn ?_;obtain ⟨_,a1,hmr⟩:=bdS<|ifF hmp hch;refine b_w (σ:=Nat) (ρ:=Bool) (fun (x0:Nat) a w=>Sat 43 [(16,pt G.z)] a/\Chg (· ∈ [G.z]) I w/\b_i w G.z x1 x0) (fun (x0:Nat) a w=>Sat 43 [] a/\Chg (· ∈ [G.z]) I w/\b_i w G.z x1 x0) (rQ prog fn<|Q9 w0 B) a1 ?_ ?_ ?_ ?_
 ·exact fun _ q=>⟨q.k<|s1 z,cr [G.z] I,aa⟩
 ·rintro x0 _ ws _ ⟨a2,si,he⟩ hmt;refine Wu ?_ a2;refine Ws ?_
  rcases bs (decide<|x0<x1.b.length) with hca | hca
  ·refine E z (o_u z he<|of_decide_eq_true hca) ?_;rintro _ wb ⟨rfl,ab,su⟩;refine Re z z z<|Wn<|Wq<|Wc z (fun _=>?_) (fun hc=>(bcon z hc).elim)
   refine Wk<|Wb<|Ws<|Re z z z<|Re z z z<|Ra z<|Rw z<|Wq ?_
   obtain ⟨ad,huv,a3⟩:=bdS<|ifT hmt hca;refine Wt (fun a w=>∃(xc:Bool),xc=ad/\Sat 43 [(3,vI (x0:Int)),(4,.int .i32<|(dec x1 x0).1),(5,vB xc),(16,pt G.z)] a/\Below wb.z wb w) ?_ ?_
   ·refine Wg<|Rm z<|R z (b_k z z)<|Rm z ?_
    rcases bs (decide<|97<=((dec x1 x0).1)) with L | L
    ·exact Rh z L (mv z)<|Rh z L (b_U z z)<|R z (pT z L z)<|Ra z<|Wl (fun _ q=>⟨decide<|((dec x1 x0).1)<=122,som<|ifT huv L,q.k<|s4 z z z z,br wb⟩)
    exact Nh z L<|Nh z L<|R z (pF z L z)<|Ra z<|Wl (fun _ q=>⟨false,som<|ifF huv L,q.k<|s4 z z z z,br wb⟩)
   rintro ae wd ⟨xc,rfl,_,sj⟩;revert ae;refine Wo<|Wq ?_
   obtain ⟨af,huw,a4⟩:=bdS a3;refine Wt (fun a w=>∃(xf:Bool),xf=af/\Sat 43 [(3,vI (x0:Int)),(5,vB xc),(6,vB xf),(16,pt G.z)] a/\Below wd.z wd w) ?_ ?_
   ·refine Wg<|Rm z<|R z (b_k z z)<|Rm z ?_
    rcases bs (decide<|48<=((dec x1 x0).1)) with O | O
    ·exact Rh z O (mv z)<|Rh z O (b_U z z)<|R z (pT z O z)<|Ra z<|Wl (fun _ q=>⟨decide<|((dec x1 x0).1)<=57,som<|ifT huw O,q.k<|s4 z z z z,br wd⟩)
    exact Nh z O<|Nh z O<|R z (pF z O z)<|Ra z<|Wl (fun _ q=>⟨false,som<|ifF huw O,q.k<|s4 z z z z,br wd⟩)
   rintro ah W ⟨xf,rfl,_,sk⟩;revert ah;refine Wo<|Wq ?_
   obtain ⟨ai,hux,hmy⟩:=bdS a4;refine Wt (fun a w=>∃(xl:Bool),xl=ai/\Sat 43 [(16,pt G.z),(42,vB xl)] a/\Below W.z W w) ?_ ?_
   ·refine Wg<|Rm z<|R z (not_ z)<|Rm z ?_
    rcases bs (!xc) with H | H
    ·have hmz:=ifT hux H;refine Rh z H (mv z)<|Rh z H (not_ z)<|Rh z H (mv z) ?_
     rcases bs (!xf) with V | V
     ·exact Nh z V<|Nh z V<|Rh z H (pT z V z)<|R z (pT z H z)<|Wl (fun _ q=>⟨true,som<|ifT hmz V,q.k<|s2 z z,br W⟩)
     exact Rh z V (mv z)<|Rh z V (eql z z)<|Rh z H (pF z V z)<|R z (pT z H z)<|Wl (fun _ q=>⟨(x0:Int)==0,som<|ifF hmz V,q.k<|s2 z z,br W⟩)
    iterate 3 refine Nh z H ?_
    exact Nv z<|Nv z<|Nh z H<|R z (pF z H z)<|Wl (fun _ q=>⟨false,som<|ifF hux H,q.k<|s2 z z,br W⟩)
   rintro aj ak ⟨xl,rfl,_,sm⟩;revert aj;refine Wo<|Wc z (fun hcn=>?_) (fun hcn=>?_)
   ·refine Ws<|Rw z ?_
    have Y:=m1 s9.s;exact Wr<|rtO<|qL (som<|ifT hmy hcn).symm<|d_ hr z ⟨bup (bup (bup (bM (bM (bup s9 sq) si Y) su Y) sj) sk) sm,z⟩
   refine a_h ?_;exact fun _ q=>⟨x0+(dec x1 x0).2,(som<|ifF hmy hcn).symm,⟨q.k<|s1 z,(C_ (C_ (C_ (cM (cM (cr [G.z] I) si (io sr):Chg (· ∈ [G.z]) I ws) su (io sr):Chg (· ∈ [G.z]) I wb) sj:Chg (· ∈ [G.z]) I wd) sk:Chg (· ∈ [G.z]) I W) sm:Chg (· ∈ [G.z]) I ak),((ab.e sj).e sk).e sm⟩⟩
  refine E z (o_v z he<|of_decide_eq_false hca) ?_;rintro _ al ⟨rfl,a0⟩;refine Re z z z<|Wn<|Wq<|Wc z (fun hc=>(bcon hc z).elim) (fun _=>?_)
  exact We<|fun _ q=>b_h (som<|ifF hmt hca).symm ⟨q.k sn,(C_ (cM (cr [G.z] I) si (io sr):Chg (· ∈ [G.z]) I ws) a0:Chg (· ∈ [G.z]) I al),he.e a0⟩
 ·rintro x0 am _ rfl ⟨_,an,he⟩;have a5:=elL hmr;revert am;refine Wo<|Ws<|Rw z ?_
  obtain rfl:=som a5;exact Wr<|d_ hr z ⟨bM (bup s9 sq) an<|m1 s9.s,z⟩
 rintro _ _ _ _ rfl ⟨rfl,a6⟩;have a7:=elR hmr;obtain rfl:=som a7;exact ⟨a6,z⟩
theorem d_C {x1:b_}{x2:Bool}{x3:Bool}{x4:Bool}{x5:Bool}{x6:Int}{res:Bool}(hm:c_j x1 x2 x3 x4 x5 x6=some res)(a8:B<=w0.z)(a4:x1.name.b.length<=LEN)(a5:inI x1.kind)(a6:inI x1.size)(a0:repS w0 B (sl AD ND CD) x1.bytes)(a1:repS w0 B (sl AC NC CC) x1.names)(a2:repS w0 B (sl AE NE CE) x1.tags)(a3:repS w0 B (sl AF NF CF) x1.kids)(a7:inI x6):k_ prog 154 [(.agg #[Str.v x1.name,vI x1.kind,vI x1.size,vB x1.little,sl AD ND CD,sl AC NC CC,sl AE NE CE,sl AF NF CF]),vB x2,vB x3,vB x4,vB x5,vI x6] w0 (Q9 w0 B res):=by
 unfold c_j at hm
 refine goG func154 z z z fun fn hr=>Ws<|E z (fb z) ?_
 rintro _ w9 ⟨rfl,hd⟩;have ha:=hd.below;have hb:Blk w9 w0.z (vR x1 AD ND CD AC NC CC AE NE CE AF NF CF):=hd.blk;refine Rw z<|Wq ?_
 obtain ⟨ur,hus,hmt⟩:=bdS hm;refine Wt (fun a w=>∃(xc:Bool),xc=ur/\Sat 57 [(12,vB xc)] a/\Below w9.z w9 w) ?_ ?_
 ·refine Wg<|RM z z ?_
  obtain ⟨ue,huf,hmu⟩:=bdS hus;refine c_V 18 ue 4 ?_ ?_
  ·rcases bs x2 with Y | Y
   ·iterate 3 refine Nh z Y ?_
    exact R z (pT z Y z)<|WLq 4 (ifT huf Y) z z z
   exact Rh z Y (fd a_F z)<|Rh z Y (l0 g_3 z<|hb.at z)<|Rh z Y (eql z z)<|R z (pF z Y z)<|WLq 4 (ifF huf Y) z z z
  refine Rm z ?_;obtain ⟨ug,huh,hmv⟩:=bdS hmu;refine c_V 27 ug 8 ?_ ?_
  ·rcases bs ue with G | G
   ·have hmi:=ifT huh G;refine Rh z G (mv z)<|Rh z G (mv z) ?_
    rcases bs x3 with O | O
    ·iterate 4 refine Nh z O ?_
     exact Rh z G (pT z O z)<|R z (pT z G z)<|WLq 8 (ifT hmi O) z z z
    exact Rh z O (fd a_U z)<|Rh z O (l0 F_ z<|hb.at z)<|Rh z O (lnR p_ z<|a0.e ha)<|Rh z O (eql z z)<|Rh z G (pF z O z)<|R z (pT z G z)<|WLq 8 (ifF hmi O) z z z
   exact Nh z G<|Nh z G<|Nv z<|Nv z<|Nv z<|Nv z<|Nh z G<|R z (pF z G z)<|WLq 8 (ifF huh G) z z z
  refine Rm z ?_;obtain ⟨uj,huk,hmw⟩:=bdS hmv;refine c_V 36 uj 8 ?_ ?_
  ·rcases bs ug with H | H
   ·have hml:=ifT huk H;refine Rh z H (mv z)<|Rh z H (mv z) ?_
    rcases bs x4 with V | V
    ·iterate 4 refine Nh z V ?_
     exact Rh z H (pT z V z)<|R z (pT z H z)<|WLq 8 (ifT hml V) z z z
    exact Rh z V (fd b_M z)<|Rh z V (l0 a_T z<|hb.at z)<|Rh z V (lnR Q_ z<|a1.e ha)<|Rh z V (eql z z)<|Rh z H (pF z V z)<|R z (pT z H z)<|WLq 8 (ifF hml V) z z z
   exact Nh z H<|Nh z H<|Nv z<|Nv z<|Nv z<|Nv z<|Nh z H<|R z (pF z H z)<|WLq 8 (ifF huk H) z z z
  refine Rm z ?_;obtain ⟨um,hun,hmo⟩:=bdS hmw;refine c_V 45 um 8 ?_ ?_
  ·rcases bs uj with I | I
   ·have hmp:=ifT hun I;refine Rh z I (mv z)<|Rh z I (mv z) ?_
    rcases bs x5 with W | W
    ·iterate 4 refine Nh z W ?_
     exact Rh z I (pT z W z)<|R z (pT z I z)<|WLq 8 (ifT hmp W) z z z
    exact Rh z W (fd b_2 z)<|Rh z W (l0 B_ z<|hb.at z)<|Rh z W (lnR x_ z<|a2.e ha)<|Rh z W (eql z z)<|Rh z I (pF z W z)<|R z (pT z I z)<|WLq 8 (ifF hmp W) z z z
   exact Nh z I<|Nh z I<|Nv z<|Nv z<|Nv z<|Nv z<|Nh z I<|R z (pF z I z)<|WLq 8 (ifF hun I) z z z
  refine Rm z ?_
  rcases bs um with J | J
  ·have hmq:=ifT hmo J;refine Rh z J (mv z)<|Rh z J (lss z z)<|Rh z J (mv z) ?_
   rcases bs (decide<|x6<0) with L | L
   ·iterate 5 refine Nh z L ?_
    exact Rh z J (pT z L z)<|R z (pT z J z)<|Ra z<|Wl (fun _ q=>⟨true,som<|ifT hmq L,q.k<|s1 z,br w9⟩)
   exact Rh z L (fd T_ z)<|Rh z L (l0 B_ z<|hb.at z)<|Rh z L (lnR x_ z<|a3.e ha)<|Rh z L (mv z)<|Rh z L (eql z z)<|Rh z J (pF z L z)<|R z (pT z J z)<|Ra z<|Wl (fun _ q=>⟨(x1.kids.length:Int)==x6,som<|ifF hmq L,q.k<|s1 z,br w9⟩)
  iterate 3 refine Nh z J ?_
  exact Nv z<|Nv z<|Nv z<|Nv z<|Nv z<|Nh z J<|R z (pF z J z)<|Ra z<|Wl (fun _ q=>⟨false,som<|ifF hmo J,q.k<|s1 z,br w9⟩)
 rintro ax _ ⟨xc,rfl,_,sy⟩;revert ax;refine Wo ?_;obtain rfl:=som hmt;exact Wr<|d_ hr z ⟨bup ha sy,z⟩
theorem f_1 {x1:f_}{x2:Int}{res:Int}(hm:c_T x1 x2=some res)(V:B<=w0.z)(I:repS w0 B (sl A0 N0 C0) x1.rules)(Y:inI x2):k_ prog 140 [(.agg #[sl A0 N0 C0]),vI x2] w0 (Q0 w0 B res):=by
 unfold c_T at hm
 refine goG func140 z z z fun fn hr=>Ws<|E z (fb z) ?_
 rintro _ L ⟨rfl,W⟩;have h2:=W.below;have h6:Blk L w0.z [sl A0 N0 C0]:=W.blk;refine Rw z<|Wq<|Wq ?_
 obtain ⟨uf,hug,hma⟩:=bdS hm;refine Wt (fun a w=>∃(O:Bool),O=uf/\Sat 37 [(1,vI x2),(2,pt w0.z),(27,vB O)] a/\Below L.z L w) ?_ ?_
 ·refine Wg<|R z (lN (vs:=[sl A0 N0 C0]) v_ u_ z z fid<|h6.row 0 1 z)<|Rm z ?_
  obtain ⟨rh,ei,hmb⟩:=bdS hug;refine E z (fc call94 z<|k_C ei (zt' V h2.s) (I.e h2) Y) ?_;rintro _ _ ⟨s4,rfl⟩;refine R z (not_ z)<|Rm z ?_
  rcases bs (!rh) with H | H
  ·iterate 7 refine Nh z H ?_
   exact R z (pT z H z)<|Rm z<|Nh z z<|Nh z z<|Nh z z<|Nh z z<|Nh z z<|Nh z z<|Nh z z<|Nh z z<|R z (pT z z z)<|Wl (fun _ q=>⟨true,som<|ifT hmb H,q.k<|s3 z z z,s4⟩)
  refine Rh z H (fd a_d z) ?_;have hc:=h6.e s4;refine Rh z H (l0 a_g z<|hc.at z)<|Rh z H (mv z) ?_
  obtain ⟨xj,ek,hmd⟩:=bdS<|ifF hmb H;have he:=I.g<|(h2.ag B).e s4
  refine RXg z z H z (at_ (α:=b_) P_ r_ z z z he ek) ?_;rintro _ ⟨_,_,_,rfl,hl,hn,_⟩;obtain ⟨_,_,_,_,_,_,_,_,_,_,_,_,rfl,_,_,_,_,_,_,_⟩:=a_A hn;refine Rh z H (fd a_x z)<|Rh z H (l0 g_3 z<|hl.at (j:=1) z)<|Rh z H (nq z z)<|R z (pF z H z)<|Rm z ?_
  rcases bs (xj.kind != 1) with G | G
  ·iterate 8 refine Nh z G ?_
   exact R z (pT z G z)<|Wl (fun _ q=>⟨true,som<|ifT hmd G,q.k<|s3 z z z,s4⟩)
  refine Rh z G (fd a_d z)<|Rh z G (l0 a_g z<|hc.at z)<|Rh z G (mv z) ?_
  obtain ⟨_,em,hmo⟩:=bdS<|ifF hmd G;refine RXg z z G z (at_ (α:=b_) P_ r_ z z z he em) ?_;rintro _ ⟨_,_,_,rfl,hp,hq,_⟩;obtain ⟨_,_,_,_,_,_,_,_,_,_,_,_,rfl,_,_,ht,_,_,_,_⟩:=a_A hq;refine Rh z G (fd a_F z)<|Rh z G (l0 g_3 z<|hp.at (j:=2) z) ?_
  obtain ⟨rr,es,hmu⟩:=bdS hmo;refine Eg z z G z (fc call127 z<|d_h es (zt' V<|lt_ h2.s s4.s) ht (ii z)<|ii z) ?_;rintro _ _ ⟨sv,rfl⟩;exact Rh z G (not_ z)<|R z (pF z G z)<|Wl (fun _ q=>⟨!rr,som hmu,q.k<|s3 z z z,bup s4 sv⟩)
 rintro aw _ ⟨O,rfl,_,s5⟩;revert aw;refine Wo<|Wc z (fun J=>?_) (fun J=>?_)
 ·refine Ws<|Rw z ?_
  obtain rfl:=som<|ifT hma J;exact Wr<|d_ hr z ⟨bup h2 s5,z,ii z⟩
 refine Wk<|Ws<|Rf z a_d z<|R z (l0 a_g z<|(h6.e s5).at z)<|Rm z ?_
 obtain ⟨_,ex,hmy⟩:=bdS<|ifF hma J;refine RX z (at_ (α:=b_) P_ r_ z z z (I.g<|(h2.ag B).e s5) ex) ?_;rintro _ ⟨_,_,_,rfl,hz,a1,_⟩;obtain ⟨_,_,_,_,_,_,_,_,_,_,_,_,rfl,_,_,_,_,_,_,_⟩:=a_A a1;refine Rf z a_F z<|R z (l0 g_3 z<|hz.at (j:=2) z)<|R z (e_M z z) ?_
 obtain ⟨_,a2,a0⟩:=bdS hmy;refine R z (g_v z z<|nnS a2)<|R z (sb_ z z)<|Rw z ?_
 obtain rfl:=som a0;exact Wr<|d_ hr z ⟨bup h2 s5,z,iS _ _⟩
theorem W_w2y {x1:List Str}{x2:Str}{res:Bool}(hm:f_S x1 x2=some res)(a1:B<=w0.z)(G:repS w0 B (sl A0 N0 C0) x1)(a0:x2.b.length<=LEN):k_ prog 159 [sl A0 N0 C0,Str.v x2] w0 (Q9 w0 B res):=by
 unfold f_S at hm
 refine goG func159 z z z fun fn hr=>Ws<|Rw z<|Wq<|Wm z<|R z (lnR Q_ z G)<|Rm z<|Wn ?_
 obtain ⟨_,V,J⟩:=bdS hm;refine Wf (σ:=Unit) (ρ:=Bool) (fun (k3:Nat)(_:Unit) a w=>Sat 17 [(1,Str.v x2),(7,sl A0 N0 C0),(8,vI (x1.length:Int)),(9,vI ((k3:Nat):Int))] a/\Below w0.z w0 w) (fun (_:Unit) a w=>Sat 17 [] a/\Below w0.z w0 w) (rQ prog fn<|Q9 w0 B) V ?_ ?_ ?_ ?_ ?_
 ·exact fun _ q=>⟨q.k<|s4 z z z z,br w0⟩
 ·rintro k3 _ _ _ _ L ⟨W,I⟩ Y;refine Wu ?_ W;refine Ws<|Rl z z z<|Wn<|Wq<|Wc z (fun _=>?_) (fun hc=>(U_ L hc).elim)
  refine Wk<|Wq<|Wb<|Ws ?_
  obtain ⟨_,e9,O⟩:=bdS Y;refine RX z (at_ (α:=Str) Q_ z_9 z z z (G.e I) e9) ?_;rintro _ ⟨_,_,_,rfl,ha,hb,_⟩;obtain ⟨rfl,_⟩:=b_9 hb;refine R z (l0 g_9 z<|ha.at0 z)<|Rw z<|Wm z<|Rm z<|R z (b_y z z)<|Wx z (fun H=>?_) (fun H=>?_)
  ·exact Ws<|Rw z<|Wr<|rtO<|qL (som<|ifT O H).symm<|d_ hr z ⟨I,z⟩
  exact Wk<|Wg<|R z (inc_ L (lt_ (repS.len G) D_) z z)<|Rm z<|Wl (fun _ q=>⟨(),(som<|ifF O H).symm,⟨q.k<|s4 z z z z,I⟩⟩)
 ·rintro _ _ _ ⟨hSc,sd⟩;refine Wu ?_ hSc;refine Ws<|Rl z z z<|Wn<|Wq<|Wc z (fun hc=>(V_ hc).elim) (fun _=>?_)
  exact We<|fun _ q=>⟨rfl,⟨q.k sn,sd⟩⟩
 ·rintro _ ae _ rfl ⟨_,sf⟩;have hmg:=elL J;revert ae;refine Wo<|Ws<|Rw z ?_
  obtain rfl:=som hmg;exact Wr<|d_ hr z ⟨sf,z⟩
 rintro _ _ _ _ rfl ⟨rfl,hqh⟩;have hmi:=elR J;obtain rfl:=som hmi;exact ⟨hqh,z⟩
theorem W_w2z {x1:b_}{res:Bool}(hm:h_h n x1=some res)(O:B<=w0.z)(Y:x1.name.b.length<=LEN)(a0:inI x1.kind)(a1:inI x1.size)(a2:repS w0 B (sl AD ND CD) x1.bytes)(J:repS w0 B (sl AC NC CC) x1.names)(a3:repS w0 B (sl AE NE CE) x1.tags)(W:repS w0 B (sl AF NF CF) x1.kids):k_ prog 155 [(.agg #[Str.v x1.name,vI x1.kind,vI x1.size,vB x1.little,sl AD ND CD,sl AC NC CC,sl AE NE CE,sl AF NF CF])] w0 (Q9 w0 B res):=by
 unfold h_h at hm
 refine goG func155 z z z fun fn hr=>Ws<|E z (fb z) ?_
 rintro _ V ⟨rfl,hi⟩;have h1:=hi.below;have ha:Blk V w0.z (vR x1 AD ND CD AC NC CC AE NE CE AF NF CF):=hi.blk;refine Rw z<|Wq<|Wq ?_
 obtain ⟨uy,huz,hmj⟩:=bdS hm;refine Wt (fun a w=>∃(xb:Bool),xb=uy/\Sat 44 [(1,pt w0.z),(23,vB xb)] a/\Below V.z V w) ?_ ?_
 ·refine Wg<|R z (lN (vs:=vR x1 AD ND CD AC NC CC AE NE CE AF NF CF) G_ r_ z z fid<|ha.row 0 8 z) ?_
  obtain ⟨ai,aj,hmk⟩:=bdS huz;refine E z (fc call154 z<|d_C aj (zt' O h1.s) Y a0 a1 (a2.e h1) (J.e h1) (a3.e h1) (W.e h1)<|ii z) ?_;rintro _ _ ⟨s6,rfl⟩;refine R z (not_ z)<|Rm z ?_
  rcases bs (!ai) with G | G
  ·iterate 7 refine Nh z G ?_
   exact R z (pT z G z)<|Rm z<|Nh z z<|Nh z z<|Nh z z<|Nh z z<|Nh z z<|R z (pT z z z)<|Wl (fun _ q=>⟨true,som<|ifT hmk G,q.k<|s2 z z,s6⟩)
  have hml:=ifF hmk G;refine Rh z G (fd T_ z) ?_;have hd:=ha.e s6;refine Rh z G (l0 B_ z<|hd.at z) ?_;have hn:=(h1.ag B).e s6;have he:=W.g hn;refine Rh z G (lnR x_ z he)<|Rh z G (fd b_M z)<|Rh z G (l0 a_T z<|hd.at z)<|Rh z G (lnR Q_ z<|J.g hn)<|Rh z G (nq z z)<|R z (pF z G z)<|Rm z ?_
  rcases bs ((x1.kids.length:Int) != (x1.names.length:Int)) with I | I
  ·iterate 5 refine Nh z I ?_
   exact R z (pT z I z)<|Wl (fun _ q=>⟨true,som<|ifT hml I,q.k<|s2 z z,s6⟩)
  refine Rh z I (fd T_ z)<|Rh z I (l0 B_ z<|hd.at z)<|Rh z I (lnR x_ z he) ?_
  obtain ⟨ak,al,a4⟩:=bdS<|ifF hml I;refine Eg z z I z (fc call127 z<|d_h al (zt' O<|lt_ h1.s s6.s) (b_f<|repS.len he) (ii z)<|ii z) ?_;rintro _ _ ⟨am,rfl⟩;exact Rh z I (not_ z)<|R z (pF z I z)<|Wl (fun _ q=>⟨!ak,som a4,q.k<|s2 z z,bup s6 am⟩)
 rintro an L ⟨xb,rfl,_,s7⟩;revert an;refine Wo<|Wc z (fun hcc=>?_) (fun hcc=>?_)
 ·refine Ws<|Rw z ?_
  obtain rfl:=som<|ifT hmj hcc;exact Wr<|d_ hr z ⟨bup h1 s7,z⟩
 refine Wk<|Wq<|Ws<|Rf z b_M z ?_
 have ho:=ha.e s7;refine R z (l0 a_T z<|ho.at z) ?_;have hp:=(h1.ag B).e s7;refine R z (lnR Q_ z<|J.g hp)<|Rm z<|Wn ?_
 obtain ⟨_,a5,hmm⟩:=bdS<|ifF hmj hcc;refine Wf (σ:=Unit) (ρ:=Bool) (fun (kf:Nat)(_:Unit) a w=>Sat 44 [(1,pt w0.z),(25,sl AC NC CC),(26,vI (x1.names.length:Int)),(27,vI ((kf:Nat):Int))] a/\Below L.z L w) (fun (_:Unit) a w=>Sat 44 [] a/\Below L.z L w) (rQ prog fn<|Q9 w0 B) a5 ?_ ?_ ?_ ?_ ?_
 ·exact fun _ q=>⟨q.k<|s4 z z z z,br L⟩
 ·rintro kf _ _ wq _ hkr ⟨a6,s8⟩ a7;refine Wu ?_ a6;refine Ws<|Rl z z z<|Wn<|Wq<|Wc z (fun _=>?_) (fun hc=>(U_ hkr hc).elim)
  refine Wk<|Wq<|Wb<|Wm z ?_
  obtain ⟨_,ao,a8⟩:=bdS a7;have ht:=hp.e s8;refine RX z (at_ (α:=Str) Q_ z_9 z z z (J.g ht) ao) ?_;rintro _ ⟨_,_,_,rfl,ap,aq,_⟩;obtain ⟨rfl,hu⟩:=b_9 aq;refine R z (l0 g_9 z<|ap.at0 z)<|Ra z<|Rw z<|Wq ?_
  obtain ⟨ar,a9,hms⟩:=bdS a8;refine Wt (fun a w=>∃(xg:Bool),xg=ar/\Sat 44 [(1,pt w0.z),(25,sl AC NC CC),(26,vI (x1.names.length:Int)),(27,vI ((kf:Nat):Int)),(42,vB xg)] a/\Below wq.z wq w) ?_ ?_
  ·refine Wg<|Rm z ?_
   have hv:=lt_ (lt_ h1.s s7.s) s8.s;obtain ⟨au,av,hmw⟩:=bdS a9;refine E z (fc call135 z<|k_D av (zt' O hv) hu) ?_;rintro _ _ ⟨s9,rfl⟩;refine R z (not_ z)<|Rm z ?_
   rcases bs (!au) with H | H
   ·iterate 6 refine Nh z H ?_
    exact R z (pT z H z)<|Wl (fun _ q=>⟨true,som<|ifT hmw H,q.k<|s5 z z z z z,s9⟩)
   refine Rh z H (fd b_M z)<|Rh z H (l0 a_T z<|((ho.e s8).e s9).at z)<|Rh z H (mv z) ?_
   obtain ⟨_,aw,aa⟩:=bdS<|ifF hmw H;refine RXg z z H z (rX Q_ z_9 z z (J.g<|ht.e s9) z z aw) ?_;rintro _ ⟨_,_,_,rfl,ax⟩;refine Rh z H (mv z) ?_;obtain ⟨ay,az,ab⟩:=bdS aa;refine Eg z z H z (fc call159 z<|W_w2y az (zt' O<|lt_ hv s9.s) ax hu) ?_;rintro _ _ ⟨aA,rfl⟩;exact R z (pF z H z)<|Wl (fun _ q=>⟨ay,som ab,q.k<|s5 z z z z z,bup s9 aA⟩)
  rintro aB _ ⟨xg,rfl,_,sx⟩;revert aB;refine Wo<|Wc z (fun hch=>?_) (fun hch=>?_)
  ·exact Ws<|Rw z<|Wr<|rtO<|qL (som<|ifT hms hch).symm<|d_ hr z ⟨bup (bup (bup h1 s7) s8) sx,z⟩
  exact Wk<|Wg<|R z (inc_ hkr (lt_ (repS.len J) D_) z z)<|Rm z<|Wl (fun _ q=>⟨(),(som<|ifF hms hch).symm,⟨q.k<|s4 z z z z,bup s8 sx⟩⟩)
 ·rintro _ _ _ ⟨ad,aC⟩;refine Wu ?_ ad;refine Ws<|Rl z z z<|Wn<|Wq<|Wc z (fun hc=>(V_ hc).elim) (fun _=>?_)
  exact We<|fun _ q=>⟨rfl,⟨q.k sn,aC⟩⟩
 ·rintro _ aD _ rfl ⟨_,aE⟩;have ae:=elL hmm;revert aD;refine Wo<|Ws<|Rw z ?_
  obtain rfl:=som ae;exact Wr<|d_ hr z ⟨bup (bup h1 s7) aE,z⟩
 rintro _ _ _ _ rfl ⟨rfl,af⟩;have ah:=elR hmm;obtain rfl:=som ah;exact ⟨af,z⟩
theorem W_w30 {x1:f_}{x2:b_}{res:Bool}(hm:h_i x1 x2=some res)(O:B<=w0.z)(a4:repS w0 B (sl A0 N0 C0) x1.rules)(a5:x2.name.b.length<=LEN)(a6:inI x2.kind)(a7:inI x2.size)(a8:repS w0 B (sl A2 N2 C2) x2.bytes)(a9:repS w0 B (sl A3 N3 C3) x2.names)(J:repS w0 B (sl A1 N1 C1) x2.tags)(V:repS w0 B (sl A4 N4 C4) x2.kids):k_ prog 156 [(.agg #[sl A0 N0 C0]),(.agg #[Str.v x2.name,vI x2.kind,vI x2.size,vB x2.little,sl A2 N2 C2,sl A3 N3 C3,sl A1 N1 C1,sl A4 N4 C4])] w0 (Q9 w0 B res):=by
 unfold h_i at hm
 refine goG func156 z z z fun fn hr=>Ws<|E z (fb z) ?_
 rintro _ L ⟨rfl,hn⟩;have h4:=hn.below;refine E z (fb z) ?_;rintro _ wg ⟨rfl,ho⟩;have h3:=ho.below;have he:Blk wg L.z (vR x2 A2 N2 C2 A3 N3 C3 A1 N1 C1 A4 N4 C4):=ho.blk;refine Rw z<|Wq<|Wq ?_
 obtain ⟨aq,aa,hmp⟩:=bdS hm;refine Wt (fun a w=>∃(xh:Bool),xh=aq/\Sat 57 [(2,pt w0.z),(3,pt L.z),(21,vB xh)] a/\Below wg.z wg w) ?_ ?_
 ·refine Wg<|R z (lN (vs:=vR x2 A2 N2 C2 A3 N3 C3 A1 N1 C1 A4 N4 C4) G_ r_ z z fid<|he.row 0 8 z)<|Rf z b_2 z<|R z (l0 B_ z<|he.at z) ?_
  have h6:=(h4.ag B).e h3;have hq:=J.g h6;refine R z (lnR x_ z hq)<|R z (add_ z z) ?_
  have ht:=lt_ h4.s h3.s;obtain ⟨ar,au,hmr⟩:=bdS aa;refine E z (fc call154 z<|d_C au (zt' O ht) a5 a6 a7 (a8.g h6) (a9.g h6) hq (V.g h6)<|iA _ _) ?_;rintro _ _ ⟨s9,rfl⟩;refine R z (not_ z)<|Rm z ?_
  rcases bs (!ar) with I | I
  ·iterate 5 refine Nh z I ?_
   exact R z (pT z I z)<|Wl (fun _ q=>⟨true,som<|ifT hmr I,q.k<|s3 z z z,s9⟩)
  refine Rh z I (fd b_2 z)<|Rh z I (l0 B_ z<|(he.e s9).at z) ?_
  have hu:=J.g<|h6.e s9
  refine Rh z I (lnR x_ z hu) ?_;obtain ⟨av,aw,ab⟩:=bdS<|ifF hmr I;refine Eg z z I z (fc call127 z<|d_h aw (zt' O<|lt_ ht s9.s) (b_f<|repS.len hu) (ii z)<|ii z) ?_;rintro _ _ ⟨ax,rfl⟩;exact Rh z I (not_ z)<|R z (pF z I z)<|Wl (fun _ q=>⟨!av,som ab,q.k<|s3 z z z,bup s9 ax⟩)
 rintro ay _ ⟨xh,rfl,_,s7⟩;revert ay;refine Wo<|Wc z (fun hci=>?_) (fun hci=>?_)
 ·refine Ws<|Rw z ?_
  obtain rfl:=som<|ifT hmp hci;exact Wr<|d_ hr z ⟨bup (bup h4 h3) s7,z⟩
 refine Wk<|Wq (Wd (X:=noX) 0 (pl_ 7 [5]) mo (by kernel_rfl) fun aV s8 _=>dR z z (lN (vs:=[sl A0 N0 C0]) v_ u_ z z fid<|((((hn.blk:Blk L w0.z [sl A0 N0 C0]).e h3).e s7).e s8).row 0 1 z)<|dR z z (fd T_ z) ?_)
 have hv:=(he.e s7).e s8;refine dR z z (l0 B_ z<|hv.at z) ?_;obtain ⟨_,az,ad⟩:=bdS<|ifF hmp hci;have hj:=(((h4.ag B).e h3).e s7).e s8;refine dRX z z (at_ (α:=Int) x_ z_3 z z z (V.g hj) az) ?_;rintro _ ⟨_,_,_,rfl,aA,aB,_⟩;obtain ⟨rfl,aC⟩:=a_1 aB;refine dR z z (l0 g_3 z<|aA.at0 z) ?_;have hw:=lt_ (lt_ (lt_ h4.s h3.s) s7.s) s8.s;obtain ⟨rk,aD,ae⟩:=bdS ad;refine dE z z (fc call140 z<|f_1 aD (zt' O hw) (a4.g hj) aC) (.inr fun _ _ h=>o_<|h.1) ?_;rintro _ wa ⟨sb,rfl,aE⟩;refine dQ z z z<|pD<|Wo<|Wq<|Ws<|Rf z b_2 z ?_
 have hx:=hv.e sb;refine R z (l0 B_ z<|hx.at z) ?_;have hy:=hj.e sb;refine R z (lnR x_ z<|J.g hy)<|Rm z<|Wn ?_
 obtain ⟨_,af,hms⟩:=bdS ae;refine Wf (σ:=Unit) (ρ:=Bool) (fun (kf:Nat)(_:Unit) a w=>Sat 57 [(3,pt L.z),(5,vI rk),(29,sl A1 N1 C1),(30,vI (x2.tags.length:Int)),(31,vI ((kf:Nat):Int))] a/\Below wa.z wa w) (fun (_:Unit) a w=>Sat 57 [(5,vI rk)] a/\Below wa.z wa w) (rQ prog fn<|Q9 w0 B) af ?_ ?_ ?_ ?_ ?_
 ·exact fun _ q=>⟨q.k<|s5 z z z z z,br wa⟩
 ·rintro kf _ _ wz _ W ⟨ah,sc⟩ ai;refine Wu ?_ ah;refine Ws<|Rl z z z<|Wn<|Wq<|Wc z (fun _=>?_) (fun hc=>(U_ W hc).elim)
  refine Wk<|Wq<|Wb<|Wm z ?_
  obtain ⟨aF,aG,aj⟩:=bdS ai;have a2:=hy.e sc;refine RX z (at_ (α:=Int) x_ z_3 z z z (J.g a2) aG) ?_;rintro _ ⟨_,_,_,rfl,aH,aI,_⟩;obtain ⟨rfl,aJ⟩:=a_1 aI;refine R z (l0 g_3 z<|aH.at0 z)<|Ra z<|Rw z<|Wq ?_
  obtain ⟨aK,ak,Y⟩:=bdS aj;refine Wt (fun a w=>∃(xl:Bool),xl=aK/\Sat 57 [(3,pt L.z),(5,vI rk),(29,sl A1 N1 C1),(30,vI (x2.tags.length:Int)),(31,vI ((kf:Nat):Int)),(53,vB xl)] a/\Below wz.z wz w) ?_ ?_
  ·refine Wg<|RM z z ?_
   obtain ⟨aL,aM,a0⟩:=bdS ak;refine E z (fc call127 z<|d_h aM (zt' O<|lt_ (lt_ hw sb.s) sc.s) aJ (ii z) aE) ?_;rintro _ _ ⟨sd,rfl⟩;refine R z (not_ z)<|Rm z ?_
   rcases bs (!aL) with H | H
   ·iterate 3 refine Nh z H ?_
    exact Nv z<|Nv z<|Nv z<|Nv z<|Nv z<|Nv z<|Nv z<|Nv z<|Nh z H<|R z (pT z H z)<|Wl (fun _ q=>⟨true,som<|ifT a0 H,q.k<|s6 z z z z z z,sd⟩)
   have a1:=ifF a0 H;refine Rh z H (mv z)<|Rh z H (a_z z z)<|Rh z H (mv z) ?_
   rcases bs (decide<|0<((kf:Nat):Int)) with G | G
   ·refine Rh z G (fd b_2 z)<|Rh z G (l0 B_ z<|((hx.e sc).e sd).at z)<|Rh z G (mv z)<|Rh z G (sb_ z z) ?_
    obtain ⟨aN,aO,al⟩:=bdS<|ifT a1 G;refine RXg z z G z (at_ (α:=Int) x_ z_3 z z z (J.g<|a2.e sd) aO) ?_;rintro _ ⟨_,_,_,rfl,aP,aQ,_⟩;obtain ⟨rfl,_⟩:=a_1 aQ;exact Rh z G (l0 g_3 z<|aP.at0 z)<|Rh z G (mv z)<|Rh z G (b_k z z)<|Rh z H (pT z G z)<|R z (pF z H z)<|Wl (fun _ q=>⟨decide<|aF<=aN,som al,q.k<|s6 z z z z z z,sd⟩)
   iterate 8 refine Nh z G ?_
   exact Rh z H (pF z G z)<|R z (pF z H z)<|Wl (fun _ q=>⟨false,som<|ifF a1 G,q.k<|s6 z z z z z z,sd⟩)
  rintro aR _ ⟨xl,rfl,_,a3⟩;revert aR;refine Wo<|Wc z (fun hcm=>?_) (fun hcm=>?_)
  ·exact Ws<|Rw z<|Wr<|rtO<|qL (som<|ifT Y hcm).symm<|d_ hr z ⟨bup (bup (bup (bup (bup (bup h4 h3) s7) s8) sb) sc) a3,z⟩
  exact Wk<|Wg<|R z (inc_ W (lt_ (repS.len J) D_) z z)<|Rm z<|Wl (fun _ q=>⟨(),(som<|ifF Y hcm).symm,⟨q.k<|s5 z z z z z,bup sc a3⟩⟩)
 ·rintro _ _ _ ⟨am,aS⟩;refine Wu ?_ am;refine Ws<|Rl z z z<|Wn<|Wq<|Wc z (fun hc=>(V_ hc).elim) (fun _=>?_)
  exact We<|fun _ q=>⟨rfl,⟨q.k<|s1 z,aS⟩⟩
 ·rintro _ aT _ rfl ⟨_,aU⟩;have an:=elL hms;revert aT;refine Wo<|Wm z<|R z (a_z z z)<|Rw z ?_
  obtain rfl:=som an;exact Wr<|d_ hr z ⟨bup (bup (bup (bup (bup h4 h3) s7) s8) sb) aU,z⟩
 rintro _ _ _ _ rfl ⟨rfl,ao⟩;have ap:=elR hms;obtain rfl:=som ap;exact ⟨ao,z⟩
theorem W_w31 {x1:f_}{x2:b_}{res:Bool}(hm:h_j n x1 x2=some res)(L:B<=w0.z)(a7:repS w0 B (sl A0 N0 C0) x1.rules)(a3:x2.name.b.length<=LEN)(a4:inI x2.kind)(V:inI x2.size)(W:repS w0 B (sl A2 N2 C2) x2.bytes)(a5:repS w0 B (sl A3 N3 C3) x2.names)(a6:repS w0 B (sl A1 N1 C1) x2.tags)(Y:repS w0 B (sl A4 N4 C4) x2.kids):k_ prog 145 [(.agg #[sl A0 N0 C0]),(.agg #[Str.v x2.name,vI x2.kind,vI x2.size,vB x2.little,sl A2 N2 C2,sl A3 N3 C3,sl A1 N1 C1,sl A4 N4 C4])] w0 (Q9 w0 B res):=by
 unfold h_j at hm
 refine goG func145 z z z fun fn hr=>Ws<|E z (fb z) ?_
 rintro _ ww ⟨rfl,aJ⟩;have h1:=aJ.below;have hx:Blk ww w0.z [sl A0 N0 C0]:=aJ.blk;refine E z (fb z) ?_;rintro _ J ⟨rfl,aK⟩;have G:=aK.below;have h6:Blk J ww.z (vR x2 A2 N2 C2 A3 N3 C3 A1 N1 C1 A4 N4 C4):=aK.blk;refine Rw z<|Wq<|Ws<|Rf z a_x z<|R z (l0 g_3 z<|h6.at z)<|Wn<|Wb<|Ws<|Rq z z z<|Rw z<|Wc z (fun hcy=>?_) (fun hcy=>?_)
 ·refine Wq ?_;obtain ⟨bt,b3,b4⟩:=bdS<|ifT hm hcy;refine Wt (fun a w=>∃(xz:Bool),xz=bt/\Sat 102 [(4,vB xz)] a/\Below J.z J w) ?_ ?_
  ·refine Wg<|R z (lN (vs:=vR x2 A2 N2 C2 A3 N3 C3 A1 N1 C1 A4 N4 C4) G_ r_ z z fid<|h6.row 0 8 z) ?_
   have hq:=(h1.ag B).e G;have aL:=lt_ h1.s G.s;obtain ⟨bu,bv,ap⟩:=bdS b3;refine E z (fc call154 z<|d_C bv (zt' L aL) a3 a4 V (W.g hq) (a5.g hq) (a6.g hq) (Y.g hq)<|ii z) ?_;rintro _ _ ⟨se,rfl⟩;refine Rm z ?_
   rcases bs bu with hca | hca
   ·refine Rh z hca (fd a_F z) ?_;have aM:=h6.e se;refine Rh z hca (l0 g_3 z<|aM.at z) ?_;obtain ⟨bw,bx,aq⟩:=bdS<|ifT ap hca;refine Eg z z hca z (fc call127 z<|d_h bx (zt' L<|lt_ aL se.s) V (ii z)<|ii z) ?_;rintro _ _ ⟨sr,rfl⟩;refine R z (pT z hca z)<|Rm z ?_
    rcases bs bw with O | O
    ·have ar:=ifT aq O;refine Rh z O (fd c_s z) ?_;have aN:=aM.e sr;refine Rh z O (l0 g_4 z<|aN.at z)<|Rh z O (not_ z)<|Rh z O (mv z) ?_
     rcases bs (!x2.little) with hcb | hcb
     ·iterate 3 refine Nh z hcb ?_
      exact Rh z O (pT z hcb z)<|R z (pT z O z)<|Ra z<|Wl (fun _ q=>⟨true,som<|ifT ar hcb,q.k<|s1 z,bup se sr⟩)
     exact Rh z hcb (fd a_F z)<|Rh z hcb (l0 g_3 z<|aN.at z)<|Rh z hcb (a_z z z)<|Rh z O (pF z hcb z)<|R z (pT z O z)<|Ra z<|Wl (fun _ q=>⟨decide<|1<x2.size,som<|ifF ar hcb,q.k<|s1 z,bup se sr⟩)
    iterate 4 refine Nh z O ?_
    exact Nv z<|Nv z<|Nv z<|Nh z O<|R z (pF z O z)<|Ra z<|Wl (fun _ q=>⟨false,som<|ifF aq O,q.k<|s1 z,bup se sr⟩)
   iterate 3 refine Nh z hca ?_
   exact R z (pF z hca z)<|Rm z<|Nh z z<|Nh z z<|Nh z z<|Nh z z<|Nv z<|Nv z<|Nv z<|Nh z z<|R z (pF z z z)<|Ra z<|Wl (fun _ q=>⟨false,som<|ifF ap hca,q.k<|s1 z,se⟩)
  rintro bz _ ⟨xz,rfl,_,bA⟩;revert bz;refine Wo ?_;obtain rfl:=som b4;exact Wr<|rtO<|d_ hr z ⟨bup (bup h1 G) bA,z⟩
 have au:=ifF hm hcy;refine Ws<|Rq z z z<|Rw z<|Wc z (fun a8=>?_) (fun a8=>?_)
 ·refine Wq ?_;obtain ⟨bB,b5,b6⟩:=bdS<|ifT au a8;refine Wt (fun a w=>∃(aj:Bool),aj=bB/\Sat 102 [(4,vB aj)] a/\Below J.z J w) ?_ ?_
  ·refine Wg<|R z (lN (vs:=vR x2 A2 N2 C2 A3 N3 C3 A1 N1 C1 A4 N4 C4) G_ r_ z z fid<|h6.row 0 8 z) ?_
   have hj:=(h1.ag B).e G;have aO:=lt_ h1.s G.s;obtain ⟨bC,bD,av⟩:=bdS b5;refine E z (fc call154 z<|d_C bD (zt' L aO) a3 a4 V (W.g hj) (a5.g hj) (a6.g hj) (Y.g hj)<|ii z) ?_;rintro _ _ ⟨sk,rfl⟩;refine Rm z ?_
   rcases bs bC with a1 | a1
   ·refine Rh z a1 (fd a_U z)<|Rh z a1 (l0 F_ z<|(h6.e sk).at z) ?_
    have aP:=W.g<|hj.e sk
    refine Rh z a1 (lnR p_ z aP) ?_;obtain ⟨bE,bF,b7⟩:=bdS<|ifT av a1;refine Eg z z a1 z (fc call127 z<|d_h bF (zt' L<|lt_ aO sk.s) (b_f<|repS.len aP) (ii z)<|ii z) ?_;rintro _ _ ⟨bG,rfl⟩;exact R z (pT z a1 z)<|Ra z<|Wl (fun _ q=>⟨bE,som b7,q.k<|s1 z,bup sk bG⟩)
   iterate 4 refine Nh z a1 ?_
   exact R z (pF z a1 z)<|Ra z<|Wl (fun _ q=>⟨false,som<|ifF av a1,q.k<|s1 z,sk⟩)
  rintro bH _ ⟨aj,rfl,_,bI⟩;revert bH;refine Wo ?_;obtain rfl:=som b6;exact Wr<|rtO<|d_ hr z ⟨bup (bup h1 G) bI,z⟩
 have aw:=ifF au a8;refine Ws<|Rq z z z<|Rw z<|Wc z (fun a9=>?_) (fun a9=>?_)
 ·refine Wq ?_;obtain ⟨bJ,b8,b9⟩:=bdS<|ifT aw a9;refine Wt (fun a w=>∃(ak:Bool),ak=bJ/\Sat 102 [(4,vB ak)] a/\Below J.z J w) ?_ ?_
  ·refine Wg<|R z (lN (vs:=vR x2 A2 N2 C2 A3 N3 C3 A1 N1 C1 A4 N4 C4) G_ r_ z z fid<|h6.row 0 8 z) ?_
   have ht:=(h1.ag B).e G;have aQ:=lt_ h1.s G.s;obtain ⟨bK,bL,ax⟩:=bdS b8;refine E z (fc call154 z<|d_C bL (zt' L aQ) a3 a4 V (W.g ht) (a5.g ht) (a6.g ht) (Y.g ht)<|ii z) ?_;rintro _ _ ⟨ss,rfl⟩;refine Rm z ?_
   rcases bs bK with hcc | hcc
   ·refine Rh z hcc (fd a_F z)<|Rh z hcc (l0 g_3 z<|(h6.e ss).at z) ?_
    obtain ⟨bM,bN,ba⟩:=bdS<|ifT ax hcc;refine Eg z z hcc z (fc call127 z<|d_h bN (zt' L<|lt_ aQ ss.s) V (ii z)<|ii z) ?_;rintro _ _ ⟨bO,rfl⟩;exact R z (pT z hcc z)<|Ra z<|Wl (fun _ q=>⟨bM,som ba,q.k<|s1 z,bup ss bO⟩)
   iterate 3 refine Nh z hcc ?_
   exact R z (pF z hcc z)<|Ra z<|Wl (fun _ q=>⟨false,som<|ifF ax hcc,q.k<|s1 z,ss⟩)
  rintro bP _ ⟨ak,rfl,_,bQ⟩;revert bP;refine Wo ?_;obtain rfl:=som b9;exact Wr<|rtO<|d_ hr z ⟨bup (bup h1 G) bQ,z⟩
 have ay:=ifF aw a9;refine Ws<|Rq z z z<|Rw z<|Wc z (fun aa=>?_) (fun aa=>?_)
 ·refine Wq ?_;obtain ⟨bR,bb,bc⟩:=bdS<|ifT ay aa;refine Wt (fun a w=>∃(al:Bool),al=bR/\Sat 102 [(4,vB al)] a/\Below J.z J w) ?_ ?_
  ·refine Wd (X:=noX) 0 (pl_ 12 [1,8]) mo (by kernel_rfl) fun cx sf _=>?_
   have aR:=h6.e sf;refine dR z z (lN (vs:=vR x2 A2 N2 C2 A3 N3 C3 A1 N1 C1 A4 N4 C4) G_ r_ z z fid<|aR.row 0 8 z) ?_;have hl:=((h1.ag B).e G).e sf;have aS:=lt_ (lt_ h1.s G.s) sf.s;obtain ⟨bS,bT,az⟩:=bdS bb;refine dE z z (fc call154 z<|d_C bT (zt' L aS) a3 a4 V (W.g hl) (a5.g hl) (a6.g hl) (Y.g hl)<|ii z) (.inr fun _ _ h=>o_<|h.1) ?_;rintro _ _ ⟨sg,rfl⟩;refine dM z z z ?_
   rcases bs bS with H | H
   ·refine dRg z z z H z (lN (vs:=[sl A0 N0 C0]) v_ u_ z z fid<|(((hx.e G).e sf).e sg).row 0 1 z)<|dRg z z z H z (fd T_ z)<|dRg z z z H z (l0 B_ z<|(aR.e sg).at z) ?_
    obtain ⟨_,bU,be⟩:=bdS<|ifT az H;have aT:=hl.e sg;refine c_l z z z H z (at_ (α:=Int) x_ z_3 z z z (Y.g aT) bU) ?_;rintro _ ⟨_,_,_,rfl,bV,bW,_⟩;obtain ⟨rfl,bX⟩:=a_1 bW;refine dRg z z z H z (l0 g_3 z<|bV.at0 z) ?_;obtain ⟨bY,bZ,bf⟩:=bdS be;refine dEg z z z H z (fc call140 z<|f_1 bZ (zt' L<|lt_ aS sg.s) (a7.g aT) bX) (.inr fun _ _ h=>o_<|h.1) ?_;rintro _ _ ⟨c0,rfl,_⟩;exact dRg z z z H z (a_z z z)<|dR z z (pT z H z)<|dQ z z z<|pD (fun _ q=>⟨decide<|0<bY,som bf,q.k<|s1 z,bup (bup sf sg) c0⟩)
   iterate 5 refine dRn z z z H z ?_
   exact dEn z z z H z<|dRn z z z H z<|dR z z (pF z H z)<|dQ z z z<|pD (fun _ q=>⟨false,som<|ifF az H,q.k<|s1 z,bup sf sg⟩)
  rintro c1 _ ⟨al,rfl,_,c2⟩;revert c1;refine Wo ?_;obtain rfl:=som bc;exact Wr<|rtO<|d_ hr z ⟨bup (bup h1 G) c2,z⟩
 have aA:=ifF ay aa;refine Ws<|Rq z z z<|Rw z<|Wc z (fun ab=>?_) (fun ab=>?_)
 ·refine Wq ?_;obtain ⟨c3,bg,bh⟩:=bdS<|ifT aA ab;refine Wt (fun a w=>∃(am:Bool),am=c3/\Sat 102 [(4,vB am)] a/\Below J.z J w) ?_ ?_
  ·refine Wd (X:=noX) 0 (pl_ 12 [1,8]) mo (by kernel_rfl) fun cy sh _=>?_
   have aU:=h6.e sh;refine dR z z (lN (vs:=vR x2 A2 N2 C2 A3 N3 C3 A1 N1 C1 A4 N4 C4) G_ r_ z z fid<|aU.row 0 8 z) ?_;have hn:=((h1.ag B).e G).e sh;have aV:=lt_ (lt_ h1.s G.s) sh.s;obtain ⟨c4,c5,aB⟩:=bdS bg;refine dE z z (fc call154 z<|d_C c5 (zt' L aV) a3 a4 V (W.g hn) (a5.g hn) (a6.g hn) (Y.g hn)<|ii z) (.inr fun _ _ h=>o_<|h.1) ?_;rintro _ _ ⟨si,rfl⟩;refine dM z z z ?_
   rcases bs c4 with I | I
   ·refine dRg z z z I z (lN (vs:=[sl A0 N0 C0]) v_ u_ z z fid<|(((hx.e G).e sh).e si).row 0 1 z)<|dRg z z z I z (fd T_ z)<|dRg z z z I z (l0 B_ z<|(aU.e si).at z) ?_
    obtain ⟨_,c6,bi⟩:=bdS<|ifT aB I;have aW:=hn.e si;refine c_l z z z I z (at_ (α:=Int) x_ z_3 z z z (Y.g aW) c6) ?_;rintro _ ⟨_,_,_,rfl,c7,c8,_⟩;obtain ⟨rfl,c9⟩:=a_1 c8;refine dRg z z z I z (l0 g_3 z<|c7.at0 z) ?_;obtain ⟨ca,cb,bj⟩:=bdS bi;refine dEg z z z I z (fc call140 z<|f_1 cb (zt' L<|lt_ aV si.s) (a7.g aW) c9) (.inr fun _ _ h=>o_<|h.1) ?_;rintro _ _ ⟨cc,rfl,_⟩;exact dRg z z z I z (a_z z z)<|dR z z (pT z I z)<|dQ z z z<|pD (fun _ q=>⟨decide<|0<ca,som bj,q.k<|s1 z,bup (bup sh si) cc⟩)
   iterate 5 refine dRn z z z I z ?_
   exact dEn z z z I z<|dRn z z z I z<|dR z z (pF z I z)<|dQ z z z<|pD (fun _ q=>⟨false,som<|ifF aB I,q.k<|s1 z,bup sh si⟩)
  rintro cd _ ⟨am,rfl,_,ce⟩;revert cd;refine Wo ?_;obtain rfl:=som bh;exact Wr<|rtO<|d_ hr z ⟨bup (bup h1 G) ce,z⟩
 have aC:=ifF aA ab;refine Ws<|Rq z z z<|Rw z<|Wc z (fun ad=>?_) (fun ad=>?_)
 ·refine Ws<|R z (lN (vs:=vR x2 A2 N2 C2 A3 N3 C3 A1 N1 C1 A4 N4 C4) G_ r_ z z fid<|h6.row 0 8 z) ?_
  have hu:=(h1.ag B).e G;obtain ⟨_,cf,bk⟩:=bdS<|ifT aC ad;refine E z (fc call155 z<|W_w2z cf (zt' L<|lt_ h1.s G.s) a3 a4 V (W.g hu) (a5.g hu) (a6.g hu)<|Y.g hu) ?_;rintro _ _ ⟨cg,rfl⟩;refine Rw z ?_
  obtain rfl:=som bk;exact Wr<|rtO<|d_ hr z ⟨bup (bup h1 G) cg,z⟩
 have aD:=ifF aC ad;refine Ws<|Rq z z z<|Rw z<|Wc z (fun ae=>?_) (fun ae=>?_)
 ·refine Ws<|R z (lN (vs:=[sl A0 N0 C0]) v_ u_ z z fid<|(hx.e G).row 0 1 z)<|R z (lN (vs:=vR x2 A2 N2 C2 A3 N3 C3 A1 N1 C1 A4 N4 C4) G_ r_ z z fid<|h6.row 0 8 z) ?_
  have ho:=(h1.ag B).e G;obtain ⟨_,ch,bm⟩:=bdS<|ifT aD ae;refine E z (fc call156 z<|W_w30 ch (zt' L<|lt_ h1.s G.s) (a7.g ho) a3 a4 V (W.g ho) (a5.g ho) (a6.g ho)<|Y.g ho) ?_;rintro _ _ ⟨ci,rfl⟩;refine Rw z ?_
  obtain rfl:=som bm;exact Wr<|rtO<|d_ hr z ⟨bup (bup h1 G) ci,z⟩
 refine Wq<|Ws<|Rq z z z<|Rw z ?_
 obtain ⟨cj,aE,aF⟩:=bdS<|ifF aD ae;refine Wt (fun a w=>∃(an:Bool),an=cj/\Sat 102 [(3,pt ww.z),(6,vI x2.kind),(80,vB an)] a/\Below J.z J w) ?_ ?_
 ·refine Wc z (fun af=>?_)<|fun af=>?_
  ·exact a_h<|fun _ q=>⟨x2.kind==8,som<|ifT aE af,q.k<|s3 z z z,br J⟩
  exact Wg<|Rq z z z<|Ra z<|Wl (fun _ q=>⟨x2.kind==9,som<|ifF aE af,q.k<|s3 z z z,br J⟩)
 rintro ck aX ⟨an,rfl,_,sd⟩;revert ck;refine Wo<|Wc z (fun ah=>?_) (fun ah=>?_)
 ·refine Ws<|R z (lN (vs:=vR x2 A2 N2 C2 A3 N3 C3 A1 N1 C1 A4 N4 C4) G_ r_ z z fid<|(h6.e sd).row 0 8 z) ?_
  have hv:=((h1.ag B).e G).e sd;obtain ⟨_,cl,bn⟩:=bdS<|ifT aF ah;refine E z (fc call154 z<|d_C cl (zt' L<|lt_ (lt_ h1.s G.s) sd.s) a3 a4 V (W.g hv) (a5.g hv) (a6.g hv) (Y.g hv)<|ii z) ?_;rintro _ _ ⟨cm,rfl⟩;refine Rw z ?_
  obtain rfl:=som bn;exact Wr<|rtO<|d_ hr z ⟨bup (bup (bup h1 G) sd) cm,z⟩
 have aG:=ifF aF ah;refine Ws<|Rq z z z<|Rw z<|Wc z (fun ai=>?_) (fun ai=>?_)
 ·refine Wq ?_;obtain ⟨cn,bo,bp⟩:=bdS<|ifT aG ai;refine Wt (fun a w=>∃(ao:Bool),ao=cn/\Sat 102 [(4,vB ao)] a/\Below aX.z aX w) ?_ ?_
  ·refine Wg ?_;have aY:=h6.e sd;refine R z (lN (vs:=vR x2 A2 N2 C2 A3 N3 C3 A1 N1 C1 A4 N4 C4) G_ r_ z z fid<|aY.row 0 8 z) ?_;have hp:=((h1.ag B).e G).e sd;obtain ⟨co,cp,aH⟩:=bdS bo;refine E z (fc call154 z<|d_C cp (zt' L<|lt_ (lt_ h1.s G.s) sd.s) a3 a4 V (W.g hp) (a5.g hp) (a6.g hp) (Y.g hp)<|ii z) ?_;rintro _ _ ⟨sm,rfl⟩;refine Rm z ?_
   rcases bs co with a2 | a2
   ·have aI:=ifT aH a2;refine Rh z a2 (fd a_U z) ?_;have aZ:=aY.e sm;refine Rh z a2 (l0 F_ z<|aZ.at z) ?_;have b0:=W.g<|hp.e sm
    refine Rh z a2 (lnR p_ z b0)<|Rh z a2 (eql z z)<|R z (pT z a2 z)<|Rm z ?_
    rcases bs ((x2.bytes.length:Int)==1) with a0 | a0
    ·refine Rh z a0 (fd a_U z)<|Rh z a0 (l0 F_ z<|aZ.at z) ?_
     obtain ⟨cq,cr,bq⟩:=bdS<|ifT aI a0;refine RXg z z a0 z (at_ (α:=UInt8) p_ z_5 z z z b0 cr) ?_;rintro _ ⟨_,_,_,rfl,ct,cu,_⟩;obtain rfl:=u8 cu;exact Rh z a0 (l0 g_5 z<|ct.at0 z)<|Rh z a0 (nq z z)<|R z (pT z a0 z)<|Ra z<|Wl (fun _ q=>⟨(byteI cq) != (byteI (92:UInt8)),som bq,q.k<|s1 z,sm⟩)
    iterate 5 refine Nh z a0 ?_
    exact R z (pF z a0 z)<|Ra z<|Wl (fun _ q=>⟨false,som<|ifF aI a0,q.k<|s1 z,sm⟩)
   iterate 4 refine Nh z a2 ?_
   exact R z (pF z a2 z)<|Rm z<|Nh z z<|Nh z z<|Nh z z<|Nh z z<|Nh z z<|R z (pF z z z)<|Ra z<|Wl (fun _ q=>⟨false,som<|ifF aH a2,q.k<|s1 z,sm⟩)
  rintro cv _ ⟨ao,rfl,_,cw⟩;revert cv;refine Wo ?_;obtain rfl:=som bp;exact Wr<|rtO<|d_ hr z ⟨bup (bup (bup h1 G) sd) cw,z⟩
 refine Wk<|Ws<|Rw z ?_
 obtain rfl:=som<|ifF aG ai;exact Wr<|d_ hr z ⟨bup (bup h1 G) sd,z⟩
theorem W_w32 {x1:f_}{x2:Int}{res:Bool}(hm:h_k n x1 x2=some res)(V:B<=w0.z)(O:repS w0 B (sl A0 N0 C0) x1.rules)(aU:inI x2):k_ prog 128 [(.agg #[sl A0 N0 C0]),vI x2] w0 (Q9 w0 B res):=by
 unfold h_k at hm
 refine goG func128 z z z fun fn hr=>Ws<|E z (fb z) ?_
 rintro _ bh ⟨rfl,am⟩;have h2:=am.below;have ho:Blk bh w0.z [sl A0 N0 C0]:=am.blk;refine Rw z<|Wq<|Ws<|R z (lN (vs:=[sl A0 N0 C0]) v_ u_ z z fid<|ho.row 0 1 z)<|Rm z ?_
 obtain ⟨_,bi,a8⟩:=bdS hm;refine E z (fc call94 z<|k_C bi (zt' V h2.s) (O.e h2) aU) ?_;rintro _ J ⟨s5,rfl⟩;refine R z (not_ z)<|Wx z (fun hcp=>?_) (fun hcp=>?_)
 ·refine Ws<|Rw z ?_
  obtain rfl:=som<|ifT a8 hcp;exact Wr<|d_ hr z ⟨bup h2 s5,z⟩
 refine Wk<|Ws<|Rf z a_d z ?_
 have an:=ho.e s5;refine R z (l0 a_g z<|an.at z)<|Rm z ?_
 obtain ⟨L,bj,aV⟩:=bdS<|ifF a8 hcp;have ao:=(h2.ag B).e s5;refine RX z (at_ (α:=b_) P_ r_ z z z (O.g ao) bj) ?_;rintro _ ⟨_,_,_,rfl,bk,bm,_⟩;obtain ⟨aq,nr,cs,au,nt,cv,aw,nx,cy,ae,nf,cg,rfl,ap,bn,bo,bp,bq,bt,hj⟩:=a_A bm;refine R z (lN (vs:=vR L aq nr cs au nt cv aw nx cy ae nf cg) G_ r_ z z fid bk)<|E z (fa c_8) ?_
 rintro _ bu ⟨rfl,ar⟩;have h4:=ar.below;have av:Blk bu J.z [(Str.v (⟨[]⟩:Str)),vI 0,vI 0,vB false,sl none 0 0,sl none 0 0,sl none 0 0,sl none 0 0]:=ar.blk;refine E0 (fs0 (cur':=vR L aq nr cs au nt cv aw nx cy ae nf cg) r_ z z av z z z z) ?_;rintro _ ax ⟨hk,bv⟩;have h3:=bv.one;refine Wn<|Wq<|Wq ?_
 obtain ⟨bw,aW,a9⟩:=bdS aV;refine Wt (fun a w=>∃(xz:Bool),xz=bw/\Sat 65 [(1,vI x2),(2,pt w0.z),(5,pt J.z),(31,vB xz)] a/\Below ax.z ax w) ?_ ?_
 ·refine Wg<|Rf z d_f z<|R z (l0 g_9 z<|hk.at z) ?_
  obtain ⟨bx,bz,aa⟩:=bdS aW;refine E z (fc call135 z<|k_D bz (zt' V<|lt_ (lt_ (lt_ h2.s s5.s) h4.s) h3.s) ap) ?_;rintro _ _ ⟨sm,rfl⟩;refine R z (not_ z)<|Rm z ?_
  rcases bs (!bx) with G | G
  ·iterate 3 refine Nh z G ?_
   exact Nv z<|Nv z<|Nv z<|Nh z G<|R z (pT z G z)<|Wl (fun _ q=>⟨true,som<|ifT aa G,q.k<|s4 z z z z,sm⟩)
  have ab:=ifF aa G;refine Rh z G (fd c_s z) ?_;have ay:=hk.e sm;refine Rh z G (l0 g_4 z<|ay.at z)<|Rh z G (mv z) ?_
  rcases bs L.little with H | H
  ·exact Rh z H (fd a_x z)<|Rh z H (l0 g_3 z<|ay.at z)<|Rh z H (nq z z)<|Rh z G (pT z H z)<|R z (pF z G z)<|Wl (fun _ q=>⟨L.kind != 1,som<|ifT ab H,q.k<|s4 z z z z,sm⟩)
  iterate 3 refine Nh z H ?_
  exact Rh z G (pF z H z)<|R z (pF z G z)<|Wl (fun _ q=>⟨false,som<|ifF ab H,q.k<|s4 z z z z,sm⟩)
 rintro bA wh ⟨xz,rfl,_,s1⟩;revert bA;refine Wo<|Wc z (fun W=>?_) (fun W=>?_)
 ·refine Ws<|Rw z ?_
  obtain rfl:=som<|ifT a9 W;exact Wr<|d_ hr z ⟨bup (bM (bup (bup h2 s5) h4) h3<|m1<|lt_ h2.s s5.s) s1,z⟩
 refine Wk<|Wq<|Ws<|Rf z a_d z ?_
 have az:=((an.e h4).c h3<|djs<|mm1 ho.lt s5.s).e s1;refine R z (l0 a_g z<|az.at z)<|Rm z ?_
 obtain ⟨bB,bC,aX⟩:=bdS<|ifF a9 W;have hd:=lt_ h2.s s5.s;have aA:∀k∈[J.z],¬B k:=or0 (e_ lr)<|m_<|zt' V hd;have aB:=((ao.e h4).c h3<|g_ aA).e s1;refine RX z (rX P_ r_ z z (O.g aB) z z bC) ?_;rintro _ ⟨bD,bE,bF,rfl,a1⟩;refine R z (lnR P_ z a1)<|Rm z<|Wn ?_
 obtain ⟨_,aY,ad⟩:=bdS aX;refine Wf (σ:=Unit) (ρ:=Bool) (fun (aC:Nat)(_:Unit) a w=>Sat 65 [(1,vI x2),(2,pt w0.z),(5,pt J.z),(35,sl bD bE bF),(36,vI (bB.length:Int)),(37,vI ((aC:Nat):Int))] a/\Below wh.z wh w) (fun (_:Unit) a w=>Sat 65 [(1,vI x2),(2,pt w0.z),(5,pt J.z)] a/\Below wh.z wh w) (rQ prog fn<|Q9 w0 B) aY ?_ ?_ ?_ ?_ ?_
 ·exact fun _ q=>⟨q.k<|s6 z z z z z z,br wh⟩
 ·rintro aC _ _ bG _ af ⟨aZ,sa⟩ b0;refine Wu ?_ aZ;refine Ws<|Rl z z z<|Wn<|Wq<|Wc z (fun _=>?_) (fun hc=>(U_ af hc).elim)
  refine Wk<|Wq<|Wb<|Ws ?_
  obtain ⟨aD,bH,ah⟩:=bdS b0;refine RX z (at_ (α:=b_) P_ r_ z z z (a1.e sa) bH) ?_;rintro _ ⟨_,_,_,rfl,bI,bJ,_⟩;obtain ⟨aE,aF,aG,aH,aI,aJ,aK,aL,aM,aN,aO,aP,rfl,_,_,_,_,_,_,_⟩:=a_A bJ;refine R z (lN (vs:=vR aD aE aF aG aH aI aJ aK aL aM aN aO aP) G_ r_ z z fid bI)<|E z (fa c_8) ?_
  rintro _ bK ⟨rfl,aQ⟩;have a2:=aQ.below;refine E0 (fs0 (cur':=vR aD aE aF aG aH aI aJ aK aL aM aN aO aP) r_ z z (aQ.blk:Blk bK bG.z [(Str.v (⟨[]⟩:Str)),vI 0,vI 0,vB false,sl none 0 0,sl none 0 0,sl none 0 0,sl none 0 0]) z z z z) ?_;rintro _ _ ⟨bL,bN⟩;have a3:=bN.one;refine Wn<|Ws<|Rf z d_f z<|R z (l0 g_9 z<|bL.at z)<|Rf z d_f z<|R z (l0 g_9 z<|((((hk.e s1).e sa).e a2).c a3<|djs<|mm1 av.lt<|lt_ (lt_ h3.s s1.s) sa.s).at z)<|R z (b_y z z)<|Wx z (fun Y=>?_) (fun Y=>?_)
  ·exact Ws<|Rw z<|Wr<|rtO<|qL (som<|ifT ah Y).symm<|d_ hr z ⟨bM (bup (bup (bup (bM (bup (bup h2 s5) h4) h3<|m1 hd) s1) sa) a2) a3<|m1<|lt_ (lt_ (lt_ (lt_ hd h4.s) h3.s) s1.s) sa.s,z⟩
  exact Wk<|Wg<|R z (inc_ af (lt_ (repS.len a1) D_) z z)<|Rm z<|Wl (fun _ q=>⟨(),(som<|ifF ah Y).symm,⟨q.k<|s6 z z z z z z,bM (bup sa a2) a3<|m1 sa.s⟩⟩)
 ·rintro _ _ _ ⟨b3,bO⟩;refine Wu ?_ b3;refine Ws<|Rl z z z<|Wn<|Wq<|Wc z (fun hc=>(V_ hc).elim) (fun _=>?_)
  exact We<|fun _ q=>⟨rfl,⟨q.k<|s3 z z z,bO⟩⟩
 ·rintro _ bP wi rfl ⟨_,sb⟩;have b4:=elL ad;revert bP;refine Wo<|Wq<|Ws<|Rf z T_ z ?_
  have aR:=(hk.e s1).e sb;refine R z (l0 B_ z<|aR.at z) ?_;have a4:=(((h4.ag B).c h3<|g_ aA).e s1).e sb;refine R z (lnR x_ z<|hj.g a4)<|Rm z<|Wn ?_
  obtain ⟨_,b5,ai⟩:=bdS b4;refine Wf (σ:=Unit) (ρ:=Bool) (fun (a5:Nat)(_:Unit) a w=>Sat 65 [(1,vI x2),(2,pt w0.z),(5,pt J.z),(48,sl ae nf cg),(49,vI (L.kids.length:Int)),(50,vI ((a5:Nat):Int))] a/\Below wi.z wi w) (fun (_:Unit) a w=>Sat 65 [(2,pt w0.z),(5,pt J.z)] a/\Below wi.z wi w) (rQ prog fn<|Q9 w0 B) b5 ?_ ?_ ?_ ?_ ?_
  ·exact fun _ q=>⟨q.k<|s6 z z z z z z,br wi⟩
  ·rintro a5 _ _ wl _ aj ⟨b6,a6⟩ b7;refine Wu ?_ b6;refine Ws<|Rl z z z<|Wn<|Wq<|Wc z (fun _=>?_) (fun hc=>(U_ aj hc).elim)
   refine Wk<|Wq<|Wb<|Ws ?_
   obtain ⟨aS,bQ,b8⟩:=bdS b7;refine RX z (at_ (α:=Int) x_ z_3 z z z (hj.g<|a4.e a6) bQ) ?_;rintro _ ⟨_,_,_,rfl,bR,bS,_⟩;obtain ⟨rfl,_⟩:=a_1 bS;refine R z (l0 g_3 z<|bR.at0 z)<|Rw z<|Wq ?_
   obtain ⟨bT,ak,al⟩:=bdS b8;refine Wt (fun a w=>∃(a7:Bool),a7=bT/\Sat 65 [(1,vI x2),(2,pt w0.z),(5,pt J.z),(48,sl ae nf cg),(49,vI (L.kids.length:Int)),(50,vI ((a5:Nat):Int)),(60,vB a7)] a/\Below wl.z wl w) ?_ ?_
   ·refine Wg<|Rm z<|Rl z z z<|Rm z ?_
    rcases bs (decide<|aS<0) with I | I
    ·iterate 3 refine Nh z I ?_
     exact R z (pT z I z)<|Wl (fun _ q=>⟨true,som<|ifT ak I,q.k<|s7 z z z z z z z,br wl⟩)
    exact Rh z I (mv z)<|Rh z I (mv z)<|Rh z I (b_k z z)<|R z (pF z I z)<|Wl (fun _ q=>⟨decide<|x2<=aS,som<|ifF ak I,q.k<|s7 z z z z z z z,br wl⟩)
   rintro bU _ ⟨a7,rfl,_,aT⟩;revert bU;refine Wo<|Wc z (fun a0=>?_) (fun a0=>?_)
   ·exact Ws<|Rw z<|Wr<|rtO<|qL (som<|ifT al a0).symm<|d_ hr z ⟨bup (bup (bup (bup (bM (bup (bup h2 s5) h4) h3<|m1 hd) s1) sb) a6) aT,z⟩
   exact Wk<|Wg<|R z (inc_ aj (lt_ (repS.len hj) D_) z z)<|Rm z<|Wl (fun _ q=>⟨(),(som<|ifF al a0).symm,⟨q.k<|s6 z z z z z z,bup a6 aT⟩⟩)
  ·rintro _ _ _ ⟨b9,bV⟩;refine Wu ?_ b9;refine Ws<|Rl z z z<|Wn<|Wq<|Wc z (fun hc=>(V_ hc).elim) (fun _=>?_)
   exact We<|fun _ q=>⟨rfl,⟨q.k<|s2 z z,bV⟩⟩
  ·rintro _ bW _ rfl ⟨_,sc⟩;have ba:=elL ai;revert bW;refine Wo<|Ws<|R z (lN (vs:=[sl A0 N0 C0]) v_ u_ z z fid<|((az.e sb).e sc).row 0 1 z)<|R z (lN (vs:=vR L aq nr cs au nt cv aw nx cy ae nf cg) G_ r_ z z fid<|(aR.e sc).row 0 8 z) ?_
   have hn:=a4.e sc;obtain ⟨_,bX,bb⟩:=bdS ba;refine E z (fc call145 z<|W_w31 bX (zt' V<|lt_ (lt_ (lt_ (lt_ (lt_ hd h4.s) h3.s) s1.s) sb.s) sc.s) (O.g<|(aB.e sb).e sc) ap bn bo (bp.g hn) (bq.g hn) (bt.g hn)<|hj.g hn) ?_;rintro _ _ ⟨bY,rfl⟩;refine Rw z ?_
   obtain rfl:=som bb;exact Wr<|d_ hr z ⟨bup (bup (bup (bup (bM (bup (bup h2 s5) h4) h3<|m1 hd) s1) sb) sc) bY,z⟩
  rintro _ _ _ _ rfl ⟨rfl,bc⟩;have be:=elR ai;obtain rfl:=som be;exact ⟨bc,z⟩
 rintro _ _ _ _ rfl ⟨rfl,bf⟩;have bg:=elR ad;obtain rfl:=som bg;exact ⟨bf,z⟩
theorem W_w33 {x1:f_}{res:Bool}(hm:h_l n x1=some res)(V:B<=w0.z)(H:repS w0 B (sl A0 N0 C0) x1.rules):k_ prog 93 [(.agg #[sl A0 N0 C0])] w0 (Q9 w0 B res):=by
 unfold h_l at hm
 refine goG func93 z z z fun fn hr=>Ws<|E z (fb z) ?_
 rintro _ wh ⟨rfl,W⟩;have G:=W.below;have Y:Blk wh w0.z [sl A0 N0 C0]:=W.blk;refine Rw z<|Wq<|Ws<|Rf z a_d z<|R z (l0 a_g z<|Y.at z) ?_
 have h9:=H.e G;refine R z (lnR P_ z h9) ?_;obtain ⟨_,ei,hma⟩:=bdS hm;refine E z (fc call127 z<|d_h ei (zt' V G.s) (b_f<|repS.len h9) (ii z)<|ii z) ?_;rintro _ I ⟨s1,rfl⟩;refine R z (not_ z)<|Wx z (fun J=>?_) (fun J=>?_)
 ·refine Ws<|Rw z ?_
  obtain rfl:=som<|ifT hma J;exact Wr<|d_ hr z ⟨bup G s1,z⟩
 refine Wk<|Wq<|Ws<|Rf z a_d z ?_
 have hb:=Y.e s1;refine R z (l0 a_g z<|hb.at z) ?_;have hd:=(G.ag B).e s1;refine R z (lnR P_ z<|H.g hd)<|Rm z<|Wn ?_
 obtain ⟨_,huj,hmc⟩:=bdS<|ifF hma J;refine Wf (σ:=Unit) (ρ:=Bool) (fun (ke:Nat)(_:Unit) a w=>Sat 20 [(1,pt w0.z),(11,vI (x1.rules.length:Int)),(12,vI ((ke:Nat):Int))] a/\Below I.z I w) (fun (_:Unit) a w=>Sat 20 [] a/\Below I.z I w) (rQ prog fn<|Q9 w0 B) huj ?_ ?_ ?_ ?_ ?_
 ·exact fun _ q=>⟨q.k<|s3 z z z,br I⟩
 ·rintro ke _ _ _ _ L ⟨hSk,s4⟩ hml;refine Wu ?_ hSk;refine Ws<|Rl z z z<|Wn<|Wq<|Wc z (fun _=>?_) (fun hc=>(U_ L hc).elim)
  refine Wk<|Wq<|Wb<|Wm z<|Rw z<|Ws<|R z (lN (vs:=[sl A0 N0 C0]) v_ u_ z z fid<|(hb.e s4).row 0 1 z)<|Rm z ?_
  obtain ⟨_,em,hmf⟩:=bdS hml;refine E z (fc call128 z<|W_w32 em (zt' V<|lt_ (lt_ G.s s1.s) s4.s) (H.g<|hd.e s4)<|ic (Nat.le_of_lt L)<|lt_ (repS.len H) D_) ?_;rintro _ _ ⟨sg,rfl⟩;refine R z (not_ z)<|Wx z (fun O=>?_) (fun O=>?_)
  ·exact Ws<|Rw z<|Wr<|rtO<|qL (som<|ifT hmf O).symm<|d_ hr z ⟨bup (bup (bup G s1) s4) sg,z⟩
  exact Wk<|Wg<|R z (inc_ L (lt_ (repS.len H) D_) z z)<|Rm z<|Wl (fun _ q=>⟨(),(som<|ifF hmf O).symm,⟨q.k<|s3 z z z,bup s4 sg⟩⟩)
 ·rintro _ _ _ ⟨hSn,so⟩;refine Wu ?_ hSn;refine Ws<|Rl z z z<|Wn<|Wq<|Wc z (fun hc=>(V_ hc).elim) (fun _=>?_)
  exact We<|fun _ q=>⟨rfl,⟨q.k sn,so⟩⟩
 ·rintro _ ap _ rfl ⟨_,sq⟩;have hmr:=elL hmc;revert ap;refine Wo<|Ws<|Rw z ?_
  obtain rfl:=som hmr;exact Wr<|d_ hr z ⟨bup (bup G s1) sq,z⟩
 rintro _ _ _ _ rfl ⟨rfl,hqs⟩;have hmt:=elR hmc;obtain rfl:=som hmt;exact ⟨hqs,z⟩
theorem i_L {x1:f_}{x2:Int}{res:Bool}(hm:e_m n x1 x2=some res)(J:B<=w0.z)(I:repS w0 B (sl A0 N0 C0) x1.rules)(O:inI x2):k_ prog 67 [(.agg #[sl A0 N0 C0]),vI x2] w0 (Q9 w0 B res):=by
 unfold e_m at hm
 refine goG func67 z z z fun fn hr=>Ws<|E z (fb z) ?_
 rintro _ H ⟨rfl,h5⟩;have h1:=h5.below;have h6:Blk H w0.z [sl A0 N0 C0]:=h5.blk;refine Rw z<|Wq ?_
 obtain ⟨u8,V,hma⟩:=bdS hm;refine Wt (fun a w=>∃(x4:Bool),x4=u8/\Sat 12 [(4,vB x4)] a/\Below H.z H w) ?_ ?_
 ·refine Wg<|R z (lN (vs:=[sl A0 N0 C0]) v_ u_ z z fid<|h6.row 0 1 z) ?_
  obtain ⟨rb,ec,L⟩:=bdS V;refine E z (fc call93 z<|W_w33 ec (zt' J h1.s)<|I.e h1) ?_;rintro _ _ ⟨s2,rfl⟩;refine Rm z ?_
  rcases bs rb with G | G
  ·refine Rh z G (lN (vs:=[sl A0 N0 C0]) v_ u_ z z fid<|(h6.e s2).row 0 1 z)<|Rh z G (mv z) ?_
   obtain ⟨rd,ee,hmf⟩:=bdS<|ifT L G;refine Eg z z G z (fc call94 z<|k_C ee (zt' J<|lt_ h1.s s2.s) (I.g<|(h1.ag B).e s2) O) ?_;rintro _ _ ⟨sg,rfl⟩;exact R z (pT z G z)<|Ra z<|Wl (fun _ q=>⟨rd,som hmf,q.k<|s1 z,bup s2 sg⟩)
  iterate 3 refine Nh z G ?_
  exact R z (pF z G z)<|Ra z<|Wl (fun _ q=>⟨false,som<|ifF L G,q.k<|s1 z,s2⟩)
 rintro ah _ ⟨x4,rfl,_,si⟩;revert ah;refine Wo ?_;obtain rfl:=som hma;exact Wr<|d_ hr z ⟨bup h1 si,z⟩
def Q19 (w0:World)(B:Zone)(r:(Option<|Int×Int))(v:Value)(w':World):Prop:=Bw w0 w'/\(fun G=>∃(v1:Value)(S1:List Nat),v1=v/\a_C 102 w' S1 v1 G/\(∀k∈S1,w0.z<=k)) r
theorem e_e {x1:Int}{x2:Int}{res:(Option<|Int×Int)}(hm:b_N x1 x2=some res)(L:B<=w0.z)(H:inI x1)(I:inI x2):k_ prog 104 [vI x1,vI x2] w0 (Q19 w0 B res):=by
 unfold b_N at hm
 refine goG func104 z z z fun fn hr=>Ws<|Rw z<|Wm z<|Rm z<|R z (bP (parts:=[(0,.tmp 5),(1,.tmp 6)]) (cs:=[vI x1,vI x2]) r_p z z)<|E z (fb z) ?_
 rintro _ J ⟨rfl,G⟩;refine R z (l_S d_102 (fun _ h=>by cases h) z)<|Rw z ?_
 obtain rfl:=som hm;exact Wr<|d_ hr z ⟨G.below,.iface 102<|pt w0.z,[w0.z],z,o_q (G.blk:Blk J w0.z [vI x1,vI x2]) H I z,e_ lr⟩
def Q20 (w0:World)(B:Zone)(r:(List UInt8)×(Option<|Int×Int))(v:Value)(w':World):Prop:=Bw w0 w'/\un2 (fun J L=>∃(G:Option Addr)(H I:Nat)(v2:Value)(S2:List Nat),v = .tuple #[sl G H I,v2]/\repS w' w'.z (sl G H I) J/\a_C 102 w' S2 v2 L/\(∀k∈S2,w0.z<=k)) r
theorem i_M {x1:a_u}{b1 o1:Nat}{x2:Int}{x3:Int}{res:(List UInt8)×(Option<|Int×Int)}(hm:e_n x1 x2 x3=some res)(I:B<=w0.z)(a0:repS w0 B (sl A0 N0 C0) x1.d.rules)(H:repS w0 B (sl A5 N5 C5) x1.b)(hC1:I_ w0 b1 o1 [sl A0 N0 C0,sl A5 N5 C5])(hC1b:B b1)(J:inI x2)(a1:inI x3):k_ prog 129 [(.pointer<|some ⟨b1,o1,none⟩),vI x2,vI x3] w0 (Q20 w0 B res):=by
 unfold e_n at hm
 refine goG func129 z z z fun fn hr=>Ws<|Ra z<|Rw z<|Wq<|Wm z<|Rm z<|R z (N_ z)<|Rf z f_E z<|R z (l0 F_ z<|hC1.at (j:=1) z)<|R z (lnR p_ z H)<|Rm z<|R z (sb_ z z)<|R z (a_z z z)<|Wx z (fun G=>?_) (fun G=>?_)
 ·refine Wm z ?_
  obtain ⟨_,V,L⟩:=bdS<|ifT hm G;refine E z (fc call104 z<|e_e (B:=B) V I J<|ii z) ?_;rintro _ _ ⟨s1,v4,W,rfl,h6,Y⟩;refine Ra z<|Rw z ?_
  obtain rfl:=som L;exact Wr<|a_9 hr z z ⟨s1,none,0,0,v4,W,z,repS.mono (or_ onL an_)<|a_I s1.s,h6,Y⟩
 refine Wk<|Wm z<|R z (N_ z)<|Rf z f_E z<|R z (l0 F_ z<|hC1.at (j:=1) z)<|RM z z<|Rm z<|R z (add_ z z) ?_
 obtain ⟨_,e8,O⟩:=bdS<|ifF hm G;refine RX z (rX p_ z_5 z z H z z e8) ?_;rintro _ ⟨aa,nb,cc,rfl,hd⟩;refine Ra z<|Rw z ?_
 obtain rfl:=som O;exact Wr<|a_9 hr z z ⟨br w0,aa,nb,cc,.nilIface,([]:List Nat),z,repS.mono hd I,d_R,an_⟩
theorem W_w34 {x1:List UInt8}{x2:Bool}{res:Int}(hm:h_m x1 x2=some res)(W:B<=w0.z)(G:repS w0 B (sl A0 N0 C0) x1):k_ prog 130 [sl A0 N0 C0,vB x2] w0 (Q0 w0 B res):=by
 unfold h_m at hm
 refine goG func130 z z z fun fn hr=>Ws<|Rw z<|Wq<|Wm z<|R z (lnR p_ z G)<|R z (a_z z z)<|Wx z (fun I=>?_) (fun I=>?_)
 ·refine Ws<|Rw z ?_
  obtain rfl:=som<|ifT hm I;exact Wr<|d_ hr z ⟨br w0,z,ii z⟩
 refine Wk<|Ws<|Rw z<|Wq<|Wm z<|R z (lnR p_ z G)<|Rm z<|Wn ?_
 obtain ⟨_,huc,L⟩:=bdS<|ifF hm I;refine Wf (σ:=Int) (ρ:=Int) (fun (k5:Nat)(x0:Int) a w=>Sat 38 [(0,sl A0 N0 C0),(1,vB x2),(5,vI x0),(11,vI (x1.length:Int)),(12,vI ((k5:Nat):Int))] a/\Below w0.z w0 w/\inI x0) (fun (x0:Int) a w=>Sat 38 [(5,vI x0)] a/\Below w0.z w0 w/\inI x0) (rQ prog fn<|Q0 w0 B) huc ?_ ?_ ?_ ?_ ?_
 ·exact fun _ q=>⟨q.k<|s5 z z z z z,br w0,ii z⟩
 ·rintro k5 x0 _ H _ O ⟨hSd,s6,h2⟩ hme;refine Wu ?_ hSd;refine Ws<|Rl z z z<|Wn<|Wq<|Wc z (fun _=>?_) (fun hc=>(U_ O hc).elim)
  refine Wk<|Wq<|Wb<|Wm z<|Rw z<|Wm z<|Wn ?_
  obtain ⟨uf,hua,hmg⟩:=bdS hme;refine Wt (fun a w=>∃(x3:Int),x3=uf/\Sat 38 [(0,sl A0 N0 C0),(1,vB x2),(5,vI x3),(11,vI (x1.length:Int)),(12,vI ((k5:Nat):Int))] a/\Below H.z H w/\inI x3) ?_ ?_
  ·refine Wc z (fun J=>?_)<|fun J=>?_
   ·refine Wg<|Rm z<|R z (g_v z z (by decide))<|RM z z ?_
    have hb:=G.e s6;refine R z (lnR p_ z hb)<|R z (sb_ z z)<|Rm z<|R z (sb_ z z) ?_
    obtain ⟨xh,ei,hmj⟩:=bdS<|ifT hua J;refine RX z (at_ (α:=UInt8) p_ z_5 z z z hb ei) ?_;rintro _ ⟨_,_,_,rfl,hk,hl,_⟩;obtain rfl:=u8 hl;exact R z (l0 g_5 z<|hk.at0 z)<|R z (c_w d_5 d_3 z)<|R z (rd_or z z)<|Ra z<|Wl (fun _ q=>⟨c_C .i64 (· ||| ·) (b_j .i64 x0 8)<|byteI xh,som hmj,q.k<|s5 z z z z z,br H,l_u _ _ _⟩)
   refine Wg<|Rm z<|R z (g_v z z (by decide))<|RM z z ?_
   obtain ⟨xm,en,hmo⟩:=bdS<|ifF hua J;refine RX z (at_ (α:=UInt8) p_ z_5 z z z (G.e s6) en) ?_;rintro _ ⟨_,_,_,rfl,hp,hq,_⟩;obtain rfl:=u8 hq;exact R z (l0 g_5 z<|hp.at0 z)<|R z (c_w d_5 d_3 z)<|R z (rd_or z z)<|Ra z<|Wl (fun _ q=>⟨c_C .i64 (· ||| ·) (b_j .i64 x0 8)<|byteI xm,som hmo,q.k<|s5 z z z z z,br H,l_u _ _ _⟩)
  rintro ar _ ⟨x3,rfl,_,ss,ht⟩;revert ar;exact Wo<|Wg<|R z (inc_ O (lt_ (repS.len G) D_) z z)<|Rm z<|Wl (fun _ q=>⟨x3,(som hmg).symm,⟨q.k<|s5 z z z z z,bup s6 ss,ht⟩⟩)
 ·rintro x0 _ _ ⟨hSu,sv,h2⟩;refine Wu ?_ hSu;refine Ws<|Rl z z z<|Wn<|Wq<|Wc z (fun hc=>(V_ hc).elim) (fun _=>?_)
  exact We<|fun _ q=>⟨rfl,⟨q.k<|s1 z,sv,h2⟩⟩
 ·rintro x0 aw _ rfl ⟨_,sx,h2⟩;have hmy:=elL L;revert aw;refine Wo<|Wm z<|Rw z ?_
  obtain rfl:=som hmy;exact Wr<|d_ hr z ⟨sx,z,h2⟩
 rintro _ _ _ _ rfl ⟨rfl,hqz⟩;have V:=elR L;obtain rfl:=som V;exact ⟨hqz,z⟩
def Q21 (w0:World)(B:Zone)(r:Int×Int×(Option<|Int×Int))(v:Value)(w':World):Prop:=Bw w0 w'/\un3 (fun G H I=>∃(v1:Value)(S1:List Nat),v = .tuple #[vI G,vI H,v1]/\inI G/\inI H/\a_C 102 w' S1 v1 I/\(∀k∈S1,w0.z<=k)) r
theorem i_N {x1:a_u}{b1 o1:Nat}{x2:Int}{x3:Int}{res:Int×Int×(Option<|Int×Int)}(hm:e_o x1 x2 x3=some res)(L:B<=w0.z)(I:repS w0 B (sl A0 N0 C0) x1.d.rules)(a0:repS w0 B (sl A5 N5 C5) x1.b)(hC1:I_ w0 b1 o1 [sl A0 N0 C0,sl A5 N5 C5])(hC1b:B b1)(ab:inI x2)(J:inI x3):k_ prog 95 [(.pointer<|some ⟨b1,o1,none⟩),vI x2,vI x3] w0 (Q21 w0 B res):=by
 unfold e_o at hm
 refine goG func95 z z z fun fn hr=>Ws<|RA z z<|Rw z<|Wm z<|R z (N_ z)<|Rf z n_5 z<|Rf z a_d z<|R z (l0 a_g z<|hC1.at (j:=0) z)<|Rm z ?_
 obtain ⟨x5,eq,hmr⟩:=bdS hm;refine RX z (at_ (α:=b_) P_ r_ z z z I eq) ?_;rintro _ ⟨_,_,_,rfl,ht,hu,_⟩;obtain ⟨O,V,W,Y,na,cb,ac,nd,ce,af,ng,ch,rfl,_,_,hv,_,_,_,_⟩:=a_A hu;refine R z (lN (vs:=vR x5 O V W Y na cb ac nd ce af ng ch) G_ r_ z z fid ht)<|E z (fa c_8) ?_
 rintro _ ws ⟨rfl,hi⟩;have G:=hi.below;refine E0 (fs0 (cur':=vR x5 O V W Y na cb ac nd ce af ng ch) r_ z z (hi.blk:Blk ws w0.z [(Str.v (⟨[]⟩:Str)),vI 0,vI 0,vB false,sl none 0 0,sl none 0 0,sl none 0 0,sl none 0 0]) z z z z) ?_;rintro _ _ ⟨hj,sx⟩;have h1:=sx.one;refine Wn<|Wm z<|Rm z<|Rf z a_F z<|R z (l0 g_3 z<|hj.at z) ?_
 have hk:∀k∈[w0.z],¬B k:=or0 (e_ lr)<|m_ L;have hl:=(G.ag B).c h1<|g_ hk
 have hn:=lt_ G.s h1.s;obtain ⟨_,_,ey,hmm⟩:=a_n hmr;refine E z (fc call129 z<|i_M ey (zt' L hn) (I.g hl) (a0.g hl) ((hC1.e G).c h1<|(g_ hk) _ hC1b) hC1b J hv) ?_;rintro _ wz ⟨s3,_,_,_,a2,a3,rfl,a4,ho,a5⟩;refine Rm z<|Re z z z<|Re z z z<|Ra z<|Rw z<|Wq<|Wm z<|R z (d_q d_z z z ho)<|Wx z (fun H=>?_) (fun H=>?_)
 ·refine Wm z<|Rm z<|RA z z<|Rw z ?_
  obtain rfl:=som<|ifT hmm H;exact Wr<|A_ hr z z z ⟨bup (bM G h1<|e_ lr) s3,a2,a3,z,ii z,J,ho,h_ a5 hn⟩
 refine Wk<|Wq (Wd (X:=noX) 0 (.rd 0<|.rd 1<|.rd 2<|.rd 4<|.rd 5<|.rd 6<|.rd 7<|.ef 3<|.rd 8<|.rd 9<|.rd 10 .done) mo (by kernel_rfl) fun ad s2 _=>dM z z z<|dR z z (fd c_s z) ?_)
 have hp:=(hj.e s3).e s2;refine dR z z (l0 g_4 z<|hp.at z)<|dM z z z<|dR z z (fd a_F z)<|dR z z (l0 g_3 z<|hp.at z)<|dR z z (add_ z z) ?_
 obtain ⟨_,a7,a1⟩:=bdS<|ifF hmm H;refine dE z z (fc call130 z<|W_w34 (B:=wz.z) a7 (a_I s2.s)<|a4.e s2) (.inr fun _ _ h=>o_<|h.1) ?_;rintro _ _ ⟨a8,rfl,aa⟩
 iterate 3 refine dQ z z z ?_
 refine pD<|Wo ?_
 obtain rfl:=som a1;exact Wr<|A_ hr z z z ⟨bup (bup (bup (bM G h1<|e_ lr) s3) s2) a8,.nilIface,([]:List Nat),z,aa,iA _ _,d_R,an_⟩
def Q22 (w0:World)(B:Zone)(r:Int×(Option<|Int×Int))(v:Value)(w':World):Prop:=Bw w0 w'/\un2 (fun G H=>∃(v1:Value)(S1:List Nat),v = .tuple #[vI G,v1]/\inI G/\a_C 102 w' S1 v1 H/\(∀k∈S1,w0.z<=k)) r
theorem W_w35 {x1:a_u}{b1 o1:Nat}{x2:b_}{x3:Int}{res:Int×(Option<|Int×Int)}(hm:h_o x1 x2 x3=some res)(V:B<=w0.z)(ad:repS w0 B (sl A0 N0 C0) x1.d.rules)(a0:repS w0 B (sl A5 N5 C5) x1.b)(hC1:I_ w0 b1 o1 [sl A0 N0 C0,sl A5 N5 C5])(hC1b:B b1)(ae:x2.name.b.length<=LEN)(af:inI x2.kind)(ah:inI x2.size)(I:repS w0 B (sl A2 N2 C2) x2.bytes)(ai:repS w0 B (sl A3 N3 C3) x2.names)(aj:repS w0 B (sl A1 N1 C1) x2.tags)(ak:repS w0 B (sl A4 N4 C4) x2.kids)(J:inI x3):k_ prog 96 [(.pointer<|some ⟨b1,o1,none⟩),.agg #[Str.v x2.name,vI x2.kind,vI x2.size,vB x2.little,sl A2 N2 C2,sl A3 N3 C3,sl A1 N1 C1,sl A4 N4 C4],vI x3] w0 (Q22 w0 B res):=by
 unfold h_o at hm
 refine goG func96 z z z fun fn hr=>Ws<|E z (fb z) ?_
 rintro _ H ⟨rfl,h6⟩;have G:=h6.below;have Y:Blk H w0.z (vR x2 A2 N2 C2 A3 N3 C3 A1 N1 C1 A4 N4 C4):=h6.blk;refine Ra z<|Rw z<|Wq<|Ws<|Rf z a_U z<|R z (l0 F_ z<|Y.at z)<|R z (lnR p_ z<|I.e G)<|Rm z<|Wn ?_
 obtain ⟨_,hui,W⟩:=bdS hm;refine Wf (σ:=Unit) (ρ:=Int×(Option<|Int×Int)) (fun (k9:Nat)(_:Unit) a w=>Sat 52 [(0,.pointer<|some ⟨b1,o1,none⟩),(2,vI x3),(4,pt w0.z),(11,sl A2 N2 C2),(12,vI (x2.bytes.length:Int)),(13,vI ((k9:Nat):Int))] a/\Below H.z H w) (fun (_:Unit) a w=>Sat 52 [(2,vI x3),(4,pt w0.z)] a/\Below H.z H w) (rQ prog fn<|Q22 w0 B) hui ?_ ?_ ?_ ?_ ?_
 ·exact fun _ q=>⟨q.k<|s6 z z z z z z,br H⟩
 ·rintro k9 _ _ _ _ hka ⟨hSj,s1⟩ hmk;refine Wu ?_ hSj;refine Ws<|Rl z z z<|Wn<|Wq<|Wc z (fun _=>?_) (fun hc=>(U_ hka hc).elim)
  refine Wk<|Wq<|Wb<|Wm z ?_
  obtain ⟨_,el,hmb⟩:=bdS hmk;have hd:=(G.ag B).e s1;refine RX z (at_ (α:=UInt8) p_ z_5 z z z (I.g hd) el) ?_;rintro _ ⟨_,_,_,rfl,hn,ho,_⟩;obtain rfl:=u8 ho;refine R z (l0 g_5 z<|hn.at0 z)<|Ra z<|Rw z<|Wq<|Wm z<|Rm z<|R z (add_ z z)<|Rm z<|R z (N_ z)<|Rf z f_E z ?_
  have he:=(hC1.e G).e s1;refine R z (l0 F_ z<|he.at (j:=1) z) ?_;have hf:=a0.g hd;refine R z (lnR p_ z hf)<|R z (b_k z z)<|Wx z (fun L=>?_) (fun L=>?_)
  ·refine Wm z<|Rm z ?_
   have hg:=lt_ G.s s1.s;obtain ⟨_,em,hmp⟩:=bdS<|ifT hmb L;refine E z (fc call104 z<|e_e em (zt' V hg) J<|ii z) ?_;rintro _ _ ⟨sq,vr,Ss,rfl,ht,hu⟩;exact Ra z<|Rw z<|Wr<|rtO<|qL (som hmp).symm<|a_9 hr z z ⟨bup (bup G s1) sq,vr,Ss,z,J,ht,h_ hu hg⟩
  refine Wk<|Wm z<|R z (N_ z)<|Rf z f_E z<|R z (l0 F_ z<|he.at (j:=1) z)<|RM z z<|R z (add_ z z) ?_
  obtain ⟨_,ev,hmc⟩:=bdS<|ifF hmb L;refine RX z (at_ (α:=UInt8) p_ z_5 z z z hf ev) ?_;rintro _ ⟨_,_,_,rfl,hw,hx,_⟩;obtain rfl:=u8 hx;refine R z (l0 g_5 z<|hw.at0 z)<|Rm z<|R z (nq z z)<|Wx z (fun O=>?_) (fun O=>?_)
  ·refine Wm z<|RM z z<|R z (add_ z z) ?_
   have hh:=lt_ G.s s1.s;obtain ⟨_,ey,hmz⟩:=bdS<|ifT hmc O;refine E z (fc call104 z<|e_e ey (zt' V hh) (iA _ _)<|ii z) ?_;rintro _ _ ⟨a5,a6,a7,rfl,a8,a9⟩;exact Ra z<|Rw z<|Wr<|rtO<|qL (som hmz).symm<|a_9 hr z z ⟨bup (bup G s1) a5,a6,a7,z,J,a8,h_ a9 hh⟩
  exact Wk<|Wg<|R z (inc_ hka (lt_ (repS.len I) D_) z z)<|Rm z<|Wl (fun _ q=>⟨(),(som<|ifF hmc O).symm,⟨q.k<|s6 z z z z z z,s1⟩⟩)
 ·rintro _ _ _ ⟨a1,aa⟩;refine Wu ?_ a1;refine Ws<|Rl z z z<|Wn<|Wq<|Wc z (fun hc=>(V_ hc).elim) (fun _=>?_)
  exact We<|fun _ q=>⟨rfl,⟨q.k<|s2 z z,aa⟩⟩
 ·rintro _ ab _ rfl ⟨_,s5⟩;have a2:=elL W;revert ab;refine Wo<|Wm z<|Rf z a_U z<|R z (l0 F_ z<|(Y.e s5).at z)<|R z (lnR p_ z<|I.g<|(G.ag B).e s5)<|R z (add_ z z)<|Ra z<|Rw z ?_
  obtain rfl:=som a2;exact Wr<|a_9 hr z z ⟨bup G s5,.nilIface,([]:List Nat),z,iA _ _,d_R,an_⟩
 rintro _ _ _ _ rfl ⟨rfl,a3⟩;have a4:=elR W;obtain rfl:=som a4;exact ⟨a3,z⟩
def Q23 (w0:World)(B:Zone)(r:Val×Int×(Option<|Int×Int))(v:Value)(w':World):Prop:=Bw w0 w'/\un3 (fun G H W=>∃(I:Option Addr)(J L:Nat)(S1:List Nat)(a2:Option Addr)(O V:Nat)(S2:List Nat)(v3:Value)(S3:List Nat),v = .tuple #[(.agg #[vI G.number,sl I J L,sl a2 O V]),vI H,v3]/\inI G.number/\a_ w' S1 (sl I J L) G.bytes/\a_ w' S2 (sl a2 O V) G.items/\inI H/\a_C 102 w' S3 v3 W/\(∀k∈S3,w0.z<=k)/\(S1++S2).Nodup/\(∀k∈(S1++S2),w0.z<=k)) r
theorem W_w1o {x1:a_u}{b1 o1:Nat}{x2:Int}{x3:Int}{res:Val×Int×(Option<|Int×Int)}(hm:f_T x1 x2 x3=some res)(a2:B<=w0.z)(Y:repS w0 B (sl A0 N0 C0) x1.d.rules)(a0:repS w0 B (sl A5 N5 C5) x1.b)(hC1:I_ w0 b1 o1 [sl A0 N0 C0,sl A5 N5 C5])(hC1b:B b1)(O:inI x2)(a1:inI x3):k_ prog 97 [(.pointer<|some ⟨b1,o1,none⟩),vI x2,vI x3] w0 (Q23 w0 B res):=by
 unfold f_T at hm
 refine goG func97 z z z fun fn hr=>Ws<|E z (fa L_) ?_
 rintro _ wk ⟨rfl,W⟩;have G:=W.below;have h2:Blk wk w0.z [vI 0,sl none 0 0,sl none 0 0]:=W.blk;refine Ra z<|Rw z<|Wm z<|RM z z ?_
 obtain ⟨_,_,el,V⟩:=a_n hm;refine E z (fc call129 z<|i_M el (zt' a2 G.s) (Y.e G) (a0.e G) (hC1.e G) hC1b O a1) ?_;rintro _ _ ⟨s1,_,_,_,vm,Sn,rfl,ho,ha,hb⟩;refine Rm z<|Re z z z<|Re z z z<|Ra z<|Rw z<|Wq<|Wm z<|R z (d_q d_z z z ha)<|Wx z (fun H=>?_) (fun H=>?_)
 ·refine Ws<|R z (bP (parts:=[]) (cs:=[vI 0,sl none 0 0,sl none 0 0]) J_ z z)<|RM z z<|E0 (fs0 (cur':=[vI 0,sl none 0 0,sl none 0 0]) c_ z z (h2.e s1) z z z z) ?_
  rintro _ _ ⟨hp,sq⟩;have hc:=sq.one;refine Ra z<|Rw z ?_
  obtain rfl:=som<|ifT V H;exact Wr<|A_ hr (y_ l_ c_ z hp z) z z ⟨bM (bup G s1) hc<|e_ lr,none,0,0,[],none,0,0,[],vm,Sn,z,ii z,onL,onL,O,ha.c hc<|n_ hb h2.lt lr,h_ hb G.s,nd0,al0⟩
 refine Wk<|Ws<|E z (f0 (α:=UInt8) z_) ?_
 rintro _ _ ⟨_,_,_,rfl,s3,ht⟩;refine Rm z ?_;obtain ⟨_,er,hms⟩:=bdS<|ifF V H;refine E z (fN (α:=UInt8) z_ er z z ht M_<|ho.e s3) ?_;rintro _ _ ⟨Sd,I,J,L,rfl,se,hu,hv,hf⟩;refine R z (bP (parts:=[(1,.tmp 25)]) (cs:=[vI 0,sl I J L,sl none 0 0]) J_ z z)<|RM z z<|R z (add_ z z) ?_
 have hg:=mm1 h2.lt s1.s;refine E0 (fs0 (cur':=[vI 0,sl I J L,sl none 0 0]) c_ z z (((h2.e s1).e s3).c se<|djs hg) z z z z) ?_;rintro _ _ ⟨hw,sx⟩;have hh:=sx.one;refine Ra z<|Rw z ?_
 obtain rfl:=som hms;have hi:=lt_ G.s s1.s;have hj:=m1 hi;exact Wr<|A_ hr (y_ l_ c_ z hw z) z z ⟨bM (bM (bup (bup G s1) s3) se hj) hh<|e_ lr,I,J,L,Sd,none,0,0,[],.nilIface,([]:List Nat),z,ii z,hu.c hh (or1 hf hg (X_ (e_ h2.lt)<|lt_ s1.s s3.s):∀k∈Sd,k∉[w0.z]),onL,iA _ _,d_R,an_,na_ hv a_2<|nmN _,aa_ (a_8 hf hj<|lt_ hi s3.s) an_⟩
theorem W_w1p {x1:List UInt8}{res:Int}(hm:f_9 x1=some res)(W:B<=w0.z)(G:repS w0 B (sl A0 N0 C0) x1):k_ prog 119 [sl A0 N0 C0] w0 (Q0 w0 B res):=by
 unfold f_9 at hm
 refine goG func119 z z z fun fn hr=>Ws<|Rw z<|Ws<|Rw z<|Wq<|Wm z<|R z (lnR p_ z G)<|Rm z<|Wn ?_
 obtain ⟨_,J,H⟩:=bdS hm;refine Wf (σ:=Int) (ρ:=Int) (fun (k3:Nat)(x0:Int) a w=>Sat 19 [(3,vI x0),(6,sl A0 N0 C0),(7,vI (x1.length:Int)),(8,vI ((k3:Nat):Int))] a/\Below w0.z w0 w/\inI x0) (fun (x0:Int) a w=>Sat 19 [(3,vI x0)] a/\Below w0.z w0 w/\inI x0) (rQ prog fn<|Q0 w0 B) J ?_ ?_ ?_ ?_ ?_
 ·exact fun _ q=>⟨q.k<|s4 z z z z,br w0,ii z⟩
 ·rintro k3 x0 _ _ _ I ⟨L,s5,h1⟩ O;refine Wu ?_ L;refine Ws<|Rl z z z<|Wn<|Wq<|Wc z (fun _=>?_) (fun hc=>(U_ I hc).elim)
  refine Wk<|Wq<|Wb<|Ws ?_
  obtain ⟨V,ea,hmb⟩:=bdS O;refine RX z (at_ (α:=UInt8) p_ z_5 z z z (G.e s5) ea) ?_;rintro _ ⟨_,_,_,rfl,hd,he,_⟩;obtain rfl:=u8 he;exact R z (l0 g_5 z<|hd.at0 z)<|Rw z<|Wg<|RM z z<|R z (c_w d_5 d_3 z)<|R z (add_ z z)<|Rw z<|Wg<|R z (inc_ I (lt_ (repS.len G) D_) z z)<|Rm z<|Wl (fun _ q=>⟨i_ x0<|byteI V,(som hmb).symm,⟨q.k<|s4 z z z z,s5,iA _ _⟩⟩)
 ·rintro x0 _ _ ⟨hSc,sf,h1⟩;refine Wu ?_ hSc;refine Ws<|Rl z z z<|Wn<|Wq<|Wc z (fun hc=>(V_ hc).elim) (fun _=>?_)
  exact We<|fun _ q=>⟨rfl,⟨q.k<|s1 z,sf,h1⟩⟩
 ·rintro x0 ag _ rfl ⟨_,sh,h1⟩;have hmi:=elL H;revert ag;refine Wo<|Wm z<|R z (g_u z z (by decide))<|Rw z ?_
  obtain rfl:=som hmi;exact Wr<|d_ hr z ⟨sh,z,j_a h1⟩
 rintro _ _ _ _ rfl ⟨rfl,hqj⟩;have hmk:=elR H;obtain rfl:=som hmk;exact ⟨hqj,z⟩
theorem W_w36 {x1:List UInt8}{x2:Int}{x3:UInt8}{res:(List UInt8)×Int×Bool}(hm:h_n n x1 x2 x3=some res)(aq:B<=w0.z)(Y:repS w0 B (sl A0 N0 C0) x1)(a0:inI x2):k_ prog 103 [sl A0 N0 C0,vI x2,vU<|byteI x3] w0 (Q12 w0 B res):=by
 unfold h_n at hm
 refine goG func103 z z z fun fn hr=>Ws<|RA z z<|Rw z<|Ws<|E z (f0 (α:=UInt8) z_) ?_
 rintro _ wg ⟨aj,nk,cl,rfl,s8,hv⟩;refine Rw z<|Wq<|Wq ?_
 obtain ⟨ar,huw,hmx⟩:=bdS hm;refine Wt (fun a w=>∃(xm:Bool),xm=ar/\Sat 58 [(0,sl A0 N0 C0),(1,vI x2),(2,vU<|byteI x3),(9,sl aj nk cl),(19,vB xm)] a/\Below wg.z wg w) ?_ ?_
 ·refine Wg<|Rm z<|Rl z z z<|Rm z ?_
  rcases bs (decide<|x2<0) with I | I
  ·iterate 4 refine Nh z I ?_
   exact R z (pT z I z)<|Wl (fun _ q=>⟨true,som<|ifT huw I,q.k<|s5 z z z z z,br wg⟩)
  exact Rh z I (mv z)<|Rh z I (mv z)<|Rh z I (lnR p_ z<|Y.e s8)<|Rh z I (a_z z z)<|R z (pF z I z)<|Wl (fun _ q=>⟨decide<|(x1.length:Int)<x2,som<|ifF huw I,q.k<|s5 z z z z z,br wg⟩)
 rintro au G ⟨xm,rfl,_,s6⟩;revert au;refine Wo<|Wc z (fun hcn=>?_) (fun hcn=>?_)
 ·refine Wm z<|Rm z<|RA z z<|Rw z ?_
  obtain rfl:=som<|ifT hmx hcn;exact Wr<|A_ hr z z z ⟨bup s8 s6,aj,nk,cl,[w0.z],z,hv.e s6,a0,M_,e_ lr⟩
 refine Wk<|Wq<|Wm z<|Rw z ?_
 obtain ⟨_,ad,hmy⟩:=bdS<|ifF hmx hcn;refine b_w (σ:=(List UInt8)×Int) (ρ:=(List UInt8)×Int×Bool) (fun s a w=>un2 (fun xb V=>∃J L O H,Sat 58 [(0,sl A0 N0 C0),(1,vI x2),(2,vU<|byteI x3),(9,sl J L O),(10,vI V)] a/\Chg (· ∈ [w0.z]) G w/\a_ w H (sl J L O) xb/\H.Nodup/\(∀k∈H,k∈[w0.z]∨G.z<=k)/\inI V) s) (fun s a w=>un2 (fun xb V=>∃J L O H,Sat 58 [(1,vI x2)] a/\Chg (· ∈ [w0.z]) G w/\a_ w H (sl J L O) xb/\H.Nodup/\(∀k∈H,k∈[w0.z]∨G.z<=k)/\inI V) s) (rQ prog fn<|Q12 w0 B) ad ?_ ?_ ?_ ?_
 ·exact fun _ q=>⟨aj,nk,cl,[w0.z],q.k<|s5 z z z z z,cr [w0.z] G,hv.e s6,M_,io sr,a0⟩
 ·rintro ⟨xb,V⟩ _ W _ ⟨J,L,O,H,ae,sa,hc,hd,he,ho⟩ af;have hmz:=a_P af;refine Wu ?_ ae;refine Wq<|Wm z<|Rm z ?_
  have a6:=((s8.ag B).e s6).c sa<|g_ (or0 (e_ lr) (m_ aq):∀k∈[w0.z],¬B k)
  have hh:=Y.g a6;refine R z (lnR p_ z hh)<|Rl z z z<|Wx z (fun hcp=>?_) (fun hcp=>?_)
  ·refine Wk<|Wq<|Wb<|Wq<|Wm z<|Rm z ?_
   obtain ⟨_,av,a1⟩:=bdS<|ifT hmz hcp;refine RX z (at_ (α:=UInt8) p_ z_5 z z z hh av) ?_;rintro _ ⟨_,_,_,rfl,aw,ax,_⟩;obtain rfl:=u8 ax;refine R z (l0 g_5 z<|aw.at0 z)<|Rm z<|Rq z z z<|Wx z (fun hcq=>?_) (fun hcq=>?_)
   ·refine Wm z<|Rm z<|R z (add_ z z)<|RA z z<|Rw z ?_
    exact Wr<|rtO<|qL (som<|ifT a1 hcq).symm<|A_ hr z z z ⟨bM (bup s8 s6) sa<|e_ lr,J,L,O,H,z,hc,iA _ _,hd,(or1 he (e_ lr) (b_4<|lt_ s8.s s6.s):∀k∈H,w0.z<=k)⟩
   refine Wk<|Wq<|Wm z<|Rm z ?_
   obtain ⟨_,ay,ah⟩:=bdS<|ifF a1 hcq;refine RX z (at_ (α:=UInt8) p_ z_5 z z z hh ay) ?_;rintro _ ⟨_,_,_,rfl,az,aA,_⟩;obtain rfl:=u8 aA;refine R z (l0 g_5 z<|az.at0 z)<|Rq z z z<|Wn ?_
   obtain ⟨aB,a2,a4⟩:=bdS ah;refine Wt (fun a w=>∃(xf:Int),Sum.inl xf=aB/\Sat 58 [(0,sl A0 N0 C0),(1,vI x2),(2,vU<|byteI x3),(9,sl J L O),(10,vI xf)] a/\Below W.z W w/\inI xf) ?_ ?_
   ·refine Wc z (fun hcr=>?_)<|fun hcr=>?_
    ·have a5:=ifT a2 hcr;refine Wm z<|R z (add_ z z)<|Rw z<|Wm z<|Rm z<|R z (lnR p_ z hh)<|Rq z z z<|Wx z (fun hcs=>?_) (fun hcs=>?_)
     ·obtain rfl:=som<|ifT a5 hcs;have ai:=elR a4;exact We<|exO z (fun _ q=>b_h (som ai).symm ⟨J,L,O,H,q.k<|s1 z,(cM (cr [w0.z] G) sa (io sr):Chg (· ∈ [w0.z]) G W),hc,hd,(or1 he (io sr) (j_ lr):∀k∈H,k∈[w0.z]∨G.z<=k),iA _ _⟩)
     exact a_h<|fun _ q=>⟨i_ V 1,som<|ifF a5 hcs,q.k<|s5 z z z z z,br W,iA _ _⟩
    exact a_h<|fun _ q=>⟨V,som<|ifF a2 hcr,q.k<|s5 z z z z z,br W,ho⟩
   rintro aC a7 ⟨xf,rfl,_,si,_⟩;have ak:=elL a4;revert aC;refine Wo<|Wg<|RM z z<|Rm z ?_
   obtain ⟨aD,aE,al⟩:=bdS ak;refine RX z (at_ (α:=UInt8) p_ z_5 z z z (Y.g<|a6.e si) aE) ?_;rintro _ ⟨_,_,_,rfl,aF,aG,_⟩;obtain rfl:=u8 aG;refine R z (l0 g_5 z<|aF.at0 z)<|E z (fS [(.tmp 53)] z_ z z z (a_Q z) (lb z)<|lb z) ?_
   rintro _ a8 ⟨rfl,ht⟩;have hu:=ht.below;have aY:=b_a ht a_B;obtain ⟨aH,aI,am⟩:=bdS al;refine E z (b_g (α:=UInt8) z_ aI z z ((hc.e si).e hu) hd (ht.blk:Blk a8 a7.z [vU (byteI aD)]) a_B an_ a_2) ?_;rintro _ aJ ⟨a9,aK,aL,aM,rfl,aN,aO,aP,aQ⟩;refine Rw z<|Wg<|Rm z<|R z (add_ z z)<|Ra z<|Wl ?_
   have aa:∀k∈H,k∈[w0.z]∨G.z<=k:=or1 he (io sr)<|j_ lr;exact fun _ q=>⟨(aH,i_ xf 1),(som am).symm,⟨aK,aL,aM,a9,q.k<|s5 z z z z z,(cM (C_ (C_ (cM (cr [w0.z] G) sa (io sr):Chg (· ∈ [w0.z]) G W) si:Chg (· ∈ [w0.z]) G a7) hu:Chg (· ∈ [w0.z]) G a8) aN aa:Chg (· ∈ [w0.z]) G aJ),aO,aP,(or2 aQ aa an_ (j_<|lt_ (lt_ sa.s si.s) hu.s):∀k∈a9,k∈[w0.z]∨G.z<=k),iA _ _⟩⟩
  exact We<|fun _ q=>b_h (som<|ifF hmz hcp).symm ⟨J,L,O,H,q.k<|s1 z,(cM (cr [w0.z] G) sa (io sr):Chg (· ∈ [w0.z]) G W),hc,hd,(or1 he (io sr) (j_ lr):∀k∈H,k∈[w0.z]∨G.z<=k),ho⟩
 ·rintro ⟨xb,V⟩ aR aS rfl ⟨J,L,O,H,_,ab,hc,hd,he,ho⟩;have an:=elL hmy;revert aR;refine Wo<|Ws<|E z (f0 (α:=UInt8) z_) ?_
  rintro _ _ ⟨aT,aU,aV,rfl,aW,aX⟩;refine Rm z<|RA z z<|Rw z ?_
  obtain rfl:=som<|a_P an;exact Wr<|A_ hr z z z ⟨bup (bM (bup s8 s6) ab<|e_ lr) aW,aT,aU,aV,[aS.z],z,aX,a0,M_,m1<|lt_ (lt_ s8.s s6.s) ab.s⟩
 rintro _ _ _ _ rfl ⟨rfl,ao⟩;have ap:=elR hmy;obtain rfl:=som ap;exact ⟨ao,z⟩
def Q24 (w0:World)(B:Zone)(S2_1:List Nat)(S2_2:List Nat)(r:Val×Int×(Option<|Int×Int))(v:Value)(w':World):Prop:=Chg (· ∈ (S2_1++S2_2)) w0 w'/\un3 (fun G H W=>∃(I:Option Addr)(J L:Nat)(S1:List Nat)(a2:Option Addr)(O V:Nat)(S2:List Nat)(v3:Value)(S3:List Nat),v = .tuple #[(.agg #[vI G.number,sl I J L,sl a2 O V]),vI H,v3]/\inI G.number/\a_ w' S1 (sl I J L) G.bytes/\a_ w' S2 (sl a2 O V) G.items/\inI H/\a_C 102 w' S3 v3 W/\(∀k∈S3,w0.z<=k)/\(S1++S2).Nodup/\(∀k∈(S1++S2),k∈(S2_1++S2_2)∨w0.z<=k)) r
structure k_E (f:a_u->Int->Int->Option (Val×Int×(Option<|Int×Int))):Prop where
  run:∀{A0 A5:Option Addr}{N0 C0 N5 C5 b1 o1:Nat}{B:Zone}{x1:a_u}{x2:Int}{x3:Int}{res:Val×Int×(Option<|Int×Int)}{w0:World}(hm:f x1 x2 x3=some res)(hBw:B<=w0.z)(p1_0:repS w0 B (sl A0 N0 C0) x1.d.rules)(p1_1:repS w0 B (sl A5 N5 C5) x1.b)(hC1:I_ w0 b1 o1 [sl A0 N0 C0,sl A5 N5 C5])(hC1b:B b1)(p2_0:inI x2)(p3_0:inI x3),k_ prog 68 [(.pointer<|some ⟨b1,o1,none⟩),vI x2,vI x3] w0<|Q23 w0 B res
structure k_F (f:a_u->b_->Int->Option (Val×Int×(Option<|Int×Int))):Prop where
  run:∀{A0 A5 A2 A3 A1 A4:Option Addr}{N0 C0 N5 C5 b1 o1 N2 C2 N3 C3 N1 C1 N4 C4:Nat}{B:Zone}{x1:a_u}{x2:b_}{x3:Int}{res:Val×Int×(Option<|Int×Int)}{w0:World}(hm:f x1 x2 x3=some res)(hBw:B<=w0.z)(p1_0:repS w0 B (sl A0 N0 C0) x1.d.rules)(p1_1:repS w0 B (sl A5 N5 C5) x1.b)(hC1:I_ w0 b1 o1 [sl A0 N0 C0,sl A5 N5 C5])(hC1b:B b1)(p2_0:x2.name.b.length<=LEN)(p2_1:inI x2.kind)(p2_2:inI x2.size)(p2_4:repS w0 B (sl A2 N2 C2) x2.bytes)(p2_5:repS w0 B (sl A3 N3 C3) x2.names)(p2_6:repS w0 B (sl A1 N1 C1) x2.tags)(p2_7:repS w0 B (sl A4 N4 C4) x2.kids)(p3_0:inI x3),k_ prog 98 [(.pointer<|some ⟨b1,o1,none⟩),.agg #[Str.v x2.name,vI x2.kind,vI x2.size,vB x2.little,sl A2 N2 C2,sl A3 N3 C3,sl A1 N1 C1,sl A4 N4 C4],vI x3] w0<|Q23 w0 B res
structure k_G (f:a_u->Val->(List Int)->Int->Option (Val×Int×(Option<|Int×Int))):Prop where
  run:∀{A0 A5 AA AB A9:Option Addr}{N0 C0 N5 C5 b1 o1 NA CA NB CB N9 C9:Nat}{S2_1 S2_2:List Nat}{B:Zone}{x1:a_u}{x2:Val}{x3:List Int}{x4:Int}{res:Val×Int×(Option<|Int×Int)}{w0:World}(hm:f x1 x2 x3 x4=some res)(hBw:B<=w0.z)(p1_0:repS w0 B (sl A0 N0 C0) x1.d.rules)(p1_1:repS w0 B (sl A5 N5 C5) x1.b)(hC1:I_ w0 b1 o1 [sl A0 N0 C0,sl A5 N5 C5])(hC1b:B b1)(p2_0:inI x2.number)(p2_1:a_ w0 S2_1 (sl AA NA CA) x2.bytes)(p2_1n:S2_1.Nodup)(p2_1g:∀k∈S2_1,¬B k)(p2_2:a_ w0 S2_2 (sl AB NB CB) x2.items)(p2_2n:S2_2.Nodup)(p2_2g:∀k∈S2_2,¬B k)(p2_2d1:∀k∈S2_2,k∉S2_1)(p3_0:repS w0 B (sl A9 N9 C9) x3)(p4_0:inI x4),k_ prog 99 [(.pointer<|some ⟨b1,o1,none⟩),.agg #[vI x2.number,sl AA NA CA,sl AB NB CB],sl A9 N9 C9,vI x4] w0<|Q24 w0 B S2_1 S2_2 res
structure k_H (f:a_u->b_->Int->Option (Val×Int×(Option<|Int×Int))):Prop where
  run:∀{A0 A5 A2 A3 A1 A4:Option Addr}{N0 C0 N5 C5 b1 o1 N2 C2 N3 C3 N1 C1 N4 C4:Nat}{B:Zone}{x1:a_u}{x2:b_}{x3:Int}{res:Val×Int×(Option<|Int×Int)}{w0:World}(hm:f x1 x2 x3=some res)(hBw:B<=w0.z)(p1_0:repS w0 B (sl A0 N0 C0) x1.d.rules)(p1_1:repS w0 B (sl A5 N5 C5) x1.b)(hC1:I_ w0 b1 o1 [sl A0 N0 C0,sl A5 N5 C5])(hC1b:B b1)(p2_0:x2.name.b.length<=LEN)(p2_1:inI x2.kind)(p2_2:inI x2.size)(p2_4:repS w0 B (sl A2 N2 C2) x2.bytes)(p2_5:repS w0 B (sl A3 N3 C3) x2.names)(p2_6:repS w0 B (sl A1 N1 C1) x2.tags)(p2_7:repS w0 B (sl A4 N4 C4) x2.kids)(p3_0:inI x3),k_ prog 100 [(.pointer<|some ⟨b1,o1,none⟩),.agg #[Str.v x2.name,vI x2.kind,vI x2.size,vB x2.little,sl A2 N2 C2,sl A3 N3 C3,sl A1 N1 C1,sl A4 N4 C4],vI x3] w0<|Q23 w0 B res
structure k_I (f:a_u->b_->Int->Option (Val×Int×(Option<|Int×Int))):Prop where
  run:∀{A0 A5 A2 A3 A1 A4:Option Addr}{N0 C0 N5 C5 b1 o1 N2 C2 N3 C3 N1 C1 N4 C4:Nat}{B:Zone}{x1:a_u}{x2:b_}{x3:Int}{res:Val×Int×(Option<|Int×Int)}{w0:World}(hm:f x1 x2 x3=some res)(hBw:B<=w0.z)(p1_0:repS w0 B (sl A0 N0 C0) x1.d.rules)(p1_1:repS w0 B (sl A5 N5 C5) x1.b)(hC1:I_ w0 b1 o1 [sl A0 N0 C0,sl A5 N5 C5])(hC1b:B b1)(p2_0:x2.name.b.length<=LEN)(p2_1:inI x2.kind)(p2_2:inI x2.size)(p2_4:repS w0 B (sl A2 N2 C2) x2.bytes)(p2_5:repS w0 B (sl A3 N3 C3) x2.names)(p2_6:repS w0 B (sl A1 N1 C1) x2.tags)(p2_7:repS w0 B (sl A4 N4 C4) x2.kids)(p3_0:inI x3),k_ prog 101 [(.pointer<|some ⟨b1,o1,none⟩),.agg #[Str.v x2.name,vI x2.kind,vI x2.size,vB x2.little,sl A2 N2 C2,sl A3 N3 C3,sl A1 N1 C1,sl A4 N4 C4],vI x3] w0<|Q23 w0 B res
structure k_J (f:a_u->b_->Int->Option (Val×Int×(Option<|Int×Int))):Prop where
  run:∀{A0 A5 A2 A3 A1 A4:Option Addr}{N0 C0 N5 C5 b1 o1 N2 C2 N3 C3 N1 C1 N4 C4:Nat}{B:Zone}{x1:a_u}{x2:b_}{x3:Int}{res:Val×Int×(Option<|Int×Int)}{w0:World}(hm:f x1 x2 x3=some res)(hBw:B<=w0.z)(p1_0:repS w0 B (sl A0 N0 C0) x1.d.rules)(p1_1:repS w0 B (sl A5 N5 C5) x1.b)(hC1:I_ w0 b1 o1 [sl A0 N0 C0,sl A5 N5 C5])(hC1b:B b1)(p2_0:x2.name.b.length<=LEN)(p2_1:inI x2.kind)(p2_2:inI x2.size)(p2_4:repS w0 B (sl A2 N2 C2) x2.bytes)(p2_5:repS w0 B (sl A3 N3 C3) x2.names)(p2_6:repS w0 B (sl A1 N1 C1) x2.tags)(p2_7:repS w0 B (sl A4 N4 C4) x2.kids)(p3_0:inI x3),k_ prog 102 [(.pointer<|some ⟨b1,o1,none⟩),.agg #[Str.v x2.name,vI x2.kind,vI x2.size,vB x2.little,sl A2 N2 C2,sl A3 N3 C3,sl A1 N1 C1,sl A4 N4 C4],vI x3] w0<|Q23 w0 B res
abbrev f_2 (n:Nat):Prop:=k_E (a_e n).impl_fileReader_value/\k_F (a_e n).impl_fileReader_array/\k_G (a_e n).impl_fileReader_items/\k_H (a_e n).impl_fileReader_choice/\k_I (a_e n).impl_fileReader_option/\k_J (a_e n).impl_fileReader_checked
theorem T_w01 (ih:f_2 n):k_E (h_p n<|a_e n):=by
 obtain ⟨_,d6,d7,d8,d9,da⟩:=ih
 constructor
 intro A0 A5 N0 C0 N5 C5 b1 o1 B x1 x2 x3 res w0 hm H L O hC1 hC1b cT I;unfold h_p at hm
 refine goG func68 z z z fun fn hr=>Ws<|E z (fa L_) ?_
 rintro _ J ⟨rfl,bi⟩;have h2:=bi.below;have h3:Blk J w0.z [vI 0,sl none 0 0,sl none 0 0]:=bi.blk;refine Ra z<|Rw z<|Wm z<|R z (N_ z)<|Rf z n_5 z<|Rf z a_d z ?_
 have h5:=hC1.e h2;refine R z (l0 a_g z<|h5.at (j:=0) z)<|Rm z ?_
 obtain ⟨W,db,b6⟩:=bdS hm;refine RX z (at_ (α:=b_) P_ r_ z z z (L.e h2) db) ?_;rintro _ ⟨_,_,_,rfl,dc,dd,_⟩;obtain ⟨aa,nb,cc,ad,ne,cf,ah,ng,ci,aj,nk,cl,rfl,hq,ht,ho,hp,hu,hv,hn⟩:=a_A dd;refine R z (lN (vs:=vR W aa nb cc ad ne cf ah ng ci aj nk cl) G_ r_ z z fid dc)<|E z (fa c_8) ?_
 rintro _ de ⟨rfl,bj⟩;have G:=bj.below;refine E0 (fs0 (cur':=vR W aa nb cc ad ne cf ah ng ci aj nk cl) r_ z z (bj.blk:Blk de J.z [(Str.v (⟨[]⟩:Str)),vI 0,vI 0,vB false,sl none 0 0,sl none 0 0,sl none 0 0,sl none 0 0]) z z z z) ?_;rintro _ _ ⟨V,df⟩;have h1:=df.one;refine Wn<|Wq<|Ws<|Rf z a_x z<|R z (l0 g_3 z<|V.at z)<|Wn<|Wb<|Ws<|Rq z z z<|Rw z<|Wc z (fun hcr=>?_) (fun hcr=>?_)
 ·refine Wm z<|RM z z ?_
  have bk:∀k∈[J.z],¬B k:=or0 (e_ lr)<|m_<|zt' H h2.s;have bm:=((h2.ag B).e G).c h1<|g_ bk
  have bn:=lt_ (lt_ h2.s G.s) h1.s;obtain ⟨bo,_,_,dg,cU⟩:=a_3<|ifT b6 hcr;refine E z (fc call95 z<|i_N dg (zt' H bn) (L.g bm) (O.g bm) ((h5.e G).c h1<|(g_ bk) _ hC1b) hC1b cT I) ?_;rintro _ _ ⟨bp,dh,di,rfl,dj,dk,dl,bq⟩;refine Rm z ?_
  iterate 3 refine Re z z z ?_
  refine RA z z<|Rw z<|Wm z<|R z (bP (parts:=[(0,.tmp 41)]) (cs:=[vI bo,sl none 0 0,sl none 0 0]) J_ z z)<|RM z z<|E0 (fs0 (cur':=[vI bo,sl none 0 0,sl none 0 0]) c_ z z (((h3.e G).c h1<|djs<|mmr h3.lt).e bp) z z z z) ?_
  rintro _ _ ⟨dm,dn⟩;have br:=dn.one;refine Ra z<|Rw z ?_
  obtain rfl:=som cU;exact Wr<|rtO<|A_ hr (y_ l_ c_ z dm z) z z ⟨bM (bup (bM (bup h2 G) h1<|m1 h2.s) bp) br<|e_ lr,none,0,0,[],none,0,0,[],dh,di,z,dj,onL,onL,dk,dl.c br<|n_ bq h3.lt<|lt_ G.s h1.s,h_ bq bn,nd0,al0⟩
 have b7:=ifF b6 hcr;refine Ws<|Rq z z z<|Rw z<|Wc z (fun hcs=>?_) (fun hcs=>?_)
 ·refine Wm z<|R z (lN (vs:=vR W aa nb cc ad ne cf ah ng ci aj nk cl) G_ r_ z z fid<|V.row 0 8 z)<|Rm z ?_
  have aC:∀k∈[J.z],¬B k:=or0 (e_ lr)<|m_<|zt' H h2.s;have bs:=((h2.ag B).e G).c h1<|g_ aC
  have hw:=(G.ag B).c h1<|g_ aC
  have bt:=lt_ (lt_ h2.s G.s) h1.s;obtain ⟨_,_,dp,cV⟩:=a_n<|ifT b7 hcs;refine E z (fc call96 z<|W_w35 dp (zt' H bt) (L.g bs) (O.g bs) ((h5.e G).c h1<|(g_ aC) _ hC1b) hC1b hq ht ho (hp.g hw) (hu.g hw) (hv.g hw) (hn.g hw) I) ?_;rintro _ _ ⟨bu,dq,dr,rfl,ds,dt,bv⟩;refine Rm z<|Re z z z<|Re z z z<|Ra z<|Rw z<|Ws<|R z (bP (parts:=[]) (cs:=[vI 0,sl none 0 0,sl none 0 0]) J_ z z)<|RM z z<|E0 (fs0 (cur':=[vI 0,sl none 0 0,sl none 0 0]) c_ z z (((h3.e G).c h1<|djs<|mmr h3.lt).e bu) z z z z) ?_
  rintro _ _ ⟨du,dv⟩;have bw:=dv.one;refine Ra z<|Rw z ?_
  obtain rfl:=som cV;exact Wr<|rtO<|A_ hr (y_ l_ c_ z du z) z z ⟨bM (bup (bM (bup h2 G) h1<|m1 h2.s) bu) bw<|e_ lr,none,0,0,[],none,0,0,[],dq,dr,z,ii z,onL,onL,ds,dt.c bw<|n_ bv h3.lt<|lt_ G.s h1.s,h_ bv bt,nd0,al0⟩
 have b8:=ifF b7 hcs;refine Ws<|Rq z z z<|Rw z<|Wc z (fun ar=>?_) (fun ar=>?_)
 ·refine Wm z<|Rm z<|Rf z a_F z<|R z (l0 g_3 z<|V.at z) ?_
  have bx:∀k∈[J.z],¬B k:=or0 (e_ lr)<|m_<|zt' H h2.s;have bz:=((h2.ag B).e G).c h1<|g_ bx
  have hx:=lt_ (lt_ h2.s G.s) h1.s;obtain ⟨dw,_,_,dx,cW⟩:=a_3<|ifT b8 ar;refine E z (fc call97 z<|W_w1o dx (zt' H hx) (L.g bz) (O.g bz) ((h5.e G).c h1<|(g_ bx) _ hC1b) hC1b I ho) ?_;rintro _ _ ⟨bA,bB,bC,bD,dy,bE,bF,bG,dz,dA,dB,rfl,dC,dD,dF,dG,dH,bH,aD,hy⟩
  iterate 3 refine Re z z z ?_
  refine E0 (fs0 (cur':=[vI dw.number,sl bB bC bD,sl bE bF bG]) c_ z z (((h3.e G).c h1<|djs<|mmr h3.lt).e bA) z z z z) ?_;rintro _ _ ⟨dI,dJ⟩;have hz:=dJ.one;refine Ra z<|Rw z ?_
  obtain rfl:=som cW;have aE:=lt_ G.s h1.s;exact Wr<|rtO<|A_ hr (y_ l_ c_ z dI z) z z ⟨bM (bup (bM (bup h2 G) h1<|m1 h2.s) bA) hz<|e_ lr,bB,bC,bD,dy,bE,bF,bG,dz,dA,dB,z,dC,dD.c hz<|n_ (al_ hy) h3.lt aE,dF.c hz<|n_ (ar_ hy) h3.lt aE,dG,dH.c hz<|n_ bH h3.lt aE,h_ bH hx,na_ (nl_ aD) (nr_ aD)<|nj aD,aa_ (h_ (al_ hy) hx)<|h_ (ar_ hy) hx⟩
 have b9:=ifF b8 ar;refine Ws<|Rq z z z<|Rw z<|Wc z (fun au=>?_) (fun au=>?_)
 ·refine Wm z<|Rf z T_ z<|R z (l0 B_ z<|V.at z) ?_
  obtain ⟨_,dK,cX⟩:=bdS<|ifT b9 au;have aF:∀k∈[J.z],¬B k:=or0 (e_ lr)<|m_<|zt' H h2.s;refine RX z (at_ (α:=Int) x_ z_3 z z z (hn.g<|(G.ag B).c h1<|g_ aF) dK) ?_;rintro _ ⟨_,_,_,rfl,dL,dN,_⟩;obtain ⟨rfl,dO⟩:=a_1 dN;refine R z (l0 g_3 z<|dL.at0 z)<|Rm z ?_
  have bI:=(h5.e G).c h1<|(g_ aF) _ hC1b
  have aG:=((h2.ag B).e G).c h1<|g_ aF
  have aH:=lt_ (lt_ h2.s G.s) h1.s;obtain ⟨_,_,_,dP,ba⟩:=a_3 cX;refine E z (fc call95 z<|i_N dP (zt' H aH) (L.g aG) (O.g aG) bI hC1b dO I) ?_;rintro _ _ ⟨s8,dS,dT,rfl,dU,dV,bJ,bK⟩;refine Rm z ?_
  iterate 3 refine Re z z z ?_
  refine RA z z<|Rw z<|Wq<|Wm z<|R z (d_q d_z z z bJ)<|Wx z (fun av=>?_) (fun av=>?_)
  ·refine Ws<|R z (bP (parts:=[]) (cs:=[vI 0,sl none 0 0,sl none 0 0]) J_ z z)<|RM z z<|E0 (fs0 (cur':=[vI 0,sl none 0 0,sl none 0 0]) c_ z z (((h3.e G).c h1<|djs<|mmr h3.lt).e s8) z z z z) ?_
   rintro _ _ ⟨dW,dX⟩;have bL:=dX.one;refine Ra z<|Rw z ?_
   obtain rfl:=som<|ifT ba av;exact Wr<|rtO<|A_ hr (y_ l_ c_ z dW z) z z ⟨bM (bup (bM (bup h2 G) h1<|m1 h2.s) s8) bL<|e_ lr,none,0,0,[],none,0,0,[],dS,dT,z,ii z,onL,onL,I,bJ.c bL<|n_ bK h3.lt<|lt_ G.s h1.s,h_ bK aH,nd0,al0⟩
  refine Wk<|Wm z<|RM z z ?_
  have bN:=aG.e s8;have Y:=lt_ aH s8.s;obtain ⟨dY,_,_,dZ,cY⟩:=a_3<|ifF ba av;refine E z (fc call97 z<|W_w1o dZ (zt' H Y) (L.g bN) (O.g bN) (bI.e s8) hC1b dV dU) ?_;rintro _ _ ⟨bO,bQ,bR,bS,e0,bT,bU,bV,e1,e2,e3,rfl,e4,e5,e6,e7,e8,bW,aI,a0⟩
  iterate 3 refine Re z z z ?_
  refine E0 (fs0 (cur':=[vI dY.number,sl bQ bR bS,sl bT bU bV]) c_ z z ((((h3.e G).c h1<|djs<|mmr h3.lt).e s8).e bO) z z z z) ?_;rintro _ _ ⟨e9,ea⟩;have a1:=ea.one;refine Ra z<|Rw z ?_
  obtain rfl:=som cY;have aJ:=lt_ (lt_ G.s h1.s) s8.s;exact Wr<|rtO<|A_ hr (y_ l_ c_ z e9 z) z z ⟨bM (bup (bup (bM (bup h2 G) h1<|m1 h2.s) s8) bO) a1<|e_ lr,bQ,bR,bS,e0,bT,bU,bV,e1,e2,e3,z,e4,e5.c a1<|n_ (al_ a0) h3.lt aJ,e6.c a1<|n_ (ar_ a0) h3.lt aJ,e7,e8.c a1<|n_ bW h3.lt aJ,h_ bW Y,na_ (nl_ aI) (nr_ aI)<|nj aI,aa_ (h_ (al_ a0) Y)<|h_ (ar_ a0) Y⟩
 have bb:=ifF b9 au;refine Ws<|Rq z z z<|Rw z<|Wc z (fun aw=>?_) (fun aw=>?_)
 ·refine Wm z<|R z (lN (vs:=vR W aa nb cc ad ne cf ah ng ci aj nk cl) G_ r_ z z fid<|V.row 0 8 z)<|Rm z ?_
  have aK:∀k∈[J.z],¬B k:=or0 (e_ lr)<|m_<|zt' H h2.s;have bX:=((h2.ag B).e G).c h1<|g_ aK
  have a2:=(G.ag B).c h1<|g_ aK
  have a3:=lt_ (lt_ h2.s G.s) h1.s;obtain ⟨eb,_,_,ec,cZ⟩:=a_3<|ifT bb aw;refine E z (fc call98 z<|d6.run ec (zt' H a3) (L.g bX) (O.g bX) ((h5.e G).c h1<|(g_ aK) _ hC1b) hC1b hq ht ho (hp.g a2) (hu.g a2) (hv.g a2) (hn.g a2) I) ?_;rintro _ _ ⟨bY,bZ,c0,c1,ed,c2,c3,c4,ee,ef,eg,rfl,eh,ei,ej,ek,em,c5,aL,a4⟩
  iterate 3 refine Re z z z ?_
  refine E0 (fs0 (cur':=[vI eb.number,sl bZ c0 c1,sl c2 c3 c4]) c_ z z (((h3.e G).c h1<|djs<|mmr h3.lt).e bY) z z z z) ?_;rintro _ _ ⟨en,eo⟩;have a5:=eo.one;refine Ra z<|Rw z ?_
  obtain rfl:=som cZ;have aM:=lt_ G.s h1.s;exact Wr<|rtO<|A_ hr (y_ l_ c_ z en z) z z ⟨bM (bup (bM (bup h2 G) h1<|m1 h2.s) bY) a5<|e_ lr,bZ,c0,c1,ed,c2,c3,c4,ee,ef,eg,z,eh,ei.c a5<|n_ (al_ a4) h3.lt aM,ej.c a5<|n_ (ar_ a4) h3.lt aM,ek,em.c a5<|n_ c5 h3.lt aM,h_ c5 a3,na_ (nl_ aL) (nr_ aL)<|nj aL,aa_ (h_ (al_ a4) a3)<|h_ (ar_ a4) a3⟩
 have bc:=ifF bb aw;refine Ws<|Rq z z z<|Rw z<|Wc z (fun ax=>?_) (fun ax=>?_)
 ·refine Wm z<|R z (bP (parts:=[]) (cs:=[vI 0,sl none 0 0,sl none 0 0]) J_ z z)<|Rf z T_ z<|R z (l0 B_ z<|V.at z)<|Rm z ?_
  have aN:∀k∈[J.z],¬B k:=or0 (e_ lr)<|m_<|zt' H h2.s;have c6:=((h2.ag B).e G).c h1<|g_ aN
  have a6:=lt_ (lt_ h2.s G.s) h1.s;obtain ⟨ep,_,_,er,d0⟩:=a_3<|ifT bc ax;refine E z (fc call99 z<|d7.run (B:=B) (x2:=(⟨0,([]:List UInt8),([]:List Val)⟩:Val)) er (zt' H a6) (L.g c6) (O.g c6) ((h5.e G).c h1<|(g_ aN) _ hC1b) hC1b (ii z) onL a_2 an_ onL a_2 an_ an_ (hn.g<|(G.ag B).c h1<|g_ aN) I) ?_;rintro _ _ ⟨c7,c8,c9,ca,cb,cd,ce,cg,ch,es,eu,rfl,ew,ex,ey,ez,eA,cj,aO,a7⟩
  iterate 3 refine Re z z z ?_
  refine E0 (fs0 (cur':=[vI ep.number,sl c8 c9 ca,sl cd ce cg]) c_ z z (((h3.e G).c h1<|djs<|mmr h3.lt).c c7<|atp<|nmA (nmN _)<|nmN _) z z z z) ?_;rintro _ _ ⟨eB,eC⟩;have a8:=eC.one;refine Ra z<|Rw z ?_
  obtain rfl:=som d0;have aP:=lt_ G.s h1.s;exact Wr<|rtO<|A_ hr (y_ l_ c_ z eB z) z z ⟨bM (bM (bM (bup h2 G) h1<|m1 h2.s) c7 al0) a8<|e_ lr,c8,c9,ca,cb,cd,ce,cg,ch,es,eu,z,ew,ex.c a8 (or1 (al_ a7) al0 (X_ (e_ h3.lt) aP):∀k∈cb,k∉[w0.z]),ey.c a8 (or1 (ar_ a7) al0 (X_ (e_ h3.lt) aP):∀k∈ch,k∉[w0.z]),ez,eA.c a8<|n_ cj h3.lt aP,h_ cj a6,na_ (nl_ aO) (nr_ aO)<|nj aO,aa_ (a_8 (al_ a7) al0 a6)<|a_8 (ar_ a7) al0 a6⟩
 have be:=ifF bc ax;refine Ws<|Rq z z z<|Rw z<|Wc z (fun ay=>?_) (fun ay=>?_)
 ·refine Wm z<|R z (lN (vs:=vR W aa nb cc ad ne cf ah ng ci aj nk cl) G_ r_ z z fid<|V.row 0 8 z)<|Rm z ?_
  have aQ:∀k∈[J.z],¬B k:=or0 (e_ lr)<|m_<|zt' H h2.s;have ck:=((h2.ag B).e G).c h1<|g_ aQ
  have a9:=(G.ag B).c h1<|g_ aQ
  have ab:=lt_ (lt_ h2.s G.s) h1.s;obtain ⟨eD,_,_,eE,d1⟩:=a_3<|ifT be ay;refine E z (fc call100 z<|d8.run eE (zt' H ab) (L.g ck) (O.g ck) ((h5.e G).c h1<|(g_ aQ) _ hC1b) hC1b hq ht ho (hp.g a9) (hu.g a9) (hv.g a9) (hn.g a9) I) ?_;rintro _ _ ⟨cm,cn,co,cp,eF,cq,cr,ct,eG,eH,eI,rfl,eJ,eK,eL,eM,eN,cu,aR,ae⟩
  iterate 3 refine Re z z z ?_
  refine E0 (fs0 (cur':=[vI eD.number,sl cn co cp,sl cq cr ct]) c_ z z (((h3.e G).c h1<|djs<|mmr h3.lt).e cm) z z z z) ?_;rintro _ _ ⟨eO,eP⟩;have af:=eP.one;refine Ra z<|Rw z ?_
  obtain rfl:=som d1;have aS:=lt_ G.s h1.s;exact Wr<|rtO<|A_ hr (y_ l_ c_ z eO z) z z ⟨bM (bup (bM (bup h2 G) h1<|m1 h2.s) cm) af<|e_ lr,cn,co,cp,eF,cq,cr,ct,eG,eH,eI,z,eJ,eK.c af<|n_ (al_ ae) h3.lt aS,eL.c af<|n_ (ar_ ae) h3.lt aS,eM,eN.c af<|n_ cu h3.lt aS,h_ cu ab,na_ (nl_ aR) (nr_ aR)<|nj aR,aa_ (h_ (al_ ae) ab)<|h_ (ar_ ae) ab⟩
 have bf:=ifF be ay;refine Ws<|Rq z z z<|Rw z<|Wc z (fun az=>?_) (fun az=>?_)
 ·refine Wm z<|R z (lN (vs:=vR W aa nb cc ad ne cf ah ng ci aj nk cl) G_ r_ z z fid<|V.row 0 8 z)<|Rm z ?_
  have aT:∀k∈[J.z],¬B k:=or0 (e_ lr)<|m_<|zt' H h2.s;have cv:=((h2.ag B).e G).c h1<|g_ aT
  have ai:=(G.ag B).c h1<|g_ aT
  have ak:=lt_ (lt_ h2.s G.s) h1.s;obtain ⟨eQ,_,_,eR,d2⟩:=a_3<|ifT bf az;refine E z (fc call101 z<|d9.run eR (zt' H ak) (L.g cv) (O.g cv) ((h5.e G).c h1<|(g_ aT) _ hC1b) hC1b hq ht ho (hp.g ai) (hu.g ai) (hv.g ai) (hn.g ai) I) ?_;rintro _ _ ⟨cw,cx,cy,cz,eS,cA,cB,cC,eT,eU,eV,rfl,eW,eX,eY,eZ,f0,cD,aU,al⟩
  iterate 3 refine Re z z z ?_
  refine E0 (fs0 (cur':=[vI eQ.number,sl cx cy cz,sl cA cB cC]) c_ z z (((h3.e G).c h1<|djs<|mmr h3.lt).e cw) z z z z) ?_;rintro _ _ ⟨f1,f2⟩;have am:=f2.one;refine Ra z<|Rw z ?_
  obtain rfl:=som d2;have aV:=lt_ G.s h1.s;exact Wr<|rtO<|A_ hr (y_ l_ c_ z f1 z) z z ⟨bM (bup (bM (bup h2 G) h1<|m1 h2.s) cw) am<|e_ lr,cx,cy,cz,eS,cA,cB,cC,eT,eU,eV,z,eW,eX.c am<|n_ (al_ al) h3.lt aV,eY.c am<|n_ (ar_ al) h3.lt aV,eZ,f0.c am<|n_ cD h3.lt aV,h_ cD ak,na_ (nl_ aU) (nr_ aU)<|nj aU,aa_ (h_ (al_ al) ak)<|h_ (ar_ al) ak⟩
 have bg:=ifF bf az;refine Ws<|Rq z z z<|Rw z<|Wc z (fun aA=>?_) (fun aA=>?_)
 ·refine Wm z<|R z (lN (vs:=vR W aa nb cc ad ne cf ah ng ci aj nk cl) G_ r_ z z fid<|V.row 0 8 z)<|Rm z ?_
  have aW:∀k∈[J.z],¬B k:=or0 (e_ lr)<|m_<|zt' H h2.s;have cE:=((h2.ag B).e G).c h1<|g_ aW
  have an:=(G.ag B).c h1<|g_ aW
  have ao:=lt_ (lt_ h2.s G.s) h1.s;obtain ⟨f3,_,_,f4,d3⟩:=a_3<|ifT bg aA;refine E z (fc call102 z<|da.run f4 (zt' H ao) (L.g cE) (O.g cE) ((h5.e G).c h1<|(g_ aW) _ hC1b) hC1b hq ht ho (hp.g an) (hu.g an) (hv.g an) (hn.g an) I) ?_;rintro _ _ ⟨cF,cG,cH,cI,f5,cJ,cK,cL,f6,f7,f8,rfl,f9,fb,fe,ff,fg,cM,aX,ap⟩
  iterate 3 refine Re z z z ?_
  refine E0 (fs0 (cur':=[vI f3.number,sl cG cH cI,sl cJ cK cL]) c_ z z (((h3.e G).c h1<|djs<|mmr h3.lt).e cF) z z z z) ?_;rintro _ _ ⟨fh,fi⟩;have aq:=fi.one;refine Ra z<|Rw z ?_
  obtain rfl:=som d3;have aY:=lt_ G.s h1.s;exact Wr<|rtO<|A_ hr (y_ l_ c_ z fh z) z z ⟨bM (bup (bM (bup h2 G) h1<|m1 h2.s) cF) aq<|e_ lr,cG,cH,cI,f5,cJ,cK,cL,f6,f7,f8,z,f9,fb.c aq<|n_ (al_ ap) h3.lt aY,fe.c aq<|n_ (ar_ ap) h3.lt aY,ff,fg.c aq<|n_ cM h3.lt aY,h_ cM ao,na_ (nl_ aX) (nr_ aX)<|nj aX,aa_ (h_ (al_ ap) ao)<|h_ (ar_ ap) ao⟩
 refine Wk<|Wq (Wd (X:=noX) 0 (pl_ 17 [9]) mo (by kernel_rfl) fun fA s6 _=>dM z z z<|dR z z (N_ z)<|dR z z (fd f_E z) ?_)
 have aZ:∀k∈[J.z],¬B k:=or0 (e_ lr)<|m_<|zt' H h2.s;refine dR z z (l0 F_ z<|(((h5.e G).c h1<|(g_ aZ) _ hC1b).e s6).at (j:=1) z)<|dM z z z<|dR z z (fd a_U z)<|dR z z (l0 F_ z<|(V.e s6).at z) ?_
 obtain ⟨_,fj,d4⟩:=bdS<|ifF bg aA;refine dRX z z (at_ (α:=UInt8) p_ z_5 z z z (hp.g<|((G.ag B).c h1<|g_ aZ).e s6) fj) ?_;rintro _ ⟨_,_,_,rfl,fk,fl,_⟩;obtain rfl:=u8 fl;refine dR z z (l0 g_5 z<|fk.at0 z) ?_;have b0:=lt_ (lt_ (lt_ h2.s G.s) h1.s) s6.s;obtain ⟨_,_,_,fm,bh⟩:=a_3 d4;refine dE z z (fc call103 z<|W_w36 fm (zt' H b0) (O.g<|(((h2.ag B).e G).c h1<|g_ aZ).e s6) I) (.inr fun _ _ h=>o_<|h.1) ?_;rintro _ _ ⟨sm,b3,b4,b5,fo,rfl,fp,fq,fr,cN⟩;refine dM z z z ?_
 iterate 3 refine dR z z (ext_ z z) ?_
 iterate 3 refine dQ z z z ?_
 refine pD<|Wo<|Wq<|Wm z<|R z (not_ z)<|Wx z (fun aB=>?_) (fun aB=>?_)
 ·refine Ws<|R z (bP (parts:=[]) (cs:=[vI 0,sl none 0 0,sl none 0 0]) J_ z z)<|RM z z ?_
  have cO:=lt_ b0 sm.s;obtain ⟨_,fs,d5⟩:=bdS<|ifT bh aB;refine E z (fc call104 z<|e_e fs (zt' H cO) I<|ii z) ?_;rintro _ _ ⟨cP,ft,fu,rfl,fv,cQ⟩;refine E0 (fs0 (cur':=[vI 0,sl none 0 0,sl none 0 0]) c_ z z (((((h3.e G).c h1<|djs<|mmr h3.lt).e s6).e sm).e cP) z z z z) ?_;rintro _ _ ⟨fw,fx⟩;have cR:=fx.one;refine Ra z<|Rw z ?_
  obtain rfl:=som d5;exact Wr<|A_ hr (y_ l_ c_ z fw z) z z ⟨bM (bup (bup (bup (bM (bup h2 G) h1<|m1 h2.s) s6) sm) cP) cR<|e_ lr,none,0,0,[],none,0,0,[],ft,fu,z,ii z,onL,onL,I,fv.c cR<|n_ cQ h3.lt<|lt_ (lt_ (lt_ G.s h1.s) s6.s) sm.s,h_ cQ cO,nd0,al0⟩
 refine Wk<|Wm z<|R z (bP (parts:=[(1,.tmp 159)]) (cs:=[vI 0,sl b3 b4 b5,sl none 0 0]) J_ z z)<|Rm z<|E0 (fs0 (cur':=[vI 0,sl b3 b4 b5,sl none 0 0]) c_ z z ((((h3.e G).c h1<|djs<|mmr h3.lt).e s6).e sm) z z z z) ?_
 rintro _ _ ⟨fy,fz⟩;have cS:=fz.one;refine Ra z<|Rw z ?_
 obtain rfl:=som<|ifF bh aB;exact Wr<|A_ hr (y_ l_ c_ z fy z) z z ⟨bM (bup (bup (bM (bup h2 G) h1<|m1 h2.s) s6) sm) cS<|e_ lr,b3,b4,b5,fo,none,0,0,[],.nilIface,([]:List Nat),z,ii z,fp.c cS<|n_ cN h3.lt<|lt_ (lt_ G.s h1.s) s6.s,onL,fq,d_R,an_,na_ fr a_2<|nmN _,aa_ (h_ cN b0) an_⟩
theorem T_w1q (ih:f_2 n):k_F (h_q n<|a_e n):=by
 obtain ⟨_,_,aJ,_,_,_⟩:=ih
 constructor
 intro A0 A5 A2 A3 A1 A4 N0 C0 N5 C5 b1 o1 N2 C2 N3 C3 N1 C1 N4 C4 B x1 x2 x3 res w0 hm O W Y hC1 hC1b bz bA bB bC bD bE a0 V;unfold h_q at hm
 refine goG func98 z z z fun fn hr=>Ws<|E z (fb z) ?_
 rintro _ J ⟨rfl,hw⟩;have h4:=hw.below;have hx:Blk J w0.z (vR x2 A2 N2 C2 A3 N3 C3 A1 N1 C1 A4 N4 C4):=hw.blk;refine E z (fa L_) ?_;rintro _ aK ⟨rfl,hy⟩;have h6:=hy.below;have h5:Blk aK J.z [vI 0,sl none 0 0,sl none 0 0]:=hy.blk;refine Ra z<|Rw z<|Wm z<|Rf z T_ z ?_
 have hz:=hx.e h6;refine R z (l0 B_ z<|hz.at z) ?_;obtain ⟨_,aL,aw⟩:=bdS hm;have hd:=(h4.ag B).e h6;refine RX z (at_ (α:=Int) x_ z_3 z z z (a0.g hd) aL) ?_;rintro _ ⟨_,_,_,rfl,aM,aN,_⟩;obtain ⟨rfl,aO⟩:=a_1 aN;refine R z (l0 g_3 z<|aM.at0 z)<|Rm z ?_
 have a4:=(hC1.e h4).e h6;have he:=lt_ h4.s h6.s;obtain ⟨_,rr,_,aP,hms⟩:=a_3 aw;refine E z (fc call95 z<|i_N aP (zt' O he) (W.g hd) (Y.g hd) a4 hC1b aO V) ?_;rintro _ H ⟨G,aQ,aR,rfl,_,aS,a5,a6⟩;refine Rm z ?_
 iterate 3 refine Re z z z ?_
 refine RA z z<|Rw z<|Wq<|Wm z<|R z (d_q d_z z z a5)<|Wx z (fun hcm=>?_) (fun hcm=>?_)
 ·refine Ws<|R z (bP (parts:=[]) (cs:=[vI 0,sl none 0 0,sl none 0 0]) J_ z z)<|RM z z<|E0 (fs0 (cur':=[vI 0,sl none 0 0,sl none 0 0]) c_ z z (h5.e G) z z z z) ?_
  rintro _ _ ⟨aT,aU⟩;have a7:=aU.one;refine Ra z<|Rw z ?_
  obtain rfl:=som<|ifT hms hcm;exact Wr<|A_ hr (y_ l_ c_ z aT z) z z ⟨bM (bup (bup h4 h6) G) a7<|m1 h4.s,none,0,0,[],none,0,0,[],aQ,aR,z,ii z,onL,onL,V,a5.c a7<|n_ a6 h5.lt lr,h_ a6 he,nd0,al0⟩
 have a1:=ifF hms hcm;refine Wk<|Wq<|Wm z<|R z (a_z z z)<|Wx z (fun hco=>?_) (fun hco=>?_)
 ·refine Ws<|R z (bP (parts:=[]) (cs:=[vI 0,sl none 0 0,sl none 0 0]) J_ z z)<|RM z z ?_
  have a8:=lt_ he G.s;obtain ⟨_,aV,ax⟩:=bdS<|ifT a1 hco;refine E z (fc call104 z<|e_e aV (zt' O a8) V<|ii z) ?_;rintro _ _ ⟨a9,aW,aX,rfl,aY,aa⟩;refine E0 (fs0 (cur':=[vI 0,sl none 0 0,sl none 0 0]) c_ z z ((h5.e G).e a9) z z z z) ?_;rintro _ _ ⟨aZ,b0⟩;have ab:=b0.one;refine Ra z<|Rw z ?_
  obtain rfl:=som ax;exact Wr<|A_ hr (y_ l_ c_ z aZ z) z z ⟨bM (bup (bup (bup h4 h6) G) a9) ab<|m1 h4.s,none,0,0,[],none,0,0,[],aW,aX,z,ii z,onL,onL,V,aY.c ab<|n_ aa h5.lt G.s,h_ aa a8,nd0,al0⟩
 refine Wk<|Wm z ?_
 obtain ⟨b3,b4,ay⟩:=bdS<|ifF a1 hco;refine E z (e_A (α:=Int) k_b (fun _=>d_N<|ii z) b4 z z) ?_;rintro _ I ⟨ac,nf,cg,rfl,s8,hp⟩;refine Rw z<|Wq<|Wm z<|R z (lnR x_ z<|a_.rep hp)<|Rm z<|Wn ?_
 obtain ⟨_,az,a2⟩:=bdS ay;refine Wf (σ:=List Int) (ρ:=Val×Int×(Option<|Int×Int)) (fun (ad:Nat)(L:List Int) a w=>∃(S3:List Nat),Sat 59 [(0,.pointer<|some ⟨b1,o1,none⟩),(4,pt w0.z),(6,pt J.z),(10,vI rr),(12,sl ac nf cg),(39,vI (b3.length:Int)),(40,vI ((ad:Nat):Int))] a/\Chg (· ∈ [H.z]) I w/\a_ w S3 (sl ac nf cg) L/\S3.Nodup/\(∀k∈S3,k∈[H.z]∨I.z<=k)) (fun (L:List Int) a w=>∃(S3:List Nat),Sat 59 [(0,.pointer<|some ⟨b1,o1,none⟩),(6,pt J.z),(10,vI rr),(12,sl ac nf cg)] a/\Chg (· ∈ [H.z]) I w/\a_ w S3 (sl ac nf cg) L/\S3.Nodup/\(∀k∈S3,k∈[H.z]∨I.z<=k)) (rQ prog fn<|Q23 w0 B) az ?_ ?_ ?_ ?_ ?_
 ·exact fun _ q=>⟨[H.z],q.k<|s7 z z z z z z z,cr [H.z] I,hp,M_,io sr⟩
 ·rintro ad L _ b5 _ a3 ⟨S3,aA,sh,ha,hi,hj⟩ aB;refine Wu ?_ aA;refine Ws<|Rl z z z<|Wn<|Wq<|Wc z (fun _=>?_) (fun hc=>(U_ a3 hc).elim)
  refine Wk<|Wq<|Wb<|Wm z<|Rw z<|Wg<|RM z z<|Rf z T_ z<|R z (l0 B_ z<|(((hz.e G).e s8).c sh<|djs<|mm1 hx.lt<|lt_ h6.s G.s).at z) ?_
  obtain ⟨_,b6,aC⟩:=bdS aB;refine RX z (at_ (α:=Int) x_ z_3 z z z (a0.g<|((hd.e G).e s8).c sh<|g_ (or0 (e_ lr) (m_<|zt' O<|lt_ he G.s):∀k∈[H.z],¬B k)) b6) ?_;rintro _ ⟨_,_,_,rfl,b7,b8,_⟩;obtain ⟨rfl,b9⟩:=a_1 b8;refine R z (l0 g_3 z<|b7.at0 z) ?_;obtain ⟨ba,ae,aD⟩:=bdS aC;refine RX z (b_P (α:=Int) x_ z_3 z z ha ae) ?_;rintro _ ⟨_,bb,rfl⟩;refine E0 (b_Q (α:=Int) z_3 z bb z z z ae ha hi (d_N b9) an_ a_2) ?_;rintro _ bc ⟨af,be,bf,bg,bh⟩;refine Wn<|Wg<|R z (inc_ a3 (lt_ (a_.len hp) D_) z z)<|Rm z<|Wl ?_
  have ah:∀k∈S3,k∈[H.z]∨I.z<=k:=or1 hj (io sr)<|j_ lr;exact fun _ q=>⟨ba,(som aD).symm,⟨af,q.k<|s7 z z z z z z z,(cM (cM (cr [H.z] I) sh (io sr):Chg (· ∈ [H.z]) I b5) be ah:Chg (· ∈ [H.z]) I bc),bf,bg,(or2 bh ah an_ (j_ sh.s):∀k∈af,k∈[H.z]∨I.z<=k)⟩⟩
 ·rintro L _ bi ⟨S3,aE,bj,ha,hi,hj⟩;refine Wu ?_ aE;refine Ws<|Rl z z z<|Wn<|Wq<|Wc z (fun hc=>(V_ hc).elim) (fun _=>?_)
  exact We<|fun _ q=>⟨rfl,⟨S3,q.k<|s4 z z z z,(cM (cr [H.z] I) bj (io sr):Chg (· ∈ [H.z]) I bi),ha,hi,(or1 hj (io sr) (j_ lr):∀k∈S3,k∈[H.z]∨I.z<=k)⟩⟩
 ·rintro L bk bm rfl ⟨S3,_,sb,ha,hi,hj⟩;have aF:=elL a2;revert bk;refine Wo<|Wm z<|R z (bP (parts:=[]) (cs:=[vI 0,sl none 0 0,sl none 0 0]) J_ z z)<|RM z z ?_
  have hq:=lt_ he G.s;have ai:∀k∈[H.z],¬B k:=or0 (e_ lr)<|m_<|zt' O hq;have aj:=((hd.e G).e s8).c sb<|g_ ai
  have hk:=lt_ (lt_ hq s8.s) sb.s;have ht:=zt' O hk;obtain ⟨bn,_,_,bo,aG⟩:=a_3 aF;refine E z (fc call99 z<|aJ.run (B:=bm.z) (x2:=(⟨0,([]:List UInt8),([]:List Val)⟩:Val)) bo zr (repS.mono (W.g aj) ht) (repS.mono (Y.g aj) ht) (((a4.e G).e s8).c sb<|(g_ ai) _ hC1b) (zap' ht hC1b) (ii z) onL a_2 (nbl an_) onL a_2 (nbl an_) an_ (a_.rep ha) aS) ?_;rintro _ _ ⟨ak,al,am,an,ao,ap,aq,ar,au,bp,bq,rfl,br,bs,bt,bu,bv,av,hu,hl⟩
  iterate 3 refine Re z z z ?_
  refine E0 (fs0 (cur':=[vI bn.number,sl al am an,sl ap aq ar]) c_ z z ((((h5.e G).e s8).c sb<|djs<|mm1 h5.lt G.s).c ak<|atp<|nmA (nmN _)<|nmN _) z z z z) ?_;rintro _ _ ⟨bw,bx⟩;have hn:=bx.one;refine Ra z<|Rw z ?_
  obtain rfl:=som aG;have hv:=lt_ (lt_ G.s s8.s) sb.s;exact Wr<|A_ hr (y_ l_ c_ z bw z) z z ⟨bM (bM (bM (bup (bup (bup h4 h6) G) s8) sb<|m1 hq) ak al0) hn<|m1 h4.s,al,am,an,ao,ap,aq,ar,au,bp,bq,z,br,bs.c hn (or1 (al_ hl) al0 (X_ (e_ h5.lt) hv):∀k∈ao,k∉[J.z]),bt.c hn (or1 (ar_ hl) al0 (X_ (e_ h5.lt) hv):∀k∈au,k∉[J.z]),bu,bv.c hn<|n_ av h5.lt hv,h_ av hk,na_ (nl_ hu) (nr_ hu)<|nj hu,aa_ (a_8 (al_ hl) al0 hk)<|a_8 (ar_ hl) al0 hk⟩
 rintro _ _ _ _ rfl ⟨rfl,aH⟩;have aI:=elR a2;obtain rfl:=som aI;exact ⟨aH,z⟩
theorem T_w1r (ih:f_2 n):k_G (h_r n<|a_e n):=by
 obtain ⟨aY,_,_,_,_,_⟩:=ih
 constructor
 intro A0 A5 AA AB A9 N0 C0 N5 C5 b1 o1 NA CA NB CB N9 C9 S2_1 S2_2 B x1 x2 x3 x4 res w0 hm ae aL aM hC1 hC1b aN Y p2_1n p2_1g a0 p2_2n p2_2g p2_2d1 a1 aO;unfold h_r at hm
 refine goG func99 z z z fun fn hr=>Ws<|E z (fb z) ?_
 rintro _ wb ⟨rfl,af⟩;have h2:=af.below;have he:Blk wb w0.z [vI x2.number,sl AA NA CA,sl AB NB CB]:=af.blk;refine E z (fa L_) ?_;rintro _ G ⟨rfl,ah⟩;have W:=ah.below;have hk:Blk G wb.z [vI 0,sl none 0 0,sl none 0 0]:=ah.blk;refine Ra z<|Rw z<|Wq<|Wm z ?_
 have ai:=(h2.ag B).e W;refine R z (lnR x_ z<|a1.g ai)<|Rm z<|Wn ?_
 obtain ⟨_,aP,aa⟩:=bdS hm;refine Wf (σ:=Int×(List Val)) (ρ:=Val×Int×(Option<|Int×Int)) (fun (aj:Nat) s a w=>un2 (fun xc xh=>∃I J L H,Sat 45 [(0,.pointer<|some ⟨b1,o1,none⟩),(3,vI xc),(5,pt w0.z),(8,pt wb.z),(16,sl A9 N9 C9),(17,vI (x3.length:Int)),(18,vI ((aj:Nat):Int))] a/\Chg (· ∈ (S2_2++[w0.z])) G w/\inI xc/\a_ w H (sl I J L) xh/\H.Nodup/\(∀k∈H,k∈S2_2∨G.z<=k)/\Blk w w0.z [vI x2.number,sl AA NA CA,sl I J L]) s) (fun s a w=>un2 (fun xc xh=>∃I J L H,Sat 45 [(3,vI xc),(5,pt w0.z),(8,pt wb.z)] a/\Chg (· ∈ (S2_2++[w0.z])) G w/\inI xc/\a_ w H (sl I J L) xh/\H.Nodup/\(∀k∈H,k∈S2_2∨G.z<=k)/\Blk w w0.z [vI x2.number,sl AA NA CA,sl I J L]) s) (rQ prog fn<|Q24 w0 B S2_1 S2_2) aP ?_ ?_ ?_ ?_ ?_
 ·exact fun _ q=>⟨AB,NB,CB,S2_2,q.k<|s7 z z z z z z z,cr (S2_2++[w0.z]) G,aO,(a0.e h2).e W,p2_2n,io sr,he.e W⟩
 ·rintro aj ⟨xc,xh⟩ _ ak _ ab ⟨I,J,L,H,aQ,s6,hi,hf,hl,hd,hn⟩ aR;refine Wu ?_ aQ;refine Ws<|Rl z z z<|Wn<|Wq<|Wc z (fun _=>?_) (fun hc=>(U_ ab hc).elim)
  refine Wk<|Wq<|Wb<|Ws ?_
  obtain ⟨_,aZ,aS⟩:=bdS<|a_P aR;have al:∀k∈[w0.z],¬B k:=or0 (e_ lr)<|m_ ae;have ht:=ai.c s6<|nmA (g_ p2_2g)<|g_ al
  refine RX z (at_ (α:=Int) x_ z_3 z z z (a1.g ht) aZ) ?_;rintro _ ⟨_,_,_,rfl,b0,b3,_⟩;obtain ⟨rfl,b4⟩:=a_1 b3;refine R z (l0 g_3 z<|b0.at0 z)<|Rw z<|Wm z<|RM z z ?_
  have hu:=lt_ (lt_ h2.s W.s) s6.s;obtain ⟨ro,b5,_,b6,ad⟩:=a_3 aS;refine E z (fc call68 z<|aY.run b6 (zt' ae hu) (aL.g ht) (aM.g ht) (((hC1.e h2).e W).c s6<|(nmA (g_ p2_2g)<|g_ al) _ hC1b) hC1b b4 hi) ?_;rintro _ wm ⟨sa,ar,ns,cv,am,aw,nx,cy,an,b7,b8,rfl,b9,hp,hq,ba,ao,ap,hz,hj⟩;refine Rm z ?_
  iterate 3 refine Re z z z ?_
  refine E z (fa L_) ?_;rintro _ a4 ⟨rfl,aq⟩;have O:=aq.below;refine E0 (fs0 (cur':=[vI ro.number,sl ar ns cv,sl aw nx cy]) c_ z z (aq.blk:Blk a4 wm.z [vI 0,sl none 0 0,sl none 0 0]) z z z z) ?_;rintro _ a5 ⟨bb,bc⟩;have V:=bc.one;refine Ra z<|Rw z<|Wq<|Wm z ?_
  have au:=(ao.e O).c V<|ds<|mnr<|a_C.lt ao
  refine R z (d_q d_z z z au)<|Wx z (fun a2=>?_) (fun a2=>?_)
  ·refine Ws<|R z (bP (parts:=[]) (cs:=[vI 0,sl none 0 0,sl none 0 0]) J_ z z)<|RM z z ?_
   refine E0 (fs0 (cur':=[vI 0,sl none 0 0,sl none 0 0]) c_ z z ((((hk.c s6<|atp<|nmA (mno (a_.lt a0) h2.s)<|mmr he.lt).e sa).e O).c V<|djs<|mm1 hk.lt<|lt_ s6.s sa.s) z z z z) ?_;rintro _ be ⟨bf,bg⟩;have av:=bg.one;refine Ra z<|Rw z ?_
   exact Wr<|rtO<|qL (som<|ifT ad a2).symm<|A_ hr (y_ l_ c_ z bf z) z z ⟨(cM (cM (C_ (C_ (cM (C_ (C_ (cr (S2_1++S2_2) w0) h2:Chg (· ∈ (S2_1++S2_2)) w0 wb) W:Chg (· ∈ (S2_1++S2_2)) w0 G) s6 (aa_ (io<|E_ sr) (mor lr:∀k∈[w0.z],k∈(S2_1++S2_2)∨w0.z<=k)):Chg (· ∈ (S2_1++S2_2)) w0 ak) sa:Chg (· ∈ (S2_1++S2_2)) w0 wm) O:Chg (· ∈ (S2_1++S2_2)) w0 a4) V (mor (lt_ hu sa.s):∀k∈[wm.z],k∈(S2_1++S2_2)∨w0.z<=k):Chg (· ∈ (S2_1++S2_2)) w0 a5) av (mor h2.s:∀k∈[wb.z],k∈(S2_1++S2_2)∨w0.z<=k):Chg (· ∈ (S2_1++S2_2)) w0 be),none,0,0,[],none,0,0,[],b7,b8,z,ii z,onL,onL,hi,au.c av<|n_ ap hk.lt s6.s,h_ ap hu,nd0,al0⟩
  refine Wk<|Ws<|Rf z Y_ z ?_
  have a6:=lt_ W.s s6.s;have ax:=lt_ a6 sa.s;have ay:=((hn.e sa).e O).c V<|djs<|mm1 he.lt ax
  refine R z (l0 a_6 z<|ay.at z)<|R z (lN (vs:=[vI ro.number,sl ar ns cv,sl aw nx cy]) l_ c_ z z fid<|bb.row 0 3 z)<|E z (fS [(.tmp 37)] b_t z z z (a_Q z) (lb z)<|lb z) ?_
  rintro _ az ⟨rfl,aA⟩;have hg:=aA.below;have bx:=(hp.e O).c V<|ds<|mnr<|a_.lt hp
  have bz:=(hq.e O).c V<|ds<|mnr<|a_.lt hq
  obtain ⟨bh,bi,aT⟩:=bdS<|ifF ad a2;refine E z (b_g (α:=Val) b_t bi z z ((((hf.e sa).e O).c V<|ds<|mno (a_.lt hf) sa.s).e hg) hl (aA.blk:Blk az a5.z [vI ro.number,sl ar ns cv,sl aw nx cy]) (c_k (x:=ro) (S1:=am) (S2:=an) b9 (((hp.e O).c V<|ds<|mnr<|a_.lt hp).e hg)<|((hq.e O).c V<|ds<|mnr<|a_.lt hq).e hg) (aa_ (a_4 (al_ hj) (a_.lt hf) lr)<|a_4 (ar_ hj) (a_.lt hf) lr)<|na_ (nl_ hz) (nr_ hz)<|nj hz) ?_;rintro _ bj ⟨a7,aB,aC,aD,rfl,aE,bk,bm,aF⟩;refine Rf z Y_ z ?_;have aG:∀k∈H,k∉[w0.z]:=or1 hd (ds<|mnr<|a_.lt a0)<|X_ (e_ he.lt) W.s;refine E0 (fs0 (cur':=[vI x2.number,sl AA NA CA,sl aB aC aD]) z_38 z z ((ay.e hg).c aE<|djs aG) z z z z) ?_;rintro _ bn ⟨bo,bp⟩;have aH:=bp.one;refine Wn<|Wg<|Rm z<|Rw z<|Wg<|R z (inc_ ab (lt_ (repS.len a1) D_) z z)<|Rm z<|Wl ?_
  have aI:=lt_ s6.s sa.s;exact fun _ q=>⟨(b5,bh),(som aT).symm,⟨aB,aC,aD,a7,q.k<|s7 z z z z z z z,(cM (cM (C_ (cM (C_ (C_ (cM (cr (S2_2++[w0.z]) G) s6 (aa_ (io<|R_ sr)<|io<|E_ sr):Chg (· ∈ (S2_2++[w0.z])) G ak) sa:Chg (· ∈ (S2_2++[w0.z])) G wm) O:Chg (· ∈ (S2_2++[w0.z])) G a4) V (mor aI:∀k∈[wm.z],k∈(S2_2++[w0.z])∨G.z<=k):Chg (· ∈ (S2_2++[w0.z])) G a5) hg:Chg (· ∈ (S2_2++[w0.z])) G az) aE (or1 hd (io<|R_ sr) (j_ lr):∀k∈H,k∈(S2_2++[w0.z])∨G.z<=k):Chg (· ∈ (S2_2++[w0.z])) G bj) aH (io<|E_ sr):Chg (· ∈ (S2_2++[w0.z])) G bn),ba,bk.c aH (or2 aF aG (aa_ (n_ (al_ hj) he.lt a6)<|n_ (ar_ hj) he.lt a6) (X_ (e_ he.lt)<|lt_ (lt_ (lt_ ax O.s) V.s) hg.s):∀k∈a7,k∉[w0.z]),bm,(or2 aF (or1 hd (io sr) (j_ lr):∀k∈H,k∈S2_2∨G.z<=k) (aa_ (or0 (al_ hj) (j_ s6.s):∀k∈am,k∈S2_2∨G.z<=k) (or0 (ar_ hj) (j_ s6.s):∀k∈an,k∈S2_2∨G.z<=k)) (j_<|lt_ (lt_ (lt_ aI O.s) V.s) hg.s):∀k∈a7,k∈S2_2∨G.z<=k),bo⟩⟩
 ·rintro ⟨xc,xh⟩ _ bq ⟨I,J,L,H,aU,br,hi,hf,hl,hd,hn⟩;refine Wu ?_ aU;refine Ws<|Rl z z z<|Wn<|Wq<|Wc z (fun hc=>(V_ hc).elim) (fun _=>?_)
  exact We<|fun _ q=>⟨rfl,⟨I,J,L,H,q.k<|s3 z z z,(cM (cr (S2_2++[w0.z]) G) br (aa_ (io<|R_ sr)<|io<|E_ sr):Chg (· ∈ (S2_2++[w0.z])) G bq),hi,hf,hl,(or1 hd (io sr) (j_ lr):∀k∈H,k∈S2_2∨G.z<=k),hn⟩⟩
 ·rintro ⟨xc,xh⟩ bs bt rfl ⟨I,J,L,H,_,a8,hi,hf,hl,hd,hn⟩;have aV:=elL aa;revert bs;refine Wo<|Ws<|R z (lN (vs:=[vI x2.number,sl AA NA CA,sl I J L]) l_ c_ z z fid<|hn.row 0 3 z)<|Rm z ?_
  have aJ:=mno (a_.lt a0) h2.s;refine E0 (fs0 (cur':=[vI x2.number,sl AA NA CA,sl I J L]) c_ z z (hk.c a8<|atp<|nmA aJ<|mmr he.lt) z z z z) ?_;rintro _ bu ⟨bv,bw⟩;have a9:=bw.one;refine Ra z<|Rw z ?_
  obtain rfl:=som<|a_P aV;have aK:=lt_ h2.s W.s;exact Wr<|A_ hr (y_ l_ c_ z bv z) z z ⟨(cM (cM (C_ (C_ (cr (S2_1++S2_2) w0) h2:Chg (· ∈ (S2_1++S2_2)) w0 wb) W:Chg (· ∈ (S2_1++S2_2)) w0 G) a8 (aa_ (io<|E_ sr) (mor lr:∀k∈[w0.z],k∈(S2_1++S2_2)∨w0.z<=k)):Chg (· ∈ (S2_1++S2_2)) w0 bt) a9 (mor h2.s:∀k∈[wb.z],k∈(S2_1++S2_2)∨w0.z<=k):Chg (· ∈ (S2_1++S2_2)) w0 bu),AA,NA,CA,S2_1,I,J,L,H,.nilIface,([]:List Nat),z,aN,(((Y.e h2).e W).c a8<|nmA (ds p2_2d1)<|ds<|mnr<|a_.lt Y).c a9<|ds<|mno (a_.lt Y) h2.s,hf.c a9 (or1 hd (ds aJ) (X_ (e_ hk.lt) lr):∀k∈H,k∉[wb.z]),hi,d_R,an_,na_ p2_1n hl<|ds<|a_N hd p2_2d1 (a_.lt Y) aK,aa_ (io<|R_ sr) (or1 hd (io<|E_ sr) (j_ aK):∀k∈H,k∈(S2_1++S2_2)∨w0.z<=k)⟩
 rintro _ _ _ _ rfl ⟨rfl,aW⟩;have aX:=elR aa;obtain rfl:=som aX;exact ⟨aW,z⟩
theorem T_w1s (ih:f_2 n):k_H (h_s n<|a_e n):=by
 obtain ⟨_,_,ar,_,_,_⟩:=ih
 constructor
 intro A0 A5 A2 A3 A1 A4 N0 C0 N5 C5 b1 o1 N2 C2 N3 C3 N1 C1 N4 C4 B x1 x2 x3 res w0 hm Y a0 a1 hC1 hC1b b8 b9 ba bb bc J a2 L;unfold h_s at hm
 refine goG func100 z z z fun fn hr=>Ws<|E z (fb z) ?_
 rintro _ H ⟨rfl,hk⟩;have h1:=hk.below;refine E z (fa L_) ?_;rintro _ au ⟨rfl,hl⟩;have h4:=hl.below;have h2:Blk au H.z [vI 0,sl none 0 0,sl none 0 0]:=hl.blk;refine Ra z<|Rw z<|Wm z<|Rf z T_ z ?_
 have hn:=(hk.blk:Blk H w0.z (vR x2 A2 N2 C2 A3 N3 C3 A1 N1 C1 A4 N4 C4)).e h4;refine R z (l0 B_ z<|hn.at z) ?_;obtain ⟨_,av,af⟩:=bdS hm;have O:=(h1.ag B).e h4;refine RX z (at_ (α:=Int) x_ z_3 z z z (a2.g O) av) ?_;rintro _ ⟨_,_,_,rfl,aw,ax,_⟩;obtain ⟨rfl,az⟩:=a_1 ax;refine R z (l0 g_3 z<|aw.at0 z)<|Rm z ?_
 have ho:=(hC1.e h1).e h4;have V:=lt_ h1.s h4.s;obtain ⟨re,aA,_,aB,hmm⟩:=a_3 af;refine E z (fc call95 z<|i_N aB (zt' Y V) (a0.g O) (a1.g O) ho hC1b az L) ?_;rintro _ I ⟨G,aC,aD,rfl,aE,aF,hp,hq⟩;refine Rm z ?_
 iterate 3 refine Re z z z ?_
 refine RA z z<|Rw z<|Wq<|Wm z<|R z (d_q d_z z z hp)<|Wx z (fun hcf=>?_) (fun hcf=>?_)
 ·refine Ws<|R z (bP (parts:=[]) (cs:=[vI 0,sl none 0 0,sl none 0 0]) J_ z z)<|RM z z<|E0 (fs0 (cur':=[vI 0,sl none 0 0,sl none 0 0]) c_ z z (h2.e G) z z z z) ?_
  rintro _ _ ⟨aG,aH⟩;have ht:=aH.one;refine Ra z<|Rw z ?_
  obtain rfl:=som<|ifT hmm hcf;exact Wr<|A_ hr (y_ l_ c_ z aG z) z z ⟨bM (bup (bup h1 h4) G) ht<|m1 h1.s,none,0,0,[],none,0,0,[],aC,aD,z,ii z,onL,onL,L,hp.c ht<|n_ hq h2.lt lr,h_ hq V,nd0,al0⟩
 refine Wk<|Wq<|Ws<|Rf z b_2 z ?_
 have hu:=hn.e G;refine R z (l0 B_ z<|hu.at z) ?_;have hv:=O.e G;refine R z (lnR x_ z<|J.g hv)<|Rm z<|Wn ?_
 obtain ⟨_,ah,hmr⟩:=bdS<|ifF hmm hcf;refine Wf (σ:=Unit) (ρ:=Val×Int×(Option<|Int×Int)) (fun (ks:Nat)(_:Unit) a w=>Sat 61 [(0,.pointer<|some ⟨b1,o1,none⟩),(2,vI x3),(4,pt w0.z),(6,pt H.z),(9,vI re),(10,vI aA),(31,sl A1 N1 C1),(32,vI (x2.tags.length:Int)),(33,vI ((ks:Nat):Int))] a/\Below I.z I w) (fun (_:Unit) a w=>Sat 61 [(2,vI x3),(6,pt H.z)] a/\Below I.z I w) (rQ prog fn<|Q23 w0 B) ah ?_ ?_ ?_ ?_ ?_
 ·exact fun _ q=>⟨q.k<|s9 z z z z z z z z z,br I⟩
 ·rintro ks _ _ _ _ hkg ⟨ai,s3⟩ aj;refine Wu ?_ ai;refine Ws<|Rl z z z<|Wn<|Wq<|Wc z (fun _=>?_) (fun hc=>(U_ hkg hc).elim)
  refine Wk<|Wq<|Wb<|Wm z ?_
  obtain ⟨_,aI,hmw⟩:=bdS aj;have W:=hv.e s3;refine RX z (at_ (α:=Int) x_ z_3 z z z (J.g W) aI) ?_;rintro _ ⟨_,_,_,rfl,aJ,aK,_⟩;obtain ⟨rfl,_⟩:=a_1 aK;refine R z (l0 g_3 z<|aJ.at0 z)<|Ra z<|Rw z<|Wm z<|Rm z<|Rq z z z<|Wx z (fun hch=>?_) (fun hch=>?_)
  ·refine Wm z<|Rm z<|R z (bP (parts:=[(0,.tmp 42)]) (cs:=[vI re,sl none 0 0,sl none 0 0]) J_ z z)<|Rf z T_ z<|R z (l0 B_ z<|(hu.e s3).at z)<|Rm z<|R z (inc_ hkg (lt_ (repS.len J) D_) z z)<|Rm z<|R z (add_ z z) ?_
   obtain ⟨_,aL,ak⟩:=bdS<|ifT hmw hch;refine RX z (rX x_ z_3 z z (a2.g W) z z aL) ?_;rintro _ ⟨_,_,_,rfl,aM⟩;refine Rm z ?_;have ha:=lt_ (lt_ V G.s) s3.s;obtain ⟨aN,_,_,aO,al⟩:=a_3 ak;refine E z (fc call99 z<|ar.run (B:=B) (x2:=(⟨re,([]:List UInt8),([]:List Val)⟩:Val)) aO (zt' Y ha) (a0.g W) (a1.g W) ((ho.e G).e s3) hC1b aE onL a_2 an_ onL a_2 an_ an_ aM aF) ?_;rintro _ _ ⟨sx,ay,nz,a3,a4,a5,a6,a7,a8,aP,aQ,rfl,aR,aS,aT,aU,aV,a9,hi,hb⟩
   iterate 3 refine Re z z z ?_
   refine E0 (fs0 (cur':=[vI aN.number,sl ay nz a3,sl a5 a6 a7]) c_ z z (((h2.e G).e s3).c sx<|atp<|nmA (nmN _)<|nmN _) z z z z) ?_;rintro _ _ ⟨aW,aX⟩;have hd:=aX.one;refine Ra z<|Rw z ?_
   have hj:=lt_ G.s s3.s;exact Wr<|rtO<|qL (som al).symm<|A_ hr (y_ l_ c_ z aW z) z z ⟨bM (bM (bup (bup (bup h1 h4) G) s3) sx al0) hd<|m1 h1.s,ay,nz,a3,a4,a5,a6,a7,a8,aP,aQ,z,aR,aS.c hd (or1 (al_ hb) al0 (X_ (e_ h2.lt) hj):∀k∈a4,k∉[H.z]),aT.c hd (or1 (ar_ hb) al0 (X_ (e_ h2.lt) hj):∀k∈a8,k∉[H.z]),aU,aV.c hd<|n_ a9 h2.lt hj,h_ a9 ha,na_ (nl_ hi) (nr_ hi)<|nj hi,aa_ (a_8 (al_ hb) al0 ha)<|a_8 (ar_ hb) al0 ha⟩
  exact Wk<|Wg<|R z (inc_ hkg (lt_ (repS.len J) D_) z z)<|Rm z<|Wl (fun _ q=>⟨(),(som<|ifF hmw hch).symm,⟨q.k<|s9 z z z z z z z z z,s3⟩⟩)
 ·rintro _ _ _ ⟨am,aY⟩;refine Wu ?_ am;refine Ws<|Rl z z z<|Wn<|Wq<|Wc z (fun hc=>(V_ hc).elim) (fun _=>?_)
  exact We<|fun _ q=>⟨rfl,⟨q.k<|s2 z z,aY⟩⟩
 ·rintro _ aZ _ rfl ⟨_,sc⟩;have an:=elL hmr;revert aZ;refine Wo<|Ws<|R z (bP (parts:=[]) (cs:=[vI 0,sl none 0 0,sl none 0 0]) J_ z z)<|RM z z ?_
  have aa:=lt_ (lt_ V G.s) sc.s;obtain ⟨_,b0,ao⟩:=bdS an;refine E z (fc call104 z<|e_e b0 (zt' Y aa) L<|ii z) ?_;rintro _ _ ⟨ab,b3,b4,rfl,b5,ad⟩;refine E0 (fs0 (cur':=[vI 0,sl none 0 0,sl none 0 0]) c_ z z (((h2.e G).e sc).e ab) z z z z) ?_;rintro _ _ ⟨b6,b7⟩;have ae:=b7.one;refine Ra z<|Rw z ?_
  obtain rfl:=som ao;exact Wr<|A_ hr (y_ l_ c_ z b6 z) z z ⟨bM (bup (bup (bup (bup h1 h4) G) sc) ab) ae<|m1 h1.s,none,0,0,[],none,0,0,[],b3,b4,z,ii z,onL,onL,L,b5.c ae<|n_ ad h2.lt<|lt_ G.s sc.s,h_ ad aa,nd0,al0⟩
 rintro _ _ _ _ rfl ⟨rfl,ap⟩;have aq:=elR hmr;obtain rfl:=som aq;exact ⟨ap,z⟩
theorem T_w1t (ih:f_2 n):k_I (h_t n<|a_e n):=by
 obtain ⟨_,_,a6,_,_,_⟩:=ih
 constructor
 intro A0 A5 A2 A3 A1 A4 N0 C0 N5 C5 b1 o1 N2 C2 N3 C3 N1 C1 N4 C4 B x1 x2 x3 res w0 hm O W Y hC1 hC1b aI aJ aK aL aM aN a3 H;unfold h_t at hm
 refine goG func101 z z z fun fn hr=>Ws<|E z (fb z) ?_
 rintro _ I ⟨rfl,hf⟩;have h1:=hf.below;refine E z (fa L_) ?_;rintro _ a7 ⟨rfl,hg⟩;have h3:=hg.below;have h2:Blk a7 I.z [vI 0,sl none 0 0,sl none 0 0]:=hg.blk;refine Ra z<|Rw z<|Wm z<|Rm z ?_
 have hh:=(hC1.e h1).e h3;have V:=(h1.ag B).e h3;have h5:=lt_ h1.s h3.s;obtain ⟨_,_,a8,hmi⟩:=a_n hm;refine E z (fc call129 z<|i_M a8 (zt' O h5) (W.g V) (Y.g V) hh hC1b H<|ii z) ?_;rintro _ _ ⟨G,_,_,_,a9,aa,rfl,hj,hk,hl⟩;refine Rm z<|Re z z z<|Re z z z<|Ra z<|Rw z<|Wq<|Wb<|Wm z<|R z (d_q d_z z z hk)<|Rw z<|Wc z (fun hca=>?_) (fun hca=>?_)
 ·refine Ws<|R z (bP (parts:=[]) (cs:=[vI 0,sl none 0 0,sl none 0 0]) J_ z z)<|RM z z<|E0 (fs0 (cur':=[vI 0,sl none 0 0,sl none 0 0]) c_ z z (h2.e G) z z z z) ?_
  rintro _ _ ⟨ab,ad⟩;have hn:=ad.one;refine Ra z<|Rw z ?_
  obtain rfl:=som<|ifT hmi hca;exact Wr<|rtO<|A_ hr (y_ l_ c_ z ab z) z z ⟨bM (bup (bup h1 h3) G) hn<|m1 h1.s,none,0,0,[],none,0,0,[],a9,aa,z,ii z,onL,onL,H,hk.c hn<|n_ hl h2.lt lr,h_ hl h5,nd0,al0⟩
 refine Wm z ?_
 obtain ⟨_,ae,hmm⟩:=bdS<|ifF hmi hca;refine RX z (at_ (α:=UInt8) p_ z_5 z z z hj ae) ?_;rintro _ ⟨_,_,_,rfl,af,ah,_⟩;obtain rfl:=u8 ah;refine R z (l0 g_5 z<|af.at0 z)<|R z (a_z z z)<|Rw z<|Wc z (fun hcb=>?_) (fun hcb=>?_)
 ·refine Ws<|R z (bP (parts:=[]) (cs:=[vI 0,sl none 0 0,sl none 0 0]) J_ z z)<|RM z z ?_
  have ho:=lt_ h5 G.s;obtain ⟨_,ai,a4⟩:=bdS<|ifT hmm hcb;refine E z (fc call104 z<|e_e ai (zt' O ho) H<|ii z) ?_;rintro _ _ ⟨sp,aj,ak,rfl,al,hq⟩;refine E0 (fs0 (cur':=[vI 0,sl none 0 0,sl none 0 0]) c_ z z ((h2.e G).e sp) z z z z) ?_;rintro _ _ ⟨am,an⟩;have ht:=an.one;refine Ra z<|Rw z ?_
  obtain rfl:=som a4;exact Wr<|rtO<|A_ hr (y_ l_ c_ z am z) z z ⟨bM (bup (bup (bup h1 h3) G) sp) ht<|m1 h1.s,none,0,0,[],none,0,0,[],aj,ak,z,ii z,onL,onL,H,al.c ht<|n_ hq h2.lt G.s,h_ hq ho,nd0,al0⟩
 refine Wm z ?_
 obtain ⟨_,ao,hmr⟩:=bdS<|ifF hmm hcb;refine RX z (at_ (α:=UInt8) p_ z_5 z z z hj ao) ?_;rintro _ ⟨_,_,_,rfl,ap,aq,_⟩;obtain rfl:=u8 aq;refine R z (l0 g_5 z<|ap.at0 z)<|Rq z z z<|Rw z<|Wc z (fun hcc=>?_) (fun hcc=>?_)
 ·refine Ws<|R z (bP (parts:=[]) (cs:=[vI 0,sl none 0 0,sl none 0 0]) J_ z z)<|Rm z<|R z (add_ z z)<|E0 (fs0 (cur':=[vI 0,sl none 0 0,sl none 0 0]) c_ z z (h2.e G) z z z z) ?_
  rintro _ _ ⟨ar,av⟩;refine Ra z<|Rw z ?_
  obtain rfl:=som<|ifT hmr hcc;exact Wr<|rtO<|A_ hr (y_ l_ c_ z ar z) z z ⟨bM (bup (bup h1 h3) G) av.one<|m1 h1.s,none,0,0,[],none,0,0,[],.nilIface,([]:List Nat),z,ii z,onL,onL,iA _ _,d_R,an_,nd0,al0⟩
 refine Wk<|Wm z<|R z (bP (parts:=[]) (cs:=[vI 0,sl none 0 0,sl none 0 0]) J_ z z)<|Rf z T_ z<|R z (l0 B_ z<|(((hf.blk:Blk I w0.z (vR x2 A2 N2 C2 A3 N3 C3 A1 N1 C1 A4 N4 C4)).e h3).e G).at z)<|Rm z<|R z (add_ z z) ?_
 have hd:=V.e G;have h6:=lt_ h5 G.s;obtain ⟨aw,_,_,ax,a5⟩:=a_3<|ifF hmr hcc;refine E z (fc call99 z<|a6.run (B:=B) (x2:=(⟨0,([]:List UInt8),([]:List Val)⟩:Val)) ax (zt' O h6) (W.g hd) (Y.g hd) (hh.e G) hC1b (ii z) onL a_2 an_ onL a_2 an_ an_ (a3.g hd)<|iA _ _) ?_;rintro _ _ ⟨ss,au,nv,cw,Sx,ay,nz,a0,a1,az,aA,rfl,aB,aC,aD,aE,aF,a2,he,J⟩
 iterate 3 refine Re z z z ?_
 refine E0 (fs0 (cur':=[vI aw.number,sl au nv cw,sl ay nz a0]) c_ z z ((h2.e G).c ss<|atp<|nmA (nmN _)<|nmN _) z z z z) ?_;rintro _ _ ⟨aG,aH⟩;have L:=aH.one;refine Ra z<|Rw z ?_
 obtain rfl:=som a5;exact Wr<|A_ hr (y_ l_ c_ z aG z) z z ⟨bM (bM (bup (bup h1 h3) G) ss al0) L<|m1 h1.s,au,nv,cw,Sx,ay,nz,a0,a1,az,aA,z,aB,aC.c L (or1 (al_ J) al0 (X_ (e_ h2.lt) G.s):∀k∈Sx,k∉[I.z]),aD.c L (or1 (ar_ J) al0 (X_ (e_ h2.lt) G.s):∀k∈a1,k∉[I.z]),aE,aF.c L<|n_ a2 h2.lt G.s,h_ a2 h6,na_ (nl_ he) (nr_ he)<|nj he,aa_ (a_8 (al_ J) al0 h6)<|a_8 (ar_ J) al0 h6⟩
theorem T_w1u (ih:f_2 n):k_J (h_u n<|a_e n):=by
 obtain ⟨_,_,ap,_,_,_⟩:=ih
 constructor
 intro A0 A5 A2 A3 A1 A4 N0 C0 N5 C5 b1 o1 N2 C2 N3 C3 N1 C1 N4 C4 B x1 x2 x3 res w0 hm J V O hC1 hC1b aW aX aY aZ b0 b3 al L;unfold h_u at hm
 refine goG func102 z z z fun fn hr=>Ws<|E z (fb z) ?_
 rintro _ wb ⟨rfl,hu⟩;have h6:=hu.below;refine E z (fa L_) ?_;rintro _ aq ⟨rfl,hv⟩;have H:=hv.below;have h3:Blk aq wb.z [vI 0,sl none 0 0,sl none 0 0]:=hv.blk;refine Ra z<|Rw z<|Wm z<|R z (bP (parts:=[]) (cs:=[vI 0,sl none 0 0,sl none 0 0]) J_ z z)<|Rf z T_ z<|R z (l0 B_ z<|((hu.blk:Blk wb w0.z (vR x2 A2 N2 C2 A3 N3 C3 A1 N1 C1 A4 N4 C4)).e H).at z)<|Rm z ?_
 have hw:=(hC1.e h6).e H;have hc:=(h6.ag B).e H;have I:=lt_ h6.s H.s;obtain ⟨rk,_,_,ar,hmr⟩:=a_3 hm;refine E z (fc call99 z<|ap.run (B:=B) (x2:=(⟨0,([]:List UInt8),([]:List Val)⟩:Val)) ar (zt' J I) (V.g hc) (O.g hc) hw hC1b (ii z) onL a_2 an_ onL a_2 an_ an_ (al.g hc) L) ?_;rintro _ ws ⟨G,ad,ne,cf,Sx,ah,ng,ci,Sy,au,av,rfl,aw,hz,a0,a1,a2,a3,hl,hj⟩;refine Rm z ?_
 iterate 3 refine Re z z z ?_
 refine E z (fa L_) ?_;rintro _ ax ⟨rfl,a4⟩;have h1:=a4.below;refine E0 (fs0 (cur':=[vI rk.number,sl ad ne cf,sl ah ng ci]) c_ z z (a4.blk:Blk ax ws.z [vI 0,sl none 0 0,sl none 0 0]) z z z z) ?_;rintro _ _ ⟨ay,az⟩;have h2:=az.one;refine Ra z<|Rw z<|Wq<|Wm z ?_
 have a5:=(a2.e h1).c h2<|ds<|mnr<|a_C.lt a2
 refine R z (d_q d_z z z a5)<|Wx z (fun hcm=>?_) (fun hcm=>?_)
 ·refine Ws<|R z (bP (parts:=[]) (cs:=[vI 0,sl none 0 0,sl none 0 0]) J_ z z)<|RM z z<|E0 (fs0 (cur':=[vI 0,sl none 0 0,sl none 0 0]) c_ z z (((h3.c G<|atp<|nmA (nmN _)<|nmN _).e h1).c h2<|djs<|mm1 h3.lt G.s) z z z z) ?_
  rintro _ _ ⟨aA,aB⟩;have a6:=aB.one;refine Ra z<|Rw z ?_
  obtain rfl:=som<|ifT hmr hcm;exact Wr<|A_ hr (y_ l_ c_ z aA z) z z ⟨bM (bM (bup (bM (bup h6 H) G al0) h1) h2<|m1<|lt_ I G.s) a6<|m1 h6.s,none,0,0,[],none,0,0,[],au,av,z,ii z,onL,onL,L,a5.c a6<|n_ a3 h3.lt lr,h_ a3 I,nd0,al0⟩
 refine Wk<|Wm z<|Rm z ?_
 have ha:=lt_ I G.s;have a7:∀k∈[ws.z],¬B k:=or0 (e_ lr)<|m_<|zt' J ha;have a8:=((hw.c G<|(nmA (g_ an_)<|g_ an_) _ hC1b).e h1).c h2<|(g_ a7) _ hC1b
 have hn:=((hc.c G<|nmA (g_ an_)<|g_ an_).e h1).c h2<|g_ a7
 have ho:=lt_ (lt_ ha h1.s) h2.s;obtain ⟨_,_,aC,W⟩:=a_n<|ifF hmr hcm;refine E z (fc call129 z<|i_M aC (zt' J ho) (V.g hn) (O.g hn) a8 hC1b a1<|ii z) ?_;rintro _ _ ⟨s4,_,_,_,aD,aE,rfl,aF,a9,aa⟩;refine Rm z<|Re z z z<|Re z z z<|Ra z<|Rw z<|Wq<|Wm z<|R z (d_q d_z z z a9)<|Wx z (fun hcp=>?_) (fun hcp=>?_)
 ·refine Ws<|R z (bP (parts:=[]) (cs:=[vI 0,sl none 0 0,sl none 0 0]) J_ z z)<|RM z z<|E0 (fs0 (cur':=[vI 0,sl none 0 0,sl none 0 0]) c_ z z ((((h3.c G<|atp<|nmA (nmN _)<|nmN _).e h1).c h2<|djs<|mm1 h3.lt G.s).e s4) z z z z) ?_
  rintro _ _ ⟨aG,aH⟩;have ab:=aH.one;refine Ra z<|Rw z ?_
  obtain rfl:=som<|ifT W hcp;exact Wr<|A_ hr (y_ l_ c_ z aG z) z z ⟨bM (bup (bM (bup (bM (bup h6 H) G al0) h1) h2<|m1 ha) s4) ab<|m1 h6.s,none,0,0,[],none,0,0,[],aD,aE,z,ii z,onL,onL,L,a9.c ab<|n_ aa h3.lt<|lt_ (lt_ G.s h1.s) h2.s,h_ aa ho,nd0,al0⟩
 refine Wk<|Wq<|Wq (Wd (X:=noX) 0 (pl_ 13 [11]) mo (by kernel_rfl) fun b4 s5 _=>dM z z z ?_)
 obtain ⟨_,aI,am⟩:=bdS<|ifF W hcp;refine dRX z z (at_ (α:=UInt8) p_ z_5 z z z (aF.e s5) aI) ?_;rintro _ ⟨_,_,_,rfl,aJ,aK,_⟩;obtain rfl:=u8 aK;refine dR z z (l0 g_5 z<|aJ.at0 z)<|dR z z (c_w d_5 d_3 z)<|dM z z z<|dR z z (N_ z)<|dR z z (fd f_E z)<|dR z z (l0 F_ z<|((a8.e s4).e s5).at (j:=1) z)<|dM z z z<|dM z z z ?_
 obtain ⟨_,aL,an⟩:=bdS am;refine dRX z z (rX p_ z_5 z z (O.g<|(hn.e s4).e s5) z z aL) ?_;rintro _ ⟨_,_,_,rfl,aM⟩;have ae:=lt_ (lt_ ho s4.s) s5.s;obtain ⟨_,aN,Y⟩:=bdS an;refine dE z z (fc call119 z<|W_w1p aN (zt' J ae) aM) (.inr fun _ _ h=>o_<|h.1) ?_;rintro _ _ ⟨s7,rfl,_⟩;refine dR z z (nq z z)<|pD<|Wo<|Wc z (fun hcq=>?_) (fun hcq=>?_)
 ·refine Ws<|R z (bP (parts:=[]) (cs:=[vI 0,sl none 0 0,sl none 0 0]) J_ z z)<|RM z z ?_
  have af:=lt_ ae s7.s;obtain ⟨_,aO,ao⟩:=bdS<|ifT Y hcq;refine E z (fc call104 z<|e_e aO (zt' J af) a1<|ii z) ?_;rintro _ _ ⟨ai,aP,aQ,rfl,aR,aj⟩;refine E0 (fs0 (cur':=[vI 0,sl none 0 0,sl none 0 0]) c_ z z (((((((h3.c G<|atp<|nmA (nmN _)<|nmN _).e h1).c h2<|djs<|mm1 h3.lt G.s).e s4).e s5).e s7).e ai) z z z z) ?_;rintro _ _ ⟨aS,aT⟩;have ak:=aT.one;refine Ra z<|Rw z ?_
  obtain rfl:=som ao;exact Wr<|A_ hr (y_ l_ c_ z aS z) z z ⟨bM (bup (bup (bup (bup (bM (bup (bM (bup h6 H) G al0) h1) h2<|m1 ha) s4) s5) s7) ai) ak<|m1 h6.s,none,0,0,[],none,0,0,[],aP,aQ,z,ii z,onL,onL,L,aR.c ak<|n_ aj h3.lt<|lt_ (lt_ (lt_ (lt_ (lt_ G.s h1.s) h2.s) s4.s) s5.s) s7.s,h_ aj af,nd0,al0⟩
 refine Wk<|Ws<|R z (lN (vs:=[vI rk.number,sl ad ne cf,sl ah ng ci]) l_ c_ z z fid<|(((ay.e s4).e s5).e s7).row 0 3 z)<|Rm z<|R z (add_ z z)<|E0 (fs0 (cur':=[vI rk.number,sl ad ne cf,sl ah ng ci]) c_ z z ((((((h3.c G<|atp<|nmA (nmN _)<|nmN _).e h1).c h2<|djs<|mm1 h3.lt G.s).e s4).e s5).e s7) z z z z) ?_
 rintro _ _ ⟨aU,aV⟩;have ht:=aV.one;refine Ra z<|Rw z ?_
 obtain rfl:=som<|ifF Y hcq;exact Wr<|A_ hr (y_ l_ c_ z aU z) z z ⟨bM (bup (bup (bup (bM (bup (bM (bup h6 H) G al0) h1) h2<|m1 ha) s4) s5) s7) ht<|m1 h6.s,ad,ne,cf,Sx,ah,ng,ci,Sy,.nilIface,([]:List Nat),z,aw,(((((hz.e h1).c h2<|ds<|mnr<|a_.lt hz).e s4).e s5).e s7).c ht (or1 (al_ hj) al0 (X_ (e_ h3.lt) lr):∀k∈Sx,k∉[wb.z]),(((((a0.e h1).c h2<|ds<|mnr<|a_.lt a0).e s4).e s5).e s7).c ht (or1 (ar_ hj) al0 (X_ (e_ h3.lt) lr):∀k∈Sy,k∉[wb.z]),iA _ _,d_R,an_,na_ (nl_ hl) (nr_ hl)<|nj hl,aa_ (a_8 (al_ hj) al0 I)<|a_8 (ar_ hj) al0 I⟩
theorem c_t:∀n,f_2 n
  | 0=>⟨⟨fun hm=>by intros;exact nomatch (show none=some _ from hm)⟩,⟨fun hm=>by intros;exact nomatch (show none=some _ from hm)⟩,⟨fun hm=>by intros;exact nomatch (show none=some _ from hm)⟩,⟨fun hm=>by intros;exact nomatch (show none=some _ from hm)⟩,⟨fun hm=>by intros;exact nomatch (show none=some _ from hm)⟩,⟨fun hm=>by intros;exact nomatch (show none=some _ from hm)⟩⟩
  | n+1=>⟨T_w01<|c_t n,T_w1q<|c_t n,T_w1r<|c_t n,T_w1s<|c_t n,T_w1t<|c_t n,T_w1u<|c_t n⟩
theorem W_w01:k_E (a_e n).impl_fileReader_value:=(c_t n).1
theorem W_w1q:k_F (a_e n).impl_fileReader_array:=(c_t n).2.1
theorem W_w1r:k_G (a_e n).impl_fileReader_items:=(c_t n).2.2.1
theorem W_w1s:k_H (a_e n).impl_fileReader_choice:=(c_t n).2.2.2.1
theorem W_w1t:k_I (a_e n).impl_fileReader_option:=(c_t n).2.2.2.2.1
theorem W_w1u:k_J (a_e n).impl_fileReader_checked:=(c_t n).2.2.2.2.2
theorem k_K {x1:f_}{x2:Int}{x3:List UInt8}{x4:Int}{res:Val×Int×Int}(hm:h_v n x1 x2 x3 x4=some res)(O:B<=w0.z)(hG:Gl w0 B)(V:repS w0 B (sl A0 N0 C0) x1.rules)(W:inI x2)(Y:repS w0 B (sl A9 N9 C9) x3)(aB:inI x4):k_ prog 43 [(.agg #[sl A0 N0 C0]),vI x2,sl A9 N9 C9,vI x4] w0 (Q11 w0 B res):=by
 unfold h_v at hm
 refine goG func43 z z z fun fn hr=>Ws<|E z (fb z) ?_
 rintro _ wc ⟨rfl,a5⟩;have h1:=a5.below;have a6:Blk wc w0.z [sl A0 N0 C0]:=a5.blk;refine E z (fa L_) ?_;rintro _ wp ⟨rfl,a7⟩;have h4:=a7.below;have h5:Blk wp wc.z [vI 0,sl none 0 0,sl none 0 0]:=a7.blk;refine Ra z<|Rw z<|Wq<|Wq ?_
 obtain ⟨aE,aC,a0⟩:=bdS hm;refine Wt (fun a w=>∃(xq:Bool),xq=aE/\Sat 62 [(1,vI x2),(2,sl A9 N9 C9),(3,vI x4),(4,pt w0.z),(8,pt wc.z),(34,vB xq)] a/\Below wp.z wp w) ?_ ?_
 ·refine Wg<|R z (lN (vs:=[sl A0 N0 C0]) v_ u_ z z fid<|(a6.e h4).row 0 1 z)<|Rm z ?_
  have a8:=(h1.ag B).e h4;obtain ⟨aF,aG,a1⟩:=bdS aC;refine E z (fc call67 z<|i_L aG (zt' O<|lt_ h1.s h4.s) (V.g a8) W) ?_;rintro _ _ ⟨sd,rfl⟩;refine R z (not_ z)<|Rm z ?_
  rcases bs (!aF) with J | J
  ·exact Nh z J<|Nh z J<|R z (pT z J z)<|Rm z<|Nh z z<|Nh z z<|Nh z z<|Nh z z<|R z (pT z z z)<|Rm z<|Nh z z<|Nh z z<|Nh z z<|R z (pT z z z)<|Wl (fun _ q=>⟨true,som<|ifT a1 J,q.k<|s6 z z z z z z,sd⟩)
  have a2:=ifF a1 J;refine Rh z J (mv z)<|Rh z J (lss z z)<|R z (pF z J z)<|Rm z ?_
  rcases bs (decide<|x4<0) with H | H
  ·iterate 4 refine Nh z H ?_
   exact R z (pT z H z)<|Rm z<|Nh z z<|Nh z z<|Nh z z<|R z (pT z z z)<|Wl (fun _ q=>⟨true,som<|ifT a2 H,q.k<|s6 z z z z z z,sd⟩)
  have a3:=ifF a2 H;refine Rh z H (mv z)<|Rh z H (mv z) ?_
  have a9:=Y.g<|a8.e sd
  refine Rh z H (lnR p_ z a9)<|Rh z H (a_z z z)<|R z (pF z H z)<|Rm z ?_
  rcases bs (decide<|(x3.length:Int)<x4) with L | L
  ·iterate 3 refine Nh z L ?_
   exact R z (pT z L z)<|Wl (fun _ q=>⟨true,som<|ifT a3 L,q.k<|s6 z z z z z z,sd⟩)
  exact Rh z L (mv z)<|Rh z L (lnR p_ z a9)<|Rh z L (a_z z z)<|R z (pF z L z)<|Wl (fun _ q=>⟨decide<|400<(x3.length:Int),som<|ifF a3 L,q.k<|s6 z z z z z z,sd⟩)
 rintro aH aI ⟨xq,rfl,_,G⟩;revert aH;refine Wo<|Wc z (fun hcr=>?_) (fun hcr=>?_)
 ·refine Ws<|R z (bP (parts:=[]) (cs:=[vI 0,sl none 0 0,sl none 0 0]) J_ z z)<|E0 (fs0 (cur':=[vI 0,sl none 0 0,sl none 0 0]) c_ z z (h5.e G) z z z z) ?_
  rintro _ _ ⟨aJ,aK⟩;refine Ra z<|Rw z ?_
  obtain rfl:=som<|ifT a0 hcr;exact Wr<|A_ hr (y_ l_ c_ z aJ z) z z ⟨bM (bup (bup h1 h4) G) aK.one<|m1 h1.s,none,0,0,[],none,0,0,[],z,ii z,onL,onL,ii z,ii z,nd0,al0⟩
 refine Wk<|Ws<|R z (lN (vs:=[sl A0 N0 C0]) v_ u_ z z fid<|((a6.e h4).e G).row 0 1 z)<|Rm z<|R z (bP (parts:=[(0,.tmp 36),(1,.tmp 37)]) (cs:=[sl A0 N0 C0,sl A9 N9 C9]) r_r z z)<|E z (fb z) ?_
 rintro _ aa ⟨rfl,ab⟩;have ha:=ab.below;have ad:Blk aa aI.z [sl A0 N0 C0,sl A9 N9 C9]:=ab.blk;refine Rw z<|Wm z<|RM z z ?_
 have ae:=(((h1.ag B).e h4).e G).e ha;have he:=lt_ (lt_ (lt_ h1.s h4.s) G.s) ha.s;have af:=zt' O he;obtain ⟨rs,_,aL,aM,a4⟩:=a_3<|ifF a0 hcr;refine E z (fc call68 z<|W_w01.run (B:=aa.z) aM zr (repS.mono (V.g ae) af) (repS.mono (Y.g ae) af) (ad.row 0 2 z) ad.lt W aB) ?_;rintro _ ai ⟨sb,ah,ng,ci,aN,aj,nk,cl,aO,_,_,rfl,aP,ak,al,aQ,ht,aR,hu,hn⟩;refine Rm z ?_
 iterate 3 refine Re z z z ?_
 refine E z (fa L_) ?_;rintro _ aS ⟨rfl,am⟩;have h2:=am.below;refine E0 (fs0 (cur':=[vI rs.number,sl ah ng ci,sl aj nk cl]) c_ z z (am.blk:Blk aS ai.z [vI 0,sl none 0 0,sl none 0 0]) z z z z) ?_;rintro _ an ⟨aT,aU⟩;have h3:=aU.one;refine Ra z<|Rw z<|Ws<|E z (fa r_u) ?_
 rintro _ aV ⟨rfl,ao⟩;have I:=ao.below;have ap:Blk aV an.z [(.pointer none)]:=ao.blk;refine Wn<|Wq<|Wm z<|R z (l_S d_104 (fun _ h=>by cases h) z) ?_
 have aq:=((ht.e h2).c h3<|ds<|mnr<|a_C.lt ht).e I
 rcases bs (aL.isSome) with hcm | hcm
 ·obtain ⟨_,_,aW,aD⟩:=a_n<|ifT a4 hcm;have hv:=lt_ he sb.s;refine E z (fc call69 z<|r_o ((((((((hG.e h1).e h4).e G).e ha).e sb).e h2).c h3<|g_ (or0 (e_ lr) (m_<|zt' O hv):∀k∈[ai.z],¬B k)).e I) aq aW ap) ?_;rintro _ _ ⟨ar,rfl,aX,aY,aZ,au,b0,b3⟩;have hw:=aX.one;refine Wx z (fun _=>?_) (fun hc=>(bcon z hc).elim)
  refine Wq<|Wd (X:=(· ∈ [wc.z])) 0 (pl_ 12 [9]) mo (by kernel_rfl) fun b8 so _=>dR z z (bP (parts:=[]) (cs:=[vI 0,sl none 0 0,sl none 0 0]) J_ z z) ?_;have av:=aY.e so;have aw:=lt_ G.s ha.s;have ax:=lt_ aw sb.s;have ay:=lt_ (lt_ ax h2.s) h3.s;have hx:=mm1 h5.lt ay;refine dR z z (l1 g_102 z (atp hx)<|av.at z)<|dR z z (N_ z)<|dR z z (fd r_s z) ?_
  have az:=(aZ.c hw<|atp (or1 (e_<|.inl au) (ds<|mno (a_C.lt ht)<|lt_ h2.s h3.s) (X_ (e_ ap.lt) lr):∀k∈[ar],k∉[an.z])).e so;have aA:∀k∈[ar],k∉[wc.z]:=or1 (e_<|.inl au) (n_ aR h5.lt aw)<|X_ (e_ h5.lt)<|lt_ ay I.s;refine dR z z (l1 g_3 z (atp aA)<|az.at z)<|dR z z (l1 g_102 z (atp hx)<|av.at z)<|dR z z (N_ z)<|dR z z (fd r_t z)<|dR z z (l1 g_3 z (atp aA)<|az.at z)<|dE0 z (fs0 (cur':=[vI 0,sl none 0 0,sl none 0 0]) c_ z z ((((((((h5.e G).e ha).e sb).e h2).c h3<|djs<|mm1 h5.lt ax).e I).c hw<|djs hx).e so) z z z z) (.inr fun _ _ h=>chgIn (List.mem_singleton.2 z) h.2) ?_
  rintro _ _ ⟨b4,b5⟩;refine dQ z z z<|dQ z z z<|pD<|Wo ?_
  obtain rfl:=som aD;exact Wr<|A_ hr (y_ l_ c_ z b4 z) z z ⟨bM (bup (bM (bup (bM (bup (bup (bup (bup (bup h1 h4) G) ha) sb) h2) h3<|m1 hv) I) hw<|m1<|lt_ (lt_ hv h2.s) h3.s) so) b5.one<|m1 h1.s,none,0,0,[],none,0,0,[],z,ii z,onL,onL,b0,b3,nd0,al0⟩
 refine E z (fc call69 z<|r_n aq hcm) ?_;rintro _ _ ⟨rfl,sf⟩;refine Wx z (fun hc=>(bcon hc z).elim) (fun _=>?_)
 refine Wk<|Ws<|R z (lN (vs:=[vI rs.number,sl ah ng ci,sl aj nk cl]) l_ c_ z z fid<|((aT.e I).e sf).row 0 3 z)<|Rm z ?_
 have hy:=lt_ G.s ha.s;refine E0 (fs0 (cur':=[vI rs.number,sl ah ng ci,sl aj nk cl]) c_ z z (((((((h5.e G).e ha).e sb).e h2).c h3<|djs<|mm1 h5.lt<|lt_ hy sb.s).e I).e sf) z z z z) ?_;rintro _ _ ⟨b6,b7⟩;have hz:=b7.one;refine Ra z<|Rw z ?_
 obtain rfl:=som<|ifF a4 hcm;exact Wr<|A_ hr (y_ l_ c_ z b6 z) z z ⟨bM (bup (bup (bM (bup (bup (bup (bup (bup h1 h4) G) ha) sb) h2) h3<|m1<|lt_ he sb.s) I) sf) hz<|m1 h1.s,ah,ng,ci,aN,aj,nk,cl,aO,z,aP,((((ak.e h2).c h3<|ds<|mnr<|a_.lt ak).e I).e sf).c hz<|n_ (al_ hn) h5.lt hy,((((al.e h2).c h3<|ds<|mnr<|a_.lt al).e I).e sf).c hz<|n_ (ar_ hn) h5.lt hy,aQ,ii z,na_ (nl_ hu) (nr_ hu)<|nj hu,aa_ (h_ (al_ hn) he)<|h_ (ar_ hn) he⟩
theorem W_w37 {x1:f_}{x2:List UInt8}{res:Val×Int×Int}(hm:h_w n x1 x2=some res)(W:B<=w0.z)(hG:Gl w0 B)(V:repS w0 B (sl A0 N0 C0) x1.rules)(Y:repS w0 B (sl A8 N8 C8) x2):k_ prog 26 [(.agg #[sl A0 N0 C0]),sl A8 N8 C8] w0 (Q11 w0 B res):=by
 unfold h_w at hm
 refine goG func26 z z z fun fn hr=>Ws<|E z (fb z) ?_
 rintro _ wn ⟨rfl,ao⟩;have h2:=ao.below;have hv:Blk wn w0.z [sl A0 N0 C0]:=ao.blk;refine E z (fa L_) ?_;rintro _ I ⟨rfl,ap⟩;have h1:=ap.below;have ho:Blk I wn.z [vI 0,sl none 0 0,sl none 0 0]:=ap.blk;refine Ra z<|Rw z<|Wq ?_
 obtain ⟨bp,ak,bj⟩:=bdS hm;refine Wt (fun a w=>∃(xb:Int)(xw:List UInt8)(xx:List Val)(xc:Int)(xd:Int),(xb,xw,xx,xc,xd)=bp/\∃ae nf cg J ah ni cj L O,Sat 32 [(1,sl A8 N8 C8),(4,pt wn.z),(7,pt O),(8,vI xc),(9,vI xd)] a/\Below I.z I w/\inI xb/\a_ w J (sl ae nf cg) xw/\J.Nodup/\(∀k∈J,I.z<=k)/\a_ w L (sl ah ni cj) xx/\L.Nodup/\(∀k∈L,I.z<=k)/\(∀k∈L,k∉J)/\inI xc/\inI xd/\Blk w O [vI xb,sl ae nf cg,sl ah ni cj]/\I.z<=O/\(∀k∈J,k∉[O])/\(∀k∈L,k∉[O])) ?_ ?_
 ·refine Wd (X:=fun k=>k∈([]:List Nat)∨I.z<=k) 0 (.rd 0<|.rd 1<|.rd 3<|.br 2 (.br 4 (.rd 5<|.rd 6<|.rd 7<|.rd 8<|.ef 9<|.ef 10<|.rd 11<|.rd 12 .done) 9<|.ef 4<|.rd 5<|.rd 6<|.rd 7<|.rd 8<|.ef 10<|.rd 11<|.rd 12 .done) 9<|.ef 2<|.ef 4<|.rd 5<|.rd 6<|.rd 7<|.rd 8<|.ef 10<|.rd 11<|.rd 12 .done) mo (by kernel_rfl) fun aq G _=>?_
  have ar:=(hv.e h1).e G;refine dR z z (lN (vs:=[sl A0 N0 C0]) v_ u_ z z (c_y nm0<|Nat.lt_of_lt_of_le hv.lt h1.s)<|ar.row 0 1 z)<|dR z z (lN (vs:=[sl A0 N0 C0]) v_ u_ z z (c_y nm0<|Nat.lt_of_lt_of_le hv.lt h1.s)<|ar.row 0 1 z)<|dM z z z<|b_G ?_ ?_
  ·have hy:=((h2.ag B).e h1).e G;have hz:=lt_ (lt_ h2.s h1.s) G.s;obtain ⟨_,bq,al⟩:=bdS ak;refine dE z z (fc call44 z<|g_Q bq (zt' W hz)<|V.g hy) (.inr fun _ _ h=>o_<|h.1) ?_;rintro _ au ⟨s3,rfl,av⟩;refine b_G ?_ ?_
   ·have aw:=hy.e s3;obtain ⟨rp,bt,bu,bv,bk⟩:=a_3 al;refine dE z z (fc call43 z<|k_K bv (zt' W<|lt_ hz s3.s) ((((hG.e h2).e h1).e G).e s3) (V.g aw) av (Y.g aw)<|ii z) (.inr fun _ _ h=>o_<|h.1) ?_;rintro _ ax ⟨ay,az,aA,aB,bw,aC,aD,aE,bx,rfl,bz,aF,aG,bA,bB,a1,aH⟩;refine dM z z z ?_
    iterate 3 refine dR z z (ext_ z z) ?_
    refine dE z z (fa L_) (.inr fun _ _ h=>o_<|h.2.below) ?_;rintro _ bC ⟨rfl,aI⟩;have a2:=aI.below;have a3:=lt_ G.s s3.s;have a4:=m1<|lt_ a3 ay.s
    refine dE0 z (fs0 (cur':=[vI rp.number,sl az aA aB,sl aC aD aE]) c_ z z (aI.blk:Blk bC ax.z [vI 0,sl none 0 0,sl none 0 0]) z z z z) (.inr fun _ _ h=>a_V (atp a4) h.2) ?_;rintro _ _ ⟨bD,bE⟩;have a5:=bE.one;refine dQ z z z<|dQ z z z<|pD ?_
    have aJ:=mnr<|a_.lt aF
    have aK:=mnr<|a_.lt aG
    exact fun _ q=>⟨rp.number,rp.bytes,rp.items,bt,bu,som bk,az,aA,aB,bw,aC,aD,aE,bx,ax.z,q.k<|s5 z z z z z,bM (bup (bup (bup G s3) ay) a2) a5 a4,bz,(aF.e a2).c a5<|ds aJ,nl_ a1,h_ (al_ aH) a3,(aG.e a2).c a5<|ds aK,nr_ a1,h_ (ar_ aH) a3,ds<|nj a1,bA,bB,bD,atp a4,ds aJ,ds aK⟩
   refine dE z z (fa L_) (.inr fun _ _ h=>o_<|h.2.below) ?_;rintro _ bF ⟨rfl,aL⟩;have hk:=aL.below;have a6:Blk bF au.z [vI 0,sl none 0 0,sl none 0 0]:=aL.blk;have aM:=(hy.e s3).e hk;obtain ⟨rq,bG,bH,bI,bm⟩:=a_3 al;refine dE z z (fc call43 z<|k_K bI (zt' W<|lt_ (lt_ hz s3.s) hk.s) (((((hG.e h2).e h1).e G).e s3).e hk) (V.g aM) av (Y.g aM)<|ii z) (.inr fun _ _ h=>o_<|h.1) ?_;rintro _ _ ⟨aN,aO,aP,aQ,bJ,aR,aS,aT,bK,rfl,bL,bN,bO,bQ,bR,a7,ht⟩;refine dM z z z ?_
   iterate 3 refine dR z z (ext_ z z) ?_
   have aU:=lt_ G.s s3.s;have a8:=m1 aU;refine dE0 z (fs0 (cur':=[vI rq.number,sl aO aP aQ,sl aR aS aT]) c_ z z (a6.e aN) z z z z) (.inr fun _ _ h=>a_V (atp a8) h.2) ?_;rintro _ _ ⟨bS,bT⟩;have a9:=bT.one;refine dQ z z z<|dQ z z z<|pD ?_
   have aV:=n_ (al_ ht) a6.lt lr;have aW:=lt_ aU hk.s;have aX:=n_ (ar_ ht) a6.lt lr;exact fun _ q=>⟨rq.number,rq.bytes,rq.items,bG,bH,som bm,aO,aP,aQ,bJ,aR,aS,aT,bK,au.z,q.k<|s5 z z z z z,bM (bup (bup (bup G s3) hk) aN) a9 a8,bL,bN.c a9 aV,nl_ a7,h_ (al_ ht) aW,bO.c a9 aX,nr_ a7,h_ (ar_ ht) aW,ds<|nj a7,bQ,bR,bS,atp a8,aV,aX⟩
  refine dE z z (fa L_) (.inr fun _ _ h=>o_<|h.2.below) ?_;rintro _ bU ⟨rfl,aY⟩;have hl:=aY.below;have aa:Blk bU aq.z [vI 0,sl none 0 0,sl none 0 0]:=aY.blk;have aZ:=(((h2.ag B).e h1).e G).e hl;have b0:=lt_ (lt_ (lt_ h2.s h1.s) G.s) hl.s;obtain ⟨_,bV,bn⟩:=bdS ak;refine dE z z (fc call44 z<|g_Q bV (zt' W b0)<|V.g aZ) (.inr fun _ _ h=>o_<|h.1) ?_;rintro _ _ ⟨s6,rfl,bW⟩;have b3:=aZ.e s6;obtain ⟨rr,bX,bY,bZ,bo⟩:=a_3 bn;refine dE z z (fc call43 z<|k_K bZ (zt' W<|lt_ b0 s6.s) (((((hG.e h2).e h1).e G).e hl).e s6) (V.g b3) bW (Y.g b3)<|ii z) (.inr fun _ _ h=>o_<|h.1) ?_;rintro _ _ ⟨b4,b5,b6,b7,c0,b8,b9,ba,c1,rfl,c2,c3,c4,c5,c6,ab,hu⟩;refine dM z z z ?_
  iterate 3 refine dR z z (ext_ z z) ?_
  have ad:=m1 G.s;refine dE0 z (fs0 (cur':=[vI rr.number,sl b5 b6 b7,sl b8 b9 ba]) c_ z z ((aa.e s6).e b4) z z z z) (.inr fun _ _ h=>a_V (atp ad) h.2) ?_;rintro _ _ ⟨c7,c8⟩;have af:=c8.one;refine dQ z z z<|dQ z z z<|pD ?_
  have bb:=n_ (al_ hu) aa.lt s6.s;have bc:=lt_ (lt_ G.s hl.s) s6.s;have be:=n_ (ar_ hu) aa.lt s6.s;exact fun _ q=>⟨rr.number,rr.bytes,rr.items,bX,bY,som bo,b5,b6,b7,c0,b8,b9,ba,c1,aq.z,q.k<|s5 z z z z z,bM (bup (bup (bup G hl) s6) b4) af ad,c2,c3.c af bb,nl_ ab,h_ (al_ hu) bc,c4.c af be,nr_ ab,h_ (ar_ hu) bc,ds<|nj ab,c5,c6,c7,atp ad,bb,be⟩
 rintro c9 ws ⟨xb,xw,xx,xc,xd,rfl,ae,nf,cg,J,ah,ni,cj,L,O,_,sm,ca,cb,cc,bf,cd,ce,bg,cf,bh,ch,ci,_,_,_⟩;revert c9;refine Wo<|Wq<|Wq ?_
 obtain ⟨ck,am,an⟩:=bdS<|un5S bj;refine Wt (fun a w=>∃(ai:Bool),ai=ck/\Sat 32 [(4,pt wn.z),(7,pt O),(8,vI xc),(9,vI xd),(26,vB ai)] a/\Below ws.z ws w) ?_ ?_
 ·refine Wg<|Rm z<|Rq z z z<|Rm z ?_
  rcases bs (xd==0) with H | H
  ·exact Rh z H (mv z)<|Rh z H (mv z)<|Rh z H (lnR p_ z<|Y.g<|((h2.ag B).e h1).e sm)<|Rh z H (lss z z)<|R z (pT z H z)<|Wl (fun _ q=>⟨decide<|xc<(x2.length:Int),som<|ifT am H,q.k<|s5 z z z z z,br ws⟩)
  iterate 4 refine Nh z H ?_
  exact R z (pF z H z)<|Wl (fun _ q=>⟨false,som<|ifF am H,q.k<|s5 z z z z z,br ws⟩)
 rintro cl _ ⟨ai,rfl,_,sa⟩;revert cl;refine Wo<|Wc z (fun a0=>?_) (fun a0=>?_)
 ·refine Ws<|R z (bP (parts:=[]) (cs:=[vI 0,sl none 0 0,sl none 0 0]) J_ z z)<|Rm z<|E0 (fs0 (cur':=[vI 0,sl none 0 0,sl none 0 0]) c_ z z ((ho.e sm).e sa) z z z z) ?_
  rintro _ _ ⟨cm,cn⟩;refine Ra z<|Rw z ?_
  obtain rfl:=som<|ifT an a0;exact Wr<|A_ hr (y_ l_ c_ z cm z) z z ⟨bM (bup (bup (bup h2 h1) sm) sa) cn.one<|m1 h2.s,none,0,0,[],none,0,0,[],z,ii z,onL,onL,bh,ii z,nd0,al0⟩
 refine Wk<|Ws<|R z (lN (vs:=[vI xb,sl ae nf cg,sl ah ni cj]) l_ c_ z z fid<|(ci.e sa).row 0 3 z)<|RM z z<|E0 (fs0 (cur':=[vI xb,sl ae nf cg,sl ah ni cj]) c_ z z ((ho.e sm).e sa) z z z z) ?_
 rintro _ _ ⟨co,cp⟩;have aj:=cp.one;refine Ra z<|Rw z ?_
 obtain rfl:=som<|ifF an a0;have bi:=lt_ h2.s h1.s;exact Wr<|A_ hr (y_ l_ c_ z co z) z z ⟨bM (bup (bup (bup h2 h1) sm) sa) aj<|m1 h2.s,ae,nf,cg,J,ah,ni,cj,L,z,ca,(cb.e sa).c aj<|n_ bf ho.lt lr,(cd.e sa).c aj<|n_ bg ho.lt lr,bh,ch,na_ cc ce<|ds cf,aa_ (h_ bf bi)<|h_ bg bi⟩
theorem W_w38 {x1:Str}{x2:UInt8}{res:(List Str)}(hm:f_R x1 x2=some res)(aW:B<=w0.z)(L:x1.b.length<=LEN):k_ prog 147 [Str.v x1,vU<|byteI x2] w0 (Q2 w0 B res):=by
 unfold f_R at hm
 refine goG func147 z z z fun fn hr=>Ws<|Rw z<|Ws<|E z (f0 (α:=Str) b_L) ?_
 rintro _ H ⟨aj,ak,al,rfl,sk,am⟩;refine Rw z<|Ws<|Rw z<|Wq<|Ws<|Rw z ?_
 obtain ⟨_,a3,hmr⟩:=bdS hm;refine Wf (σ:=(List Str)×Int) (ρ:=List Str) (fun (kd:Nat) s a w=>un2 (fun V x5=>∃a2 I J G,Sat 35 [(0,Str.v x1),(1,vU<|byteI x2),(5,sl a2 I J),(6,vI x5),(7,vI ((kd:Nat):Int))] a/\Chg (· ∈ [w0.z]) H w/\a_ w G (sl a2 I J) V/\G.Nodup/\(∀k∈G,k∈[w0.z]∨H.z<=k)/\inI x5) s) (fun s a w=>un2 (fun V x5=>∃a2 I J G,Sat 35 [(0,Str.v x1),(5,sl a2 I J),(6,vI x5)] a/\Chg (· ∈ [w0.z]) H w/\a_ w G (sl a2 I J) V/\G.Nodup/\(∀k∈G,k∈[w0.z]∨H.z<=k)/\inI x5) s) (rQ prog fn<|Q2 w0 B) a3 ?_ ?_ ?_ ?_ ?_
 ·exact fun _ q=>⟨aj,ak,al,[w0.z],q.k<|s5 z z z z z,cr [w0.z] H,am,M_,io sr,ii z⟩
 ·rintro kd ⟨V,x5⟩ _ O _ hke ⟨a2,I,J,G,a4,ss,W,Y,hb,hf⟩ a5;refine Wu ?_ a4;refine Wq<|Wm z<|Rm z<|R z (lnT d_9 z)<|Rl z z z<|Wx z (fun _=>?_) (fun hc=>(U_ hke hc).elim)
  refine Wk<|Wq<|Wb<|Wm z<|Rm z ?_
  obtain ⟨_,eu,a6⟩:=bdS<|a_P a5;refine R z (c_d d_9 z z (a_o eu).1 (a_o eu).2.1)<|Rm z<|Rq z z z<|Wn ?_
  obtain ⟨an,huv,a7⟩:=bdS a6;refine Wt (fun a w=>∃(xg:List Str)(xc:Int),(xg,xc)=an/\∃ah ni cj Sa,Sat 35 [(0,Str.v x1),(1,vU<|byteI x2),(5,sl ah ni cj),(6,vI xc),(7,vI ((kd:Nat):Int))] a/\Chg (· ∈ G) O w/\a_ w Sa (sl ah ni cj) xg/\Sa.Nodup/\(∀k∈Sa,k∈G∨O.z<=k)/\inI xc) ?_ ?_
  ·refine Wc z (fun hcl=>?_)<|fun hcl=>?_
   ·refine Wm z<|RM z z<|Rm z ?_
    obtain ⟨ao,em,a8⟩:=bdS<|ifT huv hcl;refine R z (j_w d_9 z z z L em)<|E z (fS [(.tmp 24)] b_L z z z (a_Q z) (lb z)<|lb z) ?_
    rintro _ ww ⟨rfl,hn⟩;have ho:=hn.below;have aX:=b_a hn<|c_x<|f_l em L
    obtain ⟨ap,aq,a9⟩:=bdS a8;refine E z (b_g (α:=Str) b_L aq z z (W.e ho) Y (hn.blk:Blk ww O.z [Str.v ao]) (c_x<|f_l em L) an_ a_2) ?_;rintro _ ar ⟨Sx,au,av,aw,rfl,ax,ay,az,aA⟩;refine Rw z<|Wg<|Rm z<|R z (inc_ hke (lt_ L D_) z z)<|Ra z<|Wl ?_
    exact fun _ q=>⟨ap,((kd+1:Nat):Int),som a9,au,av,aw,Sx,q.k<|s5 z z z z z,(cM (C_ (cr G O) ho:Chg (· ∈ G) O ww) ax (io sr):Chg (· ∈ G) O ar),ay,az,(or2 aA (io sr) an_ (j_ ho.s):∀k∈Sx,k∈G∨O.z<=k),ic (Nat.succ_le_of_lt hke)<|lt_ L D_⟩
   exact a_h<|fun _ q=>⟨V,x5,som<|ifF huv hcl,a2,I,J,G,q.k<|s5 z z z z z,cr G O,W,Y,io sr,hf⟩
  rintro aB aC ⟨xg,xc,rfl,ah,ni,cj,Sa,_,aD,aE,aF,aG,aH⟩;revert aB;refine Wo<|Wg<|Rm z<|R z (inc_ hke (lt_ L D_) z z)<|Ra z<|Wl ?_
  have hy:∀k∈G,k∈[w0.z]∨H.z<=k:=or1 hb (io sr)<|j_ lr;exact fun _ q=>⟨(xg,xc),(som<|a_P a7).symm,⟨ah,ni,cj,Sa,q.k<|s5 z z z z z,(cM (cM (cr [w0.z] H) ss (io sr):Chg (· ∈ [w0.z]) H O) aD hy:Chg (· ∈ [w0.z]) H aC),aE,aF,(or1 aG hy (j_ ss.s):∀k∈Sa,k∈[w0.z]∨H.z<=k),aH⟩⟩
 ·rintro ⟨V,x5⟩ _ aI ⟨a2,I,J,G,aa,aJ,W,Y,hb,hf⟩;refine Wu ?_ aa;refine Wq<|Wm z<|Rm z<|R z (lnT d_9 z)<|Rl z z z<|Wx z (fun hc=>(V_ hc).elim) (fun _=>?_)
  exact We<|fun _ q=>⟨rfl,⟨a2,I,J,G,q.k<|s3 z z z,(cM (cr [w0.z] H) aJ (io sr):Chg (· ∈ [w0.z]) H aI),W,Y,(or1 hb (io sr) (j_ lr):∀k∈G,k∈[w0.z]∨H.z<=k),hf⟩⟩
 ·rintro ⟨V,x5⟩ aK aL rfl ⟨a2,I,J,G,_,sz,W,Y,hb,hf⟩;have ab:=elL hmr;revert aK;refine Wo<|Wm z<|RM z z ?_
  obtain ⟨aM,ep,ad⟩:=bdS<|a_P ab;refine R z (j_w d_9 z z z L ep)<|E z (fS [(.tmp 32)] b_L z z z (a_Q z) (lb z)<|lb z) ?_
  rintro _ aN ⟨rfl,hq⟩;have ht:=hq.below;have aY:=b_a hq<|c_x<|f_l ep L
  obtain ⟨_,aO,ae⟩:=bdS ad;refine E z (b_g (α:=Str) b_L aO z z (W.e ht) Y (hq.blk:Blk aN aL.z [Str.v aM]) (c_x<|f_l ep L) an_ a_2) ?_;rintro _ _ ⟨a0,aP,aQ,aR,rfl,aS,aT,aU,aV⟩;refine Rw z ?_
  obtain rfl:=som ae;have a1:∀k∈G,w0.z<=k:=or1 hb (e_ lr)<|b_4 sk.s;exact Wr<|d_ hr z ⟨bM (bup (bM sk sz<|e_ lr) ht) aS a1,aP,aQ,aR,a0,z,aT,aU,(or2 aV a1 an_ (b_4<|lt_ (lt_ sk.s sz.s) ht.s):∀k∈a0,w0.z<=k)⟩
 rintro _ _ _ _ rfl ⟨rfl,af⟩;have ai:=elR hmr;obtain rfl:=som ai;exact ⟨af,z⟩
theorem W_w1v {x1:Str}{res:Int×Bool}(hm:e_j x1=some res)(af:B<=w0.z)(Y:x1.b.length<=LEN):k_ prog 136 [Str.v x1] w0 (Q14 w0 B res):=by
 unfold e_j at hm
 refine goG func136 z z z fun fn hr=>Ws<|Ra z<|Rw z<|Wq<|Wq ?_
 obtain ⟨uv,huf,hmg⟩:=bdS hm;refine Wt (fun a w=>∃(W:Bool),W=uv/\Sat 50 [(0,Str.v x1),(22,vB W)] a/\Below w0.z w0 w) ?_ ?_
 ·refine Wg<|Rm z<|R z (b_y z z)<|Rm z ?_
  rcases bs (x1.b==(⟨[]⟩:Str).b) with I | I
  ·iterate 3 refine Nh z I ?_
   exact R z (pT z I z)<|Rm z<|Nh z z<|Nh z z<|Nh z z<|Nh z z<|Nv z<|Nv z<|Nv z<|Nh z z<|R z (pT z z z)<|Wl (fun _ q=>⟨true,som<|ifT huf I,q.k<|s2 z z,br w0⟩)
  have hmh:=ifF huf I;refine Rh z I (mv z)<|Rh z I (lnT d_9 z)<|Rh z I (a_z z z)<|R z (pF z I z)<|Rm z ?_
  rcases bs (decide<|13<(x1.b.length:Int)) with G | G
  ·iterate 4 refine Nh z G ?_
   exact Nv z<|Nv z<|Nv z<|Nh z G<|R z (pT z G z)<|Wl (fun _ q=>⟨true,som<|ifT hmh G,q.k<|s2 z z,br w0⟩)
  refine Rh z G (mv z) ?_;obtain ⟨xw,ei,hmj⟩:=bdS<|ifF hmh G;refine Rh z G (c_d d_9 z z (a_o ei).1 (a_o ei).2.1)<|Rh z G (eql z z)<|Rh z G (mv z) ?_
  rcases bs ((byteI xw)==(byteI (48:UInt8))) with J | J
  ·exact Rh z J (mv z)<|Rh z J (lnT d_9 z)<|Rh z J (a_z z z)<|Rh z G (pT z J z)<|R z (pF z G z)<|Wl (fun _ q=>⟨decide<|1<(x1.b.length:Int),som<|ifT hmj J,q.k<|s2 z z,br w0⟩)
  iterate 3 refine Nh z J ?_
  exact Rh z G (pF z J z)<|R z (pF z G z)<|Wl (fun _ q=>⟨false,som<|ifF hmj J,q.k<|s2 z z,br w0⟩)
 rintro ax L ⟨W,rfl,_,s6⟩;revert ax;refine Wo<|Wc z (fun hca=>?_) (fun hca=>?_)
 ·refine Ws<|Ra z<|Rw z ?_
  obtain rfl:=som<|ifT hmg hca;exact Wr<|a_9 hr z z ⟨s6,z,ii z⟩
 refine Wk<|Ws<|Rw z<|Wq<|Ws<|Rw z ?_
 obtain ⟨_,huy,hmk⟩:=bdS<|ifF hmg hca;refine Wf (σ:=Int) (ρ:=Int×Bool) (fun (kb:Nat)(x2:Int) a w=>Sat 50 [(0,Str.v x1),(4,vI x2),(5,vI ((kb:Nat):Int))] a/\Below L.z L w/\inI x2) (fun (x2:Int) a w=>Sat 50 [(4,vI x2)] a/\Below L.z L w/\inI x2) (rQ prog fn<|Q14 w0 B) huy ?_ ?_ ?_ ?_ ?_
 ·exact fun _ q=>⟨q.k<|s3 z z z,br L,ii z⟩
 ·rintro kb x2 _ O _ hkl ⟨hSz,sm,V⟩ a0;refine Wu ?_ hSz;refine Wq<|Wm z<|Rm z<|R z (lnT d_9 z)<|Rl z z z<|Wx z (fun _=>?_) (fun hc=>(U_ hkl hc).elim)
  refine Wk<|Wq<|Wb<|Wq<|Wq ?_
  obtain ⟨a7,a1,hmn⟩:=bdS a0;refine Wt (fun a w=>∃(xc:Bool),xc=a7/\Sat 50 [(0,Str.v x1),(4,vI x2),(5,vI ((kb:Nat):Int)),(38,vB xc)] a/\Below O.z O w) ?_ ?_
  ·refine Wg<|RM z z ?_
   obtain ⟨a8,eo,hmp⟩:=bdS a1;refine R z (c_d d_9 z z (a_o eo).1 (a_o eo).2.1)<|Rl z z z<|Rm z ?_
   rcases bs (decide<|(byteI a8)<(byteI (48:UInt8))) with H | H
   ·iterate 4 refine Nh z H ?_
    exact R z (pT z H z)<|Wl (fun _ q=>⟨true,som<|ifT hmp H,q.k<|s4 z z z z,br O⟩)
   refine Rh z H (mv z)<|Rh z H (mv z) ?_
   obtain ⟨a9,eq,a2⟩:=bdS<|ifF hmp H;exact Rh z H (c_d d_9 z z (a_o eq).1 (a_o eq).2.1)<|Rh z H (a_z z z)<|R z (pF z H z)<|Wl (fun _ q=>⟨decide<|(byteI (57:UInt8))<(byteI a9),som a2,q.k<|s4 z z z z,br O⟩)
  rintro aa _ ⟨xc,rfl,_,sr⟩;revert aa;refine Wo<|Wc z (fun hcd=>?_) (fun hcd=>?_)
  ·exact Ws<|Ra z<|Rw z<|Wr<|rtO<|qL (som<|ifT hmn hcd).symm<|a_9 hr z z ⟨bup (bup s6 sm) sr,z,ii z⟩
  refine Wk<|Wg<|Rm z<|R z (e_M z z)<|RM z z ?_
  obtain ⟨ab,es,a3⟩:=bdS<|ifF hmn hcd;exact R z (c_d d_9 z z (a_o es).1 (a_o es).2.1)<|R z (l_q z z)<|R z (c_w d_5 d_3 z)<|R z (add_ z z)<|Rw z<|Wg<|Rm z<|R z (inc_ hkl (lt_ Y D_) z z)<|Ra z<|Wl (fun _ q=>⟨i_ (a_m 10 x2)<|byteI<|mkB (byteI ab - byteI (48:UInt8)),(som a3).symm,⟨q.k<|s3 z z z,bup sm sr,iA _ _⟩⟩)
 ·rintro x2 _ _ ⟨a4,ad,V⟩;refine Wu ?_ a4;refine Wq<|Wm z<|Rm z<|R z (lnT d_9 z)<|Rl z z z<|Wx z (fun hc=>(V_ hc).elim) (fun _=>?_)
  exact We<|fun _ q=>⟨rfl,⟨q.k<|s1 z,ad,V⟩⟩
 ·rintro x2 ae _ rfl ⟨_,st,V⟩;have hmu:=elL hmk;revert ae;refine Wo<|Wq<|Wm z<|R z (a_z z z)<|Wx z (fun hce=>?_) (fun hce=>?_)
  ·refine Ws<|Ra z<|Rw z ?_
   obtain rfl:=som<|ifT hmu hce;exact Wr<|a_9 hr z z ⟨bup s6 st,z,ii z⟩
  refine Wk<|Wm z<|Ra z<|Rw z ?_
  obtain rfl:=som<|ifF hmu hce;exact Wr<|a_9 hr z z ⟨bup s6 st,z,V⟩
 rintro _ _ _ _ rfl ⟨rfl,a5⟩;have a6:=elR hmk;obtain rfl:=som a6;exact ⟨a5,z⟩
theorem W_w39 {x1:Str}{res:Bool}(hm:f_8 n x1=some res)(O:B<=w0.z)(L:x1.b.length<=LEN):k_ prog 110 [Str.v x1] w0 (Q9 w0 B res):=by
 unfold f_8 at hm
 refine goG func110 z z z fun fn hr=>Ws<|Rw z<|Wq<|Wq ?_
 obtain ⟨ub,huc,V⟩:=bdS hm;refine Wt (fun a w=>∃(x4:Bool),x4=ub/\Sat 25 [(0,Str.v x1),(18,vB x4)] a/\Below w0.z w0 w) ?_ ?_
 ·refine Wg<|Rm z ?_
  obtain ⟨rd,ee,W⟩:=bdS huc;refine E z (fc call135 z<|k_D (B:=B) ee O L) ?_;rintro _ _ ⟨s3,rfl⟩;refine Rm z ?_
  rcases bs rd with G | G
  ·exact Nh z G<|Nh z G<|R z (pT z G z)<|Rm z<|Nh z z<|Nh z z<|R z (pT z z z)<|Rm z<|Nh z z<|Nh z z<|R z (pT z z z)<|Wl (fun _ q=>⟨true,som<|ifT W G,q.k<|s2 z z,s3⟩)
  have Y:=ifF W G;refine Rh z G (mv z)<|Rh z G (b_y z z)<|R z (pF z G z)<|Rm z ?_
  rcases bs (x1.b==(⟨[42]⟩:Str).b) with H | H
  ·exact Nh z H<|Nh z H<|R z (pT z H z)<|Rm z<|Nh z z<|Nh z z<|R z (pT z z z)<|Wl (fun _ q=>⟨true,som<|ifT Y H,q.k<|s2 z z,s3⟩)
  have hma:=ifF Y H;refine Rh z H (mv z)<|Rh z H (b_y z z)<|R z (pF z H z)<|Rm z ?_
  rcases bs (x1.b==(⟨[63]⟩:Str).b) with I | I
  ·exact Nh z I<|Nh z I<|R z (pT z I z)<|Wl (fun _ q=>⟨true,som<|ifT hma I,q.k<|s2 z z,s3⟩)
  exact Rh z I (mv z)<|Rh z I (b_y z z)<|R z (pF z I z)<|Wl (fun _ q=>⟨x1.b==(⟨[43]⟩:Str).b,som<|ifF hma I,q.k<|s2 z z,s3⟩)
 rintro af _ ⟨x4,rfl,_,s5⟩;revert af;refine Wo<|Wc z (fun J=>?_) (fun J=>?_)
 ·refine Ws<|Rw z ?_
  obtain rfl:=som<|ifT V J;exact Wr<|d_ hr z ⟨s5,z⟩
 refine Wk<|Wm z ?_
 obtain ⟨_,_,eg,hmh⟩:=a_n<|ifF V J;refine E z (fc call136 z<|W_w1v eg (zt' O s5.s) L) ?_;rintro _ _ ⟨si,rfl,_⟩;refine Rm z<|Re z z z<|Re z z z<|Ra z<|Rw z<|Wm z<|Rw z ?_
 obtain rfl:=som hmh;exact Wr<|d_ hr z ⟨bup s5 si,z⟩
def Q25 (w0:World)(B:Zone)(r:(List Str)×Bool)(v:Value)(w':World):Prop:=Bw w0 w'/\un2 (fun J L=>∃(G:Option Addr)(H I:Nat)(S1:List Nat),v = .tuple #[(sl G H I),(vB L)]/\a_ w' S1 (sl G H I) J/\S1.Nodup/\(∀k∈S1,w0.heap.size<=k)) r
theorem r_B {w:World}{gp b:Nat}{s:Str}{l0 parts:List Str}(hs:s.b.length<=LEN)(hm:f_R s (47:UInt8)=some l0)(hsl:slc l0 1 (l0.length:Int)=some parts)(hp:Blk w gp [Str.v s])(hb:b<w.heap.size)(hrow:∀g,c_Q w b g->g<w.heap.size) :
    SeqStopsK (α:={x:Str // x∈parts/\x.b.length<=LEN}) Fence.wide 1 Tryz.prog 146 [pt gp].toArray (fun x=>#[x.1.v]) (KpS b) (fun xs=>xs.map (·.1)=parts) (fun _=>True) parts.length w:=by
  intro l J Jx W hW hJ hJx hY h0;have hpW:=hp.ext hW
  have hrowW:∀g,c_Q W b g->g<W.heap.size:=fun g ⟨n,c,h⟩=>by
    have h':w.cell? ⟨b,0,none⟩=some (sl (some ⟨g,0,none⟩) n c):=(World.cell?_of_block (w:=w) (w':=W) (a:=⟨b,0,none⟩)<|hW.block b hb).symm.trans h;exact Nat.lt_of_lt_of_le (hrow g ⟨n,c,h'⟩) hW.size
  have hbW:=Nat.lt_of_lt_of_le hb hW.size
  have hc:k_ Tryz.prog 146 [.func (.yield l) #[] #[],pt gp] W (fun _ W'=>(∃xs:List {x:Str // x∈parts/\x.b.length<=LEN},xs.map (·.1)=parts/\J xs W')∨(∃pre,True/\Jx pre W')):=by
    obtain ⟨fn,hf,hbd,hN,hr⟩:=fnE Tryz.func146;refine e_J hf (hbd.trans rfl) (hN.trans rfl) (Nat.le_of_ble_eq_true rfl) ?_;refine O_<|a_b ?_;refine R rfl (c_c g_9 rfl (fun h=>h)<|hpW.at rfl) ?_;refine E rfl (b_e Tryz.call147 rfl<|W_w38 (B:=W.heap.size) hm zr hs) ?_;rintro _ W1 ⟨s1,a1,n1,c1,S1,rfl,ho,nd,hge⟩;refine RX rfl (r_U Q_ z_9 rfl ho rfl rfl hsl) ?_;intro v7 hv7;obtain ⟨ao7,c7,rfl,_⟩:=id hv7;refine R rfl (g_b Q_ rfl<|hv7.repS (B:=W1.heap.size)<|fun k hk=>ho.lt k hk) ?_;refine R rfl (a_c rfl) ?_;refine a_0<|WC.of_KC ?_;have hJ1:J [] W1:=hJ [] W W1 none h0 (Below.grows s1) (fun r h=>by cases h);have hb1:b∉S1:=fun h=>absurd (hge b h)<|Nat.not_le.2 hbW
    have hr1:∀g,c_Q W1 b g->g∉S1:=fun g ⟨n,c,h⟩ hg=>by
      have h':W.cell? ⟨b,0,none⟩=some (sl (some ⟨g,0,none⟩) n c):=(World.cell?_of_block (w:=W) (w':=W1) (a:=⟨b,0,none⟩)<|s1.block b hbW).symm.trans h;exact absurd (hge g hg)<|Nat.not_le.2<|hrowW g ⟨n,c,h'⟩
    have hlenL:parts.length<=9223372036854775807:=Nat.le_trans (by obtain ⟨_,_,_,_,h,_⟩:=hv7;exact h) D_;refine d_H fun a ha=>?_
    refine Code.wp_mono (Q:=Exit.then noK<|fun ex a w=>(ex = .exit 0/\b_S Tryz.prog fn (fun _ W'=>(∃xs:List {x:Str // x∈parts/\x.b.length<=LEN},xs.map (·.1)=parts/\J xs W')∨(∃pre,True/\Jx pre W')) a w)∨(ex = .ret/\b_S Tryz.prog fn (fun _ W'=>(∃xs:List {x:Str // x∈parts/\x.b.length<=LEN},xs.map (·.1)=parts/\J xs W')∨(∃pre,True/\Jx pre W')) a w)) (fun ex a' w' q=>?_)<|wp_loop_ghost (fun m a w=>∃(k:Nat)(pre:List {x:Str // x∈parts/\x.b.length<=LEN}),k+m=parts.length/\pre.map (·.1)=parts.take k/\Sat 18 [(9,vI (k:Int)),(8,vI (parts.length:Int)),(7,sl ao7 parts.length c7),(0,.func (.yield l) #[] #[])] a/\J pre w/\a_ w S1 (sl a1 n1 c1) l0/\(∀g,c_Q w b g->g∉S1)/\d_D w (· ∈ S1) (sl ao7 parts.length c7) parts) parts.length ?_ ?_
    · cases ex with
      | normal=>exact (show False from q).elim
      | exit i =>
        rcases q with ⟨h,q⟩ | ⟨h,_⟩
        · cases h;exact q
        · cases h
      | ret =>
        rcases q with ⟨h,_⟩ | ⟨_,q⟩
        · cases h
        · exact q
      | _=>rcases q with ⟨h,_⟩ | ⟨h,_⟩ <;> cases h
    · exact ⟨0,[],by omega,by simp,ha.weaken<|sc rfl<|sc rfl<|sc rfl<|sc rfl sn,hJ1,ho,hr1,hv7⟩
    · rintro m a w ⟨k,pre,hkm,hpre,hsat,hJw,how,hrw,hvw⟩
      refine f_q (N:=18) (e:=[(9,vI (k:Int)),(8,vI (parts.length:Int)),(7,sl ao7 parts.length c7),(0,.func (.yield l) #[] #[])]) ?_ hsat;refine O_<|a_b<|R rfl (d_Z rfl rfl)<|a_0<|WC.of_KC ?_;refine O_<|b_F rfl (fun hc=>?_)<|fun hc=>?_
      · have hk:k<parts.length:=by simpa using hc
        obtain ⟨m,rfl⟩:∃m',m=m'+1:=⟨m - 1,by omega⟩;refine a_h<|WC.of_KC ?_;refine O_<|d_H ?_;refine O_<|a_b ?_;have hrep:=hvw.repS (B:=w.heap.size)<|fun k hk=>how.lt k hk;have hidx:idx parts (k:Int)=some parts[k]:=by rw [l_m];simp [hk]
        refine RX rfl (g_c (α:=Str) Q_ z_9 rfl rfl rfl hrep hidx) ?_;rintro _ ⟨bb,oo,cs,rfl,hc1,hrr,hlt⟩;obtain ⟨rfl,hxl⟩:=b_9 hrr;refine R rfl (c_c g_9 rfl (fun h=>h)<|hc1.at0 rfl) ?_;refine R rfl (a_y rfl) ?_;refine a_0<|WC.of_KC ?_;refine O_<|r_N ?_;refine i_R rfl (a_c rfl) ?_;refine i_R rfl (a_c rfl) ?_
        have hpl:pre.length=k:=by
          have:=congrArg List.length hpre
          simp at this;omega
        refine r_O (S:=fun v w'=>(v=vB true/\J (pre++[⟨parts[k],List.getElem_mem hk,hxl⟩]) w'/\KpS b w w')∨(v=vB false/\Jx (pre++[⟨parts[k],List.getElem_mem hk,hxl⟩]) w')) rfl rfl rfl (hY pre ⟨parts[k],List.getElem_mem hk,hxl⟩ w hJw (by omega)) (fun e w' h=>?_) ?_
        · rcases h with ⟨rfl,h⟩ | ⟨rfl,h⟩
          · exact ⟨_,rfl,.inl ⟨rfl,h⟩⟩
          · exact ⟨_,rfl,.inr ⟨rfl,h⟩⟩
        rintro v w' (⟨rfl,hJ',hK⟩ | ⟨rfl,hX⟩)
        · refine i_R rfl (d_7 rfl) ?_
          refine n_m<|WC.of_KC ?_;refine b_F rfl (fun h=>by cases h)<|fun _=>?_;refine a_h<|WC.of_KC ?_;refine a_b<|R rfl (g_7 hk hlenL rfl rfl)<|R rfl (a_c rfl) ?_;obtain ⟨ho',hr'⟩:=hK.own how hb1 hrw
          have hv':d_D w' (· ∈ S1) (sl ao7 parts.length c7) parts:=hvw.stay fun g hg=>hK.chg.block g (how.lt g hg) fun hm=>by
            rcases hm with rfl | hm | ⟨o,ho2,hcl⟩
            · exact hb1 hg
            · exact hrw g hm hg
            · obtain ⟨cur,hB⟩:=f_I how g hg
              rw [hB.isCells ho2] at hcl;cases hcl
          refine a_0 fun a' ha'=>⟨m,Nat.lt_succ_self _,k+1,pre++[⟨parts[k],List.getElem_mem hk,hxl⟩],by omega,?_,ha'.weaken<|sc rfl<|sc rfl<|sc rfl<|sc rfl sn,hJ',ho',hr',hv'⟩
          rw [List.map_append,hpre,List.take_add_one,List.getElem?_eq_getElem hk];rfl
        · refine i_R rfl (d_7 rfl) ?_
          refine n_m<|WC.of_KC ?_;refine b_F rfl (fun _=>?_) (fun h=>by cases h);exact b_E<|rtO fun a' ha'=>.inr ⟨rfl,e_K hr (.inr ⟨_,trivial,hX⟩) a' ha'⟩
      · have hk:¬k<parts.length:=by simpa using hc
        have:k=parts.length:=by omega
        subst this;refine g_1 fun a' ha'=>.inl ⟨rfl,e_K hr (.inl ⟨pre,?_,hJw⟩) a' ha'⟩
        rw [hpre,List.take_length]
  refine callsIn_wide.2<|hc.run.mono fun e w' ⟨v,he,h⟩=>⟨⟨v,he⟩,h⟩
theorem n_e {w0 W W':World}{row:Option Nat}(h:Below w0.heap.size w0 W)(hg:W.grownBy W' row)(hr:∀r,row=some r->w0.heap.size<=r):Below w0.heap.size w0 W':=b_v h (k_Y hg) fun k hk e=>absurd (hr k e)<|Nat.not_le.2 hk
def r_C (w0:World)(s:Str)(v:Value)(w':World):Prop:=v = .func (.func 146) #[] #[pt w0.heap.size]/\Blk w' w0.heap.size [Str.v s]/\Bw w0 w'
theorem r_D {w0:World}{s:Str}:k_ Tryz.prog 134 [Str.v s] w0 (r_C w0 s):=by
  obtain ⟨_,hf,hb,hN,hr⟩:=fnE Tryz.func134;refine e_J hf (hb.trans rfl) (hN.trans rfl) (Nat.le_of_ble_eq_true rfl) ?_;refine O_<|a_b ?_;refine E rfl (c_v rfl) ?_;rintro _ G ⟨rfl,h1⟩;refine R rfl (a_y rfl) ?_;refine a_0<|WC.of_KC ?_;refine O_<|a_b ?_;refine R rfl (h_O rfl) ?_;refine R rfl (a_y rfl) ?_;refine a_0<|WC.of_KC ?_;exact b_E<|d_ hr rfl ⟨rfl,(h1.blk:Blk G w0.heap.size [Str.v s]),h1.below⟩
theorem W_w3a {n:Nat}{B:Zone}{x1:Str}{res:(List Str)×Bool}{w0:World}(hm:i_W n x1=some res)(hBw:B<=w0.heap.size)(p1_0:x1.b.length<=LEN):k_ Tryz.prog 109 [(Str.v x1),.func (.func 110) #[] #[]] w0 (Q25 w0 B res):=by
  unfold i_W at hm
  obtain ⟨fn,hf,hb,hN,hr⟩:=fnE Tryz.func109;refine r_R hf (hb.trans rfl) (hN.trans rfl) (Nat.le_of_ble_eq_true rfl) ?_
  -- the cells
  refine O_<|a_b ?_;refine E rfl (c_v rfl) ?_;rintro _ w1 ⟨rfl,h1⟩;have b3:Blk w1 w0.heap.size [.func (.func 110) #[] #[]]:=h1.blk;refine E rfl (d_p n_6) ?_;rintro _ w2 ⟨rfl,h2⟩;have b4:Blk w2 w1.heap.size [.slice none 0 0]:=h2.blk;refine E rfl (d_p zero_4) ?_;rintro _ w3 ⟨rfl,h3⟩;have b5:Blk w3 w2.heap.size [vB false]:=h3.blk;refine a_0<|WC.of_KC ?_;refine O_<|a_b ?_;refine E rfl (g_d (α:=Str) b_L) ?_;rintro _ w4 ⟨a,m,c,rfl,s4,ho4⟩;refine E rfl (d_p n_6) ?_;rintro _ w5 ⟨rfl,h5⟩;have b6:Blk w5 w4.heap.size [.slice none 0 0]:=h5.blk;refine E0 (a_X (cur':=[.slice a m c]) f_0 rfl rfl b6 rfl (Nat.le_of_ble_eq_true rfl) (b_3 rfl) rfl) ?_;rintro _ w6 ⟨c6,s6⟩;have t6:=s6.one;refine a_0<|WC.of_KC ?_
  -- what is known behind
  have g1:=h1.below;have g2:=h2.below;have g3:=h3.below;have g5:=h5.below;have z1:=h1.size;have z2:=h2.size;have z3:=h3.size;have z5:=h5.size;have z4:=s4.size;have z6:=s6.size
  have hz:w0.heap.size<w1.heap.size/\w1.heap.size<w2.heap.size/\w2.heap.size<w3.heap.size/\w3.heap.size<w4.heap.size/\w4.heap.size<w6.heap.size:=by
    have:=ho4.lt _ List.mem_cons_self
    omega
  have k3:Blk w6 w0.heap.size [.func (.func 110) #[] #[]]:=((((b3.ext g2).ext g3).ext s4).ext g5).chg s6 (by omega);have k4:Blk w6 w1.heap.size [.slice none 0 0]:=(((b4.ext g3).ext s4).ext g5).chg s6 (by omega);have k5:Blk w6 w2.heap.size [vB false]:=((b5.ext s4).ext g5).chg s6 (by omega);have kS:a_ w6 [w3.heap.size] (sl a m c) ([]:List Str):=(ho4.ext g5).chg s6 (fun k hk=>by have:=List.mem_singleton.1 hk;omega);have kB:Below w0.heap.size w0 w6:=d_O (bup (bup (bup (bup g1 g2) g3) s4) g5) t6 (fun k hk=>by have:=List.mem_singleton.1 hk;omega)
  clear b3 b4 b5 b6 ho4 h1 h2 h3 h5 s4 s6 t6 g1 g2 g3 g5 z1 z2 z3 z4 z5 z6
  -- the first look
  refine O_<|O_<|a_b ?_;refine R rfl (a_c rfl) ?_;refine R rfl (b_y rfl rfl) ?_;refine a_0<|WC.of_KC ?_;refine b_F rfl (fun hc=>?_)<|fun hc=>?_
  · obtain rfl:=som (ifT hm hc)
    refine O_<|a_b ?_;refine R rfl (c_c a_T rfl (fun h=>h)<|c6.at rfl) ?_;refine E0 (a_X (cur':=[.slice a m c]) f_0 rfl rfl k4 rfl (Nat.le_of_ble_eq_true rfl) (b_3 rfl) rfl) ?_;rintro _ w7 ⟨c7,s7⟩;refine E0 (a_X (cur':=[vB true]) z_4 rfl rfl (k5.chg s7 (by omega)) rfl (Nat.le_of_ble_eq_true rfl) (b_3 rfl) rfl) ?_;rintro _ w8 ⟨c8,s8⟩;refine a_0<|WC.of_KC ?_;refine b_E fun a' ha'=>retM<|a_9 hr (d_Q (n:=1) a_T rfl<|c7.chg s8 (by omega)) (d_Q (n:=1) g_4 rfl c8) ⟨d_O (d_O kB s7.one (fun k hk=>by have:=List.mem_singleton.1 hk;omega)) s8.one (fun k hk=>by have:=List.mem_singleton.1 hk;omega),?_⟩ a' ha'
    exact ⟨a,m,c,_,rfl,(kS.chg s7 (fun k hk=>by have:=List.mem_singleton.1 hk;omega)).chg s8 (fun k hk=>by have:=List.mem_singleton.1 hk;omega),(by simp),fun k hk=>by have:=List.mem_singleton.1 hk;omega⟩
  replace hm:=ifF hm hc;refine a_h<|WC.of_KC ?_
  -- the first byte
  refine O_<|O_<|a_b ?_;refine R rfl (a_c rfl) ?_;obtain ⟨x13,e13,hm⟩:=bdS hm;refine R rfl (c_d d_9 rfl rfl (a_o e13).1 (a_o e13).2.1) ?_;refine R rfl (i_d rfl rfl) ?_;refine a_0<|WC.of_KC ?_;refine b_F rfl (fun hc=>?_)<|fun hc=>?_
  · obtain rfl:=som (ifT hm hc)
    refine O_<|a_b ?_;refine R rfl (c_c a_T rfl (fun h=>h)<|c6.at rfl) ?_;refine E0 (a_X (cur':=[.slice a m c]) f_0 rfl rfl k4 rfl (Nat.le_of_ble_eq_true rfl) (b_3 rfl) rfl) ?_;rintro _ w7 ⟨c7,s7⟩;refine E0 (a_X (cur':=[vB false]) z_4 rfl rfl (k5.chg s7 (by omega)) rfl (Nat.le_of_ble_eq_true rfl) (b_3 rfl) rfl) ?_;rintro _ w8 ⟨c8,s8⟩;refine a_0<|WC.of_KC ?_;refine b_E fun a' ha'=>retM<|a_9 hr (d_Q (n:=1) a_T rfl<|c7.chg s8 (by omega)) (d_Q (n:=1) g_4 rfl c8) ⟨d_O (d_O kB s7.one (fun k hk=>by have:=List.mem_singleton.1 hk;omega)) s8.one (fun k hk=>by have:=List.mem_singleton.1 hk;omega),?_⟩ a' ha'
    exact ⟨a,m,c,_,rfl,(kS.chg s7 (fun k hk=>by have:=List.mem_singleton.1 hk;omega)).chg s8 (fun k hk=>by have:=List.mem_singleton.1 hk;omega),(by simp),fun k hk=>by have:=List.mem_singleton.1 hk;omega⟩
  replace hm:=ifF hm hc;refine a_h<|WC.of_KC ?_;obtain ⟨l0,hsp,hm⟩:=bdS hm;obtain ⟨parts,hsl,hm⟩:=bdS hm;obtain ⟨oks,hok,hm⟩:=bdS hm
  split at hm
  case isFalse=>cases hm
  rename_i hlim
  obtain rfl:=som hm;obtain ⟨hacc,hall⟩:=n_s hok
  -- the loop
  refine O_<|O_<|a_b ?_;refine R rfl (a_c rfl) ?_;refine E rfl (b_e Tryz.call134 rfl r_D) ?_;rintro _ w7 ⟨rfl,bp,s7⟩;refine a_0<|WC.of_KC ?_;replace k3:=k3.ext s7;replace k4:=k4.ext s7;replace k5:=k5.ext s7;replace c6:=c6.ext s7;replace kS:=kS.ext s7;replace kB:=bup kB<|s7.mono<|Nat.le_refl _;have z7:=s7.size
  have hrow:∀g,c_Q w7 w4.heap.size g->g<w7.heap.size:=fun g hg=>by
    have h1:=n_p c6 hg;exact kS.lt _<|(i_S kS).2 g 0 none h1
  generalize w1.heap.size=q4 at *
  generalize w2.heap.size=q5 at *
  generalize w4.heap.size=q6 at *
  refine r_S (α:={x:Str // x∈parts/\x.b.length<=LEN}) (f:=fun x=>x.1) (gf:=146) (lb:=[pt w6.heap.size]) (b:=q6) (M:=parts.length) (S:=fun xs=>xs.map (·.1)=parts) (Sp:=fun _=>True) rfl Tryz.call146 rfl rfl (by omega)
    (r_B p1_0 hsp hsl bp (by omega) hrow)
    (fun pre W=>(∀x∈pre,(f_8 n x.1).getD false=true)/\(∃(a:Option Addr)(m c:Nat)(S:List Nat),Blk W q6 [.slice a m c]/\a_ W S (sl a m c) (pre.map (·.1))/\S.Nodup/\(∀k∈S,q5<k/\k ≠ q6))/\Blk W w0.heap.size [.func (.func 110) #[] #[]]/\Blk W q4 [.slice none 0 0]/\Blk W q5 [vB false]/\Below w0.heap.size w0 W)
    (fun pre W=>(∃x∈pre,(f_8 n x.1).getD false=false)/\(∃(a:Option Addr)(m c:Nat)(S:List Nat),Blk W q4 [.slice a m c]/\a_ W S (sl a m c) ([]:List Str)/\S.Nodup/\(∀k∈S,w0.heap.size<=k))/\Blk W q5 [vB false]/\Below w0.heap.size w0 W)
    ?_ ?_ ?_ ?_ ?_ ?_
  · rintro pre W W' row ⟨h1,⟨a,m,c,S,h2,h3,h4,h5⟩,h6,h7,h8,h9⟩ hg hr
    have hr':=fun r e=>(hr r e).2
    exact ⟨h1,⟨a,m,c,S,h2.grown hg hr',n_r h3 hg hr',h4,h5⟩,h6.grown hg hr',h7.grown hg hr',h8.grown hg hr',n_e h9 hg fun r e=>Nat.le_trans (by omega) (hr r e).1⟩
  · rintro pre W W' row ⟨h1,⟨a,m,c,S,h2,h3,h4,h5⟩,h8,h9⟩ hg hr
    have hr':=fun r e=>(hr r e).2
    exact ⟨h1,⟨a,m,c,S,h2.grown hg hr',n_r h3 hg hr',h4,h5⟩,h8.grown hg hr',n_e h9 hg fun r e=>Nat.le_trans (by omega) (hr r e).1⟩
  · exact ⟨fun x hx=>(by cases hx),⟨a,m,c,_,c6,kS,(by simp),fun k hk=>by have:=List.mem_singleton.1 hk;omega⟩,k3,k4,k5,kB⟩
  · rintro l pre ⟨x,hx,hxl⟩ W ⟨h1,⟨a,m,c,S,h2,h3,h4,h5⟩,h6,h7,h8,h9⟩ hlt
    refine r_M<|k_X<|k_X<|k_W rfl (fun _ _ h=>by cases h.1) ?_;refine R rfl (c_c g_91 rfl (fun h=>h)<|h6.at rfl) ?_;refine R rfl (a_c rfl) ?_;refine E rfl (d_L (caps:=[]) Tryz.call110 rfl rfl<|W_w39 (hacc x hx) zr hxl) ?_;rintro _ W1 ⟨s1,rfl⟩;refine R rfl (d_7 rfl) ?_;refine a_0<|WCI.of_KC ?_;have y1:=s1.size;have hq6:=h2.lt;have hw0.heap.size:=h6.lt;have hq4:=h7.lt;have hq5:=h8.lt;refine r_J rfl (fun hc=>?_)<|fun hc=>?_
    · refine k_X (k_W rfl (fun _ _ h=>by cases h.1) ?_)
      refine E rfl (g_d (α:=Str) b_L) ?_;rintro _ W2 ⟨a2,m2,c2,rfl,s2,ho2⟩;refine E0 (a_X (cur':=[.slice a2 m2 c2]) f_0 rfl rfl ((h7.ext s1).ext s2) rfl (Nat.le_of_ble_eq_true rfl) (b_3 rfl) rfl) ?_;rintro _ W3 ⟨c3,s3⟩;refine E0 (a_X (cur':=[vB false]) z_4 rfl rfl (((h8.ext s1).ext s2).chg s3 (by omega)) rfl (Nat.le_of_ble_eq_true rfl) (b_3 rfl) rfl) ?_;rintro _ W4 ⟨c4,s4⟩;refine a_0<|WCI.of_KC ?_;have hW:Below W.heap.size W W2:=bup s1 s2
      have hc4:Chg (fun k=>k=q4∨k=q5) W W4:=by
        have e1:Chg (fun k=>k=q4∨k=q5) W W2:=(Chg.refl _ W).ext hW;refine (e1.comp s3 fun k _ hk=>.inl hk).comp s4 fun k _ hk=>.inr hk
      refine r_L fun _ q=>⟨rfl,n_q hc4 fun k _ hk=>?_,⟨⟨x,hx,hxl⟩,by simp,by simpa using hc⟩,⟨a2,m2,c2,_,c3.chg s4 (by omega),(ho2.chg s3 fun k hk=>by have:=List.mem_singleton.1 hk;omega).chg s4 fun k hk=>by have:=List.mem_singleton.1 hk;omega,(by simp),fun k hk=>by have:=List.mem_singleton.1 hk;omega⟩,c4,?_⟩
      · rcases hk with rfl | rfl
        · exact ⟨_,h7⟩
        · exact ⟨_,h8⟩
      · exact b_v h9 hc4 fun k hk hm=>by rcases hm with rfl | rfl <;> omega
    · refine r_K (WCI.of_KC ?_)
      refine k_W rfl (fun _ _ h=>by cases h.1) ?_
      have hpsh:psh (pre.map (·.1)) x=some (pre.map (·.1)++[x]):=by
        unfold psh
        rw [if_pos (by rw [List.length_map];omega)]
      refine R rfl (c_c a_T rfl (fun h=>h)<|(h2.ext s1).at rfl) ?_;refine R rfl (a_c rfl) ?_;refine E rfl (h_M [(.tmp 25)] b_L rfl rfl rfl (a_Q rfl) (Nat.le_of_ble_eq_true rfl)<|Nat.le_of_ble_eq_true rfl) ?_;rintro _ W2 ⟨rfl,hb⟩;have s2:=hb.below;have y2:=s2.size;refine E rfl (b_g (α:=Str) b_L hpsh rfl rfl ((h3.ext s1).ext s2) h4 hb.blk (c_x hxl) all_nil a_2) ?_;rintro _ W3 ⟨S',a',n',c',rfl,s3,ho3,nd3,hs3⟩;have y3:=s3.size
      have n3:∀k,k<W.heap.size->k<=q5∨k=q6->k∉S':=fun k hk hq hm=>by
        rcases hs3 k hm with h | h | h
        · have:=h5 k h;omega
        · cases h
        · omega
      refine E0 (a_X (cur':=[.slice a' n' c']) f_0 rfl rfl (((h2.ext s1).ext s2).chg s3 (fun hm=>(h5 _ hm).2 rfl)) rfl (Nat.le_of_ble_eq_true rfl) (b_3 rfl) rfl) ?_;rintro _ W4 ⟨c4,s4⟩;have hW:Below W.heap.size W W2:=bup s1 s2
      have hc4:Chg (fun k=>k=q6∨k∈S) W W4:=by
        have e1:Chg (fun k=>k=q6∨k∈S) W W2:=(Chg.refl _ W).ext hW;refine (e1.comp s3 fun k _ hk=>.inr hk).comp s4 fun k _ hk=>.inl hk
      have ho4:a_ W4 S' (sl a' n' c') (pre.map (·.1)++[x]):=ho3.chg s4 fun k hk he=>n3 q6 hq6 (.inr rfl)<|he ▸ hk
      have hs4:∀k∈S',k∈S∨W.heap.size<=k:=fun k hk=>by
        rcases hs3 k hk with h | h | h
        · exact .inl h
        · cases h
        · exact .inr (by omega)
      have k4:∀k,k<=q5->¬(k=q6∨k∈S):=fun k hk hm=>by
        rcases hm with rfl | hm
        · omega
        · have:=h5 k hm;omega
      refine a_0 fun a'' ha''=>⟨n_q hc4 fun k _ hk=>?_,KpS.of_chg h2 h3 c4 ho4 hs4 hc4,fun y hy=>?_,⟨a',n',c',S',c4,by simpa using ho4,nd3,fun k hk=>?_⟩,h6.chg hc4<|k4 _ (by omega),h7.chg hc4<|k4 _ (by omega),h8.chg hc4<|k4 _ (by omega),b_v h9 hc4 fun k hk hm=>k4 k (by omega) hm⟩
      · rcases hk with rfl | hk
        · exact ⟨_,h2⟩
        · exact f_I h3 k hk
      · rcases List.mem_append.1 hy with hy | hy
        · exact h1 y hy
        · obtain rfl:=List.mem_singleton.1 hy
          simpa using hc
      · rcases hs4 k hk with h | h
        · exact h5 k h
        · omega
  · rintro D xs W hD hxs ⟨h1,⟨a,m,c,S,h2,h3,h4,h5⟩,h6,h7,h8,h9⟩ hdef a0 ha0
    have hw0.heap.size:=h6.lt;have hq4:=h7.lt;have hq5:=h8.lt;refine tailD ?_ ha0;refine R rfl (c_c a_T rfl (fun h=>h)<|h2.at rfl) ?_;refine E0 (a_X (cur':=[.slice a m c]) f_0 rfl rfl h7 rfl (Nat.le_of_ble_eq_true rfl) (b_3 rfl) rfl) ?_;rintro _ W1 ⟨c7,s7⟩;refine E0 (a_X (cur':=[vB true]) z_4 rfl rfl (h8.chg s7 (by omega)) rfl (Nat.le_of_ble_eq_true rfl) (b_3 rfl) rfl) ?_;rintro _ W2 ⟨c8,s8⟩;have hDlt:=(Array.getElem?_eq_some_iff.1 hdef).1;have hdef2:W2.heap[D]? = some (.deferred<|some []):=((s8.block D (Nat.lt_of_lt_of_le hDlt s7.size) (by omega)).trans (s7.block D hDlt (by omega))).trans hdef
    have hDS:∀k∈S,k ≠ D:=fun k hk e=>by
      obtain ⟨cur,hB⟩:=f_I h3 k hk;have:=(e ▸ hB).isCells hdef
      cases this
    have hoks:oks.all id=true:=hall.2 fun y hy=>by
      rw [← hxs] at hy
      obtain ⟨z,hz,rfl⟩:=List.mem_map.1 hy;exact h1 z hz
    rw [if_pos hoks]
    refine a_0 fun a' ha'=>⟨ha'.defers,hdef2,?_⟩
    have hp:=n_n W2 D<|.deferred none;obtain ⟨_,v,e1,e2⟩:=a_9 (R:=Q25 w0 B (parts,true)) hr (d_Q (n:=1) a_T rfl<|(c7.chg s8 (by omega)).chg hp (by omega)) (d_Q (n:=1) g_4 rfl<|c8.chg hp (by omega)) ⟨b_v (b_v (b_v h9 s7 fun k hk e=>by omega) s8 fun k hk e=>by omega) hp fun k hk e=>by omega,a,m,c,S,rfl,((hxs ▸ h3).chg s7 fun k hk e=>by have:=h5 k hk;omega).chg s8 (fun k hk e=>by have:=h5 k hk;omega) |>.chg hp fun k hk e=>hDS k hk e,h4,fun k hk=>by have:=h5 k hk;omega⟩ a' ha';exact ⟨v,e1,e2⟩
  · rintro D pre W hD _ ⟨⟨⟨x,hx,hxl⟩,hxm,hxb⟩,⟨a,m,c,S,h2,h3,h4,h5⟩,h8,h9⟩ hdef a0 ha0
    have hq4:=h2.lt;have hq5:=h8.lt
    have hDS:∀k∈S,k ≠ D:=fun k hk e=>by
      obtain ⟨cur,hB⟩:=f_I h3 k hk;have:=(e ▸ hB).isCells hdef
      cases this
    have hoks:¬oks.all id=true:=fun h=>by
      have:=hall.1 h x hx
      rw [this] at hxb;cases hxb
    rw [if_neg hoks]
    have hp:=n_n W D<|.deferred none;obtain ⟨_,v,e1,e2⟩:=a_9 (R:=Q25 w0 B ([],false)) hr (d_Q (n:=1) a_T rfl<|h2.chg hp (by omega)) (d_Q (n:=1) g_4 rfl<|h8.chg hp (by omega)) ⟨b_v h9 hp fun k hk e=>by omega,a,m,c,S,rfl,h3.chg hp fun k hk e=>hDS k hk e,h4,h5⟩ a0 ha0;exact retD ha0.defers hdef e1 e2
def Q26 (w0:World)(B:Zone)(r:(List Str)×Bool)(v:Value)(w':World):Prop:=Bw w0 w'/\un2 (fun J L=>∃G H I S1,v = .tuple #[sl G H I,vB L]/\a_ w' S1 (sl G H I) J/\S1.Nodup/\(∀k∈S1,w0.z<=k)) r
theorem W_w3b {x1:Str}{res:(List Str)×Bool}(hm:h_g n x1=some res)(H:B<=w0.z)(G:x1.b.length<=LEN):k_ prog 70 [Str.v x1] w0 (Q26 w0 B res):=by
 unfold h_g at hm
 refine goG func70 z z z fun fn hr=>Ws<|Ra z<|Rw z<|Wm z ?_
 obtain ⟨_,_,J,I⟩:=a_n hm;refine E z (fc call109 z<|W_w3a (B:=B) J H G) ?_;rintro _ _ ⟨s2,L,O,V,W,rfl,Y,h8,h9⟩;refine Re z z z<|Re z z z<|Ra z<|Rw z ?_
 obtain rfl:=som I;exact Wr<|a_9 hr z z ⟨s2,L,O,V,W,z,Y,h8,h9⟩
theorem W_w3c {x1:Int}{x2:Int}{res:Bool}(hm:h_H x1 x2=some res)(I:B<=w0.z)(G:inI x1)(H:inI x2):k_ prog 150 [vI x1,vI x2] w0 (Q9 w0 B res):=by
 unfold h_H at hm
 refine goG func150 z z z fun fn hr=>Ws<|Rw z<|Wm z<|Rm z<|Rl z z z<|Rw z ?_
 obtain rfl:=som hm;exact Wr<|d_ hr z ⟨br w0,z⟩
end Go.Vw
