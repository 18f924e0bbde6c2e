
import Derived.Test.YtajhmimbhplkfaaGreatDoorVu
set_option linter.unusedVariables false
namespace Go.Vw
open Go.RowKit Dat Go.Proofs
open Go.Proofs.Tryz
open Go.Vw renaming a_i->Wq,a_H->Wg,WC.of_KC->Wo,a_l->Wl,c_b->Wc,c_L->Wr,g_2->Wu,j_u->pT,j_v->pF,h_j->fd,b_H->l1,j_H->lN,b_7->mv,c_S->asg,f_V->lnR,f_i->lss,h_n->eql,h_k->ext_,j_w->bP,h_l->add_,f_U->inc_,d_G->not_,f_W->at_,e_y->fc,a_X->fs,e_x->fb,d_D->fa,j_o->sr,j_s->cr,j_t->cM,c_n->bM,j_g->iS,j_f->iA,j_i->br,b_4->oA,j_k->bs,ltge->lg,inor->io,g_a->nq,j_J->lnT,j_K->sb_,j_m->ar_,j_l->al_,j_n->ds,k_J->m1,j_q->nr_,j_p->nl_,h_a->aa_,all_nil->an_,d_h->Wb,h_9->u8,j_d->pD,f_Q->We,j_h->Wt,f_S->fS,f_a->or_,j_F->Wf,j_B->qL,j_c->Wd,h_c->fN,h_b->na_,j_r->nj,e_z->f0,f_X->rX,j_x->tl_,j_y->ic
variable {A0:Option Addr}{N0 C0:Nat}{B:Zone}{w0:World}{A9:Option Addr}{A8:Option Addr}{AA:Option Addr}{AB:Option Addr}{N9 C9:Nat}{N8 C8:Nat}{NA CA:Nat}{NB CB:Nat}{A1:Option Addr}{N1 C1:Nat}{n:Nat}{AD:Option Addr}{ND CD:Nat}{A3:Option Addr}{N3 C3:Nat}{AH:Option Addr}{NH CH:Nat}{A4:Option Addr}{A5:Option Addr}{A2:Option Addr}{A6:Option Addr}{N4 C4:Nat}{N5 C5:Nat}{N2 C2:Nat}{N6 C6:Nat}{A7:Option Addr}{N7 C7:Nat}{AE:Option Addr}{NE CE:Nat}{AK:Option Addr}{AL:Option Addr}{NK CK:Nat}{NL CL:Nat}{AC:Option Addr}{NC CC:Nat}
structure m_F (f:a_y->g_->Int->Option (Val×Int×(Option<|Int×Int))):Prop where
  run:∀{A0 A1 A4 A5 A2 A6:Option Addr}{N0 C0 N1 C1 b1 o1 N4 C4 N5 C5 N2 C2 N6 C6:Nat}{B:Zone}{x1:a_y}{x2:g_}{x3:Int}{res:Val×Int×(Option<|Int×Int)}{w0:World}(hm:f x1 x2 x3=some res)(hBw:B<=w0.z)(p1_0:repS w0 B (sl A0 N0 C0) x1.d.rules)(p1_1:repS w0 B (sl A1 N1 C1) x1.b)(hC1:S_ w0 b1 o1 [sl A0 N0 C0,sl A1 N1 C1])(hC1b:B b1)(p2_0:x2.name.b.length<=LEN)(p2_1:inI x2.kind)(p2_2:inI x2.size)(p2_4:repS w0 B (sl A4 N4 C4) x2.bytes)(p2_5:repS w0 B (sl A5 N5 C5) x2.names)(p2_6:repS w0 B (sl A2 N2 C2) x2.tags)(p2_7:repS w0 B (sl A6 N6 C6) x2.kids)(p3_0:inI x3),h_ prog 229 [(.pointer<|some ⟨b1,o1,none⟩),.agg #[Str.v x2.name,vI x2.kind,vI x2.size,vB x2.little,sl A4 N4 C4,sl A5 N5 C5,sl A2 N2 C2,sl A6 N6 C6],vI x3] w0<|Q29 w0 B res
structure m_G (f:a_y->g_->Int->Option (Val×Int×(Option<|Int×Int))):Prop where
  run:∀{A0 A1 A4 A5 A2 A6:Option Addr}{N0 C0 N1 C1 b1 o1 N4 C4 N5 C5 N2 C2 N6 C6:Nat}{B:Zone}{x1:a_y}{x2:g_}{x3:Int}{res:Val×Int×(Option<|Int×Int)}{w0:World}(hm:f x1 x2 x3=some res)(hBw:B<=w0.z)(p1_0:repS w0 B (sl A0 N0 C0) x1.d.rules)(p1_1:repS w0 B (sl A1 N1 C1) x1.b)(hC1:S_ w0 b1 o1 [sl A0 N0 C0,sl A1 N1 C1])(hC1b:B b1)(p2_0:x2.name.b.length<=LEN)(p2_1:inI x2.kind)(p2_2:inI x2.size)(p2_4:repS w0 B (sl A4 N4 C4) x2.bytes)(p2_5:repS w0 B (sl A5 N5 C5) x2.names)(p2_6:repS w0 B (sl A2 N2 C2) x2.tags)(p2_7:repS w0 B (sl A6 N6 C6) x2.kids)(p3_0:inI x3),h_ prog 230 [(.pointer<|some ⟨b1,o1,none⟩),.agg #[Str.v x2.name,vI x2.kind,vI x2.size,vB x2.little,sl A4 N4 C4,sl A5 N5 C5,sl A2 N2 C2,sl A6 N6 C6],vI x3] w0<|Q29 w0 B res
structure m_H (f:a_y->g_->Int->Option (Val×Int×(Option<|Int×Int))):Prop where
  run:∀{A0 A1 A4 A5 A2 A6:Option Addr}{N0 C0 N1 C1 b1 o1 N4 C4 N5 C5 N2 C2 N6 C6:Nat}{B:Zone}{x1:a_y}{x2:g_}{x3:Int}{res:Val×Int×(Option<|Int×Int)}{w0:World}(hm:f x1 x2 x3=some res)(hBw:B<=w0.z)(p1_0:repS w0 B (sl A0 N0 C0) x1.d.rules)(p1_1:repS w0 B (sl A1 N1 C1) x1.b)(hC1:S_ w0 b1 o1 [sl A0 N0 C0,sl A1 N1 C1])(hC1b:B b1)(p2_0:x2.name.b.length<=LEN)(p2_1:inI x2.kind)(p2_2:inI x2.size)(p2_4:repS w0 B (sl A4 N4 C4) x2.bytes)(p2_5:repS w0 B (sl A5 N5 C5) x2.names)(p2_6:repS w0 B (sl A2 N2 C2) x2.tags)(p2_7:repS w0 B (sl A6 N6 C6) x2.kids)(p3_0:inI x3),h_ prog 231 [(.pointer<|some ⟨b1,o1,none⟩),.agg #[Str.v x2.name,vI x2.kind,vI x2.size,vB x2.little,sl A4 N4 C4,sl A5 N5 C5,sl A2 N2 C2,sl A6 N6 C6],vI x3] w0<|Q29 w0 B res
abbrev f_y (n:Nat):Prop:=m_C (a_g n).impl_fileReader_value/\m_D (a_g n).impl_fileReader_array/\m_E (a_g n).impl_fileReader_items/\m_F (a_g n).impl_fileReader_choice/\m_G (a_g n).impl_fileReader_option/\m_H (a_g n).impl_fileReader_checked
theorem T_w01 (ih:f_y n):m_C (i_k n<|a_g n):=by
 obtain ⟨_,d0,d1,d2,d3,d4⟩:=ih
 constructor
 intro A0 A1 N0 C0 N1 C1 b1 o1 B x1 x2 x3 res w0 hm hBw p1_0 p1_1 hC1 hC1b p2_0 p3_0;unfold i_k at hm
 refine goF func191 z z (lb z) fun fn hr=>Ws<|E z (fa a_s) ?_
 rintro _ H ⟨rfl,bc⟩;have h2:=bc.below;have h3:Blk H w0.z [vI 0,sl none 0 0,sl none 0 0]:=bc.blk;refine Ra z<|Rw z<|Wm z<|R z (a_6 z)<|Rf z p_E z<|Rf z a_o z ?_
 have h5:=hC1.e h2;refine R z (l0 a_q z<|h5.at (j:=0) z)<|Rm z ?_
 obtain ⟨J,d5,b0⟩:=bdS hm;refine RX z (at_ (α:=g_) a_b u_ z z z (p1_0.e h2) d5) ?_;rintro _ ⟨_,_,_,rfl,d6,d7,_⟩;obtain ⟨aa,nb,cc,ad,ne,cf,ah,ng,ci,aj,nk,cl,rfl,hq,ht,ho,hp,hu,hv,hn⟩:=a_N d7;refine R z (lN (vs:=vR J aa nb cc ad ne cf ah ng ci aj nk cl) R_ u_ z z fid d6)<|E z (fa c_x) ?_
 rintro _ d8 ⟨rfl,be⟩;have G:=be.below;refine E0 (fs (cur':=vR J aa nb cc ad ne cf ah ng ci aj nk cl) u_ z z (be.blk:Blk d8 H.z [(Str.v (⟨[]⟩:Str)),vI 0,vI 0,vB false,sl none 0 0,sl none 0 0,sl none 0 0,sl none 0 0]) z (lb z) (oA z) z) ?_;rintro _ _ ⟨I,d9⟩;have h1:=d9.one;refine Wn<|Wq<|Ws<|Rf z a_M z<|R z (l0 g_3 z<|I.at z)<|Wn<|Wb<|Ws<|Rq z z z<|Rw z<|Wc z (fun hcr=>?_) (fun hcr=>?_)
 ·refine Wm z<|RM z z ?_
  have bf:∀k∈[H.z],¬B k:=or0 (d_ lr)<|n_<|zt' hBw h2.s;have bg:=((h2.ag B).e G).c h1<|f_ bf
  have bh:=lt_ (lt_ h2.s G.s) h1.s;obtain ⟨bi,_,_,da,cO⟩:=V_<|ifT b0 hcr;refine E z (fc call224 z<|k_C da (zt' hBw bh) (p1_0.g bg) (p1_1.g bg) ((h5.e G).c h1<|(f_ bf) _ hC1b) hC1b p2_0 p3_0) ?_;rintro _ _ ⟨bj,db,dc,rfl,dd,de,df,bk⟩;refine Rm z ?_
  iterate 3 refine Re z z z ?_
  refine RA z z<|Rw z<|Wm z<|R z (bP (parts:=[(0,.tmp 41)]) (cs:=[vI bi,sl none 0 0,sl none 0 0]) a_7 z z)<|RM z z<|E0 (fs (cur':=[vI bi,sl none 0 0,sl none 0 0]) k_ z z (((h3.e G).c h1<|djs<|mmr h3.lt).e bj) z (lb z) (oA z) z) ?_
  rintro _ _ ⟨dg,dh⟩;have bm:=dh.one;refine Ra z<|Rw z ?_
  obtain rfl:=som cO;exact Wr<|rtO<|y_ hr (p_ D_ k_ z dg z) z z ⟨bM (bup (bM (bup h2 G) h1<|m1 h2.s) bj) bm<|d_ lr,none,0,0,[],none,0,0,[],db,dc,z,dd,onL,onL,de,df.c bm<|r_ bk h3.lt<|lt_ G.s h1.s,s_ bk bh,nd0,al0⟩
 have b2:=ifF b0 hcr;refine Ws<|Rq z z z<|Rw z<|Wc z (fun hcs=>?_) (fun hcs=>?_)
 ·refine Wm z<|R z (lN (vs:=vR J aa nb cc ad ne cf ah ng ci aj nk cl) R_ u_ z z fid<|I.row 0 8 z)<|Rm z ?_
  have ay:∀k∈[H.z],¬B k:=or0 (d_ lr)<|n_<|zt' hBw h2.s;have bn:=((h2.ag B).e G).c h1<|f_ ay
  have hw:=(G.ag B).c h1<|f_ ay
  have bo:=lt_ (lt_ h2.s G.s) h1.s;obtain ⟨_,_,di,cP⟩:=a_k<|ifT b2 hcs;refine E z (fc call225 z<|W_w3v di (zt' hBw bo) (p1_0.g bn) (p1_1.g bn) ((h5.e G).c h1<|(f_ ay) _ hC1b) hC1b hq ht ho (hp.g hw) (hu.g hw) (hv.g hw) (hn.g hw) p3_0) ?_;rintro _ _ ⟨bp,dj,dk,rfl,dl,dm,bq⟩;refine Rm z<|Re z z z<|Re z z z<|Ra z<|Rw z<|Ws<|R z (bP (parts:=[]) (cs:=[vI 0,sl none 0 0,sl none 0 0]) a_7 z z)<|RM z z<|E0 (fs (cur':=[vI 0,sl none 0 0,sl none 0 0]) k_ z z (((h3.e G).c h1<|djs<|mmr h3.lt).e bp) z (lb z) (oA z) z) ?_
  rintro _ _ ⟨dn,dp⟩;have br:=dp.one;refine Ra z<|Rw z ?_
  obtain rfl:=som cP;exact Wr<|rtO<|y_ hr (p_ D_ k_ z dn z) z z ⟨bM (bup (bM (bup h2 G) h1<|m1 h2.s) bp) br<|d_ lr,none,0,0,[],none,0,0,[],dj,dk,z,ii z,onL,onL,dl,dm.c br<|r_ bq h3.lt<|lt_ G.s h1.s,s_ bq bo,nd0,al0⟩
 have b3:=ifF b2 hcs;refine Ws<|Rq z z z<|Rw z<|Wc z (fun an=>?_) (fun an=>?_)
 ·refine Wm z<|Rm z<|Rf z b_3 z<|R z (l0 g_3 z<|I.at z) ?_
  have bs:∀k∈[H.z],¬B k:=or0 (d_ lr)<|n_<|zt' hBw h2.s;have bt:=((h2.ag B).e G).c h1<|f_ bs
  have hx:=lt_ (lt_ h2.s G.s) h1.s;obtain ⟨dq,_,_,dr,cQ⟩:=V_<|ifT b3 an;refine E z (fc call226 z<|W_w1m dr (zt' hBw hx) (p1_0.g bt) (p1_1.g bt) ((h5.e G).c h1<|(f_ bs) _ hC1b) hC1b p3_0 ho) ?_;rintro _ _ ⟨bu,bv,bw,bx,ds,bz,bA,bB,dt,du,dv,rfl,dw,dx,dy,dz,dA,bC,az,hy⟩
  iterate 3 refine Re z z z ?_
  refine E0 (fs (cur':=[vI dq.number,sl bv bw bx,sl bz bA bB]) k_ z z (((h3.e G).c h1<|djs<|mmr h3.lt).e bu) z (lb z) (oA z) z) ?_;rintro _ _ ⟨dB,dC⟩;have hz:=dC.one;refine Ra z<|Rw z ?_
  obtain rfl:=som cQ;have aA:=lt_ G.s h1.s;exact Wr<|rtO<|y_ hr (p_ D_ k_ z dB z) z z ⟨bM (bup (bM (bup h2 G) h1<|m1 h2.s) bu) hz<|d_ lr,bv,bw,bx,ds,bz,bA,bB,dt,du,dv,z,dw,dx.c hz<|r_ (al_ hy) h3.lt aA,dy.c hz<|r_ (ar_ hy) h3.lt aA,dz,dA.c hz<|r_ bC h3.lt aA,s_ bC hx,na_ (nl_ az) (nr_ az)<|nj az,aa_ (s_ (al_ hy) hx)<|s_ (ar_ hy) hx⟩
 have b4:=ifF b3 an;refine Ws<|Rq z z z<|Rw z<|Wc z (fun ao=>?_) (fun ao=>?_)
 ·refine Wm z<|Rf z a_2 z<|R z (l0 I_ z<|I.at z) ?_
  obtain ⟨_,dD,cR⟩:=bdS<|ifT b4 ao;have aB:∀k∈[H.z],¬B k:=or0 (d_ lr)<|n_<|zt' hBw h2.s;refine RX z (at_ (α:=Int) z_ z_3 z z z (hn.g<|(G.ag B).c h1<|f_ aB) dD) ?_;rintro _ ⟨_,_,_,rfl,dF,dG,_⟩;obtain ⟨rfl,dH⟩:=W_ dG;refine R z (l0 g_3 z<|dF.at0 z)<|Rm z ?_
  have bD:=(h5.e G).c h1<|(f_ aB) _ hC1b
  have aC:=((h2.ag B).e G).c h1<|f_ aB
  have aD:=lt_ (lt_ h2.s G.s) h1.s;obtain ⟨_,_,_,dI,b5⟩:=V_ cR;refine E z (fc call224 z<|k_C dI (zt' hBw aD) (p1_0.g aC) (p1_1.g aC) bD hC1b dH p3_0) ?_;rintro _ _ ⟨s8,dJ,dK,rfl,dL,dN,bE,bF⟩;refine Rm z ?_
  iterate 3 refine Re z z z ?_
  refine RA z z<|Rw z<|Wq<|Wm z<|R z (e_7 e_n z z bE)<|Wx z (fun ap=>?_) (fun ap=>?_)
  ·refine Ws<|R z (bP (parts:=[]) (cs:=[vI 0,sl none 0 0,sl none 0 0]) a_7 z z)<|RM z z<|E0 (fs (cur':=[vI 0,sl none 0 0,sl none 0 0]) k_ z z (((h3.e G).c h1<|djs<|mmr h3.lt).e s8) z (lb z) (oA z) z) ?_
   rintro _ _ ⟨dO,dP⟩;have bG:=dP.one;refine Ra z<|Rw z ?_
   obtain rfl:=som<|ifT b5 ap;exact Wr<|rtO<|y_ hr (p_ D_ k_ z dO z) z z ⟨bM (bup (bM (bup h2 G) h1<|m1 h2.s) s8) bG<|d_ lr,none,0,0,[],none,0,0,[],dJ,dK,z,ii z,onL,onL,p3_0,bE.c bG<|r_ bF h3.lt<|lt_ G.s h1.s,s_ bF aD,nd0,al0⟩
  refine Wk<|Wm z<|RM z z ?_
  have bH:=aC.e s8;have L:=lt_ aD s8.s;obtain ⟨dS,_,_,dT,cS⟩:=V_<|ifF b5 ap;refine E z (fc call226 z<|W_w1m dT (zt' hBw L) (p1_0.g bH) (p1_1.g bH) (bD.e s8) hC1b dN dL) ?_;rintro _ _ ⟨bI,bJ,bK,bL,dU,bN,bO,bQ,dV,dW,dX,rfl,dY,dZ,e0,e1,e2,bR,aE,O⟩
  iterate 3 refine Re z z z ?_
  refine E0 (fs (cur':=[vI dS.number,sl bJ bK bL,sl bN bO bQ]) k_ z z ((((h3.e G).c h1<|djs<|mmr h3.lt).e s8).e bI) z (lb z) (oA z) z) ?_;rintro _ _ ⟨e3,e4⟩;have V:=e4.one;refine Ra z<|Rw z ?_
  obtain rfl:=som cS;have aF:=lt_ (lt_ G.s h1.s) s8.s;exact Wr<|rtO<|y_ hr (p_ D_ k_ z e3 z) z z ⟨bM (bup (bup (bM (bup h2 G) h1<|m1 h2.s) s8) bI) V<|d_ lr,bJ,bK,bL,dU,bN,bO,bQ,dV,dW,dX,z,dY,dZ.c V<|r_ (al_ O) h3.lt aF,e0.c V<|r_ (ar_ O) h3.lt aF,e1,e2.c V<|r_ bR h3.lt aF,s_ bR L,na_ (nl_ aE) (nr_ aE)<|nj aE,aa_ (s_ (al_ O) L)<|s_ (ar_ O) L⟩
 have b6:=ifF b4 ao;refine Ws<|Rq z z z<|Rw z<|Wc z (fun aq=>?_) (fun aq=>?_)
 ·refine Wm z<|R z (lN (vs:=vR J aa nb cc ad ne cf ah ng ci aj nk cl) R_ u_ z z fid<|I.row 0 8 z)<|Rm z ?_
  have aG:∀k∈[H.z],¬B k:=or0 (d_ lr)<|n_<|zt' hBw h2.s;have bS:=((h2.ag B).e G).c h1<|f_ aG
  have W:=(G.ag B).c h1<|f_ aG
  have Y:=lt_ (lt_ h2.s G.s) h1.s;obtain ⟨e5,_,_,e6,cT⟩:=V_<|ifT b6 aq;refine E z (fc call227 z<|d0.run e6 (zt' hBw Y) (p1_0.g bS) (p1_1.g bS) ((h5.e G).c h1<|(f_ aG) _ hC1b) hC1b hq ht ho (hp.g W) (hu.g W) (hv.g W) (hn.g W) p3_0) ?_;rintro _ _ ⟨bT,bU,bV,bW,e7,bX,bY,bZ,e8,e9,ea,rfl,eb,ec,ed,ee,ef,c0,aH,a0⟩
  iterate 3 refine Re z z z ?_
  refine E0 (fs (cur':=[vI e5.number,sl bU bV bW,sl bX bY bZ]) k_ z z (((h3.e G).c h1<|djs<|mmr h3.lt).e bT) z (lb z) (oA z) z) ?_;rintro _ _ ⟨eg,eh⟩;have a1:=eh.one;refine Ra z<|Rw z ?_
  obtain rfl:=som cT;have aI:=lt_ G.s h1.s;exact Wr<|rtO<|y_ hr (p_ D_ k_ z eg z) z z ⟨bM (bup (bM (bup h2 G) h1<|m1 h2.s) bT) a1<|d_ lr,bU,bV,bW,e7,bX,bY,bZ,e8,e9,ea,z,eb,ec.c a1<|r_ (al_ a0) h3.lt aI,ed.c a1<|r_ (ar_ a0) h3.lt aI,ee,ef.c a1<|r_ c0 h3.lt aI,s_ c0 Y,na_ (nl_ aH) (nr_ aH)<|nj aH,aa_ (s_ (al_ a0) Y)<|s_ (ar_ a0) Y⟩
 have b7:=ifF b6 aq;refine Ws<|Rq z z z<|Rw z<|Wc z (fun ar=>?_) (fun ar=>?_)
 ·refine Wm z<|R z (bP (parts:=[]) (cs:=[vI 0,sl none 0 0,sl none 0 0]) a_7 z z)<|Rf z a_2 z<|R z (l0 I_ z<|I.at z)<|Rm z ?_
  have aJ:∀k∈[H.z],¬B k:=or0 (d_ lr)<|n_<|zt' hBw h2.s;have c1:=((h2.ag B).e G).c h1<|f_ aJ
  have a2:=lt_ (lt_ h2.s G.s) h1.s;obtain ⟨ei,_,_,ej,cU⟩:=V_<|ifT b7 ar;refine E z (fc call228 z<|d1.run (B:=B) (x2:=(⟨0,([]:List UInt8),([]:List Val)⟩:Val)) ej (zt' hBw a2) (p1_0.g c1) (p1_1.g c1) ((h5.e G).c h1<|(f_ aJ) _ hC1b) hC1b (ii z) onL H_ an_ onL H_ an_ an_ (hn.g<|(G.ag B).c h1<|f_ aJ) p3_0) ?_;rintro _ _ ⟨c2,c3,c4,c5,c6,c7,c8,c9,ca,ek,em,rfl,en,eo,ep,er,es,cb,aK,a3⟩
  iterate 3 refine Re z z z ?_
  refine E0 (fs (cur':=[vI ei.number,sl c3 c4 c5,sl c7 c8 c9]) k_ z z (((h3.e G).c h1<|djs<|mmr h3.lt).c c2<|atp<|nmA (nmN _)<|nmN _) z (lb z) (oA z) z) ?_;rintro _ _ ⟨eu,ew⟩;have a4:=ew.one;refine Ra z<|Rw z ?_
  obtain rfl:=som cU;have aL:=lt_ G.s h1.s;exact Wr<|rtO<|y_ hr (p_ D_ k_ z eu z) z z ⟨bM (bM (bM (bup h2 G) h1<|m1 h2.s) c2 al0) a4<|d_ lr,c3,c4,c5,c6,c7,c8,c9,ca,ek,em,z,en,eo.c a4 (or1 (al_ a3) al0 (a_O (d_ h3.lt) aL):∀k∈c6,k∉[w0.z]),ep.c a4 (or1 (ar_ a3) al0 (a_O (d_ h3.lt) aL):∀k∈ca,k∉[w0.z]),er,es.c a4<|r_ cb h3.lt aL,s_ cb a2,na_ (nl_ aK) (nr_ aK)<|nj aK,aa_ (a_Y (al_ a3) al0 a2)<|a_Y (ar_ a3) al0 a2⟩
 have b8:=ifF b7 ar;refine Ws<|Rq z z z<|Rw z<|Wc z (fun au=>?_) (fun au=>?_)
 ·refine Wm z<|R z (lN (vs:=vR J aa nb cc ad ne cf ah ng ci aj nk cl) R_ u_ z z fid<|I.row 0 8 z)<|Rm z ?_
  have aM:∀k∈[H.z],¬B k:=or0 (d_ lr)<|n_<|zt' hBw h2.s;have cd:=((h2.ag B).e G).c h1<|f_ aM
  have a5:=(G.ag B).c h1<|f_ aM
  have a6:=lt_ (lt_ h2.s G.s) h1.s;obtain ⟨ex,_,_,ey,cV⟩:=V_<|ifT b8 au;refine E z (fc call229 z<|d2.run ey (zt' hBw a6) (p1_0.g cd) (p1_1.g cd) ((h5.e G).c h1<|(f_ aM) _ hC1b) hC1b hq ht ho (hp.g a5) (hu.g a5) (hv.g a5) (hn.g a5) p3_0) ?_;rintro _ _ ⟨ce,cg,ch,cj,ez,ck,cm,cn,eA,eB,eC,rfl,eD,eE,eF,eG,eH,co,aN,a7⟩
  iterate 3 refine Re z z z ?_
  refine E0 (fs (cur':=[vI ex.number,sl cg ch cj,sl ck cm cn]) k_ z z (((h3.e G).c h1<|djs<|mmr h3.lt).e ce) z (lb z) (oA z) z) ?_;rintro _ _ ⟨eI,eJ⟩;have a8:=eJ.one;refine Ra z<|Rw z ?_
  obtain rfl:=som cV;have aO:=lt_ G.s h1.s;exact Wr<|rtO<|y_ hr (p_ D_ k_ z eI z) z z ⟨bM (bup (bM (bup h2 G) h1<|m1 h2.s) ce) a8<|d_ lr,cg,ch,cj,ez,ck,cm,cn,eA,eB,eC,z,eD,eE.c a8<|r_ (al_ a7) h3.lt aO,eF.c a8<|r_ (ar_ a7) h3.lt aO,eG,eH.c a8<|r_ co h3.lt aO,s_ co a6,na_ (nl_ aN) (nr_ aN)<|nj aN,aa_ (s_ (al_ a7) a6)<|s_ (ar_ a7) a6⟩
 have b9:=ifF b8 au;refine Ws<|Rq z z z<|Rw z<|Wc z (fun av=>?_) (fun av=>?_)
 ·refine Wm z<|R z (lN (vs:=vR J aa nb cc ad ne cf ah ng ci aj nk cl) R_ u_ z z fid<|I.row 0 8 z)<|Rm z ?_
  have aP:∀k∈[H.z],¬B k:=or0 (d_ lr)<|n_<|zt' hBw h2.s;have cp:=((h2.ag B).e G).c h1<|f_ aP
  have a9:=(G.ag B).c h1<|f_ aP
  have ab:=lt_ (lt_ h2.s G.s) h1.s;obtain ⟨eK,_,_,eL,cW⟩:=V_<|ifT b9 av;refine E z (fc call230 z<|d3.run eL (zt' hBw ab) (p1_0.g cp) (p1_1.g cp) ((h5.e G).c h1<|(f_ aP) _ hC1b) hC1b hq ht ho (hp.g a9) (hu.g a9) (hv.g a9) (hn.g a9) p3_0) ?_;rintro _ _ ⟨cq,cr,ct,cu,eM,cv,cw,cx,eN,eO,eP,rfl,eQ,eR,eS,eT,eU,cy,aQ,ae⟩
  iterate 3 refine Re z z z ?_
  refine E0 (fs (cur':=[vI eK.number,sl cr ct cu,sl cv cw cx]) k_ z z (((h3.e G).c h1<|djs<|mmr h3.lt).e cq) z (lb z) (oA z) z) ?_;rintro _ _ ⟨eV,eW⟩;have af:=eW.one;refine Ra z<|Rw z ?_
  obtain rfl:=som cW;have aR:=lt_ G.s h1.s;exact Wr<|rtO<|y_ hr (p_ D_ k_ z eV z) z z ⟨bM (bup (bM (bup h2 G) h1<|m1 h2.s) cq) af<|d_ lr,cr,ct,cu,eM,cv,cw,cx,eN,eO,eP,z,eQ,eR.c af<|r_ (al_ ae) h3.lt aR,eS.c af<|r_ (ar_ ae) h3.lt aR,eT,eU.c af<|r_ cy h3.lt aR,s_ cy ab,na_ (nl_ aQ) (nr_ aQ)<|nj aQ,aa_ (s_ (al_ ae) ab)<|s_ (ar_ ae) ab⟩
 have ba:=ifF b9 av;refine Ws<|Rq z z z<|Rw z<|Wc z (fun aw=>?_) (fun aw=>?_)
 ·refine Wm z<|R z (lN (vs:=vR J aa nb cc ad ne cf ah ng ci aj nk cl) R_ u_ z z fid<|I.row 0 8 z)<|Rm z ?_
  have aS:∀k∈[H.z],¬B k:=or0 (d_ lr)<|n_<|zt' hBw h2.s;have cz:=((h2.ag B).e G).c h1<|f_ aS
  have ai:=(G.ag B).c h1<|f_ aS
  have ak:=lt_ (lt_ h2.s G.s) h1.s;obtain ⟨eX,_,_,eY,cX⟩:=V_<|ifT ba aw;refine E z (fc call231 z<|d4.run eY (zt' hBw ak) (p1_0.g cz) (p1_1.g cz) ((h5.e G).c h1<|(f_ aS) _ hC1b) hC1b hq ht ho (hp.g ai) (hu.g ai) (hv.g ai) (hn.g ai) p3_0) ?_;rintro _ _ ⟨cA,cB,cC,cD,eZ,cE,cF,cG,f0,f1,f2,rfl,f3,f4,f5,f6,f7,cH,aT,al⟩
  iterate 3 refine Re z z z ?_
  refine E0 (fs (cur':=[vI eX.number,sl cB cC cD,sl cE cF cG]) k_ z z (((h3.e G).c h1<|djs<|mmr h3.lt).e cA) z (lb z) (oA z) z) ?_;rintro _ _ ⟨f8,f9⟩;have am:=f9.one;refine Ra z<|Rw z ?_
  obtain rfl:=som cX;have aU:=lt_ G.s h1.s;exact Wr<|rtO<|y_ hr (p_ D_ k_ z f8 z) z z ⟨bM (bup (bM (bup h2 G) h1<|m1 h2.s) cA) am<|d_ lr,cB,cC,cD,eZ,cE,cF,cG,f0,f1,f2,z,f3,f4.c am<|r_ (al_ al) h3.lt aU,f5.c am<|r_ (ar_ al) h3.lt aU,f6,f7.c am<|r_ cH h3.lt aU,s_ cH ak,na_ (nl_ aT) (nr_ aT)<|nj aT,aa_ (s_ (al_ al) ak)<|s_ (ar_ al) ak⟩
 refine Wk<|Wq (Wd (X:=noX) 0 (pl_ 17 [9]) mo (by kernel_rfl) fun fv s6 _=>dM z z z<|dR z z (a_6 z)<|dR z z (fd g_q z) ?_)
 have aV:∀k∈[H.z],¬B k:=or0 (d_ lr)<|n_<|zt' hBw h2.s;refine dR z z (l0 M_ z<|(((h5.e G).c h1<|(f_ aV) _ hC1b).e s6).at (j:=1) z)<|dM z z z<|dR z z (fd b_r z)<|dR z z (l0 M_ z<|(I.e s6).at z) ?_
 obtain ⟨_,fb,cY⟩:=bdS<|ifF ba aw;refine dRX z z (at_ (α:=UInt8) j_ z_5 z z z (hp.g<|((G.ag B).c h1<|f_ aV).e s6) fb) ?_;rintro _ ⟨_,_,_,rfl,fe,ff,_⟩;obtain rfl:=u8 ff;refine dR z z (l0 g_5 z<|fe.at0 z) ?_;have aW:=lt_ (lt_ (lt_ h2.s G.s) h1.s) s6.s;obtain ⟨_,_,_,fg,bb⟩:=V_ cY;refine dE z z (fc call232 z<|W_w1n fg (zt' hBw aW) (p1_1.g<|(((h2.ag B).e G).c h1<|f_ aV).e s6) p3_0) (.inr fun _ _ h=>F_<|h.1) ?_;rintro _ _ ⟨sm,aX,aY,aZ,fh,rfl,fi,fj,fk,cI⟩;refine dM z z z ?_
 iterate 3 refine dR z z (ext_ z z) ?_
 iterate 3 refine dQ z z z ?_
 refine pD<|Wo<|Wq<|Wm z<|R z (not_ z)<|Wx z (fun ax=>?_) (fun ax=>?_)
 ·refine Ws<|R z (bP (parts:=[]) (cs:=[vI 0,sl none 0 0,sl none 0 0]) a_7 z z)<|RM z z ?_
  have cJ:=lt_ aW sm.s;obtain ⟨_,fl,cZ⟩:=bdS<|ifT bb ax;refine E z (fc call233 z<|e_W fl (zt' hBw cJ) p3_0<|ii z) ?_;rintro _ _ ⟨cK,fm,fo,rfl,fp,cL⟩;refine E0 (fs (cur':=[vI 0,sl none 0 0,sl none 0 0]) k_ z z (((((h3.e G).c h1<|djs<|mmr h3.lt).e s6).e sm).e cK) z (lb z) (oA z) z) ?_;rintro _ _ ⟨fq,fr⟩;have cM:=fr.one;refine Ra z<|Rw z ?_
  obtain rfl:=som cZ;exact Wr<|y_ hr (p_ D_ k_ z fq z) z z ⟨bM (bup (bup (bup (bM (bup h2 G) h1<|m1 h2.s) s6) sm) cK) cM<|d_ lr,none,0,0,[],none,0,0,[],fm,fo,z,ii z,onL,onL,p3_0,fp.c cM<|r_ cL h3.lt<|lt_ (lt_ (lt_ G.s h1.s) s6.s) sm.s,s_ cL cJ,nd0,al0⟩
 refine Wk<|Wm z<|R z (bP (parts:=[(1,.tmp 159)]) (cs:=[vI 0,sl aX aY aZ,sl none 0 0]) a_7 z z)<|Rm z<|E0 (fs (cur':=[vI 0,sl aX aY aZ,sl none 0 0]) k_ z z ((((h3.e G).c h1<|djs<|mmr h3.lt).e s6).e sm) z (lb z) (oA z) z) ?_
 rintro _ _ ⟨ft,fu⟩;have cN:=fu.one;refine Ra z<|Rw z ?_
 obtain rfl:=som<|ifF bb ax;exact Wr<|y_ hr (p_ D_ k_ z ft z) z z ⟨bM (bup (bup (bM (bup h2 G) h1<|m1 h2.s) s6) sm) cN<|d_ lr,aX,aY,aZ,fh,none,0,0,[],.nilIface,([]:List Nat),z,ii z,fi.c cN<|r_ cI h3.lt<|lt_ (lt_ G.s h1.s) s6.s,onL,fj,e_A,an_,na_ fk H_<|nmN _,aa_ (s_ cI aW) an_⟩
theorem T_w1o (ih:f_y n):m_D (i_l n<|a_g n):=by
 obtain ⟨_,_,aD,_,_,_⟩:=ih
 constructor
 intro A0 A1 A4 A5 A2 A6 N0 C0 N1 C1 b1 o1 N4 C4 N5 C5 N2 C2 N6 C6 B x1 x2 x3 res w0 hm hBw p1_0 p1_1 hC1 hC1b p2_0 p2_1 p2_2 p2_4 p2_5 p2_6 p2_7 p3_0;unfold i_l at hm
 refine goF func227 z z (lb z) fun fn hr=>Ws<|E z (fb z) ?_
 rintro _ I ⟨rfl,hw⟩;have h4:=hw.below;have hx:Blk I w0.z (vR x2 A4 N4 C4 A5 N5 C5 A2 N2 C2 A6 N6 C6):=hw.blk;refine E z (fa a_s) ?_;rintro _ aE ⟨rfl,hy⟩;have h6:=hy.below;have h5:Blk aE I.z [vI 0,sl none 0 0,sl none 0 0]:=hy.blk;refine Ra z<|Rw z<|Wm z<|Rf z a_2 z ?_
 have hz:=hx.e h6;refine R z (l0 I_ z<|hz.at z) ?_;obtain ⟨_,aF,ao⟩:=bdS hm;have hd:=(h4.ag B).e h6;refine RX z (at_ (α:=Int) z_ z_3 z z z (p2_7.g hd) aF) ?_;rintro _ ⟨_,_,_,rfl,aG,aH,_⟩;obtain ⟨rfl,aI⟩:=W_ aH;refine R z (l0 g_3 z<|aG.at0 z)<|Rm z ?_
 have W:=(hC1.e h4).e h6;have he:=lt_ h4.s h6.s;obtain ⟨_,rr,_,aJ,hms⟩:=V_ ao;refine E z (fc call224 z<|k_C aJ (zt' hBw he) (p1_0.g hd) (p1_1.g hd) W hC1b aI p3_0) ?_;rintro _ G ⟨h,aK,aL,rfl,_,aM,Y,a0⟩;refine Rm z ?_
 iterate 3 refine Re z z z ?_
 refine RA z z<|Rw z<|Wq<|Wm z<|R z (e_7 e_n z z Y)<|Wx z (fun hcm=>?_) (fun hcm=>?_)
 ·refine Ws<|R z (bP (parts:=[]) (cs:=[vI 0,sl none 0 0,sl none 0 0]) a_7 z z)<|RM z z<|E0 (fs (cur':=[vI 0,sl none 0 0,sl none 0 0]) k_ z z (h5.e h) z (lb z) (oA z) z) ?_
  rintro _ _ ⟨aN,aO⟩;have a1:=aO.one;refine Ra z<|Rw z ?_
  obtain rfl:=som<|ifT hms hcm;exact Wr<|y_ hr (p_ D_ k_ z aN z) z z ⟨bM (bup (bup h4 h6) h) a1<|m1 h4.s,none,0,0,[],none,0,0,[],aK,aL,z,ii z,onL,onL,p3_0,Y.c a1<|r_ a0 h5.lt lr,s_ a0 he,nd0,al0⟩
 have L:=ifF hms hcm;refine Wk<|Wq<|Wm z<|R z (Z_ z z)<|Wx z (fun hco=>?_) (fun hco=>?_)
 ·refine Ws<|R z (bP (parts:=[]) (cs:=[vI 0,sl none 0 0,sl none 0 0]) a_7 z z)<|RM z z ?_
  have a2:=lt_ he h.s;obtain ⟨_,aP,ap⟩:=bdS<|ifT L hco;refine E z (fc call233 z<|e_W aP (zt' hBw a2) p3_0<|ii z) ?_;rintro _ _ ⟨a3,aQ,aR,rfl,aS,a4⟩;refine E0 (fs (cur':=[vI 0,sl none 0 0,sl none 0 0]) k_ z z ((h5.e h).e a3) z (lb z) (oA z) z) ?_;rintro _ _ ⟨aT,aU⟩;have a5:=aU.one;refine Ra z<|Rw z ?_
  obtain rfl:=som ap;exact Wr<|y_ hr (p_ D_ k_ z aT z) z z ⟨bM (bup (bup (bup h4 h6) h) a3) a5<|m1 h4.s,none,0,0,[],none,0,0,[],aQ,aR,z,ii z,onL,onL,p3_0,aS.c a5<|r_ a4 h5.lt h.s,s_ a4 a2,nd0,al0⟩
 refine Wk<|Wm z ?_
 obtain ⟨aV,aW,aq⟩:=bdS<|ifF L hco;refine E z (d_j (α:=Int) m_d (fun _=>c_N<|ii z) aW z z) ?_;rintro _ H ⟨ac,nf,cg,rfl,s8,hp⟩;refine Rw z<|Wq<|Wm z<|R z (lnR z_ z<|a_.rep hp)<|Rm z<|Wn ?_
 obtain ⟨_,ar,O⟩:=bdS aq;refine Wf (σ:=List Int) (ρ:=Val×Int×(Option<|Int×Int)) (fun (a6:Nat)(J:List Int) a w=>∃(S3:List Nat),Sat 59 [(0,.pointer<|some ⟨b1,o1,none⟩),(4,pt w0.z),(6,pt I.z),(10,vI rr),(12,sl ac nf cg),(39,vI (aV.length:Int)),(40,vI ((a6:Nat):Int))] a/\Chg (· ∈ [G.z]) H w/\a_ w S3 (sl ac nf cg) J/\S3.Nodup/\(∀k∈S3,k∈[G.z]∨H.z<=k)) (fun (J:List Int) a w=>∃(S3:List Nat),Sat 59 [(0,.pointer<|some ⟨b1,o1,none⟩),(6,pt I.z),(10,vI rr),(12,sl ac nf cg)] a/\Chg (· ∈ [G.z]) H w/\a_ w S3 (sl ac nf cg) J/\S3.Nodup/\(∀k∈S3,k∈[G.z]∨H.z<=k)) (fun r ex a w=>ex = .ret/\w_ prog fn (Q29 w0 B r) a w) ar ?_ ?_ ?_ ?_ ?_
 ·exact fun _ q=>⟨[G.z],q.k<|s7 z z z z z z z,cr [G.z] H,hp,a_0,io sr⟩
 ·rintro a6 J _ aX _ V ⟨S3,au,sh,ha,hi,hj⟩ av;refine Wu ?_ au;refine Ws<|Rl z z z<|Wn<|Wq<|Wc z (fun _=>?_) (fun hc=>(P_ V hc).elim)
  refine Wk<|Wq<|Wb<|Wm z<|Rw z<|Wg<|RM z z<|Rf z a_2 z<|R z (l0 I_ z<|(((hz.e h).e s8).c sh<|djs<|mm1 hx.lt<|lt_ h6.s h.s).at z) ?_
  obtain ⟨_,aY,aw⟩:=bdS av;refine RX z (at_ (α:=Int) z_ z_3 z z z (p2_7.g<|((hd.e h).e s8).c sh<|f_ (or0 (d_ lr) (n_<|zt' hBw<|lt_ he h.s):∀k∈[G.z],¬B k)) aY) ?_;rintro _ ⟨_,_,_,rfl,aZ,b0,_⟩;obtain ⟨rfl,b2⟩:=W_ b0;refine R z (l0 g_3 z<|aZ.at0 z) ?_;obtain ⟨b3,a7,ax⟩:=bdS aw;refine RX z (b_t (α:=Int) z_ z_3 z z ha a7) ?_;rintro _ ⟨_,b4,rfl⟩;refine E0 (b_k (α:=Int) z_3 z b4 z z z a7 ha hi (c_N b2) an_ H_) ?_;rintro _ b5 ⟨a8,b6,b7,b8,b9⟩;refine Wn<|Wg<|R z (inc_ V (lt_ (a_.len hp) A_) z z)<|Rm z<|Wl ?_
  have a9:∀k∈S3,k∈[G.z]∨H.z<=k:=or1 hj (io sr)<|l_ lr;exact fun _ q=>⟨b3,(som ax).symm,⟨a8,q.k<|s7 z z z z z z z,(cM (cM (cr [G.z] H) sh (io sr):Chg (· ∈ [G.z]) H aX) b6 a9:Chg (· ∈ [G.z]) H b5),b7,b8,(or2 b9 a9 an_ (l_ sh.s):∀k∈a8,k∈[G.z]∨H.z<=k)⟩⟩
 ·rintro J _ ba ⟨S3,ay,bb,ha,hi,hj⟩;refine Wu ?_ ay;refine Ws<|Rl z z z<|Wn<|Wq<|Wc z (fun hc=>(Q_ hc).elim) (fun _=>?_)
  exact We<|fun a' ha'=>⟨rfl,⟨S3,Sat.weaken ha'<|s4 z z z z,(cM (cr [G.z] H) bb (io sr):Chg (· ∈ [G.z]) H ba),ha,hi,(or1 hj (io sr) (l_ lr):∀k∈S3,k∈[G.z]∨H.z<=k)⟩⟩
 ·rintro J bc be rfl ⟨S3,_,sb,ha,hi,hj⟩;have az:=elL O;revert bc;refine Wo<|Wm z<|R z (bP (parts:=[]) (cs:=[vI 0,sl none 0 0,sl none 0 0]) a_7 z z)<|RM z z ?_
  have hq:=lt_ he h.s;have aa:∀k∈[G.z],¬B k:=or0 (d_ lr)<|n_<|zt' hBw hq;have ab:=((hd.e h).e s8).c sb<|f_ aa
  have hk:=lt_ (lt_ hq s8.s) sb.s;have ht:=zt' hBw hk;obtain ⟨bf,_,_,bg,aA⟩:=V_ az;refine E z (fc call228 z<|aD.run (B:=be.z) (x2:=(⟨0,([]:List UInt8),([]:List Val)⟩:Val)) bg zr (repS.mono (p1_0.g ab) ht) (repS.mono (p1_1.g ab) ht) (((W.e h).e s8).c sb<|(f_ aa) _ hC1b) (zap' ht hC1b) (ii z) onL H_ (nbl an_) onL H_ (nbl an_) an_ (a_.rep ha) aM) ?_;rintro _ _ ⟨ad,ae,af,ah,ai,aj,ak,al,am,bh,bi,rfl,bj,bk,bm,bn,bo,an,hu,hl⟩
  iterate 3 refine Re z z z ?_
  refine E0 (fs (cur':=[vI bf.number,sl ae af ah,sl aj ak al]) k_ z z ((((h5.e h).e s8).c sb<|djs<|mm1 h5.lt h.s).c ad<|atp<|nmA (nmN _)<|nmN _) z (lb z) (oA z) z) ?_;rintro _ _ ⟨bp,bq⟩;have hn:=bq.one;refine Ra z<|Rw z ?_
  obtain rfl:=som aA;have hv:=lt_ (lt_ h.s s8.s) sb.s;exact Wr<|y_ hr (p_ D_ k_ z bp z) z z ⟨bM (bM (bM (bup (bup (bup h4 h6) h) s8) sb<|m1 hq) ad al0) hn<|m1 h4.s,ae,af,ah,ai,aj,ak,al,am,bh,bi,z,bj,bk.c hn (or1 (al_ hl) al0 (a_O (d_ h5.lt) hv):∀k∈ai,k∉[I.z]),bm.c hn (or1 (ar_ hl) al0 (a_O (d_ h5.lt) hv):∀k∈am,k∉[I.z]),bn,bo.c hn<|r_ an h5.lt hv,s_ an hk,na_ (nl_ hu) (nr_ hu)<|nj hu,aa_ (a_Y (al_ hl) al0 hk)<|a_Y (ar_ hl) al0 hk⟩
 rintro _ _ _ _ rfl ⟨rfl,aB⟩;have aC:=elR O;obtain rfl:=som aC;exact ⟨aB,z⟩
theorem T_w1p (ih:f_y n):m_E (i_m n<|a_g n):=by
 obtain ⟨aP,_,_,_,_,_⟩:=ih
 constructor
 intro A0 A1 AC AG A7 N0 C0 N1 C1 b1 o1 NC CC NG CG N7 C7 S2_1 S2_2 B x1 x2 x3 x4 res w0 hm hBw p1_0 p1_1 hC1 hC1b p2_0 p2_1 p2_1n p2_1g p2_2 p2_2n p2_2g p2_2d1 p3_0 p4_0;unfold i_m at hm
 refine goF func228 z z (lb z) fun fn hr=>Ws<|E z (fb z) ?_
 rintro _ wb ⟨rfl,a9⟩;have h2:=a9.below;have he:Blk wb w0.z [vI x2.number,sl AC NC CC,sl AG NG CG]:=a9.blk;refine E z (fa a_s) ?_;rintro _ h ⟨rfl,aa⟩;have V:=aa.below;have hk:Blk h wb.z [vI 0,sl none 0 0,sl none 0 0]:=aa.blk;refine Ra z<|Rw z<|Wq<|Wm z ?_
 have ab:=(h2.ag B).e V;refine R z (lnR z_ z<|p3_0.g ab)<|Rm z<|Wn ?_
 obtain ⟨_,aG,a6⟩:=bdS hm;refine Wf (σ:=Int×(List Val)) (ρ:=Val×Int×(Option<|Int×Int)) (fun (ad:Nat) s a w=>un2 (fun xc xh=>∃H I J G,Sat 45 [(0,.pointer<|some ⟨b1,o1,none⟩),(3,vI xc),(5,pt w0.z),(8,pt wb.z),(16,sl A7 N7 C7),(17,vI (x3.length:Int)),(18,vI ((ad:Nat):Int))] a/\Chg (· ∈ (S2_2++[w0.z])) h w/\inI xc/\a_ w G (sl H I J) xh/\G.Nodup/\(∀k∈G,k∈S2_2∨h.z<=k)/\Blk w w0.z [vI x2.number,sl AC NC CC,sl H I J]) s) (fun s a w=>un2 (fun xc xh=>∃H I J G,Sat 45 [(3,vI xc),(5,pt w0.z),(8,pt wb.z)] a/\Chg (· ∈ (S2_2++[w0.z])) h w/\inI xc/\a_ w G (sl H I J) xh/\G.Nodup/\(∀k∈G,k∈S2_2∨h.z<=k)/\Blk w w0.z [vI x2.number,sl AC NC CC,sl H I J]) s) (fun r ex a w=>ex = .ret/\w_ prog fn (Q30 w0 B S2_1 S2_2 r) a w) aG ?_ ?_ ?_ ?_ ?_
 ·exact fun _ q=>⟨AG,NG,CG,S2_2,q.k<|s7 z z z z z z z,cr (S2_2++[w0.z]) h,p4_0,(p2_2.e h2).e V,p2_2n,io sr,he.e V⟩
 ·rintro ad ⟨xc,xh⟩ _ ae _ a7 ⟨H,I,J,G,aH,s6,hi,hf,hl,hd,hn⟩ aI;refine Wu ?_ aH;refine Ws<|Rl z z z<|Wn<|Wq<|Wc z (fun _=>?_) (fun hc=>(P_ a7 hc).elim)
  refine Wk<|Wq<|Wb<|Ws ?_
  obtain ⟨_,aQ,aJ⟩:=bdS<|a_5 aI;have af:∀k∈[w0.z],¬B k:=or0 (d_ lr)<|n_ hBw;have ht:=ab.c s6<|nmA (f_ p2_2g)<|f_ af
  refine RX z (at_ (α:=Int) z_ z_3 z z z (p3_0.g ht) aQ) ?_;rintro _ ⟨_,_,_,rfl,aR,aS,_⟩;obtain ⟨rfl,aT⟩:=W_ aS;refine R z (l0 g_3 z<|aR.at0 z)<|Rw z<|Wm z<|RM z z ?_
  have hu:=lt_ (lt_ h2.s V.s) s6.s;obtain ⟨ro,aU,_,aV,a8⟩:=V_ aJ;refine E z (fc call191 z<|aP.run aV (zt' hBw hu) (p1_0.g ht) (p1_1.g ht) (((hC1.e h2).e V).c s6<|(nmA (f_ p2_2g)<|f_ af) _ hC1b) hC1b aT hi) ?_;rintro _ wm ⟨sa,ar,ns,cv,ah,aw,nx,cy,ai,aW,aX,rfl,aY,hp,hq,aZ,aj,ak,hz,hj⟩;refine Rm z ?_
  iterate 3 refine Re z z z ?_
  refine E z (fa a_s) ?_;rintro _ Y ⟨rfl,al⟩;have L:=al.below;refine E0 (fs (cur':=[vI ro.number,sl ar ns cv,sl aw nx cy]) k_ z z (al.blk:Blk Y wm.z [vI 0,sl none 0 0,sl none 0 0]) z (lb z) (oA z) z) ?_;rintro _ a0 ⟨b0,b2⟩;have O:=b2.one;refine Ra z<|Rw z<|Wq<|Wm z ?_
  have am:=(aj.e L).c O<|ds<|mnr<|a_I.lt aj
  refine R z (e_7 e_n z z am)<|Wx z (fun W=>?_) (fun W=>?_)
  ·refine Ws<|R z (bP (parts:=[]) (cs:=[vI 0,sl none 0 0,sl none 0 0]) a_7 z z)<|RM z z ?_
   refine E0 (fs (cur':=[vI 0,sl none 0 0,sl none 0 0]) k_ z z ((((hk.c s6<|atp<|nmA (mno (a_.lt p2_2) h2.s)<|mmr he.lt).e sa).e L).c O<|djs<|mm1 hk.lt<|lt_ s6.s sa.s) z (lb z) (oA z) z) ?_;rintro _ b3 ⟨b4,b5⟩;have an:=b5.one;refine Ra z<|Rw z ?_
   exact Wr<|rtO<|qL (som<|ifT a8 W).symm<|y_ hr (p_ D_ k_ z b4 z) z z ⟨(cM (cM (i_ (i_ (cM (i_ (i_ (cr (S2_1++S2_2) w0) h2:Chg (· ∈ (S2_1++S2_2)) w0 wb) V:Chg (· ∈ (S2_1++S2_2)) w0 h) s6 (aa_ (io<|b_F sr) (mor lr:∀k∈[w0.z],k∈(S2_1++S2_2)∨w0.z<=k)):Chg (· ∈ (S2_1++S2_2)) w0 ae) sa:Chg (· ∈ (S2_1++S2_2)) w0 wm) L:Chg (· ∈ (S2_1++S2_2)) w0 Y) O (mor (lt_ hu sa.s):∀k∈[wm.z],k∈(S2_1++S2_2)∨w0.z<=k):Chg (· ∈ (S2_1++S2_2)) w0 a0) an (mor h2.s:∀k∈[wb.z],k∈(S2_1++S2_2)∨w0.z<=k):Chg (· ∈ (S2_1++S2_2)) w0 b3),none,0,0,[],none,0,0,[],aW,aX,z,ii z,onL,onL,hi,am.c an<|r_ ak hk.lt s6.s,s_ ak hu,nd0,al0⟩
  refine Wk<|Ws<|Rf z e_T z ?_
  have a1:=lt_ V.s s6.s;have ao:=lt_ a1 sa.s;have ap:=((hn.e sa).e L).c O<|djs<|mm1 he.lt ao
  refine R z (l0 g_o z<|ap.at z)<|R z (lN (vs:=[vI ro.number,sl ar ns cv,sl aw nx cy]) D_ k_ z z fid<|b0.row 0 3 z)<|E z (fS [(.tmp 37)] k_n z z z (a_z z) (lb z)<|lb z) ?_
  rintro _ aq ⟨rfl,au⟩;have hg:=au.below;have bn:=(hp.e L).c O<|ds<|mnr<|a_.lt hp
  have bo:=(hq.e L).c O<|ds<|mnr<|a_.lt hq
  obtain ⟨b6,b7,aK⟩:=bdS<|ifF a8 W;refine E z (b_d (α:=Val) k_n b7 z z ((((hf.e sa).e L).c O<|ds<|mno (a_.lt hf) sa.s).e hg) hl (au.blk:Blk aq a0.z [vI ro.number,sl ar ns cv,sl aw nx cy]) (q_p (x:=ro) (S1:=ah) (S2:=ai) aY (((hp.e L).c O<|ds<|mnr<|a_.lt hp).e hg)<|((hq.e L).c O<|ds<|mnr<|a_.lt hq).e hg) (aa_ (b_C (al_ hj) (a_.lt hf) lr)<|b_C (ar_ hj) (a_.lt hf) lr)<|na_ (nl_ hz) (nr_ hz)<|nj hz) ?_;rintro _ b8 ⟨a2,av,ax,ay,rfl,az,b9,ba,aA⟩;refine Rf z e_T z ?_;have aB:∀k∈G,k∉[w0.z]:=or1 hd (ds<|mnr<|a_.lt p2_2)<|a_O (d_ he.lt) V.s;refine E0 (fs (cur':=[vI x2.number,sl AC NC CC,sl av ax ay]) z_46 z z ((ap.e hg).c az<|djs aB) z (lb z) (oA z) z) ?_;rintro _ bb ⟨bc,be⟩;have aC:=be.one;refine Wn<|Wg<|Rm z<|Rw z<|Wg<|R z (inc_ a7 (lt_ (repS.len p3_0) A_) z z)<|Rm z<|Wl ?_
  have aD:=lt_ s6.s sa.s;exact fun _ q=>⟨(aU,b6),(som aK).symm,⟨av,ax,ay,a2,q.k<|s7 z z z z z z z,(cM (cM (i_ (cM (i_ (i_ (cM (cr (S2_2++[w0.z]) h) s6 (aa_ (io<|b_X sr)<|io<|b_F sr):Chg (· ∈ (S2_2++[w0.z])) h ae) sa:Chg (· ∈ (S2_2++[w0.z])) h wm) L:Chg (· ∈ (S2_2++[w0.z])) h Y) O (mor aD:∀k∈[wm.z],k∈(S2_2++[w0.z])∨h.z<=k):Chg (· ∈ (S2_2++[w0.z])) h a0) hg:Chg (· ∈ (S2_2++[w0.z])) h aq) az (or1 hd (io<|b_X sr) (l_ lr):∀k∈G,k∈(S2_2++[w0.z])∨h.z<=k):Chg (· ∈ (S2_2++[w0.z])) h b8) aC (io<|b_F sr):Chg (· ∈ (S2_2++[w0.z])) h bb),aZ,b9.c aC (or2 aA aB (aa_ (r_ (al_ hj) he.lt a1)<|r_ (ar_ hj) he.lt a1) (a_O (d_ he.lt)<|lt_ (lt_ (lt_ ao L.s) O.s) hg.s):∀k∈a2,k∉[w0.z]),ba,(or2 aA (or1 hd (io sr) (l_ lr):∀k∈G,k∈S2_2∨h.z<=k) (aa_ (or0 (al_ hj) (l_ s6.s):∀k∈ah,k∈S2_2∨h.z<=k) (or0 (ar_ hj) (l_ s6.s):∀k∈ai,k∈S2_2∨h.z<=k)) (l_<|lt_ (lt_ (lt_ aD L.s) O.s) hg.s):∀k∈a2,k∈S2_2∨h.z<=k),bc⟩⟩
 ·rintro ⟨xc,xh⟩ _ bf ⟨H,I,J,G,aL,bg,hi,hf,hl,hd,hn⟩;refine Wu ?_ aL;refine Ws<|Rl z z z<|Wn<|Wq<|Wc z (fun hc=>(Q_ hc).elim) (fun _=>?_)
  exact We<|fun a' ha'=>⟨rfl,⟨H,I,J,G,Sat.weaken ha'<|s3 z z z,(cM (cr (S2_2++[w0.z]) h) bg (aa_ (io<|b_X sr)<|io<|b_F sr):Chg (· ∈ (S2_2++[w0.z])) h bf),hi,hf,hl,(or1 hd (io sr) (l_ lr):∀k∈G,k∈S2_2∨h.z<=k),hn⟩⟩
 ·rintro ⟨xc,xh⟩ bh bi rfl ⟨H,I,J,G,_,a4,hi,hf,hl,hd,hn⟩;have aM:=elL a6;revert bh;refine Wo<|Ws<|R z (lN (vs:=[vI x2.number,sl AC NC CC,sl H I J]) D_ k_ z z fid<|hn.row 0 3 z)<|Rm z ?_
  have aE:=mno (a_.lt p2_2) h2.s;refine E0 (fs (cur':=[vI x2.number,sl AC NC CC,sl H I J]) k_ z z (hk.c a4<|atp<|nmA aE<|mmr he.lt) z (lb z) (oA z) z) ?_;rintro _ bj ⟨bk,bm⟩;have a5:=bm.one;refine Ra z<|Rw z ?_
  obtain rfl:=som<|a_5 aM;have aF:=lt_ h2.s V.s;exact Wr<|y_ hr (p_ D_ k_ z bk z) z z ⟨(cM (cM (i_ (i_ (cr (S2_1++S2_2) w0) h2:Chg (· ∈ (S2_1++S2_2)) w0 wb) V:Chg (· ∈ (S2_1++S2_2)) w0 h) a4 (aa_ (io<|b_F sr) (mor lr:∀k∈[w0.z],k∈(S2_1++S2_2)∨w0.z<=k)):Chg (· ∈ (S2_1++S2_2)) w0 bi) a5 (mor h2.s:∀k∈[wb.z],k∈(S2_1++S2_2)∨w0.z<=k):Chg (· ∈ (S2_1++S2_2)) w0 bj),AC,NC,CC,S2_1,H,I,J,G,.nilIface,([]:List Nat),z,p2_0,(((p2_1.e h2).e V).c a4<|nmA (ds p2_2d1)<|ds<|mnr<|a_.lt p2_1).c a5<|ds<|mno (a_.lt p2_1) h2.s,hf.c a5 (or1 hd (ds aE) (a_O (d_ hk.lt) lr):∀k∈G,k∉[wb.z]),hi,e_A,an_,na_ p2_1n hl<|ds<|o1no hd p2_2d1 (a_.lt p2_1) aF,aa_ (io<|b_X sr) (or1 hd (io<|b_F sr) (l_ aF):∀k∈G,k∈(S2_1++S2_2)∨w0.z<=k)⟩
 rintro _ _ _ _ rfl ⟨rfl,aN⟩;have aO:=elR a6;obtain rfl:=som aO;exact ⟨aN,z⟩
theorem T_w1q (ih:f_y n):m_F (i_n n<|a_g n):=by
 obtain ⟨_,_,ak,_,_,_⟩:=ih
 constructor
 intro A0 A1 A4 A5 A2 A6 N0 C0 N1 C1 b1 o1 N4 C4 N5 C5 N2 C2 N6 C6 B x1 x2 x3 res w0 hm hBw p1_0 p1_1 hC1 hC1b p2_0 p2_1 p2_2 p2_4 p2_5 p2_6 p2_7 p3_0;unfold i_n at hm
 refine goF func229 z z (lb z) fun fn hr=>Ws<|E z (fb z) ?_
 rintro _ G ⟨rfl,hk⟩;have h1:=hk.below;refine E z (fa a_s) ?_;rintro _ al ⟨rfl,hl⟩;have h4:=hl.below;have h2:Blk al G.z [vI 0,sl none 0 0,sl none 0 0]:=hl.blk;refine Ra z<|Rw z<|Wm z<|Rf z a_2 z ?_
 have hn:=(hk.blk:Blk G w0.z (vR x2 A4 N4 C4 A5 N5 C5 A2 N2 C2 A6 N6 C6)).e h4;refine R z (l0 I_ z<|hn.at z) ?_;obtain ⟨_,am,a7⟩:=bdS hm;have I:=(h1.ag B).e h4;refine RX z (at_ (α:=Int) z_ z_3 z z z (p2_7.g I) am) ?_;rintro _ ⟨_,_,_,rfl,an,ao,_⟩;obtain ⟨rfl,ap⟩:=W_ ao;refine R z (l0 g_3 z<|an.at0 z)<|Rm z ?_
 have ho:=(hC1.e h1).e h4;have J:=lt_ h1.s h4.s;obtain ⟨re,aq,_,ar,hmm⟩:=V_ a7;refine E z (fc call224 z<|k_C ar (zt' hBw J) (p1_0.g I) (p1_1.g I) ho hC1b ap p3_0) ?_;rintro _ H ⟨h,au,av,rfl,aw,ax,hp,hq⟩;refine Rm z ?_
 iterate 3 refine Re z z z ?_
 refine RA z z<|Rw z<|Wq<|Wm z<|R z (e_7 e_n z z hp)<|Wx z (fun hcf=>?_) (fun hcf=>?_)
 ·refine Ws<|R z (bP (parts:=[]) (cs:=[vI 0,sl none 0 0,sl none 0 0]) a_7 z z)<|RM z z<|E0 (fs (cur':=[vI 0,sl none 0 0,sl none 0 0]) k_ z z (h2.e h) z (lb z) (oA z) z) ?_
  rintro _ _ ⟨az,aA⟩;have ht:=aA.one;refine Ra z<|Rw z ?_
  obtain rfl:=som<|ifT hmm hcf;exact Wr<|y_ hr (p_ D_ k_ z az z) z z ⟨bM (bup (bup h1 h4) h) ht<|m1 h1.s,none,0,0,[],none,0,0,[],au,av,z,ii z,onL,onL,p3_0,hp.c ht<|r_ hq h2.lt lr,s_ hq J,nd0,al0⟩
 refine Wk<|Wq<|Ws<|Rf z b_s z ?_
 have hu:=hn.e h;refine R z (l0 I_ z<|hu.at z) ?_;have hv:=I.e h;refine R z (lnR z_ z<|p2_6.g hv)<|Rm z<|Wn ?_
 obtain ⟨_,a8,hmr⟩:=bdS<|ifF hmm hcf;refine Wf (σ:=Unit) (ρ:=Val×Int×(Option<|Int×Int)) (fun (ks:Nat)(_:Unit) a w=>Sat 61 [(0,.pointer<|some ⟨b1,o1,none⟩),(2,vI x3),(4,pt w0.z),(6,pt G.z),(9,vI re),(10,vI aq),(31,sl A2 N2 C2),(32,vI (x2.tags.length:Int)),(33,vI ((ks:Nat):Int))] a/\Below H.z H w) (fun (_:Unit) a w=>Sat 61 [(2,vI x3),(6,pt G.z)] a/\Below H.z H w) (fun r ex a w=>ex = .ret/\w_ prog fn (Q29 w0 B r) a w) a8 ?_ ?_ ?_ ?_ ?_
 ·exact fun _ q=>⟨q.k<|s9 z z z z z z z z z,br H⟩
 ·rintro ks _ _ _ _ hkg ⟨a9,s3⟩ aa;refine Wu ?_ a9;refine Ws<|Rl z z z<|Wn<|Wq<|Wc z (fun _=>?_) (fun hc=>(P_ hkg hc).elim)
  refine Wk<|Wq<|Wb<|Wm z ?_
  obtain ⟨_,aB,hmw⟩:=bdS aa;have L:=hv.e s3;refine RX z (at_ (α:=Int) z_ z_3 z z z (p2_6.g L) aB) ?_;rintro _ ⟨_,_,_,rfl,aC,aD,_⟩;obtain ⟨rfl,_⟩:=W_ aD;refine R z (l0 g_3 z<|aC.at0 z)<|Ra z<|Rw z<|Wm z<|Rm z<|Rq z z z<|Wx z (fun hch=>?_) (fun hch=>?_)
  ·refine Wm z<|Rm z<|R z (bP (parts:=[(0,.tmp 42)]) (cs:=[vI re,sl none 0 0,sl none 0 0]) a_7 z z)<|Rf z a_2 z<|R z (l0 I_ z<|(hu.e s3).at z)<|Rm z<|R z (inc_ hkg (lt_ (repS.len p2_6) A_) z z)<|Rm z<|R z (add_ z z) ?_
   obtain ⟨_,aE,ab⟩:=bdS<|ifT hmw hch;refine RX z (rX z_ z_3 z z (p2_7.g L) z z aE) ?_;rintro _ ⟨_,_,_,rfl,aF⟩;refine Rm z ?_;have ha:=lt_ (lt_ J h.s) s3.s;obtain ⟨aG,_,_,aH,ad⟩:=V_ ab;refine E z (fc call228 z<|ak.run (B:=B) (x2:=(⟨re,([]:List UInt8),([]:List Val)⟩:Val)) aH (zt' hBw ha) (p1_0.g L) (p1_1.g L) ((ho.e h).e s3) hC1b aw onL H_ an_ onL H_ an_ an_ aF ax) ?_;rintro _ _ ⟨sx,ay,nz,O,V,W,Y,a0,a1,aI,aJ,rfl,aK,aL,aM,aN,aO,a2,hi,hb⟩
   iterate 3 refine Re z z z ?_
   refine E0 (fs (cur':=[vI aG.number,sl ay nz O,sl W Y a0]) k_ z z (((h2.e h).e s3).c sx<|atp<|nmA (nmN _)<|nmN _) z (lb z) (oA z) z) ?_;rintro _ _ ⟨aP,aQ⟩;have hd:=aQ.one;refine Ra z<|Rw z ?_
   have hj:=lt_ h.s s3.s;exact Wr<|rtO<|qL (som ad).symm<|y_ hr (p_ D_ k_ z aP z) z z ⟨bM (bM (bup (bup (bup h1 h4) h) s3) sx al0) hd<|m1 h1.s,ay,nz,O,V,W,Y,a0,a1,aI,aJ,z,aK,aL.c hd (or1 (al_ hb) al0 (a_O (d_ h2.lt) hj):∀k∈V,k∉[G.z]),aM.c hd (or1 (ar_ hb) al0 (a_O (d_ h2.lt) hj):∀k∈a1,k∉[G.z]),aN,aO.c hd<|r_ a2 h2.lt hj,s_ a2 ha,na_ (nl_ hi) (nr_ hi)<|nj hi,aa_ (a_Y (al_ hb) al0 ha)<|a_Y (ar_ hb) al0 ha⟩
  exact Wk<|Wg<|R z (inc_ hkg (lt_ (repS.len p2_6) A_) z z)<|Rm z<|Wl (fun _ q=>⟨(),(som<|ifF hmw hch).symm,⟨q.k<|s9 z z z z z z z z z,s3⟩⟩)
 ·rintro _ _ _ ⟨ae,aR⟩;refine Wu ?_ ae;refine Ws<|Rl z z z<|Wn<|Wq<|Wc z (fun hc=>(Q_ hc).elim) (fun _=>?_)
  exact We<|fun a' ha'=>⟨rfl,⟨Sat.weaken ha'<|s2 z z,aR⟩⟩
 ·rintro _ aS _ rfl ⟨_,sc⟩;have af:=elL hmr;revert aS;refine Wo<|Ws<|R z (bP (parts:=[]) (cs:=[vI 0,sl none 0 0,sl none 0 0]) a_7 z z)<|RM z z ?_
  have a3:=lt_ (lt_ J h.s) sc.s;obtain ⟨_,aT,ah⟩:=bdS af;refine E z (fc call233 z<|e_W aT (zt' hBw a3) p3_0<|ii z) ?_;rintro _ _ ⟨a4,aU,aV,rfl,aW,a5⟩;refine E0 (fs (cur':=[vI 0,sl none 0 0,sl none 0 0]) k_ z z (((h2.e h).e sc).e a4) z (lb z) (oA z) z) ?_;rintro _ _ ⟨aX,aY⟩;have a6:=aY.one;refine Ra z<|Rw z ?_
  obtain rfl:=som ah;exact Wr<|y_ hr (p_ D_ k_ z aX z) z z ⟨bM (bup (bup (bup (bup h1 h4) h) sc) a4) a6<|m1 h1.s,none,0,0,[],none,0,0,[],aU,aV,z,ii z,onL,onL,p3_0,aW.c a6<|r_ a5 h2.lt<|lt_ h.s sc.s,s_ a5 a3,nd0,al0⟩
 rintro _ _ _ _ rfl ⟨rfl,ai⟩;have aj:=elR hmr;obtain rfl:=som aj;exact ⟨ai,z⟩
theorem T_w1r (ih:f_y n):m_G (i_o n<|a_g n):=by
 obtain ⟨_,_,a0,_,_,_⟩:=ih
 constructor
 intro A0 A1 A4 A5 A2 A6 N0 C0 N1 C1 b1 o1 N4 C4 N5 C5 N2 C2 N6 C6 B x1 x2 x3 res w0 hm hBw p1_0 p1_1 hC1 hC1b p2_0 p2_1 p2_2 p2_4 p2_5 p2_6 p2_7 p3_0;unfold i_o at hm
 refine goF func230 z z (lb z) fun fn hr=>Ws<|E z (fb z) ?_
 rintro _ G ⟨rfl,hf⟩;have h1:=hf.below;refine E z (fa a_s) ?_;rintro _ a1 ⟨rfl,hg⟩;have h3:=hg.below;have h2:Blk a1 G.z [vI 0,sl none 0 0,sl none 0 0]:=hg.blk;refine Ra z<|Rw z<|Wm z<|Rm z ?_
 have hh:=(hC1.e h1).e h3;have J:=(h1.ag B).e h3;have h5:=lt_ h1.s h3.s;obtain ⟨_,_,a2,hmi⟩:=a_k hm;refine E z (fc call262 z<|k_B a2 (zt' hBw h5) (p1_0.g J) (p1_1.g J) hh hC1b p3_0<|ii z) ?_;rintro _ _ ⟨h,_,_,_,a3,a4,rfl,hj,hk,hl⟩;refine Rm z<|Re z z z<|Re z z z<|Ra z<|Rw z<|Wq<|Wb<|Wm z<|R z (e_7 e_n z z hk)<|Rw z<|Wc z (fun hca=>?_) (fun hca=>?_)
 ·refine Ws<|R z (bP (parts:=[]) (cs:=[vI 0,sl none 0 0,sl none 0 0]) a_7 z z)<|RM z z<|E0 (fs (cur':=[vI 0,sl none 0 0,sl none 0 0]) k_ z z (h2.e h) z (lb z) (oA z) z) ?_
  rintro _ _ ⟨a5,a6⟩;have hn:=a6.one;refine Ra z<|Rw z ?_
  obtain rfl:=som<|ifT hmi hca;exact Wr<|rtO<|y_ hr (p_ D_ k_ z a5 z) z z ⟨bM (bup (bup h1 h3) h) hn<|m1 h1.s,none,0,0,[],none,0,0,[],a3,a4,z,ii z,onL,onL,p3_0,hk.c hn<|r_ hl h2.lt lr,s_ hl h5,nd0,al0⟩
 refine Wm z ?_
 obtain ⟨_,a7,hmm⟩:=bdS<|ifF hmi hca;refine RX z (at_ (α:=UInt8) j_ z_5 z z z hj a7) ?_;rintro _ ⟨_,_,_,rfl,a8,a9,_⟩;obtain rfl:=u8 a9;refine R z (l0 g_5 z<|a8.at0 z)<|R z (Z_ z z)<|Rw z<|Wc z (fun hcb=>?_) (fun hcb=>?_)
 ·refine Ws<|R z (bP (parts:=[]) (cs:=[vI 0,sl none 0 0,sl none 0 0]) a_7 z z)<|RM z z ?_
  have ho:=lt_ h5 h.s;obtain ⟨_,aa,W⟩:=bdS<|ifT hmm hcb;refine E z (fc call233 z<|e_W aa (zt' hBw ho) p3_0<|ii z) ?_;rintro _ _ ⟨sp,ab,ad,rfl,ae,hq⟩;refine E0 (fs (cur':=[vI 0,sl none 0 0,sl none 0 0]) k_ z z ((h2.e h).e sp) z (lb z) (oA z) z) ?_;rintro _ _ ⟨af,ah⟩;have ht:=ah.one;refine Ra z<|Rw z ?_
  obtain rfl:=som W;exact Wr<|rtO<|y_ hr (p_ D_ k_ z af z) z z ⟨bM (bup (bup (bup h1 h3) h) sp) ht<|m1 h1.s,none,0,0,[],none,0,0,[],ab,ad,z,ii z,onL,onL,p3_0,ae.c ht<|r_ hq h2.lt h.s,s_ hq ho,nd0,al0⟩
 refine Wm z ?_
 obtain ⟨_,ai,hmr⟩:=bdS<|ifF hmm hcb;refine RX z (at_ (α:=UInt8) j_ z_5 z z z hj ai) ?_;rintro _ ⟨_,_,_,rfl,aj,ak,_⟩;obtain rfl:=u8 ak;refine R z (l0 g_5 z<|aj.at0 z)<|Rq z z z<|Rw z<|Wc z (fun hcc=>?_) (fun hcc=>?_)
 ·refine Ws<|R z (bP (parts:=[]) (cs:=[vI 0,sl none 0 0,sl none 0 0]) a_7 z z)<|Rm z<|R z (add_ z z)<|E0 (fs (cur':=[vI 0,sl none 0 0,sl none 0 0]) k_ z z (h2.e h) z (lb z) (oA z) z) ?_
  rintro _ _ ⟨al,am⟩;refine Ra z<|Rw z ?_
  obtain rfl:=som<|ifT hmr hcc;exact Wr<|rtO<|y_ hr (p_ D_ k_ z al z) z z ⟨bM (bup (bup h1 h3) h) am.one<|m1 h1.s,none,0,0,[],none,0,0,[],.nilIface,([]:List Nat),z,ii z,onL,onL,iA _ _,e_A,an_,nd0,al0⟩
 refine Wk<|Wm z<|R z (bP (parts:=[]) (cs:=[vI 0,sl none 0 0,sl none 0 0]) a_7 z z)<|Rf z a_2 z<|R z (l0 I_ z<|(((hf.blk:Blk G w0.z (vR x2 A4 N4 C4 A5 N5 C5 A2 N2 C2 A6 N6 C6)).e h3).e h).at z)<|Rm z<|R z (add_ z z) ?_
 have hd:=J.e h;have h6:=lt_ h5 h.s;obtain ⟨an,_,_,ao,Y⟩:=V_<|ifF hmr hcc;refine E z (fc call228 z<|a0.run (B:=B) (x2:=(⟨0,([]:List UInt8),([]:List Val)⟩:Val)) ao (zt' hBw h6) (p1_0.g hd) (p1_1.g hd) (hh.e h) hC1b (ii z) onL H_ an_ onL H_ an_ an_ (p2_7.g hd)<|iA _ _) ?_;rintro _ _ ⟨ss,au,nv,cw,Sx,ay,nz,L,O,ap,aq,rfl,ar,av,aw,ax,az,V,he,H⟩
 iterate 3 refine Re z z z ?_
 refine E0 (fs (cur':=[vI an.number,sl au nv cw,sl ay nz L]) k_ z z ((h2.e h).c ss<|atp<|nmA (nmN _)<|nmN _) z (lb z) (oA z) z) ?_;rintro _ _ ⟨aA,aB⟩;have I:=aB.one;refine Ra z<|Rw z ?_
 obtain rfl:=som Y;exact Wr<|y_ hr (p_ D_ k_ z aA z) z z ⟨bM (bM (bup (bup h1 h3) h) ss al0) I<|m1 h1.s,au,nv,cw,Sx,ay,nz,L,O,ap,aq,z,ar,av.c I (or1 (al_ H) al0 (a_O (d_ h2.lt) h.s):∀k∈Sx,k∉[G.z]),aw.c I (or1 (ar_ H) al0 (a_O (d_ h2.lt) h.s):∀k∈O,k∉[G.z]),ax,az.c I<|r_ V h2.lt h.s,s_ V h6,na_ (nl_ he) (nr_ he)<|nj he,aa_ (a_Y (al_ H) al0 h6)<|a_Y (ar_ H) al0 h6⟩
theorem T_w1s (ih:f_y n):m_H (i_p n<|a_g n):=by
 obtain ⟨_,_,ak,_,_,_⟩:=ih
 constructor
 intro A0 A1 A4 A5 A2 A6 N0 C0 N1 C1 b1 o1 N4 C4 N5 C5 N2 C2 N6 C6 B x1 x2 x3 res w0 hm hBw p1_0 p1_1 hC1 hC1b p2_0 p2_1 p2_2 p2_4 p2_5 p2_6 p2_7 p3_0;unfold i_p at hm
 refine goF func231 z z (lb z) fun fn hr=>Ws<|E z (fb z) ?_
 rintro _ wb ⟨rfl,hu⟩;have h6:=hu.below;refine E z (fa a_s) ?_;rintro _ al ⟨rfl,hv⟩;have H:=hv.below;have h3:Blk al wb.z [vI 0,sl none 0 0,sl none 0 0]:=hv.blk;refine Ra z<|Rw z<|Wm z<|R z (bP (parts:=[]) (cs:=[vI 0,sl none 0 0,sl none 0 0]) a_7 z z)<|Rf z a_2 z<|R z (l0 I_ z<|((hu.blk:Blk wb w0.z (vR x2 A4 N4 C4 A5 N5 C5 A2 N2 C2 A6 N6 C6)).e H).at z)<|Rm z ?_
 have hw:=(hC1.e h6).e H;have hc:=(h6.ag B).e H;have I:=lt_ h6.s H.s;obtain ⟨rk,_,_,am,hmr⟩:=V_ hm;refine E z (fc call228 z<|ak.run (B:=B) (x2:=(⟨0,([]:List UInt8),([]:List Val)⟩:Val)) am (zt' hBw I) (p1_0.g hc) (p1_1.g hc) hw hC1b (ii z) onL H_ an_ onL H_ an_ an_ (p2_7.g hc) p3_0) ?_;rintro _ ws ⟨G,ad,ne,cf,Sx,ah,ng,ci,Sy,an,ao,rfl,ap,hz,O,V,W,Y,hl,hj⟩;refine Rm z ?_
 iterate 3 refine Re z z z ?_
 refine E z (fa a_s) ?_;rintro _ aq ⟨rfl,a0⟩;have h1:=a0.below;refine E0 (fs (cur':=[vI rk.number,sl ad ne cf,sl ah ng ci]) k_ z z (a0.blk:Blk aq ws.z [vI 0,sl none 0 0,sl none 0 0]) z (lb z) (oA z) z) ?_;rintro _ _ ⟨ar,au⟩;have h2:=au.one;refine Ra z<|Rw z<|Wq<|Wm z ?_
 have a1:=(W.e h1).c h2<|ds<|mnr<|a_I.lt W
 refine R z (e_7 e_n z z a1)<|Wx z (fun hcm=>?_) (fun hcm=>?_)
 ·refine Ws<|R z (bP (parts:=[]) (cs:=[vI 0,sl none 0 0,sl none 0 0]) a_7 z z)<|RM z z<|E0 (fs (cur':=[vI 0,sl none 0 0,sl none 0 0]) k_ z z (((h3.c G<|atp<|nmA (nmN _)<|nmN _).e h1).c h2<|djs<|mm1 h3.lt G.s) z (lb z) (oA z) z) ?_
  rintro _ _ ⟨av,aw⟩;have a2:=aw.one;refine Ra z<|Rw z ?_
  obtain rfl:=som<|ifT hmr hcm;exact Wr<|y_ hr (p_ D_ k_ z av z) z z ⟨bM (bM (bup (bM (bup h6 H) G al0) h1) h2<|m1<|lt_ I G.s) a2<|m1 h6.s,none,0,0,[],none,0,0,[],an,ao,z,ii z,onL,onL,p3_0,a1.c a2<|r_ Y h3.lt lr,s_ Y I,nd0,al0⟩
 refine Wk<|Wm z<|Rm z ?_
 have ha:=lt_ I G.s;have a3:∀k∈[ws.z],¬B k:=or0 (d_ lr)<|n_<|zt' hBw ha;have a4:=((hw.c G<|(nmA (f_ an_)<|f_ an_) _ hC1b).e h1).c h2<|(f_ a3) _ hC1b
 have hn:=((hc.c G<|nmA (f_ an_)<|f_ an_).e h1).c h2<|f_ a3
 have ho:=lt_ (lt_ ha h1.s) h2.s;obtain ⟨_,_,ax,J⟩:=a_k<|ifF hmr hcm;refine E z (fc call262 z<|k_B ax (zt' hBw ho) (p1_0.g hn) (p1_1.g hn) a4 hC1b V<|ii z) ?_;rintro _ _ ⟨s4,_,_,_,ay,az,rfl,aA,a5,a6⟩;refine Rm z<|Re z z z<|Re z z z<|Ra z<|Rw z<|Wq<|Wm z<|R z (e_7 e_n z z a5)<|Wx z (fun hcp=>?_) (fun hcp=>?_)
 ·refine Ws<|R z (bP (parts:=[]) (cs:=[vI 0,sl none 0 0,sl none 0 0]) a_7 z z)<|RM z z<|E0 (fs (cur':=[vI 0,sl none 0 0,sl none 0 0]) k_ z z ((((h3.c G<|atp<|nmA (nmN _)<|nmN _).e h1).c h2<|djs<|mm1 h3.lt G.s).e s4) z (lb z) (oA z) z) ?_
  rintro _ _ ⟨aB,aC⟩;have a7:=aC.one;refine Ra z<|Rw z ?_
  obtain rfl:=som<|ifT J hcp;exact Wr<|y_ hr (p_ D_ k_ z aB z) z z ⟨bM (bup (bM (bup (bM (bup h6 H) G al0) h1) h2<|m1 ha) s4) a7<|m1 h6.s,none,0,0,[],none,0,0,[],ay,az,z,ii z,onL,onL,p3_0,a5.c a7<|r_ a6 h3.lt<|lt_ (lt_ G.s h1.s) h2.s,s_ a6 ho,nd0,al0⟩
 refine Wk<|Wq<|Wq (Wd (X:=noX) 0 (pl_ 13 [11]) mo (by kernel_rfl) fun aR s5 _=>dM z z z ?_)
 obtain ⟨_,aD,af⟩:=bdS<|ifF J hcp;refine dRX z z (at_ (α:=UInt8) j_ z_5 z z z (aA.e s5) aD) ?_;rintro _ ⟨_,_,_,rfl,aE,aF,_⟩;obtain rfl:=u8 aF;refine dR z z (l0 g_5 z<|aE.at0 z)<|dR z z (b_i d_5 d_3 z)<|dM z z z<|dR z z (a_6 z)<|dR z z (fd g_q z)<|dR z z (l0 M_ z<|((a4.e s4).e s5).at (j:=1) z)<|dM z z z<|dM z z z ?_
 obtain ⟨_,aG,ai⟩:=bdS af;refine dRX z z (rX j_ z_5 z z (p1_1.g<|(hn.e s4).e s5) z z aG) ?_;rintro _ ⟨_,_,_,rfl,aH⟩;have a8:=lt_ (lt_ ho s4.s) s5.s;obtain ⟨_,aI,L⟩:=bdS ai;refine dE z z (fc call263 z<|m_y aI (zt' hBw a8) aH) (.inr fun _ _ h=>F_<|h.1) ?_;rintro _ _ ⟨s7,rfl,_⟩;refine dR z z (nq z z)<|pD<|Wo<|Wc z (fun hcq=>?_) (fun hcq=>?_)
 ·refine Ws<|R z (bP (parts:=[]) (cs:=[vI 0,sl none 0 0,sl none 0 0]) a_7 z z)<|RM z z ?_
  have a9:=lt_ a8 s7.s;obtain ⟨_,aJ,aj⟩:=bdS<|ifT L hcq;refine E z (fc call233 z<|e_W aJ (zt' hBw a9) V<|ii z) ?_;rintro _ _ ⟨aa,aK,aL,rfl,aM,ab⟩;refine E0 (fs (cur':=[vI 0,sl none 0 0,sl none 0 0]) k_ z z (((((((h3.c G<|atp<|nmA (nmN _)<|nmN _).e h1).c h2<|djs<|mm1 h3.lt G.s).e s4).e s5).e s7).e aa) z (lb z) (oA z) z) ?_;rintro _ _ ⟨aN,aO⟩;have ae:=aO.one;refine Ra z<|Rw z ?_
  obtain rfl:=som aj;exact Wr<|y_ hr (p_ D_ k_ z aN z) z z ⟨bM (bup (bup (bup (bup (bM (bup (bM (bup h6 H) G al0) h1) h2<|m1 ha) s4) s5) s7) aa) ae<|m1 h6.s,none,0,0,[],none,0,0,[],aK,aL,z,ii z,onL,onL,p3_0,aM.c ae<|r_ ab h3.lt<|lt_ (lt_ (lt_ (lt_ (lt_ G.s h1.s) h2.s) s4.s) s5.s) s7.s,s_ ab a9,nd0,al0⟩
 refine Wk<|Ws<|R z (lN (vs:=[vI rk.number,sl ad ne cf,sl ah ng ci]) D_ k_ z z fid<|(((ar.e s4).e s5).e s7).row 0 3 z)<|Rm z<|R z (add_ z z)<|E0 (fs (cur':=[vI rk.number,sl ad ne cf,sl ah ng ci]) k_ z z ((((((h3.c G<|atp<|nmA (nmN _)<|nmN _).e h1).c h2<|djs<|mm1 h3.lt G.s).e s4).e s5).e s7) z (lb z) (oA z) z) ?_
 rintro _ _ ⟨aP,aQ⟩;have ht:=aQ.one;refine Ra z<|Rw z ?_
 obtain rfl:=som<|ifF L hcq;exact Wr<|y_ hr (p_ D_ k_ z aP z) z z ⟨bM (bup (bup (bup (bM (bup (bM (bup h6 H) G al0) h1) h2<|m1 ha) s4) s5) s7) ht<|m1 h6.s,ad,ne,cf,Sx,ah,ng,ci,Sy,.nilIface,([]:List Nat),z,ap,(((((hz.e h1).c h2<|ds<|mnr<|a_.lt hz).e s4).e s5).e s7).c ht (or1 (al_ hj) al0 (a_O (d_ h3.lt) lr):∀k∈Sx,k∉[wb.z]),(((((O.e h1).c h2<|ds<|mnr<|a_.lt O).e s4).e s5).e s7).c ht (or1 (ar_ hj) al0 (a_O (d_ h3.lt) lr):∀k∈Sy,k∉[wb.z]),iA _ _,e_A,an_,na_ (nl_ hl) (nr_ hl)<|nj hl,aa_ (a_Y (al_ hj) al0 I)<|a_Y (ar_ hj) al0 I⟩
theorem d_e:∀n,f_y n
  | 0=>⟨⟨fun hm=>by intros;exact nomatch (show none=some _ from hm)⟩,⟨fun hm=>by intros;exact nomatch (show none=some _ from hm)⟩,⟨fun hm=>by intros;exact nomatch (show none=some _ from hm)⟩,⟨fun hm=>by intros;exact nomatch (show none=some _ from hm)⟩,⟨fun hm=>by intros;exact nomatch (show none=some _ from hm)⟩,⟨fun hm=>by intros;exact nomatch (show none=some _ from hm)⟩⟩
  | n+1=>⟨T_w01<|d_e n,T_w1o<|d_e n,T_w1p<|d_e n,T_w1q<|d_e n,T_w1r<|d_e n,T_w1s<|d_e n⟩
theorem W_w01:m_C (a_g n).impl_fileReader_value:=(d_e n).1
theorem W_w1o:m_D (a_g n).impl_fileReader_array:=(d_e n).2.1
theorem W_w1p:m_E (a_g n).impl_fileReader_items:=(d_e n).2.2.1
theorem W_w1q:m_F (a_g n).impl_fileReader_choice:=(d_e n).2.2.2.1
theorem W_w1r:m_G (a_g n).impl_fileReader_option:=(d_e n).2.2.2.2.1
theorem W_w1s:m_H (a_g n).impl_fileReader_checked:=(d_e n).2.2.2.2.2
theorem m_I {x1:e_}{x2:Int}{x3:List UInt8}{x4:Int}{res:Val×Int×Int}(hm:i_q n x1 x2 x3 x4=some res)(hBw:B<=w0.z)(hG:Gl w0 B)(p1_0:repS w0 B (sl A0 N0 C0) x1.rules)(p2_0:inI x2)(p3_0:repS w0 B (sl A7 N7 C7) x3)(p4_0:inI x4):h_ prog 156 [(.agg #[sl A0 N0 C0]),vI x2,sl A7 N7 C7,vI x4] w0 (Q17 w0 B res):=by
 unfold i_q at hm
 refine goF func156 z z (lb z) fun fn hr=>Ws<|E z (fb z) ?_
 rintro _ wc ⟨rfl,a1⟩;have h1:=a1.below;have a2:Blk wc w0.z [sl A0 N0 C0]:=a1.blk;refine E z (fa a_s) ?_;rintro _ wp ⟨rfl,a3⟩;have h4:=a3.below;have h5:Blk wp wc.z [vI 0,sl none 0 0,sl none 0 0]:=a3.blk;refine Ra z<|Rw z<|Wq<|Wq ?_
 obtain ⟨az,ax,O⟩:=bdS hm;refine Wt (fun a w=>∃(xq:Bool),xq=az/\Sat 62 [(1,vI x2),(2,sl A7 N7 C7),(3,vI x4),(4,pt w0.z),(8,pt wc.z),(34,vB xq)] a/\Below wp.z wp w) ?_ ?_
 ·refine Wg<|R z (lN (vs:=[sl A0 N0 C0]) J_ E_ z z fid<|(a2.e h4).row 0 1 z)<|Rm z ?_
  have a4:=(h1.ag B).e h4;obtain ⟨aA,aB,V⟩:=bdS ax;refine E z (fc call190 z<|m_A aB (zt' hBw<|lt_ h1.s h4.s) (p1_0.g a4) p2_0) ?_;rintro _ _ ⟨sd,rfl⟩;refine R z (not_ z)<|Rm z ?_
  rcases bs (!aA) with J | J
  ·exact Nh z J<|Nh z J<|R z (pT z J z)<|Rm z<|Nh z z<|Nh z z<|Nh z z<|Nh z z<|R z (pT z z z)<|Rm z<|Nh z z<|Nh z z<|Nh z z<|R z (pT z z z)<|Wl (fun _ q=>⟨true,som<|ifT V J,q.k<|s6 z z z z z z,sd⟩)
  have W:=ifF V J;refine Rh z J (mv z)<|Rh z J (lss z z)<|R z (pF z J z)<|Rm z ?_
  rcases bs (decide<|x4<0) with H | H
  ·iterate 4 refine Nh z H ?_
   exact R z (pT z H z)<|Rm z<|Nh z z<|Nh z z<|Nh z z<|R z (pT z z z)<|Wl (fun _ q=>⟨true,som<|ifT W H,q.k<|s6 z z z z z z,sd⟩)
  have Y:=ifF W H;refine Rh z H (mv z)<|Rh z H (mv z) ?_
  have a5:=p3_0.g<|a4.e sd
  refine Rh z H (lnR j_ z a5)<|Rh z H (Z_ z z)<|R z (pF z H z)<|Rm z ?_
  rcases bs (decide<|(x3.length:Int)<x4) with L | L
  ·iterate 3 refine Nh z L ?_
   exact R z (pT z L z)<|Wl (fun _ q=>⟨true,som<|ifT Y L,q.k<|s6 z z z z z z,sd⟩)
  exact Rh z L (mv z)<|Rh z L (lnR j_ z a5)<|Rh z L (Z_ z z)<|R z (pF z L z)<|Wl (fun _ q=>⟨decide<|400<(x3.length:Int),som<|ifF Y L,q.k<|s6 z z z z z z,sd⟩)
 rintro aC aD ⟨xq,rfl,_,G⟩;revert aC;refine Wo<|Wc z (fun hcr=>?_) (fun hcr=>?_)
 ·refine Ws<|R z (bP (parts:=[]) (cs:=[vI 0,sl none 0 0,sl none 0 0]) a_7 z z)<|E0 (fs (cur':=[vI 0,sl none 0 0,sl none 0 0]) k_ z z (h5.e G) z (lb z) (oA z) z) ?_
  rintro _ _ ⟨aE,aF⟩;refine Ra z<|Rw z ?_
  obtain rfl:=som<|ifT O hcr;exact Wr<|y_ hr (p_ D_ k_ z aE z) z z ⟨bM (bup (bup h1 h4) G) aF.one<|m1 h1.s,none,0,0,[],none,0,0,[],z,ii z,onL,onL,ii z,ii z,nd0,al0⟩
 refine Wk<|Ws<|R z (lN (vs:=[sl A0 N0 C0]) J_ E_ z z fid<|((a2.e h4).e G).row 0 1 z)<|Rm z<|R z (bP (parts:=[(0,.tmp 36),(1,.tmp 37)]) (cs:=[sl A0 N0 C0,sl A7 N7 C7]) u_F z z)<|E z (fb z) ?_
 rintro _ a6 ⟨rfl,a7⟩;have ha:=a7.below;have a8:Blk a6 aD.z [sl A0 N0 C0,sl A7 N7 C7]:=a7.blk;refine Rw z<|Wm z<|RM z z ?_
 have a9:=(((h1.ag B).e h4).e G).e ha;have he:=lt_ (lt_ (lt_ h1.s h4.s) G.s) ha.s;have aa:=zt' hBw he;obtain ⟨rs,_,aG,aH,a0⟩:=V_<|ifF O hcr;refine E z (fc call191 z<|W_w01.run (B:=a6.z) aH zr (repS.mono (p1_0.g a9) aa) (repS.mono (p3_0.g a9) aa) (a8.row 0 2 z) a8.lt p2_0 p4_0) ?_;rintro _ ab ⟨sb,ah,ng,ci,aI,aj,nk,cl,aJ,_,_,rfl,aK,ad,ae,aL,ht,aM,hu,hn⟩;refine Rm z ?_
 iterate 3 refine Re z z z ?_
 refine E z (fa a_s) ?_;rintro _ aN ⟨rfl,af⟩;have h2:=af.below;refine E0 (fs (cur':=[vI rs.number,sl ah ng ci,sl aj nk cl]) k_ z z (af.blk:Blk aN ab.z [vI 0,sl none 0 0,sl none 0 0]) z (lb z) (oA z) z) ?_;rintro _ ai ⟨aO,aP⟩;have h3:=aP.one;refine Ra z<|Rw z<|Ws<|E z (fa u_O) ?_
 rintro _ aQ ⟨rfl,ak⟩;have I:=ak.below;have al:Blk aQ ai.z [(.pointer none)]:=ak.blk;refine Wn<|Wq<|Wm z<|R z (h_o d_228 (fun _ h=>by cases h) z) ?_
 have am:=((ht.e h2).c h3<|ds<|mnr<|a_I.lt ht).e I
 rcases bs (aG.isSome) with hcm | hcm
 ·obtain ⟨_,_,aR,ay⟩:=a_k<|ifT a0 hcm;have hv:=lt_ he sb.s;refine E z (fc call192 z<|u_D ((((((((hG.e h1).e h4).e G).e ha).e sb).e h2).c h3<|f_ (or0 (d_ lr) (n_<|zt' hBw hv):∀k∈[ab.z],¬B k)).e I) am aR al) ?_;rintro _ _ ⟨an,rfl,aS,aT,aU,ao,aV,aW⟩;have hw:=aS.one;refine Wx z (fun _=>?_) (fun hc=>(bcon z hc).elim)
  refine Wq<|Wd (X:=(· ∈ [wc.z])) 0 (pl_ 12 [9]) mo (by kernel_rfl) fun b1 so _=>dR z z (bP (parts:=[]) (cs:=[vI 0,sl none 0 0,sl none 0 0]) a_7 z z) ?_;have ap:=aT.e so;have aq:=lt_ G.s ha.s;have ar:=lt_ aq sb.s;have au:=lt_ (lt_ ar h2.s) h3.s;have hx:=mm1 h5.lt au;refine dR z z (l1 g_226 z (atp hx)<|ap.at z)<|dR z z (a_6 z)<|dR z z (fd u_J z) ?_
  have av:=(aU.c hw<|atp (or1 (d_<|.inl ao) (ds<|mno (a_I.lt ht)<|lt_ h2.s h3.s) (a_O (d_ al.lt) lr):∀k∈[an],k∉[ai.z])).e so;have aw:∀k∈[an],k∉[wc.z]:=or1 (d_<|.inl ao) (r_ aM h5.lt aq)<|a_O (d_ h5.lt)<|lt_ au I.s;refine dR z z (l1 g_3 z (atp aw)<|av.at z)<|dR z z (l1 g_226 z (atp hx)<|ap.at z)<|dR z z (a_6 z)<|dR z z (fd u_K z)<|dR z z (l1 g_3 z (atp aw)<|av.at z)<|dE0 z (fs (cur':=[vI 0,sl none 0 0,sl none 0 0]) k_ z z ((((((((h5.e G).e ha).e sb).e h2).c h3<|djs<|mm1 h5.lt ar).e I).c hw<|djs hx).e so) z (lb z) (oA z) z) (.inr fun _ _ h=>chgIn (List.mem_singleton.2 z) h.2) ?_
  rintro _ _ ⟨aX,aY⟩;refine dQ z z z<|dQ z z z<|pD<|Wo ?_
  obtain rfl:=som ay;exact Wr<|y_ hr (p_ D_ k_ z aX z) z z ⟨bM (bup (bM (bup (bM (bup (bup (bup (bup (bup h1 h4) G) ha) sb) h2) h3<|m1 hv) I) hw<|m1<|lt_ (lt_ hv h2.s) h3.s) so) aY.one<|m1 h1.s,none,0,0,[],none,0,0,[],z,ii z,onL,onL,aV,aW,nd0,al0⟩
 refine E z (fc call192 z<|u_C am hcm) ?_;rintro _ _ ⟨rfl,sf⟩;refine Wx z (fun hc=>(bcon hc z).elim) (fun _=>?_)
 refine Wk<|Ws<|R z (lN (vs:=[vI rs.number,sl ah ng ci,sl aj nk cl]) D_ k_ z z fid<|((aO.e I).e sf).row 0 3 z)<|Rm z ?_
 have hy:=lt_ G.s ha.s;refine E0 (fs (cur':=[vI rs.number,sl ah ng ci,sl aj nk cl]) k_ z z (((((((h5.e G).e ha).e sb).e h2).c h3<|djs<|mm1 h5.lt<|lt_ hy sb.s).e I).e sf) z (lb z) (oA z) z) ?_;rintro _ _ ⟨aZ,b0⟩;have hz:=b0.one;refine Ra z<|Rw z ?_
 obtain rfl:=som<|ifF a0 hcm;exact Wr<|y_ hr (p_ D_ k_ z aZ z) z z ⟨bM (bup (bup (bM (bup (bup (bup (bup (bup h1 h4) G) ha) sb) h2) h3<|m1<|lt_ he sb.s) I) sf) hz<|m1 h1.s,ah,ng,ci,aI,aj,nk,cl,aJ,z,aK,((((ad.e h2).c h3<|ds<|mnr<|a_.lt ad).e I).e sf).c hz<|r_ (al_ hn) h5.lt hy,((((ae.e h2).c h3<|ds<|mnr<|a_.lt ae).e I).e sf).c hz<|r_ (ar_ hn) h5.lt hy,aL,ii z,na_ (nl_ hu) (nr_ hu)<|nj hu,aa_ (s_ (al_ hn) he)<|s_ (ar_ hn) he⟩
theorem W_w1t {x1:e_}{x2:List UInt8}{res:Val×Int×Int}(hm:g_Q n x1 x2=some res)(hBw:B<=w0.z)(hG:Gl w0 B)(p1_0:repS w0 B (sl A0 N0 C0) x1.rules)(p2_0:repS w0 B (sl A3 N3 C3) x2):h_ prog 94 [(.agg #[sl A0 N0 C0]),sl A3 N3 C3] w0 (Q17 w0 B res):=by
 unfold g_Q at hm
 refine goF func94 z z (lb z) fun fn hr=>Ws<|E z (fb z) ?_
 rintro _ wn ⟨rfl,al⟩;have h2:=al.below;have hv:Blk wn w0.z [sl A0 N0 C0]:=al.blk;refine E z (fa a_s) ?_;rintro _ I ⟨rfl,am⟩;have h1:=am.below;have ho:Blk I wn.z [vI 0,sl none 0 0,sl none 0 0]:=am.blk;refine Ra z<|Rw z<|Wq ?_
 obtain ⟨bj,af,be⟩:=bdS hm;refine Wt (fun a w=>∃(xb:Int)(xw:List UInt8)(xx:List Val)(xc:Int)(xd:Int),(xb,xw,xx,xc,xd)=bj/\∃ae nf cg J ah ni cj L O,Sat 32 [(1,sl A3 N3 C3),(4,pt wn.z),(7,pt O),(8,vI xc),(9,vI xd)] a/\Below I.z I w/\inI xb/\a_ w J (sl ae nf cg) xw/\J.Nodup/\(∀k∈J,I.z<=k)/\a_ w L (sl ah ni cj) xx/\L.Nodup/\(∀k∈L,I.z<=k)/\(∀k∈L,k∉J)/\inI xc/\inI xd/\Blk w O [vI xb,sl ae nf cg,sl ah ni cj]/\I.z<=O/\(∀k∈J,k∉[O])/\(∀k∈L,k∉[O])) ?_ ?_
 ·refine Wd (X:=fun k=>k∈([]:List Nat)∨I.z<=k) 0 (.rd 0<|.rd 1<|.rd 3<|.br 2 (.br 4 (.rd 5<|.rd 6<|.rd 7<|.rd 8<|.ef 9<|.ef 10<|.rd 11<|.rd 12 .done) 9<|.ef 4<|.rd 5<|.rd 6<|.rd 7<|.rd 8<|.ef 10<|.rd 11<|.rd 12 .done) 9<|.ef 2<|.ef 4<|.rd 5<|.rd 6<|.rd 7<|.rd 8<|.ef 10<|.rd 11<|.rd 12 .done) mo (by kernel_rfl) fun an G _=>?_
  have ao:=(hv.e h1).e G;refine dR z z (lN (vs:=[sl A0 N0 C0]) J_ E_ z z (e_6 nm0<|Nat.lt_of_lt_of_le hv.lt h1.s)<|ao.row 0 1 z)<|dR z z (lN (vs:=[sl A0 N0 C0]) J_ E_ z z (e_6 nm0<|Nat.lt_of_lt_of_le hv.lt h1.s)<|ao.row 0 1 z)<|dM z z z<|e_u ?_ ?_
  ·have hy:=((h2.ag B).e h1).e G;have hz:=lt_ (lt_ h2.s h1.s) G.s;obtain ⟨_,bk,ai⟩:=bdS af;refine dE z z (fc call96 z<|m_z bk (zt' hBw hz)<|p1_0.g hy) (.inr fun _ _ h=>F_<|h.1) ?_;rintro _ ap ⟨s3,rfl,aq⟩;refine e_u ?_ ?_
   ·have ar:=hy.e s3;obtain ⟨rp,bm,bn,bo,bf⟩:=V_ ai;refine dE z z (fc call156 z<|m_I bo (zt' hBw<|lt_ hz s3.s) ((((hG.e h2).e h1).e G).e s3) (p1_0.g ar) aq (p2_0.g ar)<|ii z) (.inr fun _ _ h=>F_<|h.1) ?_;rintro _ au ⟨av,aw,ax,ay,bp,az,aA,aB,bq,rfl,bt,aC,aD,bu,bv,W,aE⟩;refine dM z z z ?_
    iterate 3 refine dR z z (ext_ z z) ?_
    refine dE z z (fa a_s) (.inr fun _ _ h=>F_<|h.2.below) ?_;rintro _ bw ⟨rfl,aF⟩;have Y:=aF.below;have a0:=lt_ G.s s3.s;have a1:=m1<|lt_ a0 av.s
    refine dE0 z (fs (cur':=[vI rp.number,sl aw ax ay,sl az aA aB]) k_ z z (aF.blk:Blk bw au.z [vI 0,sl none 0 0,sl none 0 0]) z (lb z) (oA z) z) (.inr fun _ _ h=>c_P (atp a1) h.2) ?_;rintro _ _ ⟨bx,bz⟩;have a2:=bz.one;refine dQ z z z<|dQ z z z<|pD ?_
    have aG:=mnr<|a_.lt aC
    have aH:=mnr<|a_.lt aD
    exact fun _ q=>⟨rp.number,rp.bytes,rp.items,bm,bn,som bf,aw,ax,ay,bp,az,aA,aB,bq,au.z,q.k<|s5 z z z z z,bM (bup (bup (bup G s3) av) Y) a2 a1,bt,(aC.e Y).c a2<|ds aG,nl_ W,s_ (al_ aE) a0,(aD.e Y).c a2<|ds aH,nr_ W,s_ (ar_ aE) a0,ds<|nj W,bu,bv,bx,atp a1,ds aG,ds aH⟩
   refine dE z z (fa a_s) (.inr fun _ _ h=>F_<|h.2.below) ?_;rintro _ bA ⟨rfl,aI⟩;have hk:=aI.below;have a3:Blk bA ap.z [vI 0,sl none 0 0,sl none 0 0]:=aI.blk;have aJ:=(hy.e s3).e hk;obtain ⟨rq,bB,bC,bD,bg⟩:=V_ ai;refine dE z z (fc call156 z<|m_I bD (zt' hBw<|lt_ (lt_ hz s3.s) hk.s) (((((hG.e h2).e h1).e G).e s3).e hk) (p1_0.g aJ) aq (p2_0.g aJ)<|ii z) (.inr fun _ _ h=>F_<|h.1) ?_;rintro _ _ ⟨aK,aL,aM,aN,bE,aO,aP,aQ,bF,rfl,bG,bH,bI,bJ,bK,a4,ht⟩;refine dM z z z ?_
   iterate 3 refine dR z z (ext_ z z) ?_
   have aR:=lt_ G.s s3.s;have a5:=m1 aR;refine dE0 z (fs (cur':=[vI rq.number,sl aL aM aN,sl aO aP aQ]) k_ z z (a3.e aK) z (lb z) (oA z) z) (.inr fun _ _ h=>c_P (atp a5) h.2) ?_;rintro _ _ ⟨bL,bN⟩;have a6:=bN.one;refine dQ z z z<|dQ z z z<|pD ?_
   have aS:=r_ (al_ ht) a3.lt lr;have aT:=lt_ aR hk.s;have aU:=r_ (ar_ ht) a3.lt lr;exact fun _ q=>⟨rq.number,rq.bytes,rq.items,bB,bC,som bg,aL,aM,aN,bE,aO,aP,aQ,bF,ap.z,q.k<|s5 z z z z z,bM (bup (bup (bup G s3) hk) aK) a6 a5,bG,bH.c a6 aS,nl_ a4,s_ (al_ ht) aT,bI.c a6 aU,nr_ a4,s_ (ar_ ht) aT,ds<|nj a4,bJ,bK,bL,atp a5,aS,aU⟩
  refine dE z z (fa a_s) (.inr fun _ _ h=>F_<|h.2.below) ?_;rintro _ bO ⟨rfl,aV⟩;have hl:=aV.below;have a7:Blk bO an.z [vI 0,sl none 0 0,sl none 0 0]:=aV.blk;have aW:=(((h2.ag B).e h1).e G).e hl;have aX:=lt_ (lt_ (lt_ h2.s h1.s) G.s) hl.s;obtain ⟨_,bQ,bh⟩:=bdS af;refine dE z z (fc call96 z<|m_z bQ (zt' hBw aX)<|p1_0.g aW) (.inr fun _ _ h=>F_<|h.1) ?_;rintro _ _ ⟨s6,rfl,bR⟩;have aY:=aW.e s6;obtain ⟨rr,bS,bT,bU,bi⟩:=V_ bh;refine dE z z (fc call156 z<|m_I bU (zt' hBw<|lt_ aX s6.s) (((((hG.e h2).e h1).e G).e hl).e s6) (p1_0.g aY) bR (p2_0.g aY)<|ii z) (.inr fun _ _ h=>F_<|h.1) ?_;rintro _ _ ⟨aZ,b0,b1,b2,bV,b3,b4,b5,bW,rfl,bX,bY,bZ,c0,c1,a8,hu⟩;refine dM z z z ?_
  iterate 3 refine dR z z (ext_ z z) ?_
  have a9:=m1 G.s;refine dE0 z (fs (cur':=[vI rr.number,sl b0 b1 b2,sl b3 b4 b5]) k_ z z ((a7.e s6).e aZ) z (lb z) (oA z) z) (.inr fun _ _ h=>c_P (atp a9) h.2) ?_;rintro _ _ ⟨c2,c3⟩;have aa:=c3.one;refine dQ z z z<|dQ z z z<|pD ?_
  have b6:=r_ (al_ hu) a7.lt s6.s;have b7:=lt_ (lt_ G.s hl.s) s6.s;have b8:=r_ (ar_ hu) a7.lt s6.s;exact fun _ q=>⟨rr.number,rr.bytes,rr.items,bS,bT,som bi,b0,b1,b2,bV,b3,b4,b5,bW,an.z,q.k<|s5 z z z z z,bM (bup (bup (bup G hl) s6) aZ) aa a9,bX,bY.c aa b6,nl_ a8,s_ (al_ hu) b7,bZ.c aa b8,nr_ a8,s_ (ar_ hu) b7,ds<|nj a8,c0,c1,c2,atp a9,b6,b8⟩
 rintro c4 ws ⟨xb,xw,xx,xc,xd,rfl,ae,nf,cg,J,ah,ni,cj,L,O,_,sm,c5,c6,c7,b9,c8,c9,ba,ca,bb,cb,cc,_,_,_⟩;revert c4;refine Wo<|Wq<|Wq ?_
 obtain ⟨cd,aj,ak⟩:=bdS<|un5S be;refine Wt (fun a w=>∃(ab:Bool),ab=cd/\Sat 32 [(4,pt wn.z),(7,pt O),(8,vI xc),(9,vI xd),(26,vB ab)] a/\Below ws.z ws w) ?_ ?_
 ·refine Wg<|Rm z<|Rq z z z<|Rm z ?_
  rcases bs (xd==0) with H | H
  ·exact Rh z H (mv z)<|Rh z H (mv z)<|Rh z H (lnR j_ z<|p2_0.g<|((h2.ag B).e h1).e sm)<|Rh z H (lss z z)<|R z (pT z H z)<|Wl (fun _ q=>⟨decide<|xc<(x2.length:Int),som<|ifT aj H,q.k<|s5 z z z z z,br ws⟩)
  iterate 4 refine Nh z H ?_
  exact R z (pF z H z)<|Wl (fun _ q=>⟨false,som<|ifF aj H,q.k<|s5 z z z z z,br ws⟩)
 rintro ce _ ⟨ab,rfl,_,sa⟩;revert ce;refine Wo<|Wc z (fun V=>?_) (fun V=>?_)
 ·refine Ws<|R z (bP (parts:=[]) (cs:=[vI 0,sl none 0 0,sl none 0 0]) a_7 z z)<|Rm z<|E0 (fs (cur':=[vI 0,sl none 0 0,sl none 0 0]) k_ z z ((ho.e sm).e sa) z (lb z) (oA z) z) ?_
  rintro _ _ ⟨cf,ch⟩;refine Ra z<|Rw z ?_
  obtain rfl:=som<|ifT ak V;exact Wr<|y_ hr (p_ D_ k_ z cf z) z z ⟨bM (bup (bup (bup h2 h1) sm) sa) ch.one<|m1 h2.s,none,0,0,[],none,0,0,[],z,ii z,onL,onL,bb,ii z,nd0,al0⟩
 refine Wk<|Ws<|R z (lN (vs:=[vI xb,sl ae nf cg,sl ah ni cj]) D_ k_ z z fid<|(cc.e sa).row 0 3 z)<|RM z z<|E0 (fs (cur':=[vI xb,sl ae nf cg,sl ah ni cj]) k_ z z ((ho.e sm).e sa) z (lb z) (oA z) z) ?_
 rintro _ _ ⟨ci,ck⟩;have ad:=ck.one;refine Ra z<|Rw z ?_
 obtain rfl:=som<|ifF ak V;have bc:=lt_ h2.s h1.s;exact Wr<|y_ hr (p_ D_ k_ z ci z) z z ⟨bM (bup (bup (bup h2 h1) sm) sa) ad<|m1 h2.s,ae,nf,cg,J,ah,ni,cj,L,z,c5,(c6.e sa).c ad<|r_ b9 ho.lt lr,(c8.e sa).c ad<|r_ ba ho.lt lr,bb,cb,na_ c7 c9<|ds ca,aa_ (s_ b9 bc)<|s_ ba bc⟩
theorem W_w3w {x1:e_}{x2:List UInt8}{res:Bool}(hm:i_r n x1 x2=some res)(hBw:B<=w0.z)(hG:Gl w0 B)(p1_0:repS w0 B (sl A0 N0 C0) x1.rules)(p2_0:repS w0 B (sl A3 N3 C3) x2):h_ prog 61 [(.agg #[sl A0 N0 C0]),sl A3 N3 C3] w0 (Q11 w0 B res):=by
 unfold i_r at hm
 refine goF func61 z z (lb z) fun fn hr=>Ws<|E z (fb z) ?_
 rintro _ H ⟨rfl,h1⟩;have h:=h1.below;refine Rw z<|Ws<|R z (lN (vs:=[sl A0 N0 C0]) J_ E_ z z fid<|(h1.blk:Blk H w0.z [sl A0 N0 C0]).row 0 1 z)<|Rm z ?_
 obtain ⟨I,_,_,J,G⟩:=V_ hm;refine E z (fc call94 z<|W_w1t J (zt' hBw h.s) (hG.e h) (p1_0.e h)<|p2_0.e h) ?_;rintro _ L ⟨s2,aa,nb,cc,_,ad,ne,cf,_,rfl,_,_,_,_,_,_,_⟩;refine Rm z ?_
 iterate 3 refine Re z z z ?_
 refine E z (fa a_s) ?_;rintro _ wg ⟨rfl,h3⟩;refine E0 (fs (cur':=[vI I.number,sl aa nb cc,sl ad ne cf]) k_ z z (h3.blk:Blk wg L.z [vI 0,sl none 0 0,sl none 0 0]) z (lb z) (oA z) z) ?_;rintro _ _ ⟨_,si⟩;refine Ra z<|Rw z<|Wm z<|Rq z z z<|Rw z ?_
 obtain rfl:=som G;exact Wr<|c_ hr z ⟨bM (bup (bup h s2) h3.below) si.one<|m1<|lt_ h.s s2.s,z⟩
theorem W_w3x {x1:L_}{res:Bool}(hm:j_7 n x1=some res)(hBw:B<=w0.z)(hG:Gl w0 B)(p1_0:repS w0 B (sl A0 N0 C0) x1.registry.versions)(p1_1:repS w0 B (sl A1 N1 C1) x1.log.bytes)(p1_2:inI x1.log.stored):h_ prog 148 [(.agg #[sl A0 N0 C0,sl A1 N1 C1,vI x1.log.stored])] w0 (Q11 w0 B res):=by
 unfold j_7 at hm
 refine goF func148 z z (lb z) fun fn hr=>Ws<|E z (fb z) ?_
 rintro _ wh ⟨rfl,hq⟩;have h2:=hq.below;have hg:Blk wh w0.z [sl A0 N0 C0,sl A1 N1 C1,vI x1.log.stored]:=hq.blk;refine Rw z<|Wq<|Wq ?_
 obtain ⟨aA,al,hmr⟩:=bdS hm;refine Wt (fun a w=>∃(xj:Bool),xj=aA/\Sat 60 [(1,pt w0.z),(21,vB xj)] a/\Below wh.z wh w) ?_ ?_
 ·refine Wg<|Rf z d_v z<|R z (lN (vs:=[sl A0 N0 C0]) f_x e_m z z fid<|hg.row 0 1 z) ?_
  obtain ⟨aB,aC,hms⟩:=bdS al;refine E z (fc call181 z<|W_w3h (B:=B) (x1:=(⟨x1.registry.versions⟩:a_j)) aC (zt' hBw h2.s)<|p1_0.e h2) ?_;rintro _ _ ⟨sc,rfl⟩;refine R z (not_ z)<|Rm z ?_
  rcases bs (!aB) with I | I
  ·iterate 4 refine Nh z I ?_
   exact R z (pT z I z)<|Rm z<|Nh z z<|Nh z z<|Nh z z<|R z (pT z z z)<|Wl (fun _ q=>⟨true,som<|ifT hms I,q.k<|s2 z z,sc⟩)
  refine Rh z I (fd d_d z) ?_;have ht:=hg.e sc;refine Rh z I (lN (vs:=[sl A1 N1 C1,vI x1.log.stored]) e_S d_V z z fid<|ht.row 1 2 z) ?_;have hu:=(h2.ag B).e sc;have hv:=lt_ h2.s sc.s;obtain ⟨aD,aE,hmw⟩:=bdS<|ifF hms I;refine Eg z z I z (fc call182 z<|W_w1j (B:=B) (x1:=(⟨x1.log.bytes,x1.log.stored⟩:Log)) aE (zt' hBw hv) (p1_1.g hu) p1_2) ?_;rintro _ _ ⟨sf,rfl⟩;refine Rh z I (not_ z)<|R z (pF z I z)<|Rm z ?_
  rcases bs (!aD) with J | J
  ·iterate 3 refine Nh z J ?_
   exact R z (pT z J z)<|Wl (fun _ q=>⟨true,som<|ifT hmw J,q.k<|s2 z z,bup sc sf⟩)
  have hx:=hu.e sf;obtain ⟨aF,aG,am⟩:=bdS<|ifF hmw J;refine Eg z z J z (fc call183 z<|W_w1l (B:=zn B w0.z wh.z) aG (g_6 (zt' hBw<|lt_ hv sf.s)<|lt_ sc.s sf.s) (repS.mono (p1_0.g hx) d_k) (repS.mono (p1_1.g hx) d_k) p1_2 ((ht.e sf).row 0 3 z)<|atp<|zin (B:=B) (d_ lr)<|d_ hg.lt) ?_;rintro _ _ ⟨aH,_,_,_,rfl,aI⟩;exact Rh z J (lnR c_7 z aI)<|Rh z J (Z_ z z)<|R z (pF z J z)<|Wl (fun _ q=>⟨decide<|20<(aF.length:Int),som am,q.k<|s2 z z,bup (bup sc sf) aH⟩)
 rintro aJ _ ⟨xj,rfl,_,s7⟩;revert aJ;refine Wo<|Wc z (fun hck=>?_) (fun hck=>?_)
 ·refine Ws<|Rw z ?_
  obtain rfl:=som<|ifT hmr hck;exact Wr<|c_ hr z ⟨bup h2 s7,z⟩
 refine Wk<|Ws<|Rf z d_d z<|Rf z c_k z ?_
 have hy:=hg.e s7;refine R z (l0 M_ z<|hy.at z) ?_;have hz:=(h2.ag B).e s7;have hl:=lt_ h2.s s7.s;obtain ⟨a1,_,aK,an⟩:=a_k<|ifF hmr hck;refine E z (fc call184 z<|W_w1k aK (zt' hBw hl)<|p1_1.g hz) ?_;rintro _ wd ⟨s8,a2,a3,a4,_,rfl,hi,_,_,_⟩;refine Rm z<|Re z z z<|Re z z z<|Ra z<|Rw z<|Wq<|Wm z<|R z (lnR c_I z<|a_.rep hi)<|Rm z<|Wn ?_
 obtain ⟨_,ao,O⟩:=bdS an;refine Wf (σ:=Unit) (ρ:=Bool) (fun (km:Nat)(_:Unit) a w=>Sat 60 [(1,pt w0.z),(29,sl a2 a3 a4),(30,vI (a1.length:Int)),(31,vI ((km:Nat):Int))] a/\Below wd.z wd w) (fun (_:Unit) a w=>Sat 60 [] a/\Below wd.z wd w) (fun r ex a w=>ex = .ret/\w_ prog fn (Q11 w0 B r) a w) ao ?_ ?_ ?_ ?_ ?_
 ·exact fun _ q=>⟨q.k<|s4 z z z z,br wd⟩
 ·rintro km _ _ a5 _ V ⟨ap,s3⟩ aq;refine Wu ?_ ap;refine Ws<|Rl z z z<|Wn<|Wq<|Wc z (fun _=>?_) (fun hc=>(P_ V hc).elim)
  refine Wk<|Wq<|Wb<|Ws ?_
  obtain ⟨xe,aL,ar⟩:=bdS aq;refine RX z (at_ (α:=o_) c_I a_9 z z z (or_ (hi.e s3)<|a_.lt hi) aL) ?_;rintro _ ⟨_,_,_,rfl,aM,aN,_⟩;obtain ⟨a6,a7,a8,rfl,_,_,aO,aP⟩:=f_c aN;refine R z (lN (vs:=[vI xe.kind,Str.v xe.name,vI xe.version,sl a6 a7 a8]) b_p a_9 z z fid aM)<|E z (fa e_o) ?_
  rintro _ aQ ⟨rfl,a9⟩;have L:=a9.below;refine E0 (fs (cur':=[vI xe.kind,Str.v xe.name,vI xe.version,sl a6 a7 a8]) a_9 z z (a9.blk:Blk aQ a5.z [vI 0,Str.v (⟨[]⟩:Str),vI 0,sl none 0 0]) z (lb z) (oA z) z) ?_;rintro _ aa ⟨aR,aS⟩;have ha:=aS.one;refine Wn<|Wq ?_
  obtain ⟨aT,W,Y⟩:=bdS ar;refine Wt (fun a w=>∃(xn:Bool),xn=aT/\Sat 60 [(1,pt w0.z),(29,sl a2 a3 a4),(30,vI (a1.length:Int)),(31,vI ((km:Nat):Int)),(58,vB xn)] a/\Below aa.z aa w) ?_ ?_
  ·refine Wd (X:=noX) 0 (pl_ 24 [8,20]) mo (by kernel_rfl) fun ba s6 _=>dR z z (fd d_a z) ?_
   have ho:=aR.e s6;refine dR z z (l0 g_3 z<|ho.at z)<|dR z z (eql z z)<|dM z z z ?_
   rcases bs (xe.kind==1) with G | G
   ·refine dRg z z z G z (fd d_v z) ?_;have ab:=((((hy.e s8).e s3).e L).c ha<|djs<|mm1 hg.lt<|lt_ (lt_ s7.s s8.s) s3.s).e s6;refine dRg z z z G z (lN (vs:=[sl A0 N0 C0]) f_x e_m z z fid<|ab.row 0 1 z)<|dRg z z z G z (fd d_b z)<|dRg z z z G z (l0 g_3 z<|ho.at z) ?_
    have ad:=lt_ hl s8.s;have ae:=lt_ ad s3.s;have af:∀k∈[a5.z],¬B k:=or0 (d_ lr)<|n_<|zt' hBw ae;have ah:=((((hz.e s8).e s3).e L).c ha<|f_ af).e s6;obtain ⟨aU,aV,a0⟩:=bdS<|ifT W G;refine dEg z z z G z (fc call185 z<|W_w3u (B:=B) (x1:=(⟨x1.registry.versions⟩:a_j)) aV (zt' hBw<|lt_ (lt_ (lt_ ae L.s) ha.s) s6.s) (p1_0.g ah) aO) (.inr fun _ _ h=>F_<|h.1) ?_;rintro _ _ ⟨sb,rfl⟩;refine dRg z z z G z (not_ z)<|dRg z z z G z (mv z) ?_
    rcases bs (!aU) with H | H
    ·iterate 9 refine dRn z z z H z ?_
     exact dEn z z z H z<|dRn z z z H z<|dRg z z z G z (pT z H z)<|dR z z (pT z G z)<|pD (fun _ q=>⟨true,som<|ifT a0 H,q.k<|s5 z z z z z,bup s6 sb⟩)
    refine dRg z z z H z (fd d_v z)<|dRg z z z H z (fd c_j z)<|dRg z z z H z (l0 c_v z<|(ab.e sb).at z)<|dRg z z z H z (fd d_b z) ?_
    have ai:=ho.e sb;refine dRg z z z H z (l0 g_3 z<|ai.at z) ?_;obtain ⟨_,aW,au⟩:=bdS<|ifF a0 H;refine a_K z z z H z (at_ (α:=e_) b_B E_ z z z (p1_0.g<|ah.e sb) aW) ?_;rintro _ ⟨_,_,_,rfl,aX,aY,_⟩;obtain ⟨aZ,b0,b1,rfl,b2⟩:=d_B aY;refine dRg z z z H z (lN (vs:=[sl aZ b0 b1]) J_ E_ z z fid aX)<|dRg z z z H z (fd d_T z)<|dRg z z z H z (l0 M_ z<|ai.at z) ?_
    have aj:=zt' hBw ad;obtain ⟨b3,b4,av⟩:=bdS au;refine dEg z z z H z (fc call61 z<|W_w3w (B:=wd.z) b4 (a_T<|lt_ (lt_ (lt_ (lt_ s3.s L.s) ha.s) s6.s) sb.s) (((((((((hG.e h2).e s7).e s8).e s3).e L).c ha<|f_ af).e s6).e sb).mono aj) (repS.mono b2 aj)<|aP.g<|(((L.ag<|bl wd.z).c ha<|lg<|m1 s3.s).e s6).e sb) (.inr fun _ _ h=>F_<|h.1) ?_;rintro _ _ ⟨b5,rfl⟩;exact dRg z z z H z (not_ z)<|dRg z z z G z (pF z H z)<|dR z z (pT z G z)<|pD (fun _ q=>⟨!b3,som av,q.k<|s5 z z z z z,bup (bup s6 sb) b5⟩)
   iterate 4 refine dRn z z z G z ?_
   refine dEn z z z G z<|dRn z z z G z<|dRn z z z G z ?_
   iterate 9 refine dRu z z z z ?_
   exact dEu z z z z<|dRu z z z z<|dRn z z z G z<|dR z z (pF z G z)<|pD (fun _ q=>⟨false,som<|ifF W G,q.k<|s5 z z z z z,s6⟩)
  rintro b6 _ ⟨xn,rfl,_,ak⟩;revert b6;refine Wo<|Wc z (fun hcp=>?_) (fun hcp=>?_)
  ·exact Ws<|Rw z<|Wr<|rtO<|qL (som<|ifT Y hcp).symm<|c_ hr z ⟨bup (bM (bup (bup (bup (bup h2 s7) s8) s3) L) ha<|m1<|lt_ (lt_ hl s8.s) s3.s) ak,z⟩
  exact Wk<|Wg<|R z (inc_ V (lt_ (a_.len hi) A_) z z)<|Rm z<|Wl (fun _ q=>⟨(),(som<|ifF Y hcp).symm,⟨q.k<|s4 z z z z,bup (bM (bup s3 L) ha<|m1 s3.s) ak⟩⟩)
 ·rintro _ _ _ ⟨aw,b7⟩;refine Wu ?_ aw;refine Ws<|Rl z z z<|Wn<|Wq<|Wc z (fun hc=>(Q_ hc).elim) (fun _=>?_)
  exact We<|fun a' ha'=>⟨rfl,⟨Sat.weaken ha' sn,b7⟩⟩
 ·rintro _ b8 _ rfl ⟨_,b9⟩;have ax:=elL O;revert b8;refine Wo<|Ws<|Rw z ?_
  obtain rfl:=som ax;exact Wr<|c_ hr z ⟨bup (bup (bup h2 s7) s8) b9,z⟩
 rintro _ _ _ _ rfl ⟨rfl,ay⟩;have az:=elR O;obtain rfl:=som az;exact ⟨ay,z⟩
theorem W_w3y {x1:L_}{res:(List q_)}(hm:l_5 n x1=some res)(hBw:B<=w0.z)(p1_0:repS w0 B (sl A0 N0 C0) x1.registry.versions)(p1_1:repS w0 B (sl A1 N1 C1) x1.log.bytes)(p1_2:inI x1.log.stored):h_ prog 149 [(.agg #[sl A0 N0 C0,sl A1 N1 C1,vI x1.log.stored])] w0 (Q15 w0 B res):=by
 unfold l_5 at hm
 refine goF func149 z z (lb z) fun fn hr=>Ws<|E z (fb z) ?_
 rintro _ I ⟨rfl,h5⟩;have h1:=h5.below;have h2:Blk I w0.z [sl A0 N0 C0,sl A1 N1 C1,vI x1.log.stored]:=h5.blk;refine Rw z<|Wq<|Ws<|Rf z d_d z<|R z (lN (vs:=[sl A1 N1 C1,vI x1.log.stored]) e_S d_V z z fid<|h2.row 1 2 z) ?_
 obtain ⟨_,eb,H⟩:=bdS hm;refine E z (fc call182 z<|W_w1j (B:=B) (x1:=(⟨x1.log.bytes,x1.log.stored⟩:Log)) eb (zt' hBw h1.s) (p1_1.e h1) p1_2) ?_;rintro _ _ ⟨h,rfl⟩;refine R z (not_ z)<|Wx z (fun G=>?_) (fun G=>?_)
 ·refine Ws<|E z (f0 (α:=q_) c_i) ?_
  rintro _ _ ⟨ac,nd,ce,rfl,sf,J⟩;refine Rw z ?_
  obtain rfl:=som<|ifT H G;exact Wr<|c_ hr z ⟨bup (bup h1 h) sf,ac,nd,ce,z,repS.mono (or_ J<|zin (B:=B) (d_ lr)<|a_.lt J)<|c_3 (lt_ h1.s h.s) lr⟩
 refine Wk<|Ws ?_
 have L:=(h1.ag B).e h;have O:=lt_ h1.s h.s;obtain ⟨_,eg,hmh⟩:=bdS<|ifF H G;refine E z (fc call183 z<|W_w1l (B:=zn B w0.z I.z) eg (g_6 (zt' hBw O) h.s) (repS.mono (p1_0.g L) d_k) (repS.mono (p1_1.g L) d_k) p1_2 ((h2.e h).row 0 3 z)<|atp<|zin (B:=B) (d_ lr)<|d_ h2.lt) ?_;rintro _ _ ⟨sa,ai,nj,ck,rfl,hl⟩;refine Rw z ?_
 obtain rfl:=som hmh;exact Wr<|c_ hr z ⟨bup (bup h1 h) sa,ai,nj,ck,z,repS.mono hl<|zns (zns d_k<|znI lr<|lt_ h.s sa.s)<|znI O lr⟩
theorem W_w3z {x1:L_}{res:(List q_)}(hm:j_8 n x1=some res)(hBw:B<=w0.z)(hG:Gl w0 B)(p1_0:repS w0 B (sl A0 N0 C0) x1.registry.versions)(p1_1:repS w0 B (sl A1 N1 C1) x1.log.bytes)(p1_2:inI x1.log.stored):h_ prog 84 [(.agg #[sl A0 N0 C0,sl A1 N1 C1,vI x1.log.stored])] w0 (Q15 w0 B res):=by
 unfold j_8 at hm
 refine goF func84 z z (lb z) fun fn hr=>Ws<|E z (fb z) ?_
 rintro _ L ⟨rfl,h3⟩;have h:=h3.below;have h4:Blk L w0.z [sl A0 N0 C0,sl A1 N1 C1,vI x1.log.stored]:=h3.blk;refine Rw z<|Wq<|Ws<|R z (lN (vs:=[sl A0 N0 C0,sl A1 N1 C1,vI x1.log.stored]) e_i d_w z z fid<|h4.row 0 3 z) ?_
 obtain ⟨_,ea,H⟩:=bdS hm;refine E z (fc call148 z<|W_w3x ea (zt' hBw h.s) (hG.e h) (p1_0.e h) (p1_1.e h) p1_2) ?_;rintro _ _ ⟨s1,rfl⟩;refine R z (not_ z)<|Wx z (fun G=>?_) (fun G=>?_)
 ·refine Ws<|E z (f0 (α:=q_) c_i) ?_
  rintro _ _ ⟨ab,nc,cd,rfl,se,h6⟩;refine Rw z ?_
  obtain rfl:=som<|ifT H G;exact Wr<|c_ hr z ⟨bup (bup h s1) se,ab,nc,cd,z,repS.mono (or_ h6<|zin (B:=B) (d_ lr)<|a_.lt h6)<|c_3 (lt_ h.s s1.s) lr⟩
 refine Wk<|Ws<|R z (lN (vs:=[sl A0 N0 C0,sl A1 N1 C1,vI x1.log.stored]) e_i d_w z z fid<|(h4.e s1).row 0 3 z) ?_
 have I:=(h.ag B).e s1;have J:=lt_ h.s s1.s;obtain ⟨_,ef,hmg⟩:=bdS<|ifF H G;refine E z (fc call149 z<|W_w3y ef (zt' hBw J) (p1_0.g I) (p1_1.g I) p1_2) ?_;rintro _ _ ⟨sh,ai,nj,ck,rfl,hl⟩;refine Rw z ?_
 obtain rfl:=som hmg;exact Wr<|c_ hr z ⟨bup (bup h s1) sh,ai,nj,ck,z,repS.mono hl<|c_3 J lr⟩
def Q31 (w0:World)(B:Zone)(r:U_)(v:Value)(w':World):Prop:=Bw w0 w'/\(fun h=>(.agg #[vI h.at_,vI h.code])=v/\inI h.at_/\inI h.code) r
theorem h_I {x1:a_3}{b1 o1:Nat}{x2:Int}{x3:Int}{res:U_}(hm:e_t x1 x2 x3=some res)(hBw:B<=w0.z)(p1_0:repS w0 B (sl A0 N0 C0) x1.d.rules)(p1_1:repS w0 B (sl A1 N1 C1) x1.b)(p1_2:inI x1.applied)(hC1:S_ w0 b1 o1 [sl A0 N0 C0,sl A1 N1 C1,vI x1.applied])(hC1b:B b1)(p2_0:inI x2)(p3_0:inI x3):h_ prog 240 [(.pointer<|some ⟨b1,o1,none⟩),vI x2,vI x3] w0 (Q31 w0 B res):=by
 unfold e_t at hm
 refine goF func240 z z (lb z) fun fn hr=>Ws<|E z (fa b_U) ?_
 rintro _ H ⟨rfl,h2⟩;have h:=h2.below;have h3:Blk H w0.z [vI 0,vI 0]:=h2.blk;refine Wn<|Wq<|Wm z<|Rm z<|R z (a_6 z)<|Rf z e_j z<|R z (l0 M_ z<|(hC1.e h).at (j:=1) z)<|R z (lnR j_ z<|p1_1.e h)<|Rm z<|R z (sb_ z z)<|R z (Z_ z z)<|Wx z (fun G=>?_) (fun G=>?_)
 ·refine Wm z<|R z (bP (parts:=[(0,.tmp 16),(1,.const<|.int .i64 1)]) (cs:=[vI x2,vI 1]) d_8 z z)<|E0 (fs (cur':=[vI x2,vI 1]) C_ z z h3 z (lb z) (oA z) z) ?_
  rintro _ _ ⟨h5,s6⟩;refine Wn ?_;obtain rfl:=som<|ifT hm G;exact Wr<|c_ hr (p_ a_m C_ z h5 z) ⟨bM h s6.one<|d_ lr,z,p2_0,ii z⟩
 refine Wk<|Wm z<|Rm z<|R z (add_ z z)<|R z (bP (parts:=[(0,.tmp 20),(1,.const<|.int .i64 0)]) (cs:=[vI (b_ x2 x3),vI 0]) d_8 z z)<|E0 (fs (cur':=[vI (b_ x2 x3),vI 0]) C_ z z h3 z (lb z) (oA z) z) ?_
 rintro _ _ ⟨I,s8⟩;refine Wn ?_;obtain rfl:=som<|ifF hm G;exact Wr<|c_ hr (p_ a_m C_ z I z) ⟨bM h s8.one<|d_ lr,z,iA _ _,ii z⟩
def Q32 (w0:World)(g1:Nat)(B:Zone)(A0:Option Addr)(N0 C0:Nat)(A1:Option Addr)(N1 C1:Nat)(x1:a_3)(r:Int×U_×Int)(v:Value)(w':World):Prop:=Chg (· ∈ [g1]) w0 w'/\un3 (fun G h H=>v = .tuple #[vI G,(.agg #[vI h.at_,vI h.code])]/\inI G/\inI h.at_/\inI h.code/\inI H/\Blk w' g1 [sl A0 N0 C0,sl A1 N1 C1,vI H]) r
theorem k_D {x1:a_3}{g1:Nat}{x2:Int}{x3:Int}{res:Int×U_×Int}(hm:f_3 x1 x2 x3=some res)(hB1:Blk w0 g1 [sl A0 N0 C0,sl A1 N1 C1,vI x1.applied])(hBw:B<=w0.z)(hBg:¬B g1)(p1_0:repS w0 B (sl A0 N0 C0) x1.d.rules)(p1_1:repS w0 B (sl A1 N1 C1) x1.b)(p1_2:inI x1.applied)(p2_0:inI x2)(p3_0:inI x3):h_ prog 238 [pt g1,vI x2,vI x3] w0 (Q32 w0 g1 B A0 N0 C0 A1 N1 C1 x1 res):=by
 unfold f_3 at hm
 refine goF func238 z z (lb z) fun fn hr=>Ws<|Ra z<|E z (fa b_U) ?_
 rintro _ wf ⟨rfl,ho⟩;have hb:=ho.below;have I:Blk wf w0.z [vI 0,vI 0]:=ho.blk;refine Wn<|Wm z<|R z (a_6 z)<|Rf z k_o z ?_
 have hp:=hB1.e hb;refine R z (l0 g_3 z<|hp.at z)<|R z (add_ z z)<|R z (a_6 z)<|Rf z k_o z<|E0 (fs (cur':=[sl A0 N0 C0,sl A1 N1 C1,vI<|b_ x1.applied 1]) z_3 z z hp z (lb z) (oA z) z) ?_
 rintro _ J ⟨hq,al⟩;have h1:=al.one;refine Wn<|Wm z<|R z (a_6 z)<|Rf z p_F z<|Rf z a_o z<|R z (l0 a_q z<|hq.at z)<|Rm z ?_
 obtain ⟨xr,am,ai⟩:=bdS hm;have ht:=(hb.ag B).c h1<|f_<|d_ hBg
 refine RX z (at_ (α:=g_) a_b u_ z z z (p1_0.g ht) am) ?_;rintro _ ⟨_,_,_,rfl,an,ao,_⟩;obtain ⟨au,ns,cv,aw,nx,cy,az,O,V,W,Y,a0,rfl,_,_,ap,_,_,_,_⟩:=a_N ao;refine R z (lN (vs:=vR xr au ns cv aw nx cy az O V W Y a0) R_ u_ z z fid an)<|E z (fa c_x) ?_
 rintro _ wg ⟨rfl,a1⟩;have h4:=a1.below;have a2:Blk wg J.z [(Str.v (⟨[]⟩:Str)),vI 0,vI 0,vB false,sl none 0 0,sl none 0 0,sl none 0 0,sl none 0 0]:=a1.blk;refine E0 (fs (cur':=vR xr au ns cv aw nx cy az O V W Y a0) u_ z z a2 z (lb z) (oA z) z) ?_;rintro _ a3 ⟨a4,aq⟩;have h2:=aq.one;refine Wn<|Wm z<|Rm z<|Rf z b_3 z<|R z (l0 g_3 z<|a4.at z) ?_
 have hc:=lt_ hb.s h1.s;have hh:=(hq.e h4).c h2<|djs<|mm1 (Blk.lt hB1) hc
 have hi:=(ht.e h4).c h2<|f_ (or0 (d_ lr) (n_<|zt' hBw hc):∀k∈[J.z],¬B k)
 have hj:=lt_ (lt_ hc h4.s) h2.s;obtain ⟨H,ar,L⟩:=bdS ai;refine E z (fc call240 z<|h_I (B:=w0.z) ar (a_T hj) (repS.mono (p1_0.g hi) hBw) (repS.mono (p1_1.g hi) hBw) (iA _ _) (hh.row 0 3 z) (Blk.lt hB1) p3_0 ap) ?_;rintro _ wa ⟨G,rfl,a5,a6⟩;refine E z (fa b_U) ?_;rintro _ wk ⟨rfl,a7⟩;have h5:=a7.below;refine E0 (fs (cur':=[vI H.at_,vI H.code]) C_ z z (a7.blk:Blk wk wa.z [vI 0,vI 0]) z (lb z) (oA z) z) ?_;rintro _ a8 ⟨hl,av⟩;have h6:=av.one;refine Wn<|Wq<|Ws<|Rf z d_U z<|R z (l0 g_3 z<|hl.at z)<|R z (nq z z)<|Wx z (fun hcm=>?_) (fun hcm=>?_)
 ·refine Wq (Wd (X:=noX) 4 (pl_ 3 [2]) mo (by kernel_rfl) fun ax sd _=>dR z z (lN (vs:=[vI H.at_,vI H.code]) a_m C_ z z fid<|(hl.e sd).row 0 2 z)<|dQ z z z ?_);have a9:=mmr<|Blk.lt hB1
  refine dE0 z (fs (cur':=[vI H.at_,vI H.code]) C_ z z (((((((I.c h1<|atp a9).e h4).c h2<|djs<|mm1 I.lt h1.s).e G).e h5).c h6<|djs<|mm1 I.lt<|lt_ (lt_ (lt_ h1.s h4.s) h2.s) G.s).e sd) z (lb z) (oA z) z) (.inl z) ?_;rintro _ ay ⟨aA,aB⟩;have aa:=aB.one;refine pD<|Wo ?_
  obtain rfl:=som<|ifT L hcm;have ab:=lt_ hj G.s;exact Wr<|Y_ hr z (p_ a_m C_ z aA z) ⟨(cM (i_ (cM (i_ (i_ (cM (i_ (cM (i_ (cr [g1] w0) hb:Chg (· ∈ [g1]) w0 wf) h1 (io sr):Chg (· ∈ [g1]) w0 J) h4:Chg (· ∈ [g1]) w0 wg) h2 (mor hc:∀k∈[J.z],k∈[g1]∨w0.z<=k):Chg (· ∈ [g1]) w0 a3) G:Chg (· ∈ [g1]) w0 wa) h5:Chg (· ∈ [g1]) w0 wk) h6 (mor ab:∀k∈[wa.z],k∈[g1]∨w0.z<=k):Chg (· ∈ [g1]) w0 a8) sd:Chg (· ∈ [g1]) w0 ax) aa (mor lr:∀k∈[w0.z],k∈[g1]∨w0.z<=k):Chg (· ∈ [g1]) w0 ay),z,ii z,a5,a6,iA _ _,((((hh.e G).e h5).c h6<|djs<|mm1 (Blk.lt hB1) ab).e sd).c aa<|djs a9⟩
 refine Wk<|Wq (Wd (X:=noX) 8192 (.rd 0<|.rd 1<|.rd 2<|.rd 3<|.rd 4<|.rd 5<|.rd 6<|.rd 7<|.rd 8<|.rd 9<|.rd 11<|.ef 10<|.rd 12<|.ef 13 .done) mo (by kernel_rfl) fun aC s7 _=>dM z z z<|dR z z (a_6 z)<|dR z z (fd e_j z) ?_)
 have he:=lt_ hj G.s;have ad:=(((hh.e G).e h5).c h6<|djs<|mm1 (Blk.lt hB1) he).e s7;refine dR z z (l0 M_ z<|ad.at z)<|dM z z z<|dR z z (fd d_u z) ?_
 have ae:=hl.e s7;refine dR z z (l0 g_3 z<|ae.at z) ?_;obtain ⟨_,aD,aj⟩:=bdS<|ifF L hcm;refine dRX z z (rX j_ z_5 z z (p1_1.g<|(((hi.e G).e h5).c h6<|f_ (or0 (d_ lr) (n_<|zt' hBw he):∀k∈[wa.z],¬B k)).e s7) z z aD) ?_;rintro _ ⟨_,_,_,rfl,aE⟩;refine dR z z (fd d_c z)<|dR z z (l0 g_4 z<|((((a4.e G).e h5).c h6<|djs<|mm1 a2.lt<|lt_ h2.s G.s).e s7).at z)<|dR z z (lN (vs:=[vI H.at_,vI H.code]) a_m C_ z z fid<|ae.row 0 2 z) ?_
 obtain ⟨_,aF,ak⟩:=bdS aj;refine dE z z (fc call76 z<|m_B aF (zt' hBw<|lt_ (lt_ (lt_ he h5.s) h6.s) s7.s) aE) (.inr fun _ _ h=>F_<|h.1) ?_;rintro _ aG ⟨sn,rfl,aH⟩;refine dQ z z z ?_;have af:=mmr<|Blk.lt hB1
 refine dE0 z (fs (cur':=[vI H.at_,vI H.code]) C_ z z ((((((((I.c h1<|atp af).e h4).c h2<|djs<|mm1 I.lt h1.s).e G).e h5).c h6<|djs<|mm1 I.lt<|lt_ (lt_ (lt_ h1.s h4.s) h2.s) G.s).e s7).e sn) z (lb z) (oA z) z) (.inl z) ?_;rintro _ aI ⟨aJ,aK⟩;have ah:=aK.one;refine pD<|Wo ?_
 obtain rfl:=som ak;exact Wr<|Y_ hr z (p_ a_m C_ z aJ z) ⟨(cM (i_ (i_ (cM (i_ (i_ (cM (i_ (cM (i_ (cr [g1] w0) hb:Chg (· ∈ [g1]) w0 wf) h1 (io sr):Chg (· ∈ [g1]) w0 J) h4:Chg (· ∈ [g1]) w0 wg) h2 (mor hc:∀k∈[J.z],k∈[g1]∨w0.z<=k):Chg (· ∈ [g1]) w0 a3) G:Chg (· ∈ [g1]) w0 wa) h5:Chg (· ∈ [g1]) w0 wk) h6 (mor he:∀k∈[wa.z],k∈[g1]∨w0.z<=k):Chg (· ∈ [g1]) w0 a8) s7:Chg (· ∈ [g1]) w0 aC) sn:Chg (· ∈ [g1]) w0 aG) ah (mor lr:∀k∈[w0.z],k∈[g1]∨w0.z<=k):Chg (· ∈ [g1]) w0 aI),z,aH,a5,a6,iA _ _,(ad.e sn).c ah<|djs af⟩
theorem W_w40 {x1:a_3}{b1 o1:Nat}{x2:g_}{x3:Int}{res:U_}(hm:i_c x1 x2 x3=some res)(hBw:B<=w0.z)(p1_0:repS w0 B (sl A0 N0 C0) x1.d.rules)(p1_1:repS w0 B (sl A1 N1 C1) x1.b)(p1_2:inI x1.applied)(hC1:S_ w0 b1 o1 [sl A0 N0 C0,sl A1 N1 C1,vI x1.applied])(hC1b:B b1)(p2_0:x2.name.b.length<=LEN)(p2_1:inI x2.kind)(p2_2:inI x2.size)(p2_4:repS w0 B (sl A4 N4 C4) x2.bytes)(p2_5:repS w0 B (sl A5 N5 C5) x2.names)(p2_6:repS w0 B (sl A2 N2 C2) x2.tags)(p2_7:repS w0 B (sl A6 N6 C6) x2.kids)(p3_0:inI x3):h_ prog 239 [(.pointer<|some ⟨b1,o1,none⟩),.agg #[Str.v x2.name,vI x2.kind,vI x2.size,vB x2.little,sl A4 N4 C4,sl A5 N5 C5,sl A2 N2 C2,sl A6 N6 C6],vI x3] w0 (Q31 w0 B res):=by
 unfold i_c at hm
 refine goF func239 z z (lb z) fun fn hr=>Ws<|E z (fb z) ?_
 rintro _ H ⟨rfl,hb⟩;have h:=hb.below;refine E z (fa b_U) ?_;rintro _ G ⟨rfl,hd⟩;have h3:=hd.below;have J:Blk G H.z [vI 0,vI 0]:=hd.blk;refine Wn<|Wq<|Ws<|Rf z b_r z ?_
 have he:=(hb.blk:Blk H w0.z (vR x2 A4 N4 C4 A5 N5 C5 A2 N2 C2 A6 N6 C6)).e h3;refine R z (l0 M_ z<|he.at z) ?_;have L:=(h.ag B).e h3;refine R z (lnR j_ z<|p2_4.g L)<|Rm z<|Wn ?_
 obtain ⟨_,hum,hmc⟩:=bdS hm;refine Wf (σ:=Unit) (ρ:=U_) (fun (k5:Nat)(_:Unit) a w=>Sat 50 [(0,.pointer<|some ⟨b1,o1,none⟩),(2,vI x3),(4,pt w0.z),(6,pt H.z),(10,sl A4 N4 C4),(11,vI (x2.bytes.length:Int)),(12,vI ((k5:Nat):Int))] a/\Below G.z G w) (fun (_:Unit) a w=>Sat 50 [(2,vI x3),(4,pt w0.z),(6,pt H.z)] a/\Below G.z G w) (fun r ex a w=>ex = .ret/\w_ prog fn (Q31 w0 B r) a w) hum ?_ ?_ ?_ ?_ ?_
 ·exact fun _ q=>⟨q.k<|s7 z z z z z z z,br G⟩
 ·rintro k5 _ _ _ _ hkf ⟨hSn,s1⟩ hmo;refine Wu ?_ hSn;refine Ws<|Rl z z z<|Wn<|Wq<|Wc z (fun _=>?_) (fun hc=>(P_ hkf hc).elim)
  refine Wk<|Wq<|Wb<|Wm z ?_
  obtain ⟨_,ep,hmg⟩:=bdS hmo;have hh:=L.e s1;refine RX z (at_ (α:=UInt8) j_ z_5 z z z (p2_4.g hh) ep) ?_;rintro _ ⟨_,_,_,rfl,hq,ht,_⟩;obtain rfl:=u8 ht;refine R z (l0 g_5 z<|hq.at0 z)<|Ra z<|Rw z<|Wq<|Wm z<|Rm z<|R z (add_ z z)<|Rm z<|R z (a_6 z)<|Rf z e_j z ?_
  have hi:=((hC1.e h).e h3).e s1;refine R z (l0 M_ z<|hi.at (j:=1) z) ?_;have hj:=p1_1.g hh;refine R z (lnR j_ z hj)<|Rq z z z<|Wx z (fun I=>?_) (fun I=>?_)
  ·refine Wm z<|R z (bP (parts:=[(0,.tmp 26),(1,.const<|.int .i64 1)]) (cs:=[vI x3,vI 1]) d_8 z z)<|E0 (fs (cur':=[vI x3,vI 1]) C_ z z (J.e s1) z (lb z) (oA z) z) ?_
   rintro _ _ ⟨hu,sr⟩;exact Wn<|Wr<|rtO<|qL (som<|ifT hmg I).symm<|c_ hr (p_ a_m C_ z hu z) ⟨bM (bup (bup h h3) s1) sr.one<|m1 h.s,z,p3_0,ii z⟩
  refine Wk<|Wm z<|R z (a_6 z)<|Rf z e_j z<|R z (l0 M_ z<|hi.at (j:=1) z)<|RM z z<|R z (add_ z z) ?_
  obtain ⟨_,es,hmk⟩:=bdS<|ifF hmg I;refine RX z (at_ (α:=UInt8) j_ z_5 z z z hj es) ?_;rintro _ ⟨_,_,_,rfl,hv,hw,_⟩;obtain rfl:=u8 hw;refine R z (l0 g_5 z<|hv.at0 z)<|Rm z<|R z (nq z z)<|Wx z (fun hca=>?_) (fun hca=>?_)
  ·refine Wm z<|Rm z<|R z (add_ z z)<|R z (bP (parts:=[(0,.tmp 41),(1,.const<|.int .i64 2)]) (cs:=[(vI<|b_ x3 ((k5:Nat):Int)),vI 2]) d_8 z z)<|E0 (fs (cur':=[(vI<|b_ x3 ((k5:Nat):Int)),vI 2]) C_ z z (J.e s1) z (lb z) (oA z) z) ?_
   rintro _ _ ⟨hx,sy⟩;exact Wn<|Wr<|rtO<|qL (som<|ifT hmk hca).symm<|c_ hr (p_ a_m C_ z hx z) ⟨bM (bup (bup h h3) s1) sy.one<|m1 h.s,z,iA _ _,ii z⟩
  exact Wk<|Wg<|R z (inc_ hkf (lt_ (repS.len p2_4) A_) z z)<|Rm z<|Wl (fun _ q=>⟨(),(som<|ifF hmk hca).symm,⟨q.k<|s7 z z z z z z z,s1⟩⟩)
 ·rintro _ _ _ ⟨hSz,Y⟩;refine Wu ?_ hSz;refine Ws<|Rl z z z<|Wn<|Wq<|Wc z (fun hc=>(Q_ hc).elim) (fun _=>?_)
  exact We<|fun a' ha'=>⟨rfl,⟨Sat.weaken ha'<|s3 z z z,Y⟩⟩
 ·rintro _ a0 _ rfl ⟨_,s6⟩;have O:=elL hmc;revert a0;refine Wo<|Wm z<|Rf z b_r z<|R z (l0 M_ z<|(he.e s6).at z)<|R z (lnR j_ z<|p2_4.g<|L.e s6)<|R z (add_ z z)<|R z (bP (parts:=[(0,.tmp 48),(1,.const<|.int .i64 0)]) (cs:=[(vI<|b_ x3 (x2.bytes.length:Int)),vI 0]) d_8 z z)<|E0 (fs (cur':=[(vI<|b_ x3 (x2.bytes.length:Int)),vI 0]) C_ z z (J.e s6) z (lb z) (oA z) z) ?_
  rintro _ _ ⟨a1,a2⟩;refine Wn ?_;obtain rfl:=som O;exact Wr<|c_ hr (p_ a_m C_ z a1 z) ⟨bM (bup (bup h h3) s6) a2.one<|m1 h.s,z,iA _ _,ii z⟩
 rintro _ _ _ _ rfl ⟨rfl,V⟩;have W:=elR hmc;obtain rfl:=som W;exact ⟨V,z⟩
def Q33 (w0:World)(g1:Nat)(B:Zone)(A0:Option Addr)(N0 C0:Nat)(A1:Option Addr)(N1 C1:Nat)(x1:a_3)(r:U_×Int)(v:Value)(w':World):Prop:=Chg (· ∈ [g1]) w0 w'/\un2 (fun h G=>(.agg #[vI h.at_,vI h.code])=v/\inI h.at_/\inI h.code/\inI G/\Blk w' g1 [sl A0 N0 C0,sl A1 N1 C1,vI G]) r
structure m_J (f:a_3->Int->Int->Option (U_×Int)):Prop where
  run:∀{A0 A1:Option Addr}{N0 C0 N1 C1 g1:Nat}{B:Zone}{x1:a_3}{x2:Int}{x3:Int}{res:U_×Int}{w0:World}(hm:f x1 x2 x3=some res)(hB1:Blk w0 g1 [sl A0 N0 C0,sl A1 N1 C1,vI x1.applied])(hBw:B<=w0.z)(hBg:¬B g1)(p1_0:repS w0 B (sl A0 N0 C0) x1.d.rules)(p1_1:repS w0 B (sl A1 N1 C1) x1.b)(p1_2:inI x1.applied)(p2_0:inI x2)(p3_0:inI x3),h_ prog 193 [pt g1,vI x2,vI x3] w0<|Q33 w0 g1 B A0 N0 C0 A1 N1 C1 x1 res
structure m_K (f:a_3->g_->Int->Option (U_×Int)):Prop where
  run:∀{A0 A1 A4 A5 A2 A6:Option Addr}{N0 C0 N1 C1 g1 N4 C4 N5 C5 N2 C2 N6 C6:Nat}{B:Zone}{x1:a_3}{x2:g_}{x3:Int}{res:U_×Int}{w0:World}(hm:f x1 x2 x3=some res)(hB1:Blk w0 g1 [sl A0 N0 C0,sl A1 N1 C1,vI x1.applied])(hBw:B<=w0.z)(hBg:¬B g1)(p1_0:repS w0 B (sl A0 N0 C0) x1.d.rules)(p1_1:repS w0 B (sl A1 N1 C1) x1.b)(p1_2:inI x1.applied)(p2_0:x2.name.b.length<=LEN)(p2_1:inI x2.kind)(p2_2:inI x2.size)(p2_4:repS w0 B (sl A4 N4 C4) x2.bytes)(p2_5:repS w0 B (sl A5 N5 C5) x2.names)(p2_6:repS w0 B (sl A2 N2 C2) x2.tags)(p2_7:repS w0 B (sl A6 N6 C6) x2.kids)(p3_0:inI x3),h_ prog 241 [pt g1,.agg #[Str.v x2.name,vI x2.kind,vI x2.size,vB x2.little,sl A4 N4 C4,sl A5 N5 C5,sl A2 N2 C2,sl A6 N6 C6],vI x3] w0<|Q33 w0 g1 B A0 N0 C0 A1 N1 C1 x1 res
structure m_L (f:a_3->g_->Int->Option (U_×Int)):Prop where
  run:∀{A0 A1 A4 A5 A2 A6:Option Addr}{N0 C0 N1 C1 g1 N4 C4 N5 C5 N2 C2 N6 C6:Nat}{B:Zone}{x1:a_3}{x2:g_}{x3:Int}{res:U_×Int}{w0:World}(hm:f x1 x2 x3=some res)(hB1:Blk w0 g1 [sl A0 N0 C0,sl A1 N1 C1,vI x1.applied])(hBw:B<=w0.z)(hBg:¬B g1)(p1_0:repS w0 B (sl A0 N0 C0) x1.d.rules)(p1_1:repS w0 B (sl A1 N1 C1) x1.b)(p1_2:inI x1.applied)(p2_0:x2.name.b.length<=LEN)(p2_1:inI x2.kind)(p2_2:inI x2.size)(p2_4:repS w0 B (sl A4 N4 C4) x2.bytes)(p2_5:repS w0 B (sl A5 N5 C5) x2.names)(p2_6:repS w0 B (sl A2 N2 C2) x2.tags)(p2_7:repS w0 B (sl A6 N6 C6) x2.kids)(p3_0:inI x3),h_ prog 242 [pt g1,.agg #[Str.v x2.name,vI x2.kind,vI x2.size,vB x2.little,sl A4 N4 C4,sl A5 N5 C5,sl A2 N2 C2,sl A6 N6 C6],vI x3] w0<|Q33 w0 g1 B A0 N0 C0 A1 N1 C1 x1 res
structure m_M (f:a_3->g_->Int->Option (U_×Int)):Prop where
  run:∀{A0 A1 A4 A5 A2 A6:Option Addr}{N0 C0 N1 C1 g1 N4 C4 N5 C5 N2 C2 N6 C6:Nat}{B:Zone}{x1:a_3}{x2:g_}{x3:Int}{res:U_×Int}{w0:World}(hm:f x1 x2 x3=some res)(hB1:Blk w0 g1 [sl A0 N0 C0,sl A1 N1 C1,vI x1.applied])(hBw:B<=w0.z)(hBg:¬B g1)(p1_0:repS w0 B (sl A0 N0 C0) x1.d.rules)(p1_1:repS w0 B (sl A1 N1 C1) x1.b)(p1_2:inI x1.applied)(p2_0:x2.name.b.length<=LEN)(p2_1:inI x2.kind)(p2_2:inI x2.size)(p2_4:repS w0 B (sl A4 N4 C4) x2.bytes)(p2_5:repS w0 B (sl A5 N5 C5) x2.names)(p2_6:repS w0 B (sl A2 N2 C2) x2.tags)(p2_7:repS w0 B (sl A6 N6 C6) x2.kids)(p3_0:inI x3),h_ prog 243 [pt g1,.agg #[Str.v x2.name,vI x2.kind,vI x2.size,vB x2.little,sl A4 N4 C4,sl A5 N5 C5,sl A2 N2 C2,sl A6 N6 C6],vI x3] w0<|Q33 w0 g1 B A0 N0 C0 A1 N1 C1 x1 res
structure m_N (f:a_3->g_->Int->Option (U_×Int)):Prop where
  run:∀{A0 A1 A4 A5 A2 A6:Option Addr}{N0 C0 N1 C1 g1 N4 C4 N5 C5 N2 C2 N6 C6:Nat}{B:Zone}{x1:a_3}{x2:g_}{x3:Int}{res:U_×Int}{w0:World}(hm:f x1 x2 x3=some res)(hB1:Blk w0 g1 [sl A0 N0 C0,sl A1 N1 C1,vI x1.applied])(hBw:B<=w0.z)(hBg:¬B g1)(p1_0:repS w0 B (sl A0 N0 C0) x1.d.rules)(p1_1:repS w0 B (sl A1 N1 C1) x1.b)(p1_2:inI x1.applied)(p2_0:x2.name.b.length<=LEN)(p2_1:inI x2.kind)(p2_2:inI x2.size)(p2_4:repS w0 B (sl A4 N4 C4) x2.bytes)(p2_5:repS w0 B (sl A5 N5 C5) x2.names)(p2_6:repS w0 B (sl A2 N2 C2) x2.tags)(p2_7:repS w0 B (sl A6 N6 C6) x2.kids)(p3_0:inI x3),h_ prog 244 [pt g1,.agg #[Str.v x2.name,vI x2.kind,vI x2.size,vB x2.little,sl A4 N4 C4,sl A5 N5 C5,sl A2 N2 C2,sl A6 N6 C6],vI x3] w0<|Q33 w0 g1 B A0 N0 C0 A1 N1 C1 x1 res
abbrev g_t (n:Nat):Prop:=m_J (a_D n).impl_checker_value/\m_K (a_D n).impl_checker_array/\m_L (a_D n).impl_checker_choice/\m_M (a_D n).impl_checker_option/\m_N (a_D n).impl_checker_checked
theorem T_w03 (ih:g_t n):m_J (i_d n<|a_D n):=by
 obtain ⟨dG,dH,dI,dJ,dK⟩:=ih
 constructor
 intro A0 A1 N0 C0 N1 C1 g1 B x1 x2 x3 res w0 hm hB1 hBw hBg p1_0 p1_1 p1_2 p2_0 p3_0;unfold i_d at hm
 refine goF func193 z z (lb z) fun fn hr=>Ws<|E z (fa b_U) ?_
 rintro _ H ⟨rfl,bj⟩;have h1:=bj.below;have h6:Blk H w0.z [vI 0,vI 0]:=bj.blk;refine Wn<|Wm z<|R z (a_6 z)<|Rf z p_F z<|Rf z a_o z ?_
 have aH:=hB1.e h1;refine R z (l0 a_q z<|aH.at z)<|Rm z ?_
 obtain ⟨xh,dL,b4⟩:=bdS hm;refine RX z (at_ (α:=g_) a_b u_ z z z (p1_0.e h1) dL) ?_;rintro _ ⟨_,_,_,rfl,dN,dO,_⟩;obtain ⟨ao,np,cq,ar,ns,ct,au,nv,cw,ai,nj,ck,rfl,a3,a4,hz,V,a5,a6,he⟩:=a_N dO;refine R z (lN (vs:=vR xh ao np cq ar ns ct au nv cw ai nj ck) R_ u_ z z fid dN)<|E z (fa c_x) ?_
 rintro _ L ⟨rfl,bk⟩;have h2:=bk.below;have bm:Blk L H.z [(Str.v (⟨[]⟩:Str)),vI 0,vI 0,vB false,sl none 0 0,sl none 0 0,sl none 0 0,sl none 0 0]:=bk.blk;refine E0 (fs (cur':=vR xh ao np cq ar ns ct au nv cw ai nj ck) u_ z z bm z (lb z) (oA z) z) ?_;rintro _ O ⟨bn,dP⟩;have G:=dP.one;refine Wn<|Wq<|Ws<|Rf z a_M z<|R z (l0 g_3 z<|bn.at z)<|Rq z z z<|Wx z (fun av=>?_) (fun av=>?_)
 ·refine Wm z<|RM z z ?_
  have bo:=((h1.ag B).e h2).c G<|f_ (or0 (d_ lr) (n_<|zt' hBw h1.s):∀k∈[H.z],¬B k)
  have bp:=lt_ (lt_ h1.s h2.s) G.s;obtain ⟨_,W,_,dS,cP⟩:=V_<|ifT b4 av;refine E z (fc call238 z<|k_D (B:=B) dS ((aH.e h2).c G<|djs<|mm1 (Blk.lt hB1) h1.s) (zt' hBw bp) hBg (p1_0.g bo) (p1_1.g bo) p1_2 p2_0 p3_0) ?_;rintro _ aI ⟨ad,rfl,_,dT,dU,dV,dW⟩;refine Rm z<|Re z z z<|Re z z z<|E z (fa b_U) ?_
  rintro _ bq ⟨rfl,br⟩;have aJ:=br.below;refine Ra z<|E0 (fs (cur':=[vI W.at_,vI W.code]) C_ z z (br.blk:Blk bq aI.z [vI 0,vI 0]) z (lb z) (oA z) z) ?_
  rintro _ dX ⟨dY,dZ⟩;have aK:=dZ.one;refine Wn<|Ws<|R z (lN (vs:=[vI W.at_,vI W.code]) a_m C_ z z fid<|dY.row 0 2 z) ?_
  have bs:=mmr<|Blk.lt hB1
  refine E0 (fs (cur':=[vI W.at_,vI W.code]) C_ z z (((((h6.e h2).c G<|djs<|mmr h6.lt).c ad<|atp bs).e aJ).c aK<|djs<|mm1 h6.lt<|lt_ (lt_ h2.s G.s) ad.s) z (lb z) (oA z) z) ?_;rintro _ e0 ⟨e1,e2⟩;have bt:=e2.one;refine Wn ?_;obtain rfl:=som cP;have bu:=lt_ bp ad.s;exact Wr<|c_ hr (p_ a_m C_ z e1 z) ⟨(cM (cM (i_ (cM (cM (i_ (i_ (cr [g1] w0) h1:Chg (· ∈ [g1]) w0 H) h2:Chg (· ∈ [g1]) w0 L) G (mor h1.s:∀k∈[H.z],k∈[g1]∨w0.z<=k):Chg (· ∈ [g1]) w0 O) ad (io sr):Chg (· ∈ [g1]) w0 aI) aJ:Chg (· ∈ [g1]) w0 bq) aK (mor bu:∀k∈[aI.z],k∈[g1]∨w0.z<=k):Chg (· ∈ [g1]) w0 dX) bt (mor lr:∀k∈[w0.z],k∈[g1]∨w0.z<=k):Chg (· ∈ [g1]) w0 e0),z,dT,dU,dV,((dW.e aJ).c aK<|djs<|mm1 (Blk.lt hB1) bu).c bt<|djs bs⟩
 have b5:=ifF b4 av;refine Wk<|Wm z<|R z (a_6 z)<|Rf z k_o z ?_
 have bv:=mm1 (Blk.lt hB1) h1.s;have bw:=(aH.e h2).c G<|djs bv
 refine R z (l0 g_3 z<|bw.at z)<|R z (add_ z z)<|R z (a_6 z)<|Rf z k_o z<|E0 (fs (cur':=[sl A0 N0 C0,sl A1 N1 C1,vI<|b_ x1.applied 1]) z_3 z z bw z (lb z) (oA z) z) ?_
 rintro _ I ⟨ha,e3⟩;have h3:=e3.one;refine Wn<|Wq<|Ws<|Rf z a_M z ?_
 have hb:=bn.c h3<|atp bv
 refine R z (l0 g_3 z<|hb.at z)<|Wn<|Wb<|Ws<|Rq z z z<|Rw z<|Wc z (fun aw=>?_) (fun aw=>?_)
 ·refine Wm z<|R z (lN (vs:=vR xh ao np cq ar ns ct au nv cw ai nj ck) R_ u_ z z fid<|hb.row 0 8 z)<|Rm z ?_
  have bx:∀k∈[H.z],¬B k:=or0 (d_ lr)<|n_<|zt' hBw h1.s;have bz:=(((h1.ag B).e h2).c G<|f_ bx).c h3<|f_<|d_ hBg
  have ae:=((h2.ag B).c G<|f_ bx).c h3<|f_<|d_ hBg
  obtain ⟨bA,e4,cQ⟩:=bdS<|ifT b5 aw;refine E z (fc call239 z<|W_w40 (B:=w0.z) e4 (a_T<|lt_ (lt_ (lt_ h1.s h2.s) G.s) h3.s) (repS.mono (p1_0.g bz) hBw) (repS.mono (p1_1.g bz) hBw) (iA _ _) (ha.row 0 3 z) (Blk.lt hB1) a3 a4 hz (repS.mono (V.g ae) hBw) (repS.mono (a5.g ae) hBw) (repS.mono (a6.g ae) hBw) (repS.mono (he.g ae) hBw) p3_0) ?_;rintro _ e5 ⟨aL,rfl,e6,e7⟩;have bB:=mmr<|Blk.lt hB1
  refine E0 (fs (cur':=[vI bA.at_,vI bA.code]) C_ z z ((((h6.e h2).c G<|djs<|mmr h6.lt).c h3<|atp bB).e aL) z (lb z) (oA z) z) ?_;rintro _ e8 ⟨e9,ea⟩;have bC:=ea.one;refine Wn ?_;obtain rfl:=som cQ;exact Wr<|rtO<|c_ hr (p_ a_m C_ z e9 z) ⟨(cM (i_ (cM (cM (i_ (i_ (cr [g1] w0) h1:Chg (· ∈ [g1]) w0 H) h2:Chg (· ∈ [g1]) w0 L) G (mor h1.s:∀k∈[H.z],k∈[g1]∨w0.z<=k):Chg (· ∈ [g1]) w0 O) h3 (io sr):Chg (· ∈ [g1]) w0 I) aL:Chg (· ∈ [g1]) w0 e5) bC (mor lr:∀k∈[w0.z],k∈[g1]∨w0.z<=k):Chg (· ∈ [g1]) w0 e8),z,e6,e7,iA _ _,(ha.e aL).c bC<|djs bB⟩
 have b6:=ifF b5 aw;refine Ws<|Rq z z z<|Rw z<|Wc z (fun ax=>?_) (fun ax=>?_)
 ·refine Wm z<|Rm z<|Rf z b_3 z<|R z (l0 g_3 z<|hb.at z) ?_
  have bD:=(((h1.ag B).e h2).c G<|f_ (or0 (d_ lr) (n_<|zt' hBw h1.s):∀k∈[H.z],¬B k)).c h3<|f_<|d_ hBg
  obtain ⟨bE,eb,cR⟩:=bdS<|ifT b6 ax;refine E z (fc call240 z<|h_I (B:=w0.z) eb (a_T<|lt_ (lt_ (lt_ h1.s h2.s) G.s) h3.s) (repS.mono (p1_0.g bD) hBw) (repS.mono (p1_1.g bD) hBw) (iA _ _) (ha.row 0 3 z) (Blk.lt hB1) p3_0 hz) ?_;rintro _ ec ⟨aM,rfl,ed,ee⟩;have bF:=mmr<|Blk.lt hB1
  refine E0 (fs (cur':=[vI bE.at_,vI bE.code]) C_ z z ((((h6.e h2).c G<|djs<|mmr h6.lt).c h3<|atp bF).e aM) z (lb z) (oA z) z) ?_;rintro _ ef ⟨eg,eh⟩;have bG:=eh.one;refine Wn ?_;obtain rfl:=som cR;exact Wr<|rtO<|c_ hr (p_ a_m C_ z eg z) ⟨(cM (i_ (cM (cM (i_ (i_ (cr [g1] w0) h1:Chg (· ∈ [g1]) w0 H) h2:Chg (· ∈ [g1]) w0 L) G (mor h1.s:∀k∈[H.z],k∈[g1]∨w0.z<=k):Chg (· ∈ [g1]) w0 O) h3 (io sr):Chg (· ∈ [g1]) w0 I) aM:Chg (· ∈ [g1]) w0 ec) bG (mor lr:∀k∈[w0.z],k∈[g1]∨w0.z<=k):Chg (· ∈ [g1]) w0 ef),z,ed,ee,iA _ _,(ha.e aM).c bG<|djs bF⟩
 have b7:=ifF b6 ax;refine Ws<|Rq z z z<|Rw z<|Wc z (fun ay=>?_) (fun ay=>?_)
 ·refine Wm z<|Rf z a_2 z<|R z (l0 I_ z<|hb.at z) ?_
  obtain ⟨_,ei,cS⟩:=bdS<|ifT b7 ay;have bH:∀k∈[H.z],¬B k:=or0 (d_ lr)<|n_<|zt' hBw h1.s;refine RX z (at_ (α:=Int) z_ z_3 z z z (he.g<|((h2.ag B).c G<|f_ bH).c h3<|f_<|d_ hBg) ei) ?_;rintro _ ⟨_,_,_,rfl,ej,ek,_⟩;obtain ⟨rfl,em⟩:=W_ ek;refine R z (l0 g_3 z<|ej.at0 z)<|Rm z ?_
  have aN:=(((h1.ag B).e h2).c G<|f_ bH).c h3<|f_<|d_ hBg
  have aO:=lt_ (lt_ (lt_ h1.s h2.s) G.s) h3.s;obtain ⟨_,Y,_,en,b8⟩:=V_ cS;refine E z (fc call238 z<|k_D (B:=B) en ha (zt' hBw aO) hBg (p1_0.g aN) (p1_1.g aN) (iA _ _) em p3_0) ?_;rintro _ a0 ⟨sf,rfl,eo,bI,ep,aP,bJ⟩;refine Rm z<|Re z z z<|Re z z z<|E z (fa b_U) ?_
  rintro _ aQ ⟨rfl,bK⟩;have hl:=bK.below;refine Ra z<|E0 (fs (cur':=[vI Y.at_,vI Y.code]) C_ z z (bK.blk:Blk aQ a0.z [vI 0,vI 0]) z (lb z) (oA z) z) ?_
  rintro _ bL ⟨aR,er⟩;have hn:=er.one;refine Wn<|Wq<|Ws<|Rf z d_U z<|R z (l0 g_3 z<|aR.at z)<|R z (nq z z)<|Wx z (fun az=>?_) (fun az=>?_)
  ·refine Ws<|R z (lN (vs:=[vI Y.at_,vI Y.code]) a_m C_ z z fid<|aR.row 0 2 z) ?_
   have aS:=mmr<|Blk.lt hB1
   refine E0 (fs (cur':=[vI Y.at_,vI Y.code]) C_ z z ((((((h6.e h2).c G<|djs<|mmr h6.lt).c h3<|atp aS).c sf<|atp aS).e hl).c hn<|djs<|mm1 h6.lt<|lt_ (lt_ (lt_ h2.s G.s) h3.s) sf.s) z (lb z) (oA z) z) ?_;rintro _ es ⟨eu,ew⟩;have bM:=ew.one;refine Wn ?_;obtain rfl:=som<|ifT b8 az;have bN:=lt_ aO sf.s;exact Wr<|rtO<|c_ hr (p_ a_m C_ z eu z) ⟨(cM (cM (i_ (cM (cM (cM (i_ (i_ (cr [g1] w0) h1:Chg (· ∈ [g1]) w0 H) h2:Chg (· ∈ [g1]) w0 L) G (mor h1.s:∀k∈[H.z],k∈[g1]∨w0.z<=k):Chg (· ∈ [g1]) w0 O) h3 (io sr):Chg (· ∈ [g1]) w0 I) sf (io sr):Chg (· ∈ [g1]) w0 a0) hl:Chg (· ∈ [g1]) w0 aQ) hn (mor bN:∀k∈[a0.z],k∈[g1]∨w0.z<=k):Chg (· ∈ [g1]) w0 bL) bM (mor lr:∀k∈[w0.z],k∈[g1]∨w0.z<=k):Chg (· ∈ [g1]) w0 es),z,bI,ep,aP,((bJ.e hl).c hn<|djs<|mm1 (Blk.lt hB1) bN).c bM<|djs aS⟩
  refine Wk<|Wm z<|Rf z d_u z<|R z (l0 g_3 z<|aR.at z)<|Rm z ?_
  have af:=lt_ aO sf.s;have bO:=(bJ.e hl).c hn<|djs<|mm1 (Blk.lt hB1) af
  have bQ:=((aN.c sf<|f_<|d_ hBg).e hl).c hn<|f_ (or0 (d_ lr) (n_<|zt' hBw af):∀k∈[a0.z],¬B k)
  obtain ⟨bR,ey,cT⟩:=bdS<|ifF b8 az;refine E z (fc call240 z<|h_I (B:=w0.z) ey (a_T<|lt_ (lt_ af hl.s) hn.s) (repS.mono (p1_0.g bQ) hBw) (repS.mono (p1_1.g bQ) hBw) aP (bO.row 0 3 z) (Blk.lt hB1) bI eo) ?_;rintro _ ez ⟨aT,rfl,eA,eB⟩;have aU:=mmr<|Blk.lt hB1
  refine E0 (fs (cur':=[vI bR.at_,vI bR.code]) C_ z z (((((((h6.e h2).c G<|djs<|mmr h6.lt).c h3<|atp aU).c sf<|atp aU).e hl).c hn<|djs<|mm1 h6.lt<|lt_ (lt_ (lt_ h2.s G.s) h3.s) sf.s).e aT) z (lb z) (oA z) z) ?_;rintro _ eC ⟨eD,eE⟩;have bS:=eE.one;refine Wn ?_;obtain rfl:=som cT;exact Wr<|rtO<|c_ hr (p_ a_m C_ z eD z) ⟨(cM (i_ (cM (i_ (cM (cM (cM (i_ (i_ (cr [g1] w0) h1:Chg (· ∈ [g1]) w0 H) h2:Chg (· ∈ [g1]) w0 L) G (mor h1.s:∀k∈[H.z],k∈[g1]∨w0.z<=k):Chg (· ∈ [g1]) w0 O) h3 (io sr):Chg (· ∈ [g1]) w0 I) sf (io sr):Chg (· ∈ [g1]) w0 a0) hl:Chg (· ∈ [g1]) w0 aQ) hn (mor af:∀k∈[a0.z],k∈[g1]∨w0.z<=k):Chg (· ∈ [g1]) w0 bL) aT:Chg (· ∈ [g1]) w0 ez) bS (mor lr:∀k∈[w0.z],k∈[g1]∨w0.z<=k):Chg (· ∈ [g1]) w0 eC),z,eA,eB,aP,(bO.e aT).c bS<|djs aU⟩
 have b9:=ifF b7 ay;refine Ws<|Rq z z z<|Rw z<|Wc z (fun aA=>?_) (fun aA=>?_)
 ·refine Wm z<|R z (lN (vs:=vR xh ao np cq ar ns ct au nv cw ai nj ck) R_ u_ z z fid<|hb.row 0 8 z)<|Rm z ?_
  have bT:∀k∈[H.z],¬B k:=or0 (d_ lr)<|n_<|zt' hBw h1.s;have bU:=(((h1.ag B).e h2).c G<|f_ bT).c h3<|f_<|d_ hBg
  have ah:=((h2.ag B).c G<|f_ bT).c h3<|f_<|d_ hBg
  obtain ⟨bV,_,eF,cU⟩:=a_k<|ifT b9 aA;refine E z (fc call241 z<|dH.run (B:=B) eF ha (zt' hBw<|lt_ (lt_ (lt_ h1.s h2.s) G.s) h3.s) hBg (p1_0.g bU) (p1_1.g bU) (iA _ _) a3 a4 hz (V.g ah) (a5.g ah) (a6.g ah) (he.g ah) p3_0) ?_;rintro _ eG ⟨bW,rfl,eH,eI,eJ,eK⟩;have aV:=mmr<|Blk.lt hB1
  refine E0 (fs (cur':=[vI bV.at_,vI bV.code]) C_ z z ((((h6.e h2).c G<|djs<|mmr h6.lt).c h3<|atp aV).c bW<|atp aV) z (lb z) (oA z) z) ?_;rintro _ eL ⟨eM,eN⟩;have bX:=eN.one;refine Wn ?_;obtain rfl:=som cU;exact Wr<|rtO<|c_ hr (p_ a_m C_ z eM z) ⟨(cM (cM (cM (cM (i_ (i_ (cr [g1] w0) h1:Chg (· ∈ [g1]) w0 H) h2:Chg (· ∈ [g1]) w0 L) G (mor h1.s:∀k∈[H.z],k∈[g1]∨w0.z<=k):Chg (· ∈ [g1]) w0 O) h3 (io sr):Chg (· ∈ [g1]) w0 I) bW (io sr):Chg (· ∈ [g1]) w0 eG) bX (mor lr:∀k∈[w0.z],k∈[g1]∨w0.z<=k):Chg (· ∈ [g1]) w0 eL),z,eH,eI,eJ,eK.c bX<|djs aV⟩
 have ba:=ifF b9 aA;refine Ws<|Rq z z z<|Rw z<|Wc z (fun aB=>?_) (fun aB=>?_)
 ·refine Wm z<|R z (bP (parts:=[(0,.tmp 88),(1,.const<|.int .i64 0)]) (cs:=[vI x3,vI 0]) d_8 z z)<|E z (fa b_U) ?_
  rintro _ bY ⟨rfl,bZ⟩;have hx:=bZ.below;refine E0 (fs (cur':=[vI x3,vI 0]) C_ z z (bZ.blk:Blk bY I.z [vI 0,vI 0]) z (lb z) (oA z) z) ?_;rintro _ J ⟨eO,eP⟩;have hy:=eP.one;refine Wn<|Wq<|Ws<|Rf z a_2 z<|R z (l0 I_ z<|((hb.e hx).c hy<|djs<|mm1 bm.lt<|lt_ G.s h3.s).at z) ?_
  have c0:∀k∈[H.z],¬B k:=or0 (d_ lr)<|n_<|zt' hBw h1.s;have a7:=lt_ (lt_ (lt_ h1.s h2.s) G.s) h3.s;have aj:∀k∈[I.z],¬B k:=or0 (d_ lr)<|n_<|zt' hBw a7;have c1:=((((h2.ag B).c G<|f_ c0).c h3<|f_<|d_ hBg).e hx).c hy<|f_ aj
  refine R z (lnR z_ z<|he.g c1)<|Rm z<|Wn ?_
  obtain ⟨_,cV,bb⟩:=bdS<|ifT ba aB;refine Wf (σ:=Int×Int×Int) (ρ:=U_×Int) (fun (c2:Nat) s a w=>un3 (fun xm xc xd=>Sat 145 [(0,pt g1),(6,pt w0.z),(12,pt I.z),(91,sl ai nj ck),(92,vI (xh.kids.length:Int)),(93,vI ((c2:Nat):Int))] a/\Chg (· ∈ ([g1]++[I.z])) J w/\inI xm/\inI xc/\inI xd/\Blk w g1 [sl A0 N0 C0,sl A1 N1 C1,vI xm]/\Blk w I.z [vI xc,vI xd]) s) (fun s a w=>un3 (fun xm xc xd=>Sat 145 [(6,pt w0.z),(12,pt I.z)] a/\Chg (· ∈ ([g1]++[I.z])) J w/\inI xm/\inI xc/\inI xd/\Blk w g1 [sl A0 N0 C0,sl A1 N1 C1,vI xm]/\Blk w I.z [vI xc,vI xd]) s) (fun r ex a w=>ex = .ret/\w_ prog fn (Q33 w0 g1 B A0 N0 C0 A1 N1 C1 x1 r) a w) cV ?_ ?_ ?_ ?_ ?_
  ·exact fun _ q=>⟨q.k<|s6 z z z z z z,cr ([g1]++[I.z]) J,iA _ _,p3_0,ii z,(ha.e hx).c hy<|djs<|mm1 (Blk.lt hB1) a7,eO⟩
  ·rintro c2 ⟨xm,xc,xd⟩ _ c3 _ bc ⟨cW,a8,a9,aa,ak,ab,a1⟩ cX;refine Wu ?_ cW;refine Ws<|Rl z z z<|Wn<|Wq<|Wc z (fun _=>?_) (fun hc=>(P_ bc hc).elim)
   refine Wk<|Wq<|Wb<|Ws ?_
   obtain ⟨_,eQ,cY⟩:=bdS<|un3S cX;refine RX z (at_ (α:=Int) z_ z_3 z z z (he.g<|c1.c a8<|nmA (f_<|d_ hBg)<|f_ aj) eQ) ?_;rintro _ ⟨_,_,_,rfl,eR,eS,_⟩;obtain ⟨rfl,eT⟩:=W_ eS;refine R z (l0 g_3 z<|eR.at0 z)<|Rw z<|Wm z<|Rm z<|Rf z d_u z<|R z (l0 g_3 z<|a1.at z) ?_
   have c4:=((((((h1.ag B).e h2).c G<|f_ c0).c h3<|f_<|d_ hBg).e hx).c hy<|f_ aj).c a8<|nmA (f_<|d_ hBg)<|f_ aj
   obtain ⟨al,eU,eV,be⟩:=a_k cY;refine E z (fc call193 z<|dG.run (B:=B) eV ab (zt' hBw<|lt_ (lt_ (lt_ a7 hx.s) hy.s) a8.s) hBg (p1_0.g c4) (p1_1.g c4) a9 eT aa) ?_;rintro _ c5 ⟨aW,rfl,c6,c7,c8,c9⟩;have aX:=mm1 (Blk.lt hB1) a7;refine E0 (fs (cur':=[vI al.at_,vI al.code]) C_ z z (a1.c aW<|atp aX) z (lb z) (oA z) z) ?_;rintro _ ca ⟨aY,eW⟩;have am:=eW.one;refine Wn<|Ws<|Rf z d_U z<|R z (l0 g_3 z<|aY.at z)<|R z (nq z z)<|Wx z (fun aC=>?_) (fun aC=>?_)
   ·have eX:Chg (· ∈ ([g1]++[I.z])) J c3:=cM (cr ([g1]++[I.z]) J) a8<|aa_ (io<|b_X sr)<|io<|b_F sr;exact We<|exO z (fun a' ha'=>b_e (som<|ifT be aC).symm ⟨Sat.weaken ha'<|s2 z z,(cM (cM eX aW (io<|b_X sr):Chg (· ∈ ([g1]++[I.z])) J c5) am (io<|b_F sr):Chg (· ∈ ([g1]++[I.z])) J ca),c8,c6,c7,c9.c am<|djs aX,aY⟩)
   refine Wk<|Wg<|R z (inc_ bc (lt_ (repS.len he) A_) z z)<|Rm z<|Wl ?_
   exact fun _ q=>⟨(eU,al.at_,al.code),(som<|ifF be aC).symm,⟨q.k<|s6 z z z z z z,(cM (cM (cM (cr ([g1]++[I.z]) J) a8 (aa_ (io<|b_X sr)<|io<|b_F sr):Chg (· ∈ ([g1]++[I.z])) J c3) aW (io<|b_X sr):Chg (· ∈ ([g1]++[I.z])) J c5) am (io<|b_F sr):Chg (· ∈ ([g1]++[I.z])) J ca),c8,c6,c7,c9.c am<|djs aX,aY⟩⟩
  ·rintro ⟨xm,xc,xd⟩ _ eY ⟨cZ,eZ,a9,aa,ak,ab,a1⟩;refine Wu ?_ cZ;refine Ws<|Rl z z z<|Wn<|Wq<|Wc z (fun hc=>(Q_ hc).elim) (fun _=>?_)
   exact We<|fun a' ha'=>⟨rfl,⟨Sat.weaken ha'<|s2 z z,(cM (cr ([g1]++[I.z]) J) eZ (aa_ (io<|b_X sr)<|io<|b_F sr):Chg (· ∈ ([g1]++[I.z])) J eY),a9,aa,ak,ab,a1⟩⟩
  ·rintro ⟨xm,xc,xd⟩ f0 f1 rfl ⟨_,cb,a9,aa,ak,ab,a1⟩;have d0:=elL bb;revert f0;refine Wo<|Ws<|R z (lN (vs:=[vI xc,vI xd]) a_m C_ z z fid<|a1.row 0 2 z) ?_
   have aZ:=mmr<|Blk.lt hB1
   have cc:=mm1 h6.lt<|lt_ (lt_ h2.s G.s) h3.s
   refine E0 (fs (cur':=[vI xc,vI xd]) C_ z z ((((((h6.e h2).c G<|djs<|mmr h6.lt).c h3<|atp aZ).e hx).c hy<|djs cc).c cb<|atp<|nmA aZ<|ds cc) z (lb z) (oA z) z) ?_;rintro _ f2 ⟨f3,f4⟩;have cd:=f4.one;refine Wn ?_;obtain rfl:=som<|un3S d0;have ce:∀k∈[I.z],k∈[g1]∨w0.z<=k:=mor a7;exact Wr<|rtO<|c_ hr (p_ a_m C_ z f3 z) ⟨(cM (cM (cM (i_ (cM (cM (i_ (i_ (cr [g1] w0) h1:Chg (· ∈ [g1]) w0 H) h2:Chg (· ∈ [g1]) w0 L) G (mor h1.s:∀k∈[H.z],k∈[g1]∨w0.z<=k):Chg (· ∈ [g1]) w0 O) h3 (io sr):Chg (· ∈ [g1]) w0 I) hx:Chg (· ∈ [g1]) w0 bY) hy ce:Chg (· ∈ [g1]) w0 J) cb (aa_ (io sr) ce):Chg (· ∈ [g1]) w0 f1) cd (mor lr:∀k∈[w0.z],k∈[g1]∨w0.z<=k):Chg (· ∈ [g1]) w0 f2),z,aa,ak,a9,ab.c cd<|djs aZ⟩
  rintro _ _ _ _ rfl ⟨rfl,cI⟩;have cJ:=elR bb;obtain rfl:=som cJ;exact ⟨cI,z⟩
 have bf:=ifF ba aB;refine Ws<|Rq z z z<|Rw z<|Wc z (fun aD=>?_) (fun aD=>?_)
 ·refine Wm z<|R z (lN (vs:=vR xh ao np cq ar ns ct au nv cw ai nj ck) R_ u_ z z fid<|hb.row 0 8 z)<|Rm z ?_
  have cf:∀k∈[H.z],¬B k:=or0 (d_ lr)<|n_<|zt' hBw h1.s;have cg:=(((h1.ag B).e h2).c G<|f_ cf).c h3<|f_<|d_ hBg
  have an:=((h2.ag B).c G<|f_ cf).c h3<|f_<|d_ hBg
  obtain ⟨ch,_,d1,cK⟩:=a_k<|ifT bf aD;refine E z (fc call242 z<|dI.run (B:=B) d1 ha (zt' hBw<|lt_ (lt_ (lt_ h1.s h2.s) G.s) h3.s) hBg (p1_0.g cg) (p1_1.g cg) (iA _ _) a3 a4 hz (V.g an) (a5.g an) (a6.g an) (he.g an) p3_0) ?_;rintro _ d2 ⟨ci,rfl,d3,d4,d5,d6⟩;have b0:=mmr<|Blk.lt hB1
  refine E0 (fs (cur':=[vI ch.at_,vI ch.code]) C_ z z ((((h6.e h2).c G<|djs<|mmr h6.lt).c h3<|atp b0).c ci<|atp b0) z (lb z) (oA z) z) ?_;rintro _ d7 ⟨d8,d9⟩;have cj:=d9.one;refine Wn ?_;obtain rfl:=som cK;exact Wr<|rtO<|c_ hr (p_ a_m C_ z d8 z) ⟨(cM (cM (cM (cM (i_ (i_ (cr [g1] w0) h1:Chg (· ∈ [g1]) w0 H) h2:Chg (· ∈ [g1]) w0 L) G (mor h1.s:∀k∈[H.z],k∈[g1]∨w0.z<=k):Chg (· ∈ [g1]) w0 O) h3 (io sr):Chg (· ∈ [g1]) w0 I) ci (io sr):Chg (· ∈ [g1]) w0 d2) cj (mor lr:∀k∈[w0.z],k∈[g1]∨w0.z<=k):Chg (· ∈ [g1]) w0 d7),z,d3,d4,d5,d6.c cj<|djs b0⟩
 have bg:=ifF bf aD;refine Ws<|Rq z z z<|Rw z<|Wc z (fun aE=>?_) (fun aE=>?_)
 ·refine Wm z<|R z (lN (vs:=vR xh ao np cq ar ns ct au nv cw ai nj ck) R_ u_ z z fid<|hb.row 0 8 z)<|Rm z ?_
  have cl:∀k∈[H.z],¬B k:=or0 (d_ lr)<|n_<|zt' hBw h1.s;have cm:=(((h1.ag B).e h2).c G<|f_ cl).c h3<|f_<|d_ hBg
  have ap:=((h2.ag B).c G<|f_ cl).c h3<|f_<|d_ hBg
  obtain ⟨cn,_,da,cL⟩:=a_k<|ifT bg aE;refine E z (fc call243 z<|dJ.run (B:=B) da ha (zt' hBw<|lt_ (lt_ (lt_ h1.s h2.s) G.s) h3.s) hBg (p1_0.g cm) (p1_1.g cm) (iA _ _) a3 a4 hz (V.g ap) (a5.g ap) (a6.g ap) (he.g ap) p3_0) ?_;rintro _ db ⟨co,rfl,dc,dd,de,df⟩;have b1:=mmr<|Blk.lt hB1
  refine E0 (fs (cur':=[vI cn.at_,vI cn.code]) C_ z z ((((h6.e h2).c G<|djs<|mmr h6.lt).c h3<|atp b1).c co<|atp b1) z (lb z) (oA z) z) ?_;rintro _ dg ⟨dh,di⟩;have cp:=di.one;refine Wn ?_;obtain rfl:=som cL;exact Wr<|rtO<|c_ hr (p_ a_m C_ z dh z) ⟨(cM (cM (cM (cM (i_ (i_ (cr [g1] w0) h1:Chg (· ∈ [g1]) w0 H) h2:Chg (· ∈ [g1]) w0 L) G (mor h1.s:∀k∈[H.z],k∈[g1]∨w0.z<=k):Chg (· ∈ [g1]) w0 O) h3 (io sr):Chg (· ∈ [g1]) w0 I) co (io sr):Chg (· ∈ [g1]) w0 db) cp (mor lr:∀k∈[w0.z],k∈[g1]∨w0.z<=k):Chg (· ∈ [g1]) w0 dg),z,dc,dd,de,df.c cp<|djs b1⟩
 have bh:=ifF bg aE;refine Ws<|Rq z z z<|Rw z<|Wc z (fun aF=>?_) (fun aF=>?_)
 ·refine Wm z<|R z (lN (vs:=vR xh ao np cq ar ns ct au nv cw ai nj ck) R_ u_ z z fid<|hb.row 0 8 z)<|Rm z ?_
  have cu:∀k∈[H.z],¬B k:=or0 (d_ lr)<|n_<|zt' hBw h1.s;have cv:=(((h1.ag B).e h2).c G<|f_ cu).c h3<|f_<|d_ hBg
  have aq:=((h2.ag B).c G<|f_ cu).c h3<|f_<|d_ hBg
  obtain ⟨cx,_,dj,cN⟩:=a_k<|ifT bh aF;refine E z (fc call244 z<|dK.run (B:=B) dj ha (zt' hBw<|lt_ (lt_ (lt_ h1.s h2.s) G.s) h3.s) hBg (p1_0.g cv) (p1_1.g cv) (iA _ _) a3 a4 hz (V.g aq) (a5.g aq) (a6.g aq) (he.g aq) p3_0) ?_;rintro _ dk ⟨cy,rfl,dl,dm,dn,dp⟩;have b2:=mmr<|Blk.lt hB1
  refine E0 (fs (cur':=[vI cx.at_,vI cx.code]) C_ z z ((((h6.e h2).c G<|djs<|mmr h6.lt).c h3<|atp b2).c cy<|atp b2) z (lb z) (oA z) z) ?_;rintro _ dq ⟨dr,dt⟩;have cz:=dt.one;refine Wn ?_;obtain rfl:=som cN;exact Wr<|rtO<|c_ hr (p_ a_m C_ z dr z) ⟨(cM (cM (cM (cM (i_ (i_ (cr [g1] w0) h1:Chg (· ∈ [g1]) w0 H) h2:Chg (· ∈ [g1]) w0 L) G (mor h1.s:∀k∈[H.z],k∈[g1]∨w0.z<=k):Chg (· ∈ [g1]) w0 O) h3 (io sr):Chg (· ∈ [g1]) w0 I) cy (io sr):Chg (· ∈ [g1]) w0 dk) cz (mor lr:∀k∈[w0.z],k∈[g1]∨w0.z<=k):Chg (· ∈ [g1]) w0 dq),z,dl,dm,dn,dp.c cz<|djs b2⟩
 refine Wk<|Wq (Wd (X:=noX) 0 (pl_ 17 [9]) mo (by kernel_rfl) fun cA sg _=>dM z z z<|dR z z (a_6 z)<|dR z z (fd e_j z) ?_)
 have b3:=ha.e sg;refine dR z z (l0 M_ z<|b3.at z)<|dM z z z<|dR z z (fd b_r z)<|dR z z (l0 M_ z<|(hb.e sg).at z) ?_
 obtain ⟨_,du,cO⟩:=bdS<|ifF bh aF;have cB:∀k∈[H.z],¬B k:=or0 (d_ lr)<|n_<|zt' hBw h1.s;refine dRX z z (at_ (α:=UInt8) j_ z_5 z z z (V.g<|(((h2.ag B).c G<|f_ cB).c h3<|f_<|d_ hBg).e sg) du) ?_;rintro _ ⟨_,_,_,rfl,dv,dw,_⟩;obtain rfl:=u8 dw;refine dR z z (l0 g_5 z<|dv.at0 z) ?_;obtain ⟨_,cC,_,dx,bi⟩:=V_ cO;refine dE z z (fc call232 z<|W_w1n dx (zt' hBw<|lt_ (lt_ (lt_ (lt_ h1.s h2.s) G.s) h3.s) sg.s) (p1_1.g<|((((h1.ag B).e h2).c G<|f_ cB).c h3<|f_<|d_ hBg).e sg) p3_0) (.inr fun _ _ h=>F_<|h.1) ?_;rintro _ cD ⟨a2,_,_,_,_,rfl,_,dy,_,_⟩;refine dM z z z ?_
 iterate 3 refine dR z z (ext_ z z) ?_
 iterate 3 refine dQ z z z ?_
 refine pD<|Wo<|Wq<|Wm z<|R z (not_ z)<|Wx z (fun aG=>?_) (fun aG=>?_)
 ·refine Wm z<|R z (bP (parts:=[(0,.tmp 141),(1,.const<|.int .i64 1)]) (cs:=[vI x3,vI 1]) d_8 z z) ?_
  have cE:=mmr<|Blk.lt hB1
  refine E0 (fs (cur':=[vI x3,vI 1]) C_ z z (((((h6.e h2).c G<|djs<|mmr h6.lt).c h3<|atp cE).e sg).e a2) z (lb z) (oA z) z) ?_;rintro _ dz ⟨dA,dB⟩;have cF:=dB.one;refine Wn ?_;obtain rfl:=som<|ifT bi aG;exact Wr<|c_ hr (p_ a_m C_ z dA z) ⟨(cM (i_ (i_ (cM (cM (i_ (i_ (cr [g1] w0) h1:Chg (· ∈ [g1]) w0 H) h2:Chg (· ∈ [g1]) w0 L) G (mor h1.s:∀k∈[H.z],k∈[g1]∨w0.z<=k):Chg (· ∈ [g1]) w0 O) h3 (io sr):Chg (· ∈ [g1]) w0 I) sg:Chg (· ∈ [g1]) w0 cA) a2:Chg (· ∈ [g1]) w0 cD) cF (mor lr:∀k∈[w0.z],k∈[g1]∨w0.z<=k):Chg (· ∈ [g1]) w0 dz),z,p3_0,ii z,iA _ _,(b3.e a2).c cF<|djs cE⟩
 refine Wk<|Wm z<|R z (bP (parts:=[(0,.tmp 143),(1,.const<|.int .i64 0)]) (cs:=[vI cC,vI 0]) d_8 z z) ?_
 have cG:=mmr<|Blk.lt hB1
 refine E0 (fs (cur':=[vI cC,vI 0]) C_ z z (((((h6.e h2).c G<|djs<|mmr h6.lt).c h3<|atp cG).e sg).e a2) z (lb z) (oA z) z) ?_;rintro _ dC ⟨dD,dF⟩;have cH:=dF.one;refine Wn ?_;obtain rfl:=som<|ifF bi aG;exact Wr<|c_ hr (p_ a_m C_ z dD z) ⟨(cM (i_ (i_ (cM (cM (i_ (i_ (cr [g1] w0) h1:Chg (· ∈ [g1]) w0 H) h2:Chg (· ∈ [g1]) w0 L) G (mor h1.s:∀k∈[H.z],k∈[g1]∨w0.z<=k):Chg (· ∈ [g1]) w0 O) h3 (io sr):Chg (· ∈ [g1]) w0 I) sg:Chg (· ∈ [g1]) w0 cA) a2:Chg (· ∈ [g1]) w0 cD) cH (mor lr:∀k∈[w0.z],k∈[g1]∨w0.z<=k):Chg (· ∈ [g1]) w0 dC),z,dy,ii z,iA _ _,(b3.e a2).c cH<|djs cG⟩
theorem T_w1u (ih:g_t n):m_K (i_e n<|a_D n):=by
 obtain ⟨aI,_,_,_,_⟩:=ih
 constructor
 intro A0 A1 A4 A5 A2 A6 N0 C0 N1 C1 g1 N4 C4 N5 C5 N2 C2 N6 C6 B x1 x2 x3 res w0 hm hB1 hBw hBg p1_0 p1_1 p1_2 p2_0 p2_1 p2_2 p2_4 p2_5 p2_6 p2_7 p3_0;unfold i_e at hm
 refine goF func241 z z (lb z) fun fn hr=>Ws<|E z (fb z) ?_
 rintro _ I ⟨rfl,a5⟩;have h6:=a5.below;have a6:Blk I w0.z (vR x2 A4 N4 C4 A5 N5 C5 A2 N2 C2 A6 N6 C6):=a5.blk;refine E z (fa b_U) ?_;rintro _ wr ⟨rfl,a7⟩;have he:=a7.below;have hn:Blk wr I.z [vI 0,vI 0]:=a7.blk;refine Wn<|Wm z<|Rf z a_2 z ?_
 have a8:=a6.e he;refine R z (l0 I_ z<|a8.at z) ?_;obtain ⟨_,aJ,ay⟩:=bdS hm;have ho:=(h6.ag B).e he;refine RX z (at_ (α:=Int) z_ z_3 z z z (p2_7.g ho) aJ) ?_;rintro _ ⟨_,_,_,rfl,aK,aL,_⟩;obtain ⟨rfl,aM⟩:=W_ aL;refine R z (l0 g_3 z<|aK.at0 z)<|Rm z ?_
 have hj:=lt_ h6.s he.s;obtain ⟨a9,rs,_,aN,az⟩:=V_ ay;refine E z (fc call238 z<|k_D (B:=B) aN ((hB1.e h6).e he) (zt' hBw hj) hBg (p1_0.g ho) (p1_1.g ho) p1_2 aM p3_0) ?_;rintro _ h ⟨H,rfl,aO,aP,aQ,aa,ab⟩;refine Rm z<|Re z z z<|Re z z z<|E z (fa b_U) ?_
 rintro _ wu ⟨rfl,ad⟩;have L:=ad.below;refine Ra z<|E0 (fs (cur':=[vI rs.at_,vI rs.code]) C_ z z (ad.blk:Blk wu h.z [vI 0,vI 0]) z (lb z) (oA z) z) ?_
 rintro _ wg ⟨ae,aR⟩;have O:=aR.one;refine Wn<|Wq<|Wq ?_
 obtain ⟨aS,a0,a1⟩:=bdS az;refine Wt (fun a w=>∃(xv:Bool),xv=aS/\Sat 46 [(0,pt g1),(2,vI x3),(4,pt w0.z),(6,pt I.z),(7,vI a9),(8,pt h.z),(25,vB xv)] a/\Below wg.z wg w) ?_ ?_
 ·refine Wg<|Rf z d_U z<|R z (l0 g_3 z<|ae.at z)<|Rq z z z<|Rm z ?_
  rcases bs (rs.code==0) with J | J
  ·exact Rh z J (mv z)<|Rh z J (Z_ z z)<|R z (pT z J z)<|Wl (fun _ q=>⟨decide<|40<a9,som<|ifT a0 J,q.k<|s7 z z z z z z z,br wg⟩)
  exact Nh z J<|Nh z J<|R z (pF z J z)<|Wl (fun _ q=>⟨false,som<|ifF a0 J,q.k<|s7 z z z z z z z,br wg⟩)
 rintro aT G ⟨xv,rfl,_,s4⟩;revert aT;refine Wo<|Wc z (fun hcw=>?_) (fun hcw=>?_)
 ·refine Wm z<|R z (bP (parts:=[(0,.tmp 26),(1,.const<|.int .i64 6)]) (cs:=[vI x3,vI 6]) d_8 z z) ?_
  have af:=mm1 (Blk.lt hB1) h6.s;refine E0 (fs (cur':=[vI x3,vI 6]) C_ z z ((((hn.c H<|atp af).e L).c O<|djs<|mm1 hn.lt H.s).e s4) z (lb z) (oA z) z) ?_;rintro _ aU ⟨aV,aW⟩;have ah:=aW.one;refine Wn ?_;obtain rfl:=som<|ifT a1 hcw;have ai:=lt_ hj H.s;exact Wr<|c_ hr (p_ a_m C_ z aV z) ⟨(cM (i_ (cM (i_ (cM (i_ (i_ (cr [g1] w0) h6:Chg (· ∈ [g1]) w0 I) he:Chg (· ∈ [g1]) w0 wr) H (io sr):Chg (· ∈ [g1]) w0 h) L:Chg (· ∈ [g1]) w0 wu) O (mor ai:∀k∈[h.z],k∈[g1]∨w0.z<=k):Chg (· ∈ [g1]) w0 wg) s4:Chg (· ∈ [g1]) w0 G) ah (mor h6.s:∀k∈[I.z],k∈[g1]∨w0.z<=k):Chg (· ∈ [g1]) w0 aU),z,p3_0,ii z,aa,(((ab.e L).c O<|djs<|mm1 (Blk.lt hB1) ai).e s4).c ah<|djs af⟩
 refine Wk<|Wq ?_
 obtain ⟨_,aA,a2⟩:=bdS<|ifF a1 hcw;refine b_u (σ:=Int×Int×Int×Int) (ρ:=U_×Int) (fun s a w=>un4 (fun xa xf xb x5=>Sat 46 [(0,pt g1),(4,pt w0.z),(6,pt I.z),(7,vI xa),(8,pt h.z)] a/\Chg (· ∈ ([g1]++[h.z])) G w/\inI xa/\inI xf/\inI xb/\inI x5/\Blk w g1 [sl A0 N0 C0,sl A1 N1 C1,vI xf]/\Blk w h.z [vI xb,vI x5]) s) (fun s a w=>un4 (fun xa xf xb x5=>Sat 46 [(6,pt I.z),(8,pt h.z)] a/\Chg (· ∈ ([g1]++[h.z])) G w/\inI xa/\inI xf/\inI xb/\inI x5/\Blk w g1 [sl A0 N0 C0,sl A1 N1 C1,vI xf]/\Blk w h.z [vI xb,vI x5]) s) (fun r ex a w=>ex = .ret/\w_ prog fn (Q33 w0 g1 B A0 N0 C0 A1 N1 C1 x1 r) a w) aA ?_ ?_ ?_ ?_
 ·exact fun _ q=>⟨q.k<|s5 z z z z z,cr ([g1]++[h.z]) G,aO,aa,aP,aQ,((ab.e L).c O<|djs<|mm1 (Blk.lt hB1)<|lt_ hj H.s).e s4,ae.e s4⟩
 ·rintro ⟨xa,xf,xb,x5⟩ _ wh _ ⟨aB,sk,aj,hp,hq,hx,ht,hl⟩ aC;refine Wu ?_ aB;refine Wq<|Wq ?_
  obtain ⟨aX,a3,a4⟩:=bdS<|un4S aC;refine Wt (fun a w=>∃(xy:Bool),xy=aX/\Sat 46 [(0,pt g1),(4,pt w0.z),(6,pt I.z),(7,vI xa),(8,pt h.z),(34,vB xy)] a/\Below wh.z wh w) ?_ ?_
  ·refine Wg<|Rm z<|R z (Z_ z z)<|Rm z ?_
   rcases bs (decide<|0<xa) with hcc | hcc
   ·exact Rh z hcc (fd d_U z)<|Rh z hcc (l0 g_3 z<|hl.at z)<|Rh z hcc (eql z z)<|R z (pT z hcc z)<|Wl (fun _ q=>⟨x5==0,som<|ifT a3 hcc,q.k<|s6 z z z z z z,br wh⟩)
   iterate 3 refine Nh z hcc ?_
   exact R z (pF z hcc z)<|Wl (fun _ q=>⟨false,som<|ifF a3 hcc,q.k<|s6 z z z z z z,br wh⟩)
  rintro aY ak ⟨xy,rfl,_,sd⟩;revert aY;refine Wo<|Wc z (fun hcz=>?_) (fun hcz=>?_)
  ·refine Wk<|Wq<|Wb (Wd (X:=noX) 384 (pl_ 9 [7,8]) mo (by kernel_rfl) fun aZ si _=>dM z z z<|dR z z (fd a_2 z) ?_)
   have al:=mmr<|Blk.lt hB1
   have am:=mm1 a6.lt<|lt_ he.s H.s
   refine dR z z (l0 I_ z<|(((((((a8.c H<|atp al).e L).c O<|djs am).e s4).c sk<|atp<|nmA al<|ds am).e sd).e si).at z) ?_;obtain ⟨_,b0,aD⟩:=bdS<|ifT a4 hcz;have V:=lt_ hj H.s;have an:∀k∈[h.z],¬B k:=or0 (d_ lr)<|n_<|zt' hBw V;have W:=((((((ho.c H<|f_<|d_ hBg).e L).c O<|f_ an).e s4).c sk<|nmA (f_<|d_ hBg)<|f_ an).e sd).e si;refine dRX z z (at_ (α:=Int) z_ z_3 z z z (p2_7.g W) b0) ?_;rintro _ ⟨_,_,_,rfl,b1,b2,_⟩;obtain ⟨rfl,b3⟩:=W_ b2;refine dR z z (l0 g_3 z<|b1.at0 z)<|dR z z (fd d_u z) ?_
   have ao:=(hl.e sd).e si;refine dR z z (l0 g_3 z<|ao.at z) ?_;obtain ⟨rm,b4,b5,aE⟩:=a_k aD;refine dE z z (fc call193 z<|aI.run (B:=B) b5 ((ht.e sd).e si) (zt' hBw<|lt_ (lt_ (lt_ (lt_ (lt_ (lt_ V L.s) O.s) s4.s) sk.s) sd.s) si.s) hBg (p1_0.g W) (p1_1.g W) hp b3 hq) (.inl z) ?_;rintro _ b6 ⟨ap,rfl,b7,b8,b9,ba⟩;have aq:=mm1 (Blk.lt hB1) V;refine dE0 z (fs (cur':=[vI rm.at_,vI rm.code]) C_ z z (ao.c ap<|atp aq) z (lb z) (oA z) z) (.inl z) ?_;rintro _ bb ⟨bc,be⟩;have ar:=be.one;refine pD<|Wo<|Wg<|Rm z<|R z (sb_ z z)<|Ra z<|Wl ?_
   exact fun _ q=>⟨(x_ xa 1,b4,rm.at_,rm.code),(som aE).symm,⟨q.k<|s5 z z z z z,(cM (cM (i_ (i_ (cM (cr ([g1]++[h.z]) G) sk (aa_ (io<|b_X sr)<|io<|b_F sr):Chg (· ∈ ([g1]++[h.z])) G wh) sd:Chg (· ∈ ([g1]++[h.z])) G ak) si:Chg (· ∈ ([g1]++[h.z])) G aZ) ap (io<|b_X sr):Chg (· ∈ ([g1]++[h.z])) G b6) ar (io<|b_F sr):Chg (· ∈ ([g1]++[h.z])) G bb),iS _ _,b9,b7,b8,ba.c ar<|djs aq,bc⟩⟩
  exact We<|fun a' ha'=>b_e (som<|ifF a4 hcz).symm ⟨Sat.weaken ha'<|s2 z z,(i_ (cM (cr ([g1]++[h.z]) G) sk (aa_ (io<|b_X sr)<|io<|b_F sr):Chg (· ∈ ([g1]++[h.z])) G wh) sd:Chg (· ∈ ([g1]++[h.z])) G ak),aj,hp,hq,hx,ht.e sd,hl.e sd⟩
 ·rintro ⟨xa,xf,xb,x5⟩ bf bg rfl ⟨_,au,aj,hp,hq,hx,ht,hl⟩;have aF:=elL a2;revert bf;refine Wo<|Ws<|R z (lN (vs:=[vI xb,vI x5]) a_m C_ z z fid<|hl.row 0 2 z) ?_
  have Y:=mm1 (Blk.lt hB1) h6.s;have av:=mm1 hn.lt H.s;refine E0 (fs (cur':=[vI xb,vI x5]) C_ z z (((((hn.c H<|atp Y).e L).c O<|djs av).e s4).c au<|atp<|nmA Y<|ds av) z (lb z) (oA z) z) ?_;rintro _ bh ⟨bi,bj⟩;have aw:=bj.one;refine Wn ?_;obtain rfl:=som<|un4S aF;have ax:∀k∈[h.z],k∈[g1]∨w0.z<=k:=mor<|lt_ hj H.s;exact Wr<|c_ hr (p_ a_m C_ z bi z) ⟨(cM (cM (i_ (cM (i_ (cM (i_ (i_ (cr [g1] w0) h6:Chg (· ∈ [g1]) w0 I) he:Chg (· ∈ [g1]) w0 wr) H (io sr):Chg (· ∈ [g1]) w0 h) L:Chg (· ∈ [g1]) w0 wu) O ax:Chg (· ∈ [g1]) w0 wg) s4:Chg (· ∈ [g1]) w0 G) au (aa_ (io sr) ax):Chg (· ∈ [g1]) w0 bg) aw (mor h6.s:∀k∈[I.z],k∈[g1]∨w0.z<=k):Chg (· ∈ [g1]) w0 bh),z,hq,hx,hp,ht.c aw<|djs Y⟩
 rintro _ _ _ _ rfl ⟨rfl,aG⟩;have aH:=elR a2;obtain rfl:=som aH;exact ⟨aG,z⟩
theorem T_w1v (ih:g_t n):m_L (i_f n<|a_D n):=by
 obtain ⟨ai,_,_,_,_⟩:=ih
 constructor
 intro A0 A1 A4 A5 A2 A6 N0 C0 N1 C1 g1 N4 C4 N5 C5 N2 C2 N6 C6 B x1 x2 x3 res w0 hm hB1 hBw hBg p1_0 p1_1 p1_2 p2_0 p2_1 p2_2 p2_4 p2_5 p2_6 p2_7 p3_0;unfold i_f at hm
 refine goF func242 z z (lb z) fun fn hr=>Ws<|E z (fb z) ?_
 rintro _ G ⟨rfl,hq⟩;have h1:=hq.below;have ht:Blk G w0.z (vR x2 A4 N4 C4 A5 N5 C5 A2 N2 C2 A6 N6 C6):=hq.blk;refine E z (fa b_U) ?_;rintro _ wc ⟨rfl,hu⟩;have h6:=hu.below;have J:Blk wc G.z [vI 0,vI 0]:=hu.blk;refine Wn<|Wm z<|Rf z a_2 z ?_
 have hv:=ht.e h6;refine R z (l0 I_ z<|hv.at z) ?_;obtain ⟨_,aj,a6⟩:=bdS hm;have he:=(h1.ag B).e h6;refine RX z (at_ (α:=Int) z_ z_3 z z z (p2_7.g he) aj) ?_;rintro _ ⟨_,_,_,rfl,ak,al,_⟩;obtain ⟨rfl,am⟩:=W_ al;refine R z (l0 g_3 z<|ak.at0 z)<|Rm z ?_
 have hg:=lt_ h1.s h6.s;obtain ⟨an,rb,_,ao,hmr⟩:=V_ a6;refine E z (fc call238 z<|k_D (B:=B) ao ((hB1.e h1).e h6) (zt' hBw hg) hBg (p1_0.g he) (p1_1.g he) p1_2 am p3_0) ?_;rintro _ H ⟨h,rfl,_,hw,ap,hh,hi⟩;refine Rm z<|Re z z z<|Re z z z<|E z (fa b_U) ?_
 rintro _ wf ⟨rfl,hx⟩;have h2:=hx.below;refine Ra z<|E0 (fs (cur':=[vI rb.at_,vI rb.code]) C_ z z (hx.blk:Blk wf H.z [vI 0,vI 0]) z (lb z) (oA z) z) ?_
 rintro _ I ⟨hj,aq⟩;have h3:=aq.one;refine Wn<|Wq<|Ws<|Rf z d_U z<|R z (l0 g_3 z<|hj.at z)<|R z (nq z z)<|Wx z (fun hck=>?_) (fun hck=>?_)
 ·refine Ws<|R z (lN (vs:=[vI rb.at_,vI rb.code]) a_m C_ z z fid<|hj.row 0 2 z) ?_
  have hy:=mm1 (Blk.lt hB1) h1.s;refine E0 (fs (cur':=[vI rb.at_,vI rb.code]) C_ z z (((J.c h<|atp hy).e h2).c h3<|djs<|mm1 J.lt h.s) z (lb z) (oA z) z) ?_;rintro _ ar ⟨au,av⟩;have hz:=av.one;refine Wn ?_;obtain rfl:=som<|ifT hmr hck;have O:=lt_ hg h.s;exact Wr<|c_ hr (p_ a_m C_ z au z) ⟨(cM (cM (i_ (cM (i_ (i_ (cr [g1] w0) h1:Chg (· ∈ [g1]) w0 G) h6:Chg (· ∈ [g1]) w0 wc) h (io sr):Chg (· ∈ [g1]) w0 H) h2:Chg (· ∈ [g1]) w0 wf) h3 (mor O:∀k∈[H.z],k∈[g1]∨w0.z<=k):Chg (· ∈ [g1]) w0 I) hz (mor h1.s:∀k∈[G.z],k∈[g1]∨w0.z<=k):Chg (· ∈ [g1]) w0 ar),z,hw,ap,hh,((hi.e h2).c h3<|djs<|mm1 (Blk.lt hB1) O).c hz<|djs hy⟩
 refine Wk<|Wq<|Ws<|Rf z b_s z ?_
 have V:=((hv.c h<|atp<|mmr<|Blk.lt hB1).e h2).c h3<|djs<|mm1 ht.lt<|lt_ h6.s h.s
 refine R z (l0 I_ z<|V.at z) ?_;have hd:=lt_ hg h.s;have W:=((he.c h<|f_<|d_ hBg).e h2).c h3<|f_ (or0 (d_ lr) (n_<|zt' hBw hd):∀k∈[H.z],¬B k)
 refine R z (lnR z_ z<|p2_6.g W)<|Rm z<|Wn ?_
 obtain ⟨_,a7,hms⟩:=bdS<|ifF hmr hck;refine Wf (σ:=Unit) (ρ:=U_×Int) (fun (Y:Nat)(_:Unit) a w=>Sat 49 [(0,pt g1),(2,vI x3),(4,pt w0.z),(6,pt G.z),(7,vI an),(8,pt H.z),(26,sl A2 N2 C2),(27,vI (x2.tags.length:Int)),(28,vI ((Y:Nat):Int))] a/\Below I.z I w) (fun (_:Unit) a w=>Sat 49 [(2,vI x3),(6,pt G.z)] a/\Below I.z I w) (fun r ex a w=>ex = .ret/\w_ prog fn (Q33 w0 g1 B A0 N0 C0 A1 N1 C1 x1 r) a w) a7 ?_ ?_ ?_ ?_ ?_
 ·exact fun _ q=>⟨q.k<|s9 z z z z z z z z z,br I⟩
 ·rintro Y _ _ aw _ hkl ⟨a8,s8⟩ a9;refine Wu ?_ a8;refine Ws<|Rl z z z<|Wn<|Wq<|Wc z (fun _=>?_) (fun hc=>(P_ hkl hc).elim)
  refine Wk<|Wq<|Wb<|Wm z ?_
  obtain ⟨_,ax,L⟩:=bdS a9;have a0:=W.e s8;refine RX z (at_ (α:=Int) z_ z_3 z z z (p2_6.g a0) ax) ?_;rintro _ ⟨_,_,_,rfl,ay,az,_⟩;obtain ⟨rfl,_⟩:=W_ az;refine R z (l0 g_3 z<|ay.at0 z)<|Ra z<|Rw z<|Wm z<|Rm z<|Rq z z z<|Wx z (fun hcm=>?_) (fun hcm=>?_)
  ·refine Wq (Wd (X:=noX) 1536 (pl_ 11 [9,10]) mo (by kernel_rfl) fun aA sa _=>dM z z z<|dR z z (fd a_2 z)<|dR z z (l0 I_ z<|((V.e s8).e sa).at z)<|dM z z z<|dR z z (inc_ hkl (lt_ (repS.len p2_6) A_) z z) ?_);obtain ⟨_,aB,aa⟩:=bdS<|ifT L hcm;have hn:=a0.e sa;refine dRX z z (at_ (α:=Int) z_ z_3 z z z (p2_7.g hn) aB) ?_;rintro _ ⟨_,_,_,rfl,aC,aD,_⟩;obtain ⟨rfl,aE⟩:=W_ aD;refine dR z z (l0 g_3 z<|aC.at0 z)<|dR z z (fd d_u z)<|dR z z (l0 g_3 z<|((hj.e s8).e sa).at z) ?_
   obtain ⟨a1,_,aF,ab⟩:=a_k aa;refine dE z z (fc call193 z<|ai.run (B:=B) aF ((((hi.e h2).c h3<|djs<|mm1 (Blk.lt hB1) hd).e s8).e sa) (zt' hBw<|lt_ (lt_ (lt_ (lt_ hd h2.s) h3.s) s8.s) sa.s) hBg (p1_0.g hn) (p1_1.g hn) hh aE hw) (.inl z) ?_;rintro _ aG ⟨a2,rfl,aH,aI,aJ,aK⟩;have ho:=mm1 (Blk.lt hB1) h1.s;refine dE0 z (fs (cur':=[vI a1.at_,vI a1.code]) C_ z z ((((((J.c h<|atp ho).e h2).c h3<|djs<|mm1 J.lt h.s).e s8).e sa).c a2<|atp ho) z (lb z) (oA z) z) (.inl z) ?_;rintro _ aL ⟨aM,aN⟩;have a3:=aN.one;refine pD<|Wo ?_
   exact Wr<|rtO<|qL (som ab).symm<|c_ hr (p_ a_m C_ z aM z) ⟨(cM (cM (i_ (i_ (cM (i_ (cM (i_ (i_ (cr [g1] w0) h1:Chg (· ∈ [g1]) w0 G) h6:Chg (· ∈ [g1]) w0 wc) h (io sr):Chg (· ∈ [g1]) w0 H) h2:Chg (· ∈ [g1]) w0 wf) h3 (mor hd:∀k∈[H.z],k∈[g1]∨w0.z<=k):Chg (· ∈ [g1]) w0 I) s8:Chg (· ∈ [g1]) w0 aw) sa:Chg (· ∈ [g1]) w0 aA) a2 (io sr):Chg (· ∈ [g1]) w0 aG) a3 (mor h1.s:∀k∈[G.z],k∈[g1]∨w0.z<=k):Chg (· ∈ [g1]) w0 aL),z,aH,aI,aJ,aK.c a3<|djs ho⟩
  exact Wk<|Wg<|R z (inc_ hkl (lt_ (repS.len p2_6) A_) z z)<|Rm z<|Wl (fun _ q=>⟨(),(som<|ifF L hcm).symm,⟨q.k<|s9 z z z z z z z z z,s8⟩⟩)
 ·rintro _ _ _ ⟨ad,aO⟩;refine Wu ?_ ad;refine Ws<|Rl z z z<|Wn<|Wq<|Wc z (fun hc=>(Q_ hc).elim) (fun _=>?_)
  exact We<|fun a' ha'=>⟨rfl,⟨Sat.weaken ha'<|s2 z z,aO⟩⟩
 ·rintro _ aP aQ rfl ⟨_,sp⟩;have ae:=elL hms;revert aP;refine Wo<|Wm z<|R z (bP (parts:=[(0,.tmp 47),(1,.const<|.int .i64 3)]) (cs:=[vI x3,vI 3]) d_8 z z) ?_
  have a4:=mm1 (Blk.lt hB1) h1.s;refine E0 (fs (cur':=[vI x3,vI 3]) C_ z z ((((J.c h<|atp a4).e h2).c h3<|djs<|mm1 J.lt h.s).e sp) z (lb z) (oA z) z) ?_;rintro _ aR ⟨aS,aT⟩;have a5:=aT.one;refine Wn ?_;obtain rfl:=som ae;exact Wr<|c_ hr (p_ a_m C_ z aS z) ⟨(cM (i_ (cM (i_ (cM (i_ (i_ (cr [g1] w0) h1:Chg (· ∈ [g1]) w0 G) h6:Chg (· ∈ [g1]) w0 wc) h (io sr):Chg (· ∈ [g1]) w0 H) h2:Chg (· ∈ [g1]) w0 wf) h3 (mor hd:∀k∈[H.z],k∈[g1]∨w0.z<=k):Chg (· ∈ [g1]) w0 I) sp:Chg (· ∈ [g1]) w0 aQ) a5 (mor h1.s:∀k∈[G.z],k∈[g1]∨w0.z<=k):Chg (· ∈ [g1]) w0 aR),z,p3_0,ii z,hh,(((hi.e h2).c h3<|djs<|mm1 (Blk.lt hB1) hd).e sp).c a5<|djs a4⟩
 rintro _ _ _ _ rfl ⟨rfl,af⟩;have ah:=elR hms;obtain rfl:=som ah;exact ⟨af,z⟩
theorem T_w1w (ih:g_t n):m_M (i_g n<|a_D n):=by
 obtain ⟨a7,_,_,_,_⟩:=ih
 constructor
 intro A0 A1 A4 A5 A2 A6 N0 C0 N1 C1 g1 N4 C4 N5 C5 N2 C2 N6 C6 B x1 x2 x3 res w0 hm hB1 hBw hBg p1_0 p1_1 p1_2 p2_0 p2_1 p2_2 p2_4 p2_5 p2_6 p2_7 p3_0;unfold i_g at hm
 refine goF func243 z z (lb z) fun fn hr=>Ws<|E z (fb z) ?_
 rintro _ I ⟨rfl,hq⟩;have h5:=hq.below;have ht:Blk I w0.z (vR x2 A4 N4 C4 A5 N5 C5 A2 N2 C2 A6 N6 C6):=hq.blk;refine E z (fa b_U) ?_;rintro _ we ⟨rfl,hu⟩;have J:=hu.below;have hc:Blk we I.z [vI 0,vI 0]:=hu.blk;refine Wn<|Wm z<|Rm z ?_
 have hf:=(hB1.e h5).e J;have hg:=(h5.ag B).e J;have hh:=lt_ h5.s J.s;obtain ⟨L,a8,a3⟩:=bdS hm;refine E z (fc call240 z<|h_I (B:=w0.z) a8 (a_T hh) (repS.mono (p1_0.g hg) hBw) (repS.mono (p1_1.g hg) hBw) p1_2 (hf.row 0 3 z) (Blk.lt hB1) p3_0<|ii z) ?_;rintro _ H ⟨h,rfl,hv,a9⟩;refine E z (fa b_U) ?_;rintro _ wi ⟨rfl,hw⟩;have h2:=hw.below;refine E0 (fs (cur':=[vI L.at_,vI L.code]) C_ z z (hw.blk:Blk wi H.z [vI 0,vI 0]) z (lb z) (oA z) z) ?_;rintro _ wa ⟨hj,aa⟩;have h3:=aa.one;refine Wn<|Wq<|Wb<|Wq ?_
 obtain ⟨ab,hur,hms⟩:=bdS a3;refine Wt (fun a w=>∃(xk:Bool),xk=ab/\Sat 45 [(0,pt g1),(2,vI x3),(4,pt w0.z),(6,pt I.z),(7,pt H.z),(11,vB xk)] a/\Below wa.z wa w) ?_ ?_
 ·refine Wg<|Rf z d_U z<|R z (l0 g_3 z<|hj.at z)<|R z (nq z z)<|Rm z ?_
  rcases bs (L.code != 0) with G | G
  ·iterate 8 refine Nh z G ?_
   exact R z (pT z G z)<|Ra z<|Wl (fun _ q=>⟨true,som<|ifT hur G,q.k<|s6 z z z z z z,br wa⟩)
  refine Rh z G (mv z)<|Rh z G (a_6 z)<|Rh z G (fd e_j z) ?_
  have hx:=lt_ hh h.s;refine Rh z G (l0 M_ z<|(((hf.e h).e h2).c h3<|djs<|mm1 (Blk.lt hB1) hx).at z)<|Rh z G (mv z) ?_
  obtain ⟨ad,ae,a4⟩:=bdS<|ifF hur G;refine RXg z z G z (at_ (α:=UInt8) j_ z_5 z z z (p1_1.g<|((hg.e h).e h2).c h3<|f_ (or0 (d_ lr) (n_<|zt' hBw hx):∀k∈[H.z],¬B k)) ae) ?_;rintro _ ⟨_,_,_,rfl,af,ah,_⟩;obtain rfl:=u8 ah;exact Rh z G (l0 g_5 z<|af.at0 z)<|Rh z G (eql z z)<|R z (pF z G z)<|Ra z<|Wl (fun _ q=>⟨(byteI ad)==(byteI (0:UInt8)),som a4,q.k<|s6 z z z z z z,br wa⟩)
 rintro ai wl ⟨xk,rfl,_,s4⟩;revert ai;refine Wo<|Wc z (fun hcm=>?_) (fun hcm=>?_)
 ·refine Ws<|R z (lN (vs:=[vI L.at_,vI L.code]) a_m C_ z z fid<|(hj.e s4).row 0 2 z)<|E0 (fs (cur':=[vI L.at_,vI L.code]) C_ z z ((((hc.e h).e h2).c h3<|djs<|mm1 hc.lt h.s).e s4) z (lb z) (oA z) z) ?_
  rintro _ aj ⟨ak,al⟩;have hy:=al.one;refine Wn ?_;obtain rfl:=som<|ifT hms hcm;have hz:=lt_ hh h.s;exact Wr<|rtO<|c_ hr (p_ a_m C_ z ak z) ⟨(cM (i_ (cM (i_ (i_ (i_ (i_ (cr [g1] w0) h5:Chg (· ∈ [g1]) w0 I) J:Chg (· ∈ [g1]) w0 we) h:Chg (· ∈ [g1]) w0 H) h2:Chg (· ∈ [g1]) w0 wi) h3 (mor hz:∀k∈[H.z],k∈[g1]∨w0.z<=k):Chg (· ∈ [g1]) w0 wa) s4:Chg (· ∈ [g1]) w0 wl) hy (mor h5.s:∀k∈[I.z],k∈[g1]∨w0.z<=k):Chg (· ∈ [g1]) w0 aj),z,hv,a9,p1_2,((((hf.e h).e h2).c h3<|djs<|mm1 (Blk.lt hB1) hz).e s4).c hy<|djs<|mm1 (Blk.lt hB1) h5.s⟩
 refine Wm z<|R z (a_6 z)<|Rf z e_j z ?_
 have hd:=lt_ hh h.s;have hn:=(((hf.e h).e h2).c h3<|djs<|mm1 (Blk.lt hB1) hd).e s4;refine R z (l0 M_ z<|hn.at z)<|Rm z ?_
 obtain ⟨_,am,O⟩:=bdS<|ifF hms hcm;have V:=(((hg.e h).e h2).c h3<|f_ (or0 (d_ lr) (n_<|zt' hBw hd):∀k∈[H.z],¬B k)).e s4;refine RX z (at_ (α:=UInt8) j_ z_5 z z z (p1_1.g V) am) ?_;rintro _ ⟨_,_,_,rfl,an,ao,_⟩;obtain rfl:=u8 ao;refine R z (l0 g_5 z<|an.at0 z)<|R z (Z_ z z)<|Rw z<|Wc z (fun hco=>?_) (fun hco=>?_)
 ·refine Wm z<|R z (bP (parts:=[(0,.tmp 35),(1,.const<|.int .i64 4)]) (cs:=[vI x3,vI 4]) d_8 z z)<|E0 (fs (cur':=[vI x3,vI 4]) C_ z z ((((hc.e h).e h2).c h3<|djs<|mm1 hc.lt h.s).e s4) z (lb z) (oA z) z) ?_
  rintro _ ap ⟨aq,ar⟩;have W:=ar.one;refine Wn ?_;obtain rfl:=som<|ifT O hco;exact Wr<|rtO<|c_ hr (p_ a_m C_ z aq z) ⟨(cM (i_ (cM (i_ (i_ (i_ (i_ (cr [g1] w0) h5:Chg (· ∈ [g1]) w0 I) J:Chg (· ∈ [g1]) w0 we) h:Chg (· ∈ [g1]) w0 H) h2:Chg (· ∈ [g1]) w0 wi) h3 (mor hd:∀k∈[H.z],k∈[g1]∨w0.z<=k):Chg (· ∈ [g1]) w0 wa) s4:Chg (· ∈ [g1]) w0 wl) W (mor h5.s:∀k∈[I.z],k∈[g1]∨w0.z<=k):Chg (· ∈ [g1]) w0 ap),z,p3_0,ii z,p1_2,hn.c W<|djs<|mm1 (Blk.lt hB1) h5.s⟩
 refine Wk<|Wq (Wd (X:=noX) 384 (pl_ 9 [7,8]) mo (by kernel_rfl) fun au sb _=>dM z z z<|dR z z (fd a_2 z)<|dR z z (l0 I_ z<|((((((ht.e J).e h).e h2).c h3<|djs<|mm1 ht.lt<|lt_ J.s h.s).e s4).e sb).at z) ?_)
 obtain ⟨_,av,a5⟩:=bdS<|ifF O hco;have hp:=V.e sb;refine dRX z z (at_ (α:=Int) z_ z_3 z z z (p2_7.g hp) av) ?_;rintro _ ⟨_,_,_,rfl,aw,ax,_⟩;obtain ⟨rfl,ay⟩:=W_ ax;refine dR z z (l0 g_3 z<|aw.at0 z)<|dR z z (fd d_u z)<|dR z z (l0 g_3 z<|((hj.e s4).e sb).at z) ?_
 obtain ⟨Y,_,az,a6⟩:=a_k a5;refine dE z z (fc call193 z<|a7.run (B:=B) az (hn.e sb) (zt' hBw<|lt_ (lt_ (lt_ (lt_ hd h2.s) h3.s) s4.s) sb.s) hBg (p1_0.g hp) (p1_1.g hp) p1_2 ay hv) (.inl z) ?_;rintro _ aA ⟨a0,rfl,aB,aC,aD,aE⟩;have a1:=mm1 (Blk.lt hB1) h5.s;refine dE0 z (fs (cur':=[vI Y.at_,vI Y.code]) C_ z z ((((((hc.e h).e h2).c h3<|djs<|mm1 hc.lt h.s).e s4).e sb).c a0<|atp a1) z (lb z) (oA z) z) (.inl z) ?_;rintro _ aF ⟨aG,aH⟩;have a2:=aH.one;refine pD<|Wo ?_
 obtain rfl:=som a6;exact Wr<|c_ hr (p_ a_m C_ z aG z) ⟨(cM (cM (i_ (i_ (cM (i_ (i_ (i_ (i_ (cr [g1] w0) h5:Chg (· ∈ [g1]) w0 I) J:Chg (· ∈ [g1]) w0 we) h:Chg (· ∈ [g1]) w0 H) h2:Chg (· ∈ [g1]) w0 wi) h3 (mor hd:∀k∈[H.z],k∈[g1]∨w0.z<=k):Chg (· ∈ [g1]) w0 wa) s4:Chg (· ∈ [g1]) w0 wl) sb:Chg (· ∈ [g1]) w0 au) a0 (io sr):Chg (· ∈ [g1]) w0 aA) a2 (mor h5.s:∀k∈[I.z],k∈[g1]∨w0.z<=k):Chg (· ∈ [g1]) w0 aF),z,aB,aC,aD,aE.c a2<|djs a1⟩
theorem T_w1x (ih:g_t n):m_N (i_h n<|a_D n):=by
 obtain ⟨ao,_,_,_,_⟩:=ih
 constructor
 intro A0 A1 A4 A5 A2 A6 N0 C0 N1 C1 g1 N4 C4 N5 C5 N2 C2 N6 C6 B x1 x2 x3 res w0 hm hB1 hBw hBg p1_0 p1_1 p1_2 p2_0 p2_1 p2_2 p2_4 p2_5 p2_6 p2_7 p3_0;unfold i_h at hm
 refine goF func244 z z (lb z) fun fn hr=>Ws<|E z (fb z) ?_
 rintro _ I ⟨rfl,W⟩;have h4:=W.below;refine E z (fa b_U) ?_;rintro _ wj ⟨rfl,Y⟩;have hd:=Y.below;have ha:Blk wj I.z [vI 0,vI 0]:=Y.blk;refine Wn<|Wm z<|Rf z a_2 z<|R z (l0 I_ z<|((W.blk:Blk I w0.z (vR x2 A4 N4 C4 A5 N5 C5 A2 N2 C2 A6 N6 C6)).e hd).at z) ?_
 obtain ⟨_,ap,aj⟩:=bdS hm;have hk:=(h4.ag B).e hd;refine RX z (at_ (α:=Int) z_ z_3 z z z (p2_7.g hk) ap) ?_;rintro _ ⟨_,_,_,rfl,aq,ar,_⟩;obtain ⟨rfl,au⟩:=W_ ar;refine R z (l0 g_3 z<|aq.at0 z)<|Rm z ?_
 have hq:=lt_ h4.s hd.s;obtain ⟨rb,_,av,L⟩:=a_k aj;refine E z (fc call193 z<|ao.run (B:=B) av ((hB1.e h4).e hd) (zt' hBw hq) hBg (p1_0.g hk) (p1_1.g hk) p1_2 au p3_0) ?_;rintro _ J ⟨s2,rfl,ht,aw,hl,a0⟩;refine E z (fa b_U) ?_;rintro _ wm ⟨rfl,a1⟩;have h5:=a1.below;have hu:Blk wm J.z [vI 0,vI 0]:=a1.blk;refine E0 (fs (cur':=[vI rb.at_,vI rb.code]) C_ z z hu z (lb z) (oA z) z) ?_;rintro _ wr ⟨hh,ax⟩;have h3:=ax.one;refine Wn<|Wq<|Ws<|Rf z d_U z<|R z (l0 g_3 z<|hh.at z)<|R z (nq z z)<|Wx z (fun hcs=>?_) (fun hcs=>?_)
 ·refine Ws<|R z (lN (vs:=[vI rb.at_,vI rb.code]) a_m C_ z z fid<|hh.row 0 2 z) ?_
  have a2:=mm1 (Blk.lt hB1) h4.s;refine E0 (fs (cur':=[vI rb.at_,vI rb.code]) C_ z z (((ha.c s2<|atp a2).e h5).c h3<|djs<|mm1 ha.lt s2.s) z (lb z) (oA z) z) ?_;rintro _ ay ⟨az,aA⟩;have a3:=aA.one;refine Wn ?_;obtain rfl:=som<|ifT L hcs;have a4:=lt_ hq s2.s;exact Wr<|c_ hr (p_ a_m C_ z az z) ⟨(cM (cM (i_ (cM (i_ (i_ (cr [g1] w0) h4:Chg (· ∈ [g1]) w0 I) hd:Chg (· ∈ [g1]) w0 wj) s2 (io sr):Chg (· ∈ [g1]) w0 J) h5:Chg (· ∈ [g1]) w0 wm) h3 (mor a4:∀k∈[J.z],k∈[g1]∨w0.z<=k):Chg (· ∈ [g1]) w0 wr) a3 (mor h4.s:∀k∈[I.z],k∈[g1]∨w0.z<=k):Chg (· ∈ [g1]) w0 ay),z,ht,aw,hl,((a0.e h5).c h3<|djs<|mm1 (Blk.lt hB1) a4).c a3<|djs a2⟩
 refine Wk<|Wm z<|Rf z d_u z<|R z (l0 g_3 z<|hh.at z) ?_
 have hi:=lt_ hq s2.s;have hn:=(a0.e h5).c h3<|djs<|mm1 (Blk.lt hB1) hi
 have hv:=((hk.c s2<|f_<|d_ hBg).e h5).c h3<|f_ (or0 (d_ lr) (n_<|zt' hBw hi):∀k∈[J.z],¬B k)
 have ho:=lt_ (lt_ hi h5.s) h3.s;obtain ⟨re,aB,ak⟩:=bdS<|ifF L hcs;refine E z (fc call240 z<|h_I (B:=w0.z) aB (a_T ho) (repS.mono (p1_0.g hv) hBw) (repS.mono (p1_1.g hv) hBw) hl (hn.row 0 3 z) (Blk.lt hB1) ht<|ii z) ?_;rintro _ wf ⟨s1,rfl,aC,aD⟩;refine E z (fa b_U) ?_;rintro _ ww ⟨rfl,a5⟩;have h6:=a5.below;refine E0 (fs (cur':=[vI re.at_,vI re.code]) C_ z z (a5.blk:Blk ww wf.z [vI 0,vI 0]) z (lb z) (oA z) z) ?_;rintro _ wp ⟨a6,aE⟩;have H:=aE.one;refine Wn<|Wq<|Wq ?_
 obtain ⟨aF,O,V⟩:=bdS ak;refine Wt (fun a w=>∃(xx:Bool),xx=aF/\Sat 52 [(6,pt I.z),(7,pt J.z),(8,pt wf.z),(47,vB xx)] a/\Below wp.z wp w) ?_ ?_
 ·refine Wd (X:=noX) 0 (pl_ 24 [21]) mo (by kernel_rfl) fun aW sg _=>dR z z (fd d_U z)<|dR z z (l0 g_3 z<|(a6.e sg).at z)<|dR z z (eql z z)<|dM z z z ?_
  rcases bs (re.code==0) with G | G
  ·refine dRg z z z G z (mv z)<|dRg z z z G z (a_6 z)<|dRg z z z G z (fd e_j z) ?_
   have hy:=lt_ ho s1.s;have a7:=(((hn.e s1).e h6).c H<|djs<|mm1 (Blk.lt hB1) hy).e sg;refine dRg z z z G z (l0 M_ z<|a7.at z)<|dRg z z z G z (fd d_u z) ?_
   have a8:=(((hh.e s1).e h6).c H<|djs<|mm1 hu.lt<|lt_ h3.s s1.s).e sg;refine dRg z z z G z (l0 g_3 z<|a8.at z) ?_;obtain ⟨aG,aH,al⟩:=bdS<|ifT O G;have a9:=p1_1.g<|(((hv.e s1).e h6).c H<|f_ (or0 (d_ lr) (n_<|zt' hBw hy):∀k∈[wf.z],¬B k)).e sg
   refine a_K z z z G z (at_ (α:=UInt8) j_ z_5 z z z a9 aH) ?_;rintro _ ⟨_,_,_,rfl,aI,aJ,_⟩;obtain rfl:=u8 aJ;refine dRg z z z G z (l0 g_5 z<|aI.at0 z)<|dRg z z z G z (b_i d_5 d_3 z)<|dRg z z z G z (mv z)<|dRg z z z G z (a_6 z)<|dRg z z z G z (fd e_j z)<|dRg z z z G z (l0 M_ z<|a7.at z)<|dRg z z z G z (mv z)<|dRg z z z G z (fd d_u z)<|dRg z z z G z (l0 g_3 z<|a8.at z) ?_
   obtain ⟨_,aK,am⟩:=bdS al;refine a_K z z z G z (rX j_ z_5 z z a9 z z aK) ?_;rintro _ ⟨_,_,_,rfl,aL⟩;obtain ⟨aM,aN,an⟩:=bdS am;refine dEg z z z G z (fc call263 z<|m_y aN (zt' hBw<|lt_ (lt_ (lt_ hy h6.s) H.s) sg.s) aL) (.inr fun _ _ h=>F_<|h.1) ?_;rintro _ _ ⟨aO,rfl,_⟩;exact dRg z z z G z (nq z z)<|dR z z (pT z G z)<|pD (fun _ q=>⟨(byteI aG) != aM,som an,q.k<|s4 z z z z,bup sg aO⟩)
  iterate 17 refine dRn z z z G z ?_
  exact dEn z z z G z<|dRn z z z G z<|dR z z (pF z G z)<|pD (fun _ q=>⟨false,som<|ifF O G,q.k<|s4 z z z z,sg⟩)
 rintro aP aa ⟨xx,rfl,_,sc⟩;revert aP;refine Wo<|Wc z (fun hcz=>?_) (fun hcz=>?_)
 ·refine Ws<|Rf z d_u z<|R z (l0 g_3 z<|((((hh.e s1).e h6).c H<|djs<|mm1 hu.lt<|lt_ h3.s s1.s).e sc).at z)<|R z (bP (parts:=[(0,.tmp 49),(1,.const<|.int .i64 5)]) (cs:=[vI rb.at_,vI 5]) d_8 z z) ?_
  have ab:=mm1 (Blk.lt hB1) h4.s;refine E0 (fs (cur':=[vI rb.at_,vI 5]) C_ z z (((((((ha.c s2<|atp ab).e h5).c h3<|djs<|mm1 ha.lt s2.s).e s1).e h6).c H<|djs<|mm1 ha.lt<|lt_ (lt_ (lt_ s2.s h5.s) h3.s) s1.s).e sc) z (lb z) (oA z) z) ?_;rintro _ aQ ⟨aR,aS⟩;have ad:=aS.one;refine Wn ?_;obtain rfl:=som<|ifT V hcz;have ae:=lt_ ho s1.s;exact Wr<|c_ hr (p_ a_m C_ z aR z) ⟨(cM (i_ (cM (i_ (i_ (cM (i_ (cM (i_ (i_ (cr [g1] w0) h4:Chg (· ∈ [g1]) w0 I) hd:Chg (· ∈ [g1]) w0 wj) s2 (io sr):Chg (· ∈ [g1]) w0 J) h5:Chg (· ∈ [g1]) w0 wm) h3 (mor hi:∀k∈[J.z],k∈[g1]∨w0.z<=k):Chg (· ∈ [g1]) w0 wr) s1:Chg (· ∈ [g1]) w0 wf) h6:Chg (· ∈ [g1]) w0 ww) H (mor ae:∀k∈[wf.z],k∈[g1]∨w0.z<=k):Chg (· ∈ [g1]) w0 wp) sc:Chg (· ∈ [g1]) w0 aa) ad (mor h4.s:∀k∈[I.z],k∈[g1]∨w0.z<=k):Chg (· ∈ [g1]) w0 aQ),z,ht,ii z,hl,((((hn.e s1).e h6).c H<|djs<|mm1 (Blk.lt hB1) ae).e sc).c ad<|djs ab⟩
 refine Wk<|Ws<|R z (lN (vs:=[vI re.at_,vI re.code]) a_m C_ z z fid<|(a6.e sc).row 0 2 z) ?_
 have af:=mm1 (Blk.lt hB1) h4.s;refine E0 (fs (cur':=[vI re.at_,vI re.code]) C_ z z (((((((ha.c s2<|atp af).e h5).c h3<|djs<|mm1 ha.lt s2.s).e s1).e h6).c H<|djs<|mm1 ha.lt<|lt_ (lt_ (lt_ s2.s h5.s) h3.s) s1.s).e sc) z (lb z) (oA z) z) ?_;rintro _ aT ⟨aU,aV⟩;have ah:=aV.one;refine Wn ?_;obtain rfl:=som<|ifF V hcz;have ai:=lt_ ho s1.s;exact Wr<|c_ hr (p_ a_m C_ z aU z) ⟨(cM (i_ (cM (i_ (i_ (cM (i_ (cM (i_ (i_ (cr [g1] w0) h4:Chg (· ∈ [g1]) w0 I) hd:Chg (· ∈ [g1]) w0 wj) s2 (io sr):Chg (· ∈ [g1]) w0 J) h5:Chg (· ∈ [g1]) w0 wm) h3 (mor hi:∀k∈[J.z],k∈[g1]∨w0.z<=k):Chg (· ∈ [g1]) w0 wr) s1:Chg (· ∈ [g1]) w0 wf) h6:Chg (· ∈ [g1]) w0 ww) H (mor ai:∀k∈[wf.z],k∈[g1]∨w0.z<=k):Chg (· ∈ [g1]) w0 wp) sc:Chg (· ∈ [g1]) w0 aa) ah (mor h4.s:∀k∈[I.z],k∈[g1]∨w0.z<=k):Chg (· ∈ [g1]) w0 aT),z,aC,aD,hl,((((hn.e s1).e h6).c H<|djs<|mm1 (Blk.lt hB1) ai).e sc).c ah<|djs af⟩
theorem d_Y:∀n,g_t n
  | 0=>⟨⟨fun hm=>by intros;exact nomatch (show none=some _ from hm)⟩,⟨fun hm=>by intros;exact nomatch (show none=some _ from hm)⟩,⟨fun hm=>by intros;exact nomatch (show none=some _ from hm)⟩,⟨fun hm=>by intros;exact nomatch (show none=some _ from hm)⟩,⟨fun hm=>by intros;exact nomatch (show none=some _ from hm)⟩⟩
  | n+1=>⟨T_w03<|d_Y n,T_w1u<|d_Y n,T_w1v<|d_Y n,T_w1w<|d_Y n,T_w1x<|d_Y n⟩
theorem W_w03:m_J (a_D n).impl_checker_value:=(d_Y n).1
theorem W_w1u:m_K (a_D n).impl_checker_array:=(d_Y n).2.1
theorem W_w1v:m_L (a_D n).impl_checker_choice:=(d_Y n).2.2.1
theorem W_w1w:m_M (a_D n).impl_checker_option:=(d_Y n).2.2.2.1
theorem W_w1x:m_N (a_D n).impl_checker_checked:=(d_Y n).2.2.2.2
def Q34 (w0:World)(B:Zone)(r:Int×Int)(v:Value)(w':World):Prop:=Bw w0 w'/\un2 (fun h G=>v = .tuple #[vI h,vI G]/\inI h/\inI G) r
theorem W_w41 {x1:e_}{x2:Int}{x3:List UInt8}{x4:Int}{res:Int×Int}(hm:i_i n x1 x2 x3 x4=some res)(hBw:B<=w0.z)(p1_0:repS w0 B (sl A0 N0 C0) x1.rules)(p2_0:inI x2)(p3_0:repS w0 B (sl A7 N7 C7) x3)(p4_0:inI x4):h_ prog 157 [(.agg #[sl A0 N0 C0]),vI x2,sl A7 N7 C7,vI x4] w0 (Q34 w0 B res):=by
 unfold i_i at hm
 refine goF func157 z z (lb z) fun fn hr=>Ws<|E z (fb z) ?_
 rintro _ J ⟨rfl,hb⟩;have h3:=hb.below;have hc:Blk J w0.z [sl A0 N0 C0]:=hb.blk;refine Ra z<|Rw z<|Wq<|Wq ?_
 obtain ⟨ur,hus,hmd⟩:=bdS hm;refine Wt (fun a w=>∃(L:Bool),L=ur/\Sat 43 [(1,vI x2),(2,sl A7 N7 C7),(3,vI x4),(4,pt w0.z),(30,vB L)] a/\Below J.z J w) ?_ ?_
 ·refine Wg<|R z (lN (vs:=[sl A0 N0 C0]) J_ E_ z z fid<|hc.row 0 1 z)<|Rm z ?_
  obtain ⟨rt,eu,hme⟩:=bdS hus;refine E z (fc call190 z<|m_A eu (zt' hBw h3.s) (p1_0.e h3) p2_0) ?_;rintro _ _ ⟨s4,rfl⟩;refine R z (not_ z)<|Rm z ?_
  rcases bs (!rt) with G | G
  ·exact Nh z G<|Nh z G<|R z (pT z G z)<|Rm z<|Nh z z<|Nh z z<|Nh z z<|Nh z z<|R z (pT z z z)<|Rm z<|Nh z z<|Nh z z<|Nh z z<|R z (pT z z z)<|Wl (fun _ q=>⟨true,som<|ifT hme G,q.k<|s5 z z z z z,s4⟩)
  have hmf:=ifF hme G;refine Rh z G (mv z)<|Rh z G (lss z z)<|R z (pF z G z)<|Rm z ?_
  rcases bs (decide<|x4<0) with h | h
  ·iterate 4 refine Nh z h ?_
   exact R z (pT z h z)<|Rm z<|Nh z z<|Nh z z<|Nh z z<|R z (pT z z z)<|Wl (fun _ q=>⟨true,som<|ifT hmf h,q.k<|s5 z z z z z,s4⟩)
  have hmg:=ifF hmf h;refine Rh z h (mv z)<|Rh z h (mv z) ?_
  have hh:=p3_0.g<|(h3.ag B).e s4
  refine Rh z h (lnR j_ z hh)<|Rh z h (Z_ z z)<|R z (pF z h z)<|Rm z ?_
  rcases bs (decide<|(x3.length:Int)<x4) with H | H
  ·iterate 3 refine Nh z H ?_
   exact R z (pT z H z)<|Wl (fun _ q=>⟨true,som<|ifT hmg H,q.k<|s5 z z z z z,s4⟩)
  exact Rh z H (mv z)<|Rh z H (lnR j_ z hh)<|Rh z H (Z_ z z)<|R z (pF z H z)<|Wl (fun _ q=>⟨decide<|400<(x3.length:Int),som<|ifF hmg H,q.k<|s5 z z z z z,s4⟩)
 rintro av wi ⟨L,rfl,_,s6⟩;revert av;refine Wo<|Wc z (fun I=>?_) (fun I=>?_)
 ·refine Ws<|Ra z<|Rw z ?_
  obtain rfl:=som<|ifT hmd I;exact Wr<|Y_ hr z z ⟨bup h3 s6,z,ii z,ii z⟩
 refine Wk<|Ws<|R z (lN (vs:=[sl A0 N0 C0]) J_ E_ z z fid<|(hc.e s6).row 0 1 z)<|Rm z<|R z (bP (parts:=[(0,.tmp 31),(1,.tmp 32)]) (cs:=[sl A0 N0 C0,sl A7 N7 C7,vI 0]) u_H z z)<|E z (fb z) ?_
 rintro _ ww ⟨rfl,hj⟩;have O:=hj.below;refine Rw z<|Wm z<|RM z z ?_
 have hk:=((h3.ag B).e s6).e O;have ha:=lt_ h3.s s6.s;have hl:=lt_ ha O.s;obtain ⟨rm,_,ez,V⟩:=a_k<|ifF hmd I;refine E z (fc call193 z<|W_w03.run (B:=B) ez (hj.blk:Blk ww wi.z [sl A0 N0 C0,sl A7 N7 C7,vI 0]) (zt' hBw hl) (atp (or0 (d_ lr) (n_<|zt' hBw ha):∀k∈[wi.z],¬B k)) (p1_0.g hk) (p3_0.g hk) (ii z) p2_0 p4_0) ?_;rintro _ W ⟨sn,rfl,Y,a0,_,_⟩;refine E z (fa b_U) ?_;rintro _ a1 ⟨rfl,ho⟩;refine E0 (fs (cur':=[vI rm.at_,vI rm.code]) C_ z z (ho.blk:Blk a1 W.z [vI 0,vI 0]) z (lb z) (oA z) z) ?_;rintro _ _ ⟨a2,a3⟩;refine Wn<|Wq (Wd (X:=noX) 0 (pl_ 6 []) mo (by kernel_rfl) fun a4 sp _=>dR z z (fd d_u z) ?_)
 have hq:=a2.e sp;refine dR z z (l0 g_3 z<|hq.at z)<|dR z z (fd d_U z)<|dR z z (l0 g_3 z<|hq.at z)<|dQ z z z<|dQ z z z<|pD<|Wo ?_
 obtain rfl:=som V;exact Wr<|Y_ hr z z ⟨bup (bM (bup (bM (bup (bup h3 s6) O) sn<|m1 ha) ho.below) a3.one<|m1<|lt_ hl sn.s) sp,z,Y,a0⟩
theorem W_w42 {x1:Int}{res:Str}(hm:k_S x1=some res)(hBw:B<=w0.z)(hG:Gl w0 B)(p1_0:inI x1):h_ prog 194 [vI x1] w0 (Q19 w0 B res):=by
 unfold k_S at hm
 refine goF func194 z z (lb z) fun fn hr=>Ws<|Rw z<|Wm z ?_
 obtain ⟨_,G,h⟩:=bdS hm;refine E z (fc call245 z<|u_g (B:=B) G hBw hG p1_0) ?_;rintro _ _ ⟨s2,rfl,h3⟩;refine Rw z ?_
 obtain rfl:=som h;exact Wr<|c_ hr z ⟨s2,z,h3⟩
theorem W_w43 {x1:e_}{x2:Int}{x3:Int}{res:Str}(hm:f_K n x1 x2 x3=some res)(hBw:B<=w0.z)(hG:Gl w0 B)(p1_0:repS w0 B (sl A0 N0 C0) x1.rules)(p2_0:inI x2)(p3_0:inI x3):h_ prog 158 [(.agg #[sl A0 N0 C0]),vI x2,vI x3] w0 (Q19 w0 B res):=by
 unfold f_K at hm
 refine goF func158 z z (lb z) fun fn hr=>Ws<|E z (fb z) ?_
 rintro _ wb ⟨rfl,hn⟩;have h:=hn.below;have ho:Blk wb w0.z [sl A0 N0 C0]:=hn.blk;refine Rw z<|Wq<|Wq ?_
 obtain ⟨ae,aa,hmp⟩:=bdS hm;refine Wt (fun a w=>∃(xc:Bool),xc=ae/\Sat 58 [(1,vI x2),(2,vI x3),(3,pt w0.z),(15,vB xc)] a/\Below wb.z wb w) ?_ ?_
 ·refine Wg<|R z (lN (vs:=[sl A0 N0 C0]) J_ E_ z z fid<|ho.row 0 1 z)<|Rm z ?_
  obtain ⟨af,ah,hmq⟩:=bdS aa;refine E z (fc call190 z<|m_A ah (zt' hBw h.s) (p1_0.e h) p2_0) ?_;rintro _ _ ⟨sr,rfl⟩;refine R z (not_ z)<|Rm z ?_
  rcases bs (!af) with H | H
  ·exact Nh z H<|Nh z H<|R z (pT z H z)<|Wl (fun _ q=>⟨true,som<|ifT hmq H,q.k<|s4 z z z z,sr⟩)
  exact Rh z H (mv z)<|Rh z H (lss z z)<|R z (pF z H z)<|Wl (fun _ q=>⟨decide<|x3<0,som<|ifF hmq H,q.k<|s4 z z z z,sr⟩)
 rintro ai I ⟨xc,rfl,_,s1⟩;revert ai;refine Wo<|Wc z (fun hcd=>?_) (fun hcd=>?_)
 ·refine Ws<|Rw z ?_
  obtain rfl:=som<|ifT hmp hcd;exact Wr<|c_ hr z ⟨bup h s1,z,lb z⟩
 refine Wk<|Ws<|Rf z a_o z<|R z (l0 a_q z<|(ho.e s1).at z)<|Rm z ?_
 obtain ⟨L,aj,hms⟩:=bdS<|ifF hmp hcd;refine RX z (at_ (α:=g_) a_b u_ z z z (p1_0.g<|(h.ag B).e s1) aj) ?_;rintro _ ⟨_,_,_,rfl,ak,al,_⟩;obtain ⟨au,nt,cv,aw,nx,cy,az,a2,a3,a4,a5,a6,rfl,_,_,_,_,a7,_,_⟩:=a_N al;refine R z (lN (vs:=vR L au nt cv aw nx cy az a2 a3 a4 a5 a6) R_ u_ z z fid ak)<|E z (fa c_x) ?_
 rintro _ am ⟨rfl,a8⟩;have h2:=a8.below;refine E0 (fs (cur':=vR L au nt cv aw nx cy az a2 a3 a4 a5 a6) u_ z z (a8.blk:Blk am I.z [(Str.v (⟨[]⟩:Str)),vI 0,vI 0,vB false,sl none 0 0,sl none 0 0,sl none 0 0,sl none 0 0]) z (lb z) (oA z) z) ?_;rintro _ wa ⟨J,an⟩;have h3:=an.one;refine Wn<|Wq<|Wb<|Ws<|Rf z a_M z<|R z (l0 g_3 z<|J.at z)<|Rq z z z<|Rw z<|Wc z (fun hce=>?_) (fun hce=>?_)
 ·refine Wm z ?_
  have hf:=lt_ h.s s1.s;obtain ⟨_,ao,ab⟩:=bdS<|ifT hms hce;refine E z (fc call194 z<|W_w42 ao (zt' hBw<|lt_ (lt_ hf h2.s) h3.s) ((((hG.e h).e s1).e h2).c h3<|f_ (or0 (d_ lr) (n_<|zt' hBw hf):∀k∈[I.z],¬B k)) p3_0) ?_;rintro _ _ ⟨ap,rfl,aq⟩;refine Rw z ?_
  obtain rfl:=som ab;exact Wr<|rtO<|c_ hr z ⟨bup (bM (bup (bup h s1) h2) h3<|m1 hf) ap,z,aq⟩
 refine Wq ?_;obtain ⟨ar,O,V⟩:=bdS<|ifF hms hce;refine Wt (fun a w=>∃(xg:Bool),xg=ar/\Sat 58 [(2,vI x3),(7,pt I.z),(27,vB xg)] a/\Below wa.z wa w) ?_ ?_
 ·refine Wg<|Rf z a_M z<|R z (l0 g_3 z<|J.at z)<|Rq z z z<|Rm z ?_
  rcases bs (L.kind==6) with G | G
  ·refine Rh z G (mv z)<|Rh z G (fd c_w z)<|Rh z G (l0 a_J z<|J.at z) ?_
   exact Rh z G (lnR G_ z<|a7.g<|(h2.ag B).c h3<|f_ (or0 (d_ lr) (n_<|zt' hBw<|lt_ h.s s1.s):∀k∈[I.z],¬B k))<|Rh z G (lss z z)<|R z (pT z G z)<|Ra z<|Wl (fun _ q=>⟨decide<|x3<(L.names.length:Int),som<|ifT O G,q.k<|s3 z z z,br wa⟩)
  iterate 5 refine Nh z G ?_
  exact R z (pF z G z)<|Ra z<|Wl (fun _ q=>⟨false,som<|ifF O G,q.k<|s3 z z z,br wa⟩)
 rintro av _ ⟨xg,rfl,_,s6⟩;revert av;refine Wo<|Wc z (fun hch=>?_) (fun hch=>?_)
 ·refine Ws<|Rf z c_w z<|R z (l0 a_J z<|(J.e s6).at z)<|Rm z ?_
  obtain ⟨_,ax,ad⟩:=bdS<|ifT V hch;have a9:=lt_ h.s s1.s;refine RX z (at_ (α:=Str) G_ z_9 z z z (a7.g<|((h2.ag B).c h3<|f_ (or0 (d_ lr) (n_<|zt' hBw a9):∀k∈[I.z],¬B k)).e s6) ax) ?_;rintro _ ⟨_,_,_,rfl,ay,aA,_⟩;obtain ⟨rfl,aB⟩:=a_r aA;refine R z (l0 g_9 z<|ay.at0 z)<|Rw z ?_
  obtain rfl:=som ad;exact Wr<|rtO<|c_ hr z ⟨bup (bM (bup (bup h s1) h2) h3<|m1 a9) s6,z,aB⟩
 have W:=ifF V hch;refine Wm z<|R z (Z_ z z)<|Rw z<|Wc z (fun hci=>?_) (fun hci=>?_)
 ·refine Ws<|Rw z ?_
  obtain rfl:=som<|ifT W hci;exact Wr<|rtO<|c_ hr z ⟨bup (bM (bup (bup h s1) h2) h3<|m1<|lt_ h.s s1.s) s6,z,lb z⟩
 have Y:=ifF W hci;refine Ws<|Rf z a_M z ?_
 have hj:=J.e s6;refine R z (l0 g_3 z<|hj.at z)<|Rq z z z<|Rw z<|Wc z (fun hck=>?_) (fun hck=>?_)
 ·refine Ws<|Rw z ?_
  obtain rfl:=som<|ifT Y hck;exact Wr<|rtO<|c_ hr z ⟨bup (bM (bup (bup h s1) h2) h3<|m1<|lt_ h.s s1.s) s6,z,lb z⟩
 have a0:=ifF Y hck;refine Ws<|Rf z a_M z<|R z (l0 g_3 z<|hj.at z)<|Rq z z z<|Rw z<|Wc z (fun hcl=>?_) (fun hcl=>?_)
 ·refine Ws<|Rw z ?_
  obtain rfl:=som<|ifT a0 hcl;exact Wr<|rtO<|c_ hr z ⟨bup (bM (bup (bup h s1) h2) h3<|m1<|lt_ h.s s1.s) s6,z,lb z⟩
 have a1:=ifF a0 hcl;refine Ws<|Rf z a_M z<|R z (l0 g_3 z<|hj.at z)<|Rq z z z<|Rw z<|Wc z (fun hcm=>?_) (fun hcm=>?_)
 ·refine Ws<|Rw z ?_
  obtain rfl:=som<|ifT a1 hcm;exact Wr<|rtO<|c_ hr z ⟨bup (bM (bup (bup h s1) h2) h3<|m1<|lt_ h.s s1.s) s6,z,lb z⟩
 refine Wk<|Ws<|Rw z ?_
 obtain rfl:=som<|ifF a1 hcm;exact Wr<|c_ hr z ⟨bup (bM (bup (bup h s1) h2) h3<|m1<|lt_ h.s s1.s) s6,z,lb z⟩
theorem W_w44 {x1:e_}{x2:Int}{x3:Val}{I L:Nat}{x4:Int}{res:Int}(hm:f_L x1 x2 x3 x4=some res)(hBw:B<=w0.z)(p1_0:repS w0 B (sl A0 N0 C0) x1.rules)(p2_0:inI x2)(p3_0:inI x3.number)(aQ:repS w0 B (sl AK NK CK) x3.bytes)(aR:repS w0 B (sl AL NL CL) x3.items)(ah:S_ w0 I L [vI x3.number,sl AK NK CK,sl AL NL CL])(aS:B I)(p4_0:inI x4):h_ prog 159 [(.agg #[sl A0 N0 C0]),vI x2,.pointer<|some ⟨I,L,none⟩,vI x4] w0 (Q0 w0 B res):=by
 unfold f_L at hm
 refine goF func159 z z (lb z) fun fn hr=>Ws<|E z (fb z) ?_
 rintro _ h ⟨rfl,hj⟩;have G:=hj.below;refine Rw z<|Ws<|Rf z a_o z<|R z (l0 a_q z<|(hj.blk:Blk h w0.z [sl A0 N0 C0]).at z)<|Rm z ?_
 obtain ⟨O,ew,hmk⟩:=bdS hm;refine RX z (at_ (α:=g_) a_b u_ z z z (p1_0.e G) ew) ?_;rintro _ ⟨bl,om,_,rfl,h2,hx,_⟩;obtain ⟨_,_,_,_,_,_,ay,nz,ai,_,_,_,rfl,_,_,_,_,_,h5,h4⟩:=a_N hx;refine Rw z<|Wq<|Wm z<|R z (a_6 z)<|Rf z a_M z<|R z (l0 g_3 z<|h2.at (j:=1) z)<|Wn<|Wb<|Ws<|Rq z z z<|Rw z<|Wc z (fun J=>?_) (fun J=>?_)
 ·refine Wm z<|R z (a_6 z)<|Rf z a_2 z<|R z (l0 I_ z<|h2.at (j:=7) z) ?_
  obtain ⟨_,aj,V⟩:=bdS<|ifT hmk J;refine RX z (at_ (α:=Int) z_ z_3 z z z h4 aj) ?_;rintro _ ⟨_,_,_,rfl,ak,al,_⟩;obtain ⟨rfl,am⟩:=W_ al;refine R z (l0 g_3 z<|ak.at0 z)<|Rw z ?_
  obtain rfl:=som V;exact Wr<|rtO<|c_ hr z ⟨G,z,am⟩
 refine Ws<|Rq z z z<|Rw z ?_
 obtain ⟨an,hun,H⟩:=bdS<|ifF hmk J;refine Wt (fun a w=>Sum.inl ()=an/\Sat 80 [] a/\Below h.z h w) ?_ ?_
 ·refine Wc z (fun hca=>?_)<|fun hca=>?_
  ·have hmo:=ifT hun hca;refine Wm z<|Rm z<|R z (a_6 z)<|Rf z a_2 z<|R z (l0 I_ z<|h2.at (j:=7) z)<|R z (lnR z_ z h4)<|Rl z z z<|Wx z (fun hcb=>?_) (fun hcb=>?_)
   ·refine Wm z<|R z (a_6 z)<|Rf z a_2 z<|R z (l0 I_ z<|h2.at (j:=7) z)<|Rm z ?_
    obtain ⟨_,ao,W⟩:=bdS<|ifT hmo hcb;refine RX z (at_ (α:=Int) z_ z_3 z z z h4 ao) ?_;rintro _ ⟨_,_,_,rfl,ap,aq,_⟩;obtain ⟨rfl,ar⟩:=W_ aq;refine R z (l0 g_3 z<|ap.at0 z)<|Rw z ?_
    obtain rfl:=som W;have Y:=elR H;obtain rfl:=som Y;exact Wr<|rtO<|c_ hr z ⟨G,z,ar⟩
   exact a_e<|fun _ q=>⟨som<|ifF hmo hcb,q.k sn,br h⟩
  refine Ws<|Rq z z z<|Rw z ?_
  obtain ⟨au,hup,hmc⟩:=bdS<|ifF hun hca;refine Wt (fun a w=>Sum.inl ()=au/\Sat 80 [] a/\Below h.z h w) ?_ ?_
  ·refine Wc z (fun hcd=>?_)<|fun hcd=>?_
   ·refine Wm z<|R z (a_6 z)<|Rf z b_s z<|R z (l0 I_ z<|h2.at (j:=6) z)<|R z (lnR z_ z h5)<|Rm z<|Wn ?_
    obtain ⟨_,a0,hmq⟩:=bdS<|ifT hup hcd;refine Wf (σ:=Unit) (ρ:=Int) (fun (kr:Nat)(_:Unit) a w=>Sat 80 [(2,.pointer<|some ⟨I,L,none⟩),(9,.pointer<|some ⟨bl,om,none⟩),(49,sl ay nz ai),(50,vI (O.tags.length:Int)),(51,vI ((kr:Nat):Int))] a/\Below h.z h w) (fun (_:Unit) a w=>Sat 80 [] a/\Below h.z h w) (fun r ex a w=>ex = .ret/\w_ prog fn (Q0 w0 B r) a w) a0 ?_ ?_ ?_ ?_ ?_
    ·exact fun _ q=>⟨q.k<|s5 z z z z z,br h⟩
    ·rintro kr _ _ _ _ hke ⟨a1,s3⟩ a2;refine Wu ?_ a1;refine Ws<|Rl z z z<|Wn<|Wq<|Wc z (fun _=>?_) (fun hc=>(P_ hke hc).elim)
     refine Wk<|Wq<|Wb<|Wm z ?_
     obtain ⟨_,av,hms⟩:=bdS a2;refine RX z (at_ (α:=Int) z_ z_3 z z z (h5.e s3) av) ?_;rintro _ ⟨_,_,_,rfl,aw,ax,_⟩;obtain ⟨rfl,_⟩:=W_ ax;refine R z (l0 g_3 z<|aw.at0 z)<|Ra z<|Rw z<|Wm z<|Rm z<|R z (a_6 z)<|Rf z m_f z<|R z (l0 g_3 z<|((ah.e G).e s3).at (j:=0) z)<|Rq z z z<|Wx z (fun hcf=>?_) (fun hcf=>?_)
     ·refine Wm z<|R z (a_6 z)<|Rf z a_2 z<|R z (l0 I_ z<|(h2.e s3).at (j:=7) z)<|Rm z<|R z (inc_ hke (lt_ (repS.len h5) A_) z z) ?_
      obtain ⟨_,az,a3⟩:=bdS<|ifT hms hcf;refine RX z (at_ (α:=Int) z_ z_3 z z z (h4.e s3) az) ?_;rintro _ ⟨_,_,_,rfl,aA,aB,_⟩;obtain ⟨rfl,aC⟩:=W_ aB;exact R z (l0 g_3 z<|aA.at0 z)<|Rw z<|Wr<|rtO<|qL (som a3).symm<|c_ hr z ⟨bup G s3,z,aC⟩
     exact Wk<|Wg<|R z (inc_ hke (lt_ (repS.len h5) A_) z z)<|Rm z<|Wl (fun _ q=>⟨(),(som<|ifF hms hcf).symm,⟨q.k<|s5 z z z z z,s3⟩⟩)
    ·rintro _ _ _ ⟨a4,aD⟩;refine Wu ?_ a4;refine Ws<|Rl z z z<|Wn<|Wq<|Wc z (fun hc=>(Q_ hc).elim) (fun _=>?_)
     exact We<|fun a' ha'=>⟨rfl,⟨Sat.weaken ha' sn,aD⟩⟩
    ·rintro _ aE _ rfl ⟨_,aF⟩;have a5:=elL hmq;revert aE;exact fun _ q=>⟨som a5,q.k sn,aF⟩
    rintro _ _ _ _ rfl ⟨rfl,a6⟩;have a7:=elR hmq;obtain rfl:=som a7;have a8:=elR hmc;obtain rfl:=som a8;have a9:=elR H;obtain rfl:=som a9;exact ⟨a6,z⟩
   refine Wq<|Ws<|Rq z z z<|Rw z ?_
   obtain ⟨aG,hut,hmu⟩:=bdS<|ifF hup hcd;refine Wt (fun a w=>∃(xg:Bool),xg=aG/\Sat 80 [(9,.pointer<|some ⟨bl,om,none⟩),(71,vB xg)] a/\Below h.z h w) ?_ ?_
   ·refine Wc z (fun hch=>?_)<|fun hch=>?_
    ·exact a_e<|fun _ q=>⟨O.kind==8,som<|ifT hut hch,q.k<|s2 z z,br h⟩
    exact Wg<|Rq z z z<|Ra z<|Wl (fun _ q=>⟨O.kind==9,som<|ifF hut hch,q.k<|s2 z z,br h⟩)
   rintro aH _ ⟨xg,rfl,_,s7⟩;revert aH;refine Wo<|Wc z (fun hci=>?_) (fun hci=>?_)
   ·refine Wm z<|R z (a_6 z)<|Rf z a_2 z<|R z (l0 I_ z<|(h2.e s7).at (j:=7) z) ?_
    obtain ⟨_,aI,aa⟩:=bdS<|ifT hmu hci;refine RX z (at_ (α:=Int) z_ z_3 z z z (h4.e s7) aI) ?_;rintro _ ⟨_,_,_,rfl,aJ,aK,_⟩;obtain ⟨rfl,aL⟩:=W_ aK;refine R z (l0 g_3 z<|aJ.at0 z)<|Rw z ?_
    obtain rfl:=som aa;have ab:=elR hmc;obtain rfl:=som ab;have ad:=elR H;obtain rfl:=som ad;exact Wr<|rtO<|c_ hr z ⟨bup G s7,z,aL⟩
   exact a_e<|fun _ q=>⟨som<|ifF hmu hci,q.k sn,s7⟩
  rintro aM _ ⟨rfl,_,aN⟩;have ae:=elL hmc;revert aM;exact fun _ q=>⟨som ae,q.k sn,aN⟩
 rintro aO _ ⟨rfl,_,aP⟩;have af:=elL H;revert aO;refine Wo<|Ws<|Rw z ?_
 obtain rfl:=som af;exact Wr<|c_ hr z ⟨bup G aP,z,ii z⟩
def Q35 (w0:World)(g1:Nat)(B:Zone)(A0:Option Addr)(N0 C0:Nat)(A1:Option Addr)(N1 C1:Nat)(AE:Option Addr)(NE CE:Nat)(S1_2:List Nat)(x1:d_C)(r:Int×(List m_))(v:Value)(w':World):Prop:=Chg (· ∈ ([g1]++S1_2)) w0 w'/\un2 (fun h J=>∃G H I S1,(vI h)=v/\inI h/\a_ w' S1 (sl G H I) J/\S1.Nodup/\(∀k∈S1,k∈S1_2∨w0.z<=k)/\Blk w' g1 [sl A0 N0 C0,sl A1 N1 C1,sl G H I]) r
structure m_O (f:d_C->Str->Int->Val->Int->Option (Int×(List m_))):Prop where
  run:∀{A0 A1 AE AI AJ:Option Addr}{N0 C0 N1 C1 NE CE g1 NI CI NJ CJ b4 o4:Nat}{S1_2:List Nat}{B:Zone}{x1:d_C}{x2:Str}{x3:Int}{x4:Val}{x5:Int}{res:Int×(List m_)}{w0:World}(hm:f x1 x2 x3 x4 x5=some res)(hB1:Blk w0 g1 [sl A0 N0 C0,sl A1 N1 C1,sl AE NE CE])(hBw:B<=w0.z)(hBg:¬B g1)(hG:Gl w0 B)(p1_0:repS w0 B (sl A0 N0 C0) x1.d.rules)(p1_1:repS w0 B (sl A1 N1 C1) x1.b)(p1_2:a_ w0 S1_2 (sl AE NE CE) x1.list_)(p1_2n:S1_2.Nodup)(p1_2g:∀k∈S1_2,¬B k)(p1_2d:∀k∈S1_2,k∉[g1])(p2_0:x2.b.length<=LEN)(p3_0:inI x3)(p4_0:inI x4.number)(p4_1:repS w0 B (sl AI NI CI) x4.bytes)(p4_2:repS w0 B (sl AJ NJ CJ) x4.items)(hC4:S_ w0 b4 o4 [vI x4.number,sl AI NI CI,sl AJ NJ CJ])(hC4b:B b4)(p5_0:inI x5),h_ prog 95 [pt g1,Str.v x2,vI x3,.pointer<|some ⟨b4,o4,none⟩,vI x5] w0<|Q35 w0 g1 B A0 N0 C0 A1 N1 C1 AE NE CE S1_2 x1 res
abbrev q_1 (n:Nat):Prop:=m_O (f_7 n).impl_indexer_part
theorem T_w09 (bs:q_1 n):m_O (i_x n<|f_7 n):=by
 constructor
 intro A0 A1 AE AI AJ N0 C0 N1 C1 NE CE g1 NI CI NJ CJ b4 o4 S1_2 B x1 x2 x3 x4 x5 res w0 hm hB1 hBw hBg hG p1_0 p1_1 p1_2 p1_2n p1_2g p1_2d p2_0 p3_0 p4_0 p4_1 p4_2 hC4 hC4b p5_0;unfold i_x at hm
 refine goF func95 z z (lb z) fun fn hr=>Ws<|Rw z<|Wm z<|R z (a_6 z)<|Rf z h_H z<|R z (l0 g_36 z<|hB1.at z)<|R z (lnR c_8 z<|a_.rep p1_2)<|Rw z<|Wm z<|Rm z<|R z (a_6 z)<|Rf z h_H z<|R z (l0 g_36 z<|hB1.at z)<|RM z z<|Rm z<|R z (bP (parts:=[(0,.tmp 27),(1,.tmp 28),(2,.tmp 29)]) (cs:=[Str.v x2,vI x3,vI x5,vI 0]) p_z z z)<|E z (fS [(.tmp 30)] c_G z z z (a_z z) (lb z)<|lb z) ?_
 rintro _ am ⟨rfl,a3⟩;have h3:=a3.below;have cE:=b_E a3<|e_w (x:=(⟨x2,x3,x5,0⟩:m_)) p2_0 p3_0 p5_0<|ii z
 obtain ⟨_,bt,b1⟩:=bdS hm;refine E z (b_d (α:=m_) c_G bt z z (p1_2.e h3) p1_2n (a3.blk:Blk am w0.z [Str.v x2,vI x3,vI x5,vI 0]) (e_w (x:=(⟨x2,x3,x5,0⟩:m_)) p2_0 p3_0 p5_0<|ii z) an_ H_) ?_;rintro _ bu ⟨G,an,ao,ap,rfl,sk,aq,bv,hl⟩;refine R z (a_6 z)<|Rf z h_H z<|E0 (fs (cur':=[sl A0 N0 C0,sl A1 N1 C1,sl an ao ap]) z_36 z z ((hB1.e h3).c sk<|djs p1_2d) z (lb z) (oA z) z) ?_
 rintro _ bw ⟨bx,bz⟩;have hi:=bz.one;refine Wn<|Wq (Wd (X:=noX) 0 (pl_ 16 [10]) mo (by kernel_rfl) fun bA sf _=>dM z z z<|dR z z (a_6 z)<|dR z z (fd h_G z) ?_)
 have a4:=bx.e sf;refine dR z z (lN (vs:=[sl A0 N0 C0]) J_ E_ z z fid<|a4.row 0 1 z)<|dM z z z<|dM z z z<|dR z z (a_6 z)<|dR z z (fd u_I z)<|dR z z (l0 M_ z<|a4.at z)<|dM z z z ?_
 have a5:=(((h3.ag B).c sk<|f_ p1_2g).c hi<|f_<|d_ hBg).e sf;have a6:=lt_ (lt_ (lt_ h3.s sk.s) hi.s) sf.s;obtain ⟨rm,_,bB,b2⟩:=a_k b1;refine dE z z (fc call157 z<|W_w41 (B:=B) (x1:=(⟨x1.d.rules⟩:e_)) bB (zt' hBw a6) (p1_0.g a5) p3_0 (p1_1.g a5) p5_0) (.inr fun _ _ h=>F_<|h.1) ?_;rintro _ wn ⟨sd,rfl,ar,_⟩;refine dM z z z<|dR z z (ext_ z z)<|dR z z (ext_ z z)<|dQ z z z<|dQ z z z<|pD<|Wo<|Wm z<|Rw z<|Wq<|Wm z<|R z (a_6 z)<|Rf z h_G z<|Rf z a_o z ?_
 have a8:=a4.e sd;refine R z (l0 a_q z<|a8.at z)<|Rm z ?_
 obtain ⟨xr,bC,b3⟩:=bdS b2;have a9:=a5.e sd;refine RX z (at_ (α:=g_) a_b u_ z z z (p1_0.g a9) bC) ?_;rintro _ ⟨_,_,_,rfl,bD,bE,_⟩;obtain ⟨au,av,aw,ax,ay,az,aA,aB,aC,aD,aE,aF,rfl,_,_,_,_,_,_,bF⟩:=a_N bE;refine R z (lN (vs:=vR xr au av aw ax ay az aA aB aC aD aE aF) R_ u_ z z fid bD)<|E z (fa c_x) ?_
 rintro _ aG ⟨rfl,aH⟩;have h5:=aH.below;refine E0 (fs (cur':=vR xr au av aw ax ay az aA aB aC aD aE aF) u_ z z (aH.blk:Blk aG wn.z [(Str.v (⟨[]⟩:Str)),vI 0,vI 0,vB false,sl none 0 0,sl none 0 0,sl none 0 0,sl none 0 0]) z (lb z) (oA z) z) ?_;rintro _ ws ⟨aI,bG⟩;have h6:=bG.one;refine Wn<|Ws<|Rf z a_M z<|R z (l0 g_3 z<|aI.at z)<|Wn<|Wb<|Wq<|Ws<|Rq z z z<|Rw z ?_
 obtain ⟨bH,ai,b5⟩:=bdS b3;refine Wt (fun a w=>∃(aa:Bool),aa=bH/\Sat 126 [(0,pt g1),(1,Str.v x2),(2,vI x3),(3,.pointer<|some ⟨b4,o4,none⟩),(11,vI (x1.list_.length:Int)),(12,vI rm),(14,vI x5),(15,pt wn.z),(59,vI xr.kind),(60,vB aa)] a/\Below ws.z ws w) ?_ ?_
 ·refine Wc z (fun a0=>?_)<|fun a0=>?_
  ·exact a_e<|fun _ q=>⟨xr.kind==5,som<|ifT ai a0,q.k<|sc z<|sc z<|sc z<|sc z<|sc z<|sc z<|sc z<|sc z<|sc z<|sc z sn,br ws⟩
  exact Wg<|Rq z z z<|Ra z<|Wl (fun _ q=>⟨xr.kind==7,som<|ifF ai a0,q.k<|sc z<|sc z<|sc z<|sc z<|sc z<|sc z<|sc z<|sc z<|sc z<|sc z sn,br ws⟩)
 rintro bI wc ⟨aa,rfl,_,s4⟩;revert bI;refine Wo ?_;obtain ⟨bJ,aj,b6⟩:=bdS b5;refine Wt (fun a w=>∃(xy:Int),xy=bJ/\Sat 126 [(0,pt g1),(1,Str.v x2),(2,vI x3),(3,.pointer<|some ⟨b4,o4,none⟩),(11,vI (x1.list_.length:Int)),(12,vI rm),(14,vI xy)] a/\Below wc.z wc w/\inI xy) ?_ ?_
 ·refine Wc z (fun a1=>?_)<|fun a1=>?_
  ·refine Wd (X:=noX) 0 (pl_ 15 []) mo (by kernel_rfl) fun cF su _=>dM z z z<|dM z z z<|dR z z (a_6 z)<|dR z z (fd h_G z)<|dR z z (fd a_o z) ?_
   have aJ:=lt_ a6 sd.s;refine dR z z (l0 a_q z<|((((a8.e h5).c h6<|djs<|mm1 (Blk.lt hB1) aJ).e s4).e su).at z)<|dR z z (fd a_2 z)<|dR z z (l0 I_ z<|((aI.e s4).e su).at z) ?_
   obtain ⟨_,bK,b7⟩:=bdS<|ifT aj a1;have aK:∀k∈[wn.z],¬B k:=or0 (d_ lr)<|n_<|zt' hBw aJ;refine dRX z z (at_ (α:=Int) z_ z_3 z z z (bF.g<|(((h5.ag B).c h6<|f_ aK).e s4).e su) bK) ?_;rintro _ ⟨_,_,_,rfl,bL,bM,_⟩;obtain ⟨rfl,_⟩:=W_ bM;refine dR z z (l0 g_3 z<|bL.at0 z) ?_;obtain ⟨bN,bO,b8⟩:=bdS b7;refine dRX z z (at_ (α:=g_) a_b u_ z z z (p1_0.g<|(((a9.e h5).c h6<|f_ aK).e s4).e su) bO) ?_;rintro _ ⟨_,_,_,rfl,bQ,bR,_⟩;obtain ⟨_,_,_,_,_,_,_,_,_,_,_,_,rfl,_,_,_,_,_,_,_⟩:=a_N bR;exact dR z z (fd b_3 z)<|dR z z (l0 g_3 z<|bQ.at (j:=2) z)<|dR z z (add_ z z)<|dQ z z z<|pD (fun _ q=>⟨b_ x5 bN.size,som b8,q.k<|s7 z z z z z z z,su,iA _ _⟩)
  refine Ws<|Rq z z z<|Rw z ?_
  obtain ⟨bS,ak,b9⟩:=bdS<|ifF aj a1;refine Wt (fun a w=>∃(xv:Int),xv=bS/\Sat 126 [(0,pt g1),(1,Str.v x2),(2,vI x3),(3,.pointer<|some ⟨b4,o4,none⟩),(11,vI (x1.list_.length:Int)),(12,vI rm),(14,vI xv)] a/\Below wc.z wc w/\inI xv) ?_ ?_
  ·refine Wc z (fun a2=>?_)<|fun a2=>?_
   ·exact Wg<|Rm z<|R z (add_ z z)<|Ra z<|Wl (fun _ q=>⟨b_ x5 1,som<|ifT ak a2,q.k<|s7 z z z z z z z,br wc,iA _ _⟩)
   exact a_e<|fun _ q=>⟨x5,som<|ifF ak a2,q.k<|s7 z z z z z z z,br wc,p5_0⟩
  rintro bT _ ⟨xv,rfl,_,bU,bV⟩;revert bT;exact fun _ q=>⟨xv,som b9,q.k<|s7 z z z z z z z,bU,bV⟩
 rintro bW H ⟨xy,rfl,_,sg,bX⟩;revert bW;refine Wo<|Wq<|Wm z<|R z (a_6 z)<|Rf z e_T z ?_
 have hw:=lt_ a6 sd.s;have ab:∀k∈[wn.z],¬B k:=or0 (d_ lr)<|n_<|zt' hBw hw;have aL:=((((((((hC4.e h3).c sk<|(f_ p1_2g) _ hC4b).c hi<|(f_<|d_ hBg) _ hC4b).e sf).e sd).e h5).c h6<|(f_ ab) _ hC4b).e s4).e sg;refine R z (l0 g_o z<|aL.at (j:=2) z) ?_;have aM:=(((a9.e h5).c h6<|f_ ab).e s4).e sg;refine R z (lnR d_46 z<|p4_2.g aM)<|Rm z<|Wn ?_
 obtain ⟨_,ba,al⟩:=bdS b6;refine Wf (σ:=Int×(List m_)) (ρ:=Int×(List m_)) (fun (aN:Nat) s a w=>un2 (fun xj xo=>∃I J L S1,Sat 126 [(0,pt g1),(1,Str.v x2),(2,vI x3),(3,.pointer<|some ⟨b4,o4,none⟩),(11,vI (x1.list_.length:Int)),(12,vI rm),(14,vI xj),(85,vI (x4.items.length:Int)),(86,vI ((aN:Nat):Int))] a/\Chg (· ∈ ([g1]++G)) H w/\inI xj/\a_ w S1 (sl I J L) xo/\S1.Nodup/\(∀k∈S1,k∈G∨H.z<=k)/\Blk w g1 [sl A0 N0 C0,sl A1 N1 C1,sl I J L]) s) (fun s a w=>un2 (fun xj xo=>∃I J L S1,Sat 126 [(0,pt g1),(11,vI (x1.list_.length:Int)),(12,vI rm)] a/\Chg (· ∈ ([g1]++G)) H w/\inI xj/\a_ w S1 (sl I J L) xo/\S1.Nodup/\(∀k∈S1,k∈G∨H.z<=k)/\Blk w g1 [sl A0 N0 C0,sl A1 N1 C1,sl I J L]) s) (fun r ex a w=>ex = .ret/\w_ prog fn (Q35 w0 g1 B A0 N0 C0 A1 N1 C1 AE NE CE S1_2 x1 r) a w) ba ?_ ?_ ?_ ?_ ?_
 ·have bY:∀k∈G,k∉[g1]:=or2 hl p1_2d an_<|a_O (d_<|Blk.lt hB1) h3.s;exact fun _ q=>⟨an,ao,ap,G,q.k<|s9 z z z z z z z z z,cr ([g1]++G) H,bX,((((((aq.c hi bY).e sf).e sd).e h5).c h6<|ds<|mno (a_.lt aq)<|lt_ (lt_ hi.s sf.s) sd.s).e s4).e sg,bv,io sr,(((a8.e h5).c h6<|djs<|mm1 (Blk.lt hB1) hw).e s4).e sg⟩
 ·rintro aN ⟨xj,xo⟩ _ bZ _ hkz ⟨I,J,L,S1,bb,sp,O,hq,hx,ha,ht⟩ bc;refine Wu ?_ bb;refine Ws<|Rl z z z<|Wn<|Wq<|Wc z (fun _=>?_) (fun hc=>(P_ hkz hc).elim)
  refine Wk<|Wq<|Wb<|Wm z<|Ra z<|Wn (Wd (X:=noX) 67108864 (.rd 0<|.rd 1<|.rd 2<|.rd 3<|.rd 4<|.rd 5<|.rd 6<|.rd 7<|.rd 8<|.rd 11<|.rd 12<|.rd 13<|.rd 14<|.rd 15<|.rd 16<|.rd 17<|.rd 19<|.rd 20<|.rd 21<|.rd 22<|.rd 23<|.rd 24<|.rd 25<|.ef 9<|.rd 10<|.ef 18<|.ef 26<|.rd 27 .done) mo (by kernel_rfl) fun c0 sh _=>dM z z z<|dM z z z ?_)
  obtain ⟨_,c1,be⟩:=bdS<|a_5 bc;refine dR z z (f_Z z z c1)<|dM z z z<|dR z z (a_6 z)<|dR z z (fd h_G z) ?_
  have ad:=ht.e sh;refine dR z z (lN (vs:=[sl A0 N0 C0]) J_ E_ z z fid<|ad.row 0 1 z) ?_
  iterate 3 refine dM z z z ?_
  refine dR z z (a_6 z)<|dR z z (fd h_G z)<|dR z z (lN (vs:=[sl A0 N0 C0]) J_ E_ z z fid<|ad.row 0 1 z) ?_
  iterate 4 refine dM z z z ?_
  refine dR z z (a_6 z)<|dR z z (fd e_T z) ?_
  have V:∀k∈G,¬B k:=or2 hl p1_2g an_<|n_<|zt' hBw h3.s;have aO:=(aL.c sp<|(nmA (f_<|d_ hBg)<|f_ V) _ hC4b).e sh;refine dR z z (l0 g_o z<|aO.at (j:=2) z)<|dM z z z ?_
  obtain ⟨_,c2,bf⟩:=bdS be;have ae:=(aM.c sp<|nmA (f_<|d_ hBg)<|f_ V).e sh;refine dRX z z (at_ (α:=Val) d_46 k_ z z z (p4_2.g ae) c2) ?_;rintro _ ⟨_,_,_,rfl,c3,c4,c5⟩;obtain ⟨_,_,_,_,_,_,rfl,c6,c7,c8⟩:=v_n c4;refine dM z z z ?_;have aP:=((((((((((hG.e h3).c sk<|f_ p1_2g).c hi<|f_<|d_ hBg).e sf).e sd).e h5).c h6<|f_ ab).e s4).e sg).c sp<|nmA (f_<|d_ hBg)<|f_ V).e sh;have af:=lt_ (lt_ (lt_ (lt_ hw h5.s) h6.s) s4.s) sg.s;have aQ:=lt_ (lt_ af sp.s) sh.s;obtain ⟨_,ca,bg⟩:=bdS bf;refine dE z z (fc call158 z<|W_w43 (B:=B) (x1:=(⟨x1.d.rules⟩:e_)) ca (zt' hBw aQ) aP (p1_0.g ae) p3_0<|ic (Nat.le_of_lt hkz)<|lt_ (repS.len p4_2) A_) (.inr fun _ _ h=>F_<|h.1) ?_;rintro _ cb ⟨sb,rfl,_⟩;obtain ⟨_,aR,bh⟩:=bdS bg;refine dR z z (f_Z z z aR) ?_;have W:=ae.e sb;have aS:=lt_ aQ sb.s;obtain ⟨_,cc,bi⟩:=bdS bh;refine dE z z (fc call159 z<|W_w44 (B:=B) (x1:=(⟨x1.d.rules⟩:e_)) cc (zt' hBw aS) (p1_0.g W) p3_0 p4_0 (p4_1.g W) (p4_2.g W) (aO.e sb) hC4b<|ic (Nat.le_of_lt hkz)<|lt_ (repS.len p4_2) A_) (.inr fun _ _ h=>F_<|h.1) ?_;rintro _ cd ⟨se,rfl,ce⟩;have aT:=W.e se;have aU:=(sb.ag B).e se;obtain ⟨cf,cg,ch,bj⟩:=a_k bi;refine dE z z (fc call95 z<|bs.run (B:=B) ch ((ad.e sb).e se) (zt' hBw<|lt_ aS se.s) hBg ((aP.e sb).e se) (p1_0.g aT) (p1_1.g aT) (((hq.e sh).e sb).e se) hx (or1 ha V (n_<|zt' hBw af):∀k∈S1,¬B k) (or1 ha (or2 hl p1_2d an_ (a_O (d_<|Blk.lt hB1) h3.s):∀k∈G,k∉[g1]) (a_O (d_<|Blk.lt hB1) af):∀k∈S1,k∉[g1]) (j_j aR) ce c6 (c7.g aU) (c8.g aU) ((c3.e sb).e se) c5 O) (.inl z) ?_;rintro _ ci ⟨cj,ck,cl,cm,aV,rfl,cn,co,cp,cq,ct⟩;refine dQ z z z<|pD<|Wo<|Wg<|R z (inc_ hkz (lt_ (repS.len p4_2) A_) z z)<|Rm z<|Wl ?_
  exact fun _ q=>⟨(cf,cg),(som bj).symm,⟨ck,cl,cm,aV,q.k<|s9 z z z z z z z z z,(cM (i_ (i_ (i_ (cM (cr ([g1]++G) H) sp (aa_ (io<|b_X sr)<|io<|b_F sr):Chg (· ∈ ([g1]++G)) H bZ) sh:Chg (· ∈ ([g1]++G)) H c0) sb:Chg (· ∈ ([g1]++G)) H cb) se:Chg (· ∈ ([g1]++G)) H cd) cj (aa_ (io<|b_X sr) (or1 ha (io<|b_F sr) (l_ lr):∀k∈S1,k∈([g1]++G)∨H.z<=k)):Chg (· ∈ ([g1]++G)) H ci),cn,co,cp,(or1 cq (or1 ha (io sr) (l_ lr):∀k∈S1,k∈G∨H.z<=k) (l_<|lt_ (lt_ (lt_ sp.s sh.s) sb.s) se.s):∀k∈aV,k∈G∨H.z<=k),ct⟩⟩
 ·rintro ⟨xj,xo⟩ _ cu ⟨I,J,L,S1,bk,cv,O,hq,hx,ha,ht⟩;refine Wu ?_ bk;refine Ws<|Rl z z z<|Wn<|Wq<|Wc z (fun hc=>(Q_ hc).elim) (fun _=>?_)
  exact We<|fun a' ha'=>⟨rfl,⟨I,J,L,S1,Sat.weaken ha'<|s3 z z z,(cM (cr ([g1]++G) H) cv (aa_ (io<|b_X sr)<|io<|b_F sr):Chg (· ∈ ([g1]++G)) H cu),O,hq,hx,(or1 ha (io sr) (l_ lr):∀k∈S1,k∈G∨H.z<=k),ht⟩⟩
 ·rintro ⟨xj,xo⟩ cw cx rfl ⟨I,J,L,S1,_,aW,O,hq,hx,ha,ht⟩;have bm:=elL al;revert cw;refine Wo<|Wm z<|R z (a_6 z)<|Rf z h_H z<|R z (l0 g_36 z<|ht.at z)<|RM z z ?_
  obtain ⟨ah,aX,bn⟩:=bdS<|a_5 bm;refine RX z (rd_atQ (α:=m_) c_8 c_6 z z hq aX) ?_;rintro _ ⟨_,cy,rfl⟩;refine Rf z m_e z ?_;obtain ⟨_,cz,bo⟩:=bdS bn;refine E0 (r_x (α:=m_) (v':=(⟨ah.path,ah.rule,ah.start,rm⟩:m_)) z_3 z cy z z z z aX cz hq hx (lb z)<|fun _ _ _ h=>q_Q h ar) ?_;rintro _ cA ⟨aY,aZ,cB,cC,cD⟩;refine Wn<|Wm z<|Rw z ?_
  obtain rfl:=som bo;have b0:∀k∈G,k∈([g1]++S1_2)∨w0.z<=k:=or2 hl (io<|b_F sr) an_<|l_ h3.s;have Y:=lt_ (lt_ (lt_ (lt_ hw h5.s) h6.s) s4.s) sg.s;exact Wr<|c_ hr z ⟨(cM (cM (i_ (i_ (cM (i_ (i_ (i_ (cM (cM (i_ (cr ([g1]++S1_2) w0) h3:Chg (· ∈ ([g1]++S1_2)) w0 am) sk (io<|b_F sr):Chg (· ∈ ([g1]++S1_2)) w0 bu) hi (io<|b_X sr):Chg (· ∈ ([g1]++S1_2)) w0 bw) sf:Chg (· ∈ ([g1]++S1_2)) w0 bA) sd:Chg (· ∈ ([g1]++S1_2)) w0 wn) h5:Chg (· ∈ ([g1]++S1_2)) w0 aG) h6 (mor hw:∀k∈[wn.z],k∈([g1]++S1_2)∨w0.z<=k):Chg (· ∈ ([g1]++S1_2)) w0 ws) s4:Chg (· ∈ ([g1]++S1_2)) w0 wc) sg:Chg (· ∈ ([g1]++S1_2)) w0 H) aW (aa_ (io<|b_X sr) b0):Chg (· ∈ ([g1]++S1_2)) w0 cx) aZ (or1 ha b0 (l_ Y):∀k∈S1,k∈([g1]++S1_2)∨w0.z<=k):Chg (· ∈ ([g1]++S1_2)) w0 cA),I,J,L,aY,z,ar,cB,cC,(or1 cD (or1 ha (or2 hl (io sr) an_ (l_ h3.s):∀k∈G,k∈S1_2∨w0.z<=k) (l_ Y):∀k∈S1,k∈S1_2∨w0.z<=k) (l_<|lt_ Y aW.s):∀k∈aY,k∈S1_2∨w0.z<=k),ht.c aZ<|djs (or1 ha (or2 hl p1_2d an_ (a_O (d_<|Blk.lt hB1) h3.s):∀k∈G,k∉[g1]) (a_O (d_<|Blk.lt hB1) Y):∀k∈S1,k∉[g1])⟩
 rintro _ _ _ _ rfl ⟨rfl,bp⟩;have bq:=elR al;obtain rfl:=som bq;exact ⟨bp,z⟩
theorem A_w09:∀n,q_1 n
  | 0=>⟨fun hm=>by intros;exact nomatch (show none=some _ from hm)⟩
  | n+1=>T_w09<|A_w09 n
theorem W_w09:m_O (f_7 n).impl_indexer_part:=A_w09 n
theorem W_w45 {x1:e_}{x2:List UInt8}{res:(List m_)×Bool}(hm:i_z n x1 x2=some res)(hBw:B<=w0.z)(hG:Gl w0 B)(p1_0:repS w0 B (sl A0 N0 C0) x1.rules)(p2_0:repS w0 B (sl A3 N3 C3) x2):h_ prog 36 [(.agg #[sl A0 N0 C0]),sl A3 N3 C3] w0 (Q21 w0 B res):=by
 unfold i_z at hm
 refine goF func36 z z (lb z) fun fn hr=>Ws<|E z (fb z) ?_
 rintro _ wr ⟨rfl,hc⟩;have h2:=hc.below;have h6:Blk wr w0.z [sl A0 N0 C0]:=hc.blk;refine Ra z<|Rw z<|Ws<|R z (lN (vs:=[sl A0 N0 C0]) J_ E_ z z fid<|h6.row 0 1 z)<|Rm z ?_
 have hd:=hG.e h2;obtain ⟨rs,_,_,ew,hme⟩:=V_ hm;refine E z (fc call94 z<|W_w1t ew (zt' hBw h2.s) hd (p1_0.e h2)<|p2_0.e h2) ?_;rintro _ wf ⟨s5,ax,ny,cz,_,O,V,W,_,rfl,Y,H,I,_,_,_,_⟩;refine Rm z ?_
 iterate 3 refine Re z z z ?_
 refine E z (fa a_s) ?_;rintro _ wg ⟨rfl,hh⟩;have h:=hh.below;have hi:Blk wg wf.z [vI 0,sl none 0 0,sl none 0 0]:=hh.blk;refine E0 (fs (cur':=[vI rs.number,sl ax ny cz,sl O V W]) k_ z z hi z (lb z) (oA z) z) ?_;rintro _ wj ⟨a0,a1⟩;have h1:=a1.one;refine Ra z<|Rw z<|Wq<|Wm z<|R z (nq z z)<|Wx z (fun G=>?_) (fun G=>?_)
 ·refine Ws<|E z (f0 (α:=m_) c_G) ?_
  rintro _ _ ⟨a2,a3,a4,rfl,a5,a6⟩;refine Ra z<|Rw z ?_
  obtain rfl:=som<|ifT hme G;have hk:=lt_ h2.s s5.s;exact Wr<|Y_ hr z z ⟨bup (bM (bup (bup h2 s5) h) h1<|m1 hk) a5,a2,a3,a4,[wj.z],z,a6,a_0,m1<|lt_ (lt_ hk h.s) h1.s⟩
 refine Wk<|Ws ?_
 have hl:=((h6.e s5).e h).c h1<|djs<|mm1 h6.lt s5.s
 refine R z (lN (vs:=[sl A0 N0 C0]) J_ E_ z z fid<|hl.row 0 1 z)<|Rm z<|R z (bP (parts:=[(0,.tmp 20),(1,.tmp 21)]) (cs:=[sl A0 N0 C0,sl A3 N3 C3,sl none 0 0]) u_E z z)<|E z (fb z) ?_
 rintro _ a7 ⟨rfl,hn⟩;have h3:=hn.below;refine Rw z<|Wm z<|R z (lN (vs:=[sl A0 N0 C0]) J_ E_ z z fid<|(hl.e h3).row 0 1 z) ?_
 have ha:=lt_ h2.s s5.s;have ho:∀k∈[wf.z],¬B k:=or0 (d_ lr)<|n_<|zt' hBw ha;have hp:=((((h2.ag B).e s5).e h).c h1<|f_ ho).e h3;have hq:=lt_ ha h.s;have ht:=lt_ hq h1.s;have hu:=lt_ ht h3.s;obtain ⟨_,a8,J⟩:=bdS<|ifF hme G;refine E z (fc call96 z<|m_z a8 (zt' hBw hu)<|p1_0.g hp) ?_;rintro _ _ ⟨s4,rfl,a9⟩;have hv:=hp.e s4;have hb:=zt' hBw hq;obtain ⟨_,_,aa,L⟩:=a_k J;refine E z (fc call95 z<|W_w09.run (B:=wg.z) aa ((hn.blk:Blk a7 wj.z [sl A0 N0 C0,sl A3 N3 C3,sl none 0 0]).e s4) (a_T<|lt_ (lt_ h1.s h3.s) s4.s) (atp<|nbl<|m1 h1.s) ((((((hd.e s5).e h).c h1<|f_ ho).e h3).e s4).mono hb) (repS.mono (p1_0.g hv) hb) (repS.mono (p2_0.g hv) hb) onL H_ (nbl an_) an_ (lb z) a9 Y (repS.mono (or_ ((((H.e h).c h1<|ds<|mnr<|a_.lt H).e h3).e s4)<|a_.lt H)<|a_T h.s) (repS.mono (or_ ((((I.e h).c h1<|ds<|mnr<|a_.lt I).e h3).e s4)<|a_.lt I)<|a_T h.s) (((a0.e h3).e s4).row 0 3 z) hi.lt<|ii z) ?_;rintro _ _ ⟨ab,ad,ae,af,Sm,rfl,_,ah,ai,aj,ak⟩;refine Wn<|Wm z<|R z (a_6 z)<|Rf z h_H z<|R z (l0 g_36 z<|ak.at z)<|Ra z<|Rw z ?_
 obtain rfl:=som L;exact Wr<|Y_ hr z z ⟨bM (bup (bup (bM (bup (bup h2 s5) h) h1<|m1 ha) h3) s4) ab<|aa_ (m1 ht) an_,ad,ae,af,Sm,z,ah,ai,(or1 aj an_ (a_S<|lt_ hu s4.s):∀k∈Sm,w0.z<=k)⟩
theorem W_w1y {x1:Str}{x2:UInt8}{res:(List Str)}(hm:f_0 x1 x2=some res)(hBw:B<=w0.z)(p1_0:x1.b.length<=LEN):h_ prog 247 [Str.v x1,vU<|byteI x2] w0 (Q2 w0 B res):=by
 unfold f_0 at hm
 refine goF func247 z z (lb z) fun fn hr=>Ws<|Rw z<|Ws<|E z (f0 (α:=Str) b_q) ?_
 rintro _ G ⟨af,ai,aj,rfl,sk,ak⟩;refine Rw z<|Ws<|Rw z<|Wq<|Ws<|Rw z ?_
 obtain ⟨_,a0,hmr⟩:=bdS hm;refine Wf (σ:=(List Str)×Int) (ρ:=List Str) (fun (kd:Nat) s a w=>un2 (fun L x5=>∃a2 H I h,Sat 35 [(0,Str.v x1),(1,vU<|byteI x2),(5,sl a2 H I),(6,vI x5),(7,vI ((kd:Nat):Int))] a/\Chg (· ∈ [w0.z]) G w/\a_ w h (sl a2 H I) L/\h.Nodup/\(∀k∈h,k∈[w0.z]∨G.z<=k)/\inI x5) s) (fun s a w=>un2 (fun L x5=>∃a2 H I h,Sat 35 [(0,Str.v x1),(5,sl a2 H I),(6,vI x5)] a/\Chg (· ∈ [w0.z]) G w/\a_ w h (sl a2 H I) L/\h.Nodup/\(∀k∈h,k∈[w0.z]∨G.z<=k)/\inI x5) s) (fun r ex a w=>ex = .ret/\w_ prog fn (Q2 w0 B r) a w) a0 ?_ ?_ ?_ ?_ ?_
 ·exact fun _ q=>⟨af,ai,aj,[w0.z],q.k<|s5 z z z z z,cr [w0.z] G,ak,a_0,io sr,ii z⟩
 ·rintro kd ⟨L,x5⟩ _ J _ hke ⟨a2,H,I,h,a1,ss,O,V,hb,hf⟩ a3;refine Wu ?_ a1;refine Wq<|Wm z<|Rm z<|R z (lnT d_9 z)<|Rl z z z<|Wx z (fun _=>?_) (fun hc=>(P_ hke hc).elim)
  refine Wk<|Wq<|Wb<|Wm z<|Rm z ?_
  obtain ⟨_,eu,a4⟩:=bdS<|a_5 a3;refine R z (c_o d_9 z z (a_A eu).1 (a_A eu).2.1)<|Rm z<|Rq z z z<|Wn ?_
  obtain ⟨al,huv,a5⟩:=bdS a4;refine Wt (fun a w=>∃(xg:List Str)(xc:Int),(xg,xc)=al/\∃ah ni cj Sa,Sat 35 [(0,Str.v x1),(1,vU<|byteI x2),(5,sl ah ni cj),(6,vI xc),(7,vI ((kd:Nat):Int))] a/\Chg (· ∈ h) J w/\a_ w Sa (sl ah ni cj) xg/\Sa.Nodup/\(∀k∈Sa,k∈h∨J.z<=k)/\inI xc) ?_ ?_
  ·refine Wc z (fun hcl=>?_)<|fun hcl=>?_
   ·refine Wm z<|RM z z<|Rm z ?_
    obtain ⟨am,em,a6⟩:=bdS<|ifT huv hcl;refine R z (l_m d_9 z z z p1_0 em)<|E z (fS [(.tmp 24)] b_q z z z (a_z z) (lb z)<|lb z) ?_
    rintro _ ww ⟨rfl,hn⟩;have ho:=hn.below;have aU:=b_E hn<|c_y<|g_0 em p1_0
    obtain ⟨an,ao,a7⟩:=bdS a6;refine E z (b_d (α:=Str) b_q ao z z (O.e ho) V (hn.blk:Blk ww J.z [Str.v am]) (c_y<|g_0 em p1_0) an_ H_) ?_;rintro _ ap ⟨Sx,aq,ar,au,rfl,av,aw,ax,ay⟩;refine Rw z<|Wg<|Rm z<|R z (inc_ hke (lt_ p1_0 A_) z z)<|Ra z<|Wl ?_
    exact fun _ q=>⟨an,((kd+1:Nat):Int),som a7,aq,ar,au,Sx,q.k<|s5 z z z z z,(cM (i_ (cr h J) ho:Chg (· ∈ h) J ww) av (io sr):Chg (· ∈ h) J ap),aw,ax,(or2 ay (io sr) an_ (l_ ho.s):∀k∈Sx,k∈h∨J.z<=k),ic (Nat.succ_le_of_lt hke)<|lt_ p1_0 A_⟩
   exact a_e<|fun _ q=>⟨L,x5,som<|ifF huv hcl,a2,H,I,h,q.k<|s5 z z z z z,cr h J,O,V,io sr,hf⟩
  rintro az aA ⟨xg,xc,rfl,ah,ni,cj,Sa,_,aB,aC,aD,aE,aF⟩;revert az;refine Wo<|Wg<|Rm z<|R z (inc_ hke (lt_ p1_0 A_) z z)<|Ra z<|Wl ?_
  have hy:∀k∈h,k∈[w0.z]∨G.z<=k:=or1 hb (io sr)<|l_ lr;exact fun _ q=>⟨(xg,xc),(som<|a_5 a5).symm,⟨ah,ni,cj,Sa,q.k<|s5 z z z z z,(cM (cM (cr [w0.z] G) ss (io sr):Chg (· ∈ [w0.z]) G J) aB hy:Chg (· ∈ [w0.z]) G aA),aC,aD,(or1 aE hy (l_ ss.s):∀k∈Sa,k∈[w0.z]∨G.z<=k),aF⟩⟩
 ·rintro ⟨L,x5⟩ _ aG ⟨a2,H,I,h,a8,aH,O,V,hb,hf⟩;refine Wu ?_ a8;refine Wq<|Wm z<|Rm z<|R z (lnT d_9 z)<|Rl z z z<|Wx z (fun hc=>(Q_ hc).elim) (fun _=>?_)
  exact We<|fun a' ha'=>⟨rfl,⟨a2,H,I,h,Sat.weaken ha'<|s3 z z z,(cM (cr [w0.z] G) aH (io sr):Chg (· ∈ [w0.z]) G aG),O,V,(or1 hb (io sr) (l_ lr):∀k∈h,k∈[w0.z]∨G.z<=k),hf⟩⟩
 ·rintro ⟨L,x5⟩ aI aJ rfl ⟨a2,H,I,h,_,sz,O,V,hb,hf⟩;have a9:=elL hmr;revert aI;refine Wo<|Wm z<|RM z z ?_
  obtain ⟨aK,ep,aa⟩:=bdS<|a_5 a9;refine R z (l_m d_9 z z z p1_0 ep)<|E z (fS [(.tmp 32)] b_q z z z (a_z z) (lb z)<|lb z) ?_
  rintro _ aL ⟨rfl,hq⟩;have ht:=hq.below;have aV:=b_E hq<|c_y<|g_0 ep p1_0
  obtain ⟨_,aM,ab⟩:=bdS aa;refine E z (b_d (α:=Str) b_q aM z z (O.e ht) V (hq.blk:Blk aL aJ.z [Str.v aK]) (c_y<|g_0 ep p1_0) an_ H_) ?_;rintro _ _ ⟨W,aN,aO,aP,rfl,aQ,aR,aS,aT⟩;refine Rw z ?_
  obtain rfl:=som ab;have Y:∀k∈h,w0.z<=k:=or1 hb (d_ lr)<|a_S sk.s;exact Wr<|c_ hr z ⟨bM (bup (bM sk sz<|d_ lr) ht) aQ Y,aN,aO,aP,W,z,aR,aS,(or2 aT Y an_ (a_S<|lt_ (lt_ sk.s sz.s) ht.s):∀k∈W,w0.z<=k)⟩
 rintro _ _ _ _ rfl ⟨rfl,ad⟩;have ae:=elR hmr;obtain rfl:=som ae;exact ⟨ad,z⟩
theorem W_w1z {x1:Str}{res:Int×Bool}(hm:g_J x1=some res)(hBw:B<=w0.z)(p1_0:x1.b.length<=LEN):h_ prog 198 [Str.v x1] w0 (Q22 w0 B res):=by
 unfold g_J at hm
 refine goF func198 z z (lb z) fun fn hr=>Ws<|Ra z<|Rw z<|Wq<|Wq ?_
 obtain ⟨uv,huf,hmg⟩:=bdS hm;refine Wt (fun a w=>∃(V:Bool),V=uv/\Sat 50 [(0,Str.v x1),(22,vB V)] a/\Below w0.z w0 w) ?_ ?_
 ·refine Wg<|Rm z<|R z (a_R z z)<|Rm z ?_
  rcases bs (x1.b==(⟨[]⟩:Str).b) with H | H
  ·iterate 3 refine Nh z H ?_
   exact R z (pT z H z)<|Rm z<|Nh z z<|Nh z z<|Nh z z<|Nh z z<|Nv z<|Nv z<|Nv z<|Nh z z<|R z (pT z z z)<|Wl (fun _ q=>⟨true,som<|ifT huf H,q.k<|s2 z z,br w0⟩)
  have hmh:=ifF huf H;refine Rh z H (mv z)<|Rh z H (lnT d_9 z)<|Rh z H (Z_ z z)<|R z (pF z H z)<|Rm z ?_
  rcases bs (decide<|13<(x1.b.length:Int)) with h | h
  ·iterate 4 refine Nh z h ?_
   exact Nv z<|Nv z<|Nv z<|Nh z h<|R z (pT z h z)<|Wl (fun _ q=>⟨true,som<|ifT hmh h,q.k<|s2 z z,br w0⟩)
  refine Rh z h (mv z) ?_;obtain ⟨xw,ei,hmj⟩:=bdS<|ifF hmh h;refine Rh z h (c_o d_9 z z (a_A ei).1 (a_A ei).2.1)<|Rh z h (eql z z)<|Rh z h (mv z) ?_
  rcases bs ((byteI xw)==(byteI (48:UInt8))) with I | I
  ·exact Rh z I (mv z)<|Rh z I (lnT d_9 z)<|Rh z I (Z_ z z)<|Rh z h (pT z I z)<|R z (pF z h z)<|Wl (fun _ q=>⟨decide<|1<(x1.b.length:Int),som<|ifT hmj I,q.k<|s2 z z,br w0⟩)
  iterate 3 refine Nh z I ?_
  exact Rh z h (pF z I z)<|R z (pF z h z)<|Wl (fun _ q=>⟨false,som<|ifF hmj I,q.k<|s2 z z,br w0⟩)
 rintro ax J ⟨V,rfl,_,s6⟩;revert ax;refine Wo<|Wc z (fun hca=>?_) (fun hca=>?_)
 ·refine Ws<|Ra z<|Rw z ?_
  obtain rfl:=som<|ifT hmg hca;exact Wr<|Y_ hr z z ⟨s6,z,ii z⟩
 refine Wk<|Ws<|Rw z<|Wq<|Ws<|Rw z ?_
 obtain ⟨_,huy,hmk⟩:=bdS<|ifF hmg hca;refine Wf (σ:=Int) (ρ:=Int×Bool) (fun (kb:Nat)(x2:Int) a w=>Sat 50 [(0,Str.v x1),(4,vI x2),(5,vI ((kb:Nat):Int))] a/\Below J.z J w/\inI x2) (fun (x2:Int) a w=>Sat 50 [(4,vI x2)] a/\Below J.z J w/\inI x2) (fun r ex a w=>ex = .ret/\w_ prog fn (Q22 w0 B r) a w) huy ?_ ?_ ?_ ?_ ?_
 ·exact fun _ q=>⟨q.k<|s3 z z z,br J,ii z⟩
 ·rintro kb x2 _ L _ hkl ⟨hSz,sm,O⟩ W;refine Wu ?_ hSz;refine Wq<|Wm z<|Rm z<|R z (lnT d_9 z)<|Rl z z z<|Wx z (fun _=>?_) (fun hc=>(P_ hkl hc).elim)
  refine Wk<|Wq<|Wb<|Wq<|Wq ?_
  obtain ⟨a5,Y,hmn⟩:=bdS W;refine Wt (fun a w=>∃(xc:Bool),xc=a5/\Sat 50 [(0,Str.v x1),(4,vI x2),(5,vI ((kb:Nat):Int)),(38,vB xc)] a/\Below L.z L w) ?_ ?_
  ·refine Wg<|RM z z ?_
   obtain ⟨a6,eo,hmp⟩:=bdS Y;refine R z (c_o d_9 z z (a_A eo).1 (a_A eo).2.1)<|Rl z z z<|Rm z ?_
   rcases bs (decide<|(byteI a6)<(byteI (48:UInt8))) with G | G
   ·iterate 4 refine Nh z G ?_
    exact R z (pT z G z)<|Wl (fun _ q=>⟨true,som<|ifT hmp G,q.k<|s4 z z z z,br L⟩)
   refine Rh z G (mv z)<|Rh z G (mv z) ?_
   obtain ⟨a7,eq,a0⟩:=bdS<|ifF hmp G;exact Rh z G (c_o d_9 z z (a_A eq).1 (a_A eq).2.1)<|Rh z G (Z_ z z)<|R z (pF z G z)<|Wl (fun _ q=>⟨decide<|(byteI (57:UInt8))<(byteI a7),som a0,q.k<|s4 z z z z,br L⟩)
  rintro a8 _ ⟨xc,rfl,_,sr⟩;revert a8;refine Wo<|Wc z (fun hcd=>?_) (fun hcd=>?_)
  ·exact Ws<|Ra z<|Rw z<|Wr<|rtO<|qL (som<|ifT hmn hcd).symm<|Y_ hr z z ⟨bup (bup s6 sm) sr,z,ii z⟩
  refine Wk<|Wg<|Rm z<|R z (g_8 z z)<|RM z z ?_
  obtain ⟨a9,es,a1⟩:=bdS<|ifF hmn hcd;exact R z (c_o d_9 z z (a_A es).1 (a_A es).2.1)<|R z (n_d z z)<|R z (b_i d_5 d_3 z)<|R z (add_ z z)<|Rw z<|Wg<|Rm z<|R z (inc_ hkl (lt_ p1_0 A_) z z)<|Ra z<|Wl (fun _ q=>⟨b_ (b_6 10 x2)<|byteI<|mkB (byteI a9 - byteI (48:UInt8)),(som a1).symm,⟨q.k<|s3 z z z,bup sm sr,iA _ _⟩⟩)
 ·rintro x2 _ _ ⟨a2,aa,O⟩;refine Wu ?_ a2;refine Wq<|Wm z<|Rm z<|R z (lnT d_9 z)<|Rl z z z<|Wx z (fun hc=>(Q_ hc).elim) (fun _=>?_)
  exact We<|fun a' ha'=>⟨rfl,⟨Sat.weaken ha'<|s1 z,aa,O⟩⟩
 ·rintro x2 ab _ rfl ⟨_,st,O⟩;have hmu:=elL hmk;revert ab;refine Wo<|Wq<|Wm z<|R z (Z_ z z)<|Wx z (fun hce=>?_) (fun hce=>?_)
  ·refine Ws<|Ra z<|Rw z ?_
   obtain rfl:=som<|ifT hmu hce;exact Wr<|Y_ hr z z ⟨bup s6 st,z,ii z⟩
  refine Wk<|Wm z<|Ra z<|Rw z ?_
  obtain rfl:=som<|ifF hmu hce;exact Wr<|Y_ hr z z ⟨bup s6 st,z,O⟩
 rintro _ _ _ _ rfl ⟨rfl,a3⟩;have a4:=elR hmk;obtain rfl:=som a4;exact ⟨a3,z⟩
theorem W_w20 {x1:Str}{res:Bool}(hm:f_1 n x1=some res)(hBw:B<=w0.z)(p1_0:x1.b.length<=LEN):h_ prog 167 [Str.v x1] w0 (Q11 w0 B res):=by
 unfold f_1 at hm
 refine goF func167 z z (lb z) fun fn hr=>Ws<|Rw z<|Wq<|Wq ?_
 obtain ⟨ub,huc,J⟩:=bdS hm;refine Wt (fun a w=>∃(x4:Bool),x4=ub/\Sat 25 [(0,Str.v x1),(18,vB x4)] a/\Below w0.z w0 w) ?_ ?_
 ·refine Wg<|Rm z ?_
  obtain ⟨rd,ee,L⟩:=bdS huc;refine E z (fc call197 z<|k_A (B:=B) ee hBw p1_0) ?_;rintro _ _ ⟨s3,rfl⟩;refine Rm z ?_
  rcases bs rd with h | h
  ·exact Nh z h<|Nh z h<|R z (pT z h z)<|Rm z<|Nh z z<|Nh z z<|R z (pT z z z)<|Rm z<|Nh z z<|Nh z z<|R z (pT z z z)<|Wl (fun _ q=>⟨true,som<|ifT L h,q.k<|s2 z z,s3⟩)
  have O:=ifF L h;refine Rh z h (mv z)<|Rh z h (a_R z z)<|R z (pF z h z)<|Rm z ?_
  rcases bs (x1.b==(⟨[42]⟩:Str).b) with G | G
  ·exact Nh z G<|Nh z G<|R z (pT z G z)<|Rm z<|Nh z z<|Nh z z<|R z (pT z z z)<|Wl (fun _ q=>⟨true,som<|ifT O G,q.k<|s2 z z,s3⟩)
  have hma:=ifF O G;refine Rh z G (mv z)<|Rh z G (a_R z z)<|R z (pF z G z)<|Rm z ?_
  rcases bs (x1.b==(⟨[63]⟩:Str).b) with H | H
  ·exact Nh z H<|Nh z H<|R z (pT z H z)<|Wl (fun _ q=>⟨true,som<|ifT hma H,q.k<|s2 z z,s3⟩)
  exact Rh z H (mv z)<|Rh z H (a_R z z)<|R z (pF z H z)<|Wl (fun _ q=>⟨x1.b==(⟨[43]⟩:Str).b,som<|ifF hma H,q.k<|s2 z z,s3⟩)
 rintro af _ ⟨x4,rfl,_,s5⟩;revert af;refine Wo<|Wc z (fun I=>?_) (fun I=>?_)
 ·refine Ws<|Rw z ?_
  obtain rfl:=som<|ifT J I;exact Wr<|c_ hr z ⟨s5,z⟩
 refine Wk<|Wm z ?_
 obtain ⟨_,_,eg,hmh⟩:=a_k<|ifF J I;refine E z (fc call198 z<|W_w1z eg (zt' hBw s5.s) p1_0) ?_;rintro _ _ ⟨si,rfl,_⟩;refine Rm z<|Re z z z<|Re z z z<|Ra z<|Rw z<|Wm z<|Rw z ?_
 obtain rfl:=som hmh;exact Wr<|c_ hr z ⟨bup s5 si,z⟩
theorem W_w46 {x1:Str}{res:Bool}(hm:f_M n x1=some res)(hBw:B<=w0.z)(p1_0:x1.b.length<=LEN):h_ prog 175 [Str.v x1] w0 (Q11 w0 B res):=by
 unfold f_M at hm
 refine goF func175 z z (lb z) fun fn hr=>Ws<|Rw z<|Wq ?_
 obtain ⟨O,J,L⟩:=bdS hm;refine Wt (fun a w=>∃(x2:Bool),x2=O/\Sat 13 [(2,vB x2)] a/\Below w0.z w0 w) ?_ ?_
 ·refine Wg<|Rm z ?_
  obtain ⟨V,ea,H⟩:=bdS J;refine E z (fc call167 z<|W_w20 (B:=B) ea hBw p1_0) ?_;rintro _ _ ⟨s3,rfl⟩;refine Rm z ?_
  rcases bs V with h | h
  ·exact Nh z h<|Nh z h<|R z (pT z h z)<|Rm z<|Nh z z<|Nh z z<|R z (pT z z z)<|Ra z<|Wl (fun _ q=>⟨true,som<|ifT H h,q.k<|s1 z,s3⟩)
  have I:=ifF H h;refine Rh z h (mv z)<|Rh z h (a_R z z)<|R z (pF z h z)<|Rm z ?_
  rcases bs (x1.b==(⟨[35]⟩:Str).b) with G | G
  ·exact Nh z G<|Nh z G<|R z (pT z G z)<|Ra z<|Wl (fun _ q=>⟨true,som<|ifT I G,q.k<|s1 z,s3⟩)
  exact Rh z G (mv z)<|Rh z G (a_R z z)<|R z (pF z G z)<|Ra z<|Wl (fun _ q=>⟨x1.b==(⟨[46,46]⟩:Str).b,som<|ifF I G,q.k<|s1 z,s3⟩)
 rintro ab _ ⟨x2,rfl,_,sc⟩;revert ab;refine Wo ?_;obtain rfl:=som L;exact Wr<|c_ hr z ⟨sc,z⟩
def Q36 (w0:World)(B:Zone)(r:(List Str)×Bool)(v:Value)(w':World):Prop:=Bw w0 w'/\un2 (fun I J=>∃(h:Option Addr)(G H:Nat)(S1:List Nat),v = .tuple #[(sl h G H),(vB J)]/\a_ w' S1 (sl h G H) I/\S1.Nodup/\(∀k∈S1,w0.heap.size<=k)) r
theorem v_0 {w:World}{gp b:Nat}{s:Str}{l0 parts:List Str}(hs:s.b.length<=LEN)(hm:f_0 s (47:UInt8)=some l0)(hsl:slc l0 1 (l0.length:Int)=some parts)(hp:Blk w gp [Str.v s])(hb:b<w.heap.size)(hrow:∀g,c_9 w b g->g<w.heap.size) :
    SeqStopsK (α:={x:Str // x∈parts/\x.b.length<=LEN}) Fence.wide 1 Tryz.prog 246 [pt gp].toArray (fun x=>#[x.1.v]) (KpS b) (fun xs=>xs.map (·.1)=parts) (fun _=>True) parts.length w:=by
  intro l J Jx W hW hJ hJx hY h0;have hpW:=hp.ext hW
  have hrowW:∀g,c_9 W b g->g<W.heap.size:=fun g ⟨n,c,h⟩=>by
    have h':w.cell? ⟨b,0,none⟩=some (sl (some ⟨g,0,none⟩) n c):=(World.cell?_of_block (w:=w) (w':=W) (a:=⟨b,0,none⟩)<|hW.block b hb).symm.trans h;exact Nat.lt_of_lt_of_le (hrow g ⟨n,c,h'⟩) hW.size
  have hbW:=Nat.lt_of_lt_of_le hb hW.size
  have hc:h_ Tryz.prog 246 [.func (.yield l) #[] #[],pt gp] W (fun _ W'=>(∃xs:List {x:Str // x∈parts/\x.b.length<=LEN},xs.map (·.1)=parts/\J xs W')∨(∃pre,True/\Jx pre W')):=by
    obtain ⟨fn,hf,hbd,hN,hr⟩:=fnE Tryz.func246;refine h_g hf (hbd.trans rfl) (hN.trans rfl) (Nat.le_of_ble_eq_true rfl) ?_;refine a_i<|a_H ?_;refine R rfl (b_H g_9 rfl (fun h=>h)<|hpW.at rfl) ?_;refine E rfl (e_y Tryz.call247 rfl<|W_w1y (B:=W.heap.size) hm zr hs) ?_;rintro _ W1 ⟨s1,a1,n1,c1,S1,rfl,ho,nd,hge⟩;refine RX rfl (q_g G_ z_9 rfl ho rfl rfl hsl) ?_;intro v7 hv7;obtain ⟨ao7,c7,rfl,_⟩:=id hv7;refine R rfl (f_V G_ rfl<|hv7.repS (B:=W1.heap.size)<|fun k hk=>ho.lt k hk) ?_;refine R rfl (b_7 rfl) ?_;refine a_l<|WC.of_KC ?_;have hJ1:J [] W1:=hJ [] W W1 none h0 (Below.grows s1) (fun r h=>by cases h);have hb1:b∉S1:=fun h=>absurd (hge b h)<|Nat.not_le.2 hbW
    have hr1:∀g,c_9 W1 b g->g∉S1:=fun g ⟨n,c,h⟩ hg=>by
      have h':W.cell? ⟨b,0,none⟩=some (sl (some ⟨g,0,none⟩) n c):=(World.cell?_of_block (w:=W) (w':=W1) (a:=⟨b,0,none⟩)<|s1.block b hbW).symm.trans h;exact absurd (hge g hg)<|Nat.not_le.2<|hrowW g ⟨n,c,h'⟩
    have hlenL:parts.length<=9223372036854775807:=Nat.le_trans (by obtain ⟨_,_,_,_,h,_⟩:=hv7;exact h) A_;refine d_h fun a ha=>?_
    refine Code.wp_mono (Q:=Exit.then noK<|fun ex a w=>(ex = .exit 0/\w_ Tryz.prog fn (fun _ W'=>(∃xs:List {x:Str // x∈parts/\x.b.length<=LEN},xs.map (·.1)=parts/\J xs W')∨(∃pre,True/\Jx pre W')) a w)∨(ex = .ret/\w_ Tryz.prog fn (fun _ W'=>(∃xs:List {x:Str // x∈parts/\x.b.length<=LEN},xs.map (·.1)=parts/\J xs W')∨(∃pre,True/\Jx pre W')) a w)) (fun ex a' w' q=>?_)<|wp_loop_ghost (fun m a w=>∃(k:Nat)(pre:List {x:Str // x∈parts/\x.b.length<=LEN}),k+m=parts.length/\pre.map (·.1)=parts.take k/\Sat 18 [(9,vI (k:Int)),(8,vI (parts.length:Int)),(7,sl ao7 parts.length c7),(0,.func (.yield l) #[] #[])] a/\J pre w/\a_ w S1 (sl a1 n1 c1) l0/\(∀g,c_9 w b g->g∉S1)/\d_x w (· ∈ S1) (sl ao7 parts.length c7) parts) parts.length ?_ ?_
    · cases ex with
      | normal=>exact (show False from q).elim
      | exit i =>
        rcases q with ⟨h,q⟩ | ⟨h,_⟩
        · cases h;exact q
        · cases h
      | ret =>
        rcases q with ⟨h,_⟩ | ⟨_,q⟩
        · cases h
        · exact q
      | _=>rcases q with ⟨h,_⟩ | ⟨h,_⟩ <;> cases h
    · exact ⟨0,[],by omega,by simp,ha.weaken<|sc rfl<|sc rfl<|sc rfl<|sc rfl sn,hJ1,ho,hr1,hv7⟩
    · rintro m a w ⟨k,pre,hkm,hpre,hsat,hJw,how,hrw,hvw⟩
      refine g_2 (N:=18) (e:=[(9,vI (k:Int)),(8,vI (parts.length:Int)),(7,sl ao7 parts.length c7),(0,.func (.yield l) #[] #[])]) ?_ hsat;refine a_i<|a_H<|R rfl (f_i rfl rfl)<|a_l<|WC.of_KC ?_;refine a_i<|c_b rfl (fun hc=>?_)<|fun hc=>?_
      · have hk:k<parts.length:=by simpa using hc
        obtain ⟨m,rfl⟩:∃m',m=m'+1:=⟨m - 1,by omega⟩;refine a_e<|WC.of_KC ?_;refine a_i<|d_h ?_;refine a_i<|a_H ?_;have hrep:=hvw.repS (B:=w.heap.size)<|fun k hk=>how.lt k hk;have hidx:idx parts (k:Int)=some parts[k]:=by rw [l_d];simp [hk]
        refine RX rfl (f_W (α:=Str) G_ z_9 rfl rfl rfl hrep hidx) ?_;rintro _ ⟨bb,oo,cs,rfl,hc1,hrr,hlt⟩;obtain ⟨rfl,hxl⟩:=a_r hrr;refine R rfl (b_H g_9 rfl (fun h=>h)<|hc1.at0 rfl) ?_;refine R rfl (c_S rfl) ?_;refine a_l<|WC.of_KC ?_;refine a_i<|q_b ?_;refine e_X rfl (b_7 rfl) ?_;refine e_X rfl (b_7 rfl) ?_
        have hpl:pre.length=k:=by
          have:=congrArg List.length hpre
          simp at this;omega
        refine q_c (S:=fun v w'=>(v=vB true/\J (pre++[⟨parts[k],List.getElem_mem hk,hxl⟩]) w'/\KpS b w w')∨(v=vB false/\Jx (pre++[⟨parts[k],List.getElem_mem hk,hxl⟩]) w')) rfl rfl rfl (hY pre ⟨parts[k],List.getElem_mem hk,hxl⟩ w hJw (by omega)) (fun e w' h=>?_) ?_
        · rcases h with ⟨rfl,h⟩ | ⟨rfl,h⟩
          · exact ⟨_,rfl,.inl ⟨rfl,h⟩⟩
          · exact ⟨_,rfl,.inr ⟨rfl,h⟩⟩
        rintro v w' (⟨rfl,hJ',hK⟩ | ⟨rfl,hX⟩)
        · refine e_X rfl (d_G rfl) ?_
          refine k_E<|WC.of_KC ?_;refine c_b rfl (fun h=>by cases h)<|fun _=>?_;refine a_e<|WC.of_KC ?_;refine a_H<|R rfl (f_U hk hlenL rfl rfl)<|R rfl (b_7 rfl) ?_;obtain ⟨ho',hr'⟩:=hK.own how hb1 hrw
          have hv':d_x w' (· ∈ S1) (sl ao7 parts.length c7) parts:=hvw.stay fun g hg=>hK.chg.block g (how.lt g hg) fun hm=>by
            rcases hm with rfl | hm | ⟨o,ho2,hcl⟩
            · exact hb1 hg
            · exact hrw g hm hg
            · obtain ⟨cur,hB⟩:=d_Z how g hg
              rw [hB.isCells ho2] at hcl;cases hcl
          refine a_l fun a' ha'=>⟨m,Nat.lt_succ_self _,k+1,pre++[⟨parts[k],List.getElem_mem hk,hxl⟩],by omega,?_,ha'.weaken<|sc rfl<|sc rfl<|sc rfl<|sc rfl sn,hJ',ho',hr',hv'⟩
          rw [List.map_append,hpre,List.take_add_one,List.getElem?_eq_getElem hk];rfl
        · refine e_X rfl (d_G rfl) ?_
          refine k_E<|WC.of_KC ?_;refine c_b rfl (fun _=>?_) (fun h=>by cases h);exact c_L<|rtO fun a' ha'=>.inr ⟨rfl,ret0 hr (.inr ⟨_,trivial,hX⟩) a' ha'⟩
      · have hk:¬k<parts.length:=by simpa using hc
        have:k=parts.length:=by omega
        subst this;refine f_Q fun a' ha'=>.inl ⟨rfl,ret0 hr (.inl ⟨pre,?_,hJw⟩) a' ha'⟩
        rw [hpre,List.take_length]
  refine callsIn_wide.2<|hc.run.mono fun e w' ⟨v,he,h⟩=>⟨⟨v,he⟩,h⟩
theorem q_2 {w0 W W':World}{row:Option Nat}(h:Below w0.heap.size w0 W)(hg:W.grownBy W' row)(hr:∀r,row=some r->w0.heap.size<=r):Below w0.heap.size w0 W':=c_c h (k_F hg) fun k hk e=>absurd (hr k e)<|Nat.not_le.2 hk
def v_1 (w0:World)(s:Str)(v:Value)(w':World):Prop:=v = .func (.func 246) #[] #[pt w0.heap.size]/\Blk w' w0.heap.size [Str.v s]/\Bw w0 w'
theorem v_2 {w0:World}{s:Str}:h_ Tryz.prog 196 [Str.v s] w0 (v_1 w0 s):=by
  obtain ⟨_,hf,hb,hN,hr⟩:=fnE Tryz.func196;refine h_g hf (hb.trans rfl) (hN.trans rfl) (Nat.le_of_ble_eq_true rfl) ?_;refine a_i<|a_H ?_;refine E rfl (e_x rfl) ?_;rintro _ h ⟨rfl,h1⟩;refine R rfl (c_S rfl) ?_;refine a_l<|WC.of_KC ?_;refine a_i<|a_H ?_;refine R rfl (j_e rfl) ?_;refine R rfl (c_S rfl) ?_;refine a_l<|WC.of_KC ?_;exact c_L<|c_ hr rfl ⟨rfl,(h1.blk:Blk h w0.heap.size [Str.v s]),h1.below⟩
theorem W_w47 {n:Nat}{B:Zone}{x1:Str}{res:(List Str)×Bool}{w0:World}(hm:k_T n x1=some res)(hBw:B<=w0.heap.size)(p1_0:x1.b.length<=LEN):h_ Tryz.prog 166 [(Str.v x1),.func (.func 175) #[] #[]] w0 (Q36 w0 B res):=by
  unfold k_T at hm
  obtain ⟨fn,hf,hb,hN,hr⟩:=fnE Tryz.func166;refine q_e hf (hb.trans rfl) (hN.trans rfl) (Nat.le_of_ble_eq_true rfl) ?_
  -- the cells
  refine a_i<|a_H ?_;refine E rfl (e_x rfl) ?_;rintro _ w1 ⟨rfl,h1⟩;have b3:Blk w1 w0.heap.size [.func (.func 175) #[] #[]]:=h1.blk;refine E rfl (d_D k_t) ?_;rintro _ w2 ⟨rfl,h2⟩;have b4:Blk w2 w1.heap.size [.slice none 0 0]:=h2.blk;refine E rfl (d_D p_S) ?_;rintro _ w3 ⟨rfl,h3⟩;have b5:Blk w3 w2.heap.size [vB false]:=h3.blk;refine a_l<|WC.of_KC ?_;refine a_i<|a_H ?_;refine E rfl (e_z (α:=Str) b_q) ?_;rintro _ w4 ⟨a,m,c,rfl,s4,ho4⟩;refine E rfl (d_D k_t) ?_;rintro _ w5 ⟨rfl,h5⟩;have b6:Blk w5 w4.heap.size [.slice none 0 0]:=h5.blk;refine E0 (a_X (cur':=[.slice a m c]) c_H rfl rfl b6 rfl (Nat.le_of_ble_eq_true rfl) (b_4 rfl) rfl) ?_;rintro _ w6 ⟨c6,s6⟩;have t6:=s6.one;refine a_l<|WC.of_KC ?_
  -- what is known behind
  have g1:=h1.below;have g2:=h2.below;have g3:=h3.below;have g5:=h5.below;have z1:=h1.size;have z2:=h2.size;have z3:=h3.size;have z5:=h5.size;have z4:=s4.size;have z6:=s6.size
  have hz:w0.heap.size<w1.heap.size/\w1.heap.size<w2.heap.size/\w2.heap.size<w3.heap.size/\w3.heap.size<w4.heap.size/\w4.heap.size<w6.heap.size:=by
    have:=ho4.lt _ List.mem_cons_self
    omega
  have k3:Blk w6 w0.heap.size [.func (.func 175) #[] #[]]:=((((b3.ext g2).ext g3).ext s4).ext g5).chg s6 (by omega);have k4:Blk w6 w1.heap.size [.slice none 0 0]:=(((b4.ext g3).ext s4).ext g5).chg s6 (by omega);have k5:Blk w6 w2.heap.size [vB false]:=((b5.ext s4).ext g5).chg s6 (by omega);have kS:a_ w6 [w3.heap.size] (sl a m c) ([]:List Str):=(ho4.ext g5).chg s6 (fun k hk=>by have:=List.mem_singleton.1 hk;omega);have kB:Below w0.heap.size w0 w6:=c_n (bup (bup (bup (bup g1 g2) g3) s4) g5) t6 (fun k hk=>by have:=List.mem_singleton.1 hk;omega)
  clear b3 b4 b5 b6 ho4 h1 h2 h3 h5 s4 s6 t6 g1 g2 g3 g5 z1 z2 z3 z4 z5 z6
  -- the first look
  refine a_i<|a_i<|a_H ?_;refine R rfl (b_7 rfl) ?_;refine R rfl (a_R rfl rfl) ?_;refine a_l<|WC.of_KC ?_;refine c_b rfl (fun hc=>?_)<|fun hc=>?_
  · obtain rfl:=som (ifT hm hc)
    refine a_i<|a_H ?_;refine R rfl (b_H a_J rfl (fun h=>h)<|c6.at rfl) ?_;refine E0 (a_X (cur':=[.slice a m c]) c_H rfl rfl k4 rfl (Nat.le_of_ble_eq_true rfl) (b_4 rfl) rfl) ?_;rintro _ w7 ⟨c7,s7⟩;refine E0 (a_X (cur':=[vB true]) z_4 rfl rfl (k5.chg s7 (by omega)) rfl (Nat.le_of_ble_eq_true rfl) (b_4 rfl) rfl) ?_;rintro _ w8 ⟨c8,s8⟩;refine a_l<|WC.of_KC ?_;refine c_L fun a' ha'=>retM<|Y_ hr (c_2 (n:=1) a_J rfl<|c7.chg s8 (by omega)) (c_2 (n:=1) g_4 rfl c8) ⟨c_n (c_n kB s7.one (fun k hk=>by have:=List.mem_singleton.1 hk;omega)) s8.one (fun k hk=>by have:=List.mem_singleton.1 hk;omega),?_⟩ a' ha'
    exact ⟨a,m,c,_,rfl,(kS.chg s7 (fun k hk=>by have:=List.mem_singleton.1 hk;omega)).chg s8 (fun k hk=>by have:=List.mem_singleton.1 hk;omega),(by simp),fun k hk=>by have:=List.mem_singleton.1 hk;omega⟩
  replace hm:=ifF hm hc;refine a_e<|WC.of_KC ?_
  -- the first byte
  refine a_i<|a_i<|a_H ?_;refine R rfl (b_7 rfl) ?_;obtain ⟨x13,e13,hm⟩:=bdS hm;refine R rfl (c_o d_9 rfl rfl (a_A e13).1 (a_A e13).2.1) ?_;refine R rfl (g_a rfl rfl) ?_;refine a_l<|WC.of_KC ?_;refine c_b rfl (fun hc=>?_)<|fun hc=>?_
  · obtain rfl:=som (ifT hm hc)
    refine a_i<|a_H ?_;refine R rfl (b_H a_J rfl (fun h=>h)<|c6.at rfl) ?_;refine E0 (a_X (cur':=[.slice a m c]) c_H rfl rfl k4 rfl (Nat.le_of_ble_eq_true rfl) (b_4 rfl) rfl) ?_;rintro _ w7 ⟨c7,s7⟩;refine E0 (a_X (cur':=[vB false]) z_4 rfl rfl (k5.chg s7 (by omega)) rfl (Nat.le_of_ble_eq_true rfl) (b_4 rfl) rfl) ?_;rintro _ w8 ⟨c8,s8⟩;refine a_l<|WC.of_KC ?_;refine c_L fun a' ha'=>retM<|Y_ hr (c_2 (n:=1) a_J rfl<|c7.chg s8 (by omega)) (c_2 (n:=1) g_4 rfl c8) ⟨c_n (c_n kB s7.one (fun k hk=>by have:=List.mem_singleton.1 hk;omega)) s8.one (fun k hk=>by have:=List.mem_singleton.1 hk;omega),?_⟩ a' ha'
    exact ⟨a,m,c,_,rfl,(kS.chg s7 (fun k hk=>by have:=List.mem_singleton.1 hk;omega)).chg s8 (fun k hk=>by have:=List.mem_singleton.1 hk;omega),(by simp),fun k hk=>by have:=List.mem_singleton.1 hk;omega⟩
  replace hm:=ifF hm hc;refine a_e<|WC.of_KC ?_;obtain ⟨l0,hsp,hm⟩:=bdS hm;obtain ⟨parts,hsl,hm⟩:=bdS hm;obtain ⟨oks,hok,hm⟩:=bdS hm
  split at hm
  case isFalse=>cases hm
  rename_i hlim
  obtain rfl:=som hm;obtain ⟨hacc,hall⟩:=m_R hok
  -- the loop
  refine a_i<|a_i<|a_H ?_;refine R rfl (b_7 rfl) ?_;refine E rfl (e_y Tryz.call196 rfl v_2) ?_;rintro _ w7 ⟨rfl,bp,s7⟩;refine a_l<|WC.of_KC ?_;replace k3:=k3.ext s7;replace k4:=k4.ext s7;replace k5:=k5.ext s7;replace c6:=c6.ext s7;replace kS:=kS.ext s7;replace kB:=bup kB<|s7.mono<|Nat.le_refl _;have z7:=s7.size
  have hrow:∀g,c_9 w7 w4.heap.size g->g<w7.heap.size:=fun g hg=>by
    have h1:=m_Q c6 hg;exact kS.lt _<|(h_J kS).2 g 0 none h1
  generalize w1.heap.size=q4 at *
  generalize w2.heap.size=q5 at *
  generalize w4.heap.size=q6 at *
  refine q_f (α:={x:Str // x∈parts/\x.b.length<=LEN}) (f:=fun x=>x.1) (gf:=246) (lb:=[pt w6.heap.size]) (b:=q6) (M:=parts.length) (S:=fun xs=>xs.map (·.1)=parts) (Sp:=fun _=>True) rfl Tryz.call246 rfl rfl (by omega)
    (v_0 p1_0 hsp hsl bp (by omega) hrow)
    (fun pre W=>(∀x∈pre,(f_M n x.1).getD false=true)/\(∃(a:Option Addr)(m c:Nat)(S:List Nat),Blk W q6 [.slice a m c]/\a_ W S (sl a m c) (pre.map (·.1))/\S.Nodup/\(∀k∈S,q5<k/\k ≠ q6))/\Blk W w0.heap.size [.func (.func 175) #[] #[]]/\Blk W q4 [.slice none 0 0]/\Blk W q5 [vB false]/\Below w0.heap.size w0 W)
    (fun pre W=>(∃x∈pre,(f_M n x.1).getD false=false)/\(∃(a:Option Addr)(m c:Nat)(S:List Nat),Blk W q4 [.slice a m c]/\a_ W S (sl a m c) ([]:List Str)/\S.Nodup/\(∀k∈S,w0.heap.size<=k))/\Blk W q5 [vB false]/\Below w0.heap.size w0 W)
    ?_ ?_ ?_ ?_ ?_ ?_
  · rintro pre W W' row ⟨h1,⟨a,m,c,S,h2,h3,h4,h5⟩,h6,h7,h8,h9⟩ hg hr
    have hr':=fun r e=>(hr r e).2
    exact ⟨h1,⟨a,m,c,S,h2.grown hg hr',k_I h3 hg hr',h4,h5⟩,h6.grown hg hr',h7.grown hg hr',h8.grown hg hr',q_2 h9 hg fun r e=>Nat.le_trans (by omega) (hr r e).1⟩
  · rintro pre W W' row ⟨h1,⟨a,m,c,S,h2,h3,h4,h5⟩,h8,h9⟩ hg hr
    have hr':=fun r e=>(hr r e).2
    exact ⟨h1,⟨a,m,c,S,h2.grown hg hr',k_I h3 hg hr',h4,h5⟩,h8.grown hg hr',q_2 h9 hg fun r e=>Nat.le_trans (by omega) (hr r e).1⟩
  · exact ⟨fun x hx=>(by cases hx),⟨a,m,c,_,c6,kS,(by simp),fun k hk=>by have:=List.mem_singleton.1 hk;omega⟩,k3,k4,k5,kB⟩
  · rintro l pre ⟨x,hx,hxl⟩ W ⟨h1,⟨a,m,c,S,h2,h3,h4,h5⟩,h6,h7,h8,h9⟩ hlt
    refine q_a<|g_v<|g_v<|g_u rfl (fun _ _ h=>by cases h.1) ?_;refine R rfl (b_H g_157 rfl (fun h=>h)<|h6.at rfl) ?_;refine R rfl (b_7 rfl) ?_;refine E rfl (h_7 (caps:=[]) Tryz.call175 rfl rfl<|W_w46 (hacc x hx) zr hxl) ?_;rintro _ W1 ⟨s1,rfl⟩;refine R rfl (d_G rfl) ?_;refine a_l<|WCI.of_KC ?_;have y1:=s1.size;have hq6:=h2.lt;have hw0.heap.size:=h6.lt;have hq4:=h7.lt;have hq5:=h8.lt;refine q_7 rfl (fun hc=>?_)<|fun hc=>?_
    · refine g_v (g_u rfl (fun _ _ h=>by cases h.1) ?_)
      refine E rfl (e_z (α:=Str) b_q) ?_;rintro _ W2 ⟨a2,m2,c2,rfl,s2,ho2⟩;refine E0 (a_X (cur':=[.slice a2 m2 c2]) c_H rfl rfl ((h7.ext s1).ext s2) rfl (Nat.le_of_ble_eq_true rfl) (b_4 rfl) rfl) ?_;rintro _ W3 ⟨c3,s3⟩;refine E0 (a_X (cur':=[vB false]) z_4 rfl rfl (((h8.ext s1).ext s2).chg s3 (by omega)) rfl (Nat.le_of_ble_eq_true rfl) (b_4 rfl) rfl) ?_;rintro _ W4 ⟨c4,s4⟩;refine a_l<|WCI.of_KC ?_;have hW:Below W.heap.size W W2:=bup s1 s2
      have hc4:Chg (fun k=>k=q4∨k=q5) W W4:=by
        have e1:Chg (fun k=>k=q4∨k=q5) W W2:=(Chg.refl _ W).ext hW;refine (e1.comp s3 fun k _ hk=>.inl hk).comp s4 fun k _ hk=>.inr hk
      refine q_9 fun a' ha'=>⟨rfl,k_H hc4 fun k _ hk=>?_,⟨⟨x,hx,hxl⟩,by simp,by simpa using hc⟩,⟨a2,m2,c2,_,c3.chg s4 (by omega),(ho2.chg s3 fun k hk=>by have:=List.mem_singleton.1 hk;omega).chg s4 fun k hk=>by have:=List.mem_singleton.1 hk;omega,(by simp),fun k hk=>by have:=List.mem_singleton.1 hk;omega⟩,c4,?_⟩
      · rcases hk with rfl | rfl
        · exact ⟨_,h7⟩
        · exact ⟨_,h8⟩
      · exact c_c h9 hc4 fun k hk hm=>by rcases hm with rfl | rfl <;> omega
    · refine q_8 (WCI.of_KC ?_)
      refine g_u rfl (fun _ _ h=>by cases h.1) ?_
      have hpsh:psh (pre.map (·.1)) x=some (pre.map (·.1)++[x]):=by
        unfold psh
        rw [if_pos (by rw [List.length_map];omega)]
      refine R rfl (b_H a_J rfl (fun h=>h)<|(h2.ext s1).at rfl) ?_;refine R rfl (b_7 rfl) ?_;refine E rfl (f_S [(.tmp 25)] b_q rfl rfl rfl (a_z rfl) (Nat.le_of_ble_eq_true rfl)<|Nat.le_of_ble_eq_true rfl) ?_;rintro _ W2 ⟨rfl,hb⟩;have s2:=hb.below;have y2:=s2.size;refine E rfl (b_d (α:=Str) b_q hpsh rfl rfl ((h3.ext s1).ext s2) h4 hb.blk (c_y hxl) all_nil H_) ?_;rintro _ W3 ⟨S',a',n',c',rfl,s3,ho3,nd3,hs3⟩;have y3:=s3.size
      have n3:∀k,k<W.heap.size->k<=q5∨k=q6->k∉S':=fun k hk hq hm=>by
        rcases hs3 k hm with h | h | h
        · have:=h5 k h;omega
        · cases h
        · omega
      refine E0 (a_X (cur':=[.slice a' n' c']) c_H rfl rfl (((h2.ext s1).ext s2).chg s3 (fun hm=>(h5 _ hm).2 rfl)) rfl (Nat.le_of_ble_eq_true rfl) (b_4 rfl) rfl) ?_;rintro _ W4 ⟨c4,s4⟩;have hW:Below W.heap.size W W2:=bup s1 s2
      have hc4:Chg (fun k=>k=q6∨k∈S) W W4:=by
        have e1:Chg (fun k=>k=q6∨k∈S) W W2:=(Chg.refl _ W).ext hW;refine (e1.comp s3 fun k _ hk=>.inr hk).comp s4 fun k _ hk=>.inl hk
      have ho4:a_ W4 S' (sl a' n' c') (pre.map (·.1)++[x]):=ho3.chg s4 fun k hk he=>n3 q6 hq6 (.inr rfl)<|he ▸ hk
      have hs4:∀k∈S',k∈S∨W.heap.size<=k:=fun k hk=>by
        rcases hs3 k hk with h | h | h
        · exact .inl h
        · cases h
        · exact .inr (by omega)
      have k4:∀k,k<=q5->¬(k=q6∨k∈S):=fun k hk hm=>by
        rcases hm with rfl | hm
        · omega
        · have:=h5 k hm;omega
      refine a_l fun a'' ha''=>⟨k_H hc4 fun k _ hk=>?_,KpS.of_chg h2 h3 c4 ho4 hs4 hc4,fun y hy=>?_,⟨a',n',c',S',c4,by simpa using ho4,nd3,fun k hk=>?_⟩,h6.chg hc4<|k4 _ (by omega),h7.chg hc4<|k4 _ (by omega),h8.chg hc4<|k4 _ (by omega),c_c h9 hc4 fun k hk hm=>k4 k (by omega) hm⟩
      · rcases hk with rfl | hk
        · exact ⟨_,h2⟩
        · exact d_Z h3 k hk
      · rcases List.mem_append.1 hy with hy | hy
        · exact h1 y hy
        · obtain rfl:=List.mem_singleton.1 hy
          simpa using hc
      · rcases hs4 k hk with h | h
        · exact h5 k h
        · omega
  · rintro D xs W hD hxs ⟨h1,⟨a,m,c,S,h2,h3,h4,h5⟩,h6,h7,h8,h9⟩ hdef a0 ha0
    have hw0.heap.size:=h6.lt;have hq4:=h7.lt;have hq5:=h8.lt;refine tailD ?_ ha0;refine R rfl (b_H a_J rfl (fun h=>h)<|h2.at rfl) ?_;refine E0 (a_X (cur':=[.slice a m c]) c_H rfl rfl h7 rfl (Nat.le_of_ble_eq_true rfl) (b_4 rfl) rfl) ?_;rintro _ W1 ⟨c7,s7⟩;refine E0 (a_X (cur':=[vB true]) z_4 rfl rfl (h8.chg s7 (by omega)) rfl (Nat.le_of_ble_eq_true rfl) (b_4 rfl) rfl) ?_;rintro _ W2 ⟨c8,s8⟩;have hDlt:=(Array.getElem?_eq_some_iff.1 hdef).1;have hdef2:W2.heap[D]? = some (.deferred<|some []):=((s8.block D (Nat.lt_of_lt_of_le hDlt s7.size) (by omega)).trans (s7.block D hDlt (by omega))).trans hdef
    have hDS:∀k∈S,k ≠ D:=fun k hk e=>by
      obtain ⟨cur,hB⟩:=d_Z h3 k hk;have:=(e ▸ hB).isCells hdef
      cases this
    have hoks:oks.all id=true:=hall.2 fun y hy=>by
      rw [← hxs] at hy
      obtain ⟨z,hz,rfl⟩:=List.mem_map.1 hy;exact h1 z hz
    rw [if_pos hoks]
    refine a_l fun a' ha'=>⟨ha'.defers,hdef2,?_⟩
    have hp:=k_G W2 D<|.deferred none;obtain ⟨_,v,e1,e2⟩:=Y_ (R:=Q36 w0 B (parts,true)) hr (c_2 (n:=1) a_J rfl<|(c7.chg s8 (by omega)).chg hp (by omega)) (c_2 (n:=1) g_4 rfl<|c8.chg hp (by omega)) ⟨c_c (c_c (c_c h9 s7 fun k hk e=>by omega) s8 fun k hk e=>by omega) hp fun k hk e=>by omega,a,m,c,S,rfl,((hxs ▸ h3).chg s7 fun k hk e=>by have:=h5 k hk;omega).chg s8 (fun k hk e=>by have:=h5 k hk;omega) |>.chg hp fun k hk e=>hDS k hk e,h4,fun k hk=>by have:=h5 k hk;omega⟩ a' ha';exact ⟨v,e1,e2⟩
  · rintro D pre W hD _ ⟨⟨⟨x,hx,hxl⟩,hxm,hxb⟩,⟨a,m,c,S,h2,h3,h4,h5⟩,h8,h9⟩ hdef a0 ha0
    have hq4:=h2.lt;have hq5:=h8.lt
    have hDS:∀k∈S,k ≠ D:=fun k hk e=>by
      obtain ⟨cur,hB⟩:=d_Z h3 k hk;have:=(e ▸ hB).isCells hdef
      cases this
    have hoks:¬oks.all id=true:=fun h=>by
      have:=hall.1 h x hx
      rw [this] at hxb;cases hxb
    rw [if_neg hoks]
    have hp:=k_G W D<|.deferred none;obtain ⟨_,v,e1,e2⟩:=Y_ (R:=Q36 w0 B ([],false)) hr (c_2 (n:=1) a_J rfl<|h2.chg hp (by omega)) (c_2 (n:=1) g_4 rfl<|h8.chg hp (by omega)) ⟨c_c h9 hp fun k hk e=>by omega,a,m,c,S,rfl,h3.chg hp fun k hk e=>hDS k hk e,h4,h5⟩ a0 ha0;exact retD ha0.defers hdef e1 e2
def Q37 (w0:World)(B:Zone)(r:(List Str)×Bool)(v:Value)(w':World):Prop:=Bw w0 w'/\un2 (fun I J=>∃h G H S1,v = .tuple #[sl h G H,vB J]/\a_ w' S1 (sl h G H) I/\S1.Nodup/\(∀k∈S1,w0.z<=k)) r
theorem W_w48 {x1:Str}{res:(List Str)×Bool}(hm:i_F n x1=some res)(hBw:B<=w0.z)(p1_0:x1.b.length<=LEN):h_ prog 136 [Str.v x1] w0 (Q37 w0 B res):=by
 unfold i_F at hm
 refine goF func136 z z (lb z) fun fn hr=>Ws<|Ra z<|Rw z<|Wm z ?_
 obtain ⟨_,_,G,h⟩:=a_k hm;refine E z (fc call166 z<|W_w47 (B:=B) G hBw p1_0) ?_;rintro _ _ ⟨s2,H,I,J,L,rfl,O,V,W⟩;refine Re z z z<|Re z z z<|Ra z<|Rw z ?_
 obtain rfl:=som h;exact Wr<|Y_ hr z z ⟨s2,H,I,J,L,z,O,V,W⟩
def Q38 (w0:World)(B:Zone)(r:(List Str)×Bool)(v:Value)(w':World):Prop:=Bw w0 w'/\un2 (fun I J=>∃(h:Option Addr)(G H:Nat)(S1:List Nat),v = .tuple #[(sl h G H),(vB J)]/\a_ w' S1 (sl h G H) I/\S1.Nodup/\(∀k∈S1,w0.heap.size<=k)) r
theorem v_3 {w:World}{gp b:Nat}{s:Str}{l0 parts:List Str}(hs:s.b.length<=LEN)(hm:f_0 s (47:UInt8)=some l0)(hsl:slc l0 1 (l0.length:Int)=some parts)(hp:Blk w gp [Str.v s])(hb:b<w.heap.size)(hrow:∀g,c_9 w b g->g<w.heap.size) :
    SeqStopsK (α:={x:Str // x∈parts/\x.b.length<=LEN}) Fence.wide 1 Tryz.prog 246 [pt gp].toArray (fun x=>#[x.1.v]) (KpS b) (fun xs=>xs.map (·.1)=parts) (fun _=>True) parts.length w:=by
  intro l J Jx W hW hJ hJx hY h0;have hpW:=hp.ext hW
  have hrowW:∀g,c_9 W b g->g<W.heap.size:=fun g ⟨n,c,h⟩=>by
    have h':w.cell? ⟨b,0,none⟩=some (sl (some ⟨g,0,none⟩) n c):=(World.cell?_of_block (w:=w) (w':=W) (a:=⟨b,0,none⟩)<|hW.block b hb).symm.trans h;exact Nat.lt_of_lt_of_le (hrow g ⟨n,c,h'⟩) hW.size
  have hbW:=Nat.lt_of_lt_of_le hb hW.size
  have hc:h_ Tryz.prog 246 [.func (.yield l) #[] #[],pt gp] W (fun _ W'=>(∃xs:List {x:Str // x∈parts/\x.b.length<=LEN},xs.map (·.1)=parts/\J xs W')∨(∃pre,True/\Jx pre W')):=by
    obtain ⟨fn,hf,hbd,hN,hr⟩:=fnE Tryz.func246;refine h_g hf (hbd.trans rfl) (hN.trans rfl) (Nat.le_of_ble_eq_true rfl) ?_;refine a_i<|a_H ?_;refine R rfl (b_H g_9 rfl (fun h=>h)<|hpW.at rfl) ?_;refine E rfl (e_y Tryz.call247 rfl<|W_w1y (B:=W.heap.size) hm zr hs) ?_;rintro _ W1 ⟨s1,a1,n1,c1,S1,rfl,ho,nd,hge⟩;refine RX rfl (q_g G_ z_9 rfl ho rfl rfl hsl) ?_;intro v7 hv7;obtain ⟨ao7,c7,rfl,_⟩:=id hv7;refine R rfl (f_V G_ rfl<|hv7.repS (B:=W1.heap.size)<|fun k hk=>ho.lt k hk) ?_;refine R rfl (b_7 rfl) ?_;refine a_l<|WC.of_KC ?_;have hJ1:J [] W1:=hJ [] W W1 none h0 (Below.grows s1) (fun r h=>by cases h);have hb1:b∉S1:=fun h=>absurd (hge b h)<|Nat.not_le.2 hbW
    have hr1:∀g,c_9 W1 b g->g∉S1:=fun g ⟨n,c,h⟩ hg=>by
      have h':W.cell? ⟨b,0,none⟩=some (sl (some ⟨g,0,none⟩) n c):=(World.cell?_of_block (w:=W) (w':=W1) (a:=⟨b,0,none⟩)<|s1.block b hbW).symm.trans h;exact absurd (hge g hg)<|Nat.not_le.2<|hrowW g ⟨n,c,h'⟩
    have hlenL:parts.length<=9223372036854775807:=Nat.le_trans (by obtain ⟨_,_,_,_,h,_⟩:=hv7;exact h) A_;refine d_h fun a ha=>?_
    refine Code.wp_mono (Q:=Exit.then noK<|fun ex a w=>(ex = .exit 0/\w_ Tryz.prog fn (fun _ W'=>(∃xs:List {x:Str // x∈parts/\x.b.length<=LEN},xs.map (·.1)=parts/\J xs W')∨(∃pre,True/\Jx pre W')) a w)∨(ex = .ret/\w_ Tryz.prog fn (fun _ W'=>(∃xs:List {x:Str // x∈parts/\x.b.length<=LEN},xs.map (·.1)=parts/\J xs W')∨(∃pre,True/\Jx pre W')) a w)) (fun ex a' w' q=>?_)<|wp_loop_ghost (fun m a w=>∃(k:Nat)(pre:List {x:Str // x∈parts/\x.b.length<=LEN}),k+m=parts.length/\pre.map (·.1)=parts.take k/\Sat 18 [(9,vI (k:Int)),(8,vI (parts.length:Int)),(7,sl ao7 parts.length c7),(0,.func (.yield l) #[] #[])] a/\J pre w/\a_ w S1 (sl a1 n1 c1) l0/\(∀g,c_9 w b g->g∉S1)/\d_x w (· ∈ S1) (sl ao7 parts.length c7) parts) parts.length ?_ ?_
    · cases ex with
      | normal=>exact (show False from q).elim
      | exit i =>
        rcases q with ⟨h,q⟩ | ⟨h,_⟩
        · cases h;exact q
        · cases h
      | ret =>
        rcases q with ⟨h,_⟩ | ⟨_,q⟩
        · cases h
        · exact q
      | _=>rcases q with ⟨h,_⟩ | ⟨h,_⟩ <;> cases h
    · exact ⟨0,[],by omega,by simp,ha.weaken<|sc rfl<|sc rfl<|sc rfl<|sc rfl sn,hJ1,ho,hr1,hv7⟩
    · rintro m a w ⟨k,pre,hkm,hpre,hsat,hJw,how,hrw,hvw⟩
      refine g_2 (N:=18) (e:=[(9,vI (k:Int)),(8,vI (parts.length:Int)),(7,sl ao7 parts.length c7),(0,.func (.yield l) #[] #[])]) ?_ hsat;refine a_i<|a_H<|R rfl (f_i rfl rfl)<|a_l<|WC.of_KC ?_;refine a_i<|c_b rfl (fun hc=>?_)<|fun hc=>?_
      · have hk:k<parts.length:=by simpa using hc
        obtain ⟨m,rfl⟩:∃m',m=m'+1:=⟨m - 1,by omega⟩;refine a_e<|WC.of_KC ?_;refine a_i<|d_h ?_;refine a_i<|a_H ?_;have hrep:=hvw.repS (B:=w.heap.size)<|fun k hk=>how.lt k hk;have hidx:idx parts (k:Int)=some parts[k]:=by rw [l_d];simp [hk]
        refine RX rfl (f_W (α:=Str) G_ z_9 rfl rfl rfl hrep hidx) ?_;rintro _ ⟨bb,oo,cs,rfl,hc1,hrr,hlt⟩;obtain ⟨rfl,hxl⟩:=a_r hrr;refine R rfl (b_H g_9 rfl (fun h=>h)<|hc1.at0 rfl) ?_;refine R rfl (c_S rfl) ?_;refine a_l<|WC.of_KC ?_;refine a_i<|q_b ?_;refine e_X rfl (b_7 rfl) ?_;refine e_X rfl (b_7 rfl) ?_
        have hpl:pre.length=k:=by
          have:=congrArg List.length hpre
          simp at this;omega
        refine q_c (S:=fun v w'=>(v=vB true/\J (pre++[⟨parts[k],List.getElem_mem hk,hxl⟩]) w'/\KpS b w w')∨(v=vB false/\Jx (pre++[⟨parts[k],List.getElem_mem hk,hxl⟩]) w')) rfl rfl rfl (hY pre ⟨parts[k],List.getElem_mem hk,hxl⟩ w hJw (by omega)) (fun e w' h=>?_) ?_
        · rcases h with ⟨rfl,h⟩ | ⟨rfl,h⟩
          · exact ⟨_,rfl,.inl ⟨rfl,h⟩⟩
          · exact ⟨_,rfl,.inr ⟨rfl,h⟩⟩
        rintro v w' (⟨rfl,hJ',hK⟩ | ⟨rfl,hX⟩)
        · refine e_X rfl (d_G rfl) ?_
          refine k_E<|WC.of_KC ?_;refine c_b rfl (fun h=>by cases h)<|fun _=>?_;refine a_e<|WC.of_KC ?_;refine a_H<|R rfl (f_U hk hlenL rfl rfl)<|R rfl (b_7 rfl) ?_;obtain ⟨ho',hr'⟩:=hK.own how hb1 hrw
          have hv':d_x w' (· ∈ S1) (sl ao7 parts.length c7) parts:=hvw.stay fun g hg=>hK.chg.block g (how.lt g hg) fun hm=>by
            rcases hm with rfl | hm | ⟨o,ho2,hcl⟩
            · exact hb1 hg
            · exact hrw g hm hg
            · obtain ⟨cur,hB⟩:=d_Z how g hg
              rw [hB.isCells ho2] at hcl;cases hcl
          refine a_l fun a' ha'=>⟨m,Nat.lt_succ_self _,k+1,pre++[⟨parts[k],List.getElem_mem hk,hxl⟩],by omega,?_,ha'.weaken<|sc rfl<|sc rfl<|sc rfl<|sc rfl sn,hJ',ho',hr',hv'⟩
          rw [List.map_append,hpre,List.take_add_one,List.getElem?_eq_getElem hk];rfl
        · refine e_X rfl (d_G rfl) ?_
          refine k_E<|WC.of_KC ?_;refine c_b rfl (fun _=>?_) (fun h=>by cases h);exact c_L<|rtO fun a' ha'=>.inr ⟨rfl,ret0 hr (.inr ⟨_,trivial,hX⟩) a' ha'⟩
      · have hk:¬k<parts.length:=by simpa using hc
        have:k=parts.length:=by omega
        subst this;refine f_Q fun a' ha'=>.inl ⟨rfl,ret0 hr (.inl ⟨pre,?_,hJw⟩) a' ha'⟩
        rw [hpre,List.take_length]
  refine callsIn_wide.2<|hc.run.mono fun e w' ⟨v,he,h⟩=>⟨⟨v,he⟩,h⟩
theorem q_3 {w0 W W':World}{row:Option Nat}(h:Below w0.heap.size w0 W)(hg:W.grownBy W' row)(hr:∀r,row=some r->w0.heap.size<=r):Below w0.heap.size w0 W':=c_c h (k_F hg) fun k hk e=>absurd (hr k e)<|Nat.not_le.2 hk
def v_4 (w0:World)(s:Str)(v:Value)(w':World):Prop:=v = .func (.func 246) #[] #[pt w0.heap.size]/\Blk w' w0.heap.size [Str.v s]/\Bw w0 w'
theorem v_5 {w0:World}{s:Str}:h_ Tryz.prog 196 [Str.v s] w0 (v_4 w0 s):=by
  obtain ⟨_,hf,hb,hN,hr⟩:=fnE Tryz.func196;refine h_g hf (hb.trans rfl) (hN.trans rfl) (Nat.le_of_ble_eq_true rfl) ?_;refine a_i<|a_H ?_;refine E rfl (e_x rfl) ?_;rintro _ h ⟨rfl,h1⟩;refine R rfl (c_S rfl) ?_;refine a_l<|WC.of_KC ?_;refine a_i<|a_H ?_;refine R rfl (j_e rfl) ?_;refine R rfl (c_S rfl) ?_;refine a_l<|WC.of_KC ?_;exact c_L<|c_ hr rfl ⟨rfl,(h1.blk:Blk h w0.heap.size [Str.v s]),h1.below⟩
theorem W_w49 {n:Nat}{B:Zone}{x1:Str}{res:(List Str)×Bool}{w0:World}(hm:k_N n x1=some res)(hBw:B<=w0.heap.size)(p1_0:x1.b.length<=LEN):h_ Tryz.prog 166 [(Str.v x1),.func (.func 167) #[] #[]] w0 (Q38 w0 B res):=by
  unfold k_N at hm
  obtain ⟨fn,hf,hb,hN,hr⟩:=fnE Tryz.func166;refine q_e hf (hb.trans rfl) (hN.trans rfl) (Nat.le_of_ble_eq_true rfl) ?_
  -- the cells
  refine a_i<|a_H ?_;refine E rfl (e_x rfl) ?_;rintro _ w1 ⟨rfl,h1⟩;have b3:Blk w1 w0.heap.size [.func (.func 167) #[] #[]]:=h1.blk;refine E rfl (d_D k_t) ?_;rintro _ w2 ⟨rfl,h2⟩;have b4:Blk w2 w1.heap.size [.slice none 0 0]:=h2.blk;refine E rfl (d_D p_S) ?_;rintro _ w3 ⟨rfl,h3⟩;have b5:Blk w3 w2.heap.size [vB false]:=h3.blk;refine a_l<|WC.of_KC ?_;refine a_i<|a_H ?_;refine E rfl (e_z (α:=Str) b_q) ?_;rintro _ w4 ⟨a,m,c,rfl,s4,ho4⟩;refine E rfl (d_D k_t) ?_;rintro _ w5 ⟨rfl,h5⟩;have b6:Blk w5 w4.heap.size [.slice none 0 0]:=h5.blk;refine E0 (a_X (cur':=[.slice a m c]) c_H rfl rfl b6 rfl (Nat.le_of_ble_eq_true rfl) (b_4 rfl) rfl) ?_;rintro _ w6 ⟨c6,s6⟩;have t6:=s6.one;refine a_l<|WC.of_KC ?_
  -- what is known behind
  have g1:=h1.below;have g2:=h2.below;have g3:=h3.below;have g5:=h5.below;have z1:=h1.size;have z2:=h2.size;have z3:=h3.size;have z5:=h5.size;have z4:=s4.size;have z6:=s6.size
  have hz:w0.heap.size<w1.heap.size/\w1.heap.size<w2.heap.size/\w2.heap.size<w3.heap.size/\w3.heap.size<w4.heap.size/\w4.heap.size<w6.heap.size:=by
    have:=ho4.lt _ List.mem_cons_self
    omega
  have k3:Blk w6 w0.heap.size [.func (.func 167) #[] #[]]:=((((b3.ext g2).ext g3).ext s4).ext g5).chg s6 (by omega);have k4:Blk w6 w1.heap.size [.slice none 0 0]:=(((b4.ext g3).ext s4).ext g5).chg s6 (by omega);have k5:Blk w6 w2.heap.size [vB false]:=((b5.ext s4).ext g5).chg s6 (by omega);have kS:a_ w6 [w3.heap.size] (sl a m c) ([]:List Str):=(ho4.ext g5).chg s6 (fun k hk=>by have:=List.mem_singleton.1 hk;omega);have kB:Below w0.heap.size w0 w6:=c_n (bup (bup (bup (bup g1 g2) g3) s4) g5) t6 (fun k hk=>by have:=List.mem_singleton.1 hk;omega)
  clear b3 b4 b5 b6 ho4 h1 h2 h3 h5 s4 s6 t6 g1 g2 g3 g5 z1 z2 z3 z4 z5 z6
  -- the first look
  refine a_i<|a_i<|a_H ?_;refine R rfl (b_7 rfl) ?_;refine R rfl (a_R rfl rfl) ?_;refine a_l<|WC.of_KC ?_;refine c_b rfl (fun hc=>?_)<|fun hc=>?_
  · obtain rfl:=som (ifT hm hc)
    refine a_i<|a_H ?_;refine R rfl (b_H a_J rfl (fun h=>h)<|c6.at rfl) ?_;refine E0 (a_X (cur':=[.slice a m c]) c_H rfl rfl k4 rfl (Nat.le_of_ble_eq_true rfl) (b_4 rfl) rfl) ?_;rintro _ w7 ⟨c7,s7⟩;refine E0 (a_X (cur':=[vB true]) z_4 rfl rfl (k5.chg s7 (by omega)) rfl (Nat.le_of_ble_eq_true rfl) (b_4 rfl) rfl) ?_;rintro _ w8 ⟨c8,s8⟩;refine a_l<|WC.of_KC ?_;refine c_L fun a' ha'=>retM<|Y_ hr (c_2 (n:=1) a_J rfl<|c7.chg s8 (by omega)) (c_2 (n:=1) g_4 rfl c8) ⟨c_n (c_n kB s7.one (fun k hk=>by have:=List.mem_singleton.1 hk;omega)) s8.one (fun k hk=>by have:=List.mem_singleton.1 hk;omega),?_⟩ a' ha'
    exact ⟨a,m,c,_,rfl,(kS.chg s7 (fun k hk=>by have:=List.mem_singleton.1 hk;omega)).chg s8 (fun k hk=>by have:=List.mem_singleton.1 hk;omega),(by simp),fun k hk=>by have:=List.mem_singleton.1 hk;omega⟩
  replace hm:=ifF hm hc;refine a_e<|WC.of_KC ?_
  -- the first byte
  refine a_i<|a_i<|a_H ?_;refine R rfl (b_7 rfl) ?_;obtain ⟨x13,e13,hm⟩:=bdS hm;refine R rfl (c_o d_9 rfl rfl (a_A e13).1 (a_A e13).2.1) ?_;refine R rfl (g_a rfl rfl) ?_;refine a_l<|WC.of_KC ?_;refine c_b rfl (fun hc=>?_)<|fun hc=>?_
  · obtain rfl:=som (ifT hm hc)
    refine a_i<|a_H ?_;refine R rfl (b_H a_J rfl (fun h=>h)<|c6.at rfl) ?_;refine E0 (a_X (cur':=[.slice a m c]) c_H rfl rfl k4 rfl (Nat.le_of_ble_eq_true rfl) (b_4 rfl) rfl) ?_;rintro _ w7 ⟨c7,s7⟩;refine E0 (a_X (cur':=[vB false]) z_4 rfl rfl (k5.chg s7 (by omega)) rfl (Nat.le_of_ble_eq_true rfl) (b_4 rfl) rfl) ?_;rintro _ w8 ⟨c8,s8⟩;refine a_l<|WC.of_KC ?_;refine c_L fun a' ha'=>retM<|Y_ hr (c_2 (n:=1) a_J rfl<|c7.chg s8 (by omega)) (c_2 (n:=1) g_4 rfl c8) ⟨c_n (c_n kB s7.one (fun k hk=>by have:=List.mem_singleton.1 hk;omega)) s8.one (fun k hk=>by have:=List.mem_singleton.1 hk;omega),?_⟩ a' ha'
    exact ⟨a,m,c,_,rfl,(kS.chg s7 (fun k hk=>by have:=List.mem_singleton.1 hk;omega)).chg s8 (fun k hk=>by have:=List.mem_singleton.1 hk;omega),(by simp),fun k hk=>by have:=List.mem_singleton.1 hk;omega⟩
  replace hm:=ifF hm hc;refine a_e<|WC.of_KC ?_;obtain ⟨l0,hsp,hm⟩:=bdS hm;obtain ⟨parts,hsl,hm⟩:=bdS hm;obtain ⟨oks,hok,hm⟩:=bdS hm
  split at hm
  case isFalse=>cases hm
  rename_i hlim
  obtain rfl:=som hm;obtain ⟨hacc,hall⟩:=m_R hok
  -- the loop
  refine a_i<|a_i<|a_H ?_;refine R rfl (b_7 rfl) ?_;refine E rfl (e_y Tryz.call196 rfl v_5) ?_;rintro _ w7 ⟨rfl,bp,s7⟩;refine a_l<|WC.of_KC ?_;replace k3:=k3.ext s7;replace k4:=k4.ext s7;replace k5:=k5.ext s7;replace c6:=c6.ext s7;replace kS:=kS.ext s7;replace kB:=bup kB<|s7.mono<|Nat.le_refl _;have z7:=s7.size
  have hrow:∀g,c_9 w7 w4.heap.size g->g<w7.heap.size:=fun g hg=>by
    have h1:=m_Q c6 hg;exact kS.lt _<|(h_J kS).2 g 0 none h1
  generalize w1.heap.size=q4 at *
  generalize w2.heap.size=q5 at *
  generalize w4.heap.size=q6 at *
  refine q_f (α:={x:Str // x∈parts/\x.b.length<=LEN}) (f:=fun x=>x.1) (gf:=246) (lb:=[pt w6.heap.size]) (b:=q6) (M:=parts.length) (S:=fun xs=>xs.map (·.1)=parts) (Sp:=fun _=>True) rfl Tryz.call246 rfl rfl (by omega)
    (v_3 p1_0 hsp hsl bp (by omega) hrow)
    (fun pre W=>(∀x∈pre,(f_1 n x.1).getD false=true)/\(∃(a:Option Addr)(m c:Nat)(S:List Nat),Blk W q6 [.slice a m c]/\a_ W S (sl a m c) (pre.map (·.1))/\S.Nodup/\(∀k∈S,q5<k/\k ≠ q6))/\Blk W w0.heap.size [.func (.func 167) #[] #[]]/\Blk W q4 [.slice none 0 0]/\Blk W q5 [vB false]/\Below w0.heap.size w0 W)
    (fun pre W=>(∃x∈pre,(f_1 n x.1).getD false=false)/\(∃(a:Option Addr)(m c:Nat)(S:List Nat),Blk W q4 [.slice a m c]/\a_ W S (sl a m c) ([]:List Str)/\S.Nodup/\(∀k∈S,w0.heap.size<=k))/\Blk W q5 [vB false]/\Below w0.heap.size w0 W)
    ?_ ?_ ?_ ?_ ?_ ?_
  · rintro pre W W' row ⟨h1,⟨a,m,c,S,h2,h3,h4,h5⟩,h6,h7,h8,h9⟩ hg hr
    have hr':=fun r e=>(hr r e).2
    exact ⟨h1,⟨a,m,c,S,h2.grown hg hr',k_I h3 hg hr',h4,h5⟩,h6.grown hg hr',h7.grown hg hr',h8.grown hg hr',q_3 h9 hg fun r e=>Nat.le_trans (by omega) (hr r e).1⟩
  · rintro pre W W' row ⟨h1,⟨a,m,c,S,h2,h3,h4,h5⟩,h8,h9⟩ hg hr
    have hr':=fun r e=>(hr r e).2
    exact ⟨h1,⟨a,m,c,S,h2.grown hg hr',k_I h3 hg hr',h4,h5⟩,h8.grown hg hr',q_3 h9 hg fun r e=>Nat.le_trans (by omega) (hr r e).1⟩
  · exact ⟨fun x hx=>(by cases hx),⟨a,m,c,_,c6,kS,(by simp),fun k hk=>by have:=List.mem_singleton.1 hk;omega⟩,k3,k4,k5,kB⟩
  · rintro l pre ⟨x,hx,hxl⟩ W ⟨h1,⟨a,m,c,S,h2,h3,h4,h5⟩,h6,h7,h8,h9⟩ hlt
    refine q_a<|g_v<|g_v<|g_u rfl (fun _ _ h=>by cases h.1) ?_;refine R rfl (b_H g_157 rfl (fun h=>h)<|h6.at rfl) ?_;refine R rfl (b_7 rfl) ?_;refine E rfl (h_7 (caps:=[]) Tryz.call167 rfl rfl<|W_w20 (hacc x hx) zr hxl) ?_;rintro _ W1 ⟨s1,rfl⟩;refine R rfl (d_G rfl) ?_;refine a_l<|WCI.of_KC ?_;have y1:=s1.size;have hq6:=h2.lt;have hw0.heap.size:=h6.lt;have hq4:=h7.lt;have hq5:=h8.lt;refine q_7 rfl (fun hc=>?_)<|fun hc=>?_
    · refine g_v (g_u rfl (fun _ _ h=>by cases h.1) ?_)
      refine E rfl (e_z (α:=Str) b_q) ?_;rintro _ W2 ⟨a2,m2,c2,rfl,s2,ho2⟩;refine E0 (a_X (cur':=[.slice a2 m2 c2]) c_H rfl rfl ((h7.ext s1).ext s2) rfl (Nat.le_of_ble_eq_true rfl) (b_4 rfl) rfl) ?_;rintro _ W3 ⟨c3,s3⟩;refine E0 (a_X (cur':=[vB false]) z_4 rfl rfl (((h8.ext s1).ext s2).chg s3 (by omega)) rfl (Nat.le_of_ble_eq_true rfl) (b_4 rfl) rfl) ?_;rintro _ W4 ⟨c4,s4⟩;refine a_l<|WCI.of_KC ?_;have hW:Below W.heap.size W W2:=bup s1 s2
      have hc4:Chg (fun k=>k=q4∨k=q5) W W4:=by
        have e1:Chg (fun k=>k=q4∨k=q5) W W2:=(Chg.refl _ W).ext hW;refine (e1.comp s3 fun k _ hk=>.inl hk).comp s4 fun k _ hk=>.inr hk
      refine q_9 fun a' ha'=>⟨rfl,k_H hc4 fun k _ hk=>?_,⟨⟨x,hx,hxl⟩,by simp,by simpa using hc⟩,⟨a2,m2,c2,_,c3.chg s4 (by omega),(ho2.chg s3 fun k hk=>by have:=List.mem_singleton.1 hk;omega).chg s4 fun k hk=>by have:=List.mem_singleton.1 hk;omega,(by simp),fun k hk=>by have:=List.mem_singleton.1 hk;omega⟩,c4,?_⟩
      · rcases hk with rfl | rfl
        · exact ⟨_,h7⟩
        · exact ⟨_,h8⟩
      · exact c_c h9 hc4 fun k hk hm=>by rcases hm with rfl | rfl <;> omega
    · refine q_8 (WCI.of_KC ?_)
      refine g_u rfl (fun _ _ h=>by cases h.1) ?_
      have hpsh:psh (pre.map (·.1)) x=some (pre.map (·.1)++[x]):=by
        unfold psh
        rw [if_pos (by rw [List.length_map];omega)]
      refine R rfl (b_H a_J rfl (fun h=>h)<|(h2.ext s1).at rfl) ?_;refine R rfl (b_7 rfl) ?_;refine E rfl (f_S [(.tmp 25)] b_q rfl rfl rfl (a_z rfl) (Nat.le_of_ble_eq_true rfl)<|Nat.le_of_ble_eq_true rfl) ?_;rintro _ W2 ⟨rfl,hb⟩;have s2:=hb.below;have y2:=s2.size;refine E rfl (b_d (α:=Str) b_q hpsh rfl rfl ((h3.ext s1).ext s2) h4 hb.blk (c_y hxl) all_nil H_) ?_;rintro _ W3 ⟨S',a',n',c',rfl,s3,ho3,nd3,hs3⟩;have y3:=s3.size
      have n3:∀k,k<W.heap.size->k<=q5∨k=q6->k∉S':=fun k hk hq hm=>by
        rcases hs3 k hm with h | h | h
        · have:=h5 k h;omega
        · cases h
        · omega
      refine E0 (a_X (cur':=[.slice a' n' c']) c_H rfl rfl (((h2.ext s1).ext s2).chg s3 (fun hm=>(h5 _ hm).2 rfl)) rfl (Nat.le_of_ble_eq_true rfl) (b_4 rfl) rfl) ?_;rintro _ W4 ⟨c4,s4⟩;have hW:Below W.heap.size W W2:=bup s1 s2
      have hc4:Chg (fun k=>k=q6∨k∈S) W W4:=by
        have e1:Chg (fun k=>k=q6∨k∈S) W W2:=(Chg.refl _ W).ext hW;refine (e1.comp s3 fun k _ hk=>.inr hk).comp s4 fun k _ hk=>.inl hk
      have ho4:a_ W4 S' (sl a' n' c') (pre.map (·.1)++[x]):=ho3.chg s4 fun k hk he=>n3 q6 hq6 (.inr rfl)<|he ▸ hk
      have hs4:∀k∈S',k∈S∨W.heap.size<=k:=fun k hk=>by
        rcases hs3 k hk with h | h | h
        · exact .inl h
        · cases h
        · exact .inr (by omega)
      have k4:∀k,k<=q5->¬(k=q6∨k∈S):=fun k hk hm=>by
        rcases hm with rfl | hm
        · omega
        · have:=h5 k hm;omega
      refine a_l fun a'' ha''=>⟨k_H hc4 fun k _ hk=>?_,KpS.of_chg h2 h3 c4 ho4 hs4 hc4,fun y hy=>?_,⟨a',n',c',S',c4,by simpa using ho4,nd3,fun k hk=>?_⟩,h6.chg hc4<|k4 _ (by omega),h7.chg hc4<|k4 _ (by omega),h8.chg hc4<|k4 _ (by omega),c_c h9 hc4 fun k hk hm=>k4 k (by omega) hm⟩
      · rcases hk with rfl | hk
        · exact ⟨_,h2⟩
        · exact d_Z h3 k hk
      · rcases List.mem_append.1 hy with hy | hy
        · exact h1 y hy
        · obtain rfl:=List.mem_singleton.1 hy
          simpa using hc
      · rcases hs4 k hk with h | h
        · exact h5 k h
        · omega
  · rintro D xs W hD hxs ⟨h1,⟨a,m,c,S,h2,h3,h4,h5⟩,h6,h7,h8,h9⟩ hdef a0 ha0
    have hw0.heap.size:=h6.lt;have hq4:=h7.lt;have hq5:=h8.lt;refine tailD ?_ ha0;refine R rfl (b_H a_J rfl (fun h=>h)<|h2.at rfl) ?_;refine E0 (a_X (cur':=[.slice a m c]) c_H rfl rfl h7 rfl (Nat.le_of_ble_eq_true rfl) (b_4 rfl) rfl) ?_;rintro _ W1 ⟨c7,s7⟩;refine E0 (a_X (cur':=[vB true]) z_4 rfl rfl (h8.chg s7 (by omega)) rfl (Nat.le_of_ble_eq_true rfl) (b_4 rfl) rfl) ?_;rintro _ W2 ⟨c8,s8⟩;have hDlt:=(Array.getElem?_eq_some_iff.1 hdef).1;have hdef2:W2.heap[D]? = some (.deferred<|some []):=((s8.block D (Nat.lt_of_lt_of_le hDlt s7.size) (by omega)).trans (s7.block D hDlt (by omega))).trans hdef
    have hDS:∀k∈S,k ≠ D:=fun k hk e=>by
      obtain ⟨cur,hB⟩:=d_Z h3 k hk;have:=(e ▸ hB).isCells hdef
      cases this
    have hoks:oks.all id=true:=hall.2 fun y hy=>by
      rw [← hxs] at hy
      obtain ⟨z,hz,rfl⟩:=List.mem_map.1 hy;exact h1 z hz
    rw [if_pos hoks]
    refine a_l fun a' ha'=>⟨ha'.defers,hdef2,?_⟩
    have hp:=k_G W2 D<|.deferred none;obtain ⟨_,v,e1,e2⟩:=Y_ (R:=Q38 w0 B (parts,true)) hr (c_2 (n:=1) a_J rfl<|(c7.chg s8 (by omega)).chg hp (by omega)) (c_2 (n:=1) g_4 rfl<|c8.chg hp (by omega)) ⟨c_c (c_c (c_c h9 s7 fun k hk e=>by omega) s8 fun k hk e=>by omega) hp fun k hk e=>by omega,a,m,c,S,rfl,((hxs ▸ h3).chg s7 fun k hk e=>by have:=h5 k hk;omega).chg s8 (fun k hk e=>by have:=h5 k hk;omega) |>.chg hp fun k hk e=>hDS k hk e,h4,fun k hk=>by have:=h5 k hk;omega⟩ a' ha';exact ⟨v,e1,e2⟩
  · rintro D pre W hD _ ⟨⟨⟨x,hx,hxl⟩,hxm,hxb⟩,⟨a,m,c,S,h2,h3,h4,h5⟩,h8,h9⟩ hdef a0 ha0
    have hq4:=h2.lt;have hq5:=h8.lt
    have hDS:∀k∈S,k ≠ D:=fun k hk e=>by
      obtain ⟨cur,hB⟩:=d_Z h3 k hk;have:=(e ▸ hB).isCells hdef
      cases this
    have hoks:¬oks.all id=true:=fun h=>by
      have:=hall.1 h x hx
      rw [this] at hxb;cases hxb
    rw [if_neg hoks]
    have hp:=k_G W D<|.deferred none;obtain ⟨_,v,e1,e2⟩:=Y_ (R:=Q38 w0 B ([],false)) hr (c_2 (n:=1) a_J rfl<|h2.chg hp (by omega)) (c_2 (n:=1) g_4 rfl<|h8.chg hp (by omega)) ⟨c_c h9 hp fun k hk e=>by omega,a,m,c,S,rfl,h3.chg hp fun k hk e=>hDS k hk e,h4,h5⟩ a0 ha0;exact retD ha0.defers hdef e1 e2
theorem W_w4a {x1:Str}{res:(List Str)×Bool}(hm:i_7 n x1=some res)(hBw:B<=w0.z)(p1_0:x1.b.length<=LEN):h_ prog 115 [Str.v x1] w0 (Q37 w0 B res):=by
 unfold i_7 at hm
 refine goF func115 z z (lb z) fun fn hr=>Ws<|Ra z<|Rw z<|Wm z ?_
 obtain ⟨_,_,G,h⟩:=a_k hm;refine E z (fc call166 z<|W_w49 (B:=B) G hBw p1_0) ?_;rintro _ _ ⟨s2,H,I,J,L,rfl,O,V,W⟩;refine Re z z z<|Re z z z<|Ra z<|Rw z ?_
 obtain rfl:=som h;exact Wr<|Y_ hr z z ⟨s2,H,I,J,L,z,O,V,W⟩
theorem W_w4b {x1:List Str}{x2:Int}{x3:Str}{res:Bool}(hm:i_G x1 x2 x3=some res)(hBw:B<=w0.z)(p1_0:repS w0 B (sl A0 N0 C0) x1)(p2_0:inI x2)(p3_0:x3.b.length<=LEN):h_ prog 209 [sl A0 N0 C0,vI x2,Str.v x3] w0 (Q11 w0 B res):=by
 unfold i_G at hm
 refine goF func209 z z (lb z) fun fn hr=>Ws<|Rw z<|Wq<|Wm z<|Rm z ?_
 obtain ⟨_,J,G⟩:=bdS hm;refine RX z (at_ (α:=Str) k_s z_9 z z z p1_0 J) ?_;rintro _ ⟨_,_,_,rfl,h3,h4,_⟩;obtain ⟨rfl,_⟩:=a_r h4;refine R z (l0 g_9 z<|h3.at0 z)<|R z (a_R z z)<|Wx z (fun h=>?_) (fun h=>?_)
 ·refine Wm z ?_
  obtain ⟨_,_,L,H⟩:=a_k<|ifT G h;refine E z (fc call198 z<|W_w1z (B:=B) L hBw p3_0) ?_;rintro _ _ ⟨s7,rfl,_⟩;refine Rm z<|Re z z z<|Re z z z<|Ra z<|Rw z<|Wm z<|Rw z ?_
  obtain rfl:=som H;exact Wr<|c_ hr z ⟨s7,z⟩
 refine Wk<|Wm z<|Rm z ?_
 obtain ⟨_,O,I⟩:=bdS<|ifF G h;refine RX z (at_ (α:=Str) k_s z_9 z z z p1_0 O) ?_;rintro _ ⟨_,_,_,rfl,ha,hb,_⟩;obtain ⟨rfl,_⟩:=a_r hb;refine R z (l0 g_9 z<|ha.at0 z)<|Rm z<|R z (a_R z z)<|Rw z ?_
 obtain rfl:=som I;exact Wr<|c_ hr z ⟨br w0,z⟩
end Go.Vw
