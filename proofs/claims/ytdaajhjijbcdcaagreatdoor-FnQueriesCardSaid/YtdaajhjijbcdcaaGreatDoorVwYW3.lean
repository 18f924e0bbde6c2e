
import Derived.Test.YtdaajhjijbcdcaaGreatDoorVwYW2
set_option linter.unusedVariables false
namespace Go.Vw
open Go.RowKit Dat Go.Proofs
open Go.Proofs.Tryz
open Go.Vw renaming a_p->Wq,a_S->Wg,WC.of_KC->Wo,a_q->Wl,c_6->Wc,c_G->Wr,f_A->Wu,i_h->pT,i_i->pF,g_F->fd,b_z->l1,i_x->lN,b_h->mv,c_L->asg,f_w->lnR,e_N->lss,g_J->eql,g_G->ext_,i_k->bP,g_H->add_,f_v->inc_,d_q->not_,f_x->at_,e_f->fc,b_4->fs,e_e->fb,d_k->fa,i_b->sr,i_f->cr,i_g->cM,c_k->bM,i_4->iS,i_3->iA,i_6->br,b_c->oA,i_7->bs,ltge->lg,inor->io,f_D->nq,i_z->lnT,i_A->sb_,i_9->ar_,i_8->al_,i_a->ds,j_8->m1,i_d->nr_,i_c->nl_,g_v->aa_,d_o->an_,d_f->Wb,g_u->u8,i_0->pD,f_k->We,i_5->Wt,f_q->fS,f_g->or_,i_v->Wf,i_r->qL,h_Z->Wd,i_l->fN,g_w->na_,i_e->nj,e_g->f0,i_j->rX,i_m->tl_,i_n->ic
variable {A0:Option Addr}{N0 C0:Nat}{B:Zone}{w0:World}{n:Nat}{A5:Option Addr}{N5 C5:Nat}{A9:Option Addr}{A8:Option Addr}{AA:Option Addr}{AB:Option Addr}{N9 C9:Nat}{N8 C8:Nat}{NA CA:Nat}{NB CB:Nat}{AC:Option Addr}{AD:Option Addr}{NC CC:Nat}{ND CD:Nat}{A2:Option Addr}{A3:Option Addr}{A1:Option Addr}{A4:Option Addr}{N2 C2:Nat}{N3 C3:Nat}{N1 C1:Nat}{N4 C4:Nat}{A6:Option Addr}{N6 C6:Nat}{A7:Option Addr}{N7 C7:Nat}
theorem T_w03 (ih:f_j n):k_R (h_x n<|a_m n):=by
 obtain ⟨_,d5,d6,d7,d8,d9⟩:=ih
 constructor
 intro A0 A6 N0 C0 N6 C6 b1 o1 B x1 x2 x3 res w0 hm H L O hC1 hC1b cS I;unfold h_x at hm
 refine goG func87 z z z λfn hr=>Ws<|E z (fa a_k) ?_
 rintro _ J ⟨rfl,bh⟩;have h2:=bh.below;have h3:Blk J w0.z [vI 0,sN,sN]:=bh.blk;refine Ra z<|Rw z<|Wm z<|R z (Y_ z)<|Rf z n_l z<|Rf z R_ z ?_
 have h5:=hC1.e h2;refine R z (l0 S_ z<|h5.at (j:=0) z)<|Rm z ?_
 obtain ⟨W,da,b5⟩:=bdS hm;refine RX z (at_ (α:=d_) K_ p_ z z z (L.e h2) da) ?_;rintro _ ⟨_,_,_,rfl,db,dc,_⟩;obtain ⟨aa,nb,cc,ad,ne,cf,ah,ng,ci,aj,nk,cl,rfl,hq,ht,ho,hp,hu,hv,hn⟩:=a_H dc;refine R z (lN (vs:=vR W aa nb cc ad ne cf ah ng ci aj nk cl) M_ p_ z z fid db)<|E z (fa b_M) ?_
 rintro _ dd ⟨rfl,bi⟩;have G:=bi.below;refine E0 (fs0 (cur':=vR W aa nb cc ad ne cf ah ng ci aj nk cl) p_ z z (bi.blk:Blk dd J.z [(Str.v (⟨[]⟩:Str)),vI 0,vI 0,vB false,sN,sN,sN,sN]) z z z z) ?_;rintro _ _ ⟨V,de⟩;have h1:=de.one;refine Wn<|Wq<|Ws<|Rf z a_G z<|R z (l0 g_3 z<|V.at z)<|Wn<|Wb<|Ws<|Rq z z z<|Rw z<|Wc z (λhcr=>?_) (λhcr=>?_)
 .refine Wm z<|RM z z ?_
  have bj:∀k∈[J.z],¬B k:=or0 (b_ lr)<|o_<|zt' H h2.s;have bk:=((h2.ag B).e G).c h1<|c_ bj
  have bm:=lt_ (lt_ h2.s G.s) h1.s;obtain ⟨bn,_,_,df,cT⟩:=t_<|ifT b5 hcr;refine E z (fc call99 z<|j_t df (zt' H bm) (L.g bk) (O.g bk) ((h5.e G).c h1<|(c_ bj) _ hC1b) hC1b cS I) ?_;rintro _ _ ⟨bo,dg,dh,rfl,di,dj,dk,bp⟩;refine Rm z ?_
  iterate 3 refine Re z z z ?_
  refine RA z z<|Rw z<|Wm z<|R z (bP (parts:=[(0,.tmp 41)]) (cs:=[vI bn,sN,sN]) a_9 z z)<|RM z z<|E0 (fs0 (cur':=[vI bn,sN,sN]) l_ z z (((h3.e G).c h1<|djs<|mmr h3.lt).e bo) z z z z) ?_
  rintro _ _ ⟨dl,dm⟩;have bq:=dm.one;refine Ra z<|Rw z ?_
  obtain rfl:=som cT;exact Wr<|rtO<|E_ hr (x_ D_ l_ z dl z) z z ⟨bM (bup (bM (bup h2 G) h1<|m1 h2.s) bo) bq<|b_ lr,none,0,0,[],none,0,0,[],dg,dh,z,di,onL,onL,dj,dk.c bq<|n_ bp h3.lt<|lt_ G.s h1.s,q_ bp bm,nd0,al0⟩
 have b6:=ifF b5 hcr;refine Ws<|Rq z z z<|Rw z<|Wc z (λhcs=>?_) (λhcs=>?_)
 .refine Wm z<|R z (lN (vs:=vR W aa nb cc ad ne cf ah ng ci aj nk cl) M_ p_ z z fid<|V.row 0 8 z)<|Rm z ?_
  have aC:∀k∈[J.z],¬B k:=or0 (b_ lr)<|o_<|zt' H h2.s;have br:=((h2.ag B).e G).c h1<|c_ aC
  have hw:=(G.ag B).c h1<|c_ aC
  have bs:=lt_ (lt_ h2.s G.s) h1.s;obtain ⟨_,_,dn,cU⟩:=a_v<|ifT b6 hcs;refine E z (fc call100 z<|W_w2h dn (zt' H bs) (L.g br) (O.g br) ((h5.e G).c h1<|(c_ aC) _ hC1b) hC1b hq ht ho (hp.g hw) (hu.g hw) (hv.g hw) (hn.g hw) I) ?_;rintro _ _ ⟨bt,dp,dq,rfl,dr,ds,bu⟩;refine Rm z<|Re z z z<|Re z z z<|Ra z<|Rw z<|Ws<|R z (bP (parts:=[]) (cs:=[vI 0,sN,sN]) a_9 z z)<|RM z z<|E0 (fs0 (cur':=[vI 0,sN,sN]) l_ z z (((h3.e G).c h1<|djs<|mmr h3.lt).e bt) z z z z) ?_
  rintro _ _ ⟨dt,du⟩;have bv:=du.one;refine Ra z<|Rw z ?_
  obtain rfl:=som cU;exact Wr<|rtO<|E_ hr (x_ D_ l_ z dt z) z z ⟨bM (bup (bM (bup h2 G) h1<|m1 h2.s) bt) bv<|b_ lr,none,0,0,[],none,0,0,[],dp,dq,z,ii z,onL,onL,dr,ds.c bv<|n_ bu h3.lt<|lt_ G.s h1.s,q_ bu bs,nd0,al0⟩
 have b7:=ifF b6 hcs;refine Ws<|Rq z z z<|Rw z<|Wc z (λar=>?_) (λar=>?_)
 .refine Wm z<|Rm z<|Rf z a_W z<|R z (l0 g_3 z<|V.at z) ?_
  have bw:∀k∈[J.z],¬B k:=or0 (b_ lr)<|o_<|zt' H h2.s;have bx:=((h2.ag B).e G).c h1<|c_ bw
  have hx:=lt_ (lt_ h2.s G.s) h1.s;obtain ⟨dv,_,_,dw,cV⟩:=t_<|ifT b7 ar;refine E z (fc call101 z<|W_w1g dw (zt' H hx) (L.g bx) (O.g bx) ((h5.e G).c h1<|(c_ bw) _ hC1b) hC1b I ho) ?_;rintro _ _ ⟨bz,bA,bB,bC,dx,bD,bE,bF,dy,dz,dA,rfl,dB,dC,dD,dF,dG,bG,aD,hy⟩
  iterate 3 refine Re z z z ?_
  refine E0 (fs0 (cur':=[vI dv.number,sl bA bB bC,sl bD bE bF]) l_ z z (((h3.e G).c h1<|djs<|mmr h3.lt).e bz) z z z z) ?_;rintro _ _ ⟨dH,dI⟩;have hz:=dI.one;refine Ra z<|Rw z ?_
  obtain rfl:=som cV;have aE:=lt_ G.s h1.s;exact Wr<|rtO<|E_ hr (x_ D_ l_ z dH z) z z ⟨bM (bup (bM (bup h2 G) h1<|m1 h2.s) bz) hz<|b_ lr,bA,bB,bC,dx,bD,bE,bF,dy,dz,dA,z,dB,dC.c hz<|n_ (al_ hy) h3.lt aE,dD.c hz<|n_ (ar_ hy) h3.lt aE,dF,dG.c hz<|n_ bG h3.lt aE,q_ bG hx,na_ (nl_ aD) (nr_ aD)<|nj aD,aa_ (q_ (al_ hy) hx)<|q_ (ar_ hy) hx⟩
 have b8:=ifF b7 ar;refine Ws<|Rq z z z<|Rw z<|Wc z (λau=>?_) (λau=>?_)
 .refine Wm z<|Rf z Q_ z<|R z (l0 F_ z<|V.at z) ?_
  obtain ⟨_,dJ,cW⟩:=bdS<|ifT b8 au;have aF:∀k∈[J.z],¬B k:=or0 (b_ lr)<|o_<|zt' H h2.s;refine RX z (at_ (α:=Int) G_ z_3 z z z (hn.g<|(G.ag B).c h1<|c_ aF) dJ) ?_;rintro _ ⟨_,_,_,rfl,dK,dL,_⟩;obtain ⟨rfl,dN⟩:=U_ dL;refine R z (l0 g_3 z<|dK.at0 z)<|Rm z ?_
  have bH:=(h5.e G).c h1<|(c_ aF) _ hC1b
  have aG:=((h2.ag B).e G).c h1<|c_ aF
  have aH:=lt_ (lt_ h2.s G.s) h1.s;obtain ⟨_,_,_,dO,b9⟩:=t_ cW;refine E z (fc call99 z<|j_t dO (zt' H aH) (L.g aG) (O.g aG) bH hC1b dN I) ?_;rintro _ _ ⟨s8,dP,dS,rfl,dT,dU,bI,bJ⟩;refine Rm z ?_
  iterate 3 refine Re z z z ?_
  refine RA z z<|Rw z<|Wq<|Wm z<|R z (d_J e_5 z z bI)<|Wx z (λav=>?_) (λav=>?_)
  .refine Ws<|R z (bP (parts:=[]) (cs:=[vI 0,sN,sN]) a_9 z z)<|RM z z<|E0 (fs0 (cur':=[vI 0,sN,sN]) l_ z z (((h3.e G).c h1<|djs<|mmr h3.lt).e s8) z z z z) ?_
   rintro _ _ ⟨dV,dW⟩;have bK:=dW.one;refine Ra z<|Rw z ?_
   obtain rfl:=som<|ifT b9 av;exact Wr<|rtO<|E_ hr (x_ D_ l_ z dV z) z z ⟨bM (bup (bM (bup h2 G) h1<|m1 h2.s) s8) bK<|b_ lr,none,0,0,[],none,0,0,[],dP,dS,z,ii z,onL,onL,I,bI.c bK<|n_ bJ h3.lt<|lt_ G.s h1.s,q_ bJ aH,nd0,al0⟩
  refine Wk<|Wm z<|RM z z ?_
  have bL:=aG.e s8;have Y:=lt_ aH s8.s;obtain ⟨dX,_,_,dY,cX⟩:=t_<|ifF b9 av;refine E z (fc call101 z<|W_w1g dY (zt' H Y) (L.g bL) (O.g bL) (bH.e s8) hC1b dU dT) ?_;rintro _ _ ⟨bN,bO,bQ,bR,dZ,bS,bT,bU,e0,e1,e2,rfl,e3,e4,e5,e6,e7,bV,aI,a0⟩
  iterate 3 refine Re z z z ?_
  refine E0 (fs0 (cur':=[vI dX.number,sl bO bQ bR,sl bS bT bU]) l_ z z ((((h3.e G).c h1<|djs<|mmr h3.lt).e s8).e bN) z z z z) ?_;rintro _ _ ⟨e8,e9⟩;have a1:=e9.one;refine Ra z<|Rw z ?_
  obtain rfl:=som cX;have aJ:=lt_ (lt_ G.s h1.s) s8.s;exact Wr<|rtO<|E_ hr (x_ D_ l_ z e8 z) z z ⟨bM (bup (bup (bM (bup h2 G) h1<|m1 h2.s) s8) bN) a1<|b_ lr,bO,bQ,bR,dZ,bS,bT,bU,e0,e1,e2,z,e3,e4.c a1<|n_ (al_ a0) h3.lt aJ,e5.c a1<|n_ (ar_ a0) h3.lt aJ,e6,e7.c a1<|n_ bV h3.lt aJ,q_ bV Y,na_ (nl_ aI) (nr_ aI)<|nj aI,aa_ (q_ (al_ a0) Y)<|q_ (ar_ a0) Y⟩
 have ba:=ifF b8 au;refine Ws<|Rq z z z<|Rw z<|Wc z (λaw=>?_) (λaw=>?_)
 .refine Wm z<|R z (lN (vs:=vR W aa nb cc ad ne cf ah ng ci aj nk cl) M_ p_ z z fid<|V.row 0 8 z)<|Rm z ?_
  have aK:∀k∈[J.z],¬B k:=or0 (b_ lr)<|o_<|zt' H h2.s;have bW:=((h2.ag B).e G).c h1<|c_ aK
  have a2:=(G.ag B).c h1<|c_ aK
  have a3:=lt_ (lt_ h2.s G.s) h1.s;obtain ⟨ea,_,_,eb,cY⟩:=t_<|ifT ba aw;refine E z (fc call102 z<|d5.run eb (zt' H a3) (L.g bW) (O.g bW) ((h5.e G).c h1<|(c_ aK) _ hC1b) hC1b hq ht ho (hp.g a2) (hu.g a2) (hv.g a2) (hn.g a2) I) ?_;rintro _ _ ⟨bX,bY,bZ,c0,ec,c1,c2,c3,ed,ee,ef,rfl,eg,eh,ei,ej,ek,c4,aL,a4⟩
  iterate 3 refine Re z z z ?_
  refine E0 (fs0 (cur':=[vI ea.number,sl bY bZ c0,sl c1 c2 c3]) l_ z z (((h3.e G).c h1<|djs<|mmr h3.lt).e bX) z z z z) ?_;rintro _ _ ⟨em,en⟩;have a5:=en.one;refine Ra z<|Rw z ?_
  obtain rfl:=som cY;have aM:=lt_ G.s h1.s;exact Wr<|rtO<|E_ hr (x_ D_ l_ z em z) z z ⟨bM (bup (bM (bup h2 G) h1<|m1 h2.s) bX) a5<|b_ lr,bY,bZ,c0,ec,c1,c2,c3,ed,ee,ef,z,eg,eh.c a5<|n_ (al_ a4) h3.lt aM,ei.c a5<|n_ (ar_ a4) h3.lt aM,ej,ek.c a5<|n_ c4 h3.lt aM,q_ c4 a3,na_ (nl_ aL) (nr_ aL)<|nj aL,aa_ (q_ (al_ a4) a3)<|q_ (ar_ a4) a3⟩
 have bb:=ifF ba aw;refine Ws<|Rq z z z<|Rw z<|Wc z (λax=>?_) (λax=>?_)
 .refine Wm z<|R z (bP (parts:=[]) (cs:=[vI 0,sN,sN]) a_9 z z)<|Rf z Q_ z<|R z (l0 F_ z<|V.at z)<|Rm z ?_
  have aN:∀k∈[J.z],¬B k:=or0 (b_ lr)<|o_<|zt' H h2.s;have c5:=((h2.ag B).e G).c h1<|c_ aN
  have a6:=lt_ (lt_ h2.s G.s) h1.s;obtain ⟨eo,_,_,ep,cZ⟩:=t_<|ifT bb ax;refine E z (fc call103 z<|d6.run (B:=B) (x2:=(⟨0,([]:Bt),([]:List Val)⟩:Val)) ep (zt' H a6) (L.g c5) (O.g c5) ((h5.e G).c h1<|(c_ aN) _ hC1b) hC1b (ii z) onL v_ an_ onL v_ an_ an_ (hn.g<|(G.ag B).c h1<|c_ aN) I) ?_;rintro _ _ ⟨c6,c7,c8,c9,ca,cb,cd,ce,cg,er,es,rfl,eu,ew,ex,ey,ez,ch,aO,a7⟩
  iterate 3 refine Re z z z ?_
  refine E0 (fs0 (cur':=[vI eo.number,sl c7 c8 c9,sl cb cd ce]) l_ z z (((h3.e G).c h1<|djs<|mmr h3.lt).c c6<|atp<|nmA (nmN _)<|nmN _) z z z z) ?_;rintro _ _ ⟨eA,eB⟩;have a8:=eB.one;refine Ra z<|Rw z ?_
  obtain rfl:=som cZ;have aP:=lt_ G.s h1.s;exact Wr<|rtO<|E_ hr (x_ D_ l_ z eA z) z z ⟨bM (bM (bM (bup h2 G) h1<|m1 h2.s) c6 al0) a8<|b_ lr,c7,c8,c9,ca,cb,cd,ce,cg,er,es,z,eu,ew.c a8 (or1 (al_ a7) al0 (m_ (b_ h3.lt) aP):∀k∈ca,k∉[w0.z]),ex.c a8 (or1 (ar_ a7) al0 (m_ (b_ h3.lt) aP):∀k∈cg,k∉[w0.z]),ey,ez.c a8<|n_ ch h3.lt aP,q_ ch a6,na_ (nl_ aO) (nr_ aO)<|nj aO,aa_ (a_u (al_ a7) al0 a6)<|a_u (ar_ a7) al0 a6⟩
 have bc:=ifF bb ax;refine Ws<|Rq z z z<|Rw z<|Wc z (λay=>?_) (λay=>?_)
 .refine Wm z<|R z (lN (vs:=vR W aa nb cc ad ne cf ah ng ci aj nk cl) M_ p_ z z fid<|V.row 0 8 z)<|Rm z ?_
  have aQ:∀k∈[J.z],¬B k:=or0 (b_ lr)<|o_<|zt' H h2.s;have cj:=((h2.ag B).e G).c h1<|c_ aQ
  have a9:=(G.ag B).c h1<|c_ aQ
  have ab:=lt_ (lt_ h2.s G.s) h1.s;obtain ⟨eC,_,_,eD,d0⟩:=t_<|ifT bc ay;refine E z (fc call104 z<|d7.run eD (zt' H ab) (L.g cj) (O.g cj) ((h5.e G).c h1<|(c_ aQ) _ hC1b) hC1b hq ht ho (hp.g a9) (hu.g a9) (hv.g a9) (hn.g a9) I) ?_;rintro _ _ ⟨ck,cm,cn,co,eE,cp,cq,cr,eF,eG,eH,rfl,eI,eJ,eK,eL,eM,ct,aR,ae⟩
  iterate 3 refine Re z z z ?_
  refine E0 (fs0 (cur':=[vI eC.number,sl cm cn co,sl cp cq cr]) l_ z z (((h3.e G).c h1<|djs<|mmr h3.lt).e ck) z z z z) ?_;rintro _ _ ⟨eN,eO⟩;have af:=eO.one;refine Ra z<|Rw z ?_
  obtain rfl:=som d0;have aS:=lt_ G.s h1.s;exact Wr<|rtO<|E_ hr (x_ D_ l_ z eN z) z z ⟨bM (bup (bM (bup h2 G) h1<|m1 h2.s) ck) af<|b_ lr,cm,cn,co,eE,cp,cq,cr,eF,eG,eH,z,eI,eJ.c af<|n_ (al_ ae) h3.lt aS,eK.c af<|n_ (ar_ ae) h3.lt aS,eL,eM.c af<|n_ ct h3.lt aS,q_ ct ab,na_ (nl_ aR) (nr_ aR)<|nj aR,aa_ (q_ (al_ ae) ab)<|q_ (ar_ ae) ab⟩
 have be:=ifF bc ay;refine Ws<|Rq z z z<|Rw z<|Wc z (λaz=>?_) (λaz=>?_)
 .refine Wm z<|R z (lN (vs:=vR W aa nb cc ad ne cf ah ng ci aj nk cl) M_ p_ z z fid<|V.row 0 8 z)<|Rm z ?_
  have aT:∀k∈[J.z],¬B k:=or0 (b_ lr)<|o_<|zt' H h2.s;have cu:=((h2.ag B).e G).c h1<|c_ aT
  have ai:=(G.ag B).c h1<|c_ aT
  have ak:=lt_ (lt_ h2.s G.s) h1.s;obtain ⟨eP,_,_,eQ,d1⟩:=t_<|ifT be az;refine E z (fc call105 z<|d8.run eQ (zt' H ak) (L.g cu) (O.g cu) ((h5.e G).c h1<|(c_ aT) _ hC1b) hC1b hq ht ho (hp.g ai) (hu.g ai) (hv.g ai) (hn.g ai) I) ?_;rintro _ _ ⟨cv,cw,cx,cy,eR,cz,cA,cB,eS,eT,eU,rfl,eV,eW,eX,eY,eZ,cC,aU,al⟩
  iterate 3 refine Re z z z ?_
  refine E0 (fs0 (cur':=[vI eP.number,sl cw cx cy,sl cz cA cB]) l_ z z (((h3.e G).c h1<|djs<|mmr h3.lt).e cv) z z z z) ?_;rintro _ _ ⟨f0,f1⟩;have am:=f1.one;refine Ra z<|Rw z ?_
  obtain rfl:=som d1;have aV:=lt_ G.s h1.s;exact Wr<|rtO<|E_ hr (x_ D_ l_ z f0 z) z z ⟨bM (bup (bM (bup h2 G) h1<|m1 h2.s) cv) am<|b_ lr,cw,cx,cy,eR,cz,cA,cB,eS,eT,eU,z,eV,eW.c am<|n_ (al_ al) h3.lt aV,eX.c am<|n_ (ar_ al) h3.lt aV,eY,eZ.c am<|n_ cC h3.lt aV,q_ cC ak,na_ (nl_ aU) (nr_ aU)<|nj aU,aa_ (q_ (al_ al) ak)<|q_ (ar_ al) ak⟩
 have bf:=ifF be az;refine Ws<|Rq z z z<|Rw z<|Wc z (λaA=>?_) (λaA=>?_)
 .refine Wm z<|R z (lN (vs:=vR W aa nb cc ad ne cf ah ng ci aj nk cl) M_ p_ z z fid<|V.row 0 8 z)<|Rm z ?_
  have aW:∀k∈[J.z],¬B k:=or0 (b_ lr)<|o_<|zt' H h2.s;have cD:=((h2.ag B).e G).c h1<|c_ aW
  have an:=(G.ag B).c h1<|c_ aW
  have ao:=lt_ (lt_ h2.s G.s) h1.s;obtain ⟨f2,_,_,f3,d2⟩:=t_<|ifT bf aA;refine E z (fc call106 z<|d9.run f3 (zt' H ao) (L.g cD) (O.g cD) ((h5.e G).c h1<|(c_ aW) _ hC1b) hC1b hq ht ho (hp.g an) (hu.g an) (hv.g an) (hn.g an) I) ?_;rintro _ _ ⟨cE,cF,cG,cH,f4,cI,cJ,cK,f5,f6,f7,rfl,f8,f9,fb,fe,ff,cL,aX,ap⟩
  iterate 3 refine Re z z z ?_
  refine E0 (fs0 (cur':=[vI f2.number,sl cF cG cH,sl cI cJ cK]) l_ z z (((h3.e G).c h1<|djs<|mmr h3.lt).e cE) z z z z) ?_;rintro _ _ ⟨fg,fh⟩;have aq:=fh.one;refine Ra z<|Rw z ?_
  obtain rfl:=som d2;have aY:=lt_ G.s h1.s;exact Wr<|rtO<|E_ hr (x_ D_ l_ z fg z) z z ⟨bM (bup (bM (bup h2 G) h1<|m1 h2.s) cE) aq<|b_ lr,cF,cG,cH,f4,cI,cJ,cK,f5,f6,f7,z,f8,f9.c aq<|n_ (al_ ap) h3.lt aY,fb.c aq<|n_ (ar_ ap) h3.lt aY,fe,ff.c aq<|n_ cL h3.lt aY,q_ cL ao,na_ (nl_ aX) (nr_ aX)<|nj aX,aa_ (q_ (al_ ap) ao)<|q_ (ar_ ap) ao⟩
 refine Wk<|Wq (Wd (X:=noX) 0 (pl_ 17 [9]) mo (by kernel_rfl) λfz s6 _=>dM z z z<|dR z z (Y_ z)<|dR z z (fd g_c z) ?_)
 have aZ:∀k∈[J.z],¬B k:=or0 (b_ lr)<|o_<|zt' H h2.s;refine dR z z (l0 a_0 z<|(((h5.e G).c h1<|(c_ aZ) _ hC1b).e s6).at (j:=1) z)<|dM z z z<|dR z z (fd a_X z)<|dR z z (l0 a_0 z<|(V.e s6).at z) ?_
 obtain ⟨_,fi,d3⟩:=bdS<|ifF bf aA;refine dRX z z (at_ (α:=UInt8) w_ z_5 z z z (hp.g<|((G.ag B).c h1<|c_ aZ).e s6) fi) ?_;rintro _ ⟨_,_,_,rfl,fj,fk,_⟩;obtain rfl:=u8 fk;refine dR z z (l0 g_5 z<|fj.at0 z) ?_;have b0:=lt_ (lt_ (lt_ h2.s G.s) h1.s) s6.s;obtain ⟨_,_,_,fl,bg⟩:=t_ d3;refine dE z z (fc call107 z<|W_w1i fl (zt' H b0) (O.g<|(((h2.ag B).e G).c h1<|c_ aZ).e s6) I) (.inr λ_ _ h=>y_<|h.1) ?_;rintro _ _ ⟨sm,b2,b3,b4,fm,rfl,fo,fp,fq,cM⟩;refine dM z z z ?_
 iterate 3 refine dR z z (ext_ z z) ?_
 iterate 3 refine dQ z z z ?_
 refine pD<|Wo<|Wq<|Wm z<|R z (not_ z)<|Wx z (λaB=>?_) (λaB=>?_)
 .refine Ws<|R z (bP (parts:=[]) (cs:=[vI 0,sN,sN]) a_9 z z)<|RM z z ?_
  have cN:=lt_ b0 sm.s;obtain ⟨_,fr,d4⟩:=bdS<|ifT bg aB;refine E z (fc call108 z<|e_G fr (zt' H cN) I<|ii z) ?_;rintro _ _ ⟨cO,fs,ft,rfl,fu,cP⟩;refine E0 (fs0 (cur':=[vI 0,sN,sN]) l_ z z (((((h3.e G).c h1<|djs<|mmr h3.lt).e s6).e sm).e cO) z z z z) ?_;rintro _ _ ⟨fv,fw⟩;have cQ:=fw.one;refine Ra z<|Rw z ?_
  obtain rfl:=som d4;exact Wr<|E_ hr (x_ D_ l_ z fv z) z z ⟨bM (bup (bup (bup (bM (bup h2 G) h1<|m1 h2.s) s6) sm) cO) cQ<|b_ lr,none,0,0,[],none,0,0,[],fs,ft,z,ii z,onL,onL,I,fu.c cQ<|n_ cP h3.lt<|lt_ (lt_ (lt_ G.s h1.s) s6.s) sm.s,q_ cP cN,nd0,al0⟩
 refine Wk<|Wm z<|R z (bP (parts:=[(1,.tmp 159)]) (cs:=[vI 0,sl b2 b3 b4,sN]) a_9 z z)<|Rm z<|E0 (fs0 (cur':=[vI 0,sl b2 b3 b4,sN]) l_ z z ((((h3.e G).c h1<|djs<|mmr h3.lt).e s6).e sm) z z z z) ?_
 rintro _ _ ⟨fx,fy⟩;have cR:=fy.one;refine Ra z<|Rw z ?_
 obtain rfl:=som<|ifF bg aB;exact Wr<|E_ hr (x_ D_ l_ z fx z) z z ⟨bM (bup (bup (bM (bup h2 G) h1<|m1 h2.s) s6) sm) cR<|b_ lr,b2,b3,b4,fm,none,0,0,[],.nilIface,([]:List Nat),z,ii z,fo.c cR<|n_ cM h3.lt<|lt_ (lt_ G.s h1.s) s6.s,onL,fp,e_h,an_,na_ fq v_<|nmN _,aa_ (q_ cM b0) an_⟩
theorem T_w1j (ih:f_j n):k_S (h_y n<|a_m n):=by
 obtain ⟨_,_,aJ,_,_,_⟩:=ih
 constructor
 intro A0 A6 A2 A3 A1 A4 N0 C0 N6 C6 b1 o1 N2 C2 N3 C3 N1 C1 N4 C4 B x1 x2 x3 res w0 hm O W Y hC1 hC1b bx bz bA bB bC bD a0 V;unfold h_y at hm
 refine goG func102 z z z λfn hr=>Ws<|E z (fb z) ?_
 rintro _ J ⟨rfl,hw⟩;have h4:=hw.below;have hx:Blk J w0.z (vR x2 A2 N2 C2 A3 N3 C3 A1 N1 C1 A4 N4 C4):=hw.blk;refine E z (fa a_k) ?_;rintro _ aK ⟨rfl,hy⟩;have h6:=hy.below;have h5:Blk aK J.z [vI 0,sN,sN]:=hy.blk;refine Ra z<|Rw z<|Wm z<|Rf z Q_ z ?_
 have hz:=hx.e h6;refine R z (l0 F_ z<|hz.at z) ?_;obtain ⟨_,aL,aw⟩:=bdS hm;have hd:=(h4.ag B).e h6;refine RX z (at_ (α:=Int) G_ z_3 z z z (a0.g hd) aL) ?_;rintro _ ⟨_,_,_,rfl,aM,aN,_⟩;obtain ⟨rfl,aO⟩:=U_ aN;refine R z (l0 g_3 z<|aM.at0 z)<|Rm z ?_
 have a4:=(hC1.e h4).e h6;have he:=lt_ h4.s h6.s;obtain ⟨_,rr,_,aP,hms⟩:=t_ aw;refine E z (fc call99 z<|j_t aP (zt' O he) (W.g hd) (Y.g hd) a4 hC1b aO V) ?_;rintro _ H ⟨G,aQ,aR,rfl,_,aS,a5,a6⟩;refine Rm z ?_
 iterate 3 refine Re z z z ?_
 refine RA z z<|Rw z<|Wq<|Wm z<|R z (d_J e_5 z z a5)<|Wx z (λhcm=>?_) (λhcm=>?_)
 .refine Ws<|R z (bP (parts:=[]) (cs:=[vI 0,sN,sN]) a_9 z z)<|RM z z<|E0 (fs0 (cur':=[vI 0,sN,sN]) l_ z z (h5.e G) z z z z) ?_
  rintro _ _ ⟨aT,aU⟩;have a7:=aU.one;refine Ra z<|Rw z ?_
  obtain rfl:=som<|ifT hms hcm;exact Wr<|E_ hr (x_ D_ l_ z aT z) z z ⟨bM (bup (bup h4 h6) G) a7<|m1 h4.s,none,0,0,[],none,0,0,[],aQ,aR,z,ii z,onL,onL,V,a5.c a7<|n_ a6 h5.lt lr,q_ a6 he,nd0,al0⟩
 have a1:=ifF hms hcm;refine Wk<|Wq<|Wm z<|R z (a_b z z)<|Wx z (λhco=>?_) (λhco=>?_)
 .refine Ws<|R z (bP (parts:=[]) (cs:=[vI 0,sN,sN]) a_9 z z)<|RM z z ?_
  have a8:=lt_ he G.s;obtain ⟨_,aV,ax⟩:=bdS<|ifT a1 hco;refine E z (fc call108 z<|e_G aV (zt' O a8) V<|ii z) ?_;rintro _ _ ⟨a9,aW,aX,rfl,aY,aa⟩;refine E0 (fs0 (cur':=[vI 0,sN,sN]) l_ z z ((h5.e G).e a9) z z z z) ?_;rintro _ _ ⟨aZ,b0⟩;have ab:=b0.one;refine Ra z<|Rw z ?_
  obtain rfl:=som ax;exact Wr<|E_ hr (x_ D_ l_ z aZ z) z z ⟨bM (bup (bup (bup h4 h6) G) a9) ab<|m1 h4.s,none,0,0,[],none,0,0,[],aW,aX,z,ii z,onL,onL,V,aY.c ab<|n_ aa h5.lt G.s,q_ aa a8,nd0,al0⟩
 refine Wk<|Wm z ?_
 obtain ⟨b2,b3,ay⟩:=bdS<|ifF a1 hco;refine E z (g_x (α:=Int) a_E (λ_=>a_O<|ii z) b3 z z) ?_;rintro _ I ⟨ac,nf,cg,rfl,s8,hp⟩;refine Rw z<|Wq<|Wm z<|R z (lnR G_ z<|a_.rep hp)<|Rm z<|Wn ?_
 obtain ⟨_,az,a2⟩:=bdS ay;refine Wf (σ:=List Int) (ρ:=Val×Int×(Option<|Int×Int)) (λ(ad:Nat)(L:List Int) a w=>∃(S3:List Nat),Sat 59 [(0,.pointer<|some ⟨b1,o1,none⟩),(4,pt w0.z),(6,pt J.z),(10,vI rr),(12,sl ac nf cg),(39,vI (b2.length:Int)),(40,vI ((ad:Nat):Int))] a/\Cg [H.z] I w/\a_ w S3 (sl ac nf cg) L/\S3.Nodup/\(∀k∈S3,k∈[H.z]∨I.z<=k)) (λ(L:List Int) a w=>∃(S3:List Nat),Sat 59 [(0,.pointer<|some ⟨b1,o1,none⟩),(6,pt J.z),(10,vI rr),(12,sl ac nf cg)] a/\Cg [H.z] I w/\a_ w S3 (sl ac nf cg) L/\S3.Nodup/\(∀k∈S3,k∈[H.z]∨I.z<=k)) (rQ prog fn<|Q21 w0 B) az ?_ ?_ ?_ ?_ ?_
 .exact λ_ q=>⟨[H.z],q.k<|s7 z z z z z z z,cr [H.z] I,hp,a_A,io sr⟩
 .rintro ad L _ b4 _ a3 ⟨S3,aA,sh,ha,hi,hj⟩ aB;refine Wu ?_ aA;refine Ws<|Rl z z z<|Wn<|Wq<|Wc z (λ_=>?_) (λhc=>(a_g a3 hc).elim)
  refine Wk<|Wq<|Wb<|Wm z<|Rw z<|Wg<|RM z z<|Rf z Q_ z<|R z (l0 F_ z<|(((hz.e G).e s8).c sh<|djs<|mm1 hx.lt<|lt_ h6.s G.s).at z) ?_
  obtain ⟨_,b5,aC⟩:=bdS aB;refine RX z (at_ (α:=Int) G_ z_3 z z z (a0.g<|((hd.e G).e s8).c sh<|c_ (or0 (b_ lr) (o_<|zt' O<|lt_ he G.s):∀k∈[H.z],¬B k)) b5) ?_;rintro _ ⟨_,_,_,rfl,b6,b7,_⟩;obtain ⟨rfl,b8⟩:=U_ b7;refine R z (l0 g_3 z<|b6.at0 z) ?_;obtain ⟨b9,ae,aD⟩:=bdS aC;refine RX z (b_I (α:=Int) G_ z_3 z z ha ae) ?_;rintro _ ⟨_,ba,rfl⟩;refine E0 (b_J (α:=Int) z_3 z ba z z z ae ha hi (a_O b8) an_ v_) ?_;rintro _ bb ⟨af,bc,be,bf,bg⟩;refine Wn<|Wg<|R z (inc_ a3 (lt_ (a_.len hp) O_) z z)<|Rm z<|Wl ?_
  have ah:∀k∈S3,k∈[H.z]∨I.z<=k:=or1 hj (io sr)<|j_ lr;exact λ_ q=>⟨b9,(som aD).symm,⟨af,q.k<|s7 z z z z z z z,(cM (cM (cr [H.z] I) sh (io sr):Cg [H.z] I b4) bc ah:Cg [H.z] I bb),be,bf,(or2 bg ah an_ (j_ sh.s):∀k∈af,k∈[H.z]∨I.z<=k)⟩⟩
 .rintro L _ bh ⟨S3,aE,bi,ha,hi,hj⟩;refine Wu ?_ aE;refine Ws<|Rl z z z<|Wn<|Wq<|Wc z (λhc=>(a_h hc).elim) (λ_=>?_)
  exact We<|λ_ q=>⟨rfl,⟨S3,q.k<|s4 z z z z,(cM (cr [H.z] I) bi (io sr):Cg [H.z] I bh),ha,hi,(or1 hj (io sr) (j_ lr):∀k∈S3,k∈[H.z]∨I.z<=k)⟩⟩
 .rintro L bj bk rfl ⟨S3,_,sb,ha,hi,hj⟩;have aF:=elL a2;revert bj;refine Wo<|Wm z<|R z (bP (parts:=[]) (cs:=[vI 0,sN,sN]) a_9 z z)<|RM z z ?_
  have hq:=lt_ he G.s;have ai:∀k∈[H.z],¬B k:=or0 (b_ lr)<|o_<|zt' O hq;have aj:=((hd.e G).e s8).c sb<|c_ ai
  have hk:=lt_ (lt_ hq s8.s) sb.s;have ht:=zt' O hk;obtain ⟨bm,_,_,bn,aG⟩:=t_ aF;refine E z (fc call103 z<|aJ.run (B:=bk.z) (x2:=(⟨0,([]:Bt),([]:List Val)⟩:Val)) bn zr (repS.mono (W.g aj) ht) (repS.mono (Y.g aj) ht) (((a4.e G).e s8).c sb<|(c_ ai) _ hC1b) (zap' ht hC1b) (ii z) onL v_ (nbl an_) onL v_ (nbl an_) an_ (a_.rep ha) aS) ?_;rintro _ _ ⟨ak,al,am,an,ao,ap,aq,ar,au,bo,bp,rfl,bq,br,bs,bt,bu,av,hu,hl⟩
  iterate 3 refine Re z z z ?_
  refine E0 (fs0 (cur':=[vI bm.number,sl al am an,sl ap aq ar]) l_ z z ((((h5.e G).e s8).c sb<|djs<|mm1 h5.lt G.s).c ak<|atp<|nmA (nmN _)<|nmN _) z z z z) ?_;rintro _ _ ⟨bv,bw⟩;have hn:=bw.one;refine Ra z<|Rw z ?_
  obtain rfl:=som aG;have hv:=lt_ (lt_ G.s s8.s) sb.s;exact Wr<|E_ hr (x_ D_ l_ z bv z) z z ⟨bM (bM (bM (bup (bup (bup h4 h6) G) s8) sb<|m1 hq) ak al0) hn<|m1 h4.s,al,am,an,ao,ap,aq,ar,au,bo,bp,z,bq,br.c hn (or1 (al_ hl) al0 (m_ (b_ h5.lt) hv):∀k∈ao,k∉[J.z]),bs.c hn (or1 (ar_ hl) al0 (m_ (b_ h5.lt) hv):∀k∈au,k∉[J.z]),bt,bu.c hn<|n_ av h5.lt hv,q_ av hk,na_ (nl_ hu) (nr_ hu)<|nj hu,aa_ (a_u (al_ hl) al0 hk)<|a_u (ar_ hl) al0 hk⟩
 rintro _ _ _ _ rfl ⟨rfl,aH⟩;have aI:=elR a2;obtain rfl:=som aI;exact ⟨aH,z⟩
theorem T_w1k (ih:f_j n):k_T (h_z n<|a_m n):=by
 obtain ⟨aY,_,_,_,_,_⟩:=ih
 constructor
 intro A0 A6 AE AH A7 N0 C0 N6 C6 b1 o1 NE CE NH CH N7 C7 S2_1 S2_2 B x1 x2 x3 x4 res w0 hm ae aL aM hC1 hC1b aN Y p2_1n p2_1g a0 p2_2n p2_2g p2_2d1 a1 aO;unfold h_z at hm
 refine goG func103 z z z λfn hr=>Ws<|E z (fb z) ?_
 rintro _ wb ⟨rfl,af⟩;have h2:=af.below;have he:Blk wb w0.z [vI x2.number,sl AE NE CE,sl AH NH CH]:=af.blk;refine E z (fa a_k) ?_;rintro _ G ⟨rfl,ah⟩;have W:=ah.below;have hk:Blk G wb.z [vI 0,sN,sN]:=ah.blk;refine Ra z<|Rw z<|Wq<|Wm z ?_
 have ai:=(h2.ag B).e W;refine R z (lnR G_ z<|a1.g ai)<|Rm z<|Wn ?_
 obtain ⟨_,aP,aa⟩:=bdS hm;refine Wf (σ:=Int×(List Val)) (ρ:=Val×Int×(Option<|Int×Int)) (λ(aj:Nat) s a w=>un2 (λxc xh=>∃I J L H,Sat 45 [(0,.pointer<|some ⟨b1,o1,none⟩),(3,vI xc),(5,pt w0.z),(8,pt wb.z),(16,sl A7 N7 C7),(17,vI (x3.length:Int)),(18,vI ((aj:Nat):Int))] a/\Chg (· ∈ (S2_2++[w0.z])) G w/\inI xc/\a_ w H (sl I J L) xh/\H.Nodup/\(∀k∈H,k∈S2_2∨G.z<=k)/\Blk w w0.z [vI x2.number,sl AE NE CE,sl I J L]) s) (λs a w=>un2 (λxc xh=>∃I J L H,Sat 45 [(3,vI xc),(5,pt w0.z),(8,pt wb.z)] a/\Chg (· ∈ (S2_2++[w0.z])) G w/\inI xc/\a_ w H (sl I J L) xh/\H.Nodup/\(∀k∈H,k∈S2_2∨G.z<=k)/\Blk w w0.z [vI x2.number,sl AE NE CE,sl I J L]) s) (rQ prog fn<|Q23 w0 B S2_1 S2_2) aP ?_ ?_ ?_ ?_ ?_
 .exact λ_ q=>⟨AH,NH,CH,S2_2,q.k<|s7 z z z z z z z,cr (S2_2++[w0.z]) G,aO,(a0.e h2).e W,p2_2n,io sr,he.e W⟩
 .rintro aj ⟨xc,xh⟩ _ ak _ ab ⟨I,J,L,H,aQ,s6,hi,hf,hl,hd,hn⟩ aR;refine Wu ?_ aQ;refine Ws<|Rl z z z<|Wn<|Wq<|Wc z (λ_=>?_) (λhc=>(a_g ab hc).elim)
  refine Wk<|Wq<|Wb<|Ws ?_
  obtain ⟨_,aZ,aS⟩:=bdS<|a_M aR;have al:∀k∈[w0.z],¬B k:=or0 (b_ lr)<|o_ ae;have ht:=ai.c s6<|nmA (c_ p2_2g)<|c_ al
  refine RX z (at_ (α:=Int) G_ z_3 z z z (a1.g ht) aZ) ?_;rintro _ ⟨_,_,_,rfl,b0,b2,_⟩;obtain ⟨rfl,b3⟩:=U_ b2;refine R z (l0 g_3 z<|b0.at0 z)<|Rw z<|Wm z<|RM z z ?_
  have hu:=lt_ (lt_ h2.s W.s) s6.s;obtain ⟨ro,b4,_,b5,ad⟩:=t_ aS;refine E z (fc call87 z<|aY.run b5 (zt' ae hu) (aL.g ht) (aM.g ht) (((hC1.e h2).e W).c s6<|(nmA (c_ p2_2g)<|c_ al) _ hC1b) hC1b b3 hi) ?_;rintro _ wm ⟨sa,ar,ns,cv,am,aw,nx,cy,an,b6,b7,rfl,b8,hp,hq,b9,ao,ap,hz,hj⟩;refine Rm z ?_
  iterate 3 refine Re z z z ?_
  refine E z (fa a_k) ?_;rintro _ a4 ⟨rfl,aq⟩;have O:=aq.below;refine E0 (fs0 (cur':=[vI ro.number,sl ar ns cv,sl aw nx cy]) l_ z z (aq.blk:Blk a4 wm.z [vI 0,sN,sN]) z z z z) ?_;rintro _ a5 ⟨ba,bb⟩;have V:=bb.one;refine Ra z<|Rw z<|Wq<|Wm z ?_
  have au:=(ao.e O).c V<|ds<|mnr<|b_0.lt ao
  refine R z (d_J e_5 z z au)<|Wx z (λa2=>?_) (λa2=>?_)
  .refine Ws<|R z (bP (parts:=[]) (cs:=[vI 0,sN,sN]) a_9 z z)<|RM z z ?_
   refine E0 (fs0 (cur':=[vI 0,sN,sN]) l_ z z ((((hk.c s6<|atp<|nmA (mno (a_.lt a0) h2.s)<|mmr he.lt).e sa).e O).c V<|djs<|mm1 hk.lt<|lt_ s6.s sa.s) z z z z) ?_;rintro _ bc ⟨be,bf⟩;have av:=bf.one;refine Ra z<|Rw z ?_
   exact Wr<|rtO<|qL (som<|ifT ad a2).symm<|E_ hr (x_ D_ l_ z be z) z z ⟨(cM (cM (e_ (e_ (cM (e_ (e_ (cr (S2_1++S2_2) w0) h2:Chg (· ∈ (S2_1++S2_2)) w0 wb) W:Chg (· ∈ (S2_1++S2_2)) w0 G) s6 (aa_ (io<|f_ sr) (mor lr:∀k∈[w0.z],k∈(S2_1++S2_2)∨w0.z<=k)):Chg (· ∈ (S2_1++S2_2)) w0 ak) sa:Chg (· ∈ (S2_1++S2_2)) w0 wm) O:Chg (· ∈ (S2_1++S2_2)) w0 a4) V (mor (lt_ hu sa.s):∀k∈[wm.z],k∈(S2_1++S2_2)∨w0.z<=k):Chg (· ∈ (S2_1++S2_2)) w0 a5) av (mor h2.s:∀k∈[wb.z],k∈(S2_1++S2_2)∨w0.z<=k):Chg (· ∈ (S2_1++S2_2)) w0 bc),none,0,0,[],none,0,0,[],b6,b7,z,ii z,onL,onL,hi,au.c av<|n_ ap hk.lt s6.s,q_ ap hu,nd0,al0⟩
  refine Wk<|Ws<|Rf z b_p z ?_
  have a6:=lt_ W.s s6.s;have ax:=lt_ a6 sa.s;have ay:=((hn.e sa).e O).c V<|djs<|mm1 he.lt ax
  refine R z (l0 c_5 z<|ay.at z)<|R z (lN (vs:=[vI ro.number,sl ar ns cv,sl aw nx cy]) D_ l_ z z fid<|ba.row 0 3 z)<|E z (fS [(.tmp 37)] d_c z z z (L_ z) (lb z)<|lb z) ?_
  rintro _ az ⟨rfl,aA⟩;have hg:=aA.below;have bw:=(hp.e O).c V<|ds<|mnr<|a_.lt hp
  have bx:=(hq.e O).c V<|ds<|mnr<|a_.lt hq
  obtain ⟨bg,bh,aT⟩:=bdS<|ifF ad a2;refine E z (a_e (α:=Val) d_c bh z z ((((hf.e sa).e O).c V<|ds<|mno (a_.lt hf) sa.s).e hg) hl (aA.blk:Blk az a5.z [vI ro.number,sl ar ns cv,sl aw nx cy]) (f_h (x:=ro) (S1:=am) (S2:=an) b8 (((hp.e O).c V<|ds<|mnr<|a_.lt hp).e hg)<|((hq.e O).c V<|ds<|mnr<|a_.lt hq).e hg) (aa_ (c_z (al_ hj) (a_.lt hf) lr)<|c_z (ar_ hj) (a_.lt hf) lr)<|na_ (nl_ hz) (nr_ hz)<|nj hz) ?_;rintro _ bi ⟨a7,aB,aC,aD,rfl,aE,bj,bk,aF⟩;refine Rf z b_p z ?_;have aG:∀k∈H,k∉[w0.z]:=or1 hd (ds<|mnr<|a_.lt a0)<|m_ (b_ he.lt) W.s;refine E0 (fs0 (cur':=[vI x2.number,sl AE NE CE,sl aB aC aD]) f_i z z ((ay.e hg).c aE<|djs aG) z z z z) ?_;rintro _ bm ⟨bn,bo⟩;have aH:=bo.one;refine Wn<|Wg<|Rm z<|Rw z<|Wg<|R z (inc_ ab (lt_ (repS.len a1) O_) z z)<|Rm z<|Wl ?_
  have aI:=lt_ s6.s sa.s;exact λ_ q=>⟨(b4,bg),(som aT).symm,⟨aB,aC,aD,a7,q.k<|s7 z z z z z z z,(cM (cM (e_ (cM (e_ (e_ (cM (cr (S2_2++[w0.z]) G) s6 (aa_ (io<|i_ sr)<|io<|f_ sr):Chg (· ∈ (S2_2++[w0.z])) G ak) sa:Chg (· ∈ (S2_2++[w0.z])) G wm) O:Chg (· ∈ (S2_2++[w0.z])) G a4) V (mor aI:∀k∈[wm.z],k∈(S2_2++[w0.z])∨G.z<=k):Chg (· ∈ (S2_2++[w0.z])) G a5) hg:Chg (· ∈ (S2_2++[w0.z])) G az) aE (or1 hd (io<|i_ sr) (j_ lr):∀k∈H,k∈(S2_2++[w0.z])∨G.z<=k):Chg (· ∈ (S2_2++[w0.z])) G bi) aH (io<|f_ sr):Chg (· ∈ (S2_2++[w0.z])) G bm),b9,bj.c aH (or2 aF aG (aa_ (n_ (al_ hj) he.lt a6)<|n_ (ar_ hj) he.lt a6) (m_ (b_ he.lt)<|lt_ (lt_ (lt_ ax O.s) V.s) hg.s):∀k∈a7,k∉[w0.z]),bk,(or2 aF (or1 hd (io sr) (j_ lr):∀k∈H,k∈S2_2∨G.z<=k) (aa_ (or0 (al_ hj) (j_ s6.s):∀k∈am,k∈S2_2∨G.z<=k) (or0 (ar_ hj) (j_ s6.s):∀k∈an,k∈S2_2∨G.z<=k)) (j_<|lt_ (lt_ (lt_ aI O.s) V.s) hg.s):∀k∈a7,k∈S2_2∨G.z<=k),bn⟩⟩
 .rintro ⟨xc,xh⟩ _ bp ⟨I,J,L,H,aU,bq,hi,hf,hl,hd,hn⟩;refine Wu ?_ aU;refine Ws<|Rl z z z<|Wn<|Wq<|Wc z (λhc=>(a_h hc).elim) (λ_=>?_)
  exact We<|λ_ q=>⟨rfl,⟨I,J,L,H,q.k<|s3 z z z,(cM (cr (S2_2++[w0.z]) G) bq (aa_ (io<|i_ sr)<|io<|f_ sr):Chg (· ∈ (S2_2++[w0.z])) G bp),hi,hf,hl,(or1 hd (io sr) (j_ lr):∀k∈H,k∈S2_2∨G.z<=k),hn⟩⟩
 .rintro ⟨xc,xh⟩ br bs rfl ⟨I,J,L,H,_,a8,hi,hf,hl,hd,hn⟩;have aV:=elL aa;revert br;refine Wo<|Ws<|R z (lN (vs:=[vI x2.number,sl AE NE CE,sl I J L]) D_ l_ z z fid<|hn.row 0 3 z)<|Rm z ?_
  have aJ:=mno (a_.lt a0) h2.s;refine E0 (fs0 (cur':=[vI x2.number,sl AE NE CE,sl I J L]) l_ z z (hk.c a8<|atp<|nmA aJ<|mmr he.lt) z z z z) ?_;rintro _ bt ⟨bu,bv⟩;have a9:=bv.one;refine Ra z<|Rw z ?_
  obtain rfl:=som<|a_M aV;have aK:=lt_ h2.s W.s;exact Wr<|E_ hr (x_ D_ l_ z bu z) z z ⟨(cM (cM (e_ (e_ (cr (S2_1++S2_2) w0) h2:Chg (· ∈ (S2_1++S2_2)) w0 wb) W:Chg (· ∈ (S2_1++S2_2)) w0 G) a8 (aa_ (io<|f_ sr) (mor lr:∀k∈[w0.z],k∈(S2_1++S2_2)∨w0.z<=k)):Chg (· ∈ (S2_1++S2_2)) w0 bs) a9 (mor h2.s:∀k∈[wb.z],k∈(S2_1++S2_2)∨w0.z<=k):Chg (· ∈ (S2_1++S2_2)) w0 bt),AE,NE,CE,S2_1,I,J,L,H,.nilIface,([]:List Nat),z,aN,(((Y.e h2).e W).c a8<|nmA (ds p2_2d1)<|ds<|mnr<|a_.lt Y).c a9<|ds<|mno (a_.lt Y) h2.s,hf.c a9 (or1 hd (ds aJ) (m_ (b_ hk.lt) lr):∀k∈H,k∉[wb.z]),hi,e_h,an_,na_ p2_1n hl<|ds<|o1no hd p2_2d1 (a_.lt Y) aK,aa_ (io<|i_ sr) (or1 hd (io<|f_ sr) (j_ aK):∀k∈H,k∈(S2_1++S2_2)∨w0.z<=k)⟩
 rintro _ _ _ _ rfl ⟨rfl,aW⟩;have aX:=elR aa;obtain rfl:=som aX;exact ⟨aW,z⟩
theorem T_w1l (ih:f_j n):k_U (h_A n<|a_m n):=by
 obtain ⟨_,_,ar,_,_,_⟩:=ih
 constructor
 intro A0 A6 A2 A3 A1 A4 N0 C0 N6 C6 b1 o1 N2 C2 N3 C3 N1 C1 N4 C4 B x1 x2 x3 res w0 hm Y a0 a1 hC1 hC1b b7 b8 b9 ba bb J a2 L;unfold h_A at hm
 refine goG func104 z z z λfn hr=>Ws<|E z (fb z) ?_
 rintro _ H ⟨rfl,hk⟩;have h1:=hk.below;refine E z (fa a_k) ?_;rintro _ au ⟨rfl,hl⟩;have h4:=hl.below;have h2:Blk au H.z [vI 0,sN,sN]:=hl.blk;refine Ra z<|Rw z<|Wm z<|Rf z Q_ z ?_
 have hn:=(hk.blk:Blk H w0.z (vR x2 A2 N2 C2 A3 N3 C3 A1 N1 C1 A4 N4 C4)).e h4;refine R z (l0 F_ z<|hn.at z) ?_;obtain ⟨_,av,af⟩:=bdS hm;have O:=(h1.ag B).e h4;refine RX z (at_ (α:=Int) G_ z_3 z z z (a2.g O) av) ?_;rintro _ ⟨_,_,_,rfl,aw,ax,_⟩;obtain ⟨rfl,az⟩:=U_ ax;refine R z (l0 g_3 z<|aw.at0 z)<|Rm z ?_
 have ho:=(hC1.e h1).e h4;have V:=lt_ h1.s h4.s;obtain ⟨re,aA,_,aB,hmm⟩:=t_ af;refine E z (fc call99 z<|j_t aB (zt' Y V) (a0.g O) (a1.g O) ho hC1b az L) ?_;rintro _ I ⟨G,aC,aD,rfl,aE,aF,hp,hq⟩;refine Rm z ?_
 iterate 3 refine Re z z z ?_
 refine RA z z<|Rw z<|Wq<|Wm z<|R z (d_J e_5 z z hp)<|Wx z (λhcf=>?_) (λhcf=>?_)
 .refine Ws<|R z (bP (parts:=[]) (cs:=[vI 0,sN,sN]) a_9 z z)<|RM z z<|E0 (fs0 (cur':=[vI 0,sN,sN]) l_ z z (h2.e G) z z z z) ?_
  rintro _ _ ⟨aG,aH⟩;have ht:=aH.one;refine Ra z<|Rw z ?_
  obtain rfl:=som<|ifT hmm hcf;exact Wr<|E_ hr (x_ D_ l_ z aG z) z z ⟨bM (bup (bup h1 h4) G) ht<|m1 h1.s,none,0,0,[],none,0,0,[],aC,aD,z,ii z,onL,onL,L,hp.c ht<|n_ hq h2.lt lr,q_ hq V,nd0,al0⟩
 refine Wk<|Wq<|Ws<|Rf z b_3 z ?_
 have hu:=hn.e G;refine R z (l0 F_ z<|hu.at z) ?_;have hv:=O.e G;refine R z (lnR G_ z<|J.g hv)<|Rm z<|Wn ?_
 obtain ⟨_,ah,hmr⟩:=bdS<|ifF hmm hcf;refine Wf (σ:=Unit) (ρ:=Val×Int×(Option<|Int×Int)) (λ(ks:Nat)(_:Unit) a w=>Sat 61 [(0,.pointer<|some ⟨b1,o1,none⟩),(2,vI x3),(4,pt w0.z),(6,pt H.z),(9,vI re),(10,vI aA),(31,sl A1 N1 C1),(32,vI (x2.tags.length:Int)),(33,vI ((ks:Nat):Int))] a/\Below I.z I w) (λ(_:Unit) a w=>Sat 61 [(2,vI x3),(6,pt H.z)] a/\Below I.z I w) (rQ prog fn<|Q21 w0 B) ah ?_ ?_ ?_ ?_ ?_
 .exact λ_ q=>⟨q.k<|s9 z z z z z z z z z,br I⟩
 .rintro ks _ _ _ _ hkg ⟨ai,s3⟩ aj;refine Wu ?_ ai;refine Ws<|Rl z z z<|Wn<|Wq<|Wc z (λ_=>?_) (λhc=>(a_g hkg hc).elim)
  refine Wk<|Wq<|Wb<|Wm z ?_
  obtain ⟨_,aI,hmw⟩:=bdS aj;have W:=hv.e s3;refine RX z (at_ (α:=Int) G_ z_3 z z z (J.g W) aI) ?_;rintro _ ⟨_,_,_,rfl,aJ,aK,_⟩;obtain ⟨rfl,_⟩:=U_ aK;refine R z (l0 g_3 z<|aJ.at0 z)<|Ra z<|Rw z<|Wm z<|Rm z<|Rq z z z<|Wx z (λhch=>?_) (λhch=>?_)
  .refine Wm z<|Rm z<|R z (bP (parts:=[(0,.tmp 42)]) (cs:=[vI re,sN,sN]) a_9 z z)<|Rf z Q_ z<|R z (l0 F_ z<|(hu.e s3).at z)<|Rm z<|R z (inc_ hkg (lt_ (repS.len J) O_) z z)<|Rm z<|R z (add_ z z) ?_
   obtain ⟨_,aL,ak⟩:=bdS<|ifT hmw hch;refine RX z (rX G_ z_3 z z (a2.g W) z z aL) ?_;rintro _ ⟨_,_,_,rfl,aM⟩;refine Rm z ?_;have ha:=lt_ (lt_ V G.s) s3.s;obtain ⟨aN,_,_,aO,al⟩:=t_ ak;refine E z (fc call103 z<|ar.run (B:=B) (x2:=(⟨re,([]:Bt),([]:List Val)⟩:Val)) aO (zt' Y ha) (a0.g W) (a1.g W) ((ho.e G).e s3) hC1b aE onL v_ an_ onL v_ an_ an_ aM aF) ?_;rintro _ _ ⟨sx,ay,nz,a3,a4,a5,a6,a7,a8,aP,aQ,rfl,aR,aS,aT,aU,aV,a9,hi,hb⟩
   iterate 3 refine Re z z z ?_
   refine E0 (fs0 (cur':=[vI aN.number,sl ay nz a3,sl a5 a6 a7]) l_ z z (((h2.e G).e s3).c sx<|atp<|nmA (nmN _)<|nmN _) z z z z) ?_;rintro _ _ ⟨aW,aX⟩;have hd:=aX.one;refine Ra z<|Rw z ?_
   have hj:=lt_ G.s s3.s;exact Wr<|rtO<|qL (som al).symm<|E_ hr (x_ D_ l_ z aW z) z z ⟨bM (bM (bup (bup (bup h1 h4) G) s3) sx al0) hd<|m1 h1.s,ay,nz,a3,a4,a5,a6,a7,a8,aP,aQ,z,aR,aS.c hd (or1 (al_ hb) al0 (m_ (b_ h2.lt) hj):∀k∈a4,k∉[H.z]),aT.c hd (or1 (ar_ hb) al0 (m_ (b_ h2.lt) hj):∀k∈a8,k∉[H.z]),aU,aV.c hd<|n_ a9 h2.lt hj,q_ a9 ha,na_ (nl_ hi) (nr_ hi)<|nj hi,aa_ (a_u (al_ hb) al0 ha)<|a_u (ar_ hb) al0 ha⟩
  exact Wk<|Wg<|R z (inc_ hkg (lt_ (repS.len J) O_) z z)<|Rm z<|Wl (λ_ q=>⟨(),(som<|ifF hmw hch).symm,⟨q.k<|s9 z z z z z z z z z,s3⟩⟩)
 .rintro _ _ _ ⟨am,aY⟩;refine Wu ?_ am;refine Ws<|Rl z z z<|Wn<|Wq<|Wc z (λhc=>(a_h hc).elim) (λ_=>?_)
  exact We<|λ_ q=>⟨rfl,⟨q.k<|s2 z z,aY⟩⟩
 .rintro _ aZ _ rfl ⟨_,sc⟩;have an:=elL hmr;revert aZ;refine Wo<|Ws<|R z (bP (parts:=[]) (cs:=[vI 0,sN,sN]) a_9 z z)<|RM z z ?_
  have aa:=lt_ (lt_ V G.s) sc.s;obtain ⟨_,b0,ao⟩:=bdS an;refine E z (fc call108 z<|e_G b0 (zt' Y aa) L<|ii z) ?_;rintro _ _ ⟨ab,b2,b3,rfl,b4,ad⟩;refine E0 (fs0 (cur':=[vI 0,sN,sN]) l_ z z (((h2.e G).e sc).e ab) z z z z) ?_;rintro _ _ ⟨b5,b6⟩;have ae:=b6.one;refine Ra z<|Rw z ?_
  obtain rfl:=som ao;exact Wr<|E_ hr (x_ D_ l_ z b5 z) z z ⟨bM (bup (bup (bup (bup h1 h4) G) sc) ab) ae<|m1 h1.s,none,0,0,[],none,0,0,[],b2,b3,z,ii z,onL,onL,L,b4.c ae<|n_ ad h2.lt<|lt_ G.s sc.s,q_ ad aa,nd0,al0⟩
 rintro _ _ _ _ rfl ⟨rfl,ap⟩;have aq:=elR hmr;obtain rfl:=som aq;exact ⟨ap,z⟩
theorem T_w1m (ih:f_j n):k_V (h_B n<|a_m n):=by
 obtain ⟨_,_,a6,_,_,_⟩:=ih
 constructor
 intro A0 A6 A2 A3 A1 A4 N0 C0 N6 C6 b1 o1 N2 C2 N3 C3 N1 C1 N4 C4 B x1 x2 x3 res w0 hm O W Y hC1 hC1b aI aJ aK aL aM aN a3 H;unfold h_B at hm
 refine goG func105 z z z λfn hr=>Ws<|E z (fb z) ?_
 rintro _ I ⟨rfl,hf⟩;have h1:=hf.below;refine E z (fa a_k) ?_;rintro _ a7 ⟨rfl,hg⟩;have h3:=hg.below;have h2:Blk a7 I.z [vI 0,sN,sN]:=hg.blk;refine Ra z<|Rw z<|Wm z<|Rm z ?_
 have hh:=(hC1.e h1).e h3;have V:=(h1.ag B).e h3;have h5:=lt_ h1.s h3.s;obtain ⟨_,_,a8,hmi⟩:=a_v hm;refine E z (fc call129 z<|j_s a8 (zt' O h5) (W.g V) (Y.g V) hh hC1b H<|ii z) ?_;rintro _ _ ⟨G,_,_,_,a9,aa,rfl,hj,hk,hl⟩;refine Rm z<|Re z z z<|Re z z z<|Ra z<|Rw z<|Wq<|Wb<|Wm z<|R z (d_J e_5 z z hk)<|Rw z<|Wc z (λhca=>?_) (λhca=>?_)
 .refine Ws<|R z (bP (parts:=[]) (cs:=[vI 0,sN,sN]) a_9 z z)<|RM z z<|E0 (fs0 (cur':=[vI 0,sN,sN]) l_ z z (h2.e G) z z z z) ?_
  rintro _ _ ⟨ab,ad⟩;have hn:=ad.one;refine Ra z<|Rw z ?_
  obtain rfl:=som<|ifT hmi hca;exact Wr<|rtO<|E_ hr (x_ D_ l_ z ab z) z z ⟨bM (bup (bup h1 h3) G) hn<|m1 h1.s,none,0,0,[],none,0,0,[],a9,aa,z,ii z,onL,onL,H,hk.c hn<|n_ hl h2.lt lr,q_ hl h5,nd0,al0⟩
 refine Wm z ?_
 obtain ⟨_,ae,hmm⟩:=bdS<|ifF hmi hca;refine RX z (at_ (α:=UInt8) w_ z_5 z z z hj ae) ?_;rintro _ ⟨_,_,_,rfl,af,ah,_⟩;obtain rfl:=u8 ah;refine R z (l0 g_5 z<|af.at0 z)<|R z (a_b z z)<|Rw z<|Wc z (λhcb=>?_) (λhcb=>?_)
 .refine Ws<|R z (bP (parts:=[]) (cs:=[vI 0,sN,sN]) a_9 z z)<|RM z z ?_
  have ho:=lt_ h5 G.s;obtain ⟨_,ai,a4⟩:=bdS<|ifT hmm hcb;refine E z (fc call108 z<|e_G ai (zt' O ho) H<|ii z) ?_;rintro _ _ ⟨sp,aj,ak,rfl,al,hq⟩;refine E0 (fs0 (cur':=[vI 0,sN,sN]) l_ z z ((h2.e G).e sp) z z z z) ?_;rintro _ _ ⟨am,an⟩;have ht:=an.one;refine Ra z<|Rw z ?_
  obtain rfl:=som a4;exact Wr<|rtO<|E_ hr (x_ D_ l_ z am z) z z ⟨bM (bup (bup (bup h1 h3) G) sp) ht<|m1 h1.s,none,0,0,[],none,0,0,[],aj,ak,z,ii z,onL,onL,H,al.c ht<|n_ hq h2.lt G.s,q_ hq ho,nd0,al0⟩
 refine Wm z ?_
 obtain ⟨_,ao,hmr⟩:=bdS<|ifF hmm hcb;refine RX z (at_ (α:=UInt8) w_ z_5 z z z hj ao) ?_;rintro _ ⟨_,_,_,rfl,ap,aq,_⟩;obtain rfl:=u8 aq;refine R z (l0 g_5 z<|ap.at0 z)<|Rq z z z<|Rw z<|Wc z (λhcc=>?_) (λhcc=>?_)
 .refine Ws<|R z (bP (parts:=[]) (cs:=[vI 0,sN,sN]) a_9 z z)<|Rm z<|R z (add_ z z)<|E0 (fs0 (cur':=[vI 0,sN,sN]) l_ z z (h2.e G) z z z z) ?_
  rintro _ _ ⟨ar,av⟩;refine Ra z<|Rw z ?_
  obtain rfl:=som<|ifT hmr hcc;exact Wr<|rtO<|E_ hr (x_ D_ l_ z ar z) z z ⟨bM (bup (bup h1 h3) G) av.one<|m1 h1.s,none,0,0,[],none,0,0,[],.nilIface,([]:List Nat),z,ii z,onL,onL,iA _ _,e_h,an_,nd0,al0⟩
 refine Wk<|Wm z<|R z (bP (parts:=[]) (cs:=[vI 0,sN,sN]) a_9 z z)<|Rf z Q_ z<|R z (l0 F_ z<|(((hf.blk:Blk I w0.z (vR x2 A2 N2 C2 A3 N3 C3 A1 N1 C1 A4 N4 C4)).e h3).e G).at z)<|Rm z<|R z (add_ z z) ?_
 have hd:=V.e G;have h6:=lt_ h5 G.s;obtain ⟨aw,_,_,ax,a5⟩:=t_<|ifF hmr hcc;refine E z (fc call103 z<|a6.run (B:=B) (x2:=(⟨0,([]:Bt),([]:List Val)⟩:Val)) ax (zt' O h6) (W.g hd) (Y.g hd) (hh.e G) hC1b (ii z) onL v_ an_ onL v_ an_ an_ (a3.g hd)<|iA _ _) ?_;rintro _ _ ⟨ss,au,nv,cw,Sx,ay,nz,a0,a1,az,aA,rfl,aB,aC,aD,aE,aF,a2,he,J⟩
 iterate 3 refine Re z z z ?_
 refine E0 (fs0 (cur':=[vI aw.number,sl au nv cw,sl ay nz a0]) l_ z z ((h2.e G).c ss<|atp<|nmA (nmN _)<|nmN _) z z z z) ?_;rintro _ _ ⟨aG,aH⟩;have L:=aH.one;refine Ra z<|Rw z ?_
 obtain rfl:=som a5;exact Wr<|E_ hr (x_ D_ l_ z aG z) z z ⟨bM (bM (bup (bup h1 h3) G) ss al0) L<|m1 h1.s,au,nv,cw,Sx,ay,nz,a0,a1,az,aA,z,aB,aC.c L (or1 (al_ J) al0 (m_ (b_ h2.lt) G.s):∀k∈Sx,k∉[I.z]),aD.c L (or1 (ar_ J) al0 (m_ (b_ h2.lt) G.s):∀k∈a1,k∉[I.z]),aE,aF.c L<|n_ a2 h2.lt G.s,q_ a2 h6,na_ (nl_ he) (nr_ he)<|nj he,aa_ (a_u (al_ J) al0 h6)<|a_u (ar_ J) al0 h6⟩
theorem T_w1n (ih:f_j n):k_W (h_C n<|a_m n):=by
 obtain ⟨_,_,ap,_,_,_⟩:=ih
 constructor
 intro A0 A6 A2 A3 A1 A4 N0 C0 N6 C6 b1 o1 N2 C2 N3 C3 N1 C1 N4 C4 B x1 x2 x3 res w0 hm J V O hC1 hC1b aW aX aY aZ b0 b2 al L;unfold h_C at hm
 refine goG func106 z z z λfn hr=>Ws<|E z (fb z) ?_
 rintro _ wb ⟨rfl,hu⟩;have h6:=hu.below;refine E z (fa a_k) ?_;rintro _ aq ⟨rfl,hv⟩;have H:=hv.below;have h3:Blk aq wb.z [vI 0,sN,sN]:=hv.blk;refine Ra z<|Rw z<|Wm z<|R z (bP (parts:=[]) (cs:=[vI 0,sN,sN]) a_9 z z)<|Rf z Q_ z<|R z (l0 F_ z<|((hu.blk:Blk wb w0.z (vR x2 A2 N2 C2 A3 N3 C3 A1 N1 C1 A4 N4 C4)).e H).at z)<|Rm z ?_
 have hw:=(hC1.e h6).e H;have hc:=(h6.ag B).e H;have I:=lt_ h6.s H.s;obtain ⟨rk,_,_,ar,hmr⟩:=t_ hm;refine E z (fc call103 z<|ap.run (B:=B) (x2:=(⟨0,([]:Bt),([]:List Val)⟩:Val)) ar (zt' J I) (V.g hc) (O.g hc) hw hC1b (ii z) onL v_ an_ onL v_ an_ an_ (al.g hc) L) ?_;rintro _ ws ⟨G,ad,ne,cf,Sx,ah,ng,ci,Sy,au,av,rfl,aw,hz,a0,a1,a2,a3,hl,hj⟩;refine Rm z ?_
 iterate 3 refine Re z z z ?_
 refine E z (fa a_k) ?_;rintro _ ax ⟨rfl,a4⟩;have h1:=a4.below;refine E0 (fs0 (cur':=[vI rk.number,sl ad ne cf,sl ah ng ci]) l_ z z (a4.blk:Blk ax ws.z [vI 0,sN,sN]) z z z z) ?_;rintro _ _ ⟨ay,az⟩;have h2:=az.one;refine Ra z<|Rw z<|Wq<|Wm z ?_
 have a5:=(a2.e h1).c h2<|ds<|mnr<|b_0.lt a2
 refine R z (d_J e_5 z z a5)<|Wx z (λhcm=>?_) (λhcm=>?_)
 .refine Ws<|R z (bP (parts:=[]) (cs:=[vI 0,sN,sN]) a_9 z z)<|RM z z<|E0 (fs0 (cur':=[vI 0,sN,sN]) l_ z z (((h3.c G<|atp<|nmA (nmN _)<|nmN _).e h1).c h2<|djs<|mm1 h3.lt G.s) z z z z) ?_
  rintro _ _ ⟨aA,aB⟩;have a6:=aB.one;refine Ra z<|Rw z ?_
  obtain rfl:=som<|ifT hmr hcm;exact Wr<|E_ hr (x_ D_ l_ z aA z) z z ⟨bM (bM (bup (bM (bup h6 H) G al0) h1) h2<|m1<|lt_ I G.s) a6<|m1 h6.s,none,0,0,[],none,0,0,[],au,av,z,ii z,onL,onL,L,a5.c a6<|n_ a3 h3.lt lr,q_ a3 I,nd0,al0⟩
 refine Wk<|Wm z<|Rm z ?_
 have ha:=lt_ I G.s;have a7:∀k∈[ws.z],¬B k:=or0 (b_ lr)<|o_<|zt' J ha;have a8:=((hw.c G<|(nmA (c_ an_)<|c_ an_) _ hC1b).e h1).c h2<|(c_ a7) _ hC1b
 have hn:=((hc.c G<|nmA (c_ an_)<|c_ an_).e h1).c h2<|c_ a7
 have ho:=lt_ (lt_ ha h1.s) h2.s;obtain ⟨_,_,aC,W⟩:=a_v<|ifF hmr hcm;refine E z (fc call129 z<|j_s aC (zt' J ho) (V.g hn) (O.g hn) a8 hC1b a1<|ii z) ?_;rintro _ _ ⟨s4,_,_,_,aD,aE,rfl,aF,a9,aa⟩;refine Rm z<|Re z z z<|Re z z z<|Ra z<|Rw z<|Wq<|Wm z<|R z (d_J e_5 z z a9)<|Wx z (λhcp=>?_) (λhcp=>?_)
 .refine Ws<|R z (bP (parts:=[]) (cs:=[vI 0,sN,sN]) a_9 z z)<|RM z z<|E0 (fs0 (cur':=[vI 0,sN,sN]) l_ z z ((((h3.c G<|atp<|nmA (nmN _)<|nmN _).e h1).c h2<|djs<|mm1 h3.lt G.s).e s4) z z z z) ?_
  rintro _ _ ⟨aG,aH⟩;have ab:=aH.one;refine Ra z<|Rw z ?_
  obtain rfl:=som<|ifT W hcp;exact Wr<|E_ hr (x_ D_ l_ z aG z) z z ⟨bM (bup (bM (bup (bM (bup h6 H) G al0) h1) h2<|m1 ha) s4) ab<|m1 h6.s,none,0,0,[],none,0,0,[],aD,aE,z,ii z,onL,onL,L,a9.c ab<|n_ aa h3.lt<|lt_ (lt_ G.s h1.s) h2.s,q_ aa ho,nd0,al0⟩
 refine Wk<|Wq<|Wq (Wd (X:=noX) 0 (pl_ 13 [11]) mo (by kernel_rfl) λb3 s5 _=>dM z z z ?_)
 obtain ⟨_,aI,am⟩:=bdS<|ifF W hcp;refine dRX z z (at_ (α:=UInt8) w_ z_5 z z z (aF.e s5) aI) ?_;rintro _ ⟨_,_,_,rfl,aJ,aK,_⟩;obtain rfl:=u8 aK;refine dR z z (l0 g_5 z<|aJ.at0 z)<|dR z z (c_8 d_5 d_3 z)<|dM z z z<|dR z z (Y_ z)<|dR z z (fd g_c z)<|dR z z (l0 a_0 z<|((a8.e s4).e s5).at (j:=1) z)<|dM z z z<|dM z z z ?_
 obtain ⟨_,aL,an⟩:=bdS am;refine dRX z z (rX w_ z_5 z z (O.g<|(hn.e s4).e s5) z z aL) ?_;rintro _ ⟨_,_,_,rfl,aM⟩;have ae:=lt_ (lt_ ho s4.s) s5.s;obtain ⟨_,aN,Y⟩:=bdS an;refine dE z z (fc call130 z<|W_w1h aN (zt' J ae) aM) (.inr λ_ _ h=>y_<|h.1) ?_;rintro _ _ ⟨s7,rfl,_⟩;refine dR z z (nq z z)<|pD<|Wo<|Wc z (λhcq=>?_) (λhcq=>?_)
 .refine Ws<|R z (bP (parts:=[]) (cs:=[vI 0,sN,sN]) a_9 z z)<|RM z z ?_
  have af:=lt_ ae s7.s;obtain ⟨_,aO,ao⟩:=bdS<|ifT Y hcq;refine E z (fc call108 z<|e_G aO (zt' J af) a1<|ii z) ?_;rintro _ _ ⟨ai,aP,aQ,rfl,aR,aj⟩;refine E0 (fs0 (cur':=[vI 0,sN,sN]) l_ z z (((((((h3.c G<|atp<|nmA (nmN _)<|nmN _).e h1).c h2<|djs<|mm1 h3.lt G.s).e s4).e s5).e s7).e ai) z z z z) ?_;rintro _ _ ⟨aS,aT⟩;have ak:=aT.one;refine Ra z<|Rw z ?_
  obtain rfl:=som ao;exact Wr<|E_ hr (x_ D_ l_ z aS z) z z ⟨bM (bup (bup (bup (bup (bM (bup (bM (bup h6 H) G al0) h1) h2<|m1 ha) s4) s5) s7) ai) ak<|m1 h6.s,none,0,0,[],none,0,0,[],aP,aQ,z,ii z,onL,onL,L,aR.c ak<|n_ aj h3.lt<|lt_ (lt_ (lt_ (lt_ (lt_ G.s h1.s) h2.s) s4.s) s5.s) s7.s,q_ aj af,nd0,al0⟩
 refine Wk<|Ws<|R z (lN (vs:=[vI rk.number,sl ad ne cf,sl ah ng ci]) D_ l_ z z fid<|(((ay.e s4).e s5).e s7).row 0 3 z)<|Rm z<|R z (add_ z z)<|E0 (fs0 (cur':=[vI rk.number,sl ad ne cf,sl ah ng ci]) l_ z z ((((((h3.c G<|atp<|nmA (nmN _)<|nmN _).e h1).c h2<|djs<|mm1 h3.lt G.s).e s4).e s5).e s7) z z z z) ?_
 rintro _ _ ⟨aU,aV⟩;have ht:=aV.one;refine Ra z<|Rw z ?_
 obtain rfl:=som<|ifF Y hcq;exact Wr<|E_ hr (x_ D_ l_ z aU z) z z ⟨bM (bup (bup (bup (bM (bup (bM (bup h6 H) G al0) h1) h2<|m1 ha) s4) s5) s7) ht<|m1 h6.s,ad,ne,cf,Sx,ah,ng,ci,Sy,.nilIface,([]:List Nat),z,aw,(((((hz.e h1).c h2<|ds<|mnr<|a_.lt hz).e s4).e s5).e s7).c ht (or1 (al_ hj) al0 (m_ (b_ h3.lt) lr):∀k∈Sx,k∉[wb.z]),(((((a0.e h1).c h2<|ds<|mnr<|a_.lt a0).e s4).e s5).e s7).c ht (or1 (ar_ hj) al0 (m_ (b_ h3.lt) lr):∀k∈Sy,k∉[wb.z]),iA _ _,e_h,an_,na_ (nl_ hl) (nr_ hl)<|nj hl,aa_ (a_u (al_ hj) al0 I)<|a_u (ar_ hj) al0 I⟩
theorem c_W:∀n,f_j n
  | 0=>⟨⟨λhm=>by intros;exact nomatch (show none=some _ from hm)⟩,⟨λhm=>by intros;exact nomatch (show none=some _ from hm)⟩,⟨λhm=>by intros;exact nomatch (show none=some _ from hm)⟩,⟨λhm=>by intros;exact nomatch (show none=some _ from hm)⟩,⟨λhm=>by intros;exact nomatch (show none=some _ from hm)⟩,⟨λhm=>by intros;exact nomatch (show none=some _ from hm)⟩⟩
  | n+1=>⟨T_w03<|c_W n,T_w1j<|c_W n,T_w1k<|c_W n,T_w1l<|c_W n,T_w1m<|c_W n,T_w1n<|c_W n⟩
theorem W_w03:k_R (a_m n).impl_fileReader_value:=(c_W n).1
theorem W_w1j:k_S (a_m n).impl_fileReader_array:=(c_W n).2.1
theorem W_w1k:k_T (a_m n).impl_fileReader_items:=(c_W n).2.2.1
theorem W_w1l:k_U (a_m n).impl_fileReader_choice:=(c_W n).2.2.2.1
theorem W_w1m:k_V (a_m n).impl_fileReader_option:=(c_W n).2.2.2.2.1
theorem W_w1n:k_W (a_m n).impl_fileReader_checked:=(c_W n).2.2.2.2.2
def Q24 (w0:World)(B:Zone)(r:Val×Int×Int)(v:Value)(w':World):Prop:=Bw w0 w'/\un3 (λG H I=>∃J L O S1 a2 V W S2,v = .tuple #[(.agg #[vI G.number,sl J L O,sl a2 V W]),vI H,vI I]/\inI G.number/\a_ w' S1 (sl J L O) G.bytes/\a_ w' S2 (sl a2 V W) G.items/\inI H/\inI I/\(S1++S2).Nodup/\(∀k∈(S1++S2),w0.z<=k)) r
theorem k_X {x1:g_}{x2:Int}{x3:Bt}{x4:Int}{res:Val×Int×Int}(hm:g_6 n x1 x2 x3 x4=some res)(O:B<=w0.z)(hG:Gl w0 B)(V:repS w0 B (sl A0 N0 C0) x1.rules)(W:inI x2)(Y:repS w0 B (sl A7 N7 C7) x3)(aB:inI x4):r_ prog 68 [(.agg #[sl A0 N0 C0]),vI x2,sl A7 N7 C7,vI x4] w0 (Q24 w0 B res):=by
 unfold g_6 at hm
 refine goG func68 z z z λfn hr=>Ws<|E z (fb z) ?_
 rintro _ wc ⟨rfl,a5⟩;have h1:=a5.below;have a6:Blk wc w0.z [sl A0 N0 C0]:=a5.blk;refine E z (fa a_k) ?_;rintro _ wp ⟨rfl,a7⟩;have h4:=a7.below;have h5:Blk wp wc.z [vI 0,sN,sN]:=a7.blk;refine Ra z<|Rw z<|Wq<|Wq ?_
 obtain ⟨aE,aC,a0⟩:=bdS hm;refine Wt (λa w=>∃(xq:Bool),xq=aE/\Sat 62 [(1,vI x2),(2,sl A7 N7 C7),(3,vI x4),(4,pt w0.z),(8,pt wc.z),(34,vB xq)] a/\Below wp.z wp w) ?_ ?_
 .refine Wg<|R z (lN (vs:=[sl A0 N0 C0]) B_ z_ z z fid<|(a6.e h4).row 0 1 z)<|Rm z ?_
  have a8:=(h1.ag B).e h4;obtain ⟨aF,aG,a1⟩:=bdS aC;refine E z (fc call86 z<|k_P aG (zt' O<|lt_ h1.s h4.s) (V.g a8) W) ?_;rintro _ _ ⟨sd,rfl⟩;refine R z (not_ z)<|Rm z ?_
  rcases bs (!aF) with J | J
  .exact Nh z J<|Nh z J<|R z (pT z J z)<|Rm z<|Nh z z<|Nh z z<|Nh z z<|Nh z z<|R z (pT z z z)<|Rm z<|Nh z z<|Nh z z<|Nh z z<|R z (pT z z z)<|Wl (λ_ q=>⟨true,som<|ifT a1 J,q.k<|s6 z z z z z z,sd⟩)
  have a2:=ifF a1 J;refine Rh z J (mv z)<|Rh z J (lss z z)<|R z (pF z J z)<|Rm z ?_
  rcases bs (decide<|x4<0) with H | H
  .iterate 4 refine Nh z H ?_
   exact R z (pT z H z)<|Rm z<|Nh z z<|Nh z z<|Nh z z<|R z (pT z z z)<|Wl (λ_ q=>⟨true,som<|ifT a2 H,q.k<|s6 z z z z z z,sd⟩)
  have a3:=ifF a2 H;refine Rh z H (mv z)<|Rh z H (mv z) ?_
  have a9:=Y.g<|a8.e sd
  refine Rh z H (lnR w_ z a9)<|Rh z H (a_b z z)<|R z (pF z H z)<|Rm z ?_
  rcases bs (decide<|(x3.length:Int)<x4) with L | L
  .iterate 3 refine Nh z L ?_
   exact R z (pT z L z)<|Wl (λ_ q=>⟨true,som<|ifT a3 L,q.k<|s6 z z z z z z,sd⟩)
  exact Rh z L (mv z)<|Rh z L (lnR w_ z a9)<|Rh z L (a_b z z)<|R z (pF z L z)<|Wl (λ_ q=>⟨decide<|400<(x3.length:Int),som<|ifF a3 L,q.k<|s6 z z z z z z,sd⟩)
 rintro aH aI ⟨xq,rfl,_,G⟩;revert aH;refine Wo<|Wc z (λhcr=>?_) (λhcr=>?_)
 .refine Ws<|R z (bP (parts:=[]) (cs:=[vI 0,sN,sN]) a_9 z z)<|E0 (fs0 (cur':=[vI 0,sN,sN]) l_ z z (h5.e G) z z z z) ?_
  rintro _ _ ⟨aJ,aK⟩;refine Ra z<|Rw z ?_
  obtain rfl:=som<|ifT a0 hcr;exact Wr<|E_ hr (x_ D_ l_ z aJ z) z z ⟨bM (bup (bup h1 h4) G) aK.one<|m1 h1.s,none,0,0,[],none,0,0,[],z,ii z,onL,onL,ii z,ii z,nd0,al0⟩
 refine Wk<|Ws<|R z (lN (vs:=[sl A0 N0 C0]) B_ z_ z z fid<|((a6.e h4).e G).row 0 1 z)<|Rm z<|R z (bP (parts:=[(0,.tmp 36),(1,.tmp 37)]) (cs:=[sl A0 N0 C0,sl A7 N7 C7]) r_e z z)<|E z (fb z) ?_
 rintro _ aa ⟨rfl,ab⟩;have ha:=ab.below;have ad:Blk aa aI.z [sl A0 N0 C0,sl A7 N7 C7]:=ab.blk;refine Rw z<|Wm z<|RM z z ?_
 have ae:=(((h1.ag B).e h4).e G).e ha;have he:=lt_ (lt_ (lt_ h1.s h4.s) G.s) ha.s;have af:=zt' O he;obtain ⟨rs,_,aL,aM,a4⟩:=t_<|ifF a0 hcr;refine E z (fc call87 z<|W_w03.run (B:=aa.z) aM zr (repS.mono (V.g ae) af) (repS.mono (Y.g ae) af) (ad.row 0 2 z) ad.lt W aB) ?_;rintro _ ai ⟨sb,ah,ng,ci,aN,aj,nk,cl,aO,_,_,rfl,aP,ak,al,aQ,ht,aR,hu,hn⟩;refine Rm z ?_
 iterate 3 refine Re z z z ?_
 refine E z (fa a_k) ?_;rintro _ aS ⟨rfl,am⟩;have h2:=am.below;refine E0 (fs0 (cur':=[vI rs.number,sl ah ng ci,sl aj nk cl]) l_ z z (am.blk:Blk aS ai.z [vI 0,sN,sN]) z z z z) ?_;rintro _ an ⟨aT,aU⟩;have h3:=aU.one;refine Ra z<|Rw z<|Ws<|E z (fa r_m) ?_
 rintro _ aV ⟨rfl,ao⟩;have I:=ao.below;have ap:Blk aV an.z [(.pointer none)]:=ao.blk;refine Wn<|Wq<|Wm z<|R z (l_I d_130 (λ_ h=>by cases h) z) ?_
 have aq:=((ht.e h2).c h3<|ds<|mnr<|b_0.lt ht).e I
 rcases bs (aL.isSome) with hcm | hcm
 .obtain ⟨_,_,aW,aD⟩:=a_v<|ifT a4 hcm;have hv:=lt_ he sb.s;refine E z (fc call88 z<|r_d ((((((((hG.e h1).e h4).e G).e ha).e sb).e h2).c h3<|c_ (or0 (b_ lr) (o_<|zt' O hv):∀k∈[ai.z],¬B k)).e I) aq aW ap) ?_;rintro _ _ ⟨ar,rfl,aX,aY,aZ,au,b0,b1⟩;have hw:=aX.one;refine Wx z (λ_=>?_) (λhc=>(bcon z hc).elim)
  refine Wq<|Wd (X:=(· ∈ [wc.z])) 0 (pl_ 12 [9]) mo (by kernel_rfl) λb6 so _=>dR z z (bP (parts:=[]) (cs:=[vI 0,sN,sN]) a_9 z z) ?_;have av:=aY.e so;have aw:=lt_ G.s ha.s;have ax:=lt_ aw sb.s;have ay:=lt_ (lt_ ax h2.s) h3.s;have hx:=mm1 h5.lt ay;refine dR z z (l1 g_128 z (atp hx)<|av.at z)<|dR z z (Y_ z)<|dR z z (fd r_k z) ?_
  have az:=(aZ.c hw<|atp (or1 (b_<|.inl au) (ds<|mno (b_0.lt ht)<|lt_ h2.s h3.s) (m_ (b_ ap.lt) lr):∀k∈[ar],k∉[an.z])).e so;have aA:∀k∈[ar],k∉[wc.z]:=or1 (b_<|.inl au) (n_ aR h5.lt aw)<|m_ (b_ h5.lt)<|lt_ ay I.s;refine dR z z (l1 g_3 z (atp aA)<|az.at z)<|dR z z (l1 g_128 z (atp hx)<|av.at z)<|dR z z (Y_ z)<|dR z z (fd r_l z)<|dR z z (l1 g_3 z (atp aA)<|az.at z)<|dE0 z (fs0 (cur':=[vI 0,sN,sN]) l_ z z ((((((((h5.e G).e ha).e sb).e h2).c h3<|djs<|mm1 h5.lt ax).e I).c hw<|djs hx).e so) z z z z) (.inr λ_ _ h=>chgIn (List.mem_singleton.2 z) h.2) ?_
  rintro _ _ ⟨b2,b3⟩;refine dQ z z z<|dQ z z z<|pD<|Wo ?_
  obtain rfl:=som aD;exact Wr<|E_ hr (x_ D_ l_ z b2 z) z z ⟨bM (bup (bM (bup (bM (bup (bup (bup (bup (bup h1 h4) G) ha) sb) h2) h3<|m1 hv) I) hw<|m1<|lt_ (lt_ hv h2.s) h3.s) so) b3.one<|m1 h1.s,none,0,0,[],none,0,0,[],z,ii z,onL,onL,b0,b1,nd0,al0⟩
 refine E z (fc call88 z<|r_c aq hcm) ?_;rintro _ _ ⟨rfl,sf⟩;refine Wx z (λhc=>(bcon hc z).elim) (λ_=>?_)
 refine Wk<|Ws<|R z (lN (vs:=[vI rs.number,sl ah ng ci,sl aj nk cl]) D_ l_ z z fid<|((aT.e I).e sf).row 0 3 z)<|Rm z ?_
 have hy:=lt_ G.s ha.s;refine E0 (fs0 (cur':=[vI rs.number,sl ah ng ci,sl aj nk cl]) l_ z z (((((((h5.e G).e ha).e sb).e h2).c h3<|djs<|mm1 h5.lt<|lt_ hy sb.s).e I).e sf) z z z z) ?_;rintro _ _ ⟨b4,b5⟩;have hz:=b5.one;refine Ra z<|Rw z ?_
 obtain rfl:=som<|ifF a4 hcm;exact Wr<|E_ hr (x_ D_ l_ z b4 z) z z ⟨bM (bup (bup (bM (bup (bup (bup (bup (bup h1 h4) G) ha) sb) h2) h3<|m1<|lt_ he sb.s) I) sf) hz<|m1 h1.s,ah,ng,ci,aN,aj,nk,cl,aO,z,aP,((((ak.e h2).c h3<|ds<|mnr<|a_.lt ak).e I).e sf).c hz<|n_ (al_ hn) h5.lt hy,((((al.e h2).c h3<|ds<|mnr<|a_.lt al).e I).e sf).c hz<|n_ (ar_ hn) h5.lt hy,aQ,ii z,na_ (nl_ hu) (nr_ hu)<|nj hu,aa_ (q_ (al_ hn) he)<|q_ (ar_ hn) he⟩
theorem W_w2i {x1:g_}{x2:Bt}{res:Val×Int×Int}(hm:h_D n x1 x2=some res)(W:B<=w0.z)(hG:Gl w0 B)(V:repS w0 B (sl A0 N0 C0) x1.rules)(Y:repS w0 B (sl A5 N5 C5) x2):r_ prog 37 [(.agg #[sl A0 N0 C0]),sl A5 N5 C5] w0 (Q24 w0 B res):=by
 unfold h_D at hm
 refine goG func37 z z z λfn hr=>Ws<|E z (fb z) ?_
 rintro _ wn ⟨rfl,ao⟩;have h2:=ao.below;have hv:Blk wn w0.z [sl A0 N0 C0]:=ao.blk;refine E z (fa a_k) ?_;rintro _ I ⟨rfl,ap⟩;have h1:=ap.below;have ho:Blk I wn.z [vI 0,sN,sN]:=ap.blk;refine Ra z<|Rw z<|Wq ?_
 obtain ⟨bn,ak,bh⟩:=bdS hm;refine Wt (λa w=>∃(xb:Int)(xw:Bt)(xx:List Val)(xc:Int)(xd:Int),(xb,xw,xx,xc,xd)=bn/\∃ae nf cg J ah ni cj L O,Sat 32 [(1,sl A5 N5 C5),(4,pt wn.z),(7,pt O),(8,vI xc),(9,vI xd)] a/\Below I.z I w/\inI xb/\a_ w J (sl ae nf cg) xw/\J.Nodup/\(∀k∈J,I.z<=k)/\a_ w L (sl ah ni cj) xx/\L.Nodup/\(∀k∈L,I.z<=k)/\(∀k∈L,k∉J)/\inI xc/\inI xd/\Blk w O [vI xb,sl ae nf cg,sl ah ni cj]/\I.z<=O/\(∀k∈J,k∉[O])/\(∀k∈L,k∉[O])) ?_ ?_
 .refine Wd (X:=λk=>k∈([]:List Nat)∨I.z<=k) 0 (.rd 0<|.rd 1<|.rd 3<|.br 2 (.br 4 (.rd 5<|.rd 6<|.rd 7<|.rd 8<|.ef 9<|.ef 10<|.rd 11<|.rd 12 .done) 9<|.ef 4<|.rd 5<|.rd 6<|.rd 7<|.rd 8<|.ef 10<|.rd 11<|.rd 12 .done) 9<|.ef 2<|.ef 4<|.rd 5<|.rd 6<|.rd 7<|.rd 8<|.ef 10<|.rd 11<|.rd 12 .done) mo (by kernel_rfl) λaq G _=>?_
  have ar:=(hv.e h1).e G;refine dR z z (lN (vs:=[sl A0 N0 C0]) B_ z_ z z (a_o nm0<|Nat.lt_of_lt_of_le hv.lt h1.s)<|ar.row 0 1 z)<|dR z z (lN (vs:=[sl A0 N0 C0]) B_ z_ z z (a_o nm0<|Nat.lt_of_lt_of_le hv.lt h1.s)<|ar.row 0 1 z)<|dM z z z<|b_H ?_ ?_
  .have hy:=((h2.ag B).e h1).e G;have hz:=lt_ (lt_ h2.s h1.s) G.s;obtain ⟨_,bo,al⟩:=bdS ak;refine dE z z (fc call39 z<|k_L bo (zt' W hz)<|V.g hy) (.inr λ_ _ h=>y_<|h.1) ?_;rintro _ au ⟨s3,rfl,av⟩;refine b_H ?_ ?_
   .have aw:=hy.e s3;obtain ⟨rp,bp,bq,bt,bi⟩:=t_ al;refine dE z z (fc call68 z<|k_X bt (zt' W<|lt_ hz s3.s) ((((hG.e h2).e h1).e G).e s3) (V.g aw) av (Y.g aw)<|ii z) (.inr λ_ _ h=>y_<|h.1) ?_;rintro _ ax ⟨ay,az,aA,aB,bu,aC,aD,aE,bv,rfl,bw,aF,aG,bx,bz,a1,aH⟩;refine dM z z z ?_
    iterate 3 refine dR z z (ext_ z z) ?_
    refine dE z z (fa a_k) (.inr λ_ _ h=>y_<|h.2.below) ?_;rintro _ bA ⟨rfl,aI⟩;have a2:=aI.below;have a3:=lt_ G.s s3.s;have a4:=m1<|lt_ a3 ay.s
    refine dE0 z (fs0 (cur':=[vI rp.number,sl az aA aB,sl aC aD aE]) l_ z z (aI.blk:Blk bA ax.z [vI 0,sN,sN]) z z z z) (.inr λ_ _ h=>d_0 (atp a4) h.2) ?_;rintro _ _ ⟨bB,bC⟩;have a5:=bC.one;refine dQ z z z<|dQ z z z<|pD ?_
    have aJ:=mnr<|a_.lt aF
    have aK:=mnr<|a_.lt aG
    exact λ_ q=>⟨rp.number,rp.bytes,rp.items,bp,bq,som bi,az,aA,aB,bu,aC,aD,aE,bv,ax.z,q.k<|s5 z z z z z,bM (bup (bup (bup G s3) ay) a2) a5 a4,bw,(aF.e a2).c a5<|ds aJ,nl_ a1,q_ (al_ aH) a3,(aG.e a2).c a5<|ds aK,nr_ a1,q_ (ar_ aH) a3,ds<|nj a1,bx,bz,bB,atp a4,ds aJ,ds aK⟩
   refine dE z z (fa a_k) (.inr λ_ _ h=>y_<|h.2.below) ?_;rintro _ bD ⟨rfl,aL⟩;have hk:=aL.below;have a6:Blk bD au.z [vI 0,sN,sN]:=aL.blk;have aM:=(hy.e s3).e hk;obtain ⟨rq,bE,bF,bG,bj⟩:=t_ al;refine dE z z (fc call68 z<|k_X bG (zt' W<|lt_ (lt_ hz s3.s) hk.s) (((((hG.e h2).e h1).e G).e s3).e hk) (V.g aM) av (Y.g aM)<|ii z) (.inr λ_ _ h=>y_<|h.1) ?_;rintro _ _ ⟨aN,aO,aP,aQ,bH,aR,aS,aT,bI,rfl,bJ,bK,bL,bN,bO,a7,ht⟩;refine dM z z z ?_
   iterate 3 refine dR z z (ext_ z z) ?_
   have aU:=lt_ G.s s3.s;have a8:=m1 aU;refine dE0 z (fs0 (cur':=[vI rq.number,sl aO aP aQ,sl aR aS aT]) l_ z z (a6.e aN) z z z z) (.inr λ_ _ h=>d_0 (atp a8) h.2) ?_;rintro _ _ ⟨bQ,bR⟩;have a9:=bR.one;refine dQ z z z<|dQ z z z<|pD ?_
   have aV:=n_ (al_ ht) a6.lt lr;have aW:=lt_ aU hk.s;have aX:=n_ (ar_ ht) a6.lt lr;exact λ_ q=>⟨rq.number,rq.bytes,rq.items,bE,bF,som bj,aO,aP,aQ,bH,aR,aS,aT,bI,au.z,q.k<|s5 z z z z z,bM (bup (bup (bup G s3) hk) aN) a9 a8,bJ,bK.c a9 aV,nl_ a7,q_ (al_ ht) aW,bL.c a9 aX,nr_ a7,q_ (ar_ ht) aW,ds<|nj a7,bN,bO,bQ,atp a8,aV,aX⟩
  refine dE z z (fa a_k) (.inr λ_ _ h=>y_<|h.2.below) ?_;rintro _ bS ⟨rfl,aY⟩;have hl:=aY.below;have aa:Blk bS aq.z [vI 0,sN,sN]:=aY.blk;have aZ:=(((h2.ag B).e h1).e G).e hl;have b0:=lt_ (lt_ (lt_ h2.s h1.s) G.s) hl.s;obtain ⟨_,bT,bk⟩:=bdS ak;refine dE z z (fc call39 z<|k_L bT (zt' W b0)<|V.g aZ) (.inr λ_ _ h=>y_<|h.1) ?_;rintro _ _ ⟨s6,rfl,bU⟩;have b1:=aZ.e s6;obtain ⟨rr,bV,bW,bX,bm⟩:=t_ bk;refine dE z z (fc call68 z<|k_X bX (zt' W<|lt_ b0 s6.s) (((((hG.e h2).e h1).e G).e hl).e s6) (V.g b1) bU (Y.g b1)<|ii z) (.inr λ_ _ h=>y_<|h.1) ?_;rintro _ _ ⟨b2,b3,b4,b5,bY,b6,b7,b8,bZ,rfl,c0,c1,c2,c3,c4,ab,hu⟩;refine dM z z z ?_
  iterate 3 refine dR z z (ext_ z z) ?_
  have ad:=m1 G.s;refine dE0 z (fs0 (cur':=[vI rr.number,sl b3 b4 b5,sl b6 b7 b8]) l_ z z ((aa.e s6).e b2) z z z z) (.inr λ_ _ h=>d_0 (atp ad) h.2) ?_;rintro _ _ ⟨c5,c6⟩;have af:=c6.one;refine dQ z z z<|dQ z z z<|pD ?_
  have b9:=n_ (al_ hu) aa.lt s6.s;have ba:=lt_ (lt_ G.s hl.s) s6.s;have bb:=n_ (ar_ hu) aa.lt s6.s;exact λ_ q=>⟨rr.number,rr.bytes,rr.items,bV,bW,som bm,b3,b4,b5,bY,b6,b7,b8,bZ,aq.z,q.k<|s5 z z z z z,bM (bup (bup (bup G hl) s6) b2) af ad,c0,c1.c af b9,nl_ ab,q_ (al_ hu) ba,c2.c af bb,nr_ ab,q_ (ar_ hu) ba,ds<|nj ab,c3,c4,c5,atp ad,b9,bb⟩
 rintro c7 ws ⟨xb,xw,xx,xc,xd,rfl,ae,nf,cg,J,ah,ni,cj,L,O,_,sm,c8,c9,ca,bc,cb,cc,be,cd,bf,ce,cf,_,_,_⟩;revert c7;refine Wo<|Wq<|Wq ?_
 obtain ⟨ch,am,an⟩:=bdS<|c_Z bh;refine Wt (λa w=>∃(ai:Bool),ai=ch/\Sat 32 [(4,pt wn.z),(7,pt O),(8,vI xc),(9,vI xd),(26,vB ai)] a/\Below ws.z ws w) ?_ ?_
 .refine Wg<|Rm z<|Rq z z z<|Rm z ?_
  rcases bs (xd==0) with H | H
  .exact Rh z H (mv z)<|Rh z H (mv z)<|Rh z H (lnR w_ z<|Y.g<|((h2.ag B).e h1).e sm)<|Rh z H (lss z z)<|R z (pT z H z)<|Wl (λ_ q=>⟨decide<|xc<(x2.length:Int),som<|ifT am H,q.k<|s5 z z z z z,br ws⟩)
  iterate 4 refine Nh z H ?_
  exact R z (pF z H z)<|Wl (λ_ q=>⟨false,som<|ifF am H,q.k<|s5 z z z z z,br ws⟩)
 rintro ci _ ⟨ai,rfl,_,sa⟩;revert ci;refine Wo<|Wc z (λa0=>?_) (λa0=>?_)
 .refine Ws<|R z (bP (parts:=[]) (cs:=[vI 0,sN,sN]) a_9 z z)<|Rm z<|E0 (fs0 (cur':=[vI 0,sN,sN]) l_ z z ((ho.e sm).e sa) z z z z) ?_
  rintro _ _ ⟨ck,cl⟩;refine Ra z<|Rw z ?_
  obtain rfl:=som<|ifT an a0;exact Wr<|E_ hr (x_ D_ l_ z ck z) z z ⟨bM (bup (bup (bup h2 h1) sm) sa) cl.one<|m1 h2.s,none,0,0,[],none,0,0,[],z,ii z,onL,onL,bf,ii z,nd0,al0⟩
 refine Wk<|Ws<|R z (lN (vs:=[vI xb,sl ae nf cg,sl ah ni cj]) D_ l_ z z fid<|(cf.e sa).row 0 3 z)<|RM z z<|E0 (fs0 (cur':=[vI xb,sl ae nf cg,sl ah ni cj]) l_ z z ((ho.e sm).e sa) z z z z) ?_
 rintro _ _ ⟨cm,cn⟩;have aj:=cn.one;refine Ra z<|Rw z ?_
 obtain rfl:=som<|ifF an a0;have bg:=lt_ h2.s h1.s;exact Wr<|E_ hr (x_ D_ l_ z cm z) z z ⟨bM (bup (bup (bup h2 h1) sm) sa) aj<|m1 h2.s,ae,nf,cg,J,ah,ni,cj,L,z,c8,(c9.e sa).c aj<|n_ bc ho.lt lr,(cb.e sa).c aj<|n_ be ho.lt lr,bf,ce,na_ ca cc<|ds cd,aa_ (q_ bc bg)<|q_ be bg⟩
def Q25 (w0:World)(B:Zone)(r:W_)(v:Value)(w':World):Prop:=Bw w0 w'/\(λG=>(.agg #[vI G.at_,vI G.code])=v/\inI G.at_/\inI G.code) r
theorem h_V {x1:a_a}{b1 o1:Nat}{x2:Int}{x3:Int}{res:W_}(hm:e_3 x1 x2 x3=some res)(a0:B<=w0.z)(V:repS w0 B (sl A0 N0 C0) x1.d.rules)(I:repS w0 B (sl A6 N6 C6) x1.b)(W:inI x1.applied)(hC1:X_ w0 b1 o1 [sl A0 N0 C0,sl A6 N6 C6,vI x1.applied])(hC1b:B b1)(J:inI x2)(Y:inI x3):r_ prog 115 [(.pointer<|some ⟨b1,o1,none⟩),vI x2,vI x3] w0 (Q25 w0 B res):=by
 unfold e_3 at hm
 refine goG func115 z z z λfn hr=>Ws<|E z (fa b_L) ?_
 rintro _ L ⟨rfl,h2⟩;have G:=h2.below;have h3:Blk L w0.z [vI 0,vI 0]:=h2.blk;refine Wn<|Wq<|Wm z<|Rm z<|R z (Y_ z)<|Rf z e_4 z<|R z (l0 a_0 z<|(hC1.e G).at (j:=1) z)<|R z (lnR w_ z<|I.e G)<|Rm z<|R z (sb_ z z)<|R z (a_b z z)<|Wx z (λH=>?_) (λH=>?_)
 .refine Wm z<|R z (bP (parts:=[(0,.tmp 16),(1,.const<|.int .i64 1)]) (cs:=[vI x2,vI 1]) c_T z z)<|E0 (fs0 (cur':=[vI x2,vI 1]) J_ z z h3 z z z z) ?_
  rintro _ _ ⟨h5,s6⟩;refine Wn ?_;obtain rfl:=som<|ifT hm H;exact Wr<|k_ hr (x_ a_t J_ z h5 z) ⟨bM G s6.one<|b_ lr,z,J,ii z⟩
 refine Wk<|Wm z<|Rm z<|R z (add_ z z)<|R z (bP (parts:=[(0,.tmp 20),(1,.const<|.int .i64 0)]) (cs:=[vI (h_ x2 x3),vI 0]) c_T z z)<|E0 (fs0 (cur':=[vI (h_ x2 x3),vI 0]) J_ z z h3 z z z z) ?_
 rintro _ _ ⟨O,s8⟩;refine Wn ?_;obtain rfl:=som<|ifF hm H;exact Wr<|k_ hr (x_ a_t J_ z O z) ⟨bM G s8.one<|b_ lr,z,iA _ _,ii z⟩
def Q26 (w0:World)(g1:Nat)(B:Zone)(A0:Option Addr)(N0 C0:Nat)(A6:Option Addr)(N6 C6:Nat)(x1:a_a)(r:Int×W_×Int)(v:Value)(w':World):Prop:=Cg [g1] w0 w'/\un3 (λH G I=>v = .tuple #[vI H,(.agg #[vI G.at_,vI G.code])]/\inI H/\inI G.at_/\inI G.code/\inI I/\Blk w' g1 [sl A0 N0 C0,sl A6 N6 C6,vI I]) r
theorem j_u {x1:a_a}{g1:Nat}{x2:Int}{x3:Int}{res:Int×W_×Int}(hm:e_x x1 x2 x3=some res)(hB1:Blk w0 g1 [sl A0 N0 C0,sl A6 N6 C6,vI x1.applied])(L:B<=w0.z)(hBg:¬B g1)(O:repS w0 B (sl A0 N0 C0) x1.d.rules)(V:repS w0 B (sl A6 N6 C6) x1.b)(aP:inI x1.applied)(aQ:inI x2)(al:inI x3):r_ prog 113 [pt g1,vI x2,vI x3] w0 (Q26 w0 g1 B A0 N0 C0 A6 N6 C6 x1 res):=by
 unfold e_x at hm
 refine goG func113 z z z λfn hr=>Ws<|Ra z<|E z (fa b_L) ?_
 rintro _ wf ⟨rfl,ho⟩;have hb:=ho.below;have I:Blk wf w0.z [vI 0,vI 0]:=ho.blk;refine Wn<|Wm z<|R z (Y_ z)<|Rf z j_k z ?_
 have hp:=hB1.e hb;refine R z (l0 g_3 z<|hp.at z)<|R z (add_ z z)<|R z (Y_ z)<|Rf z j_k z<|E0 (fs0 (cur':=[sl A0 N0 C0,sl A6 N6 C6,vI<|h_ x1.applied 1]) z_3 z z hp z z z z) ?_
 rintro _ J ⟨hq,ap⟩;have h1:=ap.one;refine Wn<|Wm z<|R z (Y_ z)<|Rf z n_m z<|Rf z R_ z<|R z (l0 S_ z<|hq.at z)<|Rm z ?_
 obtain ⟨xr,aq,am⟩:=bdS hm;have ht:=(hb.ag B).c h1<|c_<|b_ hBg
 refine RX z (at_ (α:=d_) K_ p_ z z z (O.g ht) aq) ?_;rintro _ ⟨_,_,_,rfl,ar,av,_⟩;obtain ⟨au,ns,cv,aw,nx,cy,az,Y,a0,a1,a2,a3,rfl,_,_,ax,_,_,_,_⟩:=a_H av;refine R z (lN (vs:=vR xr au ns cv aw nx cy az Y a0 a1 a2 a3) M_ p_ z z fid ar)<|E z (fa b_M) ?_
 rintro _ wg ⟨rfl,a4⟩;have h4:=a4.below;have a5:Blk wg J.z [(Str.v (⟨[]⟩:Str)),vI 0,vI 0,vB false,sN,sN,sN,sN]:=a4.blk;refine E0 (fs0 (cur':=vR xr au ns cv aw nx cy az Y a0 a1 a2 a3) p_ z z a5 z z z z) ?_;rintro _ a6 ⟨a7,ay⟩;have h2:=ay.one;refine Wn<|Wm z<|Rm z<|Rf z a_W z<|R z (l0 g_3 z<|a7.at z) ?_
 have hc:=lt_ hb.s h1.s;have hh:=(hq.e h4).c h2<|djs<|mm1 (Blk.lt hB1) hc
 have hi:=(ht.e h4).c h2<|c_ (or0 (b_ lr) (o_<|zt' L hc):∀k∈[J.z],¬B k)
 have hj:=lt_ (lt_ hc h4.s) h2.s;obtain ⟨H,aA,W⟩:=bdS am;refine E z (fc call115 z<|h_V (B:=w0.z) aA (b_g hj) (repS.mono (O.g hi) L) (repS.mono (V.g hi) L) (iA _ _) (hh.row 0 3 z) (Blk.lt hB1) al ax) ?_;rintro _ wa ⟨G,rfl,a8,a9⟩;refine E z (fa b_L) ?_;rintro _ wk ⟨rfl,aa⟩;have h5:=aa.below;refine E0 (fs0 (cur':=[vI H.at_,vI H.code]) J_ z z (aa.blk:Blk wk wa.z [vI 0,vI 0]) z z z z) ?_;rintro _ ab ⟨hl,aB⟩;have h6:=aB.one;refine Wn<|Wq<|Ws<|Rf z d_D z<|R z (l0 g_3 z<|hl.at z)<|R z (nq z z)<|Wx z (λhcm=>?_) (λhcm=>?_)
 .refine Wq (Wd (X:=noX) 4 (pl_ 3 [2]) mo (by kernel_rfl) λaC sd _=>dR z z (lN (vs:=[vI H.at_,vI H.code]) a_t J_ z z fid<|(hl.e sd).row 0 2 z)<|dQ z z z ?_);have ad:=mmr<|Blk.lt hB1
  refine dE0 z (fs0 (cur':=[vI H.at_,vI H.code]) J_ z z (((((((I.c h1<|atp ad).e h4).c h2<|djs<|mm1 I.lt h1.s).e G).e h5).c h6<|djs<|mm1 I.lt<|lt_ (lt_ (lt_ h1.s h4.s) h2.s) G.s).e sd) z z z z) (.inl z) ?_;rintro _ aD ⟨aE,aF⟩;have ae:=aF.one;refine pD<|Wo ?_
  obtain rfl:=som<|ifT W hcm;have af:=lt_ hj G.s;exact Wr<|a_i hr z (x_ a_t J_ z aE z) ⟨(cM (e_ (cM (e_ (e_ (cM (e_ (cM (e_ (cr [g1] w0) hb:Cg [g1] w0 wf) h1 (io sr):Cg [g1] w0 J) h4:Cg [g1] w0 wg) h2 (mor hc:∀k∈[J.z],k∈[g1]∨w0.z<=k):Cg [g1] w0 a6) G:Cg [g1] w0 wa) h5:Cg [g1] w0 wk) h6 (mor af:∀k∈[wa.z],k∈[g1]∨w0.z<=k):Cg [g1] w0 ab) sd:Cg [g1] w0 aC) ae (mor lr:∀k∈[w0.z],k∈[g1]∨w0.z<=k):Cg [g1] w0 aD),z,ii z,a8,a9,iA _ _,((((hh.e G).e h5).c h6<|djs<|mm1 (Blk.lt hB1) af).e sd).c ae<|djs ad⟩
 refine Wk<|Wq (Wd (X:=noX) 8192 (.rd 0<|.rd 1<|.rd 2<|.rd 3<|.rd 4<|.rd 5<|.rd 6<|.rd 7<|.rd 8<|.rd 9<|.rd 11<|.ef 10<|.rd 12<|.ef 13 .done) mo (by kernel_rfl) λaG s7 _=>dM z z z<|dR z z (Y_ z)<|dR z z (fd e_4 z) ?_)
 have he:=lt_ hj G.s;have ah:=(((hh.e G).e h5).c h6<|djs<|mm1 (Blk.lt hB1) he).e s7;refine dR z z (l0 a_0 z<|ah.at z)<|dM z z z<|dR z z (fd d_d z) ?_
 have ai:=hl.e s7;refine dR z z (l0 g_3 z<|ai.at z) ?_;obtain ⟨_,aH,an⟩:=bdS<|ifF W hcm;refine dRX z z (rX w_ z_5 z z (V.g<|(((hi.e G).e h5).c h6<|c_ (or0 (b_ lr) (o_<|zt' L he):∀k∈[wa.z],¬B k)).e s7) z z aH) ?_;rintro _ ⟨_,_,_,rfl,aI⟩;refine dR z z (fd c_F z)<|dR z z (l0 g_4 z<|((((a7.e G).e h5).c h6<|djs<|mm1 a5.lt<|lt_ h2.s G.s).e s7).at z)<|dR z z (lN (vs:=[vI H.at_,vI H.code]) a_t J_ z z fid<|ai.row 0 2 z) ?_
 obtain ⟨_,aJ,ao⟩:=bdS an;refine dE z z (fc call26 z<|k_Q aJ (zt' L<|lt_ (lt_ (lt_ he h5.s) h6.s) s7.s) aI) (.inr λ_ _ h=>y_<|h.1) ?_;rintro _ aK ⟨sn,rfl,aL⟩;refine dQ z z z ?_;have aj:=mmr<|Blk.lt hB1
 refine dE0 z (fs0 (cur':=[vI H.at_,vI H.code]) J_ z z ((((((((I.c h1<|atp aj).e h4).c h2<|djs<|mm1 I.lt h1.s).e G).e h5).c h6<|djs<|mm1 I.lt<|lt_ (lt_ (lt_ h1.s h4.s) h2.s) G.s).e s7).e sn) z z z z) (.inl z) ?_;rintro _ aM ⟨aN,aO⟩;have ak:=aO.one;refine pD<|Wo ?_
 obtain rfl:=som ao;exact Wr<|a_i hr z (x_ a_t J_ z aN z) ⟨(cM (e_ (e_ (cM (e_ (e_ (cM (e_ (cM (e_ (cr [g1] w0) hb:Cg [g1] w0 wf) h1 (io sr):Cg [g1] w0 J) h4:Cg [g1] w0 wg) h2 (mor hc:∀k∈[J.z],k∈[g1]∨w0.z<=k):Cg [g1] w0 a6) G:Cg [g1] w0 wa) h5:Cg [g1] w0 wk) h6 (mor he:∀k∈[wa.z],k∈[g1]∨w0.z<=k):Cg [g1] w0 ab) s7:Cg [g1] w0 aG) sn:Cg [g1] w0 aK) ak (mor lr:∀k∈[w0.z],k∈[g1]∨w0.z<=k):Cg [g1] w0 aM),z,aL,a8,a9,iA _ _,(ah.e sn).c ak<|djs aj⟩
theorem W_w2j {x1:a_a}{b1 o1:Nat}{x2:d_}{x3:Int}{res:W_}(hm:h_p x1 x2 x3=some res)(ah:B<=w0.z)(a7:repS w0 B (sl A0 N0 C0) x1.d.rules)(W:repS w0 B (sl A6 N6 C6) x1.b)(a8:inI x1.applied)(hC1:X_ w0 b1 o1 [sl A0 N0 C0,sl A6 N6 C6,vI x1.applied])(hC1b:B b1)(a9:x2.name.b.length<=LEN)(aa:inI x2.kind)(ab:inI x2.size)(I:repS w0 B (sl A2 N2 C2) x2.bytes)(ad:repS w0 B (sl A3 N3 C3) x2.names)(ae:repS w0 B (sl A1 N1 C1) x2.tags)(af:repS w0 B (sl A4 N4 C4) x2.kids)(Y:inI x3):r_ prog 114 [(.pointer<|some ⟨b1,o1,none⟩),.agg #[Str.v x2.name,vI x2.kind,vI x2.size,vB x2.little,sl A2 N2 C2,sl A3 N3 C3,sl A1 N1 C1,sl A4 N4 C4],vI x3] w0 (Q25 w0 B res):=by
 unfold h_p at hm
 refine goG func114 z z z λfn hr=>Ws<|E z (fb z) ?_
 rintro _ J ⟨rfl,hb⟩;have G:=hb.below;refine E z (fa b_L) ?_;rintro _ H ⟨rfl,hd⟩;have h3:=hd.below;have O:Blk H J.z [vI 0,vI 0]:=hd.blk;refine Wn<|Wq<|Ws<|Rf z a_X z ?_
 have he:=(hb.blk:Blk J w0.z (vR x2 A2 N2 C2 A3 N3 C3 A1 N1 C1 A4 N4 C4)).e h3;refine R z (l0 a_0 z<|he.at z) ?_;have V:=(G.ag B).e h3;refine R z (lnR w_ z<|I.g V)<|Rm z<|Wn ?_
 obtain ⟨_,hum,hmc⟩:=bdS hm;refine Wf (σ:=Unit) (ρ:=W_) (λ(k5:Nat)(_:Unit) a w=>Sat 50 [(0,.pointer<|some ⟨b1,o1,none⟩),(2,vI x3),(4,pt w0.z),(6,pt J.z),(10,sl A2 N2 C2),(11,vI (x2.bytes.length:Int)),(12,vI ((k5:Nat):Int))] a/\Below H.z H w) (λ(_:Unit) a w=>Sat 50 [(2,vI x3),(4,pt w0.z),(6,pt J.z)] a/\Below H.z H w) (rQ prog fn<|Q25 w0 B) hum ?_ ?_ ?_ ?_ ?_
 .exact λ_ q=>⟨q.k<|s7 z z z z z z z,br H⟩
 .rintro k5 _ _ _ _ hkf ⟨hSn,s1⟩ hmo;refine Wu ?_ hSn;refine Ws<|Rl z z z<|Wn<|Wq<|Wc z (λ_=>?_) (λhc=>(a_g hkf hc).elim)
  refine Wk<|Wq<|Wb<|Wm z ?_
  obtain ⟨_,ep,hmg⟩:=bdS hmo;have hh:=V.e s1;refine RX z (at_ (α:=UInt8) w_ z_5 z z z (I.g hh) ep) ?_;rintro _ ⟨_,_,_,rfl,hq,ht,_⟩;obtain rfl:=u8 ht;refine R z (l0 g_5 z<|hq.at0 z)<|Ra z<|Rw z<|Wq<|Wm z<|Rm z<|R z (add_ z z)<|Rm z<|R z (Y_ z)<|Rf z e_4 z ?_
  have hi:=((hC1.e G).e h3).e s1;refine R z (l0 a_0 z<|hi.at (j:=1) z) ?_;have hj:=W.g hh;refine R z (lnR w_ z hj)<|Rq z z z<|Wx z (λL=>?_) (λL=>?_)
  .refine Wm z<|R z (bP (parts:=[(0,.tmp 26),(1,.const<|.int .i64 1)]) (cs:=[vI x3,vI 1]) c_T z z)<|E0 (fs0 (cur':=[vI x3,vI 1]) J_ z z (O.e s1) z z z z) ?_
   rintro _ _ ⟨hu,sr⟩;exact Wn<|Wr<|rtO<|qL (som<|ifT hmg L).symm<|k_ hr (x_ a_t J_ z hu z) ⟨bM (bup (bup G h3) s1) sr.one<|m1 G.s,z,Y,ii z⟩
  refine Wk<|Wm z<|R z (Y_ z)<|Rf z e_4 z<|R z (l0 a_0 z<|hi.at (j:=1) z)<|RM z z<|R z (add_ z z) ?_
  obtain ⟨_,es,hmk⟩:=bdS<|ifF hmg L;refine RX z (at_ (α:=UInt8) w_ z_5 z z z hj es) ?_;rintro _ ⟨_,_,_,rfl,hv,hw,_⟩;obtain rfl:=u8 hw;refine R z (l0 g_5 z<|hv.at0 z)<|Rm z<|R z (nq z z)<|Wx z (λhca=>?_) (λhca=>?_)
  .refine Wm z<|Rm z<|R z (add_ z z)<|R z (bP (parts:=[(0,.tmp 41),(1,.const<|.int .i64 2)]) (cs:=[(vI<|h_ x3 ((k5:Nat):Int)),vI 2]) c_T z z)<|E0 (fs0 (cur':=[(vI<|h_ x3 ((k5:Nat):Int)),vI 2]) J_ z z (O.e s1) z z z z) ?_
   rintro _ _ ⟨hx,sy⟩;exact Wn<|Wr<|rtO<|qL (som<|ifT hmk hca).symm<|k_ hr (x_ a_t J_ z hx z) ⟨bM (bup (bup G h3) s1) sy.one<|m1 G.s,z,iA _ _,ii z⟩
  exact Wk<|Wg<|R z (inc_ hkf (lt_ (repS.len I) O_) z z)<|Rm z<|Wl (λ_ q=>⟨(),(som<|ifF hmk hca).symm,⟨q.k<|s7 z z z z z z z,s1⟩⟩)
 .rintro _ _ _ ⟨hSz,a3⟩;refine Wu ?_ hSz;refine Ws<|Rl z z z<|Wn<|Wq<|Wc z (λhc=>(a_h hc).elim) (λ_=>?_)
  exact We<|λ_ q=>⟨rfl,⟨q.k<|s3 z z z,a3⟩⟩
 .rintro _ a4 _ rfl ⟨_,s6⟩;have a0:=elL hmc;revert a4;refine Wo<|Wm z<|Rf z a_X z<|R z (l0 a_0 z<|(he.e s6).at z)<|R z (lnR w_ z<|I.g<|V.e s6)<|R z (add_ z z)<|R z (bP (parts:=[(0,.tmp 48),(1,.const<|.int .i64 0)]) (cs:=[(vI<|h_ x3 (x2.bytes.length:Int)),vI 0]) c_T z z)<|E0 (fs0 (cur':=[(vI<|h_ x3 (x2.bytes.length:Int)),vI 0]) J_ z z (O.e s6) z z z z) ?_
  rintro _ _ ⟨a5,a6⟩;refine Wn ?_;obtain rfl:=som a0;exact Wr<|k_ hr (x_ a_t J_ z a5 z) ⟨bM (bup (bup G h3) s6) a6.one<|m1 G.s,z,iA _ _,ii z⟩
 rintro _ _ _ _ rfl ⟨rfl,a1⟩;have a2:=elR hmc;obtain rfl:=som a2;exact ⟨a1,z⟩
def Q27 (w0:World)(g1:Nat)(B:Zone)(A0:Option Addr)(N0 C0:Nat)(A6:Option Addr)(N6 C6:Nat)(x1:a_a)(r:W_×Int)(v:Value)(w':World):Prop:=Cg [g1] w0 w'/\un2 (λG H=>(.agg #[vI G.at_,vI G.code])=v/\inI G.at_/\inI G.code/\inI H/\Blk w' g1 [sl A0 N0 C0,sl A6 N6 C6,vI H]) r
structure k_Y (f:a_a->Int->Int->Option (W_×Int)):Prop where
  run:∀{A0 A6:Option Addr}{N0 C0 N6 C6 g1:Nat}{B:Zone}{x1:a_a}{x2:Int}{x3:Int}{res:W_×Int}{w0:World}(hm:f x1 x2 x3=some res)(hB1:Blk w0 g1 [sl A0 N0 C0,sl A6 N6 C6,vI x1.applied])(hBw:B<=w0.z)(hBg:¬B g1)(p1_0:repS w0 B (sl A0 N0 C0) x1.d.rules)(p1_1:repS w0 B (sl A6 N6 C6) x1.b)(p1_2:inI x1.applied)(p2_0:inI x2)(p3_0:inI x3),r_ prog 89 [pt g1,vI x2,vI x3] w0<|Q27 w0 g1 B A0 N0 C0 A6 N6 C6 x1 res
structure k_Z (f:a_a->d_->Int->Option (W_×Int)):Prop where
  run:∀{A0 A6 A2 A3 A1 A4:Option Addr}{N0 C0 N6 C6 g1 N2 C2 N3 C3 N1 C1 N4 C4:Nat}{B:Zone}{x1:a_a}{x2:d_}{x3:Int}{res:W_×Int}{w0:World}(hm:f x1 x2 x3=some res)(hB1:Blk w0 g1 [sl A0 N0 C0,sl A6 N6 C6,vI x1.applied])(hBw:B<=w0.z)(hBg:¬B g1)(p1_0:repS w0 B (sl A0 N0 C0) x1.d.rules)(p1_1:repS w0 B (sl A6 N6 C6) x1.b)(p1_2:inI x1.applied)(p2_0:x2.name.b.length<=LEN)(p2_1:inI x2.kind)(p2_2:inI x2.size)(p2_4:repS w0 B (sl A2 N2 C2) x2.bytes)(p2_5:repS w0 B (sl A3 N3 C3) x2.names)(p2_6:repS w0 B (sl A1 N1 C1) x2.tags)(p2_7:repS w0 B (sl A4 N4 C4) x2.kids)(p3_0:inI x3),r_ prog 116 [pt g1,.agg #[Str.v x2.name,vI x2.kind,vI x2.size,vB x2.little,sl A2 N2 C2,sl A3 N3 C3,sl A1 N1 C1,sl A4 N4 C4],vI x3] w0<|Q27 w0 g1 B A0 N0 C0 A6 N6 C6 x1 res
structure l_0 (f:a_a->d_->Int->Option (W_×Int)):Prop where
  run:∀{A0 A6 A2 A3 A1 A4:Option Addr}{N0 C0 N6 C6 g1 N2 C2 N3 C3 N1 C1 N4 C4:Nat}{B:Zone}{x1:a_a}{x2:d_}{x3:Int}{res:W_×Int}{w0:World}(hm:f x1 x2 x3=some res)(hB1:Blk w0 g1 [sl A0 N0 C0,sl A6 N6 C6,vI x1.applied])(hBw:B<=w0.z)(hBg:¬B g1)(p1_0:repS w0 B (sl A0 N0 C0) x1.d.rules)(p1_1:repS w0 B (sl A6 N6 C6) x1.b)(p1_2:inI x1.applied)(p2_0:x2.name.b.length<=LEN)(p2_1:inI x2.kind)(p2_2:inI x2.size)(p2_4:repS w0 B (sl A2 N2 C2) x2.bytes)(p2_5:repS w0 B (sl A3 N3 C3) x2.names)(p2_6:repS w0 B (sl A1 N1 C1) x2.tags)(p2_7:repS w0 B (sl A4 N4 C4) x2.kids)(p3_0:inI x3),r_ prog 117 [pt g1,.agg #[Str.v x2.name,vI x2.kind,vI x2.size,vB x2.little,sl A2 N2 C2,sl A3 N3 C3,sl A1 N1 C1,sl A4 N4 C4],vI x3] w0<|Q27 w0 g1 B A0 N0 C0 A6 N6 C6 x1 res
structure l_1 (f:a_a->d_->Int->Option (W_×Int)):Prop where
  run:∀{A0 A6 A2 A3 A1 A4:Option Addr}{N0 C0 N6 C6 g1 N2 C2 N3 C3 N1 C1 N4 C4:Nat}{B:Zone}{x1:a_a}{x2:d_}{x3:Int}{res:W_×Int}{w0:World}(hm:f x1 x2 x3=some res)(hB1:Blk w0 g1 [sl A0 N0 C0,sl A6 N6 C6,vI x1.applied])(hBw:B<=w0.z)(hBg:¬B g1)(p1_0:repS w0 B (sl A0 N0 C0) x1.d.rules)(p1_1:repS w0 B (sl A6 N6 C6) x1.b)(p1_2:inI x1.applied)(p2_0:x2.name.b.length<=LEN)(p2_1:inI x2.kind)(p2_2:inI x2.size)(p2_4:repS w0 B (sl A2 N2 C2) x2.bytes)(p2_5:repS w0 B (sl A3 N3 C3) x2.names)(p2_6:repS w0 B (sl A1 N1 C1) x2.tags)(p2_7:repS w0 B (sl A4 N4 C4) x2.kids)(p3_0:inI x3),r_ prog 118 [pt g1,.agg #[Str.v x2.name,vI x2.kind,vI x2.size,vB x2.little,sl A2 N2 C2,sl A3 N3 C3,sl A1 N1 C1,sl A4 N4 C4],vI x3] w0<|Q27 w0 g1 B A0 N0 C0 A6 N6 C6 x1 res
structure l_2 (f:a_a->d_->Int->Option (W_×Int)):Prop where
  run:∀{A0 A6 A2 A3 A1 A4:Option Addr}{N0 C0 N6 C6 g1 N2 C2 N3 C3 N1 C1 N4 C4:Nat}{B:Zone}{x1:a_a}{x2:d_}{x3:Int}{res:W_×Int}{w0:World}(hm:f x1 x2 x3=some res)(hB1:Blk w0 g1 [sl A0 N0 C0,sl A6 N6 C6,vI x1.applied])(hBw:B<=w0.z)(hBg:¬B g1)(p1_0:repS w0 B (sl A0 N0 C0) x1.d.rules)(p1_1:repS w0 B (sl A6 N6 C6) x1.b)(p1_2:inI x1.applied)(p2_0:x2.name.b.length<=LEN)(p2_1:inI x2.kind)(p2_2:inI x2.size)(p2_4:repS w0 B (sl A2 N2 C2) x2.bytes)(p2_5:repS w0 B (sl A3 N3 C3) x2.names)(p2_6:repS w0 B (sl A1 N1 C1) x2.tags)(p2_7:repS w0 B (sl A4 N4 C4) x2.kids)(p3_0:inI x3),r_ prog 119 [pt g1,.agg #[Str.v x2.name,vI x2.kind,vI x2.size,vB x2.little,sl A2 N2 C2,sl A3 N3 C3,sl A1 N1 C1,sl A4 N4 C4],vI x3] w0<|Q27 w0 g1 B A0 N0 C0 A6 N6 C6 x1 res
abbrev g_e (n:Nat):Prop:=k_Y (a_N n).impl_checker_value/\k_Z (a_N n).impl_checker_array/\l_0 (a_N n).impl_checker_choice/\l_1 (a_N n).impl_checker_option/\l_2 (a_N n).impl_checker_checked
theorem T_w04 (ih:g_e n):k_Y (h_q n<|a_N n):=by
 obtain ⟨dN,dO,dP,dS,dT⟩:=ih
 constructor
 intro A0 A6 N0 C0 N6 C6 g1 B x1 x2 x3 res w0 hm hB1 J hBg W Y cT cU a0;unfold h_q at hm
 refine goG func89 z z z λfn hr=>Ws<|E z (fa b_L) ?_
 rintro _ H ⟨rfl,bo⟩;have h1:=bo.below;have h6:Blk H w0.z [vI 0,vI 0]:=bo.blk;refine Wn<|Wm z<|R z (Y_ z)<|Rf z n_m z<|Rf z R_ z ?_
 have aL:=hB1.e h1;refine R z (l0 S_ z<|aL.at z)<|Rm z ?_
 obtain ⟨xh,dU,b8⟩:=bdS hm;refine RX z (at_ (α:=d_) K_ p_ z z z (W.e h1) dU) ?_;rintro _ ⟨_,_,_,rfl,dV,dW,_⟩;obtain ⟨ao,np,cq,ar,ns,ct,au,nv,cw,ai,nj,ck,rfl,a7,a8,hz,a1,a9,aa,he⟩:=a_H dW;refine R z (lN (vs:=vR xh ao np cq ar ns ct au nv cw ai nj ck) M_ p_ z z fid dV)<|E z (fa b_M) ?_
 rintro _ O ⟨rfl,bp⟩;have h2:=bp.below;have bq:Blk O H.z [(Str.v (⟨[]⟩:Str)),vI 0,vI 0,vB false,sN,sN,sN,sN]:=bp.blk;refine E0 (fs0 (cur':=vR xh ao np cq ar ns ct au nv cw ai nj ck) p_ z z bq z z z z) ?_;rintro _ V ⟨br,dX⟩;have G:=dX.one;refine Wn<|Wq<|Ws<|Rf z a_G z<|R z (l0 g_3 z<|br.at z)<|Rq z z z<|Wx z (λaz=>?_) (λaz=>?_)
 .refine Wm z<|RM z z ?_
  have bs:=((h1.ag B).e h2).c G<|c_ (or0 (b_ lr) (o_<|zt' J h1.s):∀k∈[H.z],¬B k)
  have bt:=lt_ (lt_ h1.s h2.s) G.s;obtain ⟨_,a2,_,dY,cV⟩:=t_<|ifT b8 az;refine E z (fc call113 z<|j_u (B:=B) dY ((aL.e h2).c G<|djs<|mm1 (Blk.lt hB1) h1.s) (zt' J bt) hBg (W.g bs) (Y.g bs) cT cU a0) ?_;rintro _ aM ⟨aj,rfl,_,dZ,e0,e1,e2⟩;refine Rm z<|Re z z z<|Re z z z<|E z (fa b_L) ?_
  rintro _ bu ⟨rfl,bv⟩;have aN:=bv.below;refine Ra z<|E0 (fs0 (cur':=[vI a2.at_,vI a2.code]) J_ z z (bv.blk:Blk bu aM.z [vI 0,vI 0]) z z z z) ?_
  rintro _ e3 ⟨e4,e5⟩;have aO:=e5.one;refine Wn<|Ws<|R z (lN (vs:=[vI a2.at_,vI a2.code]) a_t J_ z z fid<|e4.row 0 2 z) ?_
  have bw:=mmr<|Blk.lt hB1
  refine E0 (fs0 (cur':=[vI a2.at_,vI a2.code]) J_ z z (((((h6.e h2).c G<|djs<|mmr h6.lt).c aj<|atp bw).e aN).c aO<|djs<|mm1 h6.lt<|lt_ (lt_ h2.s G.s) aj.s) z z z z) ?_;rintro _ e6 ⟨e7,e8⟩;have bx:=e8.one;refine Wn ?_;obtain rfl:=som cV;have bz:=lt_ bt aj.s;exact Wr<|k_ hr (x_ a_t J_ z e7 z) ⟨(cM (cM (e_ (cM (cM (e_ (e_ (cr [g1] w0) h1:Cg [g1] w0 H) h2:Cg [g1] w0 O) G (mor h1.s:∀k∈[H.z],k∈[g1]∨w0.z<=k):Cg [g1] w0 V) aj (io sr):Cg [g1] w0 aM) aN:Cg [g1] w0 bu) aO (mor bz:∀k∈[aM.z],k∈[g1]∨w0.z<=k):Cg [g1] w0 e3) bx (mor lr:∀k∈[w0.z],k∈[g1]∨w0.z<=k):Cg [g1] w0 e6),z,dZ,e0,e1,((e2.e aN).c aO<|djs<|mm1 (Blk.lt hB1) bz).c bx<|djs bw⟩
 have b9:=ifF b8 az;refine Wk<|Wm z<|R z (Y_ z)<|Rf z j_k z ?_
 have bA:=mm1 (Blk.lt hB1) h1.s;have bB:=(aL.e h2).c G<|djs bA
 refine R z (l0 g_3 z<|bB.at z)<|R z (add_ z z)<|R z (Y_ z)<|Rf z j_k z<|E0 (fs0 (cur':=[sl A0 N0 C0,sl A6 N6 C6,vI<|h_ x1.applied 1]) z_3 z z bB z z z z) ?_
 rintro _ I ⟨ha,e9⟩;have h3:=e9.one;refine Wn<|Wq<|Ws<|Rf z a_G z ?_
 have hb:=br.c h3<|atp bA
 refine R z (l0 g_3 z<|hb.at z)<|Wn<|Wb<|Ws<|Rq z z z<|Rw z<|Wc z (λaA=>?_) (λaA=>?_)
 .refine Wm z<|R z (lN (vs:=vR xh ao np cq ar ns ct au nv cw ai nj ck) M_ p_ z z fid<|hb.row 0 8 z)<|Rm z ?_
  have bC:∀k∈[H.z],¬B k:=or0 (b_ lr)<|o_<|zt' J h1.s;have bD:=(((h1.ag B).e h2).c G<|c_ bC).c h3<|c_<|b_ hBg
  have ak:=((h2.ag B).c G<|c_ bC).c h3<|c_<|b_ hBg
  obtain ⟨bE,ea,cW⟩:=bdS<|ifT b9 aA;refine E z (fc call114 z<|W_w2j (B:=w0.z) ea (b_g<|lt_ (lt_ (lt_ h1.s h2.s) G.s) h3.s) (repS.mono (W.g bD) J) (repS.mono (Y.g bD) J) (iA _ _) (ha.row 0 3 z) (Blk.lt hB1) a7 a8 hz (repS.mono (a1.g ak) J) (repS.mono (a9.g ak) J) (repS.mono (aa.g ak) J) (repS.mono (he.g ak) J) a0) ?_;rintro _ eb ⟨aP,rfl,ec,ed⟩;have bF:=mmr<|Blk.lt hB1
  refine E0 (fs0 (cur':=[vI bE.at_,vI bE.code]) J_ z z ((((h6.e h2).c G<|djs<|mmr h6.lt).c h3<|atp bF).e aP) z z z z) ?_;rintro _ ee ⟨ef,eg⟩;have bG:=eg.one;refine Wn ?_;obtain rfl:=som cW;exact Wr<|rtO<|k_ hr (x_ a_t J_ z ef z) ⟨(cM (e_ (cM (cM (e_ (e_ (cr [g1] w0) h1:Cg [g1] w0 H) h2:Cg [g1] w0 O) G (mor h1.s:∀k∈[H.z],k∈[g1]∨w0.z<=k):Cg [g1] w0 V) h3 (io sr):Cg [g1] w0 I) aP:Cg [g1] w0 eb) bG (mor lr:∀k∈[w0.z],k∈[g1]∨w0.z<=k):Cg [g1] w0 ee),z,ec,ed,iA _ _,(ha.e aP).c bG<|djs bF⟩
 have ba:=ifF b9 aA;refine Ws<|Rq z z z<|Rw z<|Wc z (λaB=>?_) (λaB=>?_)
 .refine Wm z<|Rm z<|Rf z a_W z<|R z (l0 g_3 z<|hb.at z) ?_
  have bH:=(((h1.ag B).e h2).c G<|c_ (or0 (b_ lr) (o_<|zt' J h1.s):∀k∈[H.z],¬B k)).c h3<|c_<|b_ hBg
  obtain ⟨bI,eh,cX⟩:=bdS<|ifT ba aB;refine E z (fc call115 z<|h_V (B:=w0.z) eh (b_g<|lt_ (lt_ (lt_ h1.s h2.s) G.s) h3.s) (repS.mono (W.g bH) J) (repS.mono (Y.g bH) J) (iA _ _) (ha.row 0 3 z) (Blk.lt hB1) a0 hz) ?_;rintro _ ei ⟨aQ,rfl,ej,ek⟩;have bJ:=mmr<|Blk.lt hB1
  refine E0 (fs0 (cur':=[vI bI.at_,vI bI.code]) J_ z z ((((h6.e h2).c G<|djs<|mmr h6.lt).c h3<|atp bJ).e aQ) z z z z) ?_;rintro _ em ⟨en,eo⟩;have bK:=eo.one;refine Wn ?_;obtain rfl:=som cX;exact Wr<|rtO<|k_ hr (x_ a_t J_ z en z) ⟨(cM (e_ (cM (cM (e_ (e_ (cr [g1] w0) h1:Cg [g1] w0 H) h2:Cg [g1] w0 O) G (mor h1.s:∀k∈[H.z],k∈[g1]∨w0.z<=k):Cg [g1] w0 V) h3 (io sr):Cg [g1] w0 I) aQ:Cg [g1] w0 ei) bK (mor lr:∀k∈[w0.z],k∈[g1]∨w0.z<=k):Cg [g1] w0 em),z,ej,ek,iA _ _,(ha.e aQ).c bK<|djs bJ⟩
 have bb:=ifF ba aB;refine Ws<|Rq z z z<|Rw z<|Wc z (λaC=>?_) (λaC=>?_)
 .refine Wm z<|Rf z Q_ z<|R z (l0 F_ z<|hb.at z) ?_
  obtain ⟨_,ep,cY⟩:=bdS<|ifT bb aC;have bL:∀k∈[H.z],¬B k:=or0 (b_ lr)<|o_<|zt' J h1.s;refine RX z (at_ (α:=Int) G_ z_3 z z z (he.g<|((h2.ag B).c G<|c_ bL).c h3<|c_<|b_ hBg) ep) ?_;rintro _ ⟨_,_,_,rfl,er,es,_⟩;obtain ⟨rfl,eu⟩:=U_ es;refine R z (l0 g_3 z<|er.at0 z)<|Rm z ?_
  have aR:=(((h1.ag B).e h2).c G<|c_ bL).c h3<|c_<|b_ hBg
  have aS:=lt_ (lt_ (lt_ h1.s h2.s) G.s) h3.s;obtain ⟨_,a3,_,ew,bc⟩:=t_ cY;refine E z (fc call113 z<|j_u (B:=B) ew ha (zt' J aS) hBg (W.g aR) (Y.g aR) (iA _ _) eu a0) ?_;rintro _ a4 ⟨sf,rfl,ex,bM,ey,aT,bN⟩;refine Rm z<|Re z z z<|Re z z z<|E z (fa b_L) ?_
  rintro _ aU ⟨rfl,bO⟩;have hl:=bO.below;refine Ra z<|E0 (fs0 (cur':=[vI a3.at_,vI a3.code]) J_ z z (bO.blk:Blk aU a4.z [vI 0,vI 0]) z z z z) ?_
  rintro _ bQ ⟨aV,ez⟩;have hn:=ez.one;refine Wn<|Wq<|Ws<|Rf z d_D z<|R z (l0 g_3 z<|aV.at z)<|R z (nq z z)<|Wx z (λaD=>?_) (λaD=>?_)
  .refine Ws<|R z (lN (vs:=[vI a3.at_,vI a3.code]) a_t J_ z z fid<|aV.row 0 2 z) ?_
   have aW:=mmr<|Blk.lt hB1
   refine E0 (fs0 (cur':=[vI a3.at_,vI a3.code]) J_ z z ((((((h6.e h2).c G<|djs<|mmr h6.lt).c h3<|atp aW).c sf<|atp aW).e hl).c hn<|djs<|mm1 h6.lt<|lt_ (lt_ (lt_ h2.s G.s) h3.s) sf.s) z z z z) ?_;rintro _ eA ⟨eB,eC⟩;have bR:=eC.one;refine Wn ?_;obtain rfl:=som<|ifT bc aD;have bS:=lt_ aS sf.s;exact Wr<|rtO<|k_ hr (x_ a_t J_ z eB z) ⟨(cM (cM (e_ (cM (cM (cM (e_ (e_ (cr [g1] w0) h1:Cg [g1] w0 H) h2:Cg [g1] w0 O) G (mor h1.s:∀k∈[H.z],k∈[g1]∨w0.z<=k):Cg [g1] w0 V) h3 (io sr):Cg [g1] w0 I) sf (io sr):Cg [g1] w0 a4) hl:Cg [g1] w0 aU) hn (mor bS:∀k∈[a4.z],k∈[g1]∨w0.z<=k):Cg [g1] w0 bQ) bR (mor lr:∀k∈[w0.z],k∈[g1]∨w0.z<=k):Cg [g1] w0 eA),z,bM,ey,aT,((bN.e hl).c hn<|djs<|mm1 (Blk.lt hB1) bS).c bR<|djs aW⟩
  refine Wk<|Wm z<|Rf z d_d z<|R z (l0 g_3 z<|aV.at z)<|Rm z ?_
  have al:=lt_ aS sf.s;have bT:=(bN.e hl).c hn<|djs<|mm1 (Blk.lt hB1) al
  have bU:=((aR.c sf<|c_<|b_ hBg).e hl).c hn<|c_ (or0 (b_ lr) (o_<|zt' J al):∀k∈[a4.z],¬B k)
  obtain ⟨bV,eD,cZ⟩:=bdS<|ifF bc aD;refine E z (fc call115 z<|h_V (B:=w0.z) eD (b_g<|lt_ (lt_ al hl.s) hn.s) (repS.mono (W.g bU) J) (repS.mono (Y.g bU) J) aT (bT.row 0 3 z) (Blk.lt hB1) bM ex) ?_;rintro _ eE ⟨aX,rfl,eF,eG⟩;have aY:=mmr<|Blk.lt hB1
  refine E0 (fs0 (cur':=[vI bV.at_,vI bV.code]) J_ z z (((((((h6.e h2).c G<|djs<|mmr h6.lt).c h3<|atp aY).c sf<|atp aY).e hl).c hn<|djs<|mm1 h6.lt<|lt_ (lt_ (lt_ h2.s G.s) h3.s) sf.s).e aX) z z z z) ?_;rintro _ eH ⟨eI,eJ⟩;have bW:=eJ.one;refine Wn ?_;obtain rfl:=som cZ;exact Wr<|rtO<|k_ hr (x_ a_t J_ z eI z) ⟨(cM (e_ (cM (e_ (cM (cM (cM (e_ (e_ (cr [g1] w0) h1:Cg [g1] w0 H) h2:Cg [g1] w0 O) G (mor h1.s:∀k∈[H.z],k∈[g1]∨w0.z<=k):Cg [g1] w0 V) h3 (io sr):Cg [g1] w0 I) sf (io sr):Cg [g1] w0 a4) hl:Cg [g1] w0 aU) hn (mor al:∀k∈[a4.z],k∈[g1]∨w0.z<=k):Cg [g1] w0 bQ) aX:Cg [g1] w0 eE) bW (mor lr:∀k∈[w0.z],k∈[g1]∨w0.z<=k):Cg [g1] w0 eH),z,eF,eG,aT,(bT.e aX).c bW<|djs aY⟩
 have be:=ifF bb aC;refine Ws<|Rq z z z<|Rw z<|Wc z (λaE=>?_) (λaE=>?_)
 .refine Wm z<|R z (lN (vs:=vR xh ao np cq ar ns ct au nv cw ai nj ck) M_ p_ z z fid<|hb.row 0 8 z)<|Rm z ?_
  have bX:∀k∈[H.z],¬B k:=or0 (b_ lr)<|o_<|zt' J h1.s;have bY:=(((h1.ag B).e h2).c G<|c_ bX).c h3<|c_<|b_ hBg
  have am:=((h2.ag B).c G<|c_ bX).c h3<|c_<|b_ hBg
  obtain ⟨bZ,_,eK,d0⟩:=a_v<|ifT be aE;refine E z (fc call116 z<|dO.run (B:=B) eK ha (zt' J<|lt_ (lt_ (lt_ h1.s h2.s) G.s) h3.s) hBg (W.g bY) (Y.g bY) (iA _ _) a7 a8 hz (a1.g am) (a9.g am) (aa.g am) (he.g am) a0) ?_;rintro _ eL ⟨c0,rfl,eM,eN,eO,eP⟩;have aZ:=mmr<|Blk.lt hB1
  refine E0 (fs0 (cur':=[vI bZ.at_,vI bZ.code]) J_ z z ((((h6.e h2).c G<|djs<|mmr h6.lt).c h3<|atp aZ).c c0<|atp aZ) z z z z) ?_;rintro _ eQ ⟨eR,eS⟩;have c1:=eS.one;refine Wn ?_;obtain rfl:=som d0;exact Wr<|rtO<|k_ hr (x_ a_t J_ z eR z) ⟨(cM (cM (cM (cM (e_ (e_ (cr [g1] w0) h1:Cg [g1] w0 H) h2:Cg [g1] w0 O) G (mor h1.s:∀k∈[H.z],k∈[g1]∨w0.z<=k):Cg [g1] w0 V) h3 (io sr):Cg [g1] w0 I) c0 (io sr):Cg [g1] w0 eL) c1 (mor lr:∀k∈[w0.z],k∈[g1]∨w0.z<=k):Cg [g1] w0 eQ),z,eM,eN,eO,eP.c c1<|djs aZ⟩
 have bf:=ifF be aE;refine Ws<|Rq z z z<|Rw z<|Wc z (λaF=>?_) (λaF=>?_)
 .refine Wm z<|R z (bP (parts:=[(0,.tmp 88),(1,.const<|.int .i64 0)]) (cs:=[vI x3,vI 0]) c_T z z)<|E z (fa b_L) ?_
  rintro _ c2 ⟨rfl,c3⟩;have hx:=c3.below;refine E0 (fs0 (cur':=[vI x3,vI 0]) J_ z z (c3.blk:Blk c2 I.z [vI 0,vI 0]) z z z z) ?_;rintro _ L ⟨eT,eU⟩;have hy:=eU.one;refine Wn<|Wq<|Ws<|Rf z Q_ z<|R z (l0 F_ z<|((hb.e hx).c hy<|djs<|mm1 bq.lt<|lt_ G.s h3.s).at z) ?_
  have c4:∀k∈[H.z],¬B k:=or0 (b_ lr)<|o_<|zt' J h1.s;have ab:=lt_ (lt_ (lt_ h1.s h2.s) G.s) h3.s;have an:∀k∈[I.z],¬B k:=or0 (b_ lr)<|o_<|zt' J ab;have c5:=((((h2.ag B).c G<|c_ c4).c h3<|c_<|b_ hBg).e hx).c hy<|c_ an
  refine R z (lnR G_ z<|he.g c5)<|Rm z<|Wn ?_
  obtain ⟨_,d1,bg⟩:=bdS<|ifT bf aF;refine Wf (σ:=Int×Int×Int) (ρ:=W_×Int) (λ(c6:Nat) s a w=>un3 (λxm xc xd=>Sat 145 [(0,pt g1),(6,pt w0.z),(12,pt I.z),(91,sl ai nj ck),(92,vI (xh.kids.length:Int)),(93,vI ((c6:Nat):Int))] a/\Chg (· ∈ ([g1]++[I.z])) L w/\inI xm/\inI xc/\inI xd/\Blk w g1 [sl A0 N0 C0,sl A6 N6 C6,vI xm]/\Blk w I.z [vI xc,vI xd]) s) (λs a w=>un3 (λxm xc xd=>Sat 145 [(6,pt w0.z),(12,pt I.z)] a/\Chg (· ∈ ([g1]++[I.z])) L w/\inI xm/\inI xc/\inI xd/\Blk w g1 [sl A0 N0 C0,sl A6 N6 C6,vI xm]/\Blk w I.z [vI xc,vI xd]) s) (rQ prog fn<|Q27 w0 g1 B A0 N0 C0 A6 N6 C6 x1) d1 ?_ ?_ ?_ ?_ ?_
  .exact λ_ q=>⟨q.k<|s6 z z z z z z,cr ([g1]++[I.z]) L,iA _ _,a0,ii z,(ha.e hx).c hy<|djs<|mm1 (Blk.lt hB1) ab,eT⟩
  .rintro c6 ⟨xm,xc,xd⟩ _ c7 _ bh ⟨d2,ad,ae,af,ap,ah,a5⟩ d3;refine Wu ?_ d2;refine Ws<|Rl z z z<|Wn<|Wq<|Wc z (λ_=>?_) (λhc=>(a_g bh hc).elim)
   refine Wk<|Wq<|Wb<|Ws ?_
   obtain ⟨_,eV,d4⟩:=bdS<|a_w d3;refine RX z (at_ (α:=Int) G_ z_3 z z z (he.g<|c5.c ad<|nmA (c_<|b_ hBg)<|c_ an) eV) ?_;rintro _ ⟨_,_,_,rfl,eW,eX,_⟩;obtain ⟨rfl,eY⟩:=U_ eX;refine R z (l0 g_3 z<|eW.at0 z)<|Rw z<|Wm z<|Rm z<|Rf z d_d z<|R z (l0 g_3 z<|a5.at z) ?_
   have c8:=((((((h1.ag B).e h2).c G<|c_ c4).c h3<|c_<|b_ hBg).e hx).c hy<|c_ an).c ad<|nmA (c_<|b_ hBg)<|c_ an
   obtain ⟨aq,eZ,f0,bi⟩:=a_v d4;refine E z (fc call89 z<|dN.run (B:=B) f0 ah (zt' J<|lt_ (lt_ (lt_ ab hx.s) hy.s) ad.s) hBg (W.g c8) (Y.g c8) ae eY af) ?_;rintro _ c9 ⟨b0,rfl,ca,cb,cc,cd⟩;have b1:=mm1 (Blk.lt hB1) ab;refine E0 (fs0 (cur':=[vI aq.at_,vI aq.code]) J_ z z (a5.c b0<|atp b1) z z z z) ?_;rintro _ ce ⟨b2,f1⟩;have av:=f1.one;refine Wn<|Ws<|Rf z d_D z<|R z (l0 g_3 z<|b2.at z)<|R z (nq z z)<|Wx z (λaG=>?_) (λaG=>?_)
   .have f2:Chg (· ∈ ([g1]++[I.z])) L c7:=cM (cr ([g1]++[I.z]) L) ad<|aa_ (io<|i_ sr)<|io<|f_ sr;exact We<|exO z (λ_ q=>b_x (som<|ifT bi aG).symm ⟨q.k<|s2 z z,(cM (cM f2 b0 (io<|i_ sr):Chg (· ∈ ([g1]++[I.z])) L c9) av (io<|f_ sr):Chg (· ∈ ([g1]++[I.z])) L ce),cc,ca,cb,cd.c av<|djs b1,b2⟩)
   refine Wk<|Wg<|R z (inc_ bh (lt_ (repS.len he) O_) z z)<|Rm z<|Wl ?_
   exact λ_ q=>⟨(eZ,aq.at_,aq.code),(som<|ifF bi aG).symm,⟨q.k<|s6 z z z z z z,(cM (cM (cM (cr ([g1]++[I.z]) L) ad (aa_ (io<|i_ sr)<|io<|f_ sr):Chg (· ∈ ([g1]++[I.z])) L c7) b0 (io<|i_ sr):Chg (· ∈ ([g1]++[I.z])) L c9) av (io<|f_ sr):Chg (· ∈ ([g1]++[I.z])) L ce),cc,ca,cb,cd.c av<|djs b1,b2⟩⟩
  .rintro ⟨xm,xc,xd⟩ _ f3 ⟨d5,f4,ae,af,ap,ah,a5⟩;refine Wu ?_ d5;refine Ws<|Rl z z z<|Wn<|Wq<|Wc z (λhc=>(a_h hc).elim) (λ_=>?_)
   exact We<|λ_ q=>⟨rfl,⟨q.k<|s2 z z,(cM (cr ([g1]++[I.z]) L) f4 (aa_ (io<|i_ sr)<|io<|f_ sr):Chg (· ∈ ([g1]++[I.z])) L f3),ae,af,ap,ah,a5⟩⟩
  .rintro ⟨xm,xc,xd⟩ f5 f6 rfl ⟨_,cf,ae,af,ap,ah,a5⟩;have d6:=elL bg;revert f5;refine Wo<|Ws<|R z (lN (vs:=[vI xc,vI xd]) a_t J_ z z fid<|a5.row 0 2 z) ?_
   have b3:=mmr<|Blk.lt hB1
   have cg:=mm1 h6.lt<|lt_ (lt_ h2.s G.s) h3.s
   refine E0 (fs0 (cur':=[vI xc,vI xd]) J_ z z ((((((h6.e h2).c G<|djs<|mmr h6.lt).c h3<|atp b3).e hx).c hy<|djs cg).c cf<|atp<|nmA b3<|ds cg) z z z z) ?_;rintro _ f7 ⟨f8,f9⟩;have ch:=f9.one;refine Wn ?_;obtain rfl:=som<|a_w d6;have ci:∀k∈[I.z],k∈[g1]∨w0.z<=k:=mor ab;exact Wr<|rtO<|k_ hr (x_ a_t J_ z f8 z) ⟨(cM (cM (cM (e_ (cM (cM (e_ (e_ (cr [g1] w0) h1:Cg [g1] w0 H) h2:Cg [g1] w0 O) G (mor h1.s:∀k∈[H.z],k∈[g1]∨w0.z<=k):Cg [g1] w0 V) h3 (io sr):Cg [g1] w0 I) hx:Cg [g1] w0 c2) hy ci:Cg [g1] w0 L) cf (aa_ (io sr) ci):Cg [g1] w0 f6) ch (mor lr:∀k∈[w0.z],k∈[g1]∨w0.z<=k):Cg [g1] w0 f7),z,af,ap,ae,ah.c ch<|djs b3⟩
  rintro _ _ _ _ rfl ⟨rfl,cN⟩;have cO:=elR bg;obtain rfl:=som cO;exact ⟨cN,z⟩
 have bj:=ifF bf aF;refine Ws<|Rq z z z<|Rw z<|Wc z (λaH=>?_) (λaH=>?_)
 .refine Wm z<|R z (lN (vs:=vR xh ao np cq ar ns ct au nv cw ai nj ck) M_ p_ z z fid<|hb.row 0 8 z)<|Rm z ?_
  have cj:∀k∈[H.z],¬B k:=or0 (b_ lr)<|o_<|zt' J h1.s;have cl:=(((h1.ag B).e h2).c G<|c_ cj).c h3<|c_<|b_ hBg
  have aw:=((h2.ag B).c G<|c_ cj).c h3<|c_<|b_ hBg
  obtain ⟨cm,_,d7,cP⟩:=a_v<|ifT bj aH;refine E z (fc call117 z<|dP.run (B:=B) d7 ha (zt' J<|lt_ (lt_ (lt_ h1.s h2.s) G.s) h3.s) hBg (W.g cl) (Y.g cl) (iA _ _) a7 a8 hz (a1.g aw) (a9.g aw) (aa.g aw) (he.g aw) a0) ?_;rintro _ d8 ⟨cn,rfl,d9,da,db,dc⟩;have b4:=mmr<|Blk.lt hB1
  refine E0 (fs0 (cur':=[vI cm.at_,vI cm.code]) J_ z z ((((h6.e h2).c G<|djs<|mmr h6.lt).c h3<|atp b4).c cn<|atp b4) z z z z) ?_;rintro _ dd ⟨de,df⟩;have co:=df.one;refine Wn ?_;obtain rfl:=som cP;exact Wr<|rtO<|k_ hr (x_ a_t J_ z de z) ⟨(cM (cM (cM (cM (e_ (e_ (cr [g1] w0) h1:Cg [g1] w0 H) h2:Cg [g1] w0 O) G (mor h1.s:∀k∈[H.z],k∈[g1]∨w0.z<=k):Cg [g1] w0 V) h3 (io sr):Cg [g1] w0 I) cn (io sr):Cg [g1] w0 d8) co (mor lr:∀k∈[w0.z],k∈[g1]∨w0.z<=k):Cg [g1] w0 dd),z,d9,da,db,dc.c co<|djs b4⟩
 have bk:=ifF bj aH;refine Ws<|Rq z z z<|Rw z<|Wc z (λaI=>?_) (λaI=>?_)
 .refine Wm z<|R z (lN (vs:=vR xh ao np cq ar ns ct au nv cw ai nj ck) M_ p_ z z fid<|hb.row 0 8 z)<|Rm z ?_
  have cp:∀k∈[H.z],¬B k:=or0 (b_ lr)<|o_<|zt' J h1.s;have cu:=(((h1.ag B).e h2).c G<|c_ cp).c h3<|c_<|b_ hBg
  have ax:=((h2.ag B).c G<|c_ cp).c h3<|c_<|b_ hBg
  obtain ⟨cv,_,dg,cQ⟩:=a_v<|ifT bk aI;refine E z (fc call118 z<|dS.run (B:=B) dg ha (zt' J<|lt_ (lt_ (lt_ h1.s h2.s) G.s) h3.s) hBg (W.g cu) (Y.g cu) (iA _ _) a7 a8 hz (a1.g ax) (a9.g ax) (aa.g ax) (he.g ax) a0) ?_;rintro _ dh ⟨cx,rfl,di,dj,dk,dl⟩;have b5:=mmr<|Blk.lt hB1
  refine E0 (fs0 (cur':=[vI cv.at_,vI cv.code]) J_ z z ((((h6.e h2).c G<|djs<|mmr h6.lt).c h3<|atp b5).c cx<|atp b5) z z z z) ?_;rintro _ dm ⟨dn,dp⟩;have cy:=dp.one;refine Wn ?_;obtain rfl:=som cQ;exact Wr<|rtO<|k_ hr (x_ a_t J_ z dn z) ⟨(cM (cM (cM (cM (e_ (e_ (cr [g1] w0) h1:Cg [g1] w0 H) h2:Cg [g1] w0 O) G (mor h1.s:∀k∈[H.z],k∈[g1]∨w0.z<=k):Cg [g1] w0 V) h3 (io sr):Cg [g1] w0 I) cx (io sr):Cg [g1] w0 dh) cy (mor lr:∀k∈[w0.z],k∈[g1]∨w0.z<=k):Cg [g1] w0 dm),z,di,dj,dk,dl.c cy<|djs b5⟩
 have bm:=ifF bk aI;refine Ws<|Rq z z z<|Rw z<|Wc z (λaJ=>?_) (λaJ=>?_)
 .refine Wm z<|R z (lN (vs:=vR xh ao np cq ar ns ct au nv cw ai nj ck) M_ p_ z z fid<|hb.row 0 8 z)<|Rm z ?_
  have cz:∀k∈[H.z],¬B k:=or0 (b_ lr)<|o_<|zt' J h1.s;have cA:=(((h1.ag B).e h2).c G<|c_ cz).c h3<|c_<|b_ hBg
  have ay:=((h2.ag B).c G<|c_ cz).c h3<|c_<|b_ hBg
  obtain ⟨cB,_,dq,cR⟩:=a_v<|ifT bm aJ;refine E z (fc call119 z<|dT.run (B:=B) dq ha (zt' J<|lt_ (lt_ (lt_ h1.s h2.s) G.s) h3.s) hBg (W.g cA) (Y.g cA) (iA _ _) a7 a8 hz (a1.g ay) (a9.g ay) (aa.g ay) (he.g ay) a0) ?_;rintro _ dr ⟨cC,rfl,dt,du,dv,dw⟩;have b6:=mmr<|Blk.lt hB1
  refine E0 (fs0 (cur':=[vI cB.at_,vI cB.code]) J_ z z ((((h6.e h2).c G<|djs<|mmr h6.lt).c h3<|atp b6).c cC<|atp b6) z z z z) ?_;rintro _ dx ⟨dy,dz⟩;have cD:=dz.one;refine Wn ?_;obtain rfl:=som cR;exact Wr<|rtO<|k_ hr (x_ a_t J_ z dy z) ⟨(cM (cM (cM (cM (e_ (e_ (cr [g1] w0) h1:Cg [g1] w0 H) h2:Cg [g1] w0 O) G (mor h1.s:∀k∈[H.z],k∈[g1]∨w0.z<=k):Cg [g1] w0 V) h3 (io sr):Cg [g1] w0 I) cC (io sr):Cg [g1] w0 dr) cD (mor lr:∀k∈[w0.z],k∈[g1]∨w0.z<=k):Cg [g1] w0 dx),z,dt,du,dv,dw.c cD<|djs b6⟩
 refine Wk<|Wq (Wd (X:=noX) 0 (pl_ 17 [9]) mo (by kernel_rfl) λcE sg _=>dM z z z<|dR z z (Y_ z)<|dR z z (fd e_4 z) ?_)
 have b7:=ha.e sg;refine dR z z (l0 a_0 z<|b7.at z)<|dM z z z<|dR z z (fd a_X z)<|dR z z (l0 a_0 z<|(hb.e sg).at z) ?_
 obtain ⟨_,dA,cS⟩:=bdS<|ifF bm aJ;have cF:∀k∈[H.z],¬B k:=or0 (b_ lr)<|o_<|zt' J h1.s;refine dRX z z (at_ (α:=UInt8) w_ z_5 z z z (a1.g<|(((h2.ag B).c G<|c_ cF).c h3<|c_<|b_ hBg).e sg) dA) ?_;rintro _ ⟨_,_,_,rfl,dB,dC,_⟩;obtain rfl:=u8 dC;refine dR z z (l0 g_5 z<|dB.at0 z) ?_;obtain ⟨_,cG,_,dD,bn⟩:=t_ cS;refine dE z z (fc call107 z<|W_w1i dD (zt' J<|lt_ (lt_ (lt_ (lt_ h1.s h2.s) G.s) h3.s) sg.s) (Y.g<|((((h1.ag B).e h2).c G<|c_ cF).c h3<|c_<|b_ hBg).e sg) a0) (.inr λ_ _ h=>y_<|h.1) ?_;rintro _ cH ⟨a6,_,_,_,_,rfl,_,dF,_,_⟩;refine dM z z z ?_
 iterate 3 refine dR z z (ext_ z z) ?_
 iterate 3 refine dQ z z z ?_
 refine pD<|Wo<|Wq<|Wm z<|R z (not_ z)<|Wx z (λaK=>?_) (λaK=>?_)
 .refine Wm z<|R z (bP (parts:=[(0,.tmp 141),(1,.const<|.int .i64 1)]) (cs:=[vI x3,vI 1]) c_T z z) ?_
  have cI:=mmr<|Blk.lt hB1
  refine E0 (fs0 (cur':=[vI x3,vI 1]) J_ z z (((((h6.e h2).c G<|djs<|mmr h6.lt).c h3<|atp cI).e sg).e a6) z z z z) ?_;rintro _ dG ⟨dH,dI⟩;have cJ:=dI.one;refine Wn ?_;obtain rfl:=som<|ifT bn aK;exact Wr<|k_ hr (x_ a_t J_ z dH z) ⟨(cM (e_ (e_ (cM (cM (e_ (e_ (cr [g1] w0) h1:Cg [g1] w0 H) h2:Cg [g1] w0 O) G (mor h1.s:∀k∈[H.z],k∈[g1]∨w0.z<=k):Cg [g1] w0 V) h3 (io sr):Cg [g1] w0 I) sg:Cg [g1] w0 cE) a6:Cg [g1] w0 cH) cJ (mor lr:∀k∈[w0.z],k∈[g1]∨w0.z<=k):Cg [g1] w0 dG),z,a0,ii z,iA _ _,(b7.e a6).c cJ<|djs cI⟩
 refine Wk<|Wm z<|R z (bP (parts:=[(0,.tmp 143),(1,.const<|.int .i64 0)]) (cs:=[vI cG,vI 0]) c_T z z) ?_
 have cK:=mmr<|Blk.lt hB1
 refine E0 (fs0 (cur':=[vI cG,vI 0]) J_ z z (((((h6.e h2).c G<|djs<|mmr h6.lt).c h3<|atp cK).e sg).e a6) z z z z) ?_;rintro _ dJ ⟨dK,dL⟩;have cL:=dL.one;refine Wn ?_;obtain rfl:=som<|ifF bn aK;exact Wr<|k_ hr (x_ a_t J_ z dK z) ⟨(cM (e_ (e_ (cM (cM (e_ (e_ (cr [g1] w0) h1:Cg [g1] w0 H) h2:Cg [g1] w0 O) G (mor h1.s:∀k∈[H.z],k∈[g1]∨w0.z<=k):Cg [g1] w0 V) h3 (io sr):Cg [g1] w0 I) sg:Cg [g1] w0 cE) a6:Cg [g1] w0 cH) cL (mor lr:∀k∈[w0.z],k∈[g1]∨w0.z<=k):Cg [g1] w0 dJ),z,dF,ii z,iA _ _,(b7.e a6).c cL<|djs cK⟩
theorem T_w1o (ih:g_e n):k_Z (h_r n<|a_N n):=by
 obtain ⟨aP,_,_,_,_⟩:=ih
 constructor
 intro A0 A6 A2 A3 A1 A4 N0 C0 N6 C6 g1 N2 C2 N3 C3 N1 C1 N4 C4 B x1 x2 x3 res w0 hm hB1 W hBg a2 a3 aE bu bv bw bx bz bA a4 a5;unfold h_r at hm
 refine goG func116 z z z λfn hr=>Ws<|E z (fb z) ?_
 rintro _ J ⟨rfl,ab⟩;have h6:=ab.below;have ad:Blk J w0.z (vR x2 A2 N2 C2 A3 N3 C3 A1 N1 C1 A4 N4 C4):=ab.blk;refine E z (fa b_L) ?_;rintro _ wr ⟨rfl,ae⟩;have he:=ae.below;have hn:Blk wr J.z [vI 0,vI 0]:=ae.blk;refine Wn<|Wm z<|Rf z Q_ z ?_
 have af:=ad.e he;refine R z (l0 F_ z<|af.at z) ?_;obtain ⟨_,aQ,aF⟩:=bdS hm;have ho:=(h6.ag B).e he;refine RX z (at_ (α:=Int) G_ z_3 z z z (a4.g ho) aQ) ?_;rintro _ ⟨_,_,_,rfl,aR,aS,_⟩;obtain ⟨rfl,aT⟩:=U_ aS;refine R z (l0 g_3 z<|aR.at0 z)<|Rm z ?_
 have hj:=lt_ h6.s he.s;obtain ⟨ah,rs,_,aU,aG⟩:=t_ aF;refine E z (fc call113 z<|j_u (B:=B) aU ((hB1.e h6).e he) (zt' W hj) hBg (a2.g ho) (a3.g ho) aE aT a5) ?_;rintro _ G ⟨I,rfl,aV,aW,aX,ai,aj⟩;refine Rm z<|Re z z z<|Re z z z<|E z (fa b_L) ?_
 rintro _ wu ⟨rfl,ak⟩;have O:=ak.below;refine Ra z<|E0 (fs0 (cur':=[vI rs.at_,vI rs.code]) J_ z z (ak.blk:Blk wu G.z [vI 0,vI 0]) z z z z) ?_
 rintro _ wg ⟨al,aY⟩;have V:=aY.one;refine Wn<|Wq<|Wq ?_
 obtain ⟨aZ,a6,a7⟩:=bdS aG;refine Wt (λa w=>∃(xv:Bool),xv=aZ/\Sat 46 [(0,pt g1),(2,vI x3),(4,pt w0.z),(6,pt J.z),(7,vI ah),(8,pt G.z),(25,vB xv)] a/\Below wg.z wg w) ?_ ?_
 .refine Wg<|Rf z d_D z<|R z (l0 g_3 z<|al.at z)<|Rq z z z<|Rm z ?_
  rcases bs (rs.code==0) with L | L
  .exact Rh z L (mv z)<|Rh z L (a_b z z)<|R z (pT z L z)<|Wl (λ_ q=>⟨decide<|40<ah,som<|ifT a6 L,q.k<|s7 z z z z z z z,br wg⟩)
  exact Nh z L<|Nh z L<|R z (pF z L z)<|Wl (λ_ q=>⟨false,som<|ifF a6 L,q.k<|s7 z z z z z z z,br wg⟩)
 rintro b0 H ⟨xv,rfl,_,s4⟩;revert b0;refine Wo<|Wc z (λhcw=>?_) (λhcw=>?_)
 .refine Wm z<|R z (bP (parts:=[(0,.tmp 26),(1,.const<|.int .i64 6)]) (cs:=[vI x3,vI 6]) c_T z z) ?_
  have am:=mm1 (Blk.lt hB1) h6.s;refine E0 (fs0 (cur':=[vI x3,vI 6]) J_ z z ((((hn.c I<|atp am).e O).c V<|djs<|mm1 hn.lt I.s).e s4) z z z z) ?_;rintro _ b1 ⟨b2,b3⟩;have an:=b3.one;refine Wn ?_;obtain rfl:=som<|ifT a7 hcw;have ao:=lt_ hj I.s;exact Wr<|k_ hr (x_ a_t J_ z b2 z) ⟨(cM (e_ (cM (e_ (cM (e_ (e_ (cr [g1] w0) h6:Cg [g1] w0 J) he:Cg [g1] w0 wr) I (io sr):Cg [g1] w0 G) O:Cg [g1] w0 wu) V (mor ao:∀k∈[G.z],k∈[g1]∨w0.z<=k):Cg [g1] w0 wg) s4:Cg [g1] w0 H) an (mor h6.s:∀k∈[J.z],k∈[g1]∨w0.z<=k):Cg [g1] w0 b1),z,a5,ii z,ai,(((aj.e O).c V<|djs<|mm1 (Blk.lt hB1) ao).e s4).c an<|djs am⟩
 refine Wk<|Wq ?_
 obtain ⟨_,aH,a8⟩:=bdS<|ifF a7 hcw;refine b_Y (σ:=Int×Int×Int×Int) (ρ:=W_×Int) (λs a w=>un4 (λxa xf xb x5=>Sat 46 [(0,pt g1),(4,pt w0.z),(6,pt J.z),(7,vI xa),(8,pt G.z)] a/\Chg (· ∈ ([g1]++[G.z])) H w/\inI xa/\inI xf/\inI xb/\inI x5/\Blk w g1 [sl A0 N0 C0,sl A6 N6 C6,vI xf]/\Blk w G.z [vI xb,vI x5]) s) (λs a w=>un4 (λxa xf xb x5=>Sat 46 [(6,pt J.z),(8,pt G.z)] a/\Chg (· ∈ ([g1]++[G.z])) H w/\inI xa/\inI xf/\inI xb/\inI x5/\Blk w g1 [sl A0 N0 C0,sl A6 N6 C6,vI xf]/\Blk w G.z [vI xb,vI x5]) s) (rQ prog fn<|Q27 w0 g1 B A0 N0 C0 A6 N6 C6 x1) aH ?_ ?_ ?_ ?_
 .exact λ_ q=>⟨q.k<|s5 z z z z z,cr ([g1]++[G.z]) H,aV,ai,aW,aX,((aj.e O).c V<|djs<|mm1 (Blk.lt hB1)<|lt_ hj I.s).e s4,al.e s4⟩
 .rintro ⟨xa,xf,xb,x5⟩ _ wh _ ⟨aI,sk,ap,hp,hq,hx,ht,hl⟩ aJ;refine Wu ?_ aI;refine Wq<|Wq ?_
  obtain ⟨b4,a9,aa⟩:=bdS<|d_n aJ;refine Wt (λa w=>∃(xy:Bool),xy=b4/\Sat 46 [(0,pt g1),(4,pt w0.z),(6,pt J.z),(7,vI xa),(8,pt G.z),(34,vB xy)] a/\Below wh.z wh w) ?_ ?_
  .refine Wg<|Rm z<|R z (a_b z z)<|Rm z ?_
   rcases bs (decide<|0<xa) with hcc | hcc
   .exact Rh z hcc (fd d_D z)<|Rh z hcc (l0 g_3 z<|hl.at z)<|Rh z hcc (eql z z)<|R z (pT z hcc z)<|Wl (λ_ q=>⟨x5==0,som<|ifT a9 hcc,q.k<|s6 z z z z z z,br wh⟩)
   iterate 3 refine Nh z hcc ?_
   exact R z (pF z hcc z)<|Wl (λ_ q=>⟨false,som<|ifF a9 hcc,q.k<|s6 z z z z z z,br wh⟩)
  rintro b5 aq ⟨xy,rfl,_,sd⟩;revert b5;refine Wo<|Wc z (λhcz=>?_) (λhcz=>?_)
  .refine Wk<|Wq<|Wb (Wd (X:=noX) 384 (pl_ 9 [7,8]) mo (by kernel_rfl) λb6 si _=>dM z z z<|dR z z (fd Q_ z) ?_)
   have ar:=mmr<|Blk.lt hB1
   have au:=mm1 ad.lt<|lt_ he.s I.s
   refine dR z z (l0 F_ z<|(((((((af.c I<|atp ar).e O).c V<|djs au).e s4).c sk<|atp<|nmA ar<|ds au).e sd).e si).at z) ?_;obtain ⟨_,b7,aK⟩:=bdS<|ifT aa hcz;have Y:=lt_ hj I.s;have av:∀k∈[G.z],¬B k:=or0 (b_ lr)<|o_<|zt' W Y;have a0:=((((((ho.c I<|c_<|b_ hBg).e O).c V<|c_ av).e s4).c sk<|nmA (c_<|b_ hBg)<|c_ av).e sd).e si;refine dRX z z (at_ (α:=Int) G_ z_3 z z z (a4.g a0) b7) ?_;rintro _ ⟨_,_,_,rfl,b8,b9,_⟩;obtain ⟨rfl,ba⟩:=U_ b9;refine dR z z (l0 g_3 z<|b8.at0 z)<|dR z z (fd d_d z) ?_
   have aw:=(hl.e sd).e si;refine dR z z (l0 g_3 z<|aw.at z) ?_;obtain ⟨rm,bb,bc,aL⟩:=a_v aK;refine dE z z (fc call89 z<|aP.run (B:=B) bc ((ht.e sd).e si) (zt' W<|lt_ (lt_ (lt_ (lt_ (lt_ (lt_ Y O.s) V.s) s4.s) sk.s) sd.s) si.s) hBg (a2.g a0) (a3.g a0) hp ba hq) (.inl z) ?_;rintro _ be ⟨ax,rfl,bf,bg,bh,bi⟩;have ay:=mm1 (Blk.lt hB1) Y;refine dE0 z (fs0 (cur':=[vI rm.at_,vI rm.code]) J_ z z (aw.c ax<|atp ay) z z z z) (.inl z) ?_;rintro _ bj ⟨bk,bm⟩;have az:=bm.one;refine pD<|Wo<|Wg<|Rm z<|R z (sb_ z z)<|Ra z<|Wl ?_
   exact λ_ q=>⟨(I_ xa 1,bb,rm.at_,rm.code),(som aL).symm,⟨q.k<|s5 z z z z z,(cM (cM (e_ (e_ (cM (cr ([g1]++[G.z]) H) sk (aa_ (io<|i_ sr)<|io<|f_ sr):Chg (· ∈ ([g1]++[G.z])) H wh) sd:Chg (· ∈ ([g1]++[G.z])) H aq) si:Chg (· ∈ ([g1]++[G.z])) H b6) ax (io<|i_ sr):Chg (· ∈ ([g1]++[G.z])) H be) az (io<|f_ sr):Chg (· ∈ ([g1]++[G.z])) H bj),iS _ _,bh,bf,bg,bi.c az<|djs ay,bk⟩⟩
  exact We<|λ_ q=>b_x (som<|ifF aa hcz).symm ⟨q.k<|s2 z z,(e_ (cM (cr ([g1]++[G.z]) H) sk (aa_ (io<|i_ sr)<|io<|f_ sr):Chg (· ∈ ([g1]++[G.z])) H wh) sd:Chg (· ∈ ([g1]++[G.z])) H aq),ap,hp,hq,hx,ht.e sd,hl.e sd⟩
 .rintro ⟨xa,xf,xb,x5⟩ bn bo rfl ⟨_,aA,ap,hp,hq,hx,ht,hl⟩;have aM:=elL a8;revert bn;refine Wo<|Ws<|R z (lN (vs:=[vI xb,vI x5]) a_t J_ z z fid<|hl.row 0 2 z) ?_
  have a1:=mm1 (Blk.lt hB1) h6.s;have aB:=mm1 hn.lt I.s;refine E0 (fs0 (cur':=[vI xb,vI x5]) J_ z z (((((hn.c I<|atp a1).e O).c V<|djs aB).e s4).c aA<|atp<|nmA a1<|ds aB) z z z z) ?_;rintro _ bp ⟨bq,bt⟩;have aC:=bt.one;refine Wn ?_;obtain rfl:=som<|d_n aM;have aD:∀k∈[G.z],k∈[g1]∨w0.z<=k:=mor<|lt_ hj I.s;exact Wr<|k_ hr (x_ a_t J_ z bq z) ⟨(cM (cM (e_ (cM (e_ (cM (e_ (e_ (cr [g1] w0) h6:Cg [g1] w0 J) he:Cg [g1] w0 wr) I (io sr):Cg [g1] w0 G) O:Cg [g1] w0 wu) V aD:Cg [g1] w0 wg) s4:Cg [g1] w0 H) aA (aa_ (io sr) aD):Cg [g1] w0 bo) aC (mor h6.s:∀k∈[J.z],k∈[g1]∨w0.z<=k):Cg [g1] w0 bp),z,hq,hx,hp,ht.c aC<|djs a1⟩
 rintro _ _ _ _ rfl ⟨rfl,aN⟩;have aO:=elR a8;obtain rfl:=som aO;exact ⟨aN,z⟩
theorem T_w1p (ih:g_e n):l_0 (h_s n<|a_N n):=by
 obtain ⟨aq,_,_,_,_⟩:=ih
 constructor
 intro A0 A6 A2 A3 A1 A4 N0 C0 N6 C6 g1 N2 C2 N3 C3 N1 C1 N4 C4 B x1 x2 x3 res w0 hm hB1 V hBg W Y ae b2 b3 b4 b5 b6 O a0 a1;unfold h_s at hm
 refine goG func117 z z z λfn hr=>Ws<|E z (fb z) ?_
 rintro _ H ⟨rfl,hq⟩;have h1:=hq.below;have ht:Blk H w0.z (vR x2 A2 N2 C2 A3 N3 C3 A1 N1 C1 A4 N4 C4):=hq.blk;refine E z (fa b_L) ?_;rintro _ wc ⟨rfl,hu⟩;have h6:=hu.below;have L:Blk wc H.z [vI 0,vI 0]:=hu.blk;refine Wn<|Wm z<|Rf z Q_ z ?_
 have hv:=ht.e h6;refine R z (l0 F_ z<|hv.at z) ?_;obtain ⟨_,ar,af⟩:=bdS hm;have he:=(h1.ag B).e h6;refine RX z (at_ (α:=Int) G_ z_3 z z z (a0.g he) ar) ?_;rintro _ ⟨_,_,_,rfl,au,av,_⟩;obtain ⟨rfl,aw⟩:=U_ av;refine R z (l0 g_3 z<|au.at0 z)<|Rm z ?_
 have hg:=lt_ h1.s h6.s;obtain ⟨ax,rb,_,ay,hmr⟩:=t_ af;refine E z (fc call113 z<|j_u (B:=B) ay ((hB1.e h1).e h6) (zt' V hg) hBg (W.g he) (Y.g he) ae aw a1) ?_;rintro _ I ⟨G,rfl,_,hw,az,hh,hi⟩;refine Rm z<|Re z z z<|Re z z z<|E z (fa b_L) ?_
 rintro _ wf ⟨rfl,hx⟩;have h2:=hx.below;refine Ra z<|E0 (fs0 (cur':=[vI rb.at_,vI rb.code]) J_ z z (hx.blk:Blk wf I.z [vI 0,vI 0]) z z z z) ?_
 rintro _ J ⟨hj,aA⟩;have h3:=aA.one;refine Wn<|Wq<|Ws<|Rf z d_D z<|R z (l0 g_3 z<|hj.at z)<|R z (nq z z)<|Wx z (λhck=>?_) (λhck=>?_)
 .refine Ws<|R z (lN (vs:=[vI rb.at_,vI rb.code]) a_t J_ z z fid<|hj.row 0 2 z) ?_
  have hy:=mm1 (Blk.lt hB1) h1.s;refine E0 (fs0 (cur':=[vI rb.at_,vI rb.code]) J_ z z (((L.c G<|atp hy).e h2).c h3<|djs<|mm1 L.lt G.s) z z z z) ?_;rintro _ aB ⟨aC,aD⟩;have hz:=aD.one;refine Wn ?_;obtain rfl:=som<|ifT hmr hck;have a3:=lt_ hg G.s;exact Wr<|k_ hr (x_ a_t J_ z aC z) ⟨(cM (cM (e_ (cM (e_ (e_ (cr [g1] w0) h1:Cg [g1] w0 H) h6:Cg [g1] w0 wc) G (io sr):Cg [g1] w0 I) h2:Cg [g1] w0 wf) h3 (mor a3:∀k∈[I.z],k∈[g1]∨w0.z<=k):Cg [g1] w0 J) hz (mor h1.s:∀k∈[H.z],k∈[g1]∨w0.z<=k):Cg [g1] w0 aB),z,hw,az,hh,((hi.e h2).c h3<|djs<|mm1 (Blk.lt hB1) a3).c hz<|djs hy⟩
 refine Wk<|Wq<|Ws<|Rf z b_3 z ?_
 have a4:=((hv.c G<|atp<|mmr<|Blk.lt hB1).e h2).c h3<|djs<|mm1 ht.lt<|lt_ h6.s G.s
 refine R z (l0 F_ z<|a4.at z) ?_;have hd:=lt_ hg G.s;have a5:=((he.c G<|c_<|b_ hBg).e h2).c h3<|c_ (or0 (b_ lr) (o_<|zt' V hd):∀k∈[I.z],¬B k)
 refine R z (lnR G_ z<|O.g a5)<|Rm z<|Wn ?_
 obtain ⟨_,ah,hms⟩:=bdS<|ifF hmr hck;refine Wf (σ:=Unit) (ρ:=W_×Int) (λ(a6:Nat)(_:Unit) a w=>Sat 49 [(0,pt g1),(2,vI x3),(4,pt w0.z),(6,pt H.z),(7,vI ax),(8,pt I.z),(26,sl A1 N1 C1),(27,vI (x2.tags.length:Int)),(28,vI ((a6:Nat):Int))] a/\Below J.z J w) (λ(_:Unit) a w=>Sat 49 [(2,vI x3),(6,pt H.z)] a/\Below J.z J w) (rQ prog fn<|Q27 w0 g1 B A0 N0 C0 A6 N6 C6 x1) ah ?_ ?_ ?_ ?_ ?_
 .exact λ_ q=>⟨q.k<|s9 z z z z z z z z z,br J⟩
 .rintro a6 _ _ aE _ hkl ⟨ai,s8⟩ aj;refine Wu ?_ ai;refine Ws<|Rl z z z<|Wn<|Wq<|Wc z (λ_=>?_) (λhc=>(a_g hkl hc).elim)
  refine Wk<|Wq<|Wb<|Wm z ?_
  obtain ⟨_,aF,a2⟩:=bdS aj;have a7:=a5.e s8;refine RX z (at_ (α:=Int) G_ z_3 z z z (O.g a7) aF) ?_;rintro _ ⟨_,_,_,rfl,aG,aH,_⟩;obtain ⟨rfl,_⟩:=U_ aH;refine R z (l0 g_3 z<|aG.at0 z)<|Ra z<|Rw z<|Wm z<|Rm z<|Rq z z z<|Wx z (λhcm=>?_) (λhcm=>?_)
  .refine Wq (Wd (X:=noX) 1536 (pl_ 11 [9,10]) mo (by kernel_rfl) λaI sa _=>dM z z z<|dR z z (fd Q_ z)<|dR z z (l0 F_ z<|((a4.e s8).e sa).at z)<|dM z z z<|dR z z (inc_ hkl (lt_ (repS.len O) O_) z z) ?_);obtain ⟨_,aJ,ak⟩:=bdS<|ifT a2 hcm;have hn:=a7.e sa;refine dRX z z (at_ (α:=Int) G_ z_3 z z z (a0.g hn) aJ) ?_;rintro _ ⟨_,_,_,rfl,aK,aL,_⟩;obtain ⟨rfl,aM⟩:=U_ aL;refine dR z z (l0 g_3 z<|aK.at0 z)<|dR z z (fd d_d z)<|dR z z (l0 g_3 z<|((hj.e s8).e sa).at z) ?_
   obtain ⟨a8,_,aN,al⟩:=a_v ak;refine dE z z (fc call89 z<|aq.run (B:=B) aN ((((hi.e h2).c h3<|djs<|mm1 (Blk.lt hB1) hd).e s8).e sa) (zt' V<|lt_ (lt_ (lt_ (lt_ hd h2.s) h3.s) s8.s) sa.s) hBg (W.g hn) (Y.g hn) hh aM hw) (.inl z) ?_;rintro _ aO ⟨a9,rfl,aP,aQ,aR,aS⟩;have ho:=mm1 (Blk.lt hB1) h1.s;refine dE0 z (fs0 (cur':=[vI a8.at_,vI a8.code]) J_ z z ((((((L.c G<|atp ho).e h2).c h3<|djs<|mm1 L.lt G.s).e s8).e sa).c a9<|atp ho) z z z z) (.inl z) ?_;rintro _ aT ⟨aU,aV⟩;have aa:=aV.one;refine pD<|Wo ?_
   exact Wr<|rtO<|qL (som al).symm<|k_ hr (x_ a_t J_ z aU z) ⟨(cM (cM (e_ (e_ (cM (e_ (cM (e_ (e_ (cr [g1] w0) h1:Cg [g1] w0 H) h6:Cg [g1] w0 wc) G (io sr):Cg [g1] w0 I) h2:Cg [g1] w0 wf) h3 (mor hd:∀k∈[I.z],k∈[g1]∨w0.z<=k):Cg [g1] w0 J) s8:Cg [g1] w0 aE) sa:Cg [g1] w0 aI) a9 (io sr):Cg [g1] w0 aO) aa (mor h1.s:∀k∈[H.z],k∈[g1]∨w0.z<=k):Cg [g1] w0 aT),z,aP,aQ,aR,aS.c aa<|djs ho⟩
  exact Wk<|Wg<|R z (inc_ hkl (lt_ (repS.len O) O_) z z)<|Rm z<|Wl (λ_ q=>⟨(),(som<|ifF a2 hcm).symm,⟨q.k<|s9 z z z z z z z z z,s8⟩⟩)
 .rintro _ _ _ ⟨am,aW⟩;refine Wu ?_ am;refine Ws<|Rl z z z<|Wn<|Wq<|Wc z (λhc=>(a_h hc).elim) (λ_=>?_)
  exact We<|λ_ q=>⟨rfl,⟨q.k<|s2 z z,aW⟩⟩
 .rintro _ aX aY rfl ⟨_,sp⟩;have an:=elL hms;revert aX;refine Wo<|Wm z<|R z (bP (parts:=[(0,.tmp 47),(1,.const<|.int .i64 3)]) (cs:=[vI x3,vI 3]) c_T z z) ?_
  have ab:=mm1 (Blk.lt hB1) h1.s;refine E0 (fs0 (cur':=[vI x3,vI 3]) J_ z z ((((L.c G<|atp ab).e h2).c h3<|djs<|mm1 L.lt G.s).e sp) z z z z) ?_;rintro _ aZ ⟨b0,b1⟩;have ad:=b1.one;refine Wn ?_;obtain rfl:=som an;exact Wr<|k_ hr (x_ a_t J_ z b0 z) ⟨(cM (e_ (cM (e_ (cM (e_ (e_ (cr [g1] w0) h1:Cg [g1] w0 H) h6:Cg [g1] w0 wc) G (io sr):Cg [g1] w0 I) h2:Cg [g1] w0 wf) h3 (mor hd:∀k∈[I.z],k∈[g1]∨w0.z<=k):Cg [g1] w0 J) sp:Cg [g1] w0 aY) ad (mor h1.s:∀k∈[H.z],k∈[g1]∨w0.z<=k):Cg [g1] w0 aZ),z,a1,ii z,hh,(((hi.e h2).c h3<|djs<|mm1 (Blk.lt hB1) hd).e sp).c ad<|djs ab⟩
 rintro _ _ _ _ rfl ⟨rfl,ao⟩;have ap:=elR hms;obtain rfl:=som ap;exact ⟨ao,z⟩
theorem T_w1q (ih:g_e n):l_1 (h_t n<|a_N n):=by
 obtain ⟨af,_,_,_,_⟩:=ih
 constructor
 intro A0 A6 A2 A3 A1 A4 N0 C0 N6 C6 g1 N2 C2 N3 C3 N1 C1 N4 C4 B x1 x2 x3 res w0 hm hB1 V hBg a0 W Y aP aQ aR aS aT aU a9 a1;unfold h_t at hm
 refine goG func118 z z z λfn hr=>Ws<|E z (fb z) ?_
 rintro _ J ⟨rfl,hq⟩;have h5:=hq.below;have ht:Blk J w0.z (vR x2 A2 N2 C2 A3 N3 C3 A1 N1 C1 A4 N4 C4):=hq.blk;refine E z (fa b_L) ?_;rintro _ we ⟨rfl,hu⟩;have L:=hu.below;have hc:Blk we J.z [vI 0,vI 0]:=hu.blk;refine Wn<|Wm z<|Rm z ?_
 have hf:=(hB1.e h5).e L;have hg:=(h5.ag B).e L;have hh:=lt_ h5.s L.s;obtain ⟨O,ah,aa⟩:=bdS hm;refine E z (fc call115 z<|h_V (B:=w0.z) ah (b_g hh) (repS.mono (a0.g hg) V) (repS.mono (W.g hg) V) Y (hf.row 0 3 z) (Blk.lt hB1) a1<|ii z) ?_;rintro _ I ⟨G,rfl,hv,ai⟩;refine E z (fa b_L) ?_;rintro _ wi ⟨rfl,hw⟩;have h2:=hw.below;refine E0 (fs0 (cur':=[vI O.at_,vI O.code]) J_ z z (hw.blk:Blk wi I.z [vI 0,vI 0]) z z z z) ?_;rintro _ wa ⟨hj,aj⟩;have h3:=aj.one;refine Wn<|Wq<|Wb<|Wq ?_
 obtain ⟨ak,hur,hms⟩:=bdS aa;refine Wt (λa w=>∃(xk:Bool),xk=ak/\Sat 45 [(0,pt g1),(2,vI x3),(4,pt w0.z),(6,pt J.z),(7,pt I.z),(11,vB xk)] a/\Below wa.z wa w) ?_ ?_
 .refine Wg<|Rf z d_D z<|R z (l0 g_3 z<|hj.at z)<|R z (nq z z)<|Rm z ?_
  rcases bs (O.code != 0) with H | H
  .iterate 8 refine Nh z H ?_
   exact R z (pT z H z)<|Ra z<|Wl (λ_ q=>⟨true,som<|ifT hur H,q.k<|s6 z z z z z z,br wa⟩)
  refine Rh z H (mv z)<|Rh z H (Y_ z)<|Rh z H (fd e_4 z) ?_
  have hx:=lt_ hh G.s;refine Rh z H (l0 a_0 z<|(((hf.e G).e h2).c h3<|djs<|mm1 (Blk.lt hB1) hx).at z)<|Rh z H (mv z) ?_
  obtain ⟨al,am,ab⟩:=bdS<|ifF hur H;refine RXg z z H z (at_ (α:=UInt8) w_ z_5 z z z (W.g<|((hg.e G).e h2).c h3<|c_ (or0 (b_ lr) (o_<|zt' V hx):∀k∈[I.z],¬B k)) am) ?_;rintro _ ⟨_,_,_,rfl,an,ao,_⟩;obtain rfl:=u8 ao;exact Rh z H (l0 g_5 z<|an.at0 z)<|Rh z H (eql z z)<|R z (pF z H z)<|Ra z<|Wl (λ_ q=>⟨(byteI al)==(byteI (0:UInt8)),som ab,q.k<|s6 z z z z z z,br wa⟩)
 rintro ap wl ⟨xk,rfl,_,s4⟩;revert ap;refine Wo<|Wc z (λhcm=>?_) (λhcm=>?_)
 .refine Ws<|R z (lN (vs:=[vI O.at_,vI O.code]) a_t J_ z z fid<|(hj.e s4).row 0 2 z)<|E0 (fs0 (cur':=[vI O.at_,vI O.code]) J_ z z ((((hc.e G).e h2).c h3<|djs<|mm1 hc.lt G.s).e s4) z z z z) ?_
  rintro _ aq ⟨ar,au⟩;have hy:=au.one;refine Wn ?_;obtain rfl:=som<|ifT hms hcm;have hz:=lt_ hh G.s;exact Wr<|rtO<|k_ hr (x_ a_t J_ z ar z) ⟨(cM (e_ (cM (e_ (e_ (e_ (e_ (cr [g1] w0) h5:Cg [g1] w0 J) L:Cg [g1] w0 we) G:Cg [g1] w0 I) h2:Cg [g1] w0 wi) h3 (mor hz:∀k∈[I.z],k∈[g1]∨w0.z<=k):Cg [g1] w0 wa) s4:Cg [g1] w0 wl) hy (mor h5.s:∀k∈[J.z],k∈[g1]∨w0.z<=k):Cg [g1] w0 aq),z,hv,ai,Y,((((hf.e G).e h2).c h3<|djs<|mm1 (Blk.lt hB1) hz).e s4).c hy<|djs<|mm1 (Blk.lt hB1) h5.s⟩
 refine Wm z<|R z (Y_ z)<|Rf z e_4 z ?_
 have hd:=lt_ hh G.s;have hn:=(((hf.e G).e h2).c h3<|djs<|mm1 (Blk.lt hB1) hd).e s4;refine R z (l0 a_0 z<|hn.at z)<|Rm z ?_
 obtain ⟨_,av,a2⟩:=bdS<|ifF hms hcm;have a3:=(((hg.e G).e h2).c h3<|c_ (or0 (b_ lr) (o_<|zt' V hd):∀k∈[I.z],¬B k)).e s4;refine RX z (at_ (α:=UInt8) w_ z_5 z z z (W.g a3) av) ?_;rintro _ ⟨_,_,_,rfl,aw,ax,_⟩;obtain rfl:=u8 ax;refine R z (l0 g_5 z<|aw.at0 z)<|R z (a_b z z)<|Rw z<|Wc z (λhco=>?_) (λhco=>?_)
 .refine Wm z<|R z (bP (parts:=[(0,.tmp 35),(1,.const<|.int .i64 4)]) (cs:=[vI x3,vI 4]) c_T z z)<|E0 (fs0 (cur':=[vI x3,vI 4]) J_ z z ((((hc.e G).e h2).c h3<|djs<|mm1 hc.lt G.s).e s4) z z z z) ?_
  rintro _ ay ⟨az,aA⟩;have a4:=aA.one;refine Wn ?_;obtain rfl:=som<|ifT a2 hco;exact Wr<|rtO<|k_ hr (x_ a_t J_ z az z) ⟨(cM (e_ (cM (e_ (e_ (e_ (e_ (cr [g1] w0) h5:Cg [g1] w0 J) L:Cg [g1] w0 we) G:Cg [g1] w0 I) h2:Cg [g1] w0 wi) h3 (mor hd:∀k∈[I.z],k∈[g1]∨w0.z<=k):Cg [g1] w0 wa) s4:Cg [g1] w0 wl) a4 (mor h5.s:∀k∈[J.z],k∈[g1]∨w0.z<=k):Cg [g1] w0 ay),z,a1,ii z,Y,hn.c a4<|djs<|mm1 (Blk.lt hB1) h5.s⟩
 refine Wk<|Wq (Wd (X:=noX) 384 (pl_ 9 [7,8]) mo (by kernel_rfl) λaB sb _=>dM z z z<|dR z z (fd Q_ z)<|dR z z (l0 F_ z<|((((((ht.e L).e G).e h2).c h3<|djs<|mm1 ht.lt<|lt_ L.s G.s).e s4).e sb).at z) ?_)
 obtain ⟨_,aC,ad⟩:=bdS<|ifF a2 hco;have hp:=a3.e sb;refine dRX z z (at_ (α:=Int) G_ z_3 z z z (a9.g hp) aC) ?_;rintro _ ⟨_,_,_,rfl,aD,aE,_⟩;obtain ⟨rfl,aF⟩:=U_ aE;refine dR z z (l0 g_3 z<|aD.at0 z)<|dR z z (fd d_d z)<|dR z z (l0 g_3 z<|((hj.e s4).e sb).at z) ?_
 obtain ⟨a5,_,aG,ae⟩:=a_v ad;refine dE z z (fc call89 z<|af.run (B:=B) aG (hn.e sb) (zt' V<|lt_ (lt_ (lt_ (lt_ hd h2.s) h3.s) s4.s) sb.s) hBg (a0.g hp) (W.g hp) Y aF hv) (.inl z) ?_;rintro _ aH ⟨a6,rfl,aI,aJ,aK,aL⟩;have a7:=mm1 (Blk.lt hB1) h5.s;refine dE0 z (fs0 (cur':=[vI a5.at_,vI a5.code]) J_ z z ((((((hc.e G).e h2).c h3<|djs<|mm1 hc.lt G.s).e s4).e sb).c a6<|atp a7) z z z z) (.inl z) ?_;rintro _ aM ⟨aN,aO⟩;have a8:=aO.one;refine pD<|Wo ?_
 obtain rfl:=som ae;exact Wr<|k_ hr (x_ a_t J_ z aN z) ⟨(cM (cM (e_ (e_ (cM (e_ (e_ (e_ (e_ (cr [g1] w0) h5:Cg [g1] w0 J) L:Cg [g1] w0 we) G:Cg [g1] w0 I) h2:Cg [g1] w0 wi) h3 (mor hd:∀k∈[I.z],k∈[g1]∨w0.z<=k):Cg [g1] w0 wa) s4:Cg [g1] w0 wl) sb:Cg [g1] w0 aB) a6 (io sr):Cg [g1] w0 aH) a8 (mor h5.s:∀k∈[J.z],k∈[g1]∨w0.z<=k):Cg [g1] w0 aM),z,aI,aJ,aK,aL.c a8<|djs a7⟩
theorem T_w1r (ih:g_e n):l_2 (h_u n<|a_N n):=by
 obtain ⟨aw,_,_,_,_⟩:=ih
 constructor
 intro A0 A6 A2 A3 A1 A4 N0 C0 N6 C6 g1 N2 C2 N3 C3 N1 C1 N4 C4 B x1 x2 x3 res w0 hm hB1 L hBg V O am b2 b3 b4 b5 b6 b7 an ao;unfold h_u at hm
 refine goG func119 z z z λfn hr=>Ws<|E z (fb z) ?_
 rintro _ I ⟨rfl,a1⟩;have h4:=a1.below;refine E z (fa b_L) ?_;rintro _ wj ⟨rfl,a2⟩;have hd:=a2.below;have ha:Blk wj I.z [vI 0,vI 0]:=a2.blk;refine Wn<|Wm z<|Rf z Q_ z<|R z (l0 F_ z<|((a1.blk:Blk I w0.z (vR x2 A2 N2 C2 A3 N3 C3 A1 N1 C1 A4 N4 C4)).e hd).at z) ?_
 obtain ⟨_,ax,ap⟩:=bdS hm;have hk:=(h4.ag B).e hd;refine RX z (at_ (α:=Int) G_ z_3 z z z (an.g hk) ax) ?_;rintro _ ⟨_,_,_,rfl,ay,az,_⟩;obtain ⟨rfl,aA⟩:=U_ az;refine R z (l0 g_3 z<|ay.at0 z)<|Rm z ?_
 have hq:=lt_ h4.s hd.s;obtain ⟨rb,_,aB,W⟩:=a_v ap;refine E z (fc call89 z<|aw.run (B:=B) aB ((hB1.e h4).e hd) (zt' L hq) hBg (V.g hk) (O.g hk) am aA ao) ?_;rintro _ J ⟨s2,rfl,ht,aC,hl,a3⟩;refine E z (fa b_L) ?_;rintro _ wm ⟨rfl,a4⟩;have h5:=a4.below;have hu:Blk wm J.z [vI 0,vI 0]:=a4.blk;refine E0 (fs0 (cur':=[vI rb.at_,vI rb.code]) J_ z z hu z z z z) ?_;rintro _ wr ⟨hh,aD⟩;have h3:=aD.one;refine Wn<|Wq<|Ws<|Rf z d_D z<|R z (l0 g_3 z<|hh.at z)<|R z (nq z z)<|Wx z (λhcs=>?_) (λhcs=>?_)
 .refine Ws<|R z (lN (vs:=[vI rb.at_,vI rb.code]) a_t J_ z z fid<|hh.row 0 2 z) ?_
  have a5:=mm1 (Blk.lt hB1) h4.s;refine E0 (fs0 (cur':=[vI rb.at_,vI rb.code]) J_ z z (((ha.c s2<|atp a5).e h5).c h3<|djs<|mm1 ha.lt s2.s) z z z z) ?_;rintro _ aE ⟨aF,aG⟩;have a6:=aG.one;refine Wn ?_;obtain rfl:=som<|ifT W hcs;have a7:=lt_ hq s2.s;exact Wr<|k_ hr (x_ a_t J_ z aF z) ⟨(cM (cM (e_ (cM (e_ (e_ (cr [g1] w0) h4:Cg [g1] w0 I) hd:Cg [g1] w0 wj) s2 (io sr):Cg [g1] w0 J) h5:Cg [g1] w0 wm) h3 (mor a7:∀k∈[J.z],k∈[g1]∨w0.z<=k):Cg [g1] w0 wr) a6 (mor h4.s:∀k∈[I.z],k∈[g1]∨w0.z<=k):Cg [g1] w0 aE),z,ht,aC,hl,((a3.e h5).c h3<|djs<|mm1 (Blk.lt hB1) a7).c a6<|djs a5⟩
 refine Wk<|Wm z<|Rf z d_d z<|R z (l0 g_3 z<|hh.at z) ?_
 have hi:=lt_ hq s2.s;have hn:=(a3.e h5).c h3<|djs<|mm1 (Blk.lt hB1) hi
 have hv:=((hk.c s2<|c_<|b_ hBg).e h5).c h3<|c_ (or0 (b_ lr) (o_<|zt' L hi):∀k∈[J.z],¬B k)
 have ho:=lt_ (lt_ hi h5.s) h3.s;obtain ⟨re,aH,aq⟩:=bdS<|ifF W hcs;refine E z (fc call115 z<|h_V (B:=w0.z) aH (b_g ho) (repS.mono (V.g hv) L) (repS.mono (O.g hv) L) hl (hn.row 0 3 z) (Blk.lt hB1) ht<|ii z) ?_;rintro _ wf ⟨s1,rfl,aI,aJ⟩;refine E z (fa b_L) ?_;rintro _ ww ⟨rfl,a8⟩;have h6:=a8.below;refine E0 (fs0 (cur':=[vI re.at_,vI re.code]) J_ z z (a8.blk:Blk ww wf.z [vI 0,vI 0]) z z z z) ?_;rintro _ wp ⟨a9,aK⟩;have H:=aK.one;refine Wn<|Wq<|Wq ?_
 obtain ⟨aL,Y,a0⟩:=bdS aq;refine Wt (λa w=>∃(xx:Bool),xx=aL/\Sat 52 [(6,pt I.z),(7,pt J.z),(8,pt wf.z),(47,vB xx)] a/\Below wp.z wp w) ?_ ?_
 .refine Wd (X:=noX) 0 (pl_ 24 [21]) mo (by kernel_rfl) λb8 sg _=>dR z z (fd d_D z)<|dR z z (l0 g_3 z<|(a9.e sg).at z)<|dR z z (eql z z)<|dM z z z ?_
  rcases bs (re.code==0) with G | G
  .refine dRg z z z G z (mv z)<|dRg z z z G z (Y_ z)<|dRg z z z G z (fd e_4 z) ?_
   have hy:=lt_ ho s1.s;have aa:=(((hn.e s1).e h6).c H<|djs<|mm1 (Blk.lt hB1) hy).e sg;refine dRg z z z G z (l0 a_0 z<|aa.at z)<|dRg z z z G z (fd d_d z) ?_
   have ab:=(((hh.e s1).e h6).c H<|djs<|mm1 hu.lt<|lt_ h3.s s1.s).e sg;refine dRg z z z G z (l0 g_3 z<|ab.at z) ?_;obtain ⟨aM,aN,ar⟩:=bdS<|ifT Y G;have ad:=O.g<|(((hv.e s1).e h6).c H<|c_ (or0 (b_ lr) (o_<|zt' L hy):∀k∈[wf.z],¬B k)).e sg
   refine b_w z z z G z (at_ (α:=UInt8) w_ z_5 z z z ad aN) ?_;rintro _ ⟨_,_,_,rfl,aO,aP,_⟩;obtain rfl:=u8 aP;refine dRg z z z G z (l0 g_5 z<|aO.at0 z)<|dRg z z z G z (c_8 d_5 d_3 z)<|dRg z z z G z (mv z)<|dRg z z z G z (Y_ z)<|dRg z z z G z (fd e_4 z)<|dRg z z z G z (l0 a_0 z<|aa.at z)<|dRg z z z G z (mv z)<|dRg z z z G z (fd d_d z)<|dRg z z z G z (l0 g_3 z<|ab.at z) ?_
   obtain ⟨_,aQ,au⟩:=bdS ar;refine b_w z z z G z (rX w_ z_5 z z ad z z aQ) ?_;rintro _ ⟨_,_,_,rfl,aR⟩;obtain ⟨aS,aT,av⟩:=bdS au;refine dEg z z z G z (fc call130 z<|W_w1h aT (zt' L<|lt_ (lt_ (lt_ hy h6.s) H.s) sg.s) aR) (.inr λ_ _ h=>y_<|h.1) ?_;rintro _ _ ⟨aU,rfl,_⟩;exact dRg z z z G z (nq z z)<|dR z z (pT z G z)<|pD (λ_ q=>⟨(byteI aM) != aS,som av,q.k<|s4 z z z z,bup sg aU⟩)
  iterate 17 refine dRn z z z G z ?_
  exact dEn z z z G z<|dRn z z z G z<|dR z z (pF z G z)<|pD (λ_ q=>⟨false,som<|ifF Y G,q.k<|s4 z z z z,sg⟩)
 rintro aV ae ⟨xx,rfl,_,sc⟩;revert aV;refine Wo<|Wc z (λhcz=>?_) (λhcz=>?_)
 .refine Ws<|Rf z d_d z<|R z (l0 g_3 z<|((((hh.e s1).e h6).c H<|djs<|mm1 hu.lt<|lt_ h3.s s1.s).e sc).at z)<|R z (bP (parts:=[(0,.tmp 49),(1,.const<|.int .i64 5)]) (cs:=[vI rb.at_,vI 5]) c_T z z) ?_
  have af:=mm1 (Blk.lt hB1) h4.s;refine E0 (fs0 (cur':=[vI rb.at_,vI 5]) J_ z z (((((((ha.c s2<|atp af).e h5).c h3<|djs<|mm1 ha.lt s2.s).e s1).e h6).c H<|djs<|mm1 ha.lt<|lt_ (lt_ (lt_ s2.s h5.s) h3.s) s1.s).e sc) z z z z) ?_;rintro _ aW ⟨aX,aY⟩;have ah:=aY.one;refine Wn ?_;obtain rfl:=som<|ifT a0 hcz;have ai:=lt_ ho s1.s;exact Wr<|k_ hr (x_ a_t J_ z aX z) ⟨(cM (e_ (cM (e_ (e_ (cM (e_ (cM (e_ (e_ (cr [g1] w0) h4:Cg [g1] w0 I) hd:Cg [g1] w0 wj) s2 (io sr):Cg [g1] w0 J) h5:Cg [g1] w0 wm) h3 (mor hi:∀k∈[J.z],k∈[g1]∨w0.z<=k):Cg [g1] w0 wr) s1:Cg [g1] w0 wf) h6:Cg [g1] w0 ww) H (mor ai:∀k∈[wf.z],k∈[g1]∨w0.z<=k):Cg [g1] w0 wp) sc:Cg [g1] w0 ae) ah (mor h4.s:∀k∈[I.z],k∈[g1]∨w0.z<=k):Cg [g1] w0 aW),z,ht,ii z,hl,((((hn.e s1).e h6).c H<|djs<|mm1 (Blk.lt hB1) ai).e sc).c ah<|djs af⟩
 refine Wk<|Ws<|R z (lN (vs:=[vI re.at_,vI re.code]) a_t J_ z z fid<|(a9.e sc).row 0 2 z) ?_
 have aj:=mm1 (Blk.lt hB1) h4.s;refine E0 (fs0 (cur':=[vI re.at_,vI re.code]) J_ z z (((((((ha.c s2<|atp aj).e h5).c h3<|djs<|mm1 ha.lt s2.s).e s1).e h6).c H<|djs<|mm1 ha.lt<|lt_ (lt_ (lt_ s2.s h5.s) h3.s) s1.s).e sc) z z z z) ?_;rintro _ aZ ⟨b0,b1⟩;have ak:=b1.one;refine Wn ?_;obtain rfl:=som<|ifF a0 hcz;have al:=lt_ ho s1.s;exact Wr<|k_ hr (x_ a_t J_ z b0 z) ⟨(cM (e_ (cM (e_ (e_ (cM (e_ (cM (e_ (e_ (cr [g1] w0) h4:Cg [g1] w0 I) hd:Cg [g1] w0 wj) s2 (io sr):Cg [g1] w0 J) h5:Cg [g1] w0 wm) h3 (mor hi:∀k∈[J.z],k∈[g1]∨w0.z<=k):Cg [g1] w0 wr) s1:Cg [g1] w0 wf) h6:Cg [g1] w0 ww) H (mor al:∀k∈[wf.z],k∈[g1]∨w0.z<=k):Cg [g1] w0 wp) sc:Cg [g1] w0 ae) ak (mor h4.s:∀k∈[I.z],k∈[g1]∨w0.z<=k):Cg [g1] w0 aZ),z,aI,aJ,hl,((((hn.e s1).e h6).c H<|djs<|mm1 (Blk.lt hB1) al).e sc).c ak<|djs aj⟩
theorem d_F:∀n,g_e n
  | 0=>⟨⟨λhm=>by intros;exact nomatch (show none=some _ from hm)⟩,⟨λhm=>by intros;exact nomatch (show none=some _ from hm)⟩,⟨λhm=>by intros;exact nomatch (show none=some _ from hm)⟩,⟨λhm=>by intros;exact nomatch (show none=some _ from hm)⟩,⟨λhm=>by intros;exact nomatch (show none=some _ from hm)⟩⟩
  | n+1=>⟨T_w04<|d_F n,T_w1o<|d_F n,T_w1p<|d_F n,T_w1q<|d_F n,T_w1r<|d_F n⟩
theorem W_w04:k_Y (a_N n).impl_checker_value:=(d_F n).1
theorem W_w1o:k_Z (a_N n).impl_checker_array:=(d_F n).2.1
theorem W_w1p:l_0 (a_N n).impl_checker_choice:=(d_F n).2.2.1
theorem W_w1q:l_1 (a_N n).impl_checker_option:=(d_F n).2.2.2.1
theorem W_w1r:l_2 (a_N n).impl_checker_checked:=(d_F n).2.2.2.2
def Q28 (w0:World)(B:Zone)(r:Int×Int)(v:Value)(w':World):Prop:=Bw w0 w'/\un2 (λG H=>v = .tuple #[vI G,vI H]/\inI G/\inI H) r
theorem W_w2k {x1:g_}{x2:Int}{x3:Bt}{x4:Int}{res:Int×Int}(hm:h_v n x1 x2 x3 x4=some res)(J:B<=w0.z)(Y:repS w0 B (sl A0 N0 C0) x1.rules)(a0:inI x2)(a1:repS w0 B (sl A7 N7 C7) x3)(a2:inI x4):r_ prog 69 [(.agg #[sl A0 N0 C0]),vI x2,sl A7 N7 C7,vI x4] w0 (Q28 w0 B res):=by
 unfold h_v at hm
 refine goG func69 z z z λfn hr=>Ws<|E z (fb z) ?_
 rintro _ O ⟨rfl,hb⟩;have h3:=hb.below;have hc:Blk O w0.z [sl A0 N0 C0]:=hb.blk;refine Ra z<|Rw z<|Wq<|Wq ?_
 obtain ⟨ur,hus,hmd⟩:=bdS hm;refine Wt (λa w=>∃(V:Bool),V=ur/\Sat 43 [(1,vI x2),(2,sl A7 N7 C7),(3,vI x4),(4,pt w0.z),(30,vB V)] a/\Below O.z O w) ?_ ?_
 .refine Wg<|R z (lN (vs:=[sl A0 N0 C0]) B_ z_ z z fid<|hc.row 0 1 z)<|Rm z ?_
  obtain ⟨rt,eu,hme⟩:=bdS hus;refine E z (fc call86 z<|k_P eu (zt' J h3.s) (Y.e h3) a0) ?_;rintro _ _ ⟨s4,rfl⟩;refine R z (not_ z)<|Rm z ?_
  rcases bs (!rt) with H | H
  .exact Nh z H<|Nh z H<|R z (pT z H z)<|Rm z<|Nh z z<|Nh z z<|Nh z z<|Nh z z<|R z (pT z z z)<|Rm z<|Nh z z<|Nh z z<|Nh z z<|R z (pT z z z)<|Wl (λ_ q=>⟨true,som<|ifT hme H,q.k<|s5 z z z z z,s4⟩)
  have hmf:=ifF hme H;refine Rh z H (mv z)<|Rh z H (lss z z)<|R z (pF z H z)<|Rm z ?_
  rcases bs (decide<|x4<0) with G | G
  .iterate 4 refine Nh z G ?_
   exact R z (pT z G z)<|Rm z<|Nh z z<|Nh z z<|Nh z z<|R z (pT z z z)<|Wl (λ_ q=>⟨true,som<|ifT hmf G,q.k<|s5 z z z z z,s4⟩)
  have hmg:=ifF hmf G;refine Rh z G (mv z)<|Rh z G (mv z) ?_
  have hh:=a1.g<|(h3.ag B).e s4
  refine Rh z G (lnR w_ z hh)<|Rh z G (a_b z z)<|R z (pF z G z)<|Rm z ?_
  rcases bs (decide<|(x3.length:Int)<x4) with I | I
  .iterate 3 refine Nh z I ?_
   exact R z (pT z I z)<|Wl (λ_ q=>⟨true,som<|ifT hmg I,q.k<|s5 z z z z z,s4⟩)
  exact Rh z I (mv z)<|Rh z I (lnR w_ z hh)<|Rh z I (a_b z z)<|R z (pF z I z)<|Wl (λ_ q=>⟨decide<|400<(x3.length:Int),som<|ifF hmg I,q.k<|s5 z z z z z,s4⟩)
 rintro av wi ⟨V,rfl,_,s6⟩;revert av;refine Wo<|Wc z (λL=>?_) (λL=>?_)
 .refine Ws<|Ra z<|Rw z ?_
  obtain rfl:=som<|ifT hmd L;exact Wr<|a_i hr z z ⟨bup h3 s6,z,ii z,ii z⟩
 refine Wk<|Ws<|R z (lN (vs:=[sl A0 N0 C0]) B_ z_ z z fid<|(hc.e s6).row 0 1 z)<|Rm z<|R z (bP (parts:=[(0,.tmp 31),(1,.tmp 32)]) (cs:=[sl A0 N0 C0,sl A7 N7 C7,vI 0]) r_g z z)<|E z (fb z) ?_
 rintro _ ww ⟨rfl,hj⟩;have W:=hj.below;refine Rw z<|Wm z<|RM z z ?_
 have hk:=((h3.ag B).e s6).e W;have ha:=lt_ h3.s s6.s;have hl:=lt_ ha W.s;obtain ⟨rm,_,ez,a3⟩:=a_v<|ifF hmd L;refine E z (fc call89 z<|W_w04.run (B:=B) ez (hj.blk:Blk ww wi.z [sl A0 N0 C0,sl A7 N7 C7,vI 0]) (zt' J hl) (atp (or0 (b_ lr) (o_<|zt' J ha):∀k∈[wi.z],¬B k)) (Y.g hk) (a1.g hk) (ii z) a0 a2) ?_;rintro _ a4 ⟨sn,rfl,a5,a6,_,_⟩;refine E z (fa b_L) ?_;rintro _ a7 ⟨rfl,ho⟩;refine E0 (fs0 (cur':=[vI rm.at_,vI rm.code]) J_ z z (ho.blk:Blk a7 a4.z [vI 0,vI 0]) z z z z) ?_;rintro _ _ ⟨a8,a9⟩;refine Wn<|Wq (Wd (X:=noX) 0 (pl_ 6 []) mo (by kernel_rfl) λaa sp _=>dR z z (fd d_d z) ?_)
 have hq:=a8.e sp;refine dR z z (l0 g_3 z<|hq.at z)<|dR z z (fd d_D z)<|dR z z (l0 g_3 z<|hq.at z)<|dQ z z z<|dQ z z z<|pD<|Wo ?_
 obtain rfl:=som a3;exact Wr<|a_i hr z z ⟨bup (bM (bup (bM (bup (bup h3 s6) W) sn<|m1 ha) ho.below) a9.one<|m1<|lt_ hl sn.s) sp,z,a5,a6⟩
theorem W_w2l {x1:Int}{res:Str}(hm:j_d x1=some res)(H:B<=w0.z)(hG:Gl w0 B)(G:inI x1):r_ prog 90 [vI x1] w0 (Q4 w0 B res):=by
 unfold j_d at hm
 refine goG func90 z z z λfn hr=>Ws<|Rw z<|Wm z ?_
 obtain ⟨_,J,I⟩:=bdS hm;refine E z (fc call120 z<|q_Q (B:=B) J H hG G) ?_;rintro _ _ ⟨s2,rfl,h3⟩;refine Rw z ?_
 obtain rfl:=som I;exact Wr<|k_ hr z ⟨s2,z,h3⟩
theorem W_w2m {x1:g_}{x2:Int}{x3:Int}{res:Str}(hm:f_b n x1 x2 x3=some res)(J:B<=w0.z)(hG:Gl w0 B)(W:repS w0 B (sl A0 N0 C0) x1.rules)(ae:inI x2)(af:inI x3):r_ prog 70 [(.agg #[sl A0 N0 C0]),vI x2,vI x3] w0 (Q4 w0 B res):=by
 unfold f_b at hm
 refine goG func70 z z z λfn hr=>Ws<|E z (fb z) ?_
 rintro _ wb ⟨rfl,hn⟩;have G:=hn.below;have ho:Blk wb w0.z [sl A0 N0 C0]:=hn.blk;refine Rw z<|Wq<|Wq ?_
 obtain ⟨ak,ah,hmp⟩:=bdS hm;refine Wt (λa w=>∃(xc:Bool),xc=ak/\Sat 58 [(1,vI x2),(2,vI x3),(3,pt w0.z),(15,vB xc)] a/\Below wb.z wb w) ?_ ?_
 .refine Wg<|R z (lN (vs:=[sl A0 N0 C0]) B_ z_ z z fid<|ho.row 0 1 z)<|Rm z ?_
  obtain ⟨al,am,hmq⟩:=bdS ah;refine E z (fc call86 z<|k_P am (zt' J G.s) (W.e G) ae) ?_;rintro _ _ ⟨sr,rfl⟩;refine R z (not_ z)<|Rm z ?_
  rcases bs (!al) with I | I
  .exact Nh z I<|Nh z I<|R z (pT z I z)<|Wl (λ_ q=>⟨true,som<|ifT hmq I,q.k<|s4 z z z z,sr⟩)
  exact Rh z I (mv z)<|Rh z I (lss z z)<|R z (pF z I z)<|Wl (λ_ q=>⟨decide<|x3<0,som<|ifF hmq I,q.k<|s4 z z z z,sr⟩)
 rintro an L ⟨xc,rfl,_,s1⟩;revert an;refine Wo<|Wc z (λhcd=>?_) (λhcd=>?_)
 .refine Ws<|Rw z ?_
  obtain rfl:=som<|ifT hmp hcd;exact Wr<|k_ hr z ⟨bup G s1,z,lb z⟩
 refine Wk<|Ws<|Rf z R_ z<|R z (l0 S_ z<|(ho.e s1).at z)<|Rm z ?_
 obtain ⟨V,ao,hms⟩:=bdS<|ifF hmp hcd;refine RX z (at_ (α:=d_) K_ p_ z z z (W.g<|(G.ag B).e s1) ao) ?_;rintro _ ⟨_,_,_,rfl,ap,aq,_⟩;obtain ⟨au,nt,cv,aw,nx,cy,az,a5,a6,a7,a8,a9,rfl,_,_,_,_,aa,_,_⟩:=a_H aq;refine R z (lN (vs:=vR V au nt cv aw nx cy az a5 a6 a7 a8 a9) M_ p_ z z fid ap)<|E z (fa b_M) ?_
 rintro _ ar ⟨rfl,ab⟩;have h2:=ab.below;refine E0 (fs0 (cur':=vR V au nt cv aw nx cy az a5 a6 a7 a8 a9) p_ z z (ab.blk:Blk ar L.z [(Str.v (⟨[]⟩:Str)),vI 0,vI 0,vB false,sN,sN,sN,sN]) z z z z) ?_;rintro _ wa ⟨O,av⟩;have h3:=av.one;refine Wn<|Wq<|Wb<|Ws<|Rf z a_G z<|R z (l0 g_3 z<|O.at z)<|Rq z z z<|Rw z<|Wc z (λhce=>?_) (λhce=>?_)
 .refine Wm z ?_
  have hf:=lt_ G.s s1.s;obtain ⟨_,ax,ai⟩:=bdS<|ifT hms hce;refine E z (fc call90 z<|W_w2l ax (zt' J<|lt_ (lt_ hf h2.s) h3.s) ((((hG.e G).e s1).e h2).c h3<|c_ (or0 (b_ lr) (o_<|zt' J hf):∀k∈[L.z],¬B k)) af) ?_;rintro _ _ ⟨ay,rfl,aA⟩;refine Rw z ?_
  obtain rfl:=som ai;exact Wr<|rtO<|k_ hr z ⟨bup (bM (bup (bup G s1) h2) h3<|m1 hf) ay,z,aA⟩
 refine Wq ?_;obtain ⟨aB,Y,a0⟩:=bdS<|ifF hms hce;refine Wt (λa w=>∃(xg:Bool),xg=aB/\Sat 58 [(2,vI x3),(7,pt L.z),(27,vB xg)] a/\Below wa.z wa w) ?_ ?_
 .refine Wg<|Rf z a_G z<|R z (l0 g_3 z<|O.at z)<|Rq z z z<|Rm z ?_
  rcases bs (V.kind==6) with H | H
  .refine Rh z H (mv z)<|Rh z H (fd b_K z)<|Rh z H (l0 a_R z<|O.at z) ?_
   exact Rh z H (lnR N_ z<|aa.g<|(h2.ag B).c h3<|c_ (or0 (b_ lr) (o_<|zt' J<|lt_ G.s s1.s):∀k∈[L.z],¬B k))<|Rh z H (lss z z)<|R z (pT z H z)<|Ra z<|Wl (λ_ q=>⟨decide<|x3<(V.names.length:Int),som<|ifT Y H,q.k<|s3 z z z,br wa⟩)
  iterate 5 refine Nh z H ?_
  exact R z (pF z H z)<|Ra z<|Wl (λ_ q=>⟨false,som<|ifF Y H,q.k<|s3 z z z,br wa⟩)
 rintro aC _ ⟨xg,rfl,_,s6⟩;revert aC;refine Wo<|Wc z (λhch=>?_) (λhch=>?_)
 .refine Ws<|Rf z b_K z<|R z (l0 a_R z<|(O.e s6).at z)<|Rm z ?_
  obtain ⟨_,aD,aj⟩:=bdS<|ifT a0 hch;have ad:=lt_ G.s s1.s;refine RX z (at_ (α:=Str) N_ z_9 z z z (aa.g<|((h2.ag B).c h3<|c_ (or0 (b_ lr) (o_<|zt' J ad):∀k∈[L.z],¬B k)).e s6) aD) ?_;rintro _ ⟨_,_,_,rfl,aE,aF,_⟩;obtain ⟨rfl,aG⟩:=a_z aF;refine R z (l0 g_9 z<|aE.at0 z)<|Rw z ?_
  obtain rfl:=som aj;exact Wr<|rtO<|k_ hr z ⟨bup (bM (bup (bup G s1) h2) h3<|m1 ad) s6,z,aG⟩
 have a1:=ifF a0 hch;refine Wm z<|R z (a_b z z)<|Rw z<|Wc z (λhci=>?_) (λhci=>?_)
 .refine Ws<|Rw z ?_
  obtain rfl:=som<|ifT a1 hci;exact Wr<|rtO<|k_ hr z ⟨bup (bM (bup (bup G s1) h2) h3<|m1<|lt_ G.s s1.s) s6,z,lb z⟩
 have a2:=ifF a1 hci;refine Ws<|Rf z a_G z ?_
 have hj:=O.e s6;refine R z (l0 g_3 z<|hj.at z)<|Rq z z z<|Rw z<|Wc z (λhck=>?_) (λhck=>?_)
 .refine Ws<|Rw z ?_
  obtain rfl:=som<|ifT a2 hck;exact Wr<|rtO<|k_ hr z ⟨bup (bM (bup (bup G s1) h2) h3<|m1<|lt_ G.s s1.s) s6,z,lb z⟩
 have a3:=ifF a2 hck;refine Ws<|Rf z a_G z<|R z (l0 g_3 z<|hj.at z)<|Rq z z z<|Rw z<|Wc z (λhcl=>?_) (λhcl=>?_)
 .refine Ws<|Rw z ?_
  obtain rfl:=som<|ifT a3 hcl;exact Wr<|rtO<|k_ hr z ⟨bup (bM (bup (bup G s1) h2) h3<|m1<|lt_ G.s s1.s) s6,z,lb z⟩
 have a4:=ifF a3 hcl;refine Ws<|Rf z a_G z<|R z (l0 g_3 z<|hj.at z)<|Rq z z z<|Rw z<|Wc z (λhcm=>?_) (λhcm=>?_)
 .refine Ws<|Rw z ?_
  obtain rfl:=som<|ifT a4 hcm;exact Wr<|rtO<|k_ hr z ⟨bup (bM (bup (bup G s1) h2) h3<|m1<|lt_ G.s s1.s) s6,z,lb z⟩
 refine Wk<|Ws<|Rw z ?_
 obtain rfl:=som<|ifF a4 hcm;exact Wr<|k_ hr z ⟨bup (bM (bup (bup G s1) h2) h3<|m1<|lt_ G.s s1.s) s6,z,lb z⟩
theorem W_w2n {x1:g_}{x2:Int}{x3:Val}{J O:Nat}{x4:Int}{res:Int}(hm:f_c x1 x2 x3 x4=some res)(aY:B<=w0.z)(W:repS w0 B (sl A0 N0 C0) x1.rules)(aS:inI x2)(aT:inI x3.number)(aU:repS w0 B (sl AC NC CC) x3.bytes)(aV:repS w0 B (sl AD ND CD) x3.items)(aj:X_ w0 J O [vI x3.number,sl AC NC CC,sl AD ND CD])(aW:B J)(aX:inI x4):r_ prog 71 [(.agg #[sl A0 N0 C0]),vI x2,.pointer<|some ⟨J,O,none⟩,vI x4] w0 (Q9 w0 B res):=by
 unfold f_c at hm
 refine goG func71 z z z λfn hr=>Ws<|E z (fb z) ?_
 rintro _ G ⟨rfl,hj⟩;have H:=hj.below;refine Rw z<|Ws<|Rf z R_ z<|R z (l0 S_ z<|(hj.blk:Blk G w0.z [sl A0 N0 C0]).at z)<|Rm z ?_
 obtain ⟨V,ew,hmk⟩:=bdS hm;refine RX z (at_ (α:=d_) K_ p_ z z z (W.e H) ew) ?_;rintro _ ⟨bl,om,_,rfl,h2,hx,_⟩;obtain ⟨_,_,_,_,_,_,ay,nz,ak,_,_,_,rfl,_,_,_,_,_,h5,h4⟩:=a_H hx;refine Rw z<|Wq<|Wm z<|R z (Y_ z)<|Rf z a_G z<|R z (l0 g_3 z<|h2.at (j:=1) z)<|Wn<|Wb<|Ws<|Rq z z z<|Rw z<|Wc z (λL=>?_) (λL=>?_)
 .refine Wm z<|R z (Y_ z)<|Rf z Q_ z<|R z (l0 F_ z<|h2.at (j:=7) z) ?_
  obtain ⟨_,al,Y⟩:=bdS<|ifT hmk L;refine RX z (at_ (α:=Int) G_ z_3 z z z h4 al) ?_;rintro _ ⟨_,_,_,rfl,am,an,_⟩;obtain ⟨rfl,ao⟩:=U_ an;refine R z (l0 g_3 z<|am.at0 z)<|Rw z ?_
  obtain rfl:=som Y;exact Wr<|rtO<|k_ hr z ⟨H,z,ao⟩
 refine Ws<|Rq z z z<|Rw z ?_
 obtain ⟨ap,hun,I⟩:=bdS<|ifF hmk L;refine Wt (λa w=>Sum.inl ()=ap/\Sat 80 [] a/\Below G.z G w) ?_ ?_
 .refine Wc z (λhca=>?_)<|λhca=>?_
  .have hmo:=ifT hun hca;refine Wm z<|Rm z<|R z (Y_ z)<|Rf z Q_ z<|R z (l0 F_ z<|h2.at (j:=7) z)<|R z (lnR G_ z h4)<|Rl z z z<|Wx z (λhcb=>?_) (λhcb=>?_)
   .refine Wm z<|R z (Y_ z)<|Rf z Q_ z<|R z (l0 F_ z<|h2.at (j:=7) z)<|Rm z ?_
    obtain ⟨_,aq,a0⟩:=bdS<|ifT hmo hcb;refine RX z (at_ (α:=Int) G_ z_3 z z z h4 aq) ?_;rintro _ ⟨_,_,_,rfl,ar,au,_⟩;obtain ⟨rfl,av⟩:=U_ au;refine R z (l0 g_3 z<|ar.at0 z)<|Rw z ?_
    obtain rfl:=som a0;have a1:=elR I;obtain rfl:=som a1;exact Wr<|rtO<|k_ hr z ⟨H,z,av⟩
   exact Z_<|λ_ q=>⟨som<|ifF hmo hcb,q.k sn,br G⟩
  refine Ws<|Rq z z z<|Rw z ?_
  obtain ⟨aw,hup,hmc⟩:=bdS<|ifF hun hca;refine Wt (λa w=>Sum.inl ()=aw/\Sat 80 [] a/\Below G.z G w) ?_ ?_
  .refine Wc z (λhcd=>?_)<|λhcd=>?_
   .refine Wm z<|R z (Y_ z)<|Rf z b_3 z<|R z (l0 F_ z<|h2.at (j:=6) z)<|R z (lnR G_ z h5)<|Rm z<|Wn ?_
    obtain ⟨_,a2,hmq⟩:=bdS<|ifT hup hcd;refine Wf (σ:=Unit) (ρ:=Int) (λ(kr:Nat)(_:Unit) a w=>Sat 80 [(2,.pointer<|some ⟨J,O,none⟩),(9,.pointer<|some ⟨bl,om,none⟩),(49,sl ay nz ak),(50,vI (V.tags.length:Int)),(51,vI ((kr:Nat):Int))] a/\Below G.z G w) (λ(_:Unit) a w=>Sat 80 [] a/\Below G.z G w) (rQ prog fn<|Q9 w0 B) a2 ?_ ?_ ?_ ?_ ?_
    .exact λ_ q=>⟨q.k<|s5 z z z z z,br G⟩
    .rintro kr _ _ _ _ hke ⟨a3,s3⟩ a4;refine Wu ?_ a3;refine Ws<|Rl z z z<|Wn<|Wq<|Wc z (λ_=>?_) (λhc=>(a_g hke hc).elim)
     refine Wk<|Wq<|Wb<|Wm z ?_
     obtain ⟨_,ax,hms⟩:=bdS a4;refine RX z (at_ (α:=Int) G_ z_3 z z z (h5.e s3) ax) ?_;rintro _ ⟨_,_,_,rfl,az,aA,_⟩;obtain ⟨rfl,_⟩:=U_ aA;refine R z (l0 g_3 z<|az.at0 z)<|Ra z<|Rw z<|Wm z<|Rm z<|R z (Y_ z)<|Rf z d_E z<|R z (l0 g_3 z<|((aj.e H).e s3).at (j:=0) z)<|Rq z z z<|Wx z (λhcf=>?_) (λhcf=>?_)
     .refine Wm z<|R z (Y_ z)<|Rf z Q_ z<|R z (l0 F_ z<|(h2.e s3).at (j:=7) z)<|Rm z<|R z (inc_ hke (lt_ (repS.len h5) O_) z z) ?_
      obtain ⟨_,aB,a5⟩:=bdS<|ifT hms hcf;refine RX z (at_ (α:=Int) G_ z_3 z z z (h4.e s3) aB) ?_;rintro _ ⟨_,_,_,rfl,aC,aD,_⟩;obtain ⟨rfl,aE⟩:=U_ aD;exact R z (l0 g_3 z<|aC.at0 z)<|Rw z<|Wr<|rtO<|qL (som a5).symm<|k_ hr z ⟨bup H s3,z,aE⟩
     exact Wk<|Wg<|R z (inc_ hke (lt_ (repS.len h5) O_) z z)<|Rm z<|Wl (λ_ q=>⟨(),(som<|ifF hms hcf).symm,⟨q.k<|s5 z z z z z,s3⟩⟩)
    .rintro _ _ _ ⟨a6,aF⟩;refine Wu ?_ a6;refine Ws<|Rl z z z<|Wn<|Wq<|Wc z (λhc=>(a_h hc).elim) (λ_=>?_)
     exact We<|λ_ q=>⟨rfl,⟨q.k sn,aF⟩⟩
    .rintro _ aG _ rfl ⟨_,aH⟩;have a7:=elL hmq;revert aG;exact λ_ q=>⟨som a7,q.k sn,aH⟩
    rintro _ _ _ _ rfl ⟨rfl,a8⟩;have a9:=elR hmq;obtain rfl:=som a9;have aa:=elR hmc;obtain rfl:=som aa;have ab:=elR I;obtain rfl:=som ab;exact ⟨a8,z⟩
   refine Wq<|Ws<|Rq z z z<|Rw z ?_
   obtain ⟨aI,hut,hmu⟩:=bdS<|ifF hup hcd;refine Wt (λa w=>∃(xg:Bool),xg=aI/\Sat 80 [(9,.pointer<|some ⟨bl,om,none⟩),(71,vB xg)] a/\Below G.z G w) ?_ ?_
   .refine Wc z (λhch=>?_)<|λhch=>?_
    .exact Z_<|λ_ q=>⟨V.kind==8,som<|ifT hut hch,q.k<|s2 z z,br G⟩
    exact Wg<|Rq z z z<|Ra z<|Wl (λ_ q=>⟨V.kind==9,som<|ifF hut hch,q.k<|s2 z z,br G⟩)
   rintro aJ _ ⟨xg,rfl,_,s7⟩;revert aJ;refine Wo<|Wc z (λhci=>?_) (λhci=>?_)
   .refine Wm z<|R z (Y_ z)<|Rf z Q_ z<|R z (l0 F_ z<|(h2.e s7).at (j:=7) z) ?_
    obtain ⟨_,aK,ad⟩:=bdS<|ifT hmu hci;refine RX z (at_ (α:=Int) G_ z_3 z z z (h4.e s7) aK) ?_;rintro _ ⟨_,_,_,rfl,aL,aM,_⟩;obtain ⟨rfl,aN⟩:=U_ aM;refine R z (l0 g_3 z<|aL.at0 z)<|Rw z ?_
    obtain rfl:=som ad;have ae:=elR hmc;obtain rfl:=som ae;have af:=elR I;obtain rfl:=som af;exact Wr<|rtO<|k_ hr z ⟨bup H s7,z,aN⟩
   exact Z_<|λ_ q=>⟨som<|ifF hmu hci,q.k sn,s7⟩
  rintro aO _ ⟨rfl,_,aP⟩;have ah:=elL hmc;revert aO;exact λ_ q=>⟨som ah,q.k sn,aP⟩
 rintro aQ _ ⟨rfl,_,aR⟩;have ai:=elL I;revert aQ;refine Wo<|Ws<|Rw z ?_
 obtain rfl:=som ai;exact Wr<|k_ hr z ⟨bup H aR,z,ii z⟩
def Q29 (w0:World)(g1:Nat)(B:Zone)(A0:Option Addr)(N0 C0:Nat)(A6:Option Addr)(N6 C6:Nat)(AG:Option Addr)(NG CG:Nat)(S1_2:List Nat)(x1:d_i)(r:Int×(List s_))(v:Value)(w':World):Prop:=Chg (· ∈ ([g1]++S1_2)) w0 w'/\un2 (λG L=>∃H I J S1,(vI G)=v/\inI G/\a_ w' S1 (sl H I J) L/\S1.Nodup/\(∀k∈S1,k∈S1_2∨w0.z<=k)/\Blk w' g1 [sl A0 N0 C0,sl A6 N6 C6,sl H I J]) r
structure l_3 (f:d_i->Str->Int->Val->Int->Option (Int×(List s_))):Prop where
  run:∀{A0 A6 AG AI AJ:Option Addr}{N0 C0 N6 C6 NG CG g1 NI CI NJ CJ b4 o4:Nat}{S1_2:List Nat}{B:Zone}{x1:d_i}{x2:Str}{x3:Int}{x4:Val}{x5:Int}{res:Int×(List s_)}{w0:World}(hm:f x1 x2 x3 x4 x5=some res)(hB1:Blk w0 g1 [sl A0 N0 C0,sl A6 N6 C6,sl AG NG CG])(hBw:B<=w0.z)(hBg:¬B g1)(hG:Gl w0 B)(p1_0:repS w0 B (sl A0 N0 C0) x1.d.rules)(p1_1:repS w0 B (sl A6 N6 C6) x1.b)(p1_2:a_ w0 S1_2 (sl AG NG CG) x1.list_)(p1_2n:S1_2.Nodup)(p1_2g:∀k∈S1_2,¬B k)(p1_2d:∀k∈S1_2,k∉[g1])(p2_0:x2.b.length<=LEN)(p3_0:inI x3)(p4_0:inI x4.number)(p4_1:repS w0 B (sl AI NI CI) x4.bytes)(p4_2:repS w0 B (sl AJ NJ CJ) x4.items)(hC4:X_ w0 b4 o4 [vI x4.number,sl AI NI CI,sl AJ NJ CJ])(hC4b:B b4)(p5_0:inI x5),r_ prog 38 [pt g1,Str.v x2,vI x3,.pointer<|some ⟨b4,o4,none⟩,vI x5] w0<|Q29 w0 g1 B A0 N0 C0 A6 N6 C6 AG NG CG S1_2 x1 res
abbrev n_u (n:Nat):Prop:=l_3 (e_B n).impl_indexer_part
theorem T_w0g (bD:n_u n):l_3 (h_G n<|e_B n):=by
 constructor
 intro A0 A6 AG AI AJ N0 C0 N6 C6 NG CG g1 NI CI NJ CJ b4 o4 S1_2 B x1 x2 x3 x4 x5 res w0 hm hB1 O hBg hG V an ao p1_2n p1_2g p1_2d ap Y ba bb W hC4 hC4b a0;unfold h_G at hm
 refine goG func38 z z z λfn hr=>Ws<|Rw z<|Wm z<|R z (Y_ z)<|Rf z h_S z<|R z (l0 g_29 z<|hB1.at z)<|R z (lnR b_V z<|a_.rep ao)<|Rw z<|Wm z<|Rm z<|R z (Y_ z)<|Rf z h_S z<|R z (l0 g_29 z<|hB1.at z)<|RM z z<|Rm z<|R z (bP (parts:=[(0,.tmp 27),(1,.tmp 28),(2,.tmp 29)]) (cs:=[Str.v x2,vI x3,vI x5,vI 0]) g_b z z)<|E z (fS [(.tmp 30)] d_C z z z (L_ z) (lb z)<|lb z) ?_
 rintro _ aw ⟨rfl,a9⟩;have h3:=a9.below;have cP:=a_6 a9<|f_n (x:=(⟨x2,x3,x5,0⟩:s_)) ap Y a0<|ii z
 obtain ⟨_,bE,bc⟩:=bdS hm;refine E z (a_e (α:=s_) d_C bE z z (ao.e h3) p1_2n (a9.blk:Blk aw w0.z [Str.v x2,vI x3,vI x5,vI 0]) (f_n (x:=(⟨x2,x3,x5,0⟩:s_)) ap Y a0<|ii z) an_ v_) ?_;rintro _ bF ⟨G,ax,ay,az,rfl,sk,aA,bG,hl⟩;refine R z (Y_ z)<|Rf z h_S z<|E0 (fs0 (cur':=[sl A0 N0 C0,sl A6 N6 C6,sl ax ay az]) z_29 z z ((hB1.e h3).c sk<|djs p1_2d) z z z z) ?_
 rintro _ bH ⟨bI,bJ⟩;have hi:=bJ.one;refine Wn<|Wq (Wd (X:=noX) 0 (pl_ 16 [10]) mo (by kernel_rfl) λbK sf _=>dM z z z<|dR z z (Y_ z)<|dR z z (fd h_R z) ?_)
 have aa:=bI.e sf;refine dR z z (lN (vs:=[sl A0 N0 C0]) B_ z_ z z fid<|aa.row 0 1 z)<|dM z z z<|dM z z z<|dR z z (Y_ z)<|dR z z (fd f_77_1 z)<|dR z z (l0 a_0 z<|aa.at z)<|dM z z z ?_
 have ab:=(((h3.ag B).c sk<|c_ p1_2g).c hi<|c_<|b_ hBg).e sf;have ad:=lt_ (lt_ (lt_ h3.s sk.s) hi.s) sf.s;obtain ⟨rm,_,bL,be⟩:=a_v bc;refine dE z z (fc call69 z<|W_w2k (B:=B) (x1:=(⟨x1.d.rules⟩:g_)) bL (zt' O ad) (V.g ab) Y (an.g ab) a0) (.inr λ_ _ h=>y_<|h.1) ?_;rintro _ wn ⟨sd,rfl,aB,_⟩;refine dM z z z<|dR z z (ext_ z z)<|dR z z (ext_ z z)<|dQ z z z<|dQ z z z<|pD<|Wo<|Wm z<|Rw z<|Wq<|Wm z<|R z (Y_ z)<|Rf z h_R z<|Rf z R_ z ?_
 have ae:=aa.e sd;refine R z (l0 S_ z<|ae.at z)<|Rm z ?_
 obtain ⟨xr,bM,bf⟩:=bdS be;have af:=ab.e sd;refine RX z (at_ (α:=d_) K_ p_ z z z (V.g af) bM) ?_;rintro _ ⟨_,_,_,rfl,bN,bO,_⟩;obtain ⟨aC,aD,aE,aF,aG,aH,aI,aJ,aK,aL,aM,aN,rfl,_,_,_,_,_,_,bQ⟩:=a_H bO;refine R z (lN (vs:=vR xr aC aD aE aF aG aH aI aJ aK aL aM aN) M_ p_ z z fid bN)<|E z (fa b_M) ?_
 rintro _ aO ⟨rfl,aP⟩;have h5:=aP.below;refine E0 (fs0 (cur':=vR xr aC aD aE aF aG aH aI aJ aK aL aM aN) p_ z z (aP.blk:Blk aO wn.z [(Str.v (⟨[]⟩:Str)),vI 0,vI 0,vB false,sN,sN,sN,sN]) z z z z) ?_;rintro _ ws ⟨aQ,bR⟩;have h6:=bR.one;refine Wn<|Ws<|Rf z a_G z<|R z (l0 g_3 z<|aQ.at z)<|Wn<|Wb<|Wq<|Ws<|Rq z z z<|Rw z ?_
 obtain ⟨bS,aq,bg⟩:=bdS bf;refine Wt (λa w=>∃(ah:Bool),ah=bS/\Sat 126 [(0,pt g1),(1,Str.v x2),(2,vI x3),(3,.pointer<|some ⟨b4,o4,none⟩),(11,vI (x1.list_.length:Int)),(12,vI rm),(14,vI x5),(15,pt wn.z),(59,vI xr.kind),(60,vB ah)] a/\Below ws.z ws w) ?_ ?_
 .refine Wc z (λa5=>?_)<|λa5=>?_
  .exact Z_<|λ_ q=>⟨xr.kind==5,som<|ifT aq a5,q.k<|sc z<|sc z<|sc z<|sc z<|sc z<|sc z<|sc z<|sc z<|sc z<|sc z sn,br ws⟩
  exact Wg<|Rq z z z<|Ra z<|Wl (λ_ q=>⟨xr.kind==7,som<|ifF aq a5,q.k<|sc z<|sc z<|sc z<|sc z<|sc z<|sc z<|sc z<|sc z<|sc z<|sc z sn,br ws⟩)
 rintro bT wc ⟨ah,rfl,_,s4⟩;revert bT;refine Wo ?_;obtain ⟨bU,ar,bh⟩:=bdS bg;refine Wt (λa w=>∃(xy:Int),xy=bU/\Sat 126 [(0,pt g1),(1,Str.v x2),(2,vI x3),(3,.pointer<|some ⟨b4,o4,none⟩),(11,vI (x1.list_.length:Int)),(12,vI rm),(14,vI xy)] a/\Below wc.z wc w/\inI xy) ?_ ?_
 .refine Wc z (λa6=>?_)<|λa6=>?_
  .refine Wd (X:=noX) 0 (pl_ 15 []) mo (by kernel_rfl) λcQ su _=>dM z z z<|dM z z z<|dR z z (Y_ z)<|dR z z (fd h_R z)<|dR z z (fd R_ z) ?_
   have aR:=lt_ ad sd.s;refine dR z z (l0 S_ z<|((((ae.e h5).c h6<|djs<|mm1 (Blk.lt hB1) aR).e s4).e su).at z)<|dR z z (fd Q_ z)<|dR z z (l0 F_ z<|((aQ.e s4).e su).at z) ?_
   obtain ⟨_,bV,bi⟩:=bdS<|ifT ar a6;have aS:∀k∈[wn.z],¬B k:=or0 (b_ lr)<|o_<|zt' O aR;refine dRX z z (at_ (α:=Int) G_ z_3 z z z (bQ.g<|(((h5.ag B).c h6<|c_ aS).e s4).e su) bV) ?_;rintro _ ⟨_,_,_,rfl,bW,bX,_⟩;obtain ⟨rfl,_⟩:=U_ bX;refine dR z z (l0 g_3 z<|bW.at0 z) ?_;obtain ⟨bY,bZ,bj⟩:=bdS bi;refine dRX z z (at_ (α:=d_) K_ p_ z z z (V.g<|(((af.e h5).c h6<|c_ aS).e s4).e su) bZ) ?_;rintro _ ⟨_,_,_,rfl,c0,c1,_⟩;obtain ⟨_,_,_,_,_,_,_,_,_,_,_,_,rfl,_,_,_,_,_,_,_⟩:=a_H c1;exact dR z z (fd a_W z)<|dR z z (l0 g_3 z<|c0.at (j:=2) z)<|dR z z (add_ z z)<|dQ z z z<|pD (λ_ q=>⟨h_ x5 bY.size,som bj,q.k<|s7 z z z z z z z,su,iA _ _⟩)
  refine Ws<|Rq z z z<|Rw z ?_
  obtain ⟨c2,au,bk⟩:=bdS<|ifF ar a6;refine Wt (λa w=>∃(xv:Int),xv=c2/\Sat 126 [(0,pt g1),(1,Str.v x2),(2,vI x3),(3,.pointer<|some ⟨b4,o4,none⟩),(11,vI (x1.list_.length:Int)),(12,vI rm),(14,vI xv)] a/\Below wc.z wc w/\inI xv) ?_ ?_
  .refine Wc z (λa8=>?_)<|λa8=>?_
   .exact Wg<|Rm z<|R z (add_ z z)<|Ra z<|Wl (λ_ q=>⟨h_ x5 1,som<|ifT au a8,q.k<|s7 z z z z z z z,br wc,iA _ _⟩)
   exact Z_<|λ_ q=>⟨x5,som<|ifF au a8,q.k<|s7 z z z z z z z,br wc,a0⟩
  rintro c3 _ ⟨xv,rfl,_,c4,c5⟩;revert c3;exact λ_ q=>⟨xv,som bk,q.k<|s7 z z z z z z z,c4,c5⟩
 rintro c6 H ⟨xy,rfl,_,sg,c7⟩;revert c6;refine Wo<|Wq<|Wm z<|R z (Y_ z)<|Rf z b_p z ?_
 have hw:=lt_ ad sd.s;have ai:∀k∈[wn.z],¬B k:=or0 (b_ lr)<|o_<|zt' O hw;have aT:=((((((((hC4.e h3).c sk<|(c_ p1_2g) _ hC4b).c hi<|(c_<|b_ hBg) _ hC4b).e sf).e sd).e h5).c h6<|(c_ ai) _ hC4b).e s4).e sg;refine R z (l0 c_5 z<|aT.at (j:=2) z) ?_;have aU:=(((af.e h5).c h6<|c_ ai).e s4).e sg;refine R z (lnR c_V z<|W.g aU)<|Rm z<|Wn ?_
 obtain ⟨_,bm,av⟩:=bdS bh;refine Wf (σ:=Int×(List s_)) (ρ:=Int×(List s_)) (λ(aV:Nat) s a w=>un2 (λxj xo=>∃I J L S1,Sat 126 [(0,pt g1),(1,Str.v x2),(2,vI x3),(3,.pointer<|some ⟨b4,o4,none⟩),(11,vI (x1.list_.length:Int)),(12,vI rm),(14,vI xj),(85,vI (x4.items.length:Int)),(86,vI ((aV:Nat):Int))] a/\Chg (· ∈ ([g1]++G)) H w/\inI xj/\a_ w S1 (sl I J L) xo/\S1.Nodup/\(∀k∈S1,k∈G∨H.z<=k)/\Blk w g1 [sl A0 N0 C0,sl A6 N6 C6,sl I J L]) s) (λs a w=>un2 (λxj xo=>∃I J L S1,Sat 126 [(0,pt g1),(11,vI (x1.list_.length:Int)),(12,vI rm)] a/\Chg (· ∈ ([g1]++G)) H w/\inI xj/\a_ w S1 (sl I J L) xo/\S1.Nodup/\(∀k∈S1,k∈G∨H.z<=k)/\Blk w g1 [sl A0 N0 C0,sl A6 N6 C6,sl I J L]) s) (rQ prog fn<|Q29 w0 g1 B A0 N0 C0 A6 N6 C6 AG NG CG S1_2 x1) bm ?_ ?_ ?_ ?_ ?_
 .have c8:∀k∈G,k∉[g1]:=or2 hl p1_2d an_<|m_ (b_<|Blk.lt hB1) h3.s;exact λ_ q=>⟨ax,ay,az,G,q.k<|s9 z z z z z z z z z,cr ([g1]++G) H,c7,((((((aA.c hi c8).e sf).e sd).e h5).c h6<|ds<|mno (a_.lt aA)<|lt_ (lt_ hi.s sf.s) sd.s).e s4).e sg,bG,io sr,(((ae.e h5).c h6<|djs<|mm1 (Blk.lt hB1) hw).e s4).e sg⟩
 .rintro aV ⟨xj,xo⟩ _ ca _ hkz ⟨I,J,L,S1,bn,sp,a1,hq,hx,ha,ht⟩ bo;refine Wu ?_ bn;refine Ws<|Rl z z z<|Wn<|Wq<|Wc z (λ_=>?_) (λhc=>(a_g hkz hc).elim)
  refine Wk<|Wq<|Wb<|Wm z<|Ra z<|Wn (Wd (X:=noX) 67108864 (.rd 0<|.rd 1<|.rd 2<|.rd 3<|.rd 4<|.rd 5<|.rd 6<|.rd 7<|.rd 8<|.rd 11<|.rd 12<|.rd 13<|.rd 14<|.rd 15<|.rd 16<|.rd 17<|.rd 19<|.rd 20<|.rd 21<|.rd 22<|.rd 23<|.rd 24<|.rd 25<|.ef 9<|.rd 10<|.ef 18<|.ef 26<|.rd 27 .done) mo (by kernel_rfl) λcb sh _=>dM z z z<|dM z z z ?_)
  obtain ⟨_,cc,bp⟩:=bdS<|a_M bo;refine dR z z (c_r z z cc)<|dM z z z<|dR z z (Y_ z)<|dR z z (fd h_R z) ?_
  have aj:=ht.e sh;refine dR z z (lN (vs:=[sl A0 N0 C0]) B_ z_ z z fid<|aj.row 0 1 z) ?_
  iterate 3 refine dM z z z ?_
  refine dR z z (Y_ z)<|dR z z (fd h_R z)<|dR z z (lN (vs:=[sl A0 N0 C0]) B_ z_ z z fid<|aj.row 0 1 z) ?_
  iterate 4 refine dM z z z ?_
  refine dR z z (Y_ z)<|dR z z (fd b_p z) ?_
  have a2:∀k∈G,¬B k:=or2 hl p1_2g an_<|o_<|zt' O h3.s;have aW:=(aT.c sp<|(nmA (c_<|b_ hBg)<|c_ a2) _ hC4b).e sh;refine dR z z (l0 c_5 z<|aW.at (j:=2) z)<|dM z z z ?_
  obtain ⟨_,cd,bq⟩:=bdS bp;have ak:=(aU.c sp<|nmA (c_<|b_ hBg)<|c_ a2).e sh;refine dRX z z (at_ (α:=Val) c_V l_ z z z (W.g ak) cd) ?_;rintro _ ⟨_,_,_,rfl,ce,cf,cg⟩;obtain ⟨_,_,_,_,_,_,rfl,ch,ci,cj⟩:=k_y cf;refine dM z z z ?_;have aX:=((((((((((hG.e h3).c sk<|c_ p1_2g).c hi<|c_<|b_ hBg).e sf).e sd).e h5).c h6<|c_ ai).e s4).e sg).c sp<|nmA (c_<|b_ hBg)<|c_ a2).e sh;have al:=lt_ (lt_ (lt_ (lt_ hw h5.s) h6.s) s4.s) sg.s;have aY:=lt_ (lt_ al sp.s) sh.s;obtain ⟨_,ck,bs⟩:=bdS bq;refine dE z z (fc call70 z<|W_w2m (B:=B) (x1:=(⟨x1.d.rules⟩:g_)) ck (zt' O aY) aX (V.g ak) Y<|ic (Nat.le_of_lt hkz)<|lt_ (repS.len W) O_) (.inr λ_ _ h=>y_<|h.1) ?_;rintro _ cl ⟨sb,rfl,_⟩;obtain ⟨_,aZ,bt⟩:=bdS bs;refine dR z z (c_r z z aZ) ?_;have a3:=ak.e sb;have b0:=lt_ aY sb.s;obtain ⟨_,cm,bu⟩:=bdS bt;refine dE z z (fc call71 z<|W_w2n (B:=B) (x1:=(⟨x1.d.rules⟩:g_)) cm (zt' O b0) (V.g a3) Y ba (bb.g a3) (W.g a3) (aW.e sb) hC4b<|ic (Nat.le_of_lt hkz)<|lt_ (repS.len W) O_) (.inr λ_ _ h=>y_<|h.1) ?_;rintro _ cn ⟨se,rfl,co⟩;have b1:=a3.e se;have b2:=(sb.ag B).e se;obtain ⟨cp,cq,ct,bv⟩:=a_v bu;refine dE z z (fc call38 z<|bD.run (B:=B) ct ((aj.e sb).e se) (zt' O<|lt_ b0 se.s) hBg ((aX.e sb).e se) (V.g b1) (an.g b1) (((hq.e sh).e sb).e se) hx (or1 ha a2 (o_<|zt' O al):∀k∈S1,¬B k) (or1 ha (or2 hl p1_2d an_ (m_ (b_<|Blk.lt hB1) h3.s):∀k∈G,k∉[g1]) (m_ (b_<|Blk.lt hB1) al):∀k∈S1,k∉[g1]) (d_m aZ) co ch (ci.g b2) (cj.g b2) ((ce.e sb).e se) cg a1) (.inl z) ?_;rintro _ cu ⟨cv,cw,cx,cy,b3,rfl,cz,cA,cB,cC,cD⟩;refine dQ z z z<|pD<|Wo<|Wg<|R z (inc_ hkz (lt_ (repS.len W) O_) z z)<|Rm z<|Wl ?_
  exact λ_ q=>⟨(cp,cq),(som bv).symm,⟨cw,cx,cy,b3,q.k<|s9 z z z z z z z z z,(cM (e_ (e_ (e_ (cM (cr ([g1]++G) H) sp (aa_ (io<|i_ sr)<|io<|f_ sr):Chg (· ∈ ([g1]++G)) H ca) sh:Chg (· ∈ ([g1]++G)) H cb) sb:Chg (· ∈ ([g1]++G)) H cl) se:Chg (· ∈ ([g1]++G)) H cn) cv (aa_ (io<|i_ sr) (or1 ha (io<|f_ sr) (j_ lr):∀k∈S1,k∈([g1]++G)∨H.z<=k)):Chg (· ∈ ([g1]++G)) H cu),cz,cA,cB,(or1 cC (or1 ha (io sr) (j_ lr):∀k∈S1,k∈G∨H.z<=k) (j_<|lt_ (lt_ (lt_ sp.s sh.s) sb.s) se.s):∀k∈b3,k∈G∨H.z<=k),cD⟩⟩
 .rintro ⟨xj,xo⟩ _ cE ⟨I,J,L,S1,bw,cF,a1,hq,hx,ha,ht⟩;refine Wu ?_ bw;refine Ws<|Rl z z z<|Wn<|Wq<|Wc z (λhc=>(a_h hc).elim) (λ_=>?_)
  exact We<|λ_ q=>⟨rfl,⟨I,J,L,S1,q.k<|s3 z z z,(cM (cr ([g1]++G) H) cF (aa_ (io<|i_ sr)<|io<|f_ sr):Chg (· ∈ ([g1]++G)) H cE),a1,hq,hx,(or1 ha (io sr) (j_ lr):∀k∈S1,k∈G∨H.z<=k),ht⟩⟩
 .rintro ⟨xj,xo⟩ cG cH rfl ⟨I,J,L,S1,_,b5,a1,hq,hx,ha,ht⟩;have bx:=elL av;revert cG;refine Wo<|Wm z<|R z (Y_ z)<|Rf z h_S z<|R z (l0 g_29 z<|ht.at z)<|RM z z ?_
  obtain ⟨am,b6,bz⟩:=bdS<|a_M bx;refine RX z (d_M (α:=s_) b_V b_e z z hq b6) ?_;rintro _ ⟨_,cI,rfl⟩;refine Rf z n_o z ?_;obtain ⟨_,cJ,bA⟩:=bdS bz;refine E0 (g_A (α:=s_) (v':=(⟨am.path,am.rule,am.start,rm⟩:s_)) z_3 z cI z z z z b6 cJ hq hx (lb z)<|λ_ _ _ h=>n_Z h aB) ?_;rintro _ cK ⟨b7,b8,cL,cN,cO⟩;refine Wn<|Wm z<|Rw z ?_
  obtain rfl:=som bA;have b9:∀k∈G,k∈([g1]++S1_2)∨w0.z<=k:=or2 hl (io<|f_ sr) an_<|j_ h3.s;have a4:=lt_ (lt_ (lt_ (lt_ hw h5.s) h6.s) s4.s) sg.s;exact Wr<|k_ hr z ⟨(cM (cM (e_ (e_ (cM (e_ (e_ (e_ (cM (cM (e_ (cr ([g1]++S1_2) w0) h3:Chg (· ∈ ([g1]++S1_2)) w0 aw) sk (io<|f_ sr):Chg (· ∈ ([g1]++S1_2)) w0 bF) hi (io<|i_ sr):Chg (· ∈ ([g1]++S1_2)) w0 bH) sf:Chg (· ∈ ([g1]++S1_2)) w0 bK) sd:Chg (· ∈ ([g1]++S1_2)) w0 wn) h5:Chg (· ∈ ([g1]++S1_2)) w0 aO) h6 (mor hw:∀k∈[wn.z],k∈([g1]++S1_2)∨w0.z<=k):Chg (· ∈ ([g1]++S1_2)) w0 ws) s4:Chg (· ∈ ([g1]++S1_2)) w0 wc) sg:Chg (· ∈ ([g1]++S1_2)) w0 H) b5 (aa_ (io<|i_ sr) b9):Chg (· ∈ ([g1]++S1_2)) w0 cH) b8 (or1 ha b9 (j_ a4):∀k∈S1,k∈([g1]++S1_2)∨w0.z<=k):Chg (· ∈ ([g1]++S1_2)) w0 cK),I,J,L,b7,z,aB,cL,cN,(or1 cO (or1 ha (or2 hl (io sr) an_ (j_ h3.s):∀k∈G,k∈S1_2∨w0.z<=k) (j_ a4):∀k∈S1,k∈S1_2∨w0.z<=k) (j_<|lt_ a4 b5.s):∀k∈b7,k∈S1_2∨w0.z<=k),ht.c b8<|djs (or1 ha (or2 hl p1_2d an_ (m_ (b_<|Blk.lt hB1) h3.s):∀k∈G,k∉[g1]) (m_ (b_<|Blk.lt hB1) a4):∀k∈S1,k∉[g1])⟩
 rintro _ _ _ _ rfl ⟨rfl,bB⟩;have bC:=elR av;obtain rfl:=som bC;exact ⟨bB,z⟩
theorem A_w0g:∀n,n_u n
  | 0=>⟨λhm=>by intros;exact nomatch (show none=some _ from hm)⟩
  | n+1=>T_w0g<|A_w0g n
theorem W_w0g:l_3 (e_B n).impl_indexer_part:=A_w0g n
def Q30 (w0:World)(B:Zone)(r:(List s_)×Bool)(v:Value)(w':World):Prop:=Bw w0 w'/\un2 (λJ L=>∃G H I S1,v = .tuple #[sl G H I,vB L]/\a_ w' S1 (sl G H I) J/\S1.Nodup/\(∀k∈S1,w0.z<=k)) r
theorem W_w2o {x1:g_}{x2:Bt}{res:(List s_)×Bool}(hm:h_I n x1 x2=some res)(H:B<=w0.z)(hG:Gl w0 B)(I:repS w0 B (sl A0 N0 C0) x1.rules)(V:repS w0 B (sl A5 N5 C5) x2):r_ prog 14 [(.agg #[sl A0 N0 C0]),sl A5 N5 C5] w0 (Q30 w0 B res):=by
 unfold h_I at hm
 refine goG func14 z z z λfn hr=>Ws<|E z (fb z) ?_
 rintro _ wr ⟨rfl,hc⟩;have h2:=hc.below;have h6:Blk wr w0.z [sl A0 N0 C0]:=hc.blk;refine Ra z<|Rw z<|Ws<|R z (lN (vs:=[sl A0 N0 C0]) B_ z_ z z fid<|h6.row 0 1 z)<|Rm z ?_
 have hd:=hG.e h2;obtain ⟨rs,_,_,ew,hme⟩:=t_ hm;refine E z (fc call37 z<|W_w2i ew (zt' H h2.s) hd (I.e h2)<|V.e h2) ?_;rintro _ wf ⟨s5,ax,ny,cz,_,a0,a1,a2,_,rfl,a3,L,O,_,_,_,_⟩;refine Rm z ?_
 iterate 3 refine Re z z z ?_
 refine E z (fa a_k) ?_;rintro _ wg ⟨rfl,hh⟩;have G:=hh.below;have hi:Blk wg wf.z [vI 0,sN,sN]:=hh.blk;refine E0 (fs0 (cur':=[vI rs.number,sl ax ny cz,sl a0 a1 a2]) l_ z z hi z z z z) ?_;rintro _ wj ⟨a4,a5⟩;have h1:=a5.one;refine Ra z<|Rw z<|Wq<|Wm z<|R z (nq z z)<|Wx z (λJ=>?_) (λJ=>?_)
 .refine Ws<|E z (f0 (α:=s_) d_C) ?_
  rintro _ _ ⟨a6,a7,a8,rfl,a9,aa⟩;refine Ra z<|Rw z ?_
  obtain rfl:=som<|ifT hme J;have hk:=lt_ h2.s s5.s;exact Wr<|a_i hr z z ⟨bup (bM (bup (bup h2 s5) G) h1<|m1 hk) a9,a6,a7,a8,[wj.z],z,aa,a_A,m1<|lt_ (lt_ hk G.s) h1.s⟩
 refine Wk<|Ws ?_
 have hl:=((h6.e s5).e G).c h1<|djs<|mm1 h6.lt s5.s
 refine R z (lN (vs:=[sl A0 N0 C0]) B_ z_ z z fid<|hl.row 0 1 z)<|Rm z<|R z (bP (parts:=[(0,.tmp 20),(1,.tmp 21)]) (cs:=[sl A0 N0 C0,sl A5 N5 C5,sN]) r_j z z)<|E z (fb z) ?_
 rintro _ ab ⟨rfl,hn⟩;have h3:=hn.below;refine Rw z<|Wm z<|R z (lN (vs:=[sl A0 N0 C0]) B_ z_ z z fid<|(hl.e h3).row 0 1 z) ?_
 have ha:=lt_ h2.s s5.s;have ho:∀k∈[wf.z],¬B k:=or0 (b_ lr)<|o_<|zt' H ha;have hp:=((((h2.ag B).e s5).e G).c h1<|c_ ho).e h3;have hq:=lt_ ha G.s;have ht:=lt_ hq h1.s;have hu:=lt_ ht h3.s;obtain ⟨_,ad,W⟩:=bdS<|ifF hme J;refine E z (fc call39 z<|k_L ad (zt' H hu)<|I.g hp) ?_;rintro _ _ ⟨s4,rfl,ae⟩;have hv:=hp.e s4;have hb:=zt' H hq;obtain ⟨_,_,af,Y⟩:=a_v W;refine E z (fc call38 z<|W_w0g.run (B:=wg.z) af ((hn.blk:Blk ab wj.z [sl A0 N0 C0,sl A5 N5 C5,sN]).e s4) (b_g<|lt_ (lt_ h1.s h3.s) s4.s) (atp<|nbl<|m1 h1.s) ((((((hd.e s5).e G).c h1<|c_ ho).e h3).e s4).mono hb) (repS.mono (I.g hv) hb) (repS.mono (V.g hv) hb) onL v_ (nbl an_) an_ (lb z) ae a3 (repS.mono (or_ ((((L.e G).c h1<|ds<|mnr<|a_.lt L).e h3).e s4)<|a_.lt L)<|b_g G.s) (repS.mono (or_ ((((O.e G).c h1<|ds<|mnr<|a_.lt O).e h3).e s4)<|a_.lt O)<|b_g G.s) (((a4.e h3).e s4).row 0 3 z) hi.lt<|ii z) ?_;rintro _ _ ⟨ah,ai,aj,ak,Sm,rfl,_,al,am,an,ao⟩;refine Wn<|Wm z<|R z (Y_ z)<|Rf z h_S z<|R z (l0 g_29 z<|ao.at z)<|Ra z<|Rw z ?_
 obtain rfl:=som Y;exact Wr<|a_i hr z z ⟨bM (bup (bup (bM (bup (bup h2 s5) G) h1<|m1 ha) h3) s4) ah<|aa_ (m1 ht) an_,ai,aj,ak,Sm,z,al,am,(or1 an an_ (b_f<|lt_ hu s4.s):∀k∈Sm,w0.z<=k)⟩
theorem W_w1s {x1:Str}{x2:UInt8}{res:(List Str)}(hm:e_t x1 x2=some res)(aW:B<=w0.z)(L:x1.b.length<=LEN):r_ prog 122 [Str.v x1,vU<|byteI x2] w0 (Q12 w0 B res):=by
 unfold e_t at hm
 refine goG func122 z z z λfn hr=>Ws<|Rw z<|Ws<|E z (f0 (α:=Str) a_5) ?_
 rintro _ H ⟨aj,ak,al,rfl,sk,am⟩;refine Rw z<|Ws<|Rw z<|Wq<|Ws<|Rw z ?_
 obtain ⟨_,a3,hmr⟩:=bdS hm;refine Wf (σ:=(List Str)×Int) (ρ:=List Str) (λ(kd:Nat) s a w=>un2 (λV x5=>∃a2 I J G,Sat 35 [(0,Str.v x1),(1,vU<|byteI x2),(5,sl a2 I J),(6,vI x5),(7,vI ((kd:Nat):Int))] a/\Cg [w0.z] H w/\a_ w G (sl a2 I J) V/\G.Nodup/\(∀k∈G,k∈[w0.z]∨H.z<=k)/\inI x5) s) (λs a w=>un2 (λV x5=>∃a2 I J G,Sat 35 [(0,Str.v x1),(5,sl a2 I J),(6,vI x5)] a/\Cg [w0.z] H w/\a_ w G (sl a2 I J) V/\G.Nodup/\(∀k∈G,k∈[w0.z]∨H.z<=k)/\inI x5) s) (rQ prog fn<|Q12 w0 B) a3 ?_ ?_ ?_ ?_ ?_
 .exact λ_ q=>⟨aj,ak,al,[w0.z],q.k<|s5 z z z z z,cr [w0.z] H,am,a_A,io sr,ii z⟩
 .rintro kd ⟨V,x5⟩ _ O _ hke ⟨a2,I,J,G,a4,ss,W,Y,hb,hf⟩ a5;refine Wu ?_ a4;refine Wq<|Wm z<|Rm z<|R z (lnT d_9 z)<|Rl z z z<|Wx z (λ_=>?_) (λhc=>(a_g hke hc).elim)
  refine Wk<|Wq<|Wb<|Wm z<|Rm z ?_
  obtain ⟨_,eu,a6⟩:=bdS<|a_M a5;refine R z (c_m d_9 z z (a_J eu).1 (a_J eu).2.1)<|Rm z<|Rq z z z<|Wn ?_
  obtain ⟨an,huv,a7⟩:=bdS a6;refine Wt (λa w=>∃(xg:List Str)(xc:Int),(xg,xc)=an/\∃ah ni cj Sa,Sat 35 [(0,Str.v x1),(1,vU<|byteI x2),(5,sl ah ni cj),(6,vI xc),(7,vI ((kd:Nat):Int))] a/\Cg G O w/\a_ w Sa (sl ah ni cj) xg/\Sa.Nodup/\(∀k∈Sa,k∈G∨O.z<=k)/\inI xc) ?_ ?_
  .refine Wc z (λhcl=>?_)<|λhcl=>?_
   .refine Wm z<|RM z z<|Rm z ?_
    obtain ⟨ao,em,a8⟩:=bdS<|ifT huv hcl;refine R z (j_N d_9 z z z L em)<|E z (fS [(.tmp 24)] a_5 z z z (L_ z) (lb z)<|lb z) ?_
    rintro _ ww ⟨rfl,hn⟩;have ho:=hn.below;have aX:=a_6 hn<|a_Z<|f_y em L
    obtain ⟨ap,aq,a9⟩:=bdS a8;refine E z (a_e (α:=Str) a_5 aq z z (W.e ho) Y (hn.blk:Blk ww O.z [Str.v ao]) (a_Z<|f_y em L) an_ v_) ?_;rintro _ ar ⟨Sx,au,av,aw,rfl,ax,ay,az,aA⟩;refine Rw z<|Wg<|Rm z<|R z (inc_ hke (lt_ L O_) z z)<|Ra z<|Wl ?_
    exact λ_ q=>⟨ap,((kd+1:Nat):Int),som a9,au,av,aw,Sx,q.k<|s5 z z z z z,(cM (e_ (cr G O) ho:Cg G O ww) ax (io sr):Cg G O ar),ay,az,(or2 aA (io sr) an_ (j_ ho.s):∀k∈Sx,k∈G∨O.z<=k),ic (Nat.succ_le_of_lt hke)<|lt_ L O_⟩
   exact Z_<|λ_ q=>⟨V,x5,som<|ifF huv hcl,a2,I,J,G,q.k<|s5 z z z z z,cr G O,W,Y,io sr,hf⟩
  rintro aB aC ⟨xg,xc,rfl,ah,ni,cj,Sa,_,aD,aE,aF,aG,aH⟩;revert aB;refine Wo<|Wg<|Rm z<|R z (inc_ hke (lt_ L O_) z z)<|Ra z<|Wl ?_
  have hy:∀k∈G,k∈[w0.z]∨H.z<=k:=or1 hb (io sr)<|j_ lr;exact λ_ q=>⟨(xg,xc),(som<|a_M a7).symm,⟨ah,ni,cj,Sa,q.k<|s5 z z z z z,(cM (cM (cr [w0.z] H) ss (io sr):Cg [w0.z] H O) aD hy:Cg [w0.z] H aC),aE,aF,(or1 aG hy (j_ ss.s):∀k∈Sa,k∈[w0.z]∨H.z<=k),aH⟩⟩
 .rintro ⟨V,x5⟩ _ aI ⟨a2,I,J,G,aa,aJ,W,Y,hb,hf⟩;refine Wu ?_ aa;refine Wq<|Wm z<|Rm z<|R z (lnT d_9 z)<|Rl z z z<|Wx z (λhc=>(a_h hc).elim) (λ_=>?_)
  exact We<|λ_ q=>⟨rfl,⟨a2,I,J,G,q.k<|s3 z z z,(cM (cr [w0.z] H) aJ (io sr):Cg [w0.z] H aI),W,Y,(or1 hb (io sr) (j_ lr):∀k∈G,k∈[w0.z]∨H.z<=k),hf⟩⟩
 .rintro ⟨V,x5⟩ aK aL rfl ⟨a2,I,J,G,_,sz,W,Y,hb,hf⟩;have ab:=elL hmr;revert aK;refine Wo<|Wm z<|RM z z ?_
  obtain ⟨aM,ep,ad⟩:=bdS<|a_M ab;refine R z (j_N d_9 z z z L ep)<|E z (fS [(.tmp 32)] a_5 z z z (L_ z) (lb z)<|lb z) ?_
  rintro _ aN ⟨rfl,hq⟩;have ht:=hq.below;have aY:=a_6 hq<|a_Z<|f_y ep L
  obtain ⟨_,aO,ae⟩:=bdS ad;refine E z (a_e (α:=Str) a_5 aO z z (W.e ht) Y (hq.blk:Blk aN aL.z [Str.v aM]) (a_Z<|f_y ep L) an_ v_) ?_;rintro _ _ ⟨a0,aP,aQ,aR,rfl,aS,aT,aU,aV⟩;refine Rw z ?_
  obtain rfl:=som ae;have a1:∀k∈G,w0.z<=k:=or1 hb (b_ lr)<|b_f sk.s;exact Wr<|k_ hr z ⟨bM (bup (bM sk sz<|b_ lr) ht) aS a1,aP,aQ,aR,a0,z,aT,aU,(or2 aV a1 an_ (b_f<|lt_ (lt_ sk.s sz.s) ht.s):∀k∈a0,w0.z<=k)⟩
 rintro _ _ _ _ rfl ⟨rfl,af⟩;have ai:=elR hmr;obtain rfl:=som ai;exact ⟨af,z⟩
theorem W_w1t {x1:Str}{res:Int×Bool}(hm:f_W x1=some res)(af:B<=w0.z)(Y:x1.b.length<=LEN):r_ prog 93 [Str.v x1] w0 (Q15 w0 B res):=by
 unfold f_W at hm
 refine goG func93 z z z λfn hr=>Ws<|Ra z<|Rw z<|Wq<|Wq ?_
 obtain ⟨uv,huf,hmg⟩:=bdS hm;refine Wt (λa w=>∃(W:Bool),W=uv/\Sat 50 [(0,Str.v x1),(22,vB W)] a/\Below w0.z w0 w) ?_ ?_
 .refine Wg<|Rm z<|R z (b_7 z z)<|Rm z ?_
  rcases bs (x1.b==(⟨[]⟩:Str).b) with I | I
  .iterate 3 refine Nh z I ?_
   exact R z (pT z I z)<|Rm z<|Nh z z<|Nh z z<|Nh z z<|Nh z z<|Nv z<|Nv z<|Nv z<|Nh z z<|R z (pT z z z)<|Wl (λ_ q=>⟨true,som<|ifT huf I,q.k<|s2 z z,br w0⟩)
  have hmh:=ifF huf I;refine Rh z I (mv z)<|Rh z I (lnT d_9 z)<|Rh z I (a_b z z)<|R z (pF z I z)<|Rm z ?_
  rcases bs (decide<|13<(x1.b.length:Int)) with G | G
  .iterate 4 refine Nh z G ?_
   exact Nv z<|Nv z<|Nv z<|Nh z G<|R z (pT z G z)<|Wl (λ_ q=>⟨true,som<|ifT hmh G,q.k<|s2 z z,br w0⟩)
  refine Rh z G (mv z) ?_;obtain ⟨xw,ei,hmj⟩:=bdS<|ifF hmh G;refine Rh z G (c_m d_9 z z (a_J ei).1 (a_J ei).2.1)<|Rh z G (eql z z)<|Rh z G (mv z) ?_
  rcases bs ((byteI xw)==(byteI (48:UInt8))) with J | J
  .exact Rh z J (mv z)<|Rh z J (lnT d_9 z)<|Rh z J (a_b z z)<|Rh z G (pT z J z)<|R z (pF z G z)<|Wl (λ_ q=>⟨decide<|1<(x1.b.length:Int),som<|ifT hmj J,q.k<|s2 z z,br w0⟩)
  iterate 3 refine Nh z J ?_
  exact Rh z G (pF z J z)<|R z (pF z G z)<|Wl (λ_ q=>⟨false,som<|ifF hmj J,q.k<|s2 z z,br w0⟩)
 rintro ax L ⟨W,rfl,_,s6⟩;revert ax;refine Wo<|Wc z (λhca=>?_) (λhca=>?_)
 .refine Ws<|Ra z<|Rw z ?_
  obtain rfl:=som<|ifT hmg hca;exact Wr<|a_i hr z z ⟨s6,z,ii z⟩
 refine Wk<|Ws<|Rw z<|Wq<|Ws<|Rw z ?_
 obtain ⟨_,huy,hmk⟩:=bdS<|ifF hmg hca;refine Wf (σ:=Int) (ρ:=Int×Bool) (λ(kb:Nat)(x2:Int) a w=>Sat 50 [(0,Str.v x1),(4,vI x2),(5,vI ((kb:Nat):Int))] a/\Below L.z L w/\inI x2) (λ(x2:Int) a w=>Sat 50 [(4,vI x2)] a/\Below L.z L w/\inI x2) (rQ prog fn<|Q15 w0 B) huy ?_ ?_ ?_ ?_ ?_
 .exact λ_ q=>⟨q.k<|s3 z z z,br L,ii z⟩
 .rintro kb x2 _ O _ hkl ⟨hSz,sm,V⟩ a0;refine Wu ?_ hSz;refine Wq<|Wm z<|Rm z<|R z (lnT d_9 z)<|Rl z z z<|Wx z (λ_=>?_) (λhc=>(a_g hkl hc).elim)
  refine Wk<|Wq<|Wb<|Wq<|Wq ?_
  obtain ⟨a7,a1,hmn⟩:=bdS a0;refine Wt (λa w=>∃(xc:Bool),xc=a7/\Sat 50 [(0,Str.v x1),(4,vI x2),(5,vI ((kb:Nat):Int)),(38,vB xc)] a/\Below O.z O w) ?_ ?_
  .refine Wg<|RM z z ?_
   obtain ⟨a8,eo,hmp⟩:=bdS a1;refine R z (c_m d_9 z z (a_J eo).1 (a_J eo).2.1)<|Rl z z z<|Rm z ?_
   rcases bs (decide<|(byteI a8)<(byteI (48:UInt8))) with H | H
   .iterate 4 refine Nh z H ?_
    exact R z (pT z H z)<|Wl (λ_ q=>⟨true,som<|ifT hmp H,q.k<|s4 z z z z,br O⟩)
   refine Rh z H (mv z)<|Rh z H (mv z) ?_
   obtain ⟨a9,eq,a2⟩:=bdS<|ifF hmp H;exact Rh z H (c_m d_9 z z (a_J eq).1 (a_J eq).2.1)<|Rh z H (a_b z z)<|R z (pF z H z)<|Wl (λ_ q=>⟨decide<|(byteI (57:UInt8))<(byteI a9),som a2,q.k<|s4 z z z z,br O⟩)
  rintro aa _ ⟨xc,rfl,_,sr⟩;revert aa;refine Wo<|Wc z (λhcd=>?_) (λhcd=>?_)
  .exact Ws<|Ra z<|Rw z<|Wr<|rtO<|qL (som<|ifT hmn hcd).symm<|a_i hr z z ⟨bup (bup s6 sm) sr,z,ii z⟩
  refine Wk<|Wg<|Rm z<|R z (d_1 z z)<|RM z z ?_
  obtain ⟨ab,es,a3⟩:=bdS<|ifF hmn hcd;exact R z (c_m d_9 z z (a_J es).1 (a_J es).2.1)<|R z (l_w z z)<|R z (c_8 d_5 d_3 z)<|R z (add_ z z)<|Rw z<|Wg<|Rm z<|R z (inc_ hkl (lt_ Y O_) z z)<|Ra z<|Wl (λ_ q=>⟨h_ (a_j 10 x2)<|byteI<|mkB (byteI ab - byteI (48:UInt8)),(som a3).symm,⟨q.k<|s3 z z z,bup sm sr,iA _ _⟩⟩)
 .rintro x2 _ _ ⟨a4,ad,V⟩;refine Wu ?_ a4;refine Wq<|Wm z<|Rm z<|R z (lnT d_9 z)<|Rl z z z<|Wx z (λhc=>(a_h hc).elim) (λ_=>?_)
  exact We<|λ_ q=>⟨rfl,⟨q.k<|s1 z,ad,V⟩⟩
 .rintro x2 ae _ rfl ⟨_,st,V⟩;have hmu:=elL hmk;revert ae;refine Wo<|Wq<|Wm z<|R z (a_b z z)<|Wx z (λhce=>?_) (λhce=>?_)
  .refine Ws<|Ra z<|Rw z ?_
   obtain rfl:=som<|ifT hmu hce;exact Wr<|a_i hr z z ⟨bup s6 st,z,ii z⟩
  refine Wk<|Wm z<|Ra z<|Rw z ?_
  obtain rfl:=som<|ifF hmu hce;exact Wr<|a_i hr z z ⟨bup s6 st,z,V⟩
 rintro _ _ _ _ rfl ⟨rfl,a5⟩;have a6:=elR hmk;obtain rfl:=som a6;exact ⟨a5,z⟩
theorem W_w1u {x1:Str}{res:Bool}(hm:e_v n x1=some res)(O:B<=w0.z)(L:x1.b.length<=LEN):r_ prog 74 [Str.v x1] w0 (Q0 w0 B res):=by
 unfold e_v at hm
 refine goG func74 z z z λfn hr=>Ws<|Rw z<|Wq<|Wq ?_
 obtain ⟨ub,huc,V⟩:=bdS hm;refine Wt (λa w=>∃(x4:Bool),x4=ub/\Sat 25 [(0,Str.v x1),(18,vB x4)] a/\Below w0.z w0 w) ?_ ?_
 .refine Wg<|Rm z ?_
  obtain ⟨rd,ee,W⟩:=bdS huc;refine E z (fc call92 z<|k_N (B:=B) ee O L) ?_;rintro _ _ ⟨s3,rfl⟩;refine Rm z ?_
  rcases bs rd with G | G
  .exact Nh z G<|Nh z G<|R z (pT z G z)<|Rm z<|Nh z z<|Nh z z<|R z (pT z z z)<|Rm z<|Nh z z<|Nh z z<|R z (pT z z z)<|Wl (λ_ q=>⟨true,som<|ifT W G,q.k<|s2 z z,s3⟩)
  have Y:=ifF W G;refine Rh z G (mv z)<|Rh z G (b_7 z z)<|R z (pF z G z)<|Rm z ?_
  rcases bs (x1.b==(⟨[42]⟩:Str).b) with H | H
  .exact Nh z H<|Nh z H<|R z (pT z H z)<|Rm z<|Nh z z<|Nh z z<|R z (pT z z z)<|Wl (λ_ q=>⟨true,som<|ifT Y H,q.k<|s2 z z,s3⟩)
  have hma:=ifF Y H;refine Rh z H (mv z)<|Rh z H (b_7 z z)<|R z (pF z H z)<|Rm z ?_
  rcases bs (x1.b==(⟨[63]⟩:Str).b) with I | I
  .exact Nh z I<|Nh z I<|R z (pT z I z)<|Wl (λ_ q=>⟨true,som<|ifT hma I,q.k<|s2 z z,s3⟩)
  exact Rh z I (mv z)<|Rh z I (b_7 z z)<|R z (pF z I z)<|Wl (λ_ q=>⟨x1.b==(⟨[43]⟩:Str).b,som<|ifF hma I,q.k<|s2 z z,s3⟩)
 rintro af _ ⟨x4,rfl,_,s5⟩;revert af;refine Wo<|Wc z (λJ=>?_) (λJ=>?_)
 .refine Ws<|Rw z ?_
  obtain rfl:=som<|ifT V J;exact Wr<|k_ hr z ⟨s5,z⟩
 refine Wk<|Wm z ?_
 obtain ⟨_,_,eg,hmh⟩:=a_v<|ifF V J;refine E z (fc call93 z<|W_w1t eg (zt' O s5.s) L) ?_;rintro _ _ ⟨si,rfl,_⟩;refine Rm z<|Re z z z<|Re z z z<|Ra z<|Rw z<|Wm z<|Rw z ?_
 obtain rfl:=som hmh;exact Wr<|k_ hr z ⟨bup s5 si,z⟩
theorem W_w2p {x1:Str}{res:Bool}(hm:f_d n x1=some res)(O:B<=w0.z)(L:x1.b.length<=LEN):r_ prog 73 [Str.v x1] w0 (Q0 w0 B res):=by
 unfold f_d at hm
 refine goG func73 z z z λfn hr=>Ws<|Rw z<|Wq ?_
 obtain ⟨Y,V,W⟩:=bdS hm;refine Wt (λa w=>∃(x2:Bool),x2=Y/\Sat 13 [(2,vB x2)] a/\Below w0.z w0 w) ?_ ?_
 .refine Wg<|Rm z ?_
  obtain ⟨r9,ea,I⟩:=bdS V;refine E z (fc call74 z<|W_w1u (B:=B) ea O L) ?_;rintro _ _ ⟨s3,rfl⟩;refine Rm z ?_
  rcases bs r9 with G | G
  .exact Nh z G<|Nh z G<|R z (pT z G z)<|Rm z<|Nh z z<|Nh z z<|R z (pT z z z)<|Ra z<|Wl (λ_ q=>⟨true,som<|ifT I G,q.k<|s1 z,s3⟩)
  have J:=ifF I G;refine Rh z G (mv z)<|Rh z G (b_7 z z)<|R z (pF z G z)<|Rm z ?_
  rcases bs (x1.b==(⟨[35]⟩:Str).b) with H | H
  .exact Nh z H<|Nh z H<|R z (pT z H z)<|Ra z<|Wl (λ_ q=>⟨true,som<|ifT J H,q.k<|s1 z,s3⟩)
  exact Rh z H (mv z)<|Rh z H (b_7 z z)<|R z (pF z H z)<|Ra z<|Wl (λ_ q=>⟨x1.b==(⟨[46,46]⟩:Str).b,som<|ifF J H,q.k<|s1 z,s3⟩)
 rintro ab _ ⟨x2,rfl,_,sc⟩;revert ab;refine Wo ?_;obtain rfl:=som W;exact Wr<|k_ hr z ⟨sc,z⟩
def Q31 (w0:World)(B:Zone)(r:(List Str)×Bool)(v:Value)(w':World):Prop:=Bw w0 w'/\un2 (λJ L=>∃(G:Option Addr)(H I:Nat)(S1:List Nat),v = .tuple #[(sl G H I),(vB L)]/\a_ w' S1 (sl G H I) J/\S1.Nodup/\(∀k∈S1,w0.heap.size<=k)) r
theorem r_t {w:World}{gp b:Nat}{s:Str}{l0 parts:List Str}(hs:s.b.length<=LEN)(hm:e_t s (47:UInt8)=some l0)(hsl:slc l0 1 (l0.length:Int)=some parts)(hp:Blk w gp [Str.v s])(hb:b<w.heap.size)(hrow:∀g,c_3 w b g->g<w.heap.size) :
    SeqStopsK (α:={x:Str // x∈parts/\x.b.length<=LEN}) Fence.wide 1 Tryz.prog 121 [pt gp].toArray (λx=>#[x.1.v]) (KpS b) (λxs=>xs.map (·.1)=parts) (λ_=>True) parts.length w:=by
  intro l J Jx W hW hJ hJx hY h0;have hpW:=hp.ext hW
  have hrowW:∀g,c_3 W b g->g<W.heap.size:=λg ⟨n,c,h⟩=>by
    have h':w.cell? ⟨b,0,none⟩=some (sl (some ⟨g,0,none⟩) n c):=(World.cell?_of_block (w:=w) (w':=W) (a:=⟨b,0,none⟩)<|hW.block b hb).symm.trans h;exact Nat.lt_of_lt_of_le (hrow g ⟨n,c,h'⟩) hW.size
  have hbW:=Nat.lt_of_lt_of_le hb hW.size
  have hc:r_ Tryz.prog 121 [.func (.yield l) #[] #[],pt gp] W (λ_ W'=>(∃xs:List {x:Str // x∈parts/\x.b.length<=LEN},xs.map (·.1)=parts/\J xs W')∨(∃pre,True/\Jx pre W')):=by
    obtain ⟨fn,hf,hbd,hN,hr⟩:=fnE Tryz.func121;refine g_C hf (hbd.trans rfl) (hN.trans rfl) (Nat.le_of_ble_eq_true rfl) ?_;refine a_p<|a_S ?_;refine R rfl (b_z g_9 rfl (λh=>h)<|hpW.at rfl) ?_;refine E rfl (e_f Tryz.call122 rfl<|W_w1s (B:=W.heap.size) hm zr hs) ?_;rintro _ W1 ⟨s1,a1,n1,c1,S1,rfl,ho,nd,hge⟩;refine RX rfl (n_d N_ z_9 rfl ho rfl rfl hsl) ?_;intro v7 hv7;obtain ⟨ao7,c7,rfl,_⟩:=id hv7;refine R rfl (f_w N_ rfl<|hv7.repS (B:=W1.heap.size)<|λk hk=>ho.lt k hk) ?_;refine R rfl (b_h rfl) ?_;refine a_q<|WC.of_KC ?_;have hJ1:J [] W1:=hJ [] W W1 none h0 (Below.grows s1) (λr h=>by cases h);have hb1:b∉S1:=λh=>absurd (hge b h)<|Nat.not_le.2 hbW
    have hr1:∀g,c_3 W1 b g->g∉S1:=λg ⟨n,c,h⟩ hg=>by
      have h':W.cell? ⟨b,0,none⟩=some (sl (some ⟨g,0,none⟩) n c):=(World.cell?_of_block (w:=W) (w':=W1) (a:=⟨b,0,none⟩)<|s1.block b hbW).symm.trans h;exact absurd (hge g hg)<|Nat.not_le.2<|hrowW g ⟨n,c,h'⟩
    have hlenL:parts.length<=9223372036854775807:=Nat.le_trans (by obtain ⟨_,_,_,_,h,_⟩:=hv7;exact h) O_;refine d_f λa ha=>?_
    refine Code.wp_mono (Q:=Exit.then noK<|λex a w=>(ex = .exit 0/\b_X Tryz.prog fn (λ_ W'=>(∃xs:List {x:Str // x∈parts/\x.b.length<=LEN},xs.map (·.1)=parts/\J xs W')∨(∃pre,True/\Jx pre W')) a w)∨(ex = .ret/\b_X Tryz.prog fn (λ_ W'=>(∃xs:List {x:Str // x∈parts/\x.b.length<=LEN},xs.map (·.1)=parts/\J xs W')∨(∃pre,True/\Jx pre W')) a w)) (λex a' w' q=>?_)<|wp_loop_ghost (λm a w=>∃(k:Nat)(pre:List {x:Str // x∈parts/\x.b.length<=LEN}),k+m=parts.length/\pre.map (·.1)=parts.take k/\Sat 18 [(9,vI (k:Int)),(8,vI (parts.length:Int)),(7,sl ao7 parts.length c7),(0,.func (.yield l) #[] #[])] a/\J pre w/\a_ w S1 (sl a1 n1 c1) l0/\(∀g,c_3 w b g->g∉S1)/\d_b w (· ∈ S1) (sl ao7 parts.length c7) parts) parts.length ?_ ?_
    . cases ex with
      | normal=>exact (show False from q).elim
      | exit i =>
        rcases q with ⟨h,q⟩ | ⟨h,_⟩
        . cases h;exact q
        . cases h
      | ret =>
        rcases q with ⟨h,_⟩ | ⟨_,q⟩
        . cases h
        . exact q
      | _=>rcases q with ⟨h,_⟩ | ⟨h,_⟩ <;> cases h
    . exact ⟨0,[],by omega,by simp,ha.weaken<|sc rfl<|sc rfl<|sc rfl<|sc rfl sn,hJ1,ho,hr1,hv7⟩
    . rintro m a w ⟨k,pre,hkm,hpre,hsat,hJw,how,hrw,hvw⟩
      refine f_A (N:=18) (e:=[(9,vI (k:Int)),(8,vI (parts.length:Int)),(7,sl ao7 parts.length c7),(0,.func (.yield l) #[] #[])]) ?_ hsat;refine a_p<|a_S<|R rfl (e_N rfl rfl)<|a_q<|WC.of_KC ?_;refine a_p<|c_6 rfl (λhc=>?_)<|λhc=>?_
      . have hk:k<parts.length:=by simpa using hc
        obtain ⟨m,rfl⟩:∃m',m=m'+1:=⟨m - 1,by omega⟩;refine Z_<|WC.of_KC ?_;refine a_p<|d_f ?_;refine a_p<|a_S ?_;have hrep:=hvw.repS (B:=w.heap.size)<|λk hk=>how.lt k hk;have hidx:idx parts (k:Int)=some parts[k]:=by rw [j_E];simp [hk]
        refine RX rfl (f_x (α:=Str) N_ z_9 rfl rfl rfl hrep hidx) ?_;rintro _ ⟨bb,oo,cs,rfl,hc1,hrr,hlt⟩;obtain ⟨rfl,hxl⟩:=a_z hrr;refine R rfl (b_z g_9 rfl (λh=>h)<|hc1.at0 rfl) ?_;refine R rfl (c_L rfl) ?_;refine a_q<|WC.of_KC ?_;refine a_p<|n_8 ?_;refine e_r rfl (b_h rfl) ?_;refine e_r rfl (b_h rfl) ?_
        have hpl:pre.length=k:=by
          have:=congrArg List.length hpre
          simp at this;omega
        refine n_9 (S:=λv w'=>(v=vB true/\J (pre++[⟨parts[k],List.getElem_mem hk,hxl⟩]) w'/\KpS b w w')∨(v=vB false/\Jx (pre++[⟨parts[k],List.getElem_mem hk,hxl⟩]) w')) rfl rfl rfl (hY pre ⟨parts[k],List.getElem_mem hk,hxl⟩ w hJw (by omega)) (λe w' h=>?_) ?_
        . rcases h with ⟨rfl,h⟩ | ⟨rfl,h⟩
          . exact ⟨_,rfl,.inl ⟨rfl,h⟩⟩
          . exact ⟨_,rfl,.inr ⟨rfl,h⟩⟩
        rintro v w' (⟨rfl,hJ',hK⟩ | ⟨rfl,hX⟩)
        . refine e_r rfl (d_q rfl) ?_
          refine j_3<|WC.of_KC ?_;refine c_6 rfl (λh=>by cases h)<|λ_=>?_;refine Z_<|WC.of_KC ?_;refine a_S<|R rfl (f_v hk hlenL rfl rfl)<|R rfl (b_h rfl) ?_;obtain ⟨ho',hr'⟩:=hK.own how hb1 hrw
          have hv':d_b w' (· ∈ S1) (sl ao7 parts.length c7) parts:=hvw.stay λg hg=>hK.chg.block g (how.lt g hg) λhm=>by
            rcases hm with rfl | hm | ⟨o,ho2,hcl⟩
            . exact hb1 hg
            . exact hrw g hm hg
            . obtain ⟨cur,hB⟩:=d_z how g hg
              rw [hB.isCells ho2] at hcl;cases hcl
          refine a_q λa' ha'=>⟨m,Nat.lt_succ_self _,k+1,pre++[⟨parts[k],List.getElem_mem hk,hxl⟩],by omega,?_,ha'.weaken<|sc rfl<|sc rfl<|sc rfl<|sc rfl sn,hJ',ho',hr',hv'⟩
          rw [List.map_append,hpre,List.take_add_one,List.getElem?_eq_getElem hk];rfl
        . refine e_r rfl (d_q rfl) ?_
          refine j_3<|WC.of_KC ?_;refine c_6 rfl (λ_=>?_) (λh=>by cases h);exact c_G<|rtO λa' ha'=>.inr ⟨rfl,ret0 hr (.inr ⟨_,trivial,hX⟩) a' ha'⟩
      . have hk:¬k<parts.length:=by simpa using hc
        have:k=parts.length:=by omega
        subst this;refine f_k λa' ha'=>.inl ⟨rfl,ret0 hr (.inl ⟨pre,?_,hJw⟩) a' ha'⟩
        rw [hpre,List.take_length]
  refine callsIn_wide.2<|hc.run.mono λe w' ⟨v,he,h⟩=>⟨⟨v,he⟩,h⟩
theorem n_v {w0 W W':World}{row:Option Nat}(h:Below w0.heap.size w0 W)(hg:W.grownBy W' row)(hr:∀r,row=some r->w0.heap.size<=r):Below w0.heap.size w0 W':=c_7 h (j_4 hg) λk hk e=>absurd (hr k e)<|Nat.not_le.2 hk
def r_u (w0:World)(s:Str)(v:Value)(w':World):Prop:=v = .func (.func 121) #[] #[pt w0.heap.size]/\Blk w' w0.heap.size [Str.v s]/\Bw w0 w'
theorem r_v {w0:World}{s:Str}:r_ Tryz.prog 91 [Str.v s] w0 (r_u w0 s):=by
  obtain ⟨_,hf,hb,hN,hr⟩:=fnE Tryz.func91;refine g_C hf (hb.trans rfl) (hN.trans rfl) (Nat.le_of_ble_eq_true rfl) ?_;refine a_p<|a_S ?_;refine E rfl (e_e rfl) ?_;rintro _ G ⟨rfl,h1⟩;refine R rfl (c_L rfl) ?_;refine a_q<|WC.of_KC ?_;refine a_p<|a_S ?_;refine R rfl (j_C rfl) ?_;refine R rfl (c_L rfl) ?_;refine a_q<|WC.of_KC ?_;exact c_G<|k_ hr rfl ⟨rfl,(h1.blk:Blk G w0.heap.size [Str.v s]),h1.below⟩
theorem W_w2q {n:Nat}{B:Zone}{x1:Str}{res:(List Str)×Bool}{w0:World}(hm:j_e n x1=some res)(hBw:B<=w0.heap.size)(p1_0:x1.b.length<=LEN):r_ Tryz.prog 72 [(Str.v x1),.func (.func 73) #[] #[]] w0 (Q31 w0 B res):=by
  unfold j_e at hm
  obtain ⟨fn,hf,hb,hN,hr⟩:=fnE Tryz.func72;refine n_b hf (hb.trans rfl) (hN.trans rfl) (Nat.le_of_ble_eq_true rfl) ?_
  -- the cells
  refine a_p<|a_S ?_;refine E rfl (e_e rfl) ?_;rintro _ w1 ⟨rfl,h1⟩;have b3:Blk w1 w0.heap.size [.func (.func 73) #[] #[]]:=h1.blk;refine E rfl (d_k j_q) ?_;rintro _ w2 ⟨rfl,h2⟩;have b4:Blk w2 w1.heap.size [.slice none 0 0]:=h2.blk;refine E rfl (d_k n_q) ?_;rintro _ w3 ⟨rfl,h3⟩;have b5:Blk w3 w2.heap.size [vB false]:=h3.blk;refine a_q<|WC.of_KC ?_;refine a_p<|a_S ?_;refine E rfl (e_g (α:=Str) a_5) ?_;rintro _ w4 ⟨a,m,c,rfl,s4,ho4⟩;refine E rfl (d_k j_q) ?_;rintro _ w5 ⟨rfl,h5⟩;have b6:Blk w5 w4.heap.size [.slice none 0 0]:=h5.blk;refine E0 (b_4 (cur':=[.slice a m c]) b_U rfl rfl b6 rfl (Nat.le_of_ble_eq_true rfl) (b_c rfl) rfl) ?_;rintro _ w6 ⟨c6,s6⟩;have t6:=s6.one;refine a_q<|WC.of_KC ?_
  -- what is known behind
  have g1:=h1.below;have g2:=h2.below;have g3:=h3.below;have g5:=h5.below;have z1:=h1.size;have z2:=h2.size;have z3:=h3.size;have z5:=h5.size;have z4:=s4.size;have z6:=s6.size
  have hz:w0.heap.size<w1.heap.size/\w1.heap.size<w2.heap.size/\w2.heap.size<w3.heap.size/\w3.heap.size<w4.heap.size/\w4.heap.size<w6.heap.size:=by
    have:=ho4.lt _ List.mem_cons_self
    omega
  have k3:Blk w6 w0.heap.size [.func (.func 73) #[] #[]]:=((((b3.ext g2).ext g3).ext s4).ext g5).chg s6 (by omega);have k4:Blk w6 w1.heap.size [.slice none 0 0]:=(((b4.ext g3).ext s4).ext g5).chg s6 (by omega);have k5:Blk w6 w2.heap.size [vB false]:=((b5.ext s4).ext g5).chg s6 (by omega);have kS:a_ w6 [w3.heap.size] (sl a m c) ([]:List Str):=(ho4.ext g5).chg s6 (λk hk=>by have:=List.mem_singleton.1 hk;omega);have kB:Below w0.heap.size w0 w6:=c_k (bup (bup (bup (bup g1 g2) g3) s4) g5) t6 (λk hk=>by have:=List.mem_singleton.1 hk;omega)
  clear b3 b4 b5 b6 ho4 h1 h2 h3 h5 s4 s6 t6 g1 g2 g3 g5 z1 z2 z3 z4 z5 z6
  -- the first look
  refine a_p<|a_p<|a_S ?_;refine R rfl (b_h rfl) ?_;refine R rfl (b_7 rfl rfl) ?_;refine a_q<|WC.of_KC ?_;refine c_6 rfl (λhc=>?_)<|λhc=>?_
  . obtain rfl:=som (ifT hm hc)
    refine a_p<|a_S ?_;refine R rfl (b_z a_R rfl (λh=>h)<|c6.at rfl) ?_;refine E0 (b_4 (cur':=[.slice a m c]) b_U rfl rfl k4 rfl (Nat.le_of_ble_eq_true rfl) (b_c rfl) rfl) ?_;rintro _ w7 ⟨c7,s7⟩;refine E0 (b_4 (cur':=[vB true]) z_4 rfl rfl (k5.chg s7 (by omega)) rfl (Nat.le_of_ble_eq_true rfl) (b_c rfl) rfl) ?_;rintro _ w8 ⟨c8,s8⟩;refine a_q<|WC.of_KC ?_;refine c_G λa' ha'=>retM<|a_i hr (b_W (n:=1) a_R rfl<|c7.chg s8 (by omega)) (b_W (n:=1) g_4 rfl c8) ⟨c_k (c_k kB s7.one (λk hk=>by have:=List.mem_singleton.1 hk;omega)) s8.one (λk hk=>by have:=List.mem_singleton.1 hk;omega),?_⟩ a' ha'
    exact ⟨a,m,c,_,rfl,(kS.chg s7 (λk hk=>by have:=List.mem_singleton.1 hk;omega)).chg s8 (λk hk=>by have:=List.mem_singleton.1 hk;omega),(by simp),λk hk=>by have:=List.mem_singleton.1 hk;omega⟩
  replace hm:=ifF hm hc;refine Z_<|WC.of_KC ?_
  -- the first byte
  refine a_p<|a_p<|a_S ?_;refine R rfl (b_h rfl) ?_;obtain ⟨x13,e13,hm⟩:=bdS hm;refine R rfl (c_m d_9 rfl rfl (a_J e13).1 (a_J e13).2.1) ?_;refine R rfl (f_D rfl rfl) ?_;refine a_q<|WC.of_KC ?_;refine c_6 rfl (λhc=>?_)<|λhc=>?_
  . obtain rfl:=som (ifT hm hc)
    refine a_p<|a_S ?_;refine R rfl (b_z a_R rfl (λh=>h)<|c6.at rfl) ?_;refine E0 (b_4 (cur':=[.slice a m c]) b_U rfl rfl k4 rfl (Nat.le_of_ble_eq_true rfl) (b_c rfl) rfl) ?_;rintro _ w7 ⟨c7,s7⟩;refine E0 (b_4 (cur':=[vB false]) z_4 rfl rfl (k5.chg s7 (by omega)) rfl (Nat.le_of_ble_eq_true rfl) (b_c rfl) rfl) ?_;rintro _ w8 ⟨c8,s8⟩;refine a_q<|WC.of_KC ?_;refine c_G λa' ha'=>retM<|a_i hr (b_W (n:=1) a_R rfl<|c7.chg s8 (by omega)) (b_W (n:=1) g_4 rfl c8) ⟨c_k (c_k kB s7.one (λk hk=>by have:=List.mem_singleton.1 hk;omega)) s8.one (λk hk=>by have:=List.mem_singleton.1 hk;omega),?_⟩ a' ha'
    exact ⟨a,m,c,_,rfl,(kS.chg s7 (λk hk=>by have:=List.mem_singleton.1 hk;omega)).chg s8 (λk hk=>by have:=List.mem_singleton.1 hk;omega),(by simp),λk hk=>by have:=List.mem_singleton.1 hk;omega⟩
  replace hm:=ifF hm hc;refine Z_<|WC.of_KC ?_;obtain ⟨l0,hsp,hm⟩:=bdS hm;obtain ⟨parts,hsl,hm⟩:=bdS hm;obtain ⟨oks,hok,hm⟩:=bdS hm
  split at hm
  case isFalse=>cases hm
  rename_i hlim
  obtain rfl:=som hm;obtain ⟨hacc,hall⟩:=k_x hok
  -- the loop
  refine a_p<|a_p<|a_S ?_;refine R rfl (b_h rfl) ?_;refine E rfl (e_f Tryz.call91 rfl r_v) ?_;rintro _ w7 ⟨rfl,bp,s7⟩;refine a_q<|WC.of_KC ?_;replace k3:=k3.ext s7;replace k4:=k4.ext s7;replace k5:=k5.ext s7;replace c6:=c6.ext s7;replace kS:=kS.ext s7;replace kB:=bup kB<|s7.mono<|Nat.le_refl _;have z7:=s7.size
  have hrow:∀g,c_3 w7 w4.heap.size g->g<w7.heap.size:=λg hg=>by
    have h1:=k_w c6 hg;exact kS.lt _<|(h_0 kS).2 g 0 none h1
  generalize w1.heap.size=q4 at *
  generalize w2.heap.size=q5 at *
  generalize w4.heap.size=q6 at *
  refine n_c (α:={x:Str // x∈parts/\x.b.length<=LEN}) (f:=λx=>x.1) (gf:=121) (lb:=[pt w6.heap.size]) (b:=q6) (M:=parts.length) (S:=λxs=>xs.map (·.1)=parts) (Sp:=λ_=>True) rfl Tryz.call121 rfl rfl (by omega)
    (r_t p1_0 hsp hsl bp (by omega) hrow)
    (λpre W=>(∀x∈pre,(f_d n x.1).getD false=true)/\(∃(a:Option Addr)(m c:Nat)(S:List Nat),Blk W q6 [.slice a m c]/\a_ W S (sl a m c) (pre.map (·.1))/\S.Nodup/\(∀k∈S,q5<k/\k ≠ q6))/\Blk W w0.heap.size [.func (.func 73) #[] #[]]/\Blk W q4 [.slice none 0 0]/\Blk W q5 [vB false]/\Below w0.heap.size w0 W)
    (λpre W=>(∃x∈pre,(f_d n x.1).getD false=false)/\(∃(a:Option Addr)(m c:Nat)(S:List Nat),Blk W q4 [.slice a m c]/\a_ W S (sl a m c) ([]:List Str)/\S.Nodup/\(∀k∈S,w0.heap.size<=k))/\Blk W q5 [vB false]/\Below w0.heap.size w0 W)
    ?_ ?_ ?_ ?_ ?_ ?_
  . rintro pre W W' row ⟨h1,⟨a,m,c,S,h2,h3,h4,h5⟩,h6,h7,h8,h9⟩ hg hr
    have hr':=λr e=>(hr r e).2
    exact ⟨h1,⟨a,m,c,S,h2.grown hg hr',j_7 h3 hg hr',h4,h5⟩,h6.grown hg hr',h7.grown hg hr',h8.grown hg hr',n_v h9 hg λr e=>Nat.le_trans (by omega) (hr r e).1⟩
  . rintro pre W W' row ⟨h1,⟨a,m,c,S,h2,h3,h4,h5⟩,h8,h9⟩ hg hr
    have hr':=λr e=>(hr r e).2
    exact ⟨h1,⟨a,m,c,S,h2.grown hg hr',j_7 h3 hg hr',h4,h5⟩,h8.grown hg hr',n_v h9 hg λr e=>Nat.le_trans (by omega) (hr r e).1⟩
  . exact ⟨λx hx=>(by cases hx),⟨a,m,c,_,c6,kS,(by simp),λk hk=>by have:=List.mem_singleton.1 hk;omega⟩,k3,k4,k5,kB⟩
  . rintro l pre ⟨x,hx,hxl⟩ W ⟨h1,⟨a,m,c,S,h2,h3,h4,h5⟩,h6,h7,h8,h9⟩ hlt
    refine n_7<|f_P<|f_P<|f_O rfl (λ_ _ h=>by cases h.1) ?_;refine R rfl (b_z g_85 rfl (λh=>h)<|h6.at rfl) ?_;refine R rfl (b_h rfl) ?_;refine E rfl (j_D (caps:=[]) Tryz.call73 rfl rfl<|W_w2p (hacc x hx) zr hxl) ?_;rintro _ W1 ⟨s1,rfl⟩;refine R rfl (d_q rfl) ?_;refine a_q<|WCI.of_KC ?_;have y1:=s1.size;have hq6:=h2.lt;have hw0.heap.size:=h6.lt;have hq4:=h7.lt;have hq5:=h8.lt;refine n_4 rfl (λhc=>?_)<|λhc=>?_
    . refine f_P (f_O rfl (λ_ _ h=>by cases h.1) ?_)
      refine E rfl (e_g (α:=Str) a_5) ?_;rintro _ W2 ⟨a2,m2,c2,rfl,s2,ho2⟩;refine E0 (b_4 (cur':=[.slice a2 m2 c2]) b_U rfl rfl ((h7.ext s1).ext s2) rfl (Nat.le_of_ble_eq_true rfl) (b_c rfl) rfl) ?_;rintro _ W3 ⟨c3,s3⟩;refine E0 (b_4 (cur':=[vB false]) z_4 rfl rfl (((h8.ext s1).ext s2).chg s3 (by omega)) rfl (Nat.le_of_ble_eq_true rfl) (b_c rfl) rfl) ?_;rintro _ W4 ⟨c4,s4⟩;refine a_q<|WCI.of_KC ?_;have hW:Below W.heap.size W W2:=bup s1 s2
      have hc4:Chg (λk=>k=q4∨k=q5) W W4:=by
        have e1:Chg (λk=>k=q4∨k=q5) W W2:=(Chg.refl _ W).ext hW;refine (e1.comp s3 λk _ hk=>.inl hk).comp s4 λk _ hk=>.inr hk
      refine n_6 λ_ q=>⟨rfl,j_6 hc4 λk _ hk=>?_,⟨⟨x,hx,hxl⟩,by simp,by simpa using hc⟩,⟨a2,m2,c2,_,c3.chg s4 (by omega),(ho2.chg s3 λk hk=>by have:=List.mem_singleton.1 hk;omega).chg s4 λk hk=>by have:=List.mem_singleton.1 hk;omega,(by simp),λk hk=>by have:=List.mem_singleton.1 hk;omega⟩,c4,?_⟩
      . rcases hk with rfl | rfl
        . exact ⟨_,h7⟩
        . exact ⟨_,h8⟩
      . exact c_7 h9 hc4 λk hk hm=>by rcases hm with rfl | rfl <;> omega
    . refine n_5 (WCI.of_KC ?_)
      refine f_O rfl (λ_ _ h=>by cases h.1) ?_
      have hpsh:psh (pre.map (·.1)) x=some (pre.map (·.1)++[x]):=by
        unfold psh
        rw [if_pos (by rw [List.length_map];omega)]
      refine R rfl (b_z a_R rfl (λh=>h)<|(h2.ext s1).at rfl) ?_;refine R rfl (b_h rfl) ?_;refine E rfl (f_q [(.tmp 25)] a_5 rfl rfl rfl (L_ rfl) (Nat.le_of_ble_eq_true rfl)<|Nat.le_of_ble_eq_true rfl) ?_;rintro _ W2 ⟨rfl,hb⟩;have s2:=hb.below;have y2:=s2.size;refine E rfl (a_e (α:=Str) a_5 hpsh rfl rfl ((h3.ext s1).ext s2) h4 hb.blk (a_Z hxl) d_o v_) ?_;rintro _ W3 ⟨S',a',n',c',rfl,s3,ho3,nd3,hs3⟩;have y3:=s3.size
      have n3:∀k,k<W.heap.size->k<=q5∨k=q6->k∉S':=λk hk hq hm=>by
        rcases hs3 k hm with h | h | h
        . have:=h5 k h;omega
        . cases h
        . omega
      refine E0 (b_4 (cur':=[.slice a' n' c']) b_U rfl rfl (((h2.ext s1).ext s2).chg s3 (λhm=>(h5 _ hm).2 rfl)) rfl (Nat.le_of_ble_eq_true rfl) (b_c rfl) rfl) ?_;rintro _ W4 ⟨c4,s4⟩;have hW:Below W.heap.size W W2:=bup s1 s2
      have hc4:Chg (λk=>k=q6∨k∈S) W W4:=by
        have e1:Chg (λk=>k=q6∨k∈S) W W2:=(Chg.refl _ W).ext hW;refine (e1.comp s3 λk _ hk=>.inr hk).comp s4 λk _ hk=>.inl hk
      have ho4:a_ W4 S' (sl a' n' c') (pre.map (·.1)++[x]):=ho3.chg s4 λk hk he=>n3 q6 hq6 (.inr rfl)<|he ▸ hk
      have hs4:∀k∈S',k∈S∨W.heap.size<=k:=λk hk=>by
        rcases hs3 k hk with h | h | h
        . exact .inl h
        . cases h
        . exact .inr (by omega)
      have k4:∀k,k<=q5->¬(k=q6∨k∈S):=λk hk hm=>by
        rcases hm with rfl | hm
        . omega
        . have:=h5 k hm;omega
      refine a_q λa'' ha''=>⟨j_6 hc4 λk _ hk=>?_,KpS.of_chg h2 h3 c4 ho4 hs4 hc4,λy hy=>?_,⟨a',n',c',S',c4,by simpa using ho4,nd3,λk hk=>?_⟩,h6.chg hc4<|k4 _ (by omega),h7.chg hc4<|k4 _ (by omega),h8.chg hc4<|k4 _ (by omega),c_7 h9 hc4 λk hk hm=>k4 k (by omega) hm⟩
      . rcases hk with rfl | hk
        . exact ⟨_,h2⟩
        . exact d_z h3 k hk
      . rcases List.mem_append.1 hy with hy | hy
        . exact h1 y hy
        . obtain rfl:=List.mem_singleton.1 hy
          simpa using hc
      . rcases hs4 k hk with h | h
        . exact h5 k h
        . omega
  . rintro D xs W hD hxs ⟨h1,⟨a,m,c,S,h2,h3,h4,h5⟩,h6,h7,h8,h9⟩ hdef a0 ha0
    have hw0.heap.size:=h6.lt;have hq4:=h7.lt;have hq5:=h8.lt;refine tailD ?_ ha0;refine R rfl (b_z a_R rfl (λh=>h)<|h2.at rfl) ?_;refine E0 (b_4 (cur':=[.slice a m c]) b_U rfl rfl h7 rfl (Nat.le_of_ble_eq_true rfl) (b_c rfl) rfl) ?_;rintro _ W1 ⟨c7,s7⟩;refine E0 (b_4 (cur':=[vB true]) z_4 rfl rfl (h8.chg s7 (by omega)) rfl (Nat.le_of_ble_eq_true rfl) (b_c rfl) rfl) ?_;rintro _ W2 ⟨c8,s8⟩;have hDlt:=(Array.getElem?_eq_some_iff.1 hdef).1;have hdef2:W2.heap[D]? = some (.deferred<|some []):=((s8.block D (Nat.lt_of_lt_of_le hDlt s7.size) (by omega)).trans (s7.block D hDlt (by omega))).trans hdef
    have hDS:∀k∈S,k ≠ D:=λk hk e=>by
      obtain ⟨cur,hB⟩:=d_z h3 k hk;have:=(e ▸ hB).isCells hdef
      cases this
    have hoks:oks.all id=true:=hall.2 λy hy=>by
      rw [← hxs] at hy
      obtain ⟨z,hz,rfl⟩:=List.mem_map.1 hy;exact h1 z hz
    rw [if_pos hoks]
    refine a_q λa' ha'=>⟨ha'.defers,hdef2,?_⟩
    have hp:=j_5 W2 D<|.deferred none;obtain ⟨_,v,e1,e2⟩:=a_i (R:=Q31 w0 B (parts,true)) hr (b_W (n:=1) a_R rfl<|(c7.chg s8 (by omega)).chg hp (by omega)) (b_W (n:=1) g_4 rfl<|c8.chg hp (by omega)) ⟨c_7 (c_7 (c_7 h9 s7 λk hk e=>by omega) s8 λk hk e=>by omega) hp λk hk e=>by omega,a,m,c,S,rfl,((hxs ▸ h3).chg s7 λk hk e=>by have:=h5 k hk;omega).chg s8 (λk hk e=>by have:=h5 k hk;omega) |>.chg hp λk hk e=>hDS k hk e,h4,λk hk=>by have:=h5 k hk;omega⟩ a' ha';exact ⟨v,e1,e2⟩
  . rintro D pre W hD _ ⟨⟨⟨x,hx,hxl⟩,hxm,hxb⟩,⟨a,m,c,S,h2,h3,h4,h5⟩,h8,h9⟩ hdef a0 ha0
    have hq4:=h2.lt;have hq5:=h8.lt
    have hDS:∀k∈S,k ≠ D:=λk hk e=>by
      obtain ⟨cur,hB⟩:=d_z h3 k hk;have:=(e ▸ hB).isCells hdef
      cases this
    have hoks:¬oks.all id=true:=λh=>by
      have:=hall.1 h x hx
      rw [this] at hxb;cases hxb
    rw [if_neg hoks]
    have hp:=j_5 W D<|.deferred none;obtain ⟨_,v,e1,e2⟩:=a_i (R:=Q31 w0 B ([],false)) hr (b_W (n:=1) a_R rfl<|h2.chg hp (by omega)) (b_W (n:=1) g_4 rfl<|h8.chg hp (by omega)) ⟨c_7 h9 hp λk hk e=>by omega,a,m,c,S,rfl,h3.chg hp λk hk e=>hDS k hk e,h4,h5⟩ a0 ha0;exact retD ha0.defers hdef e1 e2
def Q32 (w0:World)(B:Zone)(r:(List Str)×Bool)(v:Value)(w':World):Prop:=Bw w0 w'/\un2 (λJ L=>∃G H I S1,v = .tuple #[sl G H I,vB L]/\a_ w' S1 (sl G H I) J/\S1.Nodup/\(∀k∈S1,w0.z<=k)) r
theorem W_w2r {x1:Str}{res:(List Str)×Bool}(hm:h_M n x1=some res)(H:B<=w0.z)(G:x1.b.length<=LEN):r_ prog 40 [Str.v x1] w0 (Q32 w0 B res):=by
 unfold h_M at hm
 refine goG func40 z z z λfn hr=>Ws<|Ra z<|Rw z<|Wm z ?_
 obtain ⟨_,_,J,I⟩:=a_v hm;refine E z (fc call72 z<|W_w2q (B:=B) J H G) ?_;rintro _ _ ⟨s2,L,O,V,W,rfl,Y,h8,h9⟩;refine Re z z z<|Re z z z<|Ra z<|Rw z ?_
 obtain rfl:=som I;exact Wr<|a_i hr z z ⟨s2,L,O,V,W,z,Y,h8,h9⟩
def Q33 (w0:World)(B:Zone)(r:(List Str)×Bool)(v:Value)(w':World):Prop:=Bw w0 w'/\un2 (λJ L=>∃(G:Option Addr)(H I:Nat)(S1:List Nat),v = .tuple #[(sl G H I),(vB L)]/\a_ w' S1 (sl G H I) J/\S1.Nodup/\(∀k∈S1,w0.heap.size<=k)) r
theorem r_w {w:World}{gp b:Nat}{s:Str}{l0 parts:List Str}(hs:s.b.length<=LEN)(hm:e_t s (47:UInt8)=some l0)(hsl:slc l0 1 (l0.length:Int)=some parts)(hp:Blk w gp [Str.v s])(hb:b<w.heap.size)(hrow:∀g,c_3 w b g->g<w.heap.size) :
    SeqStopsK (α:={x:Str // x∈parts/\x.b.length<=LEN}) Fence.wide 1 Tryz.prog 121 [pt gp].toArray (λx=>#[x.1.v]) (KpS b) (λxs=>xs.map (·.1)=parts) (λ_=>True) parts.length w:=by
  intro l J Jx W hW hJ hJx hY h0;have hpW:=hp.ext hW
  have hrowW:∀g,c_3 W b g->g<W.heap.size:=λg ⟨n,c,h⟩=>by
    have h':w.cell? ⟨b,0,none⟩=some (sl (some ⟨g,0,none⟩) n c):=(World.cell?_of_block (w:=w) (w':=W) (a:=⟨b,0,none⟩)<|hW.block b hb).symm.trans h;exact Nat.lt_of_lt_of_le (hrow g ⟨n,c,h'⟩) hW.size
  have hbW:=Nat.lt_of_lt_of_le hb hW.size
  have hc:r_ Tryz.prog 121 [.func (.yield l) #[] #[],pt gp] W (λ_ W'=>(∃xs:List {x:Str // x∈parts/\x.b.length<=LEN},xs.map (·.1)=parts/\J xs W')∨(∃pre,True/\Jx pre W')):=by
    obtain ⟨fn,hf,hbd,hN,hr⟩:=fnE Tryz.func121;refine g_C hf (hbd.trans rfl) (hN.trans rfl) (Nat.le_of_ble_eq_true rfl) ?_;refine a_p<|a_S ?_;refine R rfl (b_z g_9 rfl (λh=>h)<|hpW.at rfl) ?_;refine E rfl (e_f Tryz.call122 rfl<|W_w1s (B:=W.heap.size) hm zr hs) ?_;rintro _ W1 ⟨s1,a1,n1,c1,S1,rfl,ho,nd,hge⟩;refine RX rfl (n_d N_ z_9 rfl ho rfl rfl hsl) ?_;intro v7 hv7;obtain ⟨ao7,c7,rfl,_⟩:=id hv7;refine R rfl (f_w N_ rfl<|hv7.repS (B:=W1.heap.size)<|λk hk=>ho.lt k hk) ?_;refine R rfl (b_h rfl) ?_;refine a_q<|WC.of_KC ?_;have hJ1:J [] W1:=hJ [] W W1 none h0 (Below.grows s1) (λr h=>by cases h);have hb1:b∉S1:=λh=>absurd (hge b h)<|Nat.not_le.2 hbW
    have hr1:∀g,c_3 W1 b g->g∉S1:=λg ⟨n,c,h⟩ hg=>by
      have h':W.cell? ⟨b,0,none⟩=some (sl (some ⟨g,0,none⟩) n c):=(World.cell?_of_block (w:=W) (w':=W1) (a:=⟨b,0,none⟩)<|s1.block b hbW).symm.trans h;exact absurd (hge g hg)<|Nat.not_le.2<|hrowW g ⟨n,c,h'⟩
    have hlenL:parts.length<=9223372036854775807:=Nat.le_trans (by obtain ⟨_,_,_,_,h,_⟩:=hv7;exact h) O_;refine d_f λa ha=>?_
    refine Code.wp_mono (Q:=Exit.then noK<|λex a w=>(ex = .exit 0/\b_X Tryz.prog fn (λ_ W'=>(∃xs:List {x:Str // x∈parts/\x.b.length<=LEN},xs.map (·.1)=parts/\J xs W')∨(∃pre,True/\Jx pre W')) a w)∨(ex = .ret/\b_X Tryz.prog fn (λ_ W'=>(∃xs:List {x:Str // x∈parts/\x.b.length<=LEN},xs.map (·.1)=parts/\J xs W')∨(∃pre,True/\Jx pre W')) a w)) (λex a' w' q=>?_)<|wp_loop_ghost (λm a w=>∃(k:Nat)(pre:List {x:Str // x∈parts/\x.b.length<=LEN}),k+m=parts.length/\pre.map (·.1)=parts.take k/\Sat 18 [(9,vI (k:Int)),(8,vI (parts.length:Int)),(7,sl ao7 parts.length c7),(0,.func (.yield l) #[] #[])] a/\J pre w/\a_ w S1 (sl a1 n1 c1) l0/\(∀g,c_3 w b g->g∉S1)/\d_b w (· ∈ S1) (sl ao7 parts.length c7) parts) parts.length ?_ ?_
    . cases ex with
      | normal=>exact (show False from q).elim
      | exit i =>
        rcases q with ⟨h,q⟩ | ⟨h,_⟩
        . cases h;exact q
        . cases h
      | ret =>
        rcases q with ⟨h,_⟩ | ⟨_,q⟩
        . cases h
        . exact q
      | _=>rcases q with ⟨h,_⟩ | ⟨h,_⟩ <;> cases h
    . exact ⟨0,[],by omega,by simp,ha.weaken<|sc rfl<|sc rfl<|sc rfl<|sc rfl sn,hJ1,ho,hr1,hv7⟩
    . rintro m a w ⟨k,pre,hkm,hpre,hsat,hJw,how,hrw,hvw⟩
      refine f_A (N:=18) (e:=[(9,vI (k:Int)),(8,vI (parts.length:Int)),(7,sl ao7 parts.length c7),(0,.func (.yield l) #[] #[])]) ?_ hsat;refine a_p<|a_S<|R rfl (e_N rfl rfl)<|a_q<|WC.of_KC ?_;refine a_p<|c_6 rfl (λhc=>?_)<|λhc=>?_
      . have hk:k<parts.length:=by simpa using hc
        obtain ⟨m,rfl⟩:∃m',m=m'+1:=⟨m - 1,by omega⟩;refine Z_<|WC.of_KC ?_;refine a_p<|d_f ?_;refine a_p<|a_S ?_;have hrep:=hvw.repS (B:=w.heap.size)<|λk hk=>how.lt k hk;have hidx:idx parts (k:Int)=some parts[k]:=by rw [j_E];simp [hk]
        refine RX rfl (f_x (α:=Str) N_ z_9 rfl rfl rfl hrep hidx) ?_;rintro _ ⟨bb,oo,cs,rfl,hc1,hrr,hlt⟩;obtain ⟨rfl,hxl⟩:=a_z hrr;refine R rfl (b_z g_9 rfl (λh=>h)<|hc1.at0 rfl) ?_;refine R rfl (c_L rfl) ?_;refine a_q<|WC.of_KC ?_;refine a_p<|n_8 ?_;refine e_r rfl (b_h rfl) ?_;refine e_r rfl (b_h rfl) ?_
        have hpl:pre.length=k:=by
          have:=congrArg List.length hpre
          simp at this;omega
        refine n_9 (S:=λv w'=>(v=vB true/\J (pre++[⟨parts[k],List.getElem_mem hk,hxl⟩]) w'/\KpS b w w')∨(v=vB false/\Jx (pre++[⟨parts[k],List.getElem_mem hk,hxl⟩]) w')) rfl rfl rfl (hY pre ⟨parts[k],List.getElem_mem hk,hxl⟩ w hJw (by omega)) (λe w' h=>?_) ?_
        . rcases h with ⟨rfl,h⟩ | ⟨rfl,h⟩
          . exact ⟨_,rfl,.inl ⟨rfl,h⟩⟩
          . exact ⟨_,rfl,.inr ⟨rfl,h⟩⟩
        rintro v w' (⟨rfl,hJ',hK⟩ | ⟨rfl,hX⟩)
        . refine e_r rfl (d_q rfl) ?_
          refine j_3<|WC.of_KC ?_;refine c_6 rfl (λh=>by cases h)<|λ_=>?_;refine Z_<|WC.of_KC ?_;refine a_S<|R rfl (f_v hk hlenL rfl rfl)<|R rfl (b_h rfl) ?_;obtain ⟨ho',hr'⟩:=hK.own how hb1 hrw
          have hv':d_b w' (· ∈ S1) (sl ao7 parts.length c7) parts:=hvw.stay λg hg=>hK.chg.block g (how.lt g hg) λhm=>by
            rcases hm with rfl | hm | ⟨o,ho2,hcl⟩
            . exact hb1 hg
            . exact hrw g hm hg
            . obtain ⟨cur,hB⟩:=d_z how g hg
              rw [hB.isCells ho2] at hcl;cases hcl
          refine a_q λa' ha'=>⟨m,Nat.lt_succ_self _,k+1,pre++[⟨parts[k],List.getElem_mem hk,hxl⟩],by omega,?_,ha'.weaken<|sc rfl<|sc rfl<|sc rfl<|sc rfl sn,hJ',ho',hr',hv'⟩
          rw [List.map_append,hpre,List.take_add_one,List.getElem?_eq_getElem hk];rfl
        . refine e_r rfl (d_q rfl) ?_
          refine j_3<|WC.of_KC ?_;refine c_6 rfl (λ_=>?_) (λh=>by cases h);exact c_G<|rtO λa' ha'=>.inr ⟨rfl,ret0 hr (.inr ⟨_,trivial,hX⟩) a' ha'⟩
      . have hk:¬k<parts.length:=by simpa using hc
        have:k=parts.length:=by omega
        subst this;refine f_k λa' ha'=>.inl ⟨rfl,ret0 hr (.inl ⟨pre,?_,hJw⟩) a' ha'⟩
        rw [hpre,List.take_length]
  refine callsIn_wide.2<|hc.run.mono λe w' ⟨v,he,h⟩=>⟨⟨v,he⟩,h⟩
theorem n_w {w0 W W':World}{row:Option Nat}(h:Below w0.heap.size w0 W)(hg:W.grownBy W' row)(hr:∀r,row=some r->w0.heap.size<=r):Below w0.heap.size w0 W':=c_7 h (j_4 hg) λk hk e=>absurd (hr k e)<|Nat.not_le.2 hk
def r_x (w0:World)(s:Str)(v:Value)(w':World):Prop:=v = .func (.func 121) #[] #[pt w0.heap.size]/\Blk w' w0.heap.size [Str.v s]/\Bw w0 w'
theorem r_y {w0:World}{s:Str}:r_ Tryz.prog 91 [Str.v s] w0 (r_x w0 s):=by
  obtain ⟨_,hf,hb,hN,hr⟩:=fnE Tryz.func91;refine g_C hf (hb.trans rfl) (hN.trans rfl) (Nat.le_of_ble_eq_true rfl) ?_;refine a_p<|a_S ?_;refine E rfl (e_e rfl) ?_;rintro _ G ⟨rfl,h1⟩;refine R rfl (c_L rfl) ?_;refine a_q<|WC.of_KC ?_;refine a_p<|a_S ?_;refine R rfl (j_C rfl) ?_;refine R rfl (c_L rfl) ?_;refine a_q<|WC.of_KC ?_;exact c_G<|k_ hr rfl ⟨rfl,(h1.blk:Blk G w0.heap.size [Str.v s]),h1.below⟩
theorem W_w2s {n:Nat}{B:Zone}{x1:Str}{res:(List Str)×Bool}{w0:World}(hm:j_a n x1=some res)(hBw:B<=w0.heap.size)(p1_0:x1.b.length<=LEN):r_ Tryz.prog 72 [(Str.v x1),.func (.func 74) #[] #[]] w0 (Q33 w0 B res):=by
  unfold j_a at hm
  obtain ⟨fn,hf,hb,hN,hr⟩:=fnE Tryz.func72;refine n_b hf (hb.trans rfl) (hN.trans rfl) (Nat.le_of_ble_eq_true rfl) ?_
  -- the cells
  refine a_p<|a_S ?_;refine E rfl (e_e rfl) ?_;rintro _ w1 ⟨rfl,h1⟩;have b3:Blk w1 w0.heap.size [.func (.func 74) #[] #[]]:=h1.blk;refine E rfl (d_k j_q) ?_;rintro _ w2 ⟨rfl,h2⟩;have b4:Blk w2 w1.heap.size [.slice none 0 0]:=h2.blk;refine E rfl (d_k n_q) ?_;rintro _ w3 ⟨rfl,h3⟩;have b5:Blk w3 w2.heap.size [vB false]:=h3.blk;refine a_q<|WC.of_KC ?_;refine a_p<|a_S ?_;refine E rfl (e_g (α:=Str) a_5) ?_;rintro _ w4 ⟨a,m,c,rfl,s4,ho4⟩;refine E rfl (d_k j_q) ?_;rintro _ w5 ⟨rfl,h5⟩;have b6:Blk w5 w4.heap.size [.slice none 0 0]:=h5.blk;refine E0 (b_4 (cur':=[.slice a m c]) b_U rfl rfl b6 rfl (Nat.le_of_ble_eq_true rfl) (b_c rfl) rfl) ?_;rintro _ w6 ⟨c6,s6⟩;have t6:=s6.one;refine a_q<|WC.of_KC ?_
  -- what is known behind
  have g1:=h1.below;have g2:=h2.below;have g3:=h3.below;have g5:=h5.below;have z1:=h1.size;have z2:=h2.size;have z3:=h3.size;have z5:=h5.size;have z4:=s4.size;have z6:=s6.size
  have hz:w0.heap.size<w1.heap.size/\w1.heap.size<w2.heap.size/\w2.heap.size<w3.heap.size/\w3.heap.size<w4.heap.size/\w4.heap.size<w6.heap.size:=by
    have:=ho4.lt _ List.mem_cons_self
    omega
  have k3:Blk w6 w0.heap.size [.func (.func 74) #[] #[]]:=((((b3.ext g2).ext g3).ext s4).ext g5).chg s6 (by omega);have k4:Blk w6 w1.heap.size [.slice none 0 0]:=(((b4.ext g3).ext s4).ext g5).chg s6 (by omega);have k5:Blk w6 w2.heap.size [vB false]:=((b5.ext s4).ext g5).chg s6 (by omega);have kS:a_ w6 [w3.heap.size] (sl a m c) ([]:List Str):=(ho4.ext g5).chg s6 (λk hk=>by have:=List.mem_singleton.1 hk;omega);have kB:Below w0.heap.size w0 w6:=c_k (bup (bup (bup (bup g1 g2) g3) s4) g5) t6 (λk hk=>by have:=List.mem_singleton.1 hk;omega)
  clear b3 b4 b5 b6 ho4 h1 h2 h3 h5 s4 s6 t6 g1 g2 g3 g5 z1 z2 z3 z4 z5 z6
  -- the first look
  refine a_p<|a_p<|a_S ?_;refine R rfl (b_h rfl) ?_;refine R rfl (b_7 rfl rfl) ?_;refine a_q<|WC.of_KC ?_;refine c_6 rfl (λhc=>?_)<|λhc=>?_
  . obtain rfl:=som (ifT hm hc)
    refine a_p<|a_S ?_;refine R rfl (b_z a_R rfl (λh=>h)<|c6.at rfl) ?_;refine E0 (b_4 (cur':=[.slice a m c]) b_U rfl rfl k4 rfl (Nat.le_of_ble_eq_true rfl) (b_c rfl) rfl) ?_;rintro _ w7 ⟨c7,s7⟩;refine E0 (b_4 (cur':=[vB true]) z_4 rfl rfl (k5.chg s7 (by omega)) rfl (Nat.le_of_ble_eq_true rfl) (b_c rfl) rfl) ?_;rintro _ w8 ⟨c8,s8⟩;refine a_q<|WC.of_KC ?_;refine c_G λa' ha'=>retM<|a_i hr (b_W (n:=1) a_R rfl<|c7.chg s8 (by omega)) (b_W (n:=1) g_4 rfl c8) ⟨c_k (c_k kB s7.one (λk hk=>by have:=List.mem_singleton.1 hk;omega)) s8.one (λk hk=>by have:=List.mem_singleton.1 hk;omega),?_⟩ a' ha'
    exact ⟨a,m,c,_,rfl,(kS.chg s7 (λk hk=>by have:=List.mem_singleton.1 hk;omega)).chg s8 (λk hk=>by have:=List.mem_singleton.1 hk;omega),(by simp),λk hk=>by have:=List.mem_singleton.1 hk;omega⟩
  replace hm:=ifF hm hc;refine Z_<|WC.of_KC ?_
  -- the first byte
  refine a_p<|a_p<|a_S ?_;refine R rfl (b_h rfl) ?_;obtain ⟨x13,e13,hm⟩:=bdS hm;refine R rfl (c_m d_9 rfl rfl (a_J e13).1 (a_J e13).2.1) ?_;refine R rfl (f_D rfl rfl) ?_;refine a_q<|WC.of_KC ?_;refine c_6 rfl (λhc=>?_)<|λhc=>?_
  . obtain rfl:=som (ifT hm hc)
    refine a_p<|a_S ?_;refine R rfl (b_z a_R rfl (λh=>h)<|c6.at rfl) ?_;refine E0 (b_4 (cur':=[.slice a m c]) b_U rfl rfl k4 rfl (Nat.le_of_ble_eq_true rfl) (b_c rfl) rfl) ?_;rintro _ w7 ⟨c7,s7⟩;refine E0 (b_4 (cur':=[vB false]) z_4 rfl rfl (k5.chg s7 (by omega)) rfl (Nat.le_of_ble_eq_true rfl) (b_c rfl) rfl) ?_;rintro _ w8 ⟨c8,s8⟩;refine a_q<|WC.of_KC ?_;refine c_G λa' ha'=>retM<|a_i hr (b_W (n:=1) a_R rfl<|c7.chg s8 (by omega)) (b_W (n:=1) g_4 rfl c8) ⟨c_k (c_k kB s7.one (λk hk=>by have:=List.mem_singleton.1 hk;omega)) s8.one (λk hk=>by have:=List.mem_singleton.1 hk;omega),?_⟩ a' ha'
    exact ⟨a,m,c,_,rfl,(kS.chg s7 (λk hk=>by have:=List.mem_singleton.1 hk;omega)).chg s8 (λk hk=>by have:=List.mem_singleton.1 hk;omega),(by simp),λk hk=>by have:=List.mem_singleton.1 hk;omega⟩
  replace hm:=ifF hm hc;refine Z_<|WC.of_KC ?_;obtain ⟨l0,hsp,hm⟩:=bdS hm;obtain ⟨parts,hsl,hm⟩:=bdS hm;obtain ⟨oks,hok,hm⟩:=bdS hm
  split at hm
  case isFalse=>cases hm
  rename_i hlim
  obtain rfl:=som hm;obtain ⟨hacc,hall⟩:=k_x hok
  -- the loop
  refine a_p<|a_p<|a_S ?_;refine R rfl (b_h rfl) ?_;refine E rfl (e_f Tryz.call91 rfl r_y) ?_;rintro _ w7 ⟨rfl,bp,s7⟩;refine a_q<|WC.of_KC ?_;replace k3:=k3.ext s7;replace k4:=k4.ext s7;replace k5:=k5.ext s7;replace c6:=c6.ext s7;replace kS:=kS.ext s7;replace kB:=bup kB<|s7.mono<|Nat.le_refl _;have z7:=s7.size
  have hrow:∀g,c_3 w7 w4.heap.size g->g<w7.heap.size:=λg hg=>by
    have h1:=k_w c6 hg;exact kS.lt _<|(h_0 kS).2 g 0 none h1
  generalize w1.heap.size=q4 at *
  generalize w2.heap.size=q5 at *
  generalize w4.heap.size=q6 at *
  refine n_c (α:={x:Str // x∈parts/\x.b.length<=LEN}) (f:=λx=>x.1) (gf:=121) (lb:=[pt w6.heap.size]) (b:=q6) (M:=parts.length) (S:=λxs=>xs.map (·.1)=parts) (Sp:=λ_=>True) rfl Tryz.call121 rfl rfl (by omega)
    (r_w p1_0 hsp hsl bp (by omega) hrow)
    (λpre W=>(∀x∈pre,(e_v n x.1).getD false=true)/\(∃(a:Option Addr)(m c:Nat)(S:List Nat),Blk W q6 [.slice a m c]/\a_ W S (sl a m c) (pre.map (·.1))/\S.Nodup/\(∀k∈S,q5<k/\k ≠ q6))/\Blk W w0.heap.size [.func (.func 74) #[] #[]]/\Blk W q4 [.slice none 0 0]/\Blk W q5 [vB false]/\Below w0.heap.size w0 W)
    (λpre W=>(∃x∈pre,(e_v n x.1).getD false=false)/\(∃(a:Option Addr)(m c:Nat)(S:List Nat),Blk W q4 [.slice a m c]/\a_ W S (sl a m c) ([]:List Str)/\S.Nodup/\(∀k∈S,w0.heap.size<=k))/\Blk W q5 [vB false]/\Below w0.heap.size w0 W)
    ?_ ?_ ?_ ?_ ?_ ?_
  . rintro pre W W' row ⟨h1,⟨a,m,c,S,h2,h3,h4,h5⟩,h6,h7,h8,h9⟩ hg hr
    have hr':=λr e=>(hr r e).2
    exact ⟨h1,⟨a,m,c,S,h2.grown hg hr',j_7 h3 hg hr',h4,h5⟩,h6.grown hg hr',h7.grown hg hr',h8.grown hg hr',n_w h9 hg λr e=>Nat.le_trans (by omega) (hr r e).1⟩
  . rintro pre W W' row ⟨h1,⟨a,m,c,S,h2,h3,h4,h5⟩,h8,h9⟩ hg hr
    have hr':=λr e=>(hr r e).2
    exact ⟨h1,⟨a,m,c,S,h2.grown hg hr',j_7 h3 hg hr',h4,h5⟩,h8.grown hg hr',n_w h9 hg λr e=>Nat.le_trans (by omega) (hr r e).1⟩
  . exact ⟨λx hx=>(by cases hx),⟨a,m,c,_,c6,kS,(by simp),λk hk=>by have:=List.mem_singleton.1 hk;omega⟩,k3,k4,k5,kB⟩
  . rintro l pre ⟨x,hx,hxl⟩ W ⟨h1,⟨a,m,c,S,h2,h3,h4,h5⟩,h6,h7,h8,h9⟩ hlt
    refine n_7<|f_P<|f_P<|f_O rfl (λ_ _ h=>by cases h.1) ?_;refine R rfl (b_z g_85 rfl (λh=>h)<|h6.at rfl) ?_;refine R rfl (b_h rfl) ?_;refine E rfl (j_D (caps:=[]) Tryz.call74 rfl rfl<|W_w1u (hacc x hx) zr hxl) ?_;rintro _ W1 ⟨s1,rfl⟩;refine R rfl (d_q rfl) ?_;refine a_q<|WCI.of_KC ?_;have y1:=s1.size;have hq6:=h2.lt;have hw0.heap.size:=h6.lt;have hq4:=h7.lt;have hq5:=h8.lt;refine n_4 rfl (λhc=>?_)<|λhc=>?_
    . refine f_P (f_O rfl (λ_ _ h=>by cases h.1) ?_)
      refine E rfl (e_g (α:=Str) a_5) ?_;rintro _ W2 ⟨a2,m2,c2,rfl,s2,ho2⟩;refine E0 (b_4 (cur':=[.slice a2 m2 c2]) b_U rfl rfl ((h7.ext s1).ext s2) rfl (Nat.le_of_ble_eq_true rfl) (b_c rfl) rfl) ?_;rintro _ W3 ⟨c3,s3⟩;refine E0 (b_4 (cur':=[vB false]) z_4 rfl rfl (((h8.ext s1).ext s2).chg s3 (by omega)) rfl (Nat.le_of_ble_eq_true rfl) (b_c rfl) rfl) ?_;rintro _ W4 ⟨c4,s4⟩;refine a_q<|WCI.of_KC ?_;have hW:Below W.heap.size W W2:=bup s1 s2
      have hc4:Chg (λk=>k=q4∨k=q5) W W4:=by
        have e1:Chg (λk=>k=q4∨k=q5) W W2:=(Chg.refl _ W).ext hW;refine (e1.comp s3 λk _ hk=>.inl hk).comp s4 λk _ hk=>.inr hk
      refine n_6 λ_ q=>⟨rfl,j_6 hc4 λk _ hk=>?_,⟨⟨x,hx,hxl⟩,by simp,by simpa using hc⟩,⟨a2,m2,c2,_,c3.chg s4 (by omega),(ho2.chg s3 λk hk=>by have:=List.mem_singleton.1 hk;omega).chg s4 λk hk=>by have:=List.mem_singleton.1 hk;omega,(by simp),λk hk=>by have:=List.mem_singleton.1 hk;omega⟩,c4,?_⟩
      . rcases hk with rfl | rfl
        . exact ⟨_,h7⟩
        . exact ⟨_,h8⟩
      . exact c_7 h9 hc4 λk hk hm=>by rcases hm with rfl | rfl <;> omega
    . refine n_5 (WCI.of_KC ?_)
      refine f_O rfl (λ_ _ h=>by cases h.1) ?_
      have hpsh:psh (pre.map (·.1)) x=some (pre.map (·.1)++[x]):=by
        unfold psh
        rw [if_pos (by rw [List.length_map];omega)]
      refine R rfl (b_z a_R rfl (λh=>h)<|(h2.ext s1).at rfl) ?_;refine R rfl (b_h rfl) ?_;refine E rfl (f_q [(.tmp 25)] a_5 rfl rfl rfl (L_ rfl) (Nat.le_of_ble_eq_true rfl)<|Nat.le_of_ble_eq_true rfl) ?_;rintro _ W2 ⟨rfl,hb⟩;have s2:=hb.below;have y2:=s2.size;refine E rfl (a_e (α:=Str) a_5 hpsh rfl rfl ((h3.ext s1).ext s2) h4 hb.blk (a_Z hxl) d_o v_) ?_;rintro _ W3 ⟨S',a',n',c',rfl,s3,ho3,nd3,hs3⟩;have y3:=s3.size
      have n3:∀k,k<W.heap.size->k<=q5∨k=q6->k∉S':=λk hk hq hm=>by
        rcases hs3 k hm with h | h | h
        . have:=h5 k h;omega
        . cases h
        . omega
      refine E0 (b_4 (cur':=[.slice a' n' c']) b_U rfl rfl (((h2.ext s1).ext s2).chg s3 (λhm=>(h5 _ hm).2 rfl)) rfl (Nat.le_of_ble_eq_true rfl) (b_c rfl) rfl) ?_;rintro _ W4 ⟨c4,s4⟩;have hW:Below W.heap.size W W2:=bup s1 s2
      have hc4:Chg (λk=>k=q6∨k∈S) W W4:=by
        have e1:Chg (λk=>k=q6∨k∈S) W W2:=(Chg.refl _ W).ext hW;refine (e1.comp s3 λk _ hk=>.inr hk).comp s4 λk _ hk=>.inl hk
      have ho4:a_ W4 S' (sl a' n' c') (pre.map (·.1)++[x]):=ho3.chg s4 λk hk he=>n3 q6 hq6 (.inr rfl)<|he ▸ hk
      have hs4:∀k∈S',k∈S∨W.heap.size<=k:=λk hk=>by
        rcases hs3 k hk with h | h | h
        . exact .inl h
        . cases h
        . exact .inr (by omega)
      have k4:∀k,k<=q5->¬(k=q6∨k∈S):=λk hk hm=>by
        rcases hm with rfl | hm
        . omega
        . have:=h5 k hm;omega
      refine a_q λa'' ha''=>⟨j_6 hc4 λk _ hk=>?_,KpS.of_chg h2 h3 c4 ho4 hs4 hc4,λy hy=>?_,⟨a',n',c',S',c4,by simpa using ho4,nd3,λk hk=>?_⟩,h6.chg hc4<|k4 _ (by omega),h7.chg hc4<|k4 _ (by omega),h8.chg hc4<|k4 _ (by omega),c_7 h9 hc4 λk hk hm=>k4 k (by omega) hm⟩
      . rcases hk with rfl | hk
        . exact ⟨_,h2⟩
        . exact d_z h3 k hk
      . rcases List.mem_append.1 hy with hy | hy
        . exact h1 y hy
        . obtain rfl:=List.mem_singleton.1 hy
          simpa using hc
      . rcases hs4 k hk with h | h
        . exact h5 k h
        . omega
  . rintro D xs W hD hxs ⟨h1,⟨a,m,c,S,h2,h3,h4,h5⟩,h6,h7,h8,h9⟩ hdef a0 ha0
    have hw0.heap.size:=h6.lt;have hq4:=h7.lt;have hq5:=h8.lt;refine tailD ?_ ha0;refine R rfl (b_z a_R rfl (λh=>h)<|h2.at rfl) ?_;refine E0 (b_4 (cur':=[.slice a m c]) b_U rfl rfl h7 rfl (Nat.le_of_ble_eq_true rfl) (b_c rfl) rfl) ?_;rintro _ W1 ⟨c7,s7⟩;refine E0 (b_4 (cur':=[vB true]) z_4 rfl rfl (h8.chg s7 (by omega)) rfl (Nat.le_of_ble_eq_true rfl) (b_c rfl) rfl) ?_;rintro _ W2 ⟨c8,s8⟩;have hDlt:=(Array.getElem?_eq_some_iff.1 hdef).1;have hdef2:W2.heap[D]? = some (.deferred<|some []):=((s8.block D (Nat.lt_of_lt_of_le hDlt s7.size) (by omega)).trans (s7.block D hDlt (by omega))).trans hdef
    have hDS:∀k∈S,k ≠ D:=λk hk e=>by
      obtain ⟨cur,hB⟩:=d_z h3 k hk;have:=(e ▸ hB).isCells hdef
      cases this
    have hoks:oks.all id=true:=hall.2 λy hy=>by
      rw [← hxs] at hy
      obtain ⟨z,hz,rfl⟩:=List.mem_map.1 hy;exact h1 z hz
    rw [if_pos hoks]
    refine a_q λa' ha'=>⟨ha'.defers,hdef2,?_⟩
    have hp:=j_5 W2 D<|.deferred none;obtain ⟨_,v,e1,e2⟩:=a_i (R:=Q33 w0 B (parts,true)) hr (b_W (n:=1) a_R rfl<|(c7.chg s8 (by omega)).chg hp (by omega)) (b_W (n:=1) g_4 rfl<|c8.chg hp (by omega)) ⟨c_7 (c_7 (c_7 h9 s7 λk hk e=>by omega) s8 λk hk e=>by omega) hp λk hk e=>by omega,a,m,c,S,rfl,((hxs ▸ h3).chg s7 λk hk e=>by have:=h5 k hk;omega).chg s8 (λk hk e=>by have:=h5 k hk;omega) |>.chg hp λk hk e=>hDS k hk e,h4,λk hk=>by have:=h5 k hk;omega⟩ a' ha';exact ⟨v,e1,e2⟩
  . rintro D pre W hD _ ⟨⟨⟨x,hx,hxl⟩,hxm,hxb⟩,⟨a,m,c,S,h2,h3,h4,h5⟩,h8,h9⟩ hdef a0 ha0
    have hq4:=h2.lt;have hq5:=h8.lt
    have hDS:∀k∈S,k ≠ D:=λk hk e=>by
      obtain ⟨cur,hB⟩:=d_z h3 k hk;have:=(e ▸ hB).isCells hdef
      cases this
    have hoks:¬oks.all id=true:=λh=>by
      have:=hall.1 h x hx
      rw [this] at hxb;cases hxb
    rw [if_neg hoks]
    have hp:=j_5 W D<|.deferred none;obtain ⟨_,v,e1,e2⟩:=a_i (R:=Q33 w0 B ([],false)) hr (b_W (n:=1) a_R rfl<|h2.chg hp (by omega)) (b_W (n:=1) g_4 rfl<|h8.chg hp (by omega)) ⟨c_7 h9 hp λk hk e=>by omega,a,m,c,S,rfl,h3.chg hp λk hk e=>hDS k hk e,h4,h5⟩ a0 ha0;exact retD ha0.defers hdef e1 e2
theorem W_w2t {x1:Str}{res:(List Str)×Bool}(hm:h_j n x1=some res)(H:B<=w0.z)(G:x1.b.length<=LEN):r_ prog 41 [Str.v x1] w0 (Q32 w0 B res):=by
 unfold h_j at hm
 refine goG func41 z z z λfn hr=>Ws<|Ra z<|Rw z<|Wm z ?_
 obtain ⟨_,_,J,I⟩:=a_v hm;refine E z (fc call72 z<|W_w2s (B:=B) J H G) ?_;rintro _ _ ⟨s2,L,O,V,W,rfl,Y,h8,h9⟩;refine Re z z z<|Re z z z<|Ra z<|Rw z ?_
 obtain rfl:=som I;exact Wr<|a_i hr z z ⟨s2,L,O,V,W,z,Y,h8,h9⟩
theorem W_w2u {x1:List Str}{x2:Int}{x3:Str}{res:Bool}(hm:h_N x1 x2 x3=some res)(L:B<=w0.z)(H:repS w0 B (sl A0 N0 C0) x1)(a0:inI x2)(J:x3.b.length<=LEN):r_ prog 94 [sl A0 N0 C0,vI x2,Str.v x3] w0 (Q0 w0 B res):=by
 unfold h_N at hm
 refine goG func94 z z z λfn hr=>Ws<|Rw z<|Wq<|Wm z<|Rm z ?_
 obtain ⟨_,W,I⟩:=bdS hm;refine RX z (at_ (α:=Str) j_o z_9 z z z H W) ?_;rintro _ ⟨_,_,_,rfl,h3,h4,_⟩;obtain ⟨rfl,_⟩:=a_z h4;refine R z (l0 g_9 z<|h3.at0 z)<|R z (b_7 z z)<|Wx z (λG=>?_) (λG=>?_)
 .refine Wm z ?_
  obtain ⟨_,_,Y,O⟩:=a_v<|ifT I G;refine E z (fc call93 z<|W_w1t (B:=B) Y L J) ?_;rintro _ _ ⟨s7,rfl,_⟩;refine Rm z<|Re z z z<|Re z z z<|Ra z<|Rw z<|Wm z<|Rw z ?_
  obtain rfl:=som O;exact Wr<|k_ hr z ⟨s7,z⟩
 refine Wk<|Wm z<|Rm z ?_
 obtain ⟨_,e8,V⟩:=bdS<|ifF I G;refine RX z (at_ (α:=Str) j_o z_9 z z z H e8) ?_;rintro _ ⟨_,_,_,rfl,ha,hb,_⟩;obtain ⟨rfl,_⟩:=a_z hb;refine R z (l0 g_9 z<|ha.at0 z)<|Rm z<|R z (b_7 z z)<|Rw z ?_
 obtain rfl:=som V;exact Wr<|k_ hr z ⟨br w0,z⟩
theorem W_w2v {x1:List Str}{x2:List Str}{res:Bool}(hm:j_f x1 x2=some res)(a5:B<=w0.z)(Y:repS w0 B (sl A0 N0 C0) x1)(a0:repS w0 B (sl A5 N5 C5) x2):r_ prog 75 [sl A0 N0 C0,sl A5 N5 C5] w0 (Q0 w0 B res):=by
 unfold j_f at hm
 refine goG func75 z z z λfn hr=>Ws<|Rw z<|Wm z<|R z (lnR N_ z a0)<|R z (add_ z z) ?_
 obtain ⟨_,bg,aI⟩:=bdS hm;refine E z (g_x (α:=Bool) j_j (λ_=>b_v) bg z z) ?_;rintro _ _ ⟨bh,bi,bj,rfl,sz,an⟩;refine Rw z<|Wm z ?_
 obtain ⟨_,ao,aJ⟩:=bdS aI;refine RX z (b_I (α:=Bool) b_l z_4 z z an ao) ?_;rintro _ ⟨_,bk,rfl⟩;refine E0 (b_J (α:=Bool) z_4 z bk z z z ao an a_A b_v an_ v_) ?_;rintro _ wi ⟨Sm,a6,bm,bn,_⟩;refine Wn<|Wq<|Wm z ?_
 have a7:=(sz.ag B).c a6<|c_ (or0 (b_ lr) (o_ a5):∀k∈[w0.z],¬B k)
 refine R z (lnR j_o z<|Y.g a7)<|Rm z<|Wn ?_
 obtain ⟨_,aK,ae⟩:=bdS aJ;refine Wf (σ:=List Bool) (ρ:=Bool) (λ(k7:Nat)(xe:List Bool) a w=>∃J L O Sd,Sat 82 [(0,sl A0 N0 C0),(1,sl A5 N5 C5),(5,sl J L O),(16,vI (x1.length:Int)),(17,vI ((k7:Nat):Int))] a/\Below wi.z wi w/\a_ w Sd (sl J L O) xe/\Sd.Nodup/\(∀k∈Sd,k∈Sm∨wi.z<=k)) (λ(xe:List Bool) a w=>∃J L O Sd,Sat 82 [(1,sl A5 N5 C5),(5,sl J L O)] a/\Below wi.z wi w/\a_ w Sd (sl J L O) xe/\Sd.Nodup/\(∀k∈Sd,k∈Sm∨wi.z<=k)) (rQ prog fn<|Q0 w0 B) aK ?_ ?_ ?_ ?_ ?_
 .exact λ_ q=>⟨bh,bi,bj,Sm,q.k<|s5 z z z z z,br wi,bm,bn,io sr⟩
 .rintro k7 xe _ I _ a1 ⟨J,L,O,Sd,aL,sn,hf,a8,aa⟩ aM;refine Wu ?_ aL;refine Ws<|Rl z z z<|Wn<|Wq<|Wc z (λ_=>?_) (λhc=>(a_g a1 hc).elim)
  refine Wk<|Wq<|Wb<|Wm z<|Rw z<|Wm z ?_
  have ap:=a7.e sn;refine R z (lnR N_ z<|a0.g ap)<|R z (add_ z z) ?_
  obtain ⟨_,bo,aN⟩:=bdS aM;refine E z (g_x (α:=Bool) j_j (λ_=>b_v) bo z z) ?_;rintro _ V ⟨W,na,cb,rfl,st,bp⟩;refine Rw z<|Wq<|Wm z ?_
  have ab:=hf.e st;refine R z (lnR b_l z<|or_ ab<|a_.lt hf)<|Rm z<|Wn ?_
  obtain ⟨_,aO,af⟩:=bdS aN;refine Wf (σ:=List Bool) (ρ:=Bool) (λ(kl:Nat)(xk:List Bool) a w=>∃(G:List Nat),Sat 82 [(0,sl A0 N0 C0),(1,sl A5 N5 C5),(5,sl J L O),(6,vI ((k7:Nat):Int)),(7,sl W na cb),(16,vI (x1.length:Int)),(17,vI ((k7:Nat):Int)),(25,vI (xe.length:Int)),(26,vI ((kl:Nat):Int))] a/\Cg [I.z] V w/\a_ w G (sl W na cb) xk/\G.Nodup/\(∀k∈G,k∈[I.z]∨V.z<=k)) (λ(xk:List Bool) a w=>∃(G:List Nat),Sat 82 [(0,sl A0 N0 C0),(1,sl A5 N5 C5),(7,sl W na cb),(16,vI (x1.length:Int)),(17,vI ((k7:Nat):Int))] a/\Cg [I.z] V w/\a_ w G (sl W na cb) xk/\G.Nodup/\(∀k∈G,k∈[I.z]∨V.z<=k)) (rQ prog fn<|Q0 w0 B) aO ?_ ?_ ?_ ?_ ?_
  .exact λ_ q=>⟨[I.z],q.k<|s9 z z z z z z z z z,cr [I.z] V,bp,a_A,io sr⟩
  .rintro kl xk _ H _ ah ⟨G,aP,so,h3,hj,hu⟩ aQ;refine Wu ?_ aP;refine Ws<|Rl z z z<|Wn<|Wq<|Wc z (λ_=>?_) (λhc=>(a_g ah hc).elim)
   refine Wk<|Wq<|Wb<|Wm z<|Rw z<|Wb<|Wm z<|Rm z ?_
   obtain ⟨_,bq,aR⟩:=bdS aQ;have aq:=lt_ (lt_ sz.s a6.s) sn.s;have ar:=(ap.e st).c so<|c_ (or0 (b_ lr) (o_<|zt' a5 aq):∀k∈[I.z],¬B k)
   have au:=Y.g ar;refine RX z (at_ (α:=Str) j_o z_9 z z z au bq) ?_;rintro _ ⟨_,_,_,rfl,bt,bu,_⟩;obtain ⟨rfl,_⟩:=a_z bu;refine R z (l0 g_9 z<|bt.at0 z)<|R z (b_7 z z)<|Rw z ?_
   obtain ⟨bv,ai,aS⟩:=bdS aR;refine Wt (λa w=>∃(xv:List Bool),xv=bv/\∃(Sp:List Nat),Sat 82 [(0,sl A0 N0 C0),(1,sl A5 N5 C5),(5,sl J L O),(6,vI ((k7:Nat):Int)),(7,sl W na cb),(16,vI (x1.length:Int)),(17,vI ((k7:Nat):Int)),(25,vI (xe.length:Int)),(26,vI ((kl:Nat):Int))] a/\Cg G H w/\a_ w Sp (sl W na cb) xv/\Sp.Nodup/\(∀k∈Sp,k∈G∨H.z<=k)) ?_ ?_
   .refine Wc z (λa2=>?_)<|λa2=>?_
    .obtain ⟨bw,aT,aU⟩:=bdS<|ifT ai a2;refine Wt (λa w=>∃(xw:List Bool),xw=bw/\∃(Sq:List Nat),Sat 82 [(0,sl A0 N0 C0),(1,sl A5 N5 C5),(5,sl J L O),(6,vI ((k7:Nat):Int)),(7,sl W na cb),(16,vI (x1.length:Int)),(17,vI ((k7:Nat):Int)),(25,vI (xe.length:Int)),(26,vI ((kl:Nat):Int))] a/\Cg G H w/\a_ w Sq (sl W na cb) xw/\Sq.Nodup/\(∀k∈Sq,k∈G∨H.z<=k)) ?_ ?_
     .refine Wg<|RM z z<|RM z z ?_
      obtain ⟨bx,bz,aj⟩:=bdS aT;refine RX z (at_ (α:=Bool) b_l z_4 z z z (or_ (ab.c so<|ds<|mnr<|a_.lt hf)<|a_.lt hf) bz) ?_;rintro _ ⟨_,_,_,rfl,bA,bB,_⟩;obtain rfl:=d_I bB;refine R z (l0 g_4 z<|bA.at0 z)<|Rm z ?_
      rcases bs bx with hcc | hcc
      .iterate 3 refine Nh z hcc ?_
       refine Nv z<|Nv z<|Nv z<|Nv z<|Nv z<|Nh z hcc<|R z (pT z hcc z) ?_
       obtain ⟨bC,av,aV⟩:=bdS<|ifT aj hcc;refine RX z (b_I (α:=Bool) b_l z_4 z z h3 av) ?_;rintro _ ⟨_,bD,rfl⟩;refine E0 (b_J (α:=Bool) z_4 z bD z z z av h3 hj b_v an_ v_) ?_;rintro _ bE ⟨aw,bF,bG,bH,bI⟩;refine Wl ?_;exact λ_ q=>⟨bC,som aV,aw,q.k<|s9 z z z z z z z z z,(cM (cr G H) bF (io sr):Cg G H bE),bG,bH,(or2 bI (io sr) an_ (j_ lr):∀k∈aw,k∈G∨H.z<=k)⟩
      have ak:=ifF aj hcc;refine Rh z hcc (mv z)<|Rh z hcc (a_b z z)<|Rh z hcc (mv z) ?_
      rcases bs (decide<|0<((kl:Nat):Int)) with hcg | hcg
      .refine Rh z hcg (mv z)<|Rh z hcg (mv z)<|Rh z hcg (sb_ z z) ?_
       obtain ⟨_,bJ,aW⟩:=bdS<|ifT ak hcg;refine RXg z z hcg z (at_ (α:=Bool) b_l z_4 z z z (a_.rep h3) bJ) ?_;rintro _ ⟨_,_,_,rfl,bK,bL,_⟩;obtain rfl:=d_I bL;refine Rh z hcg (l0 g_4 z<|bK.at0 z)<|Rh z hcc (pT z hcg z)<|R z (pF z hcc z) ?_
       obtain ⟨bN,ax,aX⟩:=bdS aW;refine RX z (b_I (α:=Bool) b_l z_4 z z h3 ax) ?_;rintro _ ⟨_,bO,rfl⟩;refine E0 (b_J (α:=Bool) z_4 z bO z z z ax h3 hj b_v an_ v_) ?_;rintro _ bP ⟨ay,bQ,bR,bS,bT⟩;refine Wl ?_;exact λ_ q=>⟨bN,som aX,ay,q.k<|s9 z z z z z z z z z,(cM (cr G H) bQ (io sr):Cg G H bP),bR,bS,(or2 bT (io sr) an_ (j_ lr):∀k∈ay,k∈G∨H.z<=k)⟩
      iterate 5 refine Nh z hcg ?_
      refine Rh z hcc (pF z hcg z)<|R z (pF z hcc z) ?_
      obtain ⟨bU,az,aY⟩:=bdS<|ifF ak hcg;refine RX z (b_I (α:=Bool) b_l z_4 z z h3 az) ?_;rintro _ ⟨_,bV,rfl⟩;refine E0 (b_J (α:=Bool) z_4 z bV z z z az h3 hj b_v an_ v_) ?_;rintro _ bW ⟨aA,bX,bY,bZ,c0⟩;refine Wl ?_;exact λ_ q=>⟨bU,som aY,aA,q.k<|s9 z z z z z z z z z,(cM (cr G H) bX (io sr):Cg G H bW),bY,bZ,(or2 c0 (io sr) an_ (j_ lr):∀k∈aA,k∈G∨H.z<=k)⟩
     rintro c1 c2 ⟨xw,rfl,Sq,_,c3,c4,c5,c7⟩;revert c1;exact λ_ q=>⟨xw,som aU,Sq,q.k<|s9 z z z z z z z z z,(cM (cr G H) c3 (io sr):Cg G H c2),c4,c5,(or1 c7 (io sr) (j_ lr):∀k∈Sq,k∈G∨H.z<=k)⟩
    refine Wm z<|R z (a_b z z)<|Rw z ?_
    obtain ⟨c8,al,aZ⟩:=bdS<|ifF ai a2;refine Wt (λa w=>∃(xx:List Bool),xx=c8/\∃(Sr:List Nat),Sat 82 [(0,sl A0 N0 C0),(1,sl A5 N5 C5),(5,sl J L O),(6,vI ((k7:Nat):Int)),(7,sl W na cb),(16,vI (x1.length:Int)),(17,vI ((k7:Nat):Int)),(25,vI (xe.length:Int)),(26,vI ((kl:Nat):Int))] a/\Cg G H w/\a_ w Sr (sl W na cb) xx/\Sr.Nodup/\(∀k∈Sr,k∈G∨H.z<=k)) ?_ ?_
    .refine Wc z (λa3=>?_)<|λa3=>?_
     .obtain ⟨c9,b0,b1⟩:=bdS<|ifT al a3;refine Wt (λa w=>∃(xy:List Bool),xy=c9/\∃(Ss:List Nat),Sat 82 [(0,sl A0 N0 C0),(1,sl A5 N5 C5),(5,sl J L O),(6,vI ((k7:Nat):Int)),(7,sl W na cb),(16,vI (x1.length:Int)),(17,vI ((k7:Nat):Int)),(25,vI (xe.length:Int)),(26,vI ((kl:Nat):Int))] a/\Cg G H w/\a_ w Ss (sl W na cb) xy/\Ss.Nodup/\(∀k∈Ss,k∈G∨H.z<=k)) ?_ ?_
      .refine Wg<|RM z z<|RM z z<|R z (sb_ z z) ?_
       obtain ⟨ca,cc,am⟩:=bdS b0;refine RX z (at_ (α:=Bool) b_l z_4 z z z (or_ (ab.c so<|ds<|mnr<|a_.lt hf)<|a_.lt hf) cc) ?_;rintro _ ⟨_,_,_,rfl,cd,ce,_⟩;obtain rfl:=d_I ce;refine R z (l0 g_4 z<|cd.at0 z)<|Rm z ?_
       rcases bs ca with hch | hch
       .iterate 4 refine Rh z hch (mv z) ?_
        refine Rh z hch (sb_ z z) ?_;obtain ⟨_,cf,b2⟩:=bdS<|ifT am hch;refine RXg z z hch z (at_ (α:=Str) N_ z_9 z z z (a0.g ar) cf) ?_;rintro _ ⟨_,_,_,rfl,cg,ch,_⟩;obtain ⟨rfl,ci⟩:=a_z ch;refine Rh z hch (l0 g_9 z<|cg.at0 z) ?_;obtain ⟨_,cj,b3⟩:=bdS b2;refine Eg z z hch z (fc call94 z<|W_w2u cj (zt' a5<|lt_ (lt_ aq st.s) so.s) au (ic (Nat.le_of_lt a1)<|lt_ (repS.len Y) O_) ci) ?_;rintro _ ck ⟨ad,rfl⟩;refine R z (pT z hch z) ?_;obtain ⟨cl,aB,b4⟩:=bdS b3;have aC:=h3.e ad;refine RX z (b_I (α:=Bool) b_l z_4 z z aC aB) ?_;rintro _ ⟨_,cm,rfl⟩;refine E0 (b_J (α:=Bool) z_4 z cm z z z aB aC hj b_v an_ v_) ?_;rintro _ cn ⟨aD,co,cp,cq,ct⟩;refine Wl ?_;exact λ_ q=>⟨cl,som b4,aD,q.k<|s9 z z z z z z z z z,(cM (e_ (cr G H) ad:Cg G H ck) co (io sr):Cg G H cn),cp,cq,(or2 ct (io sr) an_ (j_ ad.s):∀k∈aD,k∈G∨H.z<=k)⟩
       iterate 8 refine Nh z hch ?_
       refine R z (pF z hch z) ?_;obtain ⟨cu,aE,b5⟩:=bdS<|ifF am hch;refine RX z (b_I (α:=Bool) b_l z_4 z z h3 aE) ?_;rintro _ ⟨_,cv,rfl⟩;refine E0 (b_J (α:=Bool) z_4 z cv z z z aE h3 hj b_v an_ v_) ?_;rintro _ cw ⟨aF,cx,cy,cz,cA⟩;refine Wl ?_;exact λ_ q=>⟨cu,som b5,aF,q.k<|s9 z z z z z z z z z,(cM (cr G H) cx (io sr):Cg G H cw),cy,cz,(or2 cA (io sr) an_ (j_ lr):∀k∈aF,k∈G∨H.z<=k)⟩
      rintro cB cC ⟨xy,rfl,Ss,_,cD,cE,cF,cG⟩;revert cB;exact λ_ q=>⟨xy,som b1,Ss,q.k<|s9 z z z z z z z z z,(cM (cr G H) cD (io sr):Cg G H cC),cE,cF,(or1 cG (io sr) (j_ lr):∀k∈Ss,k∈G∨H.z<=k)⟩
     exact Z_<|λ_ q=>⟨xk,som<|ifF al a3,G,q.k<|s9 z z z z z z z z z,cr G H,h3,hj,io sr⟩
    rintro cH cI ⟨xx,rfl,Sr,_,cJ,cK,cL,cN⟩;revert cH;exact λ_ q=>⟨xx,som aZ,Sr,q.k<|s9 z z z z z z z z z,(cM (cr G H) cJ (io sr):Cg G H cI),cK,cL,(or1 cN (io sr) (j_ lr):∀k∈Sr,k∈G∨H.z<=k)⟩
   rintro cO cP ⟨xv,rfl,Sp,_,cQ,cR,cS,cT⟩;revert cO;refine Wo<|Wg<|R z (inc_ ah (lt_ (a_.len hf) O_) z z)<|Rm z<|Wl ?_
   have aG:∀k∈G,k∈[I.z]∨V.z<=k:=or1 hu (io sr)<|j_ lr;exact λ_ q=>⟨xv,(som aS).symm,⟨Sp,q.k<|s9 z z z z z z z z z,(cM (cM (cr [I.z] V) so (io sr):Cg [I.z] V H) cQ aG:Cg [I.z] V cP),cR,cS,(or1 cT aG (j_ so.s):∀k∈Sp,k∈[I.z]∨V.z<=k)⟩⟩
  .rintro xk _ cU ⟨G,b6,cV,h3,hj,hu⟩;refine Wu ?_ b6;refine Ws<|Rl z z z<|Wn<|Wq<|Wc z (λhc=>(a_h hc).elim) (λ_=>?_)
   exact We<|λ_ q=>⟨rfl,⟨G,q.k<|s5 z z z z z,(cM (cr [I.z] V) cV (io sr):Cg [I.z] V cU),h3,hj,(or1 hu (io sr) (j_ lr):∀k∈G,k∈[I.z]∨V.z<=k)⟩⟩
  .rintro xk cW _ rfl ⟨G,_,cX,h3,hj,hu⟩;have b7:=elL af;revert cW;refine Wo<|Wg<|Rm z<|Rw z<|Wg<|R z (inc_ a1 (lt_ (repS.len Y) O_) z z)<|Rm z<|Wl ?_
   exact λ_ q=>⟨xk,(som b7).symm,⟨W,na,cb,G,q.k<|s5 z z z z z,bM (bup sn st) cX<|m1 sn.s,h3,hj,(or1 hu (mor sn.s:∀k∈[I.z],k∈Sm∨wi.z<=k) (j_<|lt_ sn.s st.s):∀k∈G,k∈Sm∨wi.z<=k)⟩⟩
  rintro _ _ _ _ rfl ⟨rfl,b8⟩;have b9:=elR af;exact ⟨inbR<|j_I (som b9).symm ⟨rfl,b8⟩,z⟩
 .rintro xe _ _ ⟨J,L,O,Sd,ba,cY,hf,a8,aa⟩;refine Wu ?_ ba;refine Ws<|Rl z z z<|Wn<|Wq<|Wc z (λhc=>(a_h hc).elim) (λ_=>?_)
  exact We<|λ_ q=>⟨rfl,⟨J,L,O,Sd,q.k<|s2 z z,cY,hf,a8,(or1 aa (io sr) (j_ lr):∀k∈Sd,k∈Sm∨wi.z<=k)⟩⟩
 .rintro xe cZ _ rfl ⟨J,L,O,Sd,_,aH,hf,a8,aa⟩;have bb:=elL ae;revert cZ;refine Wo<|Wm z<|Rm z<|R z (lnR N_ z<|a0.g<|a7.e aH) ?_
  obtain ⟨_,d0,bc⟩:=bdS bb;refine RX z (at_ (α:=Bool) b_l z_4 z z z (a_.rep hf) d0) ?_;rintro _ ⟨_,_,_,rfl,d1,d2,_⟩;obtain rfl:=d_I d2;refine R z (l0 g_4 z<|d1.at0 z)<|Rw z ?_
  obtain rfl:=som bc;exact Wr<|k_ hr z ⟨bup (bM sz a6<|b_ lr) aH,z⟩
 rintro _ _ _ _ rfl ⟨rfl,be⟩;have bf:=elR ae;obtain rfl:=som bf;exact ⟨be,z⟩
theorem W_w2w {x1:List Str}{x2:List Str}{res:Bool}(hm:h_O x1 x2=some res)(I:B<=w0.z)(G:repS w0 B (sl A0 N0 C0) x1)(H:repS w0 B (sl A5 N5 C5) x2):r_ prog 42 [sl A0 N0 C0,sl A5 N5 C5] w0 (Q0 w0 B res):=by
 unfold h_O at hm
 refine goG func42 z z z λfn hr=>Ws<|Rw z<|Wm z<|Rm z ?_
 obtain ⟨_,L,J⟩:=bdS hm;refine E z (fc call75 z<|W_w2v (B:=B) L I G H) ?_;rintro _ _ ⟨s2,rfl⟩;refine Rw z ?_
 obtain rfl:=som J;exact Wr<|k_ hr z ⟨s2,z⟩
theorem W_w2x {x1:Str}{x2:Str}{res:Bool}(hm:h_P n x1 x2=some res)(J:B<=w0.z)(V:x1.b.length<=LEN)(W:x2.b.length<=LEN):r_ prog 17 [Str.v x1,Str.v x2] w0 (Q0 w0 B res):=by
 unfold h_P at hm
 refine goG func17 z z z λfn hr=>Ws<|Rw z<|Wm z ?_
 obtain ⟨_,Y,ea,hmb⟩:=a_v hm;refine E z (fc call40 z<|W_w2r (B:=B) ea J V) ?_;rintro _ _ ⟨s5,_,_,_,_,rfl,h6,_,_⟩;refine Rm z<|Re z z z<|Re z z z<|Ra z<|Rw z<|Wm z ?_
 obtain ⟨_,rc,ed,hme⟩:=a_v hmb;refine E z (fc call41 z<|W_w2t ed (zt' J s5.s) W) ?_;rintro _ I ⟨s3,_,_,_,_,rfl,hf,_,_⟩;refine Rm z<|Re z z z<|Re z z z<|Ra z<|Rw z<|Wq ?_
 obtain ⟨ug,L,hmh⟩:=bdS hme;refine Wt (λa w=>∃(x4:Bool),x4=ug/\Sat 28 [(4,vB x4)] a/\Below I.z I w) ?_ ?_
 .refine Wg<|RM z z ?_
  rcases bs Y with H | H
  .have O:=ifT L H;refine Rh z H (mv z)<|R z (pT z H z)<|Rm z ?_
   rcases bs rc with G | G
   .refine Rh z G (mv z)<|Rh z G (mv z) ?_
    obtain ⟨ri,ej,hmk⟩:=bdS<|ifT O G;refine Eg z z G z (fc call42 z<|W_w2w (B:=I.z) ej zr (repS.mono (or_ (h6.e s3)<|a_.lt h6)<|b_g s3.s)<|a_.rep hf) ?_;rintro _ _ ⟨sl,rfl⟩;exact R z (pT z G z)<|Ra z<|Wl (λ_ q=>⟨ri,som hmk,q.k<|s1 z,sl⟩)
   iterate 3 refine Nh z G ?_
   exact R z (pF z G z)<|Ra z<|Wl (λ_ q=>⟨false,som<|ifF O G,q.k<|s1 z,br I⟩)
  exact Nh z H<|R z (pF z H z)<|Rm z<|Nh z z<|Nh z z<|Nh z z<|R z (pF z z z)<|Ra z<|Wl (λ_ q=>⟨false,som<|ifF L H,q.k<|s1 z,br I⟩)
 rintro am _ ⟨x4,rfl,_,sn⟩;revert am;refine Wo ?_;obtain rfl:=som hmh;exact Wr<|k_ hr z ⟨bup (bup s5 s3) sn,z⟩
theorem W_w2y {x1:s_}{x2:Str}{G I:Nat}{res:Bool}(hm:j_g n x1 x2=some res)(O:B<=w0.z)(J:x1.path.b.length<=LEN)(a0:inI x1.rule)(a1:inI x1.start)(a2:inI x1.end_)(L:x2.b.length<=LEN)(V:X_ w0 G I [Str.v x2])(a3:B G):r_ prog 16 [(.agg #[Str.v x1.path,vI x1.rule,vI x1.start,vI x1.end_]),(.pointer<|some ⟨G,I,none⟩)] w0 (Q0 w0 B res):=by
 unfold j_g at hm
 refine goG func16 z z z λfn hr=>Ws<|E z (fb z) ?_
 rintro _ Y ⟨rfl,h1⟩;have H:=h1.below;refine Rw z<|Ws<|R z (l0 g_9 z<|(V.e H).at0 z)<|Rf z k_z z<|R z (l0 g_9 z<|(h1.blk:Blk Y w0.z [Str.v x1.path,vI x1.rule,vI x1.start,vI x1.end_]).at z) ?_
 obtain ⟨_,e4,W⟩:=bdS hm;refine E z (fc call17 z<|W_w2x e4 (zt' O H.s) L J) ?_;rintro _ _ ⟨s6,rfl⟩;refine Rw z ?_
 obtain rfl:=som W;exact Wr<|k_ hr z ⟨bup H s6,z⟩
def Q34 (w0:World)(B:Zone)(r:(List s_))(v:Value)(w':World):Prop:=Bw w0 w'/\(λJ=>∃G H I S1,(sl G H I)=v/\a_ w' S1 (sl G H I) J/\S1.Nodup/\(∀k∈S1,w0.z<=k)) r
theorem W_w2z {x1:List s_}{a2:Str}{Y a0:Nat}{res:(List s_)}(hm:j_h n x1 a2=some res)(a5:B<=w0.z)(a4:repS w0 B (sl A0 N0 C0) x1)(p2c0_0:a2.b.length<=LEN)(ab:X_ w0 Y a0 [Str.v a2])(a1:B Y):r_ prog 15 [sl A0 N0 C0,(.func (.func 16) #[] #[(.pointer<|some ⟨Y,a0,none⟩)])] w0 (Q34 w0 B res):=by
 unfold j_h at hm
 refine goG func15 z z z λfn hr=>Ws<|Rw z<|Ws<|E z (f0 (α:=s_) d_C) ?_
 rintro _ H ⟨aq,ar,au,rfl,s9,av⟩;refine Rw z<|Wq<|Wm z<|R z (lnR b_V z<|a4.e s9)<|Rm z<|Wn ?_
 obtain ⟨_,ad,hms⟩:=bdS hm;refine Wf (σ:=List s_) (ρ:=List s_) (λ(km:Nat)(W:List s_) a w=>∃I J L G,Sat 24 [(1,.func (.func 16) #[] #[(.pointer<|some ⟨Y,a0,none⟩)]),(5,sl I J L),(9,sl A0 N0 C0),(10,vI (x1.length:Int)),(11,vI ((km:Nat):Int))] a/\Cg [w0.z] H w/\a_ w G (sl I J L) W/\G.Nodup/\(∀k∈G,k∈[w0.z]∨H.z<=k)) (λ(W:List s_) a w=>∃I J L G,Sat 24 [(5,sl I J L)] a/\Cg [w0.z] H w/\a_ w G (sl I J L) W/\G.Nodup/\(∀k∈G,k∈[w0.z]∨H.z<=k)) (rQ prog fn<|Q34 w0 B) ad ?_ ?_ ?_ ?_ ?_
 .exact λ_ q=>⟨aq,ar,au,[w0.z],q.k<|s5 z z z z z,cr [w0.z] H,av,a_A,io sr⟩
 .rintro km W _ wh _ hkv ⟨I,J,L,G,ae,sa,V,hb,hf⟩ af;refine Wu ?_ ae;refine Ws<|Rl z z z<|Wn<|Wq<|Wc z (λ_=>?_) (λhc=>(a_g hkv hc).elim)
  refine Wk<|Wq<|Wb<|Ws ?_
  obtain ⟨x2,aw,ah⟩:=bdS af;have hw:∀k∈[w0.z],¬B k:=or0 (b_ lr)<|o_ a5;refine RX z (at_ (α:=s_) b_V b_e z z z (a4.g<|(s9.ag B).c sa<|c_ hw) aw) ?_;rintro _ ⟨_,_,_,rfl,ax,ay,_⟩;obtain ⟨rfl,hn,ho,hp,hq⟩:=e_L ay;refine R z (lN (vs:=[Str.v x2.path,vI x2.rule,vI x2.start,vI x2.end_]) d_B b_e z z fid ax)<|E z (fa j_p) ?_
  rintro _ wx ⟨rfl,hy⟩;have hd:=hy.below;refine E0 (fs0 (cur':=[Str.v x2.path,vI x2.rule,vI x2.start,vI x2.end_]) b_e z z (hy.blk:Blk wx wh.z [(Str.v (⟨[]⟩:Str)),vI 0,vI 0,vI 0]) z z z z) ?_;rintro _ az ⟨hz,aA⟩;have he:=aA.one;refine Wn<|Wm z<|R z (lN (vs:=[Str.v x2.path,vI x2.rule,vI x2.start,vI x2.end_]) d_B b_e z z fid<|hz.row 0 4 z) ?_
  have a7:=lt_ s9.s sa.s;obtain ⟨_,aB,ai⟩:=bdS ah;refine E z (j_D call16 z z<|W_w2y aB (zt' a5<|lt_ (lt_ a7 hd.s) he.s) hn ho hp hq p2c0_0 ((((ab.e s9).c sa<|(c_ hw) _ a1).e hd).c he<|(c_ (or0 (b_ lr) (o_<|zt' a5 a7):∀k∈[wh.z],¬B k)) _ a1) a1) ?_;rintro _ O ⟨sg,rfl⟩;refine Wn ?_;obtain ⟨aC,a6,ak⟩:=bdS ai;refine Wt (λa w=>∃(xi:List s_),xi=aC/\∃aj nk cl Sc,Sat 24 [(1,.func (.func 16) #[] #[(.pointer<|some ⟨Y,a0,none⟩)]),(5,sl aj nk cl),(9,sl A0 N0 C0),(10,vI (x1.length:Int)),(11,vI ((km:Nat):Int))] a/\Cg G O w/\a_ w Sc (sl aj nk cl) xi/\Sc.Nodup/\(∀k∈Sc,k∈G∨O.z<=k)) ?_ ?_
  .refine Wc z (λhcr=>?_)<|λhcr=>?_
   .refine Wg<|Rm z<|R z (lN (vs:=[Str.v x2.path,vI x2.rule,vI x2.start,vI x2.end_]) d_B b_e z z fid<|(hz.e sg).row 0 4 z)<|E z (fS [(.tmp 19)] d_C z z z (L_ z) (lb z)<|lb z) ?_
    rintro _ a8 ⟨rfl,ht⟩;have hu:=ht.below;have aX:=a_6 ht<|f_n (x:=x2) hn ho hp hq
    obtain ⟨aD,aE,al⟩:=bdS<|ifT a6 hcr;refine E z (a_e (α:=s_) d_C aE z z ((((V.e hd).c he<|ds<|mnr<|a_.lt V).e sg).e hu) hb (ht.blk:Blk a8 O.z [Str.v x2.path,vI x2.rule,vI x2.start,vI x2.end_]) (f_n (x:=x2) hn ho hp hq) an_ v_) ?_;rintro _ aF ⟨a9,aG,aH,aI,rfl,aJ,aK,aL,aM⟩;refine Ra z<|Wl ?_
    exact λ_ q=>⟨aD,som al,aG,aH,aI,a9,q.k<|s5 z z z z z,(cM (e_ (cr G O) hu:Cg G O a8) aJ (io sr):Cg G O aF),aK,aL,(or2 aM (io sr) an_ (j_ hu.s):∀k∈a9,k∈G∨O.z<=k)⟩
   exact Z_<|λ_ q=>⟨W,som<|ifF a6 hcr,I,J,L,G,q.k<|s5 z z z z z,cr G O,((V.e hd).c he<|ds<|mnr<|a_.lt V).e sg,hb,io sr⟩
  rintro aN aO ⟨xi,rfl,aj,nk,cl,Sc,_,aP,aQ,aR,aS⟩;revert aN;refine Wo<|Wg<|R z (inc_ hkv (lt_ (repS.len a4) O_) z z)<|Rm z<|Wl ?_
  have aa:∀k∈G,k∈[w0.z]∨H.z<=k:=or1 hf (io sr)<|j_ lr;exact λ_ q=>⟨xi,(som ak).symm,⟨aj,nk,cl,Sc,q.k<|s5 z z z z z,(cM (e_ (cM (e_ (cM (cr [w0.z] H) sa (io sr):Cg [w0.z] H wh) hd:Cg [w0.z] H wx) he (mor sa.s:∀k∈[wh.z],k∈[w0.z]∨H.z<=k):Cg [w0.z] H az) sg:Cg [w0.z] H O) aP aa:Cg [w0.z] H aO),aQ,aR,(or1 aS aa (j_<|lt_ (lt_ (lt_ sa.s hd.s) he.s) sg.s):∀k∈Sc,k∈[w0.z]∨H.z<=k)⟩⟩
 .rintro W _ aT ⟨I,J,L,G,am,aU,V,hb,hf⟩;refine Wu ?_ am;refine Ws<|Rl z z z<|Wn<|Wq<|Wc z (λhc=>(a_h hc).elim) (λ_=>?_)
  exact We<|λ_ q=>⟨rfl,⟨I,J,L,G,q.k<|s1 z,(cM (cr [w0.z] H) aU (io sr):Cg [w0.z] H aT),V,hb,(or1 hf (io sr) (j_ lr):∀k∈G,k∈[w0.z]∨H.z<=k)⟩⟩
 .rintro W aV _ rfl ⟨I,J,L,G,_,aW,V,hb,hf⟩;have an:=elL hms;revert aV;refine Wo<|Wm z<|Rw z ?_
  obtain rfl:=som an;exact Wr<|k_ hr z ⟨bM s9 aW<|b_ lr,I,J,L,G,z,V,hb,(or1 hf (b_ lr) (b_f s9.s):∀k∈G,w0.z<=k)⟩
 rintro _ _ _ _ rfl ⟨rfl,ao⟩;have ap:=elR hms;obtain rfl:=som ap;exact ⟨ao,z⟩
theorem l_4 {x1:g_}{x2:Bt}{x3:Str}{res:(List s_)}(hm:f_e n x1 x2 x3=some res)(a0:B<=w0.z)(hG:Gl w0 B)(V:repS w0 B (sl A0 N0 C0) x1.rules)(W:repS w0 B (sl A5 N5 C5) x2)(Y:x3.b.length<=LEN):r_ prog 6 [(.agg #[sl A0 N0 C0]),sl A5 N5 C5,Str.v x3] w0 (Q34 w0 B res):=by
 unfold f_e at hm
 refine goG func6 z z z λfn hr=>Ws<|E z (fb z) ?_
 rintro _ I ⟨rfl,h6⟩;have h2:=h6.below;refine E z (fb z) ?_;rintro _ wd ⟨rfl,J⟩;have G:=J.below;have L:Blk wd I.z [Str.v x3]:=J.blk;refine Rw z<|Ws<|R z (lN (vs:=[sl A0 N0 C0]) B_ z_ z z fid<|((h6.blk:Blk I w0.z [sl A0 N0 C0]).e G).row 0 1 z)<|Rm z ?_
 have O:=(h2.ag B).e G;have h3:=lt_ h2.s G.s;obtain ⟨_,_,ee,hma⟩:=a_v hm;refine E z (fc call14 z<|W_w2o ee (zt' a0 h3) ((hG.e h2).e G) (V.g O)<|W.g O) ?_;rintro _ wb ⟨s1,_,_,_,_,rfl,hf,_,_⟩;refine Rm z<|Re z z z<|Re z z z<|Ra z<|Rw z<|Wq<|Wm z<|R z (not_ z)<|Wx z (λH=>?_) (λH=>?_)
 .refine Ws<|E z (f0 (α:=s_) d_C) ?_
  rintro _ _ ⟨ah,ng,ci,rfl,sj,hk⟩;refine Rw z ?_
  obtain rfl:=som<|ifT hma H;exact Wr<|k_ hr z ⟨bup (bup (bup h2 G) s1) sj,ah,ng,ci,[wb.z],z,hk,a_A,m1<|lt_ h3 s1.s⟩
 refine Wk<|Wm z<|R z (j_C z) ?_
 obtain ⟨_,el,hmm⟩:=bdS<|ifF hma H;refine E z (fc call15 z<|W_w2z (B:=wb.z) el zr (a_.rep hf) Y ((L.e s1).row 0 1 z)<|zap' (b_g s1.s) L.lt) ?_;rintro _ _ ⟨sn,ao,np,cq,Sr,rfl,ht,hu,hv⟩;refine Rw z ?_
 obtain rfl:=som hmm;exact Wr<|k_ hr z ⟨bup (bup (bup h2 G) s1) sn,ao,np,cq,Sr,z,ht,hu,q_ hv<|lt_ h3 s1.s⟩
theorem j_v {x1:g_}{res:Int}(hm:f_3 x1=some res)(J:B<=w0.z)(H:repS w0 B (sl A0 N0 C0) x1.rules):r_ prog 20 [(.agg #[sl A0 N0 C0])] w0 (Q9 w0 B res):=by
 unfold f_3 at hm
 refine goG func20 z z z λfn hr=>Ws<|E z (fb z) ?_
 rintro _ I ⟨rfl,G⟩;have h1:=G.below;refine Rw z<|Ws<|Rf z R_ z<|R z (l0 S_ z<|(G.blk:Blk I w0.z [sl A0 N0 C0]).at z)<|R z (lnR K_ z<|H.e h1)<|R z (sb_ z z)<|Rw z ?_
 obtain rfl:=som hm;exact Wr<|k_ hr z ⟨h1,z,iS _ _⟩
end Go.Vw
