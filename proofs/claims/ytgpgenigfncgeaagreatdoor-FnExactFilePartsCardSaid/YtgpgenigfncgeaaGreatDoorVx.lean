
import Derived.Test.YtgpgenigfncgeaaGreatDoorVw
set_option linter.unusedVariables false
namespace Go.Vw
open Go.RowKit Dat Go.Proofs
open Go.Proofs.Tryz
open Go.Vw renaming a_i->Wq,a_J->Wg,WC.of_KC->Wo,a_k->Wl,c_e->Wc,c_N->Wr,g_l->Wu,k_h->pT,k_i->pF,h_H->fd,b_J->l1,k_t->lN,b_g->mv,c_Z->asg,g_e->lnR,f_t->lss,h_M->eql,h_I->ext_,k_j->bP,h_J->add_,g_c->inc_,d_W->not_,g_f->at_,e_F->fc,a_V->fs,e_E->fb,d_J->fa,k_b->sr,k_f->cr,k_g->cM,c_s->bM,k_4->iS,k_3->iA,k_6->br,b_6->oA,k_7->bs,ltge->lg,inor->io,g_o->nq,k_v->lnT,k_w->sb_,k_9->ar_,k_8->al_,k_a->ds,l_a->m1,k_d->nr_,k_c->nl_,h_v->aa_,all_nil->an_,d_h->Wb,h_u->u8,j_E->pD,f_X->We,k_5->Wt,f_Y->fS,f_j->or_,k_r->Wf,k_o->qL,j_D->Wd,h_x->fN,h_w->na_,k_e->nj,e_M->f0,g_g->rX,k_k->tl_,k_l->ic
variable {A0:Option Addr}{N0 C0:Nat}{B:Zone}{w0:World}{A9:Option Addr}{A8:Option Addr}{AA:Option Addr}{AB:Option Addr}{N9 C9:Nat}{N8 C8:Nat}{NA CA:Nat}{NB CB:Nat}{A1:Option Addr}{N1 C1:Nat}{n:Nat}{AD:Option Addr}{ND CD:Nat}{A4:Option Addr}{N4 C4:Nat}{AH:Option Addr}{NH CH:Nat}{A3:Option Addr}{A5:Option Addr}{A2:Option Addr}{A6:Option Addr}{N3 C3:Nat}{N5 C5:Nat}{N2 C2:Nat}{N6 C6:Nat}{A7:Option Addr}{N7 C7:Nat}{AE:Option Addr}{NE CE:Nat}{AK:Option Addr}{AL:Option Addr}{NK CK:Nat}{NL CL:Nat}{AC:Option Addr}{NC CC:Nat}
abbrev f_n (n:Nat):Prop:=m_3 (a_g n).impl_fileReader_value/\m_4 (a_g n).impl_fileReader_array/\m_5 (a_g n).impl_fileReader_items/\m_6 (a_g n).impl_fileReader_choice/\m_7 (a_g n).impl_fileReader_option/\m_8 (a_g n).impl_fileReader_checked
theorem T_w01 (ih:f_n n):m_3 (i_G n<|a_g n):=by
 obtain ⟨_,d5,d6,d7,d8,d9⟩:=ih
 constructor
 intro A0 A1 N0 C0 N1 C1 b1 o1 B x1 x2 x3 res w0 hm H L O hC1 hC1b cS I;unfold i_G at hm
 refine goG func132 z z z λfn hr=>Ws<|E z (fa a_q) ?_
 rintro _ J ⟨rfl,bh⟩;have h2:=bh.below;have h3:Blk J w0.z [vI 0,sN,sN]:=bh.blk;refine Ra z<|Rw z<|Wm z<|R z (a_8 z)<|Rf z n_I z<|Rf z a_s z ?_
 have h5:=hC1.e h2;refine R z (l0 a_u z<|h5.at (j:=0) z)<|Rm z ?_
 obtain ⟨W,da,b5⟩:=bdS hm;refine RX z (at_ (α:=d_) a_2 t_ z z z (L.e h2) da) ?_;rintro _ ⟨_,_,_,rfl,db,dc,_⟩;obtain ⟨aa,nb,cc,ad,ne,cf,ah,ng,ci,aj,nk,cl,rfl,hq,ht,ho,hp,hu,hv,hn⟩:=b_3 dc;refine R z (lN (vs:=vR W aa nb cc ad ne cf ah ng ci aj nk cl) Q_ t_ z z fid db)<|E z (fa c_q) ?_
 rintro _ dd ⟨rfl,bi⟩;have G:=bi.below;refine E0 (fs0 (cur':=vR W aa nb cc ad ne cf ah ng ci aj nk cl) t_ z z (bi.blk:Blk dd J.z [(Str.v (⟨[]⟩:Str)),vI 0,vI 0,vB false,sN,sN,sN,sN]) z z z z) ?_;rintro _ _ ⟨V,de⟩;have h1:=de.one;refine Wn<|Wq<|Ws<|Rf z a_O z<|R z (l0 g_3 z<|V.at z)<|Wn<|Wb<|Ws<|Rq z z z<|Rw z<|Wc z (λhcr=>?_) (λhcr=>?_)
 .refine Wm z<|RM z z ?_
  have bj:∀k∈[J.z],¬B k:=or0 (e_ lr)<|n_<|zt' H h2.s;have bk:=((h2.ag B).e G).c h1<|g_ bj
  have bm:=lt_ (lt_ h2.s G.s) h1.s;obtain ⟨bn,_,_,df,cT⟩:=U_<|ifT b5 hcr;refine E z (fc call157 z<|j_Z df (zt' H bm) (L.g bk) (O.g bk) ((h5.e G).c h1<|(g_ bj) _ hC1b) hC1b cS I) ?_;rintro _ _ ⟨bo,dg,dh,rfl,di,dj,dk,bp⟩;refine Rm z ?_
  iterate 3 refine Re z z z ?_
  refine RA z z<|Rw z<|Wm z<|R z (bP (parts:=[(0,.tmp 41)]) (cs:=[vI bn,sN,sN]) a_6 z z)<|RM z z<|E0 (fs0 (cur':=[vI bn,sN,sN]) m_ z z (((h3.e G).c h1<|djs<|mmr h3.lt).e bo) z z z z) ?_
  rintro _ _ ⟨dl,dm⟩;have bq:=dm.one;refine Ra z<|Rw z ?_
  obtain rfl:=som cT;exact Wr<|rtO<|x_ hr (q_ C_ m_ z dl z) z z ⟨bM (bup (bM (bup h2 G) h1<|m1 h2.s) bo) bq<|e_ lr,none,0,0,[],none,0,0,[],dg,dh,z,di,onL,onL,dj,dk.c bq<|s_ bp h3.lt<|lt_ G.s h1.s,o_ bp bm,nd0,al0⟩
 have b6:=ifF b5 hcr;refine Ws<|Rq z z z<|Rw z<|Wc z (λhcs=>?_) (λhcs=>?_)
 .refine Wm z<|R z (lN (vs:=vR W aa nb cc ad ne cf ah ng ci aj nk cl) Q_ t_ z z fid<|V.row 0 8 z)<|Rm z ?_
  have aC:∀k∈[J.z],¬B k:=or0 (e_ lr)<|n_<|zt' H h2.s;have br:=((h2.ag B).e G).c h1<|g_ aC
  have hw:=(G.ag B).c h1<|g_ aC
  have bs:=lt_ (lt_ h2.s G.s) h1.s;obtain ⟨_,_,dn,cU⟩:=Y_<|ifT b6 hcs;refine E z (fc call158 z<|W_w41 dn (zt' H bs) (L.g br) (O.g br) ((h5.e G).c h1<|(g_ aC) _ hC1b) hC1b hq ht ho (hp.g hw) (hu.g hw) (hv.g hw) (hn.g hw) I) ?_;rintro _ _ ⟨bt,dp,dq,rfl,dr,ds,bu⟩;refine Rm z<|Re z z z<|Re z z z<|Ra z<|Rw z<|Ws<|R z (bP (parts:=[]) (cs:=[vI 0,sN,sN]) a_6 z z)<|RM z z<|E0 (fs0 (cur':=[vI 0,sN,sN]) m_ z z (((h3.e G).c h1<|djs<|mmr h3.lt).e bt) z z z z) ?_
  rintro _ _ ⟨dt,du⟩;have bv:=du.one;refine Ra z<|Rw z ?_
  obtain rfl:=som cU;exact Wr<|rtO<|x_ hr (q_ C_ m_ z dt z) z z ⟨bM (bup (bM (bup h2 G) h1<|m1 h2.s) bt) bv<|e_ lr,none,0,0,[],none,0,0,[],dp,dq,z,ii z,onL,onL,dr,ds.c bv<|s_ bu h3.lt<|lt_ G.s h1.s,o_ bu bs,nd0,al0⟩
 have b7:=ifF b6 hcs;refine Ws<|Rq z z z<|Rw z<|Wc z (λar=>?_) (λar=>?_)
 .refine Wm z<|Rm z<|Rf z b_1 z<|R z (l0 g_3 z<|V.at z) ?_
  have bw:∀k∈[J.z],¬B k:=or0 (e_ lr)<|n_<|zt' H h2.s;have bx:=((h2.ag B).e G).c h1<|g_ bw
  have hx:=lt_ (lt_ h2.s G.s) h1.s;obtain ⟨dv,_,_,dw,cV⟩:=U_<|ifT b7 ar;refine E z (fc call159 z<|W_w1o dw (zt' H hx) (L.g bx) (O.g bx) ((h5.e G).c h1<|(g_ bw) _ hC1b) hC1b I ho) ?_;rintro _ _ ⟨bz,bA,bB,bC,dx,bD,bE,bF,dy,dz,dA,rfl,dB,dC,dD,dF,dG,bG,aD,hy⟩
  iterate 3 refine Re z z z ?_
  refine E0 (fs0 (cur':=[vI dv.number,sl bA bB bC,sl bD bE bF]) m_ z z (((h3.e G).c h1<|djs<|mmr h3.lt).e bz) z z z z) ?_;rintro _ _ ⟨dH,dI⟩;have hz:=dI.one;refine Ra z<|Rw z ?_
  obtain rfl:=som cV;have aE:=lt_ G.s h1.s;exact Wr<|rtO<|x_ hr (q_ C_ m_ z dH z) z z ⟨bM (bup (bM (bup h2 G) h1<|m1 h2.s) bz) hz<|e_ lr,bA,bB,bC,dx,bD,bE,bF,dy,dz,dA,z,dB,dC.c hz<|s_ (al_ hy) h3.lt aE,dD.c hz<|s_ (ar_ hy) h3.lt aE,dF,dG.c hz<|s_ bG h3.lt aE,o_ bG hx,na_ (nl_ aD) (nr_ aD)<|nj aD,aa_ (o_ (al_ hy) hx)<|o_ (ar_ hy) hx⟩
 have b8:=ifF b7 ar;refine Ws<|Rq z z z<|Rw z<|Wc z (λau=>?_) (λau=>?_)
 .refine Wm z<|Rf z a_1 z<|R z (l0 H_ z<|V.at z) ?_
  obtain ⟨_,dJ,cW⟩:=bdS<|ifT b8 au;have aF:∀k∈[J.z],¬B k:=or0 (e_ lr)<|n_<|zt' H h2.s;refine RX z (at_ (α:=Int) y_ z_3 z z z (hn.g<|(G.ag B).c h1<|g_ aF) dJ) ?_;rintro _ ⟨_,_,_,rfl,dK,dL,_⟩;obtain ⟨rfl,dN⟩:=V_ dL;refine R z (l0 g_3 z<|dK.at0 z)<|Rm z ?_
  have bH:=(h5.e G).c h1<|(g_ aF) _ hC1b
  have aG:=((h2.ag B).e G).c h1<|g_ aF
  have aH:=lt_ (lt_ h2.s G.s) h1.s;obtain ⟨_,_,_,dO,b9⟩:=U_ cW;refine E z (fc call157 z<|j_Z dO (zt' H aH) (L.g aG) (O.g aG) bH hC1b dN I) ?_;rintro _ _ ⟨s8,dP,dS,rfl,dT,dU,bI,bJ⟩;refine Rm z ?_
  iterate 3 refine Re z z z ?_
  refine RA z z<|Rw z<|Wq<|Wm z<|R z (e_p e_i z z bI)<|Wx z (λav=>?_) (λav=>?_)
  .refine Ws<|R z (bP (parts:=[]) (cs:=[vI 0,sN,sN]) a_6 z z)<|RM z z<|E0 (fs0 (cur':=[vI 0,sN,sN]) m_ z z (((h3.e G).c h1<|djs<|mmr h3.lt).e s8) z z z z) ?_
   rintro _ _ ⟨dV,dW⟩;have bK:=dW.one;refine Ra z<|Rw z ?_
   obtain rfl:=som<|ifT b9 av;exact Wr<|rtO<|x_ hr (q_ C_ m_ z dV z) z z ⟨bM (bup (bM (bup h2 G) h1<|m1 h2.s) s8) bK<|e_ lr,none,0,0,[],none,0,0,[],dP,dS,z,ii z,onL,onL,I,bI.c bK<|s_ bJ h3.lt<|lt_ G.s h1.s,o_ bJ aH,nd0,al0⟩
  refine Wk<|Wm z<|RM z z ?_
  have bL:=aG.e s8;have Y:=lt_ aH s8.s;obtain ⟨dX,_,_,dY,cX⟩:=U_<|ifF b9 av;refine E z (fc call159 z<|W_w1o dY (zt' H Y) (L.g bL) (O.g bL) (bH.e s8) hC1b dU dT) ?_;rintro _ _ ⟨bN,bO,bQ,bR,dZ,bS,bT,bU,e0,e1,e2,rfl,e3,e4,e5,e6,e7,bV,aI,a0⟩
  iterate 3 refine Re z z z ?_
  refine E0 (fs0 (cur':=[vI dX.number,sl bO bQ bR,sl bS bT bU]) m_ z z ((((h3.e G).c h1<|djs<|mmr h3.lt).e s8).e bN) z z z z) ?_;rintro _ _ ⟨e8,e9⟩;have a1:=e9.one;refine Ra z<|Rw z ?_
  obtain rfl:=som cX;have aJ:=lt_ (lt_ G.s h1.s) s8.s;exact Wr<|rtO<|x_ hr (q_ C_ m_ z e8 z) z z ⟨bM (bup (bup (bM (bup h2 G) h1<|m1 h2.s) s8) bN) a1<|e_ lr,bO,bQ,bR,dZ,bS,bT,bU,e0,e1,e2,z,e3,e4.c a1<|s_ (al_ a0) h3.lt aJ,e5.c a1<|s_ (ar_ a0) h3.lt aJ,e6,e7.c a1<|s_ bV h3.lt aJ,o_ bV Y,na_ (nl_ aI) (nr_ aI)<|nj aI,aa_ (o_ (al_ a0) Y)<|o_ (ar_ a0) Y⟩
 have ba:=ifF b8 au;refine Ws<|Rq z z z<|Rw z<|Wc z (λaw=>?_) (λaw=>?_)
 .refine Wm z<|R z (lN (vs:=vR W aa nb cc ad ne cf ah ng ci aj nk cl) Q_ t_ z z fid<|V.row 0 8 z)<|Rm z ?_
  have aK:∀k∈[J.z],¬B k:=or0 (e_ lr)<|n_<|zt' H h2.s;have bW:=((h2.ag B).e G).c h1<|g_ aK
  have a2:=(G.ag B).c h1<|g_ aK
  have a3:=lt_ (lt_ h2.s G.s) h1.s;obtain ⟨ea,_,_,eb,cY⟩:=U_<|ifT ba aw;refine E z (fc call160 z<|d5.run eb (zt' H a3) (L.g bW) (O.g bW) ((h5.e G).c h1<|(g_ aK) _ hC1b) hC1b hq ht ho (hp.g a2) (hu.g a2) (hv.g a2) (hn.g a2) I) ?_;rintro _ _ ⟨bX,bY,bZ,c0,ec,c1,c2,c3,ed,ee,ef,rfl,eg,eh,ei,ej,ek,c4,aL,a4⟩
  iterate 3 refine Re z z z ?_
  refine E0 (fs0 (cur':=[vI ea.number,sl bY bZ c0,sl c1 c2 c3]) m_ z z (((h3.e G).c h1<|djs<|mmr h3.lt).e bX) z z z z) ?_;rintro _ _ ⟨em,en⟩;have a5:=en.one;refine Ra z<|Rw z ?_
  obtain rfl:=som cY;have aM:=lt_ G.s h1.s;exact Wr<|rtO<|x_ hr (q_ C_ m_ z em z) z z ⟨bM (bup (bM (bup h2 G) h1<|m1 h2.s) bX) a5<|e_ lr,bY,bZ,c0,ec,c1,c2,c3,ed,ee,ef,z,eg,eh.c a5<|s_ (al_ a4) h3.lt aM,ei.c a5<|s_ (ar_ a4) h3.lt aM,ej,ek.c a5<|s_ c4 h3.lt aM,o_ c4 a3,na_ (nl_ aL) (nr_ aL)<|nj aL,aa_ (o_ (al_ a4) a3)<|o_ (ar_ a4) a3⟩
 have bb:=ifF ba aw;refine Ws<|Rq z z z<|Rw z<|Wc z (λax=>?_) (λax=>?_)
 .refine Wm z<|R z (bP (parts:=[]) (cs:=[vI 0,sN,sN]) a_6 z z)<|Rf z a_1 z<|R z (l0 H_ z<|V.at z)<|Rm z ?_
  have aN:∀k∈[J.z],¬B k:=or0 (e_ lr)<|n_<|zt' H h2.s;have c5:=((h2.ag B).e G).c h1<|g_ aN
  have a6:=lt_ (lt_ h2.s G.s) h1.s;obtain ⟨eo,_,_,ep,cZ⟩:=U_<|ifT bb ax;refine E z (fc call161 z<|d6.run (B:=B) (x2:=(⟨0,([]:Bt),([]:List Val)⟩:Val)) ep (zt' H a6) (L.g c5) (O.g c5) ((h5.e G).c h1<|(g_ aN) _ hC1b) hC1b (ii z) onL G_ an_ onL G_ an_ an_ (hn.g<|(G.ag B).c h1<|g_ aN) I) ?_;rintro _ _ ⟨c6,c7,c8,c9,ca,cb,cd,ce,cg,er,es,rfl,eu,ew,ex,ey,ez,ch,aO,a7⟩
  iterate 3 refine Re z z z ?_
  refine E0 (fs0 (cur':=[vI eo.number,sl c7 c8 c9,sl cb cd ce]) m_ z z (((h3.e G).c h1<|djs<|mmr h3.lt).c c6<|atp<|nmA (nmN _)<|nmN _) z z z z) ?_;rintro _ _ ⟨eA,eB⟩;have a8:=eB.one;refine Ra z<|Rw z ?_
  obtain rfl:=som cZ;have aP:=lt_ G.s h1.s;exact Wr<|rtO<|x_ hr (q_ C_ m_ z eA z) z z ⟨bM (bM (bM (bup h2 G) h1<|m1 h2.s) c6 al0) a8<|e_ lr,c7,c8,c9,ca,cb,cd,ce,cg,er,es,z,eu,ew.c a8 (or1 (al_ a7) al0 (a_P (e_ h3.lt) aP):∀k∈ca,k∉[w0.z]),ex.c a8 (or1 (ar_ a7) al0 (a_P (e_ h3.lt) aP):∀k∈cg,k∉[w0.z]),ey,ez.c a8<|s_ ch h3.lt aP,o_ ch a6,na_ (nl_ aO) (nr_ aO)<|nj aO,aa_ (b_2 (al_ a7) al0 a6)<|b_2 (ar_ a7) al0 a6⟩
 have bc:=ifF bb ax;refine Ws<|Rq z z z<|Rw z<|Wc z (λay=>?_) (λay=>?_)
 .refine Wm z<|R z (lN (vs:=vR W aa nb cc ad ne cf ah ng ci aj nk cl) Q_ t_ z z fid<|V.row 0 8 z)<|Rm z ?_
  have aQ:∀k∈[J.z],¬B k:=or0 (e_ lr)<|n_<|zt' H h2.s;have cj:=((h2.ag B).e G).c h1<|g_ aQ
  have a9:=(G.ag B).c h1<|g_ aQ
  have ab:=lt_ (lt_ h2.s G.s) h1.s;obtain ⟨eC,_,_,eD,d0⟩:=U_<|ifT bc ay;refine E z (fc call162 z<|d7.run eD (zt' H ab) (L.g cj) (O.g cj) ((h5.e G).c h1<|(g_ aQ) _ hC1b) hC1b hq ht ho (hp.g a9) (hu.g a9) (hv.g a9) (hn.g a9) I) ?_;rintro _ _ ⟨ck,cm,cn,co,eE,cp,cq,cr,eF,eG,eH,rfl,eI,eJ,eK,eL,eM,ct,aR,ae⟩
  iterate 3 refine Re z z z ?_
  refine E0 (fs0 (cur':=[vI eC.number,sl cm cn co,sl cp cq cr]) m_ z z (((h3.e G).c h1<|djs<|mmr h3.lt).e ck) z z z z) ?_;rintro _ _ ⟨eN,eO⟩;have af:=eO.one;refine Ra z<|Rw z ?_
  obtain rfl:=som d0;have aS:=lt_ G.s h1.s;exact Wr<|rtO<|x_ hr (q_ C_ m_ z eN z) z z ⟨bM (bup (bM (bup h2 G) h1<|m1 h2.s) ck) af<|e_ lr,cm,cn,co,eE,cp,cq,cr,eF,eG,eH,z,eI,eJ.c af<|s_ (al_ ae) h3.lt aS,eK.c af<|s_ (ar_ ae) h3.lt aS,eL,eM.c af<|s_ ct h3.lt aS,o_ ct ab,na_ (nl_ aR) (nr_ aR)<|nj aR,aa_ (o_ (al_ ae) ab)<|o_ (ar_ ae) ab⟩
 have be:=ifF bc ay;refine Ws<|Rq z z z<|Rw z<|Wc z (λaz=>?_) (λaz=>?_)
 .refine Wm z<|R z (lN (vs:=vR W aa nb cc ad ne cf ah ng ci aj nk cl) Q_ t_ z z fid<|V.row 0 8 z)<|Rm z ?_
  have aT:∀k∈[J.z],¬B k:=or0 (e_ lr)<|n_<|zt' H h2.s;have cu:=((h2.ag B).e G).c h1<|g_ aT
  have ai:=(G.ag B).c h1<|g_ aT
  have ak:=lt_ (lt_ h2.s G.s) h1.s;obtain ⟨eP,_,_,eQ,d1⟩:=U_<|ifT be az;refine E z (fc call163 z<|d8.run eQ (zt' H ak) (L.g cu) (O.g cu) ((h5.e G).c h1<|(g_ aT) _ hC1b) hC1b hq ht ho (hp.g ai) (hu.g ai) (hv.g ai) (hn.g ai) I) ?_;rintro _ _ ⟨cv,cw,cx,cy,eR,cz,cA,cB,eS,eT,eU,rfl,eV,eW,eX,eY,eZ,cC,aU,al⟩
  iterate 3 refine Re z z z ?_
  refine E0 (fs0 (cur':=[vI eP.number,sl cw cx cy,sl cz cA cB]) m_ z z (((h3.e G).c h1<|djs<|mmr h3.lt).e cv) z z z z) ?_;rintro _ _ ⟨f0,f1⟩;have am:=f1.one;refine Ra z<|Rw z ?_
  obtain rfl:=som d1;have aV:=lt_ G.s h1.s;exact Wr<|rtO<|x_ hr (q_ C_ m_ z f0 z) z z ⟨bM (bup (bM (bup h2 G) h1<|m1 h2.s) cv) am<|e_ lr,cw,cx,cy,eR,cz,cA,cB,eS,eT,eU,z,eV,eW.c am<|s_ (al_ al) h3.lt aV,eX.c am<|s_ (ar_ al) h3.lt aV,eY,eZ.c am<|s_ cC h3.lt aV,o_ cC ak,na_ (nl_ aU) (nr_ aU)<|nj aU,aa_ (o_ (al_ al) ak)<|o_ (ar_ al) ak⟩
 have bf:=ifF be az;refine Ws<|Rq z z z<|Rw z<|Wc z (λaA=>?_) (λaA=>?_)
 .refine Wm z<|R z (lN (vs:=vR W aa nb cc ad ne cf ah ng ci aj nk cl) Q_ t_ z z fid<|V.row 0 8 z)<|Rm z ?_
  have aW:∀k∈[J.z],¬B k:=or0 (e_ lr)<|n_<|zt' H h2.s;have cD:=((h2.ag B).e G).c h1<|g_ aW
  have an:=(G.ag B).c h1<|g_ aW
  have ao:=lt_ (lt_ h2.s G.s) h1.s;obtain ⟨f2,_,_,f3,d2⟩:=U_<|ifT bf aA;refine E z (fc call164 z<|d9.run f3 (zt' H ao) (L.g cD) (O.g cD) ((h5.e G).c h1<|(g_ aW) _ hC1b) hC1b hq ht ho (hp.g an) (hu.g an) (hv.g an) (hn.g an) I) ?_;rintro _ _ ⟨cE,cF,cG,cH,f4,cI,cJ,cK,f5,f6,f7,rfl,f8,f9,fb,fe,ff,cL,aX,ap⟩
  iterate 3 refine Re z z z ?_
  refine E0 (fs0 (cur':=[vI f2.number,sl cF cG cH,sl cI cJ cK]) m_ z z (((h3.e G).c h1<|djs<|mmr h3.lt).e cE) z z z z) ?_;rintro _ _ ⟨fg,fh⟩;have aq:=fh.one;refine Ra z<|Rw z ?_
  obtain rfl:=som d2;have aY:=lt_ G.s h1.s;exact Wr<|rtO<|x_ hr (q_ C_ m_ z fg z) z z ⟨bM (bup (bM (bup h2 G) h1<|m1 h2.s) cE) aq<|e_ lr,cF,cG,cH,f4,cI,cJ,cK,f5,f6,f7,z,f8,f9.c aq<|s_ (al_ ap) h3.lt aY,fb.c aq<|s_ (ar_ ap) h3.lt aY,fe,ff.c aq<|s_ cL h3.lt aY,o_ cL ao,na_ (nl_ aX) (nr_ aX)<|nj aX,aa_ (o_ (al_ ap) ao)<|o_ (ar_ ap) ao⟩
 refine Wk<|Wq (Wd (X:=noX) 0 (pl_ 17 [9]) mo (by kernel_rfl) λfz s6 _=>dM z z z<|dR z z (a_8 z)<|dR z z (fd g_2 z) ?_)
 have aZ:∀k∈[J.z],¬B k:=or0 (e_ lr)<|n_<|zt' H h2.s;refine dR z z (l0 K_ z<|(((h5.e G).c h1<|(g_ aZ) _ hC1b).e s6).at (j:=1) z)<|dM z z z<|dR z z (fd b_j z)<|dR z z (l0 K_ z<|(V.e s6).at z) ?_
 obtain ⟨_,fi,d3⟩:=bdS<|ifF bf aA;refine dRX z z (at_ (α:=UInt8) k_ z_5 z z z (hp.g<|((G.ag B).c h1<|g_ aZ).e s6) fi) ?_;rintro _ ⟨_,_,_,rfl,fj,fk,_⟩;obtain rfl:=u8 fk;refine dR z z (l0 g_5 z<|fj.at0 z) ?_;have b0:=lt_ (lt_ (lt_ h2.s G.s) h1.s) s6.s;obtain ⟨_,_,_,fl,bg⟩:=U_ d3;refine dE z z (fc call165 z<|W_w1p fl (zt' H b0) (O.g<|(((h2.ag B).e G).c h1<|g_ aZ).e s6) I) (.inr λ_ _ h=>E_<|h.1) ?_;rintro _ _ ⟨sm,b2,b3,b4,fm,rfl,fo,fp,fq,cM⟩;refine dM z z z ?_
 iterate 3 refine dR z z (ext_ z z) ?_
 iterate 3 refine dQ z z z ?_
 refine pD<|Wo<|Wq<|Wm z<|R z (not_ z)<|Wx z (λaB=>?_) (λaB=>?_)
 .refine Ws<|R z (bP (parts:=[]) (cs:=[vI 0,sN,sN]) a_6 z z)<|RM z z ?_
  have cN:=lt_ b0 sm.s;obtain ⟨_,fr,d4⟩:=bdS<|ifT bg aB;refine E z (fc call166 z<|e_L fr (zt' H cN) I<|ii z) ?_;rintro _ _ ⟨cO,fs,ft,rfl,fu,cP⟩;refine E0 (fs0 (cur':=[vI 0,sN,sN]) m_ z z (((((h3.e G).c h1<|djs<|mmr h3.lt).e s6).e sm).e cO) z z z z) ?_;rintro _ _ ⟨fv,fw⟩;have cQ:=fw.one;refine Ra z<|Rw z ?_
  obtain rfl:=som d4;exact Wr<|x_ hr (q_ C_ m_ z fv z) z z ⟨bM (bup (bup (bup (bM (bup h2 G) h1<|m1 h2.s) s6) sm) cO) cQ<|e_ lr,none,0,0,[],none,0,0,[],fs,ft,z,ii z,onL,onL,I,fu.c cQ<|s_ cP h3.lt<|lt_ (lt_ (lt_ G.s h1.s) s6.s) sm.s,o_ cP cN,nd0,al0⟩
 refine Wk<|Wm z<|R z (bP (parts:=[(1,.tmp 159)]) (cs:=[vI 0,sl b2 b3 b4,sN]) a_6 z z)<|Rm z<|E0 (fs0 (cur':=[vI 0,sl b2 b3 b4,sN]) m_ z z ((((h3.e G).c h1<|djs<|mmr h3.lt).e s6).e sm) z z z z) ?_
 rintro _ _ ⟨fx,fy⟩;have cR:=fy.one;refine Ra z<|Rw z ?_
 obtain rfl:=som<|ifF bg aB;exact Wr<|x_ hr (q_ C_ m_ z fx z) z z ⟨bM (bup (bup (bM (bup h2 G) h1<|m1 h2.s) s6) sm) cR<|e_ lr,b2,b3,b4,fm,none,0,0,[],.nilIface,([]:List Nat),z,ii z,fo.c cR<|s_ cM h3.lt<|lt_ (lt_ G.s h1.s) s6.s,onL,fp,e_O,an_,na_ fq G_<|nmN _,aa_ (o_ cM b0) an_⟩
theorem T_w1q (ih:f_n n):m_4 (i_H n<|a_g n):=by
 obtain ⟨_,_,aI,_,_,_⟩:=ih
 constructor
 intro A0 A1 A3 A5 A2 A6 N0 C0 N1 C1 b1 o1 N3 C3 N5 C5 N2 C2 N6 C6 B x1 x2 x3 res w0 hm L V W hC1 hC1b bw bx bz bA bB bC Y O;unfold i_H at hm
 refine goG func160 z z z λfn hr=>Ws<|E z (fb z) ?_
 rintro _ I ⟨rfl,hw⟩;have h4:=hw.below;have hx:Blk I w0.z (vR x2 A3 N3 C3 A5 N5 C5 A2 N2 C2 A6 N6 C6):=hw.blk;refine E z (fa a_q) ?_;rintro _ aJ ⟨rfl,hy⟩;have h6:=hy.below;have h5:Blk aJ I.z [vI 0,sN,sN]:=hy.blk;refine Ra z<|Rw z<|Wm z<|Rf z a_1 z ?_
 have hz:=hx.e h6;refine R z (l0 H_ z<|hz.at z) ?_;obtain ⟨_,aK,av⟩:=bdS hm;have hd:=(h4.ag B).e h6;refine RX z (at_ (α:=Int) y_ z_3 z z z (Y.g hd) aK) ?_;rintro _ ⟨_,_,_,rfl,aL,aM,_⟩;obtain ⟨rfl,aN⟩:=V_ aM;refine R z (l0 g_3 z<|aL.at0 z)<|Rm z ?_
 have a3:=(hC1.e h4).e h6;have he:=lt_ h4.s h6.s;obtain ⟨_,rr,_,aO,hms⟩:=U_ av;refine E z (fc call157 z<|j_Z aO (zt' L he) (V.g hd) (W.g hd) a3 hC1b aN O) ?_;rintro _ G ⟨h,aP,aQ,rfl,_,aR,a4,a5⟩;refine Rm z ?_
 iterate 3 refine Re z z z ?_
 refine RA z z<|Rw z<|Wq<|Wm z<|R z (e_p e_i z z a4)<|Wx z (λhcm=>?_) (λhcm=>?_)
 .refine Ws<|R z (bP (parts:=[]) (cs:=[vI 0,sN,sN]) a_6 z z)<|RM z z<|E0 (fs0 (cur':=[vI 0,sN,sN]) m_ z z (h5.e h) z z z z) ?_
  rintro _ _ ⟨aS,aT⟩;have a6:=aT.one;refine Ra z<|Rw z ?_
  obtain rfl:=som<|ifT hms hcm;exact Wr<|x_ hr (q_ C_ m_ z aS z) z z ⟨bM (bup (bup h4 h6) h) a6<|m1 h4.s,none,0,0,[],none,0,0,[],aP,aQ,z,ii z,onL,onL,O,a4.c a6<|s_ a5 h5.lt lr,o_ a5 he,nd0,al0⟩
 have a0:=ifF hms hcm;refine Wk<|Wq<|Wm z<|R z (X_ z z)<|Wx z (λhco=>?_) (λhco=>?_)
 .refine Ws<|R z (bP (parts:=[]) (cs:=[vI 0,sN,sN]) a_6 z z)<|RM z z ?_
  have a7:=lt_ he h.s;obtain ⟨_,aU,aw⟩:=bdS<|ifT a0 hco;refine E z (fc call166 z<|e_L aU (zt' L a7) O<|ii z) ?_;rintro _ _ ⟨a8,aV,aW,rfl,aX,a9⟩;refine E0 (fs0 (cur':=[vI 0,sN,sN]) m_ z z ((h5.e h).e a8) z z z z) ?_;rintro _ _ ⟨aY,aZ⟩;have aa:=aZ.one;refine Ra z<|Rw z ?_
  obtain rfl:=som aw;exact Wr<|x_ hr (q_ C_ m_ z aY z) z z ⟨bM (bup (bup (bup h4 h6) h) a8) aa<|m1 h4.s,none,0,0,[],none,0,0,[],aV,aW,z,ii z,onL,onL,O,aX.c aa<|s_ a9 h5.lt h.s,o_ a9 a7,nd0,al0⟩
 refine Wk<|Wm z ?_
 obtain ⟨b0,b2,ax⟩:=bdS<|ifF a0 hco;refine E z (d_n (α:=Int) l_I (λ_=>c_E<|ii z) b2 z z) ?_;rintro _ H ⟨ac,nf,cg,rfl,s8,hp⟩;refine Rw z<|Wq<|Wm z<|R z (lnR y_ z<|a_.rep hp)<|Rm z<|Wn ?_
 obtain ⟨_,ay,a1⟩:=bdS ax;refine Wf (σ:=List Int) (ρ:=Val×Int×(Option<|Int×Int)) (λ(ab:Nat)(J:List Int) a w=>∃(S3:List Nat),Sat 59 [(0,.pointer<|some ⟨b1,o1,none⟩),(4,pt w0.z),(6,pt I.z),(10,vI rr),(12,sl ac nf cg),(39,vI (b0.length:Int)),(40,vI ((ab:Nat):Int))] a/\Cg [G.z] H w/\a_ w S3 (sl ac nf cg) J/\S3.Nodup/\(∀k∈S3,k∈[G.z]∨H.z<=k)) (λ(J:List Int) a w=>∃(S3:List Nat),Sat 59 [(0,.pointer<|some ⟨b1,o1,none⟩),(6,pt I.z),(10,vI rr),(12,sl ac nf cg)] a/\Cg [G.z] H w/\a_ w S3 (sl ac nf cg) J/\S3.Nodup/\(∀k∈S3,k∈[G.z]∨H.z<=k)) (rQ prog fn<|Q30 w0 B) ay ?_ ?_ ?_ ?_ ?_
 .exact λ_ q=>⟨[G.z],q.k<|s7 z z z z z z z,cr [G.z] H,hp,Z_,io sr⟩
 .rintro ab J _ b3 _ a2 ⟨S3,az,sh,ha,hi,hj⟩ aA;refine Wu ?_ az;refine Ws<|Rl z z z<|Wn<|Wq<|Wc z (λ_=>?_) (λhc=>(O_ a2 hc).elim)
  refine Wk<|Wq<|Wb<|Wm z<|Rw z<|Wg<|RM z z<|Rf z a_1 z<|R z (l0 H_ z<|(((hz.e h).e s8).c sh<|djs<|mm1 hx.lt<|lt_ h6.s h.s).at z) ?_
  obtain ⟨_,b4,aB⟩:=bdS aA;refine RX z (at_ (α:=Int) y_ z_3 z z z (Y.g<|((hd.e h).e s8).c sh<|g_ (or0 (e_ lr) (n_<|zt' L<|lt_ he h.s):∀k∈[G.z],¬B k)) b4) ?_;rintro _ ⟨_,_,_,rfl,b5,b6,_⟩;obtain ⟨rfl,b7⟩:=V_ b6;refine R z (l0 g_3 z<|b5.at0 z) ?_;obtain ⟨b8,ad,aC⟩:=bdS aB;refine RX z (b_c (α:=Int) y_ z_3 z z ha ad) ?_;rintro _ ⟨_,b9,rfl⟩;refine E0 (b_7 (α:=Int) z_3 z b9 z z z ad ha hi (c_E b7) an_ G_) ?_;rintro _ ba ⟨ae,bb,bc,be,bf⟩;refine Wn<|Wg<|R z (inc_ a2 (lt_ (a_.len hp) z_) z z)<|Rm z<|Wl ?_
  have af:∀k∈S3,k∈[G.z]∨H.z<=k:=or1 hj (io sr)<|j_ lr;exact λ_ q=>⟨b8,(som aC).symm,⟨ae,q.k<|s7 z z z z z z z,(cM (cM (cr [G.z] H) sh (io sr):Cg [G.z] H b3) bb af:Cg [G.z] H ba),bc,be,(or2 bf af an_ (j_ sh.s):∀k∈ae,k∈[G.z]∨H.z<=k)⟩⟩
 .rintro J _ bg ⟨S3,aD,bh,ha,hi,hj⟩;refine Wu ?_ aD;refine Ws<|Rl z z z<|Wn<|Wq<|Wc z (λhc=>(P_ hc).elim) (λ_=>?_)
  exact We<|λ_ q=>⟨rfl,⟨S3,q.k<|s4 z z z z,(cM (cr [G.z] H) bh (io sr):Cg [G.z] H bg),ha,hi,(or1 hj (io sr) (j_ lr):∀k∈S3,k∈[G.z]∨H.z<=k)⟩⟩
 .rintro J bi bj rfl ⟨S3,_,sb,ha,hi,hj⟩;have aE:=elL a1;revert bi;refine Wo<|Wm z<|R z (bP (parts:=[]) (cs:=[vI 0,sN,sN]) a_6 z z)<|RM z z ?_
  have hq:=lt_ he h.s;have ah:∀k∈[G.z],¬B k:=or0 (e_ lr)<|n_<|zt' L hq;have ai:=((hd.e h).e s8).c sb<|g_ ah
  have hk:=lt_ (lt_ hq s8.s) sb.s;have ht:=zt' L hk;obtain ⟨bk,_,_,bm,aF⟩:=U_ aE;refine E z (fc call161 z<|aI.run (B:=bj.z) (x2:=(⟨0,([]:Bt),([]:List Val)⟩:Val)) bm zr (repS.mono (V.g ai) ht) (repS.mono (W.g ai) ht) (((a3.e h).e s8).c sb<|(g_ ah) _ hC1b) (zap' ht hC1b) (ii z) onL G_ (nbl an_) onL G_ (nbl an_) an_ (a_.rep ha) aR) ?_;rintro _ _ ⟨aj,ak,al,am,an,ao,ap,aq,ar,bn,bo,rfl,bp,bq,br,bs,bt,au,hu,hl⟩
  iterate 3 refine Re z z z ?_
  refine E0 (fs0 (cur':=[vI bk.number,sl ak al am,sl ao ap aq]) m_ z z ((((h5.e h).e s8).c sb<|djs<|mm1 h5.lt h.s).c aj<|atp<|nmA (nmN _)<|nmN _) z z z z) ?_;rintro _ _ ⟨bu,bv⟩;have hn:=bv.one;refine Ra z<|Rw z ?_
  obtain rfl:=som aF;have hv:=lt_ (lt_ h.s s8.s) sb.s;exact Wr<|x_ hr (q_ C_ m_ z bu z) z z ⟨bM (bM (bM (bup (bup (bup h4 h6) h) s8) sb<|m1 hq) aj al0) hn<|m1 h4.s,ak,al,am,an,ao,ap,aq,ar,bn,bo,z,bp,bq.c hn (or1 (al_ hl) al0 (a_P (e_ h5.lt) hv):∀k∈an,k∉[I.z]),br.c hn (or1 (ar_ hl) al0 (a_P (e_ h5.lt) hv):∀k∈ar,k∉[I.z]),bs,bt.c hn<|s_ au h5.lt hv,o_ au hk,na_ (nl_ hu) (nr_ hu)<|nj hu,aa_ (b_2 (al_ hl) al0 hk)<|b_2 (ar_ hl) al0 hk⟩
 rintro _ _ _ _ rfl ⟨rfl,aG⟩;have aH:=elR a1;obtain rfl:=som aH;exact ⟨aG,z⟩
theorem T_w1r (ih:f_n n):m_5 (i_I n<|a_g n):=by
 obtain ⟨aX,_,_,_,_,_⟩:=ih
 constructor
 intro A0 A1 AC AG A7 N0 C0 N1 C1 b1 o1 NC CC NG CG N7 C7 S2_1 S2_2 B x1 x2 x3 x4 res w0 hm ad aK aL hC1 hC1b aM W p2_1n p2_1g Y p2_2n p2_2g p2_2d1 a0 aN;unfold i_I at hm
 refine goG func161 z z z λfn hr=>Ws<|E z (fb z) ?_
 rintro _ wb ⟨rfl,ae⟩;have h2:=ae.below;have he:Blk wb w0.z [vI x2.number,sl AC NC CC,sl AG NG CG]:=ae.blk;refine E z (fa a_q) ?_;rintro _ h ⟨rfl,af⟩;have V:=af.below;have hk:Blk h wb.z [vI 0,sN,sN]:=af.blk;refine Ra z<|Rw z<|Wq<|Wm z ?_
 have ah:=(h2.ag B).e V;refine R z (lnR y_ z<|a0.g ah)<|Rm z<|Wn ?_
 obtain ⟨_,aO,a9⟩:=bdS hm;refine Wf (σ:=Int×(List Val)) (ρ:=Val×Int×(Option<|Int×Int)) (λ(ai:Nat) s a w=>un2 (λxc xh=>∃H I J G,Sat 45 [(0,.pointer<|some ⟨b1,o1,none⟩),(3,vI xc),(5,pt w0.z),(8,pt wb.z),(16,sl A7 N7 C7),(17,vI (x3.length:Int)),(18,vI ((ai:Nat):Int))] a/\Chg (· ∈ (S2_2++[w0.z])) h w/\inI xc/\a_ w G (sl H I J) xh/\G.Nodup/\(∀k∈G,k∈S2_2∨h.z<=k)/\Blk w w0.z [vI x2.number,sl AC NC CC,sl H I J]) s) (λs a w=>un2 (λxc xh=>∃H I J G,Sat 45 [(3,vI xc),(5,pt w0.z),(8,pt wb.z)] a/\Chg (· ∈ (S2_2++[w0.z])) h w/\inI xc/\a_ w G (sl H I J) xh/\G.Nodup/\(∀k∈G,k∈S2_2∨h.z<=k)/\Blk w w0.z [vI x2.number,sl AC NC CC,sl H I J]) s) (rQ prog fn<|Q31 w0 B S2_1 S2_2) aO ?_ ?_ ?_ ?_ ?_
 .exact λ_ q=>⟨AG,NG,CG,S2_2,q.k<|s7 z z z z z z z,cr (S2_2++[w0.z]) h,aN,(Y.e h2).e V,p2_2n,io sr,he.e V⟩
 .rintro ai ⟨xc,xh⟩ _ aj _ aa ⟨H,I,J,G,aP,s6,hi,hf,hl,hd,hn⟩ aQ;refine Wu ?_ aP;refine Ws<|Rl z z z<|Wn<|Wq<|Wc z (λ_=>?_) (λhc=>(O_ aa hc).elim)
  refine Wk<|Wq<|Wb<|Ws ?_
  obtain ⟨_,aY,aR⟩:=bdS<|a_7 aQ;have ak:∀k∈[w0.z],¬B k:=or0 (e_ lr)<|n_ ad;have ht:=ah.c s6<|nmA (g_ p2_2g)<|g_ ak
  refine RX z (at_ (α:=Int) y_ z_3 z z z (a0.g ht) aY) ?_;rintro _ ⟨_,_,_,rfl,aZ,b0,_⟩;obtain ⟨rfl,b2⟩:=V_ b0;refine R z (l0 g_3 z<|aZ.at0 z)<|Rw z<|Wm z<|RM z z ?_
  have hu:=lt_ (lt_ h2.s V.s) s6.s;obtain ⟨ro,b3,_,b4,ab⟩:=U_ aR;refine E z (fc call132 z<|aX.run b4 (zt' ad hu) (aK.g ht) (aL.g ht) (((hC1.e h2).e V).c s6<|(nmA (g_ p2_2g)<|g_ ak) _ hC1b) hC1b b2 hi) ?_;rintro _ wm ⟨sa,ar,ns,cv,al,aw,nx,cy,am,b5,b6,rfl,b7,hp,hq,b8,an,ao,hz,hj⟩;refine Rm z ?_
  iterate 3 refine Re z z z ?_
  refine E z (fa a_q) ?_;rintro _ a2 ⟨rfl,ap⟩;have L:=ap.below;refine E0 (fs0 (cur':=[vI ro.number,sl ar ns cv,sl aw nx cy]) m_ z z (ap.blk:Blk a2 wm.z [vI 0,sN,sN]) z z z z) ?_;rintro _ a4 ⟨b9,ba⟩;have O:=ba.one;refine Ra z<|Rw z<|Wq<|Wm z ?_
  have aq:=(an.e L).c O<|ds<|mnr<|a_R.lt an
  refine R z (e_p e_i z z aq)<|Wx z (λa1=>?_) (λa1=>?_)
  .refine Ws<|R z (bP (parts:=[]) (cs:=[vI 0,sN,sN]) a_6 z z)<|RM z z ?_
   refine E0 (fs0 (cur':=[vI 0,sN,sN]) m_ z z ((((hk.c s6<|atp<|nmA (mno (a_.lt Y) h2.s)<|mmr he.lt).e sa).e L).c O<|djs<|mm1 hk.lt<|lt_ s6.s sa.s) z z z z) ?_;rintro _ bb ⟨bc,be⟩;have au:=be.one;refine Ra z<|Rw z ?_
   exact Wr<|rtO<|qL (som<|ifT ab a1).symm<|x_ hr (q_ C_ m_ z bc z) z z ⟨(cM (cM (i_ (i_ (cM (i_ (i_ (cr (S2_1++S2_2) w0) h2:Chg (· ∈ (S2_1++S2_2)) w0 wb) V:Chg (· ∈ (S2_1++S2_2)) w0 h) s6 (aa_ (io<|a_3 sr) (mor lr:∀k∈[w0.z],k∈(S2_1++S2_2)∨w0.z<=k)):Chg (· ∈ (S2_1++S2_2)) w0 aj) sa:Chg (· ∈ (S2_1++S2_2)) w0 wm) L:Chg (· ∈ (S2_1++S2_2)) w0 a2) O (mor (lt_ hu sa.s):∀k∈[wm.z],k∈(S2_1++S2_2)∨w0.z<=k):Chg (· ∈ (S2_1++S2_2)) w0 a4) au (mor h2.s:∀k∈[wb.z],k∈(S2_1++S2_2)∨w0.z<=k):Chg (· ∈ (S2_1++S2_2)) w0 bb),none,0,0,[],none,0,0,[],b5,b6,z,ii z,onL,onL,hi,aq.c au<|s_ ao hk.lt s6.s,o_ ao hu,nd0,al0⟩
  refine Wk<|Ws<|Rf z e_I z ?_
  have a5:=lt_ V.s s6.s;have av:=lt_ a5 sa.s;have ax:=((hn.e sa).e L).c O<|djs<|mm1 he.lt av
  refine R z (l0 g_0 z<|ax.at z)<|R z (lN (vs:=[vI ro.number,sl ar ns cv,sl aw nx cy]) C_ m_ z z fid<|b9.row 0 3 z)<|E z (fS [(.tmp 37)] j_I z z z (a_v z) (lb z)<|lb z) ?_
  rintro _ ay ⟨rfl,az⟩;have hg:=az.below;have bv:=(hp.e L).c O<|ds<|mnr<|a_.lt hp
  have bw:=(hq.e L).c O<|ds<|mnr<|a_.lt hq
  obtain ⟨bf,bg,aS⟩:=bdS<|ifF ab a1;refine E z (b_l (α:=Val) j_I bg z z ((((hf.e sa).e L).c O<|ds<|mno (a_.lt hf) sa.s).e hg) hl (az.blk:Blk ay a4.z [vI ro.number,sl ar ns cv,sl aw nx cy]) (q_S (x:=ro) (S1:=al) (S2:=am) b7 (((hp.e L).c O<|ds<|mnr<|a_.lt hp).e hg)<|((hq.e L).c O<|ds<|mnr<|a_.lt hq).e hg) (aa_ (a_T (al_ hj) (a_.lt hf) lr)<|a_T (ar_ hj) (a_.lt hf) lr)<|na_ (nl_ hz) (nr_ hz)<|nj hz) ?_;rintro _ bh ⟨a6,aA,aB,aC,rfl,aD,bi,bj,aE⟩;refine Rf z e_I z ?_;have aF:∀k∈G,k∉[w0.z]:=or1 hd (ds<|mnr<|a_.lt Y)<|a_P (e_ he.lt) V.s;refine E0 (fs0 (cur':=[vI x2.number,sl AC NC CC,sl aA aB aC]) z_97 z z ((ax.e hg).c aD<|djs aF) z z z z) ?_;rintro _ bk ⟨bm,bn⟩;have aG:=bn.one;refine Wn<|Wg<|Rm z<|Rw z<|Wg<|R z (inc_ aa (lt_ (repS.len a0) z_) z z)<|Rm z<|Wl ?_
  have aH:=lt_ s6.s sa.s;exact λ_ q=>⟨(b3,bf),(som aS).symm,⟨aA,aB,aC,a6,q.k<|s7 z z z z z z z,(cM (cM (i_ (cM (i_ (i_ (cM (cr (S2_2++[w0.z]) h) s6 (aa_ (io<|a_B sr)<|io<|a_3 sr):Chg (· ∈ (S2_2++[w0.z])) h aj) sa:Chg (· ∈ (S2_2++[w0.z])) h wm) L:Chg (· ∈ (S2_2++[w0.z])) h a2) O (mor aH:∀k∈[wm.z],k∈(S2_2++[w0.z])∨h.z<=k):Chg (· ∈ (S2_2++[w0.z])) h a4) hg:Chg (· ∈ (S2_2++[w0.z])) h ay) aD (or1 hd (io<|a_B sr) (j_ lr):∀k∈G,k∈(S2_2++[w0.z])∨h.z<=k):Chg (· ∈ (S2_2++[w0.z])) h bh) aG (io<|a_3 sr):Chg (· ∈ (S2_2++[w0.z])) h bk),b8,bi.c aG (or2 aE aF (aa_ (s_ (al_ hj) he.lt a5)<|s_ (ar_ hj) he.lt a5) (a_P (e_ he.lt)<|lt_ (lt_ (lt_ av L.s) O.s) hg.s):∀k∈a6,k∉[w0.z]),bj,(or2 aE (or1 hd (io sr) (j_ lr):∀k∈G,k∈S2_2∨h.z<=k) (aa_ (or0 (al_ hj) (j_ s6.s):∀k∈al,k∈S2_2∨h.z<=k) (or0 (ar_ hj) (j_ s6.s):∀k∈am,k∈S2_2∨h.z<=k)) (j_<|lt_ (lt_ (lt_ aH L.s) O.s) hg.s):∀k∈a6,k∈S2_2∨h.z<=k),bm⟩⟩
 .rintro ⟨xc,xh⟩ _ bo ⟨H,I,J,G,aT,bp,hi,hf,hl,hd,hn⟩;refine Wu ?_ aT;refine Ws<|Rl z z z<|Wn<|Wq<|Wc z (λhc=>(P_ hc).elim) (λ_=>?_)
  exact We<|λ_ q=>⟨rfl,⟨H,I,J,G,q.k<|s3 z z z,(cM (cr (S2_2++[w0.z]) h) bp (aa_ (io<|a_B sr)<|io<|a_3 sr):Chg (· ∈ (S2_2++[w0.z])) h bo),hi,hf,hl,(or1 hd (io sr) (j_ lr):∀k∈G,k∈S2_2∨h.z<=k),hn⟩⟩
 .rintro ⟨xc,xh⟩ bq br rfl ⟨H,I,J,G,_,a7,hi,hf,hl,hd,hn⟩;have aU:=elL a9;revert bq;refine Wo<|Ws<|R z (lN (vs:=[vI x2.number,sl AC NC CC,sl H I J]) C_ m_ z z fid<|hn.row 0 3 z)<|Rm z ?_
  have aI:=mno (a_.lt Y) h2.s;refine E0 (fs0 (cur':=[vI x2.number,sl AC NC CC,sl H I J]) m_ z z (hk.c a7<|atp<|nmA aI<|mmr he.lt) z z z z) ?_;rintro _ bs ⟨bt,bu⟩;have a8:=bu.one;refine Ra z<|Rw z ?_
  obtain rfl:=som<|a_7 aU;have aJ:=lt_ h2.s V.s;exact Wr<|x_ hr (q_ C_ m_ z bt z) z z ⟨(cM (cM (i_ (i_ (cr (S2_1++S2_2) w0) h2:Chg (· ∈ (S2_1++S2_2)) w0 wb) V:Chg (· ∈ (S2_1++S2_2)) w0 h) a7 (aa_ (io<|a_3 sr) (mor lr:∀k∈[w0.z],k∈(S2_1++S2_2)∨w0.z<=k)):Chg (· ∈ (S2_1++S2_2)) w0 br) a8 (mor h2.s:∀k∈[wb.z],k∈(S2_1++S2_2)∨w0.z<=k):Chg (· ∈ (S2_1++S2_2)) w0 bs),AC,NC,CC,S2_1,H,I,J,G,.nilIface,([]:List Nat),z,aM,(((W.e h2).e V).c a7<|nmA (ds p2_2d1)<|ds<|mnr<|a_.lt W).c a8<|ds<|mno (a_.lt W) h2.s,hf.c a8 (or1 hd (ds aI) (a_P (e_ hk.lt) lr):∀k∈G,k∉[wb.z]),hi,e_O,an_,na_ p2_1n hl<|ds<|c_c hd p2_2d1 (a_.lt W) aJ,aa_ (io<|a_B sr) (or1 hd (io<|a_3 sr) (j_ aJ):∀k∈G,k∈(S2_1++S2_2)∨w0.z<=k)⟩
 rintro _ _ _ _ rfl ⟨rfl,aV⟩;have aW:=elR a9;obtain rfl:=som aW;exact ⟨aV,z⟩
theorem T_w1s (ih:f_n n):m_6 (i_J n<|a_g n):=by
 obtain ⟨_,_,aq,_,_,_⟩:=ih
 constructor
 intro A0 A1 A3 A5 A2 A6 N0 C0 N1 C1 b1 o1 N3 C3 N5 C5 N2 C2 N6 C6 B x1 x2 x3 res w0 hm W Y a0 hC1 hC1b b6 b7 b8 b9 ba I a1 J;unfold i_J at hm
 refine goG func162 z z z λfn hr=>Ws<|E z (fb z) ?_
 rintro _ G ⟨rfl,hk⟩;have h1:=hk.below;refine E z (fa a_q) ?_;rintro _ ar ⟨rfl,hl⟩;have h4:=hl.below;have h2:Blk ar G.z [vI 0,sN,sN]:=hl.blk;refine Ra z<|Rw z<|Wm z<|Rf z a_1 z ?_
 have hn:=(hk.blk:Blk G w0.z (vR x2 A3 N3 C3 A5 N5 C5 A2 N2 C2 A6 N6 C6)).e h4;refine R z (l0 H_ z<|hn.at z) ?_;obtain ⟨_,au,ae⟩:=bdS hm;have L:=(h1.ag B).e h4;refine RX z (at_ (α:=Int) y_ z_3 z z z (a1.g L) au) ?_;rintro _ ⟨_,_,_,rfl,av,aw,_⟩;obtain ⟨rfl,ax⟩:=V_ aw;refine R z (l0 g_3 z<|av.at0 z)<|Rm z ?_
 have ho:=(hC1.e h1).e h4;have O:=lt_ h1.s h4.s;obtain ⟨re,az,_,aA,hmm⟩:=U_ ae;refine E z (fc call157 z<|j_Z aA (zt' W O) (Y.g L) (a0.g L) ho hC1b ax J) ?_;rintro _ H ⟨h,aB,aC,rfl,aD,aE,hp,hq⟩;refine Rm z ?_
 iterate 3 refine Re z z z ?_
 refine RA z z<|Rw z<|Wq<|Wm z<|R z (e_p e_i z z hp)<|Wx z (λhcf=>?_) (λhcf=>?_)
 .refine Ws<|R z (bP (parts:=[]) (cs:=[vI 0,sN,sN]) a_6 z z)<|RM z z<|E0 (fs0 (cur':=[vI 0,sN,sN]) m_ z z (h2.e h) z z z z) ?_
  rintro _ _ ⟨aF,aG⟩;have ht:=aG.one;refine Ra z<|Rw z ?_
  obtain rfl:=som<|ifT hmm hcf;exact Wr<|x_ hr (q_ C_ m_ z aF z) z z ⟨bM (bup (bup h1 h4) h) ht<|m1 h1.s,none,0,0,[],none,0,0,[],aB,aC,z,ii z,onL,onL,J,hp.c ht<|s_ hq h2.lt lr,o_ hq O,nd0,al0⟩
 refine Wk<|Wq<|Ws<|Rf z b_k z ?_
 have hu:=hn.e h;refine R z (l0 H_ z<|hu.at z) ?_;have hv:=L.e h;refine R z (lnR y_ z<|I.g hv)<|Rm z<|Wn ?_
 obtain ⟨_,af,hmr⟩:=bdS<|ifF hmm hcf;refine Wf (σ:=Unit) (ρ:=Val×Int×(Option<|Int×Int)) (λ(ks:Nat)(_:Unit) a w=>Sat 61 [(0,.pointer<|some ⟨b1,o1,none⟩),(2,vI x3),(4,pt w0.z),(6,pt G.z),(9,vI re),(10,vI az),(31,sl A2 N2 C2),(32,vI (x2.tags.length:Int)),(33,vI ((ks:Nat):Int))] a/\Below H.z H w) (λ(_:Unit) a w=>Sat 61 [(2,vI x3),(6,pt G.z)] a/\Below H.z H w) (rQ prog fn<|Q30 w0 B) af ?_ ?_ ?_ ?_ ?_
 .exact λ_ q=>⟨q.k<|s9 z z z z z z z z z,br H⟩
 .rintro ks _ _ _ _ hkg ⟨ah,s3⟩ ai;refine Wu ?_ ah;refine Ws<|Rl z z z<|Wn<|Wq<|Wc z (λ_=>?_) (λhc=>(O_ hkg hc).elim)
  refine Wk<|Wq<|Wb<|Wm z ?_
  obtain ⟨_,aH,hmw⟩:=bdS ai;have V:=hv.e s3;refine RX z (at_ (α:=Int) y_ z_3 z z z (I.g V) aH) ?_;rintro _ ⟨_,_,_,rfl,aI,aJ,_⟩;obtain ⟨rfl,_⟩:=V_ aJ;refine R z (l0 g_3 z<|aI.at0 z)<|Ra z<|Rw z<|Wm z<|Rm z<|Rq z z z<|Wx z (λhch=>?_) (λhch=>?_)
  .refine Wm z<|Rm z<|R z (bP (parts:=[(0,.tmp 42)]) (cs:=[vI re,sN,sN]) a_6 z z)<|Rf z a_1 z<|R z (l0 H_ z<|(hu.e s3).at z)<|Rm z<|R z (inc_ hkg (lt_ (repS.len I) z_) z z)<|Rm z<|R z (add_ z z) ?_
   obtain ⟨_,aK,aj⟩:=bdS<|ifT hmw hch;refine RX z (rX y_ z_3 z z (a1.g V) z z aK) ?_;rintro _ ⟨_,_,_,rfl,aL⟩;refine Rm z ?_;have ha:=lt_ (lt_ O h.s) s3.s;obtain ⟨aM,_,_,aN,ak⟩:=U_ aj;refine E z (fc call161 z<|aq.run (B:=B) (x2:=(⟨re,([]:Bt),([]:List Val)⟩:Val)) aN (zt' W ha) (Y.g V) (a0.g V) ((ho.e h).e s3) hC1b aD onL G_ an_ onL G_ an_ an_ aL aE) ?_;rintro _ _ ⟨sx,ay,nz,a2,a3,a4,a5,a6,a7,aO,aP,rfl,aQ,aR,aS,aT,aU,a8,hi,hb⟩
   iterate 3 refine Re z z z ?_
   refine E0 (fs0 (cur':=[vI aM.number,sl ay nz a2,sl a4 a5 a6]) m_ z z (((h2.e h).e s3).c sx<|atp<|nmA (nmN _)<|nmN _) z z z z) ?_;rintro _ _ ⟨aV,aW⟩;have hd:=aW.one;refine Ra z<|Rw z ?_
   have hj:=lt_ h.s s3.s;exact Wr<|rtO<|qL (som ak).symm<|x_ hr (q_ C_ m_ z aV z) z z ⟨bM (bM (bup (bup (bup h1 h4) h) s3) sx al0) hd<|m1 h1.s,ay,nz,a2,a3,a4,a5,a6,a7,aO,aP,z,aQ,aR.c hd (or1 (al_ hb) al0 (a_P (e_ h2.lt) hj):∀k∈a3,k∉[G.z]),aS.c hd (or1 (ar_ hb) al0 (a_P (e_ h2.lt) hj):∀k∈a7,k∉[G.z]),aT,aU.c hd<|s_ a8 h2.lt hj,o_ a8 ha,na_ (nl_ hi) (nr_ hi)<|nj hi,aa_ (b_2 (al_ hb) al0 ha)<|b_2 (ar_ hb) al0 ha⟩
  exact Wk<|Wg<|R z (inc_ hkg (lt_ (repS.len I) z_) z z)<|Rm z<|Wl (λ_ q=>⟨(),(som<|ifF hmw hch).symm,⟨q.k<|s9 z z z z z z z z z,s3⟩⟩)
 .rintro _ _ _ ⟨al,aX⟩;refine Wu ?_ al;refine Ws<|Rl z z z<|Wn<|Wq<|Wc z (λhc=>(P_ hc).elim) (λ_=>?_)
  exact We<|λ_ q=>⟨rfl,⟨q.k<|s2 z z,aX⟩⟩
 .rintro _ aY _ rfl ⟨_,sc⟩;have am:=elL hmr;revert aY;refine Wo<|Ws<|R z (bP (parts:=[]) (cs:=[vI 0,sN,sN]) a_6 z z)<|RM z z ?_
  have a9:=lt_ (lt_ O h.s) sc.s;obtain ⟨_,aZ,an⟩:=bdS am;refine E z (fc call166 z<|e_L aZ (zt' W a9) J<|ii z) ?_;rintro _ _ ⟨aa,b0,b2,rfl,b3,ab⟩;refine E0 (fs0 (cur':=[vI 0,sN,sN]) m_ z z (((h2.e h).e sc).e aa) z z z z) ?_;rintro _ _ ⟨b4,b5⟩;have ad:=b5.one;refine Ra z<|Rw z ?_
  obtain rfl:=som an;exact Wr<|x_ hr (q_ C_ m_ z b4 z) z z ⟨bM (bup (bup (bup (bup h1 h4) h) sc) aa) ad<|m1 h1.s,none,0,0,[],none,0,0,[],b0,b2,z,ii z,onL,onL,J,b3.c ad<|s_ ab h2.lt<|lt_ h.s sc.s,o_ ab a9,nd0,al0⟩
 rintro _ _ _ _ rfl ⟨rfl,ao⟩;have ap:=elR hmr;obtain rfl:=som ap;exact ⟨ao,z⟩
theorem T_w1t (ih:f_n n):m_7 (i_K n<|a_g n):=by
 obtain ⟨_,_,a5,_,_,_⟩:=ih
 constructor
 intro A0 A1 A3 A5 A2 A6 N0 C0 N1 C1 b1 o1 N3 C3 N5 C5 N2 C2 N6 C6 B x1 x2 x3 res w0 hm L V W hC1 hC1b aH aI aJ aK aL aM a2 G;unfold i_K at hm
 refine goG func163 z z z λfn hr=>Ws<|E z (fb z) ?_
 rintro _ H ⟨rfl,hf⟩;have h1:=hf.below;refine E z (fa a_q) ?_;rintro _ a6 ⟨rfl,hg⟩;have h3:=hg.below;have h2:Blk a6 H.z [vI 0,sN,sN]:=hg.blk;refine Ra z<|Rw z<|Wm z<|Rm z ?_
 have hh:=(hC1.e h1).e h3;have O:=(h1.ag B).e h3;have h5:=lt_ h1.s h3.s;obtain ⟨_,_,a7,hmi⟩:=Y_ hm;refine E z (fc call191 z<|j_Y a7 (zt' L h5) (V.g O) (W.g O) hh hC1b G<|ii z) ?_;rintro _ _ ⟨h,_,_,_,a8,a9,rfl,hj,hk,hl⟩;refine Rm z<|Re z z z<|Re z z z<|Ra z<|Rw z<|Wq<|Wb<|Wm z<|R z (e_p e_i z z hk)<|Rw z<|Wc z (λhca=>?_) (λhca=>?_)
 .refine Ws<|R z (bP (parts:=[]) (cs:=[vI 0,sN,sN]) a_6 z z)<|RM z z<|E0 (fs0 (cur':=[vI 0,sN,sN]) m_ z z (h2.e h) z z z z) ?_
  rintro _ _ ⟨aa,ab⟩;have hn:=ab.one;refine Ra z<|Rw z ?_
  obtain rfl:=som<|ifT hmi hca;exact Wr<|rtO<|x_ hr (q_ C_ m_ z aa z) z z ⟨bM (bup (bup h1 h3) h) hn<|m1 h1.s,none,0,0,[],none,0,0,[],a8,a9,z,ii z,onL,onL,G,hk.c hn<|s_ hl h2.lt lr,o_ hl h5,nd0,al0⟩
 refine Wm z ?_
 obtain ⟨_,ad,hmm⟩:=bdS<|ifF hmi hca;refine RX z (at_ (α:=UInt8) k_ z_5 z z z hj ad) ?_;rintro _ ⟨_,_,_,rfl,ae,af,_⟩;obtain rfl:=u8 af;refine R z (l0 g_5 z<|ae.at0 z)<|R z (X_ z z)<|Rw z<|Wc z (λhcb=>?_) (λhcb=>?_)
 .refine Ws<|R z (bP (parts:=[]) (cs:=[vI 0,sN,sN]) a_6 z z)<|RM z z ?_
  have ho:=lt_ h5 h.s;obtain ⟨_,ah,a3⟩:=bdS<|ifT hmm hcb;refine E z (fc call166 z<|e_L ah (zt' L ho) G<|ii z) ?_;rintro _ _ ⟨sp,ai,aj,rfl,ak,hq⟩;refine E0 (fs0 (cur':=[vI 0,sN,sN]) m_ z z ((h2.e h).e sp) z z z z) ?_;rintro _ _ ⟨al,am⟩;have ht:=am.one;refine Ra z<|Rw z ?_
  obtain rfl:=som a3;exact Wr<|rtO<|x_ hr (q_ C_ m_ z al z) z z ⟨bM (bup (bup (bup h1 h3) h) sp) ht<|m1 h1.s,none,0,0,[],none,0,0,[],ai,aj,z,ii z,onL,onL,G,ak.c ht<|s_ hq h2.lt h.s,o_ hq ho,nd0,al0⟩
 refine Wm z ?_
 obtain ⟨_,an,hmr⟩:=bdS<|ifF hmm hcb;refine RX z (at_ (α:=UInt8) k_ z_5 z z z hj an) ?_;rintro _ ⟨_,_,_,rfl,ao,ap,_⟩;obtain rfl:=u8 ap;refine R z (l0 g_5 z<|ao.at0 z)<|Rq z z z<|Rw z<|Wc z (λhcc=>?_) (λhcc=>?_)
 .refine Ws<|R z (bP (parts:=[]) (cs:=[vI 0,sN,sN]) a_6 z z)<|Rm z<|R z (add_ z z)<|E0 (fs0 (cur':=[vI 0,sN,sN]) m_ z z (h2.e h) z z z z) ?_
  rintro _ _ ⟨aq,ar⟩;refine Ra z<|Rw z ?_
  obtain rfl:=som<|ifT hmr hcc;exact Wr<|rtO<|x_ hr (q_ C_ m_ z aq z) z z ⟨bM (bup (bup h1 h3) h) ar.one<|m1 h1.s,none,0,0,[],none,0,0,[],.nilIface,([]:List Nat),z,ii z,onL,onL,iA _ _,e_O,an_,nd0,al0⟩
 refine Wk<|Wm z<|R z (bP (parts:=[]) (cs:=[vI 0,sN,sN]) a_6 z z)<|Rf z a_1 z<|R z (l0 H_ z<|(((hf.blk:Blk H w0.z (vR x2 A3 N3 C3 A5 N5 C5 A2 N2 C2 A6 N6 C6)).e h3).e h).at z)<|Rm z<|R z (add_ z z) ?_
 have hd:=O.e h;have h6:=lt_ h5 h.s;obtain ⟨av,_,_,aw,a4⟩:=U_<|ifF hmr hcc;refine E z (fc call161 z<|a5.run (B:=B) (x2:=(⟨0,([]:Bt),([]:List Val)⟩:Val)) aw (zt' L h6) (V.g hd) (W.g hd) (hh.e h) hC1b (ii z) onL G_ an_ onL G_ an_ an_ (a2.g hd)<|iA _ _) ?_;rintro _ _ ⟨ss,au,nv,cw,Sx,ay,nz,Y,a0,ax,az,rfl,aA,aB,aC,aD,aE,a1,he,I⟩
 iterate 3 refine Re z z z ?_
 refine E0 (fs0 (cur':=[vI av.number,sl au nv cw,sl ay nz Y]) m_ z z ((h2.e h).c ss<|atp<|nmA (nmN _)<|nmN _) z z z z) ?_;rintro _ _ ⟨aF,aG⟩;have J:=aG.one;refine Ra z<|Rw z ?_
 obtain rfl:=som a4;exact Wr<|x_ hr (q_ C_ m_ z aF z) z z ⟨bM (bM (bup (bup h1 h3) h) ss al0) J<|m1 h1.s,au,nv,cw,Sx,ay,nz,Y,a0,ax,az,z,aA,aB.c J (or1 (al_ I) al0 (a_P (e_ h2.lt) h.s):∀k∈Sx,k∉[H.z]),aC.c J (or1 (ar_ I) al0 (a_P (e_ h2.lt) h.s):∀k∈a0,k∉[H.z]),aD,aE.c J<|s_ a1 h2.lt h.s,o_ a1 h6,na_ (nl_ he) (nr_ he)<|nj he,aa_ (b_2 (al_ I) al0 h6)<|b_2 (ar_ I) al0 h6⟩
theorem T_w1u (ih:f_n n):m_8 (i_L n<|a_g n):=by
 obtain ⟨_,_,ap,_,_,_⟩:=ih
 constructor
 intro A0 A1 A3 A5 A2 A6 N0 C0 N1 C1 b1 o1 N3 C3 N5 C5 N2 C2 N6 C6 B x1 x2 x3 res w0 hm J V O hC1 hC1b aW aX aY aZ b0 b2 al L;unfold i_L at hm
 refine goG func164 z z z λfn hr=>Ws<|E z (fb z) ?_
 rintro _ wb ⟨rfl,hu⟩;have h6:=hu.below;refine E z (fa a_q) ?_;rintro _ aq ⟨rfl,hv⟩;have H:=hv.below;have h3:Blk aq wb.z [vI 0,sN,sN]:=hv.blk;refine Ra z<|Rw z<|Wm z<|R z (bP (parts:=[]) (cs:=[vI 0,sN,sN]) a_6 z z)<|Rf z a_1 z<|R z (l0 H_ z<|((hu.blk:Blk wb w0.z (vR x2 A3 N3 C3 A5 N5 C5 A2 N2 C2 A6 N6 C6)).e H).at z)<|Rm z ?_
 have hw:=(hC1.e h6).e H;have hc:=(h6.ag B).e H;have I:=lt_ h6.s H.s;obtain ⟨rk,_,_,ar,hmr⟩:=U_ hm;refine E z (fc call161 z<|ap.run (B:=B) (x2:=(⟨0,([]:Bt),([]:List Val)⟩:Val)) ar (zt' J I) (V.g hc) (O.g hc) hw hC1b (ii z) onL G_ an_ onL G_ an_ an_ (al.g hc) L) ?_;rintro _ ws ⟨G,ad,ne,cf,Sx,ah,ng,ci,Sy,au,av,rfl,aw,hz,a0,a1,a2,a3,hl,hj⟩;refine Rm z ?_
 iterate 3 refine Re z z z ?_
 refine E z (fa a_q) ?_;rintro _ ax ⟨rfl,a4⟩;have h1:=a4.below;refine E0 (fs0 (cur':=[vI rk.number,sl ad ne cf,sl ah ng ci]) m_ z z (a4.blk:Blk ax ws.z [vI 0,sN,sN]) z z z z) ?_;rintro _ _ ⟨ay,az⟩;have h2:=az.one;refine Ra z<|Rw z<|Wq<|Wm z ?_
 have a5:=(a2.e h1).c h2<|ds<|mnr<|a_R.lt a2
 refine R z (e_p e_i z z a5)<|Wx z (λhcm=>?_) (λhcm=>?_)
 .refine Ws<|R z (bP (parts:=[]) (cs:=[vI 0,sN,sN]) a_6 z z)<|RM z z<|E0 (fs0 (cur':=[vI 0,sN,sN]) m_ z z (((h3.c G<|atp<|nmA (nmN _)<|nmN _).e h1).c h2<|djs<|mm1 h3.lt G.s) z z z z) ?_
  rintro _ _ ⟨aA,aB⟩;have a6:=aB.one;refine Ra z<|Rw z ?_
  obtain rfl:=som<|ifT hmr hcm;exact Wr<|x_ hr (q_ C_ m_ z aA z) z z ⟨bM (bM (bup (bM (bup h6 H) G al0) h1) h2<|m1<|lt_ I G.s) a6<|m1 h6.s,none,0,0,[],none,0,0,[],au,av,z,ii z,onL,onL,L,a5.c a6<|s_ a3 h3.lt lr,o_ a3 I,nd0,al0⟩
 refine Wk<|Wm z<|Rm z ?_
 have ha:=lt_ I G.s;have a7:∀k∈[ws.z],¬B k:=or0 (e_ lr)<|n_<|zt' J ha;have a8:=((hw.c G<|(nmA (g_ an_)<|g_ an_) _ hC1b).e h1).c h2<|(g_ a7) _ hC1b
 have hn:=((hc.c G<|nmA (g_ an_)<|g_ an_).e h1).c h2<|g_ a7
 have ho:=lt_ (lt_ ha h1.s) h2.s;obtain ⟨_,_,aC,W⟩:=Y_<|ifF hmr hcm;refine E z (fc call191 z<|j_Y aC (zt' J ho) (V.g hn) (O.g hn) a8 hC1b a1<|ii z) ?_;rintro _ _ ⟨s4,_,_,_,aD,aE,rfl,aF,a9,aa⟩;refine Rm z<|Re z z z<|Re z z z<|Ra z<|Rw z<|Wq<|Wm z<|R z (e_p e_i z z a9)<|Wx z (λhcp=>?_) (λhcp=>?_)
 .refine Ws<|R z (bP (parts:=[]) (cs:=[vI 0,sN,sN]) a_6 z z)<|RM z z<|E0 (fs0 (cur':=[vI 0,sN,sN]) m_ z z ((((h3.c G<|atp<|nmA (nmN _)<|nmN _).e h1).c h2<|djs<|mm1 h3.lt G.s).e s4) z z z z) ?_
  rintro _ _ ⟨aG,aH⟩;have ab:=aH.one;refine Ra z<|Rw z ?_
  obtain rfl:=som<|ifT W hcp;exact Wr<|x_ hr (q_ C_ m_ z aG z) z z ⟨bM (bup (bM (bup (bM (bup h6 H) G al0) h1) h2<|m1 ha) s4) ab<|m1 h6.s,none,0,0,[],none,0,0,[],aD,aE,z,ii z,onL,onL,L,a9.c ab<|s_ aa h3.lt<|lt_ (lt_ G.s h1.s) h2.s,o_ aa ho,nd0,al0⟩
 refine Wk<|Wq<|Wq (Wd (X:=noX) 0 (pl_ 13 [11]) mo (by kernel_rfl) λb3 s5 _=>dM z z z ?_)
 obtain ⟨_,aI,am⟩:=bdS<|ifF W hcp;refine dRX z z (at_ (α:=UInt8) k_ z_5 z z z (aF.e s5) aI) ?_;rintro _ ⟨_,_,_,rfl,aJ,aK,_⟩;obtain rfl:=u8 aK;refine dR z z (l0 g_5 z<|aJ.at0 z)<|dR z z (b_s d_5 d_3 z)<|dM z z z<|dR z z (a_8 z)<|dR z z (fd g_2 z)<|dR z z (l0 K_ z<|((a8.e s4).e s5).at (j:=1) z)<|dM z z z<|dM z z z ?_
 obtain ⟨_,aL,an⟩:=bdS am;refine dRX z z (rX k_ z_5 z z (O.g<|(hn.e s4).e s5) z z aL) ?_;rintro _ ⟨_,_,_,rfl,aM⟩;have ae:=lt_ (lt_ ho s4.s) s5.s;obtain ⟨_,aN,Y⟩:=bdS an;refine dE z z (fc call156 z<|m_0 aN (zt' J ae) aM) (.inr λ_ _ h=>E_<|h.1) ?_;rintro _ _ ⟨s7,rfl,_⟩;refine dR z z (nq z z)<|pD<|Wo<|Wc z (λhcq=>?_) (λhcq=>?_)
 .refine Ws<|R z (bP (parts:=[]) (cs:=[vI 0,sN,sN]) a_6 z z)<|RM z z ?_
  have af:=lt_ ae s7.s;obtain ⟨_,aO,ao⟩:=bdS<|ifT Y hcq;refine E z (fc call166 z<|e_L aO (zt' J af) a1<|ii z) ?_;rintro _ _ ⟨ai,aP,aQ,rfl,aR,aj⟩;refine E0 (fs0 (cur':=[vI 0,sN,sN]) m_ z z (((((((h3.c G<|atp<|nmA (nmN _)<|nmN _).e h1).c h2<|djs<|mm1 h3.lt G.s).e s4).e s5).e s7).e ai) z z z z) ?_;rintro _ _ ⟨aS,aT⟩;have ak:=aT.one;refine Ra z<|Rw z ?_
  obtain rfl:=som ao;exact Wr<|x_ hr (q_ C_ m_ z aS z) z z ⟨bM (bup (bup (bup (bup (bM (bup (bM (bup h6 H) G al0) h1) h2<|m1 ha) s4) s5) s7) ai) ak<|m1 h6.s,none,0,0,[],none,0,0,[],aP,aQ,z,ii z,onL,onL,L,aR.c ak<|s_ aj h3.lt<|lt_ (lt_ (lt_ (lt_ (lt_ G.s h1.s) h2.s) s4.s) s5.s) s7.s,o_ aj af,nd0,al0⟩
 refine Wk<|Ws<|R z (lN (vs:=[vI rk.number,sl ad ne cf,sl ah ng ci]) C_ m_ z z fid<|(((ay.e s4).e s5).e s7).row 0 3 z)<|Rm z<|R z (add_ z z)<|E0 (fs0 (cur':=[vI rk.number,sl ad ne cf,sl ah ng ci]) m_ z z ((((((h3.c G<|atp<|nmA (nmN _)<|nmN _).e h1).c h2<|djs<|mm1 h3.lt G.s).e s4).e s5).e s7) z z z z) ?_
 rintro _ _ ⟨aU,aV⟩;have ht:=aV.one;refine Ra z<|Rw z ?_
 obtain rfl:=som<|ifF Y hcq;exact Wr<|x_ hr (q_ C_ m_ z aU z) z z ⟨bM (bup (bup (bup (bM (bup (bM (bup h6 H) G al0) h1) h2<|m1 ha) s4) s5) s7) ht<|m1 h6.s,ad,ne,cf,Sx,ah,ng,ci,Sy,.nilIface,([]:List Nat),z,aw,(((((hz.e h1).c h2<|ds<|mnr<|a_.lt hz).e s4).e s5).e s7).c ht (or1 (al_ hj) al0 (a_P (e_ h3.lt) lr):∀k∈Sx,k∉[wb.z]),(((((a0.e h1).c h2<|ds<|mnr<|a_.lt a0).e s4).e s5).e s7).c ht (or1 (ar_ hj) al0 (a_P (e_ h3.lt) lr):∀k∈Sy,k∉[wb.z]),iA _ _,e_O,an_,na_ (nl_ hl) (nr_ hl)<|nj hl,aa_ (b_2 (al_ hj) al0 I)<|b_2 (ar_ hj) al0 I⟩
theorem c_T:∀n,f_n n
  | 0=>⟨⟨λhm=>by intros;exact nomatch (show none=some _ from hm)⟩,⟨λhm=>by intros;exact nomatch (show none=some _ from hm)⟩,⟨λhm=>by intros;exact nomatch (show none=some _ from hm)⟩,⟨λhm=>by intros;exact nomatch (show none=some _ from hm)⟩,⟨λhm=>by intros;exact nomatch (show none=some _ from hm)⟩,⟨λhm=>by intros;exact nomatch (show none=some _ from hm)⟩⟩
  | n+1=>⟨T_w01<|c_T n,T_w1q<|c_T n,T_w1r<|c_T n,T_w1s<|c_T n,T_w1t<|c_T n,T_w1u<|c_T n⟩
theorem W_w01:m_3 (a_g n).impl_fileReader_value:=(c_T n).1
theorem W_w1q:m_4 (a_g n).impl_fileReader_array:=(c_T n).2.1
theorem W_w1r:m_5 (a_g n).impl_fileReader_items:=(c_T n).2.2.1
theorem W_w1s:m_6 (a_g n).impl_fileReader_choice:=(c_T n).2.2.2.1
theorem W_w1t:m_7 (a_g n).impl_fileReader_option:=(c_T n).2.2.2.2.1
theorem W_w1u:m_8 (a_g n).impl_fileReader_checked:=(c_T n).2.2.2.2.2
theorem m_9 {x1:f_}{x2:Int}{x3:Bt}{x4:Int}{res:Val×Int×Int}(hm:i_M n x1 x2 x3 x4=some res)(O:B<=w0.z)(hG:Gl w0 B)(V:repS w0 B (sl A0 N0 C0) x1.rules)(W:inI x2)(Y:repS w0 B (sl A7 N7 C7) x3)(aB:inI x4):h_ prog 97 [(.agg #[sl A0 N0 C0]),vI x2,sl A7 N7 C7,vI x4] w0 (Q17 w0 B res):=by
 unfold i_M at hm
 refine goG func97 z z z λfn hr=>Ws<|E z (fb z) ?_
 rintro _ wc ⟨rfl,a5⟩;have h1:=a5.below;have a6:Blk wc w0.z [sl A0 N0 C0]:=a5.blk;refine E z (fa a_q) ?_;rintro _ wp ⟨rfl,a7⟩;have h4:=a7.below;have h5:Blk wp wc.z [vI 0,sN,sN]:=a7.blk;refine Ra z<|Rw z<|Wq<|Wq ?_
 obtain ⟨aE,aC,a0⟩:=bdS hm;refine Wt (λa w=>∃(xq:Bool),xq=aE/\Sat 62 [(1,vI x2),(2,sl A7 N7 C7),(3,vI x4),(4,pt w0.z),(8,pt wc.z),(34,vB xq)] a/\Below wp.z wp w) ?_ ?_
 .refine Wg<|R z (lN (vs:=[sl A0 N0 C0]) L_ D_ z z fid<|(a6.e h4).row 0 1 z)<|Rm z ?_
  have a8:=(h1.ag B).e h4;obtain ⟨aF,aG,a1⟩:=bdS aC;refine E z (fc call131 z<|m_2 aG (zt' O<|lt_ h1.s h4.s) (V.g a8) W) ?_;rintro _ _ ⟨sd,rfl⟩;refine R z (not_ z)<|Rm z ?_
  rcases bs (!aF) with J | J
  .exact Nh z J<|Nh z J<|R z (pT z J z)<|Rm z<|Nh z z<|Nh z z<|Nh z z<|Nh z z<|R z (pT z z z)<|Rm z<|Nh z z<|Nh z z<|Nh z z<|R z (pT z z z)<|Wl (λ_ q=>⟨true,som<|ifT a1 J,q.k<|s6 z z z z z z,sd⟩)
  have a2:=ifF a1 J;refine Rh z J (mv z)<|Rh z J (lss z z)<|R z (pF z J z)<|Rm z ?_
  rcases bs (decide<|x4<0) with H | H
  .iterate 4 refine Nh z H ?_
   exact R z (pT z H z)<|Rm z<|Nh z z<|Nh z z<|Nh z z<|R z (pT z z z)<|Wl (λ_ q=>⟨true,som<|ifT a2 H,q.k<|s6 z z z z z z,sd⟩)
  have a3:=ifF a2 H;refine Rh z H (mv z)<|Rh z H (mv z) ?_
  have a9:=Y.g<|a8.e sd
  refine Rh z H (lnR k_ z a9)<|Rh z H (X_ z z)<|R z (pF z H z)<|Rm z ?_
  rcases bs (decide<|(x3.length:Int)<x4) with L | L
  .iterate 3 refine Nh z L ?_
   exact R z (pT z L z)<|Wl (λ_ q=>⟨true,som<|ifT a3 L,q.k<|s6 z z z z z z,sd⟩)
  exact Rh z L (mv z)<|Rh z L (lnR k_ z a9)<|Rh z L (X_ z z)<|R z (pF z L z)<|Wl (λ_ q=>⟨decide<|400<(x3.length:Int),som<|ifF a3 L,q.k<|s6 z z z z z z,sd⟩)
 rintro aH aI ⟨xq,rfl,_,G⟩;revert aH;refine Wo<|Wc z (λhcr=>?_) (λhcr=>?_)
 .refine Ws<|R z (bP (parts:=[]) (cs:=[vI 0,sN,sN]) a_6 z z)<|E0 (fs0 (cur':=[vI 0,sN,sN]) m_ z z (h5.e G) z z z z) ?_
  rintro _ _ ⟨aJ,aK⟩;refine Ra z<|Rw z ?_
  obtain rfl:=som<|ifT a0 hcr;exact Wr<|x_ hr (q_ C_ m_ z aJ z) z z ⟨bM (bup (bup h1 h4) G) aK.one<|m1 h1.s,none,0,0,[],none,0,0,[],z,ii z,onL,onL,ii z,ii z,nd0,al0⟩
 refine Wk<|Ws<|R z (lN (vs:=[sl A0 N0 C0]) L_ D_ z z fid<|((a6.e h4).e G).row 0 1 z)<|Rm z<|R z (bP (parts:=[(0,.tmp 36),(1,.tmp 37)]) (cs:=[sl A0 N0 C0,sl A7 N7 C7]) r_X z z)<|E z (fb z) ?_
 rintro _ aa ⟨rfl,ab⟩;have ha:=ab.below;have ad:Blk aa aI.z [sl A0 N0 C0,sl A7 N7 C7]:=ab.blk;refine Rw z<|Wm z<|RM z z ?_
 have ae:=(((h1.ag B).e h4).e G).e ha;have he:=lt_ (lt_ (lt_ h1.s h4.s) G.s) ha.s;have af:=zt' O he;obtain ⟨rs,_,aL,aM,a4⟩:=U_<|ifF a0 hcr;refine E z (fc call132 z<|W_w01.run (B:=aa.z) aM zr (repS.mono (V.g ae) af) (repS.mono (Y.g ae) af) (ad.row 0 2 z) ad.lt W aB) ?_;rintro _ ai ⟨sb,ah,ng,ci,aN,aj,nk,cl,aO,_,_,rfl,aP,ak,al,aQ,ht,aR,hu,hn⟩;refine Rm z ?_
 iterate 3 refine Re z z z ?_
 refine E z (fa a_q) ?_;rintro _ aS ⟨rfl,am⟩;have h2:=am.below;refine E0 (fs0 (cur':=[vI rs.number,sl ah ng ci,sl aj nk cl]) m_ z z (am.blk:Blk aS ai.z [vI 0,sN,sN]) z z z z) ?_;rintro _ an ⟨aT,aU⟩;have h3:=aU.one;refine Ra z<|Rw z<|Ws<|E z (fa s_6) ?_
 rintro _ aV ⟨rfl,ao⟩;have I:=ao.below;have ap:Blk aV an.z [(.pointer none)]:=ao.blk;refine Wn<|Wq<|Wm z<|R z (h_N d_179 (λ_ h=>by cases h) z) ?_
 have aq:=((ht.e h2).c h3<|ds<|mnr<|a_R.lt ht).e I
 rcases bs (aL.isSome) with hcm | hcm
 .obtain ⟨_,_,aW,aD⟩:=Y_<|ifT a4 hcm;have hv:=lt_ he sb.s;refine E z (fc call133 z<|r_V ((((((((hG.e h1).e h4).e G).e ha).e sb).e h2).c h3<|g_ (or0 (e_ lr) (n_<|zt' O hv):∀k∈[ai.z],¬B k)).e I) aq aW ap) ?_;rintro _ _ ⟨ar,rfl,aX,aY,aZ,au,b0,b1⟩;have hw:=aX.one;refine Wx z (λ_=>?_) (λhc=>(bcon z hc).elim)
  refine Wq<|Wd (X:=(· ∈ [wc.z])) 0 (pl_ 12 [9]) mo (by kernel_rfl) λb6 so _=>dR z z (bP (parts:=[]) (cs:=[vI 0,sN,sN]) a_6 z z) ?_;have av:=aY.e so;have aw:=lt_ G.s ha.s;have ax:=lt_ aw sb.s;have ay:=lt_ (lt_ ax h2.s) h3.s;have hx:=mm1 h5.lt ay;refine dR z z (l1 g_177 z (atp hx)<|av.at z)<|dR z z (a_8 z)<|dR z z (fd s_4 z) ?_
  have az:=(aZ.c hw<|atp (or1 (e_<|.inl au) (ds<|mno (a_R.lt ht)<|lt_ h2.s h3.s) (a_P (e_ ap.lt) lr):∀k∈[ar],k∉[an.z])).e so;have aA:∀k∈[ar],k∉[wc.z]:=or1 (e_<|.inl au) (s_ aR h5.lt aw)<|a_P (e_ h5.lt)<|lt_ ay I.s;refine dR z z (l1 g_3 z (atp aA)<|az.at z)<|dR z z (l1 g_177 z (atp hx)<|av.at z)<|dR z z (a_8 z)<|dR z z (fd s_5 z)<|dR z z (l1 g_3 z (atp aA)<|az.at z)<|dE0 z (fs0 (cur':=[vI 0,sN,sN]) m_ z z ((((((((h5.e G).e ha).e sb).e h2).c h3<|djs<|mm1 h5.lt ax).e I).c hw<|djs hx).e so) z z z z) (.inr λ_ _ h=>chgIn (List.mem_singleton.2 z) h.2) ?_
  rintro _ _ ⟨b2,b3⟩;refine dQ z z z<|dQ z z z<|pD<|Wo ?_
  obtain rfl:=som aD;exact Wr<|x_ hr (q_ C_ m_ z b2 z) z z ⟨bM (bup (bM (bup (bM (bup (bup (bup (bup (bup h1 h4) G) ha) sb) h2) h3<|m1 hv) I) hw<|m1<|lt_ (lt_ hv h2.s) h3.s) so) b3.one<|m1 h1.s,none,0,0,[],none,0,0,[],z,ii z,onL,onL,b0,b1,nd0,al0⟩
 refine E z (fc call133 z<|r_U aq hcm) ?_;rintro _ _ ⟨rfl,sf⟩;refine Wx z (λhc=>(bcon hc z).elim) (λ_=>?_)
 refine Wk<|Ws<|R z (lN (vs:=[vI rs.number,sl ah ng ci,sl aj nk cl]) C_ m_ z z fid<|((aT.e I).e sf).row 0 3 z)<|Rm z ?_
 have hy:=lt_ G.s ha.s;refine E0 (fs0 (cur':=[vI rs.number,sl ah ng ci,sl aj nk cl]) m_ z z (((((((h5.e G).e ha).e sb).e h2).c h3<|djs<|mm1 h5.lt<|lt_ hy sb.s).e I).e sf) z z z z) ?_;rintro _ _ ⟨b4,b5⟩;have hz:=b5.one;refine Ra z<|Rw z ?_
 obtain rfl:=som<|ifF a4 hcm;exact Wr<|x_ hr (q_ C_ m_ z b4 z) z z ⟨bM (bup (bup (bM (bup (bup (bup (bup (bup h1 h4) G) ha) sb) h2) h3<|m1<|lt_ he sb.s) I) sf) hz<|m1 h1.s,ah,ng,ci,aN,aj,nk,cl,aO,z,aP,((((ak.e h2).c h3<|ds<|mnr<|a_.lt ak).e I).e sf).c hz<|s_ (al_ hn) h5.lt hy,((((al.e h2).c h3<|ds<|mnr<|a_.lt al).e I).e sf).c hz<|s_ (ar_ hn) h5.lt hy,aQ,ii z,na_ (nl_ hu) (nr_ hu)<|nj hu,aa_ (o_ (al_ hn) he)<|o_ (ar_ hn) he⟩
theorem W_w1v {x1:f_}{x2:Bt}{res:Val×Int×Int}(hm:h_4 n x1 x2=some res)(W:B<=w0.z)(hG:Gl w0 B)(V:repS w0 B (sl A0 N0 C0) x1.rules)(Y:repS w0 B (sl A4 N4 C4) x2):h_ prog 68 [(.agg #[sl A0 N0 C0]),sl A4 N4 C4] w0 (Q17 w0 B res):=by
 unfold h_4 at hm
 refine goG func68 z z z λfn hr=>Ws<|E z (fb z) ?_
 rintro _ wn ⟨rfl,ao⟩;have h2:=ao.below;have hv:Blk wn w0.z [sl A0 N0 C0]:=ao.blk;refine E z (fa a_q) ?_;rintro _ I ⟨rfl,ap⟩;have h1:=ap.below;have ho:Blk I wn.z [vI 0,sN,sN]:=ap.blk;refine Ra z<|Rw z<|Wq ?_
 obtain ⟨bn,ak,bh⟩:=bdS hm;refine Wt (λa w=>∃(xb:Int)(xw:Bt)(xx:List Val)(xc:Int)(xd:Int),(xb,xw,xx,xc,xd)=bn/\∃ae nf cg J ah ni cj L O,Sat 32 [(1,sl A4 N4 C4),(4,pt wn.z),(7,pt O),(8,vI xc),(9,vI xd)] a/\Below I.z I w/\inI xb/\a_ w J (sl ae nf cg) xw/\J.Nodup/\(∀k∈J,I.z<=k)/\a_ w L (sl ah ni cj) xx/\L.Nodup/\(∀k∈L,I.z<=k)/\(∀k∈L,k∉J)/\inI xc/\inI xd/\Blk w O [vI xb,sl ae nf cg,sl ah ni cj]/\I.z<=O/\(∀k∈J,k∉[O])/\(∀k∈L,k∉[O])) ?_ ?_
 .refine Wd (X:=λk=>k∈([]:List Nat)∨I.z<=k) 0 (.rd 0<|.rd 1<|.rd 3<|.br 2 (.br 4 (.rd 5<|.rd 6<|.rd 7<|.rd 8<|.ef 9<|.ef 10<|.rd 11<|.rd 12 .done) 9<|.ef 4<|.rd 5<|.rd 6<|.rd 7<|.rd 8<|.ef 10<|.rd 11<|.rd 12 .done) 9<|.ef 2<|.ef 4<|.rd 5<|.rd 6<|.rd 7<|.rd 8<|.ef 10<|.rd 11<|.rd 12 .done) mo (by kernel_rfl) λaq G _=>?_
  have ar:=(hv.e h1).e G;refine dR z z (lN (vs:=[sl A0 N0 C0]) L_ D_ z z (e_o nm0<|Nat.lt_of_lt_of_le hv.lt h1.s)<|ar.row 0 1 z)<|dR z z (lN (vs:=[sl A0 N0 C0]) L_ D_ z z (e_o nm0<|Nat.lt_of_lt_of_le hv.lt h1.s)<|ar.row 0 1 z)<|dM z z z<|e_C ?_ ?_
  .have hy:=((h2.ag B).e h1).e G;have hz:=lt_ (lt_ h2.s h1.s) G.s;obtain ⟨_,bo,al⟩:=bdS ak;refine dE z z (fc call70 z<|m_1 bo (zt' W hz)<|V.g hy) (.inr λ_ _ h=>E_<|h.1) ?_;rintro _ au ⟨s3,rfl,av⟩;refine e_C ?_ ?_
   .have aw:=hy.e s3;obtain ⟨rp,bp,bq,bt,bi⟩:=U_ al;refine dE z z (fc call97 z<|m_9 bt (zt' W<|lt_ hz s3.s) ((((hG.e h2).e h1).e G).e s3) (V.g aw) av (Y.g aw)<|ii z) (.inr λ_ _ h=>E_<|h.1) ?_;rintro _ ax ⟨ay,az,aA,aB,bu,aC,aD,aE,bv,rfl,bw,aF,aG,bx,bz,a1,aH⟩;refine dM z z z ?_
    iterate 3 refine dR z z (ext_ z z) ?_
    refine dE z z (fa a_q) (.inr λ_ _ h=>E_<|h.2.below) ?_;rintro _ bA ⟨rfl,aI⟩;have a2:=aI.below;have a3:=lt_ G.s s3.s;have a4:=m1<|lt_ a3 ay.s
    refine dE0 z (fs0 (cur':=[vI rp.number,sl az aA aB,sl aC aD aE]) m_ z z (aI.blk:Blk bA ax.z [vI 0,sN,sN]) z z z z) (.inr λ_ _ h=>c_W (atp a4) h.2) ?_;rintro _ _ ⟨bB,bC⟩;have a5:=bC.one;refine dQ z z z<|dQ z z z<|pD ?_
    have aJ:=mnr<|a_.lt aF
    have aK:=mnr<|a_.lt aG
    exact λ_ q=>⟨rp.number,rp.bytes,rp.items,bp,bq,som bi,az,aA,aB,bu,aC,aD,aE,bv,ax.z,q.k<|s5 z z z z z,bM (bup (bup (bup G s3) ay) a2) a5 a4,bw,(aF.e a2).c a5<|ds aJ,nl_ a1,o_ (al_ aH) a3,(aG.e a2).c a5<|ds aK,nr_ a1,o_ (ar_ aH) a3,ds<|nj a1,bx,bz,bB,atp a4,ds aJ,ds aK⟩
   refine dE z z (fa a_q) (.inr λ_ _ h=>E_<|h.2.below) ?_;rintro _ bD ⟨rfl,aL⟩;have hk:=aL.below;have a6:Blk bD au.z [vI 0,sN,sN]:=aL.blk;have aM:=(hy.e s3).e hk;obtain ⟨rq,bE,bF,bG,bj⟩:=U_ al;refine dE z z (fc call97 z<|m_9 bG (zt' W<|lt_ (lt_ hz s3.s) hk.s) (((((hG.e h2).e h1).e G).e s3).e hk) (V.g aM) av (Y.g aM)<|ii z) (.inr λ_ _ h=>E_<|h.1) ?_;rintro _ _ ⟨aN,aO,aP,aQ,bH,aR,aS,aT,bI,rfl,bJ,bK,bL,bN,bO,a7,ht⟩;refine dM z z z ?_
   iterate 3 refine dR z z (ext_ z z) ?_
   have aU:=lt_ G.s s3.s;have a8:=m1 aU;refine dE0 z (fs0 (cur':=[vI rq.number,sl aO aP aQ,sl aR aS aT]) m_ z z (a6.e aN) z z z z) (.inr λ_ _ h=>c_W (atp a8) h.2) ?_;rintro _ _ ⟨bQ,bR⟩;have a9:=bR.one;refine dQ z z z<|dQ z z z<|pD ?_
   have aV:=s_ (al_ ht) a6.lt lr;have aW:=lt_ aU hk.s;have aX:=s_ (ar_ ht) a6.lt lr;exact λ_ q=>⟨rq.number,rq.bytes,rq.items,bE,bF,som bj,aO,aP,aQ,bH,aR,aS,aT,bI,au.z,q.k<|s5 z z z z z,bM (bup (bup (bup G s3) hk) aN) a9 a8,bJ,bK.c a9 aV,nl_ a7,o_ (al_ ht) aW,bL.c a9 aX,nr_ a7,o_ (ar_ ht) aW,ds<|nj a7,bN,bO,bQ,atp a8,aV,aX⟩
  refine dE z z (fa a_q) (.inr λ_ _ h=>E_<|h.2.below) ?_;rintro _ bS ⟨rfl,aY⟩;have hl:=aY.below;have aa:Blk bS aq.z [vI 0,sN,sN]:=aY.blk;have aZ:=(((h2.ag B).e h1).e G).e hl;have b0:=lt_ (lt_ (lt_ h2.s h1.s) G.s) hl.s;obtain ⟨_,bT,bk⟩:=bdS ak;refine dE z z (fc call70 z<|m_1 bT (zt' W b0)<|V.g aZ) (.inr λ_ _ h=>E_<|h.1) ?_;rintro _ _ ⟨s6,rfl,bU⟩;have b1:=aZ.e s6;obtain ⟨rr,bV,bW,bX,bm⟩:=U_ bk;refine dE z z (fc call97 z<|m_9 bX (zt' W<|lt_ b0 s6.s) (((((hG.e h2).e h1).e G).e hl).e s6) (V.g b1) bU (Y.g b1)<|ii z) (.inr λ_ _ h=>E_<|h.1) ?_;rintro _ _ ⟨b2,b3,b4,b5,bY,b6,b7,b8,bZ,rfl,c0,c1,c2,c3,c4,ab,hu⟩;refine dM z z z ?_
  iterate 3 refine dR z z (ext_ z z) ?_
  have ad:=m1 G.s;refine dE0 z (fs0 (cur':=[vI rr.number,sl b3 b4 b5,sl b6 b7 b8]) m_ z z ((aa.e s6).e b2) z z z z) (.inr λ_ _ h=>c_W (atp ad) h.2) ?_;rintro _ _ ⟨c5,c6⟩;have af:=c6.one;refine dQ z z z<|dQ z z z<|pD ?_
  have b9:=s_ (al_ hu) aa.lt s6.s;have ba:=lt_ (lt_ G.s hl.s) s6.s;have bb:=s_ (ar_ hu) aa.lt s6.s;exact λ_ q=>⟨rr.number,rr.bytes,rr.items,bV,bW,som bm,b3,b4,b5,bY,b6,b7,b8,bZ,aq.z,q.k<|s5 z z z z z,bM (bup (bup (bup G hl) s6) b2) af ad,c0,c1.c af b9,nl_ ab,o_ (al_ hu) ba,c2.c af bb,nr_ ab,o_ (ar_ hu) ba,ds<|nj ab,c3,c4,c5,atp ad,b9,bb⟩
 rintro c7 ws ⟨xb,xw,xx,xc,xd,rfl,ae,nf,cg,J,ah,ni,cj,L,O,_,sm,c8,c9,ca,bc,cb,cc,be,cd,bf,ce,cf,_,_,_⟩;revert c7;refine Wo<|Wq<|Wq ?_
 obtain ⟨ch,am,an⟩:=bdS<|un5S bh;refine Wt (λa w=>∃(ai:Bool),ai=ch/\Sat 32 [(4,pt wn.z),(7,pt O),(8,vI xc),(9,vI xd),(26,vB ai)] a/\Below ws.z ws w) ?_ ?_
 .refine Wg<|Rm z<|Rq z z z<|Rm z ?_
  rcases bs (xd==0) with H | H
  .exact Rh z H (mv z)<|Rh z H (mv z)<|Rh z H (lnR k_ z<|Y.g<|((h2.ag B).e h1).e sm)<|Rh z H (lss z z)<|R z (pT z H z)<|Wl (λ_ q=>⟨decide<|xc<(x2.length:Int),som<|ifT am H,q.k<|s5 z z z z z,br ws⟩)
  iterate 4 refine Nh z H ?_
  exact R z (pF z H z)<|Wl (λ_ q=>⟨false,som<|ifF am H,q.k<|s5 z z z z z,br ws⟩)
 rintro ci _ ⟨ai,rfl,_,sa⟩;revert ci;refine Wo<|Wc z (λa0=>?_) (λa0=>?_)
 .refine Ws<|R z (bP (parts:=[]) (cs:=[vI 0,sN,sN]) a_6 z z)<|Rm z<|E0 (fs0 (cur':=[vI 0,sN,sN]) m_ z z ((ho.e sm).e sa) z z z z) ?_
  rintro _ _ ⟨ck,cl⟩;refine Ra z<|Rw z ?_
  obtain rfl:=som<|ifT an a0;exact Wr<|x_ hr (q_ C_ m_ z ck z) z z ⟨bM (bup (bup (bup h2 h1) sm) sa) cl.one<|m1 h2.s,none,0,0,[],none,0,0,[],z,ii z,onL,onL,bf,ii z,nd0,al0⟩
 refine Wk<|Ws<|R z (lN (vs:=[vI xb,sl ae nf cg,sl ah ni cj]) C_ m_ z z fid<|(cf.e sa).row 0 3 z)<|RM z z<|E0 (fs0 (cur':=[vI xb,sl ae nf cg,sl ah ni cj]) m_ z z ((ho.e sm).e sa) z z z z) ?_
 rintro _ _ ⟨cm,cn⟩;have aj:=cn.one;refine Ra z<|Rw z ?_
 obtain rfl:=som<|ifF an a0;have bg:=lt_ h2.s h1.s;exact Wr<|x_ hr (q_ C_ m_ z cm z) z z ⟨bM (bup (bup (bup h2 h1) sm) sa) aj<|m1 h2.s,ae,nf,cg,J,ah,ni,cj,L,z,c8,(c9.e sa).c aj<|s_ bc ho.lt lr,(cb.e sa).c aj<|s_ be ho.lt lr,bf,ce,na_ ca cc<|ds cd,aa_ (o_ bc bg)<|o_ be bg⟩
theorem W_w42 {x1:f_}{x2:Bt}{res:Bool}(hm:i_N n x1 x2=some res)(I:B<=w0.z)(hG:Gl w0 B)(G:repS w0 B (sl A0 N0 C0) x1.rules)(H:repS w0 B (sl A4 N4 C4) x2):h_ prog 67 [(.agg #[sl A0 N0 C0]),sl A4 N4 C4] w0 (Q11 w0 B res):=by
 unfold i_N at hm
 refine goG func67 z z z λfn hr=>Ws<|E z (fb z) ?_
 rintro _ L ⟨rfl,h1⟩;have h:=h1.below;refine Rw z<|Ws<|R z (lN (vs:=[sl A0 N0 C0]) L_ D_ z z fid<|(h1.blk:Blk L w0.z [sl A0 N0 C0]).row 0 1 z)<|Rm z ?_
 obtain ⟨O,_,_,V,J⟩:=U_ hm;refine E z (fc call68 z<|W_w1v V (zt' I h.s) (hG.e h) (G.e h)<|H.e h) ?_;rintro _ W ⟨s2,aa,nb,cc,_,ad,ne,cf,_,rfl,_,_,_,_,_,_,_⟩;refine Rm z ?_
 iterate 3 refine Re z z z ?_
 refine E z (fa a_q) ?_;rintro _ wg ⟨rfl,h3⟩;refine E0 (fs0 (cur':=[vI O.number,sl aa nb cc,sl ad ne cf]) m_ z z (h3.blk:Blk wg W.z [vI 0,sN,sN]) z z z z) ?_;rintro _ _ ⟨_,si⟩;refine Ra z<|Rw z<|Wm z<|Rq z z z<|Rw z ?_
 obtain rfl:=som J;exact Wr<|c_ hr z ⟨bM (bup (bup h s2) h3.below) si.one<|m1<|lt_ h.s s2.s,z⟩
theorem W_w43 {x1:J_}{res:Bool}(hm:j_v n x1=some res)(O:B<=w0.z)(hG:Gl w0 B)(V:repS w0 B (sl A0 N0 C0) x1.registry.versions)(W:repS w0 B (sl A1 N1 C1) x1.log.bytes)(Y:inI x1.log.stored):h_ prog 40 [(.agg #[sl A0 N0 C0,sl A1 N1 C1,vI x1.log.stored])] w0 (Q11 w0 B res):=by
 unfold j_v at hm
 refine goG func40 z z z λfn hr=>Ws<|E z (fb z) ?_
 rintro _ wh ⟨rfl,hq⟩;have h2:=hq.below;have hg:Blk wh w0.z [sl A0 N0 C0,sl A1 N1 C1,vI x1.log.stored]:=hq.blk;refine Rw z<|Wq<|Wq ?_
 obtain ⟨aE,ap,hmr⟩:=bdS hm;refine Wt (λa w=>∃(xj:Bool),xj=aE/\Sat 60 [(1,pt w0.z),(21,vB xj)] a/\Below wh.z wh w) ?_ ?_
 .refine Wg<|Rf z c_P z<|R z (lN (vs:=[sl A0 N0 C0]) e_G d_Q z z fid<|hg.row 0 1 z) ?_
  obtain ⟨aF,aG,hms⟩:=bdS ap;refine E z (fc call62 z<|W_w3n (B:=B) (x1:=(⟨x1.registry.versions⟩:a_c)) aG (zt' O h2.s)<|V.e h2) ?_;rintro _ _ ⟨sc,rfl⟩;refine R z (not_ z)<|Rm z ?_
  rcases bs (!aF) with I | I
  .iterate 4 refine Nh z I ?_
   exact R z (pT z I z)<|Rm z<|Nh z z<|Nh z z<|Nh z z<|R z (pT z z z)<|Wl (λ_ q=>⟨true,som<|ifT hms I,q.k<|s2 z z,sc⟩)
  refine Rh z I (fd c_B z) ?_;have ht:=hg.e sc;refine Rh z I (lN (vs:=[sl A1 N1 C1,vI x1.log.stored]) e_f d_l z z fid<|ht.row 1 2 z) ?_;have hu:=(h2.ag B).e sc;have hv:=lt_ h2.s sc.s;obtain ⟨aH,aI,hmw⟩:=bdS<|ifF hms I;refine Eg z z I z (fc call63 z<|W_w1k (B:=B) (x1:=(⟨x1.log.bytes,x1.log.stored⟩:Log)) aI (zt' O hv) (W.g hu) Y) ?_;rintro _ _ ⟨sf,rfl⟩;refine Rh z I (not_ z)<|R z (pF z I z)<|Rm z ?_
  rcases bs (!aH) with J | J
  .iterate 3 refine Nh z J ?_
   exact R z (pT z J z)<|Wl (λ_ q=>⟨true,som<|ifT hmw J,q.k<|s2 z z,bup sc sf⟩)
  have hx:=hu.e sf;obtain ⟨aJ,aK,aq⟩:=bdS<|ifF hmw J;refine Eg z z J z (fc call64 z<|W_w1m (B:=zn B w0.z wh.z) aK (e_P (zt' O<|lt_ hv sf.s)<|lt_ sc.s sf.s) (repS.mono (V.g hx) d_o) (repS.mono (W.g hx) d_o) Y ((ht.e sf).row 0 3 z)<|atp<|zin (B:=B) (e_ lr)<|e_ hg.lt) ?_;rintro _ _ ⟨aL,_,_,_,rfl,aM⟩;exact Rh z J (lnR b_O z aM)<|Rh z J (X_ z z)<|R z (pF z J z)<|Wl (λ_ q=>⟨decide<|20<(aJ.length:Int),som aq,q.k<|s2 z z,bup (bup sc sf) aL⟩)
 rintro aN _ ⟨xj,rfl,_,s7⟩;revert aN;refine Wo<|Wc z (λhck=>?_) (λhck=>?_)
 .refine Ws<|Rw z ?_
  obtain rfl:=som<|ifT hmr hck;exact Wr<|c_ hr z ⟨bup h2 s7,z⟩
 refine Wk<|Ws<|Rf z c_B z<|Rf z c_6 z ?_
 have hy:=hg.e s7;refine R z (l0 K_ z<|hy.at z) ?_;have hz:=(h2.ag B).e s7;have hl:=lt_ h2.s s7.s;obtain ⟨a5,_,aO,ar⟩:=Y_<|ifF hmr hck;refine E z (fc call65 z<|W_w1l aO (zt' O hl)<|W.g hz) ?_;rintro _ wd ⟨s8,a6,a7,a8,_,rfl,hi,_,_,_⟩;refine Rm z<|Re z z z<|Re z z z<|Ra z<|Rw z<|Wq<|Wm z<|R z (lnR c_D z<|a_.rep hi)<|Rm z<|Wn ?_
 obtain ⟨_,au,a0⟩:=bdS ar;refine Wf (σ:=Unit) (ρ:=Bool) (λ(km:Nat)(_:Unit) a w=>Sat 60 [(1,pt w0.z),(29,sl a6 a7 a8),(30,vI (a5.length:Int)),(31,vI ((km:Nat):Int))] a/\Below wd.z wd w) (λ(_:Unit) a w=>Sat 60 [] a/\Below wd.z wd w) (rQ prog fn<|Q11 w0 B) au ?_ ?_ ?_ ?_ ?_
 .exact λ_ q=>⟨q.k<|s4 z z z z,br wd⟩
 .rintro km _ _ a9 _ a1 ⟨av,s3⟩ aw;refine Wu ?_ av;refine Ws<|Rl z z z<|Wn<|Wq<|Wc z (λ_=>?_) (λhc=>(O_ a1 hc).elim)
  refine Wk<|Wq<|Wb<|Ws ?_
  obtain ⟨xe,aP,ax⟩:=bdS aw;refine RX z (at_ (α:=p_) c_D a_a z z z (or_ (hi.e s3)<|a_.lt hi) aP) ?_;rintro _ ⟨_,_,_,rfl,aQ,aR,_⟩;obtain ⟨aa,ab,ad,rfl,_,_,aS,aT⟩:=f_m aR;refine R z (lN (vs:=[vI xe.kind,Str.v xe.name,vI xe.version,sl aa ab ad]) b_p a_a z z fid aQ)<|E z (fa e_j) ?_
  rintro _ aU ⟨rfl,ae⟩;have L:=ae.below;refine E0 (fs0 (cur':=[vI xe.kind,Str.v xe.name,vI xe.version,sl aa ab ad]) a_a z z (ae.blk:Blk aU a9.z [vI 0,Str.v (⟨[]⟩:Str),vI 0,sN]) z z z z) ?_;rintro _ af ⟨aV,aW⟩;have ha:=aW.one;refine Wn<|Wq ?_
  obtain ⟨aX,a2,a3⟩:=bdS ax;refine Wt (λa w=>∃(xn:Bool),xn=aX/\Sat 60 [(1,pt w0.z),(29,sl a6 a7 a8),(30,vI (a5.length:Int)),(31,vI ((km:Nat):Int)),(58,vB xn)] a/\Below af.z af w) ?_ ?_
  .refine Wd (X:=noX) 0 (pl_ 24 [8,20]) mo (by kernel_rfl) λbf s6 _=>dR z z (fd c_Q z) ?_
   have ho:=aV.e s6;refine dR z z (l0 g_3 z<|ho.at z)<|dR z z (eql z z)<|dM z z z ?_
   rcases bs (xe.kind==1) with G | G
   .refine dRg z z z G z (fd c_P z) ?_;have ah:=((((hy.e s8).e s3).e L).c ha<|djs<|mm1 hg.lt<|lt_ (lt_ s7.s s8.s) s3.s).e s6;refine dRg z z z G z (lN (vs:=[sl A0 N0 C0]) e_G d_Q z z fid<|ah.row 0 1 z)<|dRg z z z G z (fd c_R z)<|dRg z z z G z (l0 g_3 z<|ho.at z) ?_
    have ai:=lt_ hl s8.s;have aj:=lt_ ai s3.s;have ak:∀k∈[a9.z],¬B k:=or0 (e_ lr)<|n_<|zt' O aj;have al:=((((hz.e s8).e s3).e L).c ha<|g_ ak).e s6;obtain ⟨aY,aZ,a4⟩:=bdS<|ifT a2 G;refine dEg z z z G z (fc call66 z<|W_w40 (B:=B) (x1:=(⟨x1.registry.versions⟩:a_c)) aZ (zt' O<|lt_ (lt_ (lt_ aj L.s) ha.s) s6.s) (V.g al) aS) (.inr λ_ _ h=>E_<|h.1) ?_;rintro _ _ ⟨sb,rfl⟩;refine dRg z z z G z (not_ z)<|dRg z z z G z (mv z) ?_
    rcases bs (!aY) with H | H
    .iterate 9 refine dRn z z z H z ?_
     exact dEn z z z H z<|dRn z z z H z<|dRg z z z G z (pT z H z)<|dR z z (pT z G z)<|pD (λ_ q=>⟨true,som<|ifT a4 H,q.k<|s5 z z z z z,bup s6 sb⟩)
    refine dRg z z z H z (fd c_P z)<|dRg z z z H z (fd c_5 z)<|dRg z z z H z (l0 c_f z<|(ah.e sb).at z)<|dRg z z z H z (fd c_R z) ?_
    have am:=ho.e sb;refine dRg z z z H z (l0 g_3 z<|am.at z) ?_;obtain ⟨_,b0,ay⟩:=bdS<|ifF a4 H;refine a_L z z z H z (at_ (α:=f_) b_r D_ z z z (V.g<|al.e sb) b0) ?_;rintro _ ⟨_,_,_,rfl,b1,b2,_⟩;obtain ⟨b3,b4,b5,rfl,b6⟩:=d_H b2;refine dRg z z z H z (lN (vs:=[sl b3 b4 b5]) L_ D_ z z fid b1)<|dRg z z z H z (fd d_P z)<|dRg z z z H z (l0 K_ z<|am.at z) ?_
    have an:=zt' O ai;obtain ⟨b7,b8,az⟩:=bdS ay;refine dEg z z z H z (fc call67 z<|W_w42 (B:=wd.z) b8 (a_K<|lt_ (lt_ (lt_ (lt_ s3.s L.s) ha.s) s6.s) sb.s) (((((((((hG.e h2).e s7).e s8).e s3).e L).c ha<|g_ ak).e s6).e sb).mono an) (repS.mono b6 an)<|aT.g<|(((L.ag<|bl wd.z).c ha<|lg<|m1 s3.s).e s6).e sb) (.inr λ_ _ h=>E_<|h.1) ?_;rintro _ _ ⟨b9,rfl⟩;exact dRg z z z H z (not_ z)<|dRg z z z G z (pF z H z)<|dR z z (pT z G z)<|pD (λ_ q=>⟨!b7,som az,q.k<|s5 z z z z z,bup (bup s6 sb) b9⟩)
   iterate 4 refine dRn z z z G z ?_
   refine dEn z z z G z<|dRn z z z G z<|dRn z z z G z ?_
   iterate 9 refine dRu z z z z ?_
   exact dEu z z z z<|dRu z z z z<|dRn z z z G z<|dR z z (pF z G z)<|pD (λ_ q=>⟨false,som<|ifF a2 G,q.k<|s5 z z z z z,s6⟩)
  rintro ba _ ⟨xn,rfl,_,ao⟩;revert ba;refine Wo<|Wc z (λhcp=>?_) (λhcp=>?_)
  .exact Ws<|Rw z<|Wr<|rtO<|qL (som<|ifT a3 hcp).symm<|c_ hr z ⟨bup (bM (bup (bup (bup (bup h2 s7) s8) s3) L) ha<|m1<|lt_ (lt_ hl s8.s) s3.s) ao,z⟩
  exact Wk<|Wg<|R z (inc_ a1 (lt_ (a_.len hi) z_) z z)<|Rm z<|Wl (λ_ q=>⟨(),(som<|ifF a3 hcp).symm,⟨q.k<|s4 z z z z,bup (bM (bup s3 L) ha<|m1 s3.s) ao⟩⟩)
 .rintro _ _ _ ⟨aA,bb⟩;refine Wu ?_ aA;refine Ws<|Rl z z z<|Wn<|Wq<|Wc z (λhc=>(P_ hc).elim) (λ_=>?_)
  exact We<|λ_ q=>⟨rfl,⟨q.k sn,bb⟩⟩
 .rintro _ bc _ rfl ⟨_,be⟩;have aB:=elL a0;revert bc;refine Wo<|Ws<|Rw z ?_
  obtain rfl:=som aB;exact Wr<|c_ hr z ⟨bup (bup (bup h2 s7) s8) be,z⟩
 rintro _ _ _ _ rfl ⟨rfl,aC⟩;have aD:=elR a0;obtain rfl:=som aD;exact ⟨aC,z⟩
theorem W_w44 {x1:J_}{res:(List r_)}(hm:l_w n x1=some res)(J:B<=w0.z)(a0:repS w0 B (sl A0 N0 C0) x1.registry.versions)(H:repS w0 B (sl A1 N1 C1) x1.log.bytes)(I:inI x1.log.stored):h_ prog 41 [(.agg #[sl A0 N0 C0,sl A1 N1 C1,vI x1.log.stored])] w0 (Q15 w0 B res):=by
 unfold l_w at hm
 refine goG func41 z z z λfn hr=>Ws<|E z (fb z) ?_
 rintro _ O ⟨rfl,h5⟩;have h1:=h5.below;have h2:Blk O w0.z [sl A0 N0 C0,sl A1 N1 C1,vI x1.log.stored]:=h5.blk;refine Rw z<|Wq<|Ws<|Rf z c_B z<|R z (lN (vs:=[sl A1 N1 C1,vI x1.log.stored]) e_f d_l z z fid<|h2.row 1 2 z) ?_
 obtain ⟨_,eb,L⟩:=bdS hm;refine E z (fc call63 z<|W_w1k (B:=B) (x1:=(⟨x1.log.bytes,x1.log.stored⟩:Log)) eb (zt' J h1.s) (H.e h1) I) ?_;rintro _ _ ⟨h,rfl⟩;refine R z (not_ z)<|Wx z (λG=>?_) (λG=>?_)
 .refine Ws<|E z (f0 (α:=r_) c_h) ?_
  rintro _ _ ⟨ac,nd,ce,rfl,sf,V⟩;refine Rw z ?_
  obtain rfl:=som<|ifT L G;exact Wr<|c_ hr z ⟨bup (bup h1 h) sf,ac,nd,ce,z,repS.mono (or_ V<|zin (B:=B) (e_ lr)<|a_.lt V)<|b_I (lt_ h1.s h.s) lr⟩
 refine Wk<|Ws ?_
 have W:=(h1.ag B).e h;have Y:=lt_ h1.s h.s;obtain ⟨_,eg,hmh⟩:=bdS<|ifF L G;refine E z (fc call64 z<|W_w1m (B:=zn B w0.z O.z) eg (e_P (zt' J Y) h.s) (repS.mono (a0.g W) d_o) (repS.mono (H.g W) d_o) I ((h2.e h).row 0 3 z)<|atp<|zin (B:=B) (e_ lr)<|e_ h2.lt) ?_;rintro _ _ ⟨sa,ai,nj,ck,rfl,hl⟩;refine Rw z ?_
 obtain rfl:=som hmh;exact Wr<|c_ hr z ⟨bup (bup h1 h) sa,ai,nj,ck,z,repS.mono hl<|zns (zns d_o<|znI lr<|lt_ h.s sa.s)<|znI Y lr⟩
theorem W_w45 {x1:J_}{res:(List r_)}(hm:j_w n x1=some res)(L:B<=w0.z)(hG:Gl w0 B)(H:repS w0 B (sl A0 N0 C0) x1.registry.versions)(I:repS w0 B (sl A1 N1 C1) x1.log.bytes)(J:inI x1.log.stored):h_ prog 21 [(.agg #[sl A0 N0 C0,sl A1 N1 C1,vI x1.log.stored])] w0 (Q15 w0 B res):=by
 unfold j_w at hm
 refine goG func21 z z z λfn hr=>Ws<|E z (fb z) ?_
 rintro _ Y ⟨rfl,h3⟩;have h:=h3.below;have h4:Blk Y w0.z [sl A0 N0 C0,sl A1 N1 C1,vI x1.log.stored]:=h3.blk;refine Rw z<|Wq<|Ws<|R z (lN (vs:=[sl A0 N0 C0,sl A1 N1 C1,vI x1.log.stored]) d_K c_S z z fid<|h4.row 0 3 z) ?_
 obtain ⟨_,ea,O⟩:=bdS hm;refine E z (fc call40 z<|W_w43 ea (zt' L h.s) (hG.e h) (H.e h) (I.e h) J) ?_;rintro _ _ ⟨s1,rfl⟩;refine R z (not_ z)<|Wx z (λG=>?_) (λG=>?_)
 .refine Ws<|E z (f0 (α:=r_) c_h) ?_
  rintro _ _ ⟨ab,nc,cd,rfl,se,h6⟩;refine Rw z ?_
  obtain rfl:=som<|ifT O G;exact Wr<|c_ hr z ⟨bup (bup h s1) se,ab,nc,cd,z,repS.mono (or_ h6<|zin (B:=B) (e_ lr)<|a_.lt h6)<|b_I (lt_ h.s s1.s) lr⟩
 refine Wk<|Ws<|R z (lN (vs:=[sl A0 N0 C0,sl A1 N1 C1,vI x1.log.stored]) d_K c_S z z fid<|(h4.e s1).row 0 3 z) ?_
 have V:=(h.ag B).e s1;have W:=lt_ h.s s1.s;obtain ⟨_,ef,hmg⟩:=bdS<|ifF O G;refine E z (fc call41 z<|W_w44 ef (zt' L W) (H.g V) (I.g V) J) ?_;rintro _ _ ⟨sh,ai,nj,ck,rfl,hl⟩;refine Rw z ?_
 obtain rfl:=som hmg;exact Wr<|c_ hr z ⟨bup (bup h s1) sh,ai,nj,ck,z,repS.mono hl<|b_I W lr⟩
def Q32 (w0:World)(B:Zone)(r:T_)(v:Value)(w':World):Prop:=Bw w0 w'/\(λh=>(.agg #[vI h.at_,vI h.code])=v/\inI h.at_/\inI h.code) r
theorem h_r {x1:a_5}{b1 o1:Nat}{x2:Int}{x3:Int}{res:T_}(hm:e_B x1 x2 x3=some res)(Y:B<=w0.z)(O:repS w0 B (sl A0 N0 C0) x1.d.rules)(H:repS w0 B (sl A1 N1 C1) x1.b)(V:inI x1.applied)(hC1:R_ w0 b1 o1 [sl A0 N0 C0,sl A1 N1 C1,vI x1.applied])(hC1b:B b1)(I:inI x2)(W:inI x3):h_ prog 173 [(.pointer<|some ⟨b1,o1,none⟩),vI x2,vI x3] w0 (Q32 w0 B res):=by
 unfold e_B at hm
 refine goG func173 z z z λfn hr=>Ws<|E z (fa b_P) ?_
 rintro _ J ⟨rfl,h2⟩;have h:=h2.below;have h3:Blk J w0.z [vI 0,vI 0]:=h2.blk;refine Wn<|Wq<|Wm z<|Rm z<|R z (a_8 z)<|Rf z e_g z<|R z (l0 K_ z<|(hC1.e h).at (j:=1) z)<|R z (lnR k_ z<|H.e h)<|Rm z<|R z (sb_ z z)<|R z (X_ z z)<|Wx z (λG=>?_) (λG=>?_)
 .refine Wm z<|R z (bP (parts:=[(0,.tmp 16),(1,.const<|.int .i64 1)]) (cs:=[vI x2,vI 1]) c_O z z)<|E0 (fs0 (cur':=[vI x2,vI 1]) B_ z z h3 z z z z) ?_
  rintro _ _ ⟨h5,s6⟩;refine Wn ?_;obtain rfl:=som<|ifT hm G;exact Wr<|c_ hr (q_ a_l B_ z h5 z) ⟨bM h s6.one<|e_ lr,z,I,ii z⟩
 refine Wk<|Wm z<|Rm z<|R z (add_ z z)<|R z (bP (parts:=[(0,.tmp 20),(1,.const<|.int .i64 0)]) (cs:=[vI (b_ x2 x3),vI 0]) c_O z z)<|E0 (fs0 (cur':=[vI (b_ x2 x3),vI 0]) B_ z z h3 z z z z) ?_
 rintro _ _ ⟨L,s8⟩;refine Wn ?_;obtain rfl:=som<|ifF hm G;exact Wr<|c_ hr (q_ a_l B_ z L z) ⟨bM h s8.one<|e_ lr,z,iA _ _,ii z⟩
def Q33 (w0:World)(g1:Nat)(B:Zone)(A0:Option Addr)(N0 C0:Nat)(A1:Option Addr)(N1 C1:Nat)(x1:a_5)(r:Int×T_×Int)(v:Value)(w':World):Prop:=Cg [g1] w0 w'/\un3 (λG h H=>v = .tuple #[vI G,(.agg #[vI h.at_,vI h.code])]/\inI G/\inI h.at_/\inI h.code/\inI H/\Blk w' g1 [sl A0 N0 C0,sl A1 N1 C1,vI H]) r
theorem k_0 {x1:a_5}{g1:Nat}{x2:Int}{x3:Int}{res:Int×T_×Int}(hm:f_b x1 x2 x3=some res)(hB1:Blk w0 g1 [sl A0 N0 C0,sl A1 N1 C1,vI x1.applied])(L:B<=w0.z)(hBg:¬B g1)(O:repS w0 B (sl A0 N0 C0) x1.d.rules)(V:repS w0 B (sl A1 N1 C1) x1.b)(aP:inI x1.applied)(aQ:inI x2)(al:inI x3):h_ prog 171 [pt g1,vI x2,vI x3] w0 (Q33 w0 g1 B A0 N0 C0 A1 N1 C1 x1 res):=by
 unfold f_b at hm
 refine goG func171 z z z λfn hr=>Ws<|Ra z<|E z (fa b_P) ?_
 rintro _ wf ⟨rfl,ho⟩;have hb:=ho.below;have I:Blk wf w0.z [vI 0,vI 0]:=ho.blk;refine Wn<|Wm z<|R z (a_8 z)<|Rf z j_J z ?_
 have hp:=hB1.e hb;refine R z (l0 g_3 z<|hp.at z)<|R z (add_ z z)<|R z (a_8 z)<|Rf z j_J z<|E0 (fs0 (cur':=[sl A0 N0 C0,sl A1 N1 C1,vI<|b_ x1.applied 1]) z_3 z z hp z z z z) ?_
 rintro _ J ⟨hq,ap⟩;have h1:=ap.one;refine Wn<|Wm z<|R z (a_8 z)<|Rf z n_J z<|Rf z a_s z<|R z (l0 a_u z<|hq.at z)<|Rm z ?_
 obtain ⟨xr,aq,am⟩:=bdS hm;have ht:=(hb.ag B).c h1<|g_<|e_ hBg
 refine RX z (at_ (α:=d_) a_2 t_ z z z (O.g ht) aq) ?_;rintro _ ⟨_,_,_,rfl,ar,av,_⟩;obtain ⟨au,ns,cv,aw,nx,cy,az,Y,a0,a1,a2,a3,rfl,_,_,ax,_,_,_,_⟩:=b_3 av;refine R z (lN (vs:=vR xr au ns cv aw nx cy az Y a0 a1 a2 a3) Q_ t_ z z fid ar)<|E z (fa c_q) ?_
 rintro _ wg ⟨rfl,a4⟩;have h4:=a4.below;have a5:Blk wg J.z [(Str.v (⟨[]⟩:Str)),vI 0,vI 0,vB false,sN,sN,sN,sN]:=a4.blk;refine E0 (fs0 (cur':=vR xr au ns cv aw nx cy az Y a0 a1 a2 a3) t_ z z a5 z z z z) ?_;rintro _ a6 ⟨a7,ay⟩;have h2:=ay.one;refine Wn<|Wm z<|Rm z<|Rf z b_1 z<|R z (l0 g_3 z<|a7.at z) ?_
 have hc:=lt_ hb.s h1.s;have hh:=(hq.e h4).c h2<|djs<|mm1 (Blk.lt hB1) hc
 have hi:=(ht.e h4).c h2<|g_ (or0 (e_ lr) (n_<|zt' L hc):∀k∈[J.z],¬B k)
 have hj:=lt_ (lt_ hc h4.s) h2.s;obtain ⟨H,aA,W⟩:=bdS am;refine E z (fc call173 z<|h_r (B:=w0.z) aA (a_K hj) (repS.mono (O.g hi) L) (repS.mono (V.g hi) L) (iA _ _) (hh.row 0 3 z) (Blk.lt hB1) al ax) ?_;rintro _ wa ⟨G,rfl,a8,a9⟩;refine E z (fa b_P) ?_;rintro _ wk ⟨rfl,aa⟩;have h5:=aa.below;refine E0 (fs0 (cur':=[vI H.at_,vI H.code]) B_ z z (aa.blk:Blk wk wa.z [vI 0,vI 0]) z z z z) ?_;rintro _ ab ⟨hl,aB⟩;have h6:=aB.one;refine Wn<|Wq<|Ws<|Rf z d_N z<|R z (l0 g_3 z<|hl.at z)<|R z (nq z z)<|Wx z (λhcm=>?_) (λhcm=>?_)
 .refine Wq (Wd (X:=noX) 4 (pl_ 3 [2]) mo (by kernel_rfl) λaC sd _=>dR z z (lN (vs:=[vI H.at_,vI H.code]) a_l B_ z z fid<|(hl.e sd).row 0 2 z)<|dQ z z z ?_);have ad:=mmr<|Blk.lt hB1
  refine dE0 z (fs0 (cur':=[vI H.at_,vI H.code]) B_ z z (((((((I.c h1<|atp ad).e h4).c h2<|djs<|mm1 I.lt h1.s).e G).e h5).c h6<|djs<|mm1 I.lt<|lt_ (lt_ (lt_ h1.s h4.s) h2.s) G.s).e sd) z z z z) (.inl z) ?_;rintro _ aD ⟨aE,aF⟩;have ae:=aF.one;refine pD<|Wo ?_
  obtain rfl:=som<|ifT W hcm;have af:=lt_ hj G.s;exact Wr<|a_0 hr z (q_ a_l B_ z aE z) ⟨(cM (i_ (cM (i_ (i_ (cM (i_ (cM (i_ (cr [g1] w0) hb:Cg [g1] w0 wf) h1 (io sr):Cg [g1] w0 J) h4:Cg [g1] w0 wg) h2 (mor hc:∀k∈[J.z],k∈[g1]∨w0.z<=k):Cg [g1] w0 a6) G:Cg [g1] w0 wa) h5:Cg [g1] w0 wk) h6 (mor af:∀k∈[wa.z],k∈[g1]∨w0.z<=k):Cg [g1] w0 ab) sd:Cg [g1] w0 aC) ae (mor lr:∀k∈[w0.z],k∈[g1]∨w0.z<=k):Cg [g1] w0 aD),z,ii z,a8,a9,iA _ _,((((hh.e G).e h5).c h6<|djs<|mm1 (Blk.lt hB1) af).e sd).c ae<|djs ad⟩
 refine Wk<|Wq (Wd (X:=noX) 8192 (.rd 0<|.rd 1<|.rd 2<|.rd 3<|.rd 4<|.rd 5<|.rd 6<|.rd 7<|.rd 8<|.rd 9<|.rd 11<|.ef 10<|.rd 12<|.ef 13 .done) mo (by kernel_rfl) λaG s7 _=>dM z z z<|dR z z (a_8 z)<|dR z z (fd e_g z) ?_)
 have he:=lt_ hj G.s;have ah:=(((hh.e G).e h5).c h6<|djs<|mm1 (Blk.lt hB1) he).e s7;refine dR z z (l0 K_ z<|ah.at z)<|dM z z z<|dR z z (fd d_k z) ?_
 have ai:=hl.e s7;refine dR z z (l0 g_3 z<|ai.at z) ?_;obtain ⟨_,aH,an⟩:=bdS<|ifF W hcm;refine dRX z z (rX k_ z_5 z z (V.g<|(((hi.e G).e h5).c h6<|g_ (or0 (e_ lr) (n_<|zt' L he):∀k∈[wa.z],¬B k)).e s7) z z aH) ?_;rintro _ ⟨_,_,_,rfl,aI⟩;refine dR z z (fd d_j z)<|dR z z (l0 g_4 z<|((((a7.e G).e h5).c h6<|djs<|mm1 a5.lt<|lt_ h2.s G.s).e s7).at z)<|dR z z (lN (vs:=[vI H.at_,vI H.code]) a_l B_ z z fid<|ai.row 0 2 z) ?_
 obtain ⟨_,aJ,ao⟩:=bdS an;refine dE z z (fc call192 z<|W_w1n aJ (zt' L<|lt_ (lt_ (lt_ he h5.s) h6.s) s7.s) aI) (.inr λ_ _ h=>E_<|h.1) ?_;rintro _ aK ⟨sn,rfl,aL⟩;refine dQ z z z ?_;have aj:=mmr<|Blk.lt hB1
 refine dE0 z (fs0 (cur':=[vI H.at_,vI H.code]) B_ z z ((((((((I.c h1<|atp aj).e h4).c h2<|djs<|mm1 I.lt h1.s).e G).e h5).c h6<|djs<|mm1 I.lt<|lt_ (lt_ (lt_ h1.s h4.s) h2.s) G.s).e s7).e sn) z z z z) (.inl z) ?_;rintro _ aM ⟨aN,aO⟩;have ak:=aO.one;refine pD<|Wo ?_
 obtain rfl:=som ao;exact Wr<|a_0 hr z (q_ a_l B_ z aN z) ⟨(cM (i_ (i_ (cM (i_ (i_ (cM (i_ (cM (i_ (cr [g1] w0) hb:Cg [g1] w0 wf) h1 (io sr):Cg [g1] w0 J) h4:Cg [g1] w0 wg) h2 (mor hc:∀k∈[J.z],k∈[g1]∨w0.z<=k):Cg [g1] w0 a6) G:Cg [g1] w0 wa) h5:Cg [g1] w0 wk) h6 (mor he:∀k∈[wa.z],k∈[g1]∨w0.z<=k):Cg [g1] w0 ab) s7:Cg [g1] w0 aG) sn:Cg [g1] w0 aK) ak (mor lr:∀k∈[w0.z],k∈[g1]∨w0.z<=k):Cg [g1] w0 aM),z,aL,a8,a9,iA _ _,(ah.e sn).c ak<|djs aj⟩
theorem W_w46 {x1:a_5}{b1 o1:Nat}{x2:d_}{x3:Int}{res:T_}(hm:i_y x1 x2 x3=some res)(af:B<=w0.z)(a6:repS w0 B (sl A0 N0 C0) x1.d.rules)(V:repS w0 B (sl A1 N1 C1) x1.b)(a7:inI x1.applied)(hC1:R_ w0 b1 o1 [sl A0 N0 C0,sl A1 N1 C1,vI x1.applied])(hC1b:B b1)(a8:x2.name.b.length<=LEN)(a9:inI x2.kind)(aa:inI x2.size)(H:repS w0 B (sl A3 N3 C3) x2.bytes)(ab:repS w0 B (sl A5 N5 C5) x2.names)(ad:repS w0 B (sl A2 N2 C2) x2.tags)(ae:repS w0 B (sl A6 N6 C6) x2.kids)(W:inI x3):h_ prog 172 [(.pointer<|some ⟨b1,o1,none⟩),.agg #[Str.v x2.name,vI x2.kind,vI x2.size,vB x2.little,sl A3 N3 C3,sl A5 N5 C5,sl A2 N2 C2,sl A6 N6 C6],vI x3] w0 (Q32 w0 B res):=by
 unfold i_y at hm
 refine goG func172 z z z λfn hr=>Ws<|E z (fb z) ?_
 rintro _ I ⟨rfl,hb⟩;have h:=hb.below;refine E z (fa b_P) ?_;rintro _ G ⟨rfl,hd⟩;have h3:=hd.below;have L:Blk G I.z [vI 0,vI 0]:=hd.blk;refine Wn<|Wq<|Ws<|Rf z b_j z ?_
 have he:=(hb.blk:Blk I w0.z (vR x2 A3 N3 C3 A5 N5 C5 A2 N2 C2 A6 N6 C6)).e h3;refine R z (l0 K_ z<|he.at z) ?_;have O:=(h.ag B).e h3;refine R z (lnR k_ z<|H.g O)<|Rm z<|Wn ?_
 obtain ⟨_,hum,hmc⟩:=bdS hm;refine Wf (σ:=Unit) (ρ:=T_) (λ(k5:Nat)(_:Unit) a w=>Sat 50 [(0,.pointer<|some ⟨b1,o1,none⟩),(2,vI x3),(4,pt w0.z),(6,pt I.z),(10,sl A3 N3 C3),(11,vI (x2.bytes.length:Int)),(12,vI ((k5:Nat):Int))] a/\Below G.z G w) (λ(_:Unit) a w=>Sat 50 [(2,vI x3),(4,pt w0.z),(6,pt I.z)] a/\Below G.z G w) (rQ prog fn<|Q32 w0 B) hum ?_ ?_ ?_ ?_ ?_
 .exact λ_ q=>⟨q.k<|s7 z z z z z z z,br G⟩
 .rintro k5 _ _ _ _ hkf ⟨hSn,s1⟩ hmo;refine Wu ?_ hSn;refine Ws<|Rl z z z<|Wn<|Wq<|Wc z (λ_=>?_) (λhc=>(O_ hkf hc).elim)
  refine Wk<|Wq<|Wb<|Wm z ?_
  obtain ⟨_,ep,hmg⟩:=bdS hmo;have hh:=O.e s1;refine RX z (at_ (α:=UInt8) k_ z_5 z z z (H.g hh) ep) ?_;rintro _ ⟨_,_,_,rfl,hq,ht,_⟩;obtain rfl:=u8 ht;refine R z (l0 g_5 z<|hq.at0 z)<|Ra z<|Rw z<|Wq<|Wm z<|Rm z<|R z (add_ z z)<|Rm z<|R z (a_8 z)<|Rf z e_g z ?_
  have hi:=((hC1.e h).e h3).e s1;refine R z (l0 K_ z<|hi.at (j:=1) z) ?_;have hj:=V.g hh;refine R z (lnR k_ z hj)<|Rq z z z<|Wx z (λJ=>?_) (λJ=>?_)
  .refine Wm z<|R z (bP (parts:=[(0,.tmp 26),(1,.const<|.int .i64 1)]) (cs:=[vI x3,vI 1]) c_O z z)<|E0 (fs0 (cur':=[vI x3,vI 1]) B_ z z (L.e s1) z z z z) ?_
   rintro _ _ ⟨hu,sr⟩;exact Wn<|Wr<|rtO<|qL (som<|ifT hmg J).symm<|c_ hr (q_ a_l B_ z hu z) ⟨bM (bup (bup h h3) s1) sr.one<|m1 h.s,z,W,ii z⟩
  refine Wk<|Wm z<|R z (a_8 z)<|Rf z e_g z<|R z (l0 K_ z<|hi.at (j:=1) z)<|RM z z<|R z (add_ z z) ?_
  obtain ⟨_,es,hmk⟩:=bdS<|ifF hmg J;refine RX z (at_ (α:=UInt8) k_ z_5 z z z hj es) ?_;rintro _ ⟨_,_,_,rfl,hv,hw,_⟩;obtain rfl:=u8 hw;refine R z (l0 g_5 z<|hv.at0 z)<|Rm z<|R z (nq z z)<|Wx z (λhca=>?_) (λhca=>?_)
  .refine Wm z<|Rm z<|R z (add_ z z)<|R z (bP (parts:=[(0,.tmp 41),(1,.const<|.int .i64 2)]) (cs:=[(vI<|b_ x3 ((k5:Nat):Int)),vI 2]) c_O z z)<|E0 (fs0 (cur':=[(vI<|b_ x3 ((k5:Nat):Int)),vI 2]) B_ z z (L.e s1) z z z z) ?_
   rintro _ _ ⟨hx,sy⟩;exact Wn<|Wr<|rtO<|qL (som<|ifT hmk hca).symm<|c_ hr (q_ a_l B_ z hx z) ⟨bM (bup (bup h h3) s1) sy.one<|m1 h.s,z,iA _ _,ii z⟩
  exact Wk<|Wg<|R z (inc_ hkf (lt_ (repS.len H) z_) z z)<|Rm z<|Wl (λ_ q=>⟨(),(som<|ifF hmk hca).symm,⟨q.k<|s7 z z z z z z z,s1⟩⟩)
 .rintro _ _ _ ⟨hSz,a2⟩;refine Wu ?_ hSz;refine Ws<|Rl z z z<|Wn<|Wq<|Wc z (λhc=>(P_ hc).elim) (λ_=>?_)
  exact We<|λ_ q=>⟨rfl,⟨q.k<|s3 z z z,a2⟩⟩
 .rintro _ a3 _ rfl ⟨_,s6⟩;have Y:=elL hmc;revert a3;refine Wo<|Wm z<|Rf z b_j z<|R z (l0 K_ z<|(he.e s6).at z)<|R z (lnR k_ z<|H.g<|O.e s6)<|R z (add_ z z)<|R z (bP (parts:=[(0,.tmp 48),(1,.const<|.int .i64 0)]) (cs:=[(vI<|b_ x3 (x2.bytes.length:Int)),vI 0]) c_O z z)<|E0 (fs0 (cur':=[(vI<|b_ x3 (x2.bytes.length:Int)),vI 0]) B_ z z (L.e s6) z z z z) ?_
  rintro _ _ ⟨a4,a5⟩;refine Wn ?_;obtain rfl:=som Y;exact Wr<|c_ hr (q_ a_l B_ z a4 z) ⟨bM (bup (bup h h3) s6) a5.one<|m1 h.s,z,iA _ _,ii z⟩
 rintro _ _ _ _ rfl ⟨rfl,a0⟩;have a1:=elR hmc;obtain rfl:=som a1;exact ⟨a0,z⟩
def Q34 (w0:World)(g1:Nat)(B:Zone)(A0:Option Addr)(N0 C0:Nat)(A1:Option Addr)(N1 C1:Nat)(x1:a_5)(r:T_×Int)(v:Value)(w':World):Prop:=Cg [g1] w0 w'/\un2 (λh G=>(.agg #[vI h.at_,vI h.code])=v/\inI h.at_/\inI h.code/\inI G/\Blk w' g1 [sl A0 N0 C0,sl A1 N1 C1,vI G]) r
structure m_a (f:a_5->Int->Int->Option (T_×Int)):Prop where
  run:∀{A0 A1:Option Addr}{N0 C0 N1 C1 g1:Nat}{B:Zone}{x1:a_5}{x2:Int}{x3:Int}{res:T_×Int}{w0:World}(hm:f x1 x2 x3=some res)(hB1:Blk w0 g1 [sl A0 N0 C0,sl A1 N1 C1,vI x1.applied])(hBw:B<=w0.z)(hBg:¬B g1)(p1_0:repS w0 B (sl A0 N0 C0) x1.d.rules)(p1_1:repS w0 B (sl A1 N1 C1) x1.b)(p1_2:inI x1.applied)(p2_0:inI x2)(p3_0:inI x3),h_ prog 134 [pt g1,vI x2,vI x3] w0<|Q34 w0 g1 B A0 N0 C0 A1 N1 C1 x1 res
structure m_b (f:a_5->d_->Int->Option (T_×Int)):Prop where
  run:∀{A0 A1 A3 A5 A2 A6:Option Addr}{N0 C0 N1 C1 g1 N3 C3 N5 C5 N2 C2 N6 C6:Nat}{B:Zone}{x1:a_5}{x2:d_}{x3:Int}{res:T_×Int}{w0:World}(hm:f x1 x2 x3=some res)(hB1:Blk w0 g1 [sl A0 N0 C0,sl A1 N1 C1,vI x1.applied])(hBw:B<=w0.z)(hBg:¬B g1)(p1_0:repS w0 B (sl A0 N0 C0) x1.d.rules)(p1_1:repS w0 B (sl A1 N1 C1) x1.b)(p1_2:inI x1.applied)(p2_0:x2.name.b.length<=LEN)(p2_1:inI x2.kind)(p2_2:inI x2.size)(p2_4:repS w0 B (sl A3 N3 C3) x2.bytes)(p2_5:repS w0 B (sl A5 N5 C5) x2.names)(p2_6:repS w0 B (sl A2 N2 C2) x2.tags)(p2_7:repS w0 B (sl A6 N6 C6) x2.kids)(p3_0:inI x3),h_ prog 174 [pt g1,.agg #[Str.v x2.name,vI x2.kind,vI x2.size,vB x2.little,sl A3 N3 C3,sl A5 N5 C5,sl A2 N2 C2,sl A6 N6 C6],vI x3] w0<|Q34 w0 g1 B A0 N0 C0 A1 N1 C1 x1 res
structure m_c (f:a_5->d_->Int->Option (T_×Int)):Prop where
  run:∀{A0 A1 A3 A5 A2 A6:Option Addr}{N0 C0 N1 C1 g1 N3 C3 N5 C5 N2 C2 N6 C6:Nat}{B:Zone}{x1:a_5}{x2:d_}{x3:Int}{res:T_×Int}{w0:World}(hm:f x1 x2 x3=some res)(hB1:Blk w0 g1 [sl A0 N0 C0,sl A1 N1 C1,vI x1.applied])(hBw:B<=w0.z)(hBg:¬B g1)(p1_0:repS w0 B (sl A0 N0 C0) x1.d.rules)(p1_1:repS w0 B (sl A1 N1 C1) x1.b)(p1_2:inI x1.applied)(p2_0:x2.name.b.length<=LEN)(p2_1:inI x2.kind)(p2_2:inI x2.size)(p2_4:repS w0 B (sl A3 N3 C3) x2.bytes)(p2_5:repS w0 B (sl A5 N5 C5) x2.names)(p2_6:repS w0 B (sl A2 N2 C2) x2.tags)(p2_7:repS w0 B (sl A6 N6 C6) x2.kids)(p3_0:inI x3),h_ prog 175 [pt g1,.agg #[Str.v x2.name,vI x2.kind,vI x2.size,vB x2.little,sl A3 N3 C3,sl A5 N5 C5,sl A2 N2 C2,sl A6 N6 C6],vI x3] w0<|Q34 w0 g1 B A0 N0 C0 A1 N1 C1 x1 res
structure m_d (f:a_5->d_->Int->Option (T_×Int)):Prop where
  run:∀{A0 A1 A3 A5 A2 A6:Option Addr}{N0 C0 N1 C1 g1 N3 C3 N5 C5 N2 C2 N6 C6:Nat}{B:Zone}{x1:a_5}{x2:d_}{x3:Int}{res:T_×Int}{w0:World}(hm:f x1 x2 x3=some res)(hB1:Blk w0 g1 [sl A0 N0 C0,sl A1 N1 C1,vI x1.applied])(hBw:B<=w0.z)(hBg:¬B g1)(p1_0:repS w0 B (sl A0 N0 C0) x1.d.rules)(p1_1:repS w0 B (sl A1 N1 C1) x1.b)(p1_2:inI x1.applied)(p2_0:x2.name.b.length<=LEN)(p2_1:inI x2.kind)(p2_2:inI x2.size)(p2_4:repS w0 B (sl A3 N3 C3) x2.bytes)(p2_5:repS w0 B (sl A5 N5 C5) x2.names)(p2_6:repS w0 B (sl A2 N2 C2) x2.tags)(p2_7:repS w0 B (sl A6 N6 C6) x2.kids)(p3_0:inI x3),h_ prog 176 [pt g1,.agg #[Str.v x2.name,vI x2.kind,vI x2.size,vB x2.little,sl A3 N3 C3,sl A5 N5 C5,sl A2 N2 C2,sl A6 N6 C6],vI x3] w0<|Q34 w0 g1 B A0 N0 C0 A1 N1 C1 x1 res
structure m_e (f:a_5->d_->Int->Option (T_×Int)):Prop where
  run:∀{A0 A1 A3 A5 A2 A6:Option Addr}{N0 C0 N1 C1 g1 N3 C3 N5 C5 N2 C2 N6 C6:Nat}{B:Zone}{x1:a_5}{x2:d_}{x3:Int}{res:T_×Int}{w0:World}(hm:f x1 x2 x3=some res)(hB1:Blk w0 g1 [sl A0 N0 C0,sl A1 N1 C1,vI x1.applied])(hBw:B<=w0.z)(hBg:¬B g1)(p1_0:repS w0 B (sl A0 N0 C0) x1.d.rules)(p1_1:repS w0 B (sl A1 N1 C1) x1.b)(p1_2:inI x1.applied)(p2_0:x2.name.b.length<=LEN)(p2_1:inI x2.kind)(p2_2:inI x2.size)(p2_4:repS w0 B (sl A3 N3 C3) x2.bytes)(p2_5:repS w0 B (sl A5 N5 C5) x2.names)(p2_6:repS w0 B (sl A2 N2 C2) x2.tags)(p2_7:repS w0 B (sl A6 N6 C6) x2.kids)(p3_0:inI x3),h_ prog 177 [pt g1,.agg #[Str.v x2.name,vI x2.kind,vI x2.size,vB x2.little,sl A3 N3 C3,sl A5 N5 C5,sl A2 N2 C2,sl A6 N6 C6],vI x3] w0<|Q34 w0 g1 B A0 N0 C0 A1 N1 C1 x1 res
abbrev g_a (n:Nat):Prop:=m_a (a_E n).impl_checker_value/\m_b (a_E n).impl_checker_array/\m_c (a_E n).impl_checker_choice/\m_d (a_E n).impl_checker_option/\m_e (a_E n).impl_checker_checked
theorem T_w03 (ih:g_a n):m_a (i_z n<|a_E n):=by
 obtain ⟨dN,dO,dP,dS,dT⟩:=ih
 constructor
 intro A0 A1 N0 C0 N1 C1 g1 B x1 x2 x3 res w0 hm hB1 J hBg W Y cT cU a0;unfold i_z at hm
 refine goG func134 z z z λfn hr=>Ws<|E z (fa b_P) ?_
 rintro _ H ⟨rfl,bo⟩;have h1:=bo.below;have h6:Blk H w0.z [vI 0,vI 0]:=bo.blk;refine Wn<|Wm z<|R z (a_8 z)<|Rf z n_J z<|Rf z a_s z ?_
 have aL:=hB1.e h1;refine R z (l0 a_u z<|aL.at z)<|Rm z ?_
 obtain ⟨xh,dU,b8⟩:=bdS hm;refine RX z (at_ (α:=d_) a_2 t_ z z z (W.e h1) dU) ?_;rintro _ ⟨_,_,_,rfl,dV,dW,_⟩;obtain ⟨ao,np,cq,ar,ns,ct,au,nv,cw,ai,nj,ck,rfl,a7,a8,hz,a1,a9,aa,he⟩:=b_3 dW;refine R z (lN (vs:=vR xh ao np cq ar ns ct au nv cw ai nj ck) Q_ t_ z z fid dV)<|E z (fa c_q) ?_
 rintro _ O ⟨rfl,bp⟩;have h2:=bp.below;have bq:Blk O H.z [(Str.v (⟨[]⟩:Str)),vI 0,vI 0,vB false,sN,sN,sN,sN]:=bp.blk;refine E0 (fs0 (cur':=vR xh ao np cq ar ns ct au nv cw ai nj ck) t_ z z bq z z z z) ?_;rintro _ V ⟨br,dX⟩;have G:=dX.one;refine Wn<|Wq<|Ws<|Rf z a_O z<|R z (l0 g_3 z<|br.at z)<|Rq z z z<|Wx z (λaz=>?_) (λaz=>?_)
 .refine Wm z<|RM z z ?_
  have bs:=((h1.ag B).e h2).c G<|g_ (or0 (e_ lr) (n_<|zt' J h1.s):∀k∈[H.z],¬B k)
  have bt:=lt_ (lt_ h1.s h2.s) G.s;obtain ⟨_,a2,_,dY,cV⟩:=U_<|ifT b8 az;refine E z (fc call171 z<|k_0 (B:=B) dY ((aL.e h2).c G<|djs<|mm1 (Blk.lt hB1) h1.s) (zt' J bt) hBg (W.g bs) (Y.g bs) cT cU a0) ?_;rintro _ aM ⟨aj,rfl,_,dZ,e0,e1,e2⟩;refine Rm z<|Re z z z<|Re z z z<|E z (fa b_P) ?_
  rintro _ bu ⟨rfl,bv⟩;have aN:=bv.below;refine Ra z<|E0 (fs0 (cur':=[vI a2.at_,vI a2.code]) B_ z z (bv.blk:Blk bu aM.z [vI 0,vI 0]) z z z z) ?_
  rintro _ e3 ⟨e4,e5⟩;have aO:=e5.one;refine Wn<|Ws<|R z (lN (vs:=[vI a2.at_,vI a2.code]) a_l B_ z z fid<|e4.row 0 2 z) ?_
  have bw:=mmr<|Blk.lt hB1
  refine E0 (fs0 (cur':=[vI a2.at_,vI a2.code]) B_ z z (((((h6.e h2).c G<|djs<|mmr h6.lt).c aj<|atp bw).e aN).c aO<|djs<|mm1 h6.lt<|lt_ (lt_ h2.s G.s) aj.s) z z z z) ?_;rintro _ e6 ⟨e7,e8⟩;have bx:=e8.one;refine Wn ?_;obtain rfl:=som cV;have bz:=lt_ bt aj.s;exact Wr<|c_ hr (q_ a_l B_ z e7 z) ⟨(cM (cM (i_ (cM (cM (i_ (i_ (cr [g1] w0) h1:Cg [g1] w0 H) h2:Cg [g1] w0 O) G (mor h1.s:∀k∈[H.z],k∈[g1]∨w0.z<=k):Cg [g1] w0 V) aj (io sr):Cg [g1] w0 aM) aN:Cg [g1] w0 bu) aO (mor bz:∀k∈[aM.z],k∈[g1]∨w0.z<=k):Cg [g1] w0 e3) bx (mor lr:∀k∈[w0.z],k∈[g1]∨w0.z<=k):Cg [g1] w0 e6),z,dZ,e0,e1,((e2.e aN).c aO<|djs<|mm1 (Blk.lt hB1) bz).c bx<|djs bw⟩
 have b9:=ifF b8 az;refine Wk<|Wm z<|R z (a_8 z)<|Rf z j_J z ?_
 have bA:=mm1 (Blk.lt hB1) h1.s;have bB:=(aL.e h2).c G<|djs bA
 refine R z (l0 g_3 z<|bB.at z)<|R z (add_ z z)<|R z (a_8 z)<|Rf z j_J z<|E0 (fs0 (cur':=[sl A0 N0 C0,sl A1 N1 C1,vI<|b_ x1.applied 1]) z_3 z z bB z z z z) ?_
 rintro _ I ⟨ha,e9⟩;have h3:=e9.one;refine Wn<|Wq<|Ws<|Rf z a_O z ?_
 have hb:=br.c h3<|atp bA
 refine R z (l0 g_3 z<|hb.at z)<|Wn<|Wb<|Ws<|Rq z z z<|Rw z<|Wc z (λaA=>?_) (λaA=>?_)
 .refine Wm z<|R z (lN (vs:=vR xh ao np cq ar ns ct au nv cw ai nj ck) Q_ t_ z z fid<|hb.row 0 8 z)<|Rm z ?_
  have bC:∀k∈[H.z],¬B k:=or0 (e_ lr)<|n_<|zt' J h1.s;have bD:=(((h1.ag B).e h2).c G<|g_ bC).c h3<|g_<|e_ hBg
  have ak:=((h2.ag B).c G<|g_ bC).c h3<|g_<|e_ hBg
  obtain ⟨bE,ea,cW⟩:=bdS<|ifT b9 aA;refine E z (fc call172 z<|W_w46 (B:=w0.z) ea (a_K<|lt_ (lt_ (lt_ h1.s h2.s) G.s) h3.s) (repS.mono (W.g bD) J) (repS.mono (Y.g bD) J) (iA _ _) (ha.row 0 3 z) (Blk.lt hB1) a7 a8 hz (repS.mono (a1.g ak) J) (repS.mono (a9.g ak) J) (repS.mono (aa.g ak) J) (repS.mono (he.g ak) J) a0) ?_;rintro _ eb ⟨aP,rfl,ec,ed⟩;have bF:=mmr<|Blk.lt hB1
  refine E0 (fs0 (cur':=[vI bE.at_,vI bE.code]) B_ z z ((((h6.e h2).c G<|djs<|mmr h6.lt).c h3<|atp bF).e aP) z z z z) ?_;rintro _ ee ⟨ef,eg⟩;have bG:=eg.one;refine Wn ?_;obtain rfl:=som cW;exact Wr<|rtO<|c_ hr (q_ a_l B_ z ef z) ⟨(cM (i_ (cM (cM (i_ (i_ (cr [g1] w0) h1:Cg [g1] w0 H) h2:Cg [g1] w0 O) G (mor h1.s:∀k∈[H.z],k∈[g1]∨w0.z<=k):Cg [g1] w0 V) h3 (io sr):Cg [g1] w0 I) aP:Cg [g1] w0 eb) bG (mor lr:∀k∈[w0.z],k∈[g1]∨w0.z<=k):Cg [g1] w0 ee),z,ec,ed,iA _ _,(ha.e aP).c bG<|djs bF⟩
 have ba:=ifF b9 aA;refine Ws<|Rq z z z<|Rw z<|Wc z (λaB=>?_) (λaB=>?_)
 .refine Wm z<|Rm z<|Rf z b_1 z<|R z (l0 g_3 z<|hb.at z) ?_
  have bH:=(((h1.ag B).e h2).c G<|g_ (or0 (e_ lr) (n_<|zt' J h1.s):∀k∈[H.z],¬B k)).c h3<|g_<|e_ hBg
  obtain ⟨bI,eh,cX⟩:=bdS<|ifT ba aB;refine E z (fc call173 z<|h_r (B:=w0.z) eh (a_K<|lt_ (lt_ (lt_ h1.s h2.s) G.s) h3.s) (repS.mono (W.g bH) J) (repS.mono (Y.g bH) J) (iA _ _) (ha.row 0 3 z) (Blk.lt hB1) a0 hz) ?_;rintro _ ei ⟨aQ,rfl,ej,ek⟩;have bJ:=mmr<|Blk.lt hB1
  refine E0 (fs0 (cur':=[vI bI.at_,vI bI.code]) B_ z z ((((h6.e h2).c G<|djs<|mmr h6.lt).c h3<|atp bJ).e aQ) z z z z) ?_;rintro _ em ⟨en,eo⟩;have bK:=eo.one;refine Wn ?_;obtain rfl:=som cX;exact Wr<|rtO<|c_ hr (q_ a_l B_ z en z) ⟨(cM (i_ (cM (cM (i_ (i_ (cr [g1] w0) h1:Cg [g1] w0 H) h2:Cg [g1] w0 O) G (mor h1.s:∀k∈[H.z],k∈[g1]∨w0.z<=k):Cg [g1] w0 V) h3 (io sr):Cg [g1] w0 I) aQ:Cg [g1] w0 ei) bK (mor lr:∀k∈[w0.z],k∈[g1]∨w0.z<=k):Cg [g1] w0 em),z,ej,ek,iA _ _,(ha.e aQ).c bK<|djs bJ⟩
 have bb:=ifF ba aB;refine Ws<|Rq z z z<|Rw z<|Wc z (λaC=>?_) (λaC=>?_)
 .refine Wm z<|Rf z a_1 z<|R z (l0 H_ z<|hb.at z) ?_
  obtain ⟨_,ep,cY⟩:=bdS<|ifT bb aC;have bL:∀k∈[H.z],¬B k:=or0 (e_ lr)<|n_<|zt' J h1.s;refine RX z (at_ (α:=Int) y_ z_3 z z z (he.g<|((h2.ag B).c G<|g_ bL).c h3<|g_<|e_ hBg) ep) ?_;rintro _ ⟨_,_,_,rfl,er,es,_⟩;obtain ⟨rfl,eu⟩:=V_ es;refine R z (l0 g_3 z<|er.at0 z)<|Rm z ?_
  have aR:=(((h1.ag B).e h2).c G<|g_ bL).c h3<|g_<|e_ hBg
  have aS:=lt_ (lt_ (lt_ h1.s h2.s) G.s) h3.s;obtain ⟨_,a3,_,ew,bc⟩:=U_ cY;refine E z (fc call171 z<|k_0 (B:=B) ew ha (zt' J aS) hBg (W.g aR) (Y.g aR) (iA _ _) eu a0) ?_;rintro _ a4 ⟨sf,rfl,ex,bM,ey,aT,bN⟩;refine Rm z<|Re z z z<|Re z z z<|E z (fa b_P) ?_
  rintro _ aU ⟨rfl,bO⟩;have hl:=bO.below;refine Ra z<|E0 (fs0 (cur':=[vI a3.at_,vI a3.code]) B_ z z (bO.blk:Blk aU a4.z [vI 0,vI 0]) z z z z) ?_
  rintro _ bQ ⟨aV,ez⟩;have hn:=ez.one;refine Wn<|Wq<|Ws<|Rf z d_N z<|R z (l0 g_3 z<|aV.at z)<|R z (nq z z)<|Wx z (λaD=>?_) (λaD=>?_)
  .refine Ws<|R z (lN (vs:=[vI a3.at_,vI a3.code]) a_l B_ z z fid<|aV.row 0 2 z) ?_
   have aW:=mmr<|Blk.lt hB1
   refine E0 (fs0 (cur':=[vI a3.at_,vI a3.code]) B_ z z ((((((h6.e h2).c G<|djs<|mmr h6.lt).c h3<|atp aW).c sf<|atp aW).e hl).c hn<|djs<|mm1 h6.lt<|lt_ (lt_ (lt_ h2.s G.s) h3.s) sf.s) z z z z) ?_;rintro _ eA ⟨eB,eC⟩;have bR:=eC.one;refine Wn ?_;obtain rfl:=som<|ifT bc aD;have bS:=lt_ aS sf.s;exact Wr<|rtO<|c_ hr (q_ a_l B_ z eB z) ⟨(cM (cM (i_ (cM (cM (cM (i_ (i_ (cr [g1] w0) h1:Cg [g1] w0 H) h2:Cg [g1] w0 O) G (mor h1.s:∀k∈[H.z],k∈[g1]∨w0.z<=k):Cg [g1] w0 V) h3 (io sr):Cg [g1] w0 I) sf (io sr):Cg [g1] w0 a4) hl:Cg [g1] w0 aU) hn (mor bS:∀k∈[a4.z],k∈[g1]∨w0.z<=k):Cg [g1] w0 bQ) bR (mor lr:∀k∈[w0.z],k∈[g1]∨w0.z<=k):Cg [g1] w0 eA),z,bM,ey,aT,((bN.e hl).c hn<|djs<|mm1 (Blk.lt hB1) bS).c bR<|djs aW⟩
  refine Wk<|Wm z<|Rf z d_k z<|R z (l0 g_3 z<|aV.at z)<|Rm z ?_
  have al:=lt_ aS sf.s;have bT:=(bN.e hl).c hn<|djs<|mm1 (Blk.lt hB1) al
  have bU:=((aR.c sf<|g_<|e_ hBg).e hl).c hn<|g_ (or0 (e_ lr) (n_<|zt' J al):∀k∈[a4.z],¬B k)
  obtain ⟨bV,eD,cZ⟩:=bdS<|ifF bc aD;refine E z (fc call173 z<|h_r (B:=w0.z) eD (a_K<|lt_ (lt_ al hl.s) hn.s) (repS.mono (W.g bU) J) (repS.mono (Y.g bU) J) aT (bT.row 0 3 z) (Blk.lt hB1) bM ex) ?_;rintro _ eE ⟨aX,rfl,eF,eG⟩;have aY:=mmr<|Blk.lt hB1
  refine E0 (fs0 (cur':=[vI bV.at_,vI bV.code]) B_ z z (((((((h6.e h2).c G<|djs<|mmr h6.lt).c h3<|atp aY).c sf<|atp aY).e hl).c hn<|djs<|mm1 h6.lt<|lt_ (lt_ (lt_ h2.s G.s) h3.s) sf.s).e aX) z z z z) ?_;rintro _ eH ⟨eI,eJ⟩;have bW:=eJ.one;refine Wn ?_;obtain rfl:=som cZ;exact Wr<|rtO<|c_ hr (q_ a_l B_ z eI z) ⟨(cM (i_ (cM (i_ (cM (cM (cM (i_ (i_ (cr [g1] w0) h1:Cg [g1] w0 H) h2:Cg [g1] w0 O) G (mor h1.s:∀k∈[H.z],k∈[g1]∨w0.z<=k):Cg [g1] w0 V) h3 (io sr):Cg [g1] w0 I) sf (io sr):Cg [g1] w0 a4) hl:Cg [g1] w0 aU) hn (mor al:∀k∈[a4.z],k∈[g1]∨w0.z<=k):Cg [g1] w0 bQ) aX:Cg [g1] w0 eE) bW (mor lr:∀k∈[w0.z],k∈[g1]∨w0.z<=k):Cg [g1] w0 eH),z,eF,eG,aT,(bT.e aX).c bW<|djs aY⟩
 have be:=ifF bb aC;refine Ws<|Rq z z z<|Rw z<|Wc z (λaE=>?_) (λaE=>?_)
 .refine Wm z<|R z (lN (vs:=vR xh ao np cq ar ns ct au nv cw ai nj ck) Q_ t_ z z fid<|hb.row 0 8 z)<|Rm z ?_
  have bX:∀k∈[H.z],¬B k:=or0 (e_ lr)<|n_<|zt' J h1.s;have bY:=(((h1.ag B).e h2).c G<|g_ bX).c h3<|g_<|e_ hBg
  have am:=((h2.ag B).c G<|g_ bX).c h3<|g_<|e_ hBg
  obtain ⟨bZ,_,eK,d0⟩:=Y_<|ifT be aE;refine E z (fc call174 z<|dO.run (B:=B) eK ha (zt' J<|lt_ (lt_ (lt_ h1.s h2.s) G.s) h3.s) hBg (W.g bY) (Y.g bY) (iA _ _) a7 a8 hz (a1.g am) (a9.g am) (aa.g am) (he.g am) a0) ?_;rintro _ eL ⟨c0,rfl,eM,eN,eO,eP⟩;have aZ:=mmr<|Blk.lt hB1
  refine E0 (fs0 (cur':=[vI bZ.at_,vI bZ.code]) B_ z z ((((h6.e h2).c G<|djs<|mmr h6.lt).c h3<|atp aZ).c c0<|atp aZ) z z z z) ?_;rintro _ eQ ⟨eR,eS⟩;have c1:=eS.one;refine Wn ?_;obtain rfl:=som d0;exact Wr<|rtO<|c_ hr (q_ a_l B_ z eR z) ⟨(cM (cM (cM (cM (i_ (i_ (cr [g1] w0) h1:Cg [g1] w0 H) h2:Cg [g1] w0 O) G (mor h1.s:∀k∈[H.z],k∈[g1]∨w0.z<=k):Cg [g1] w0 V) h3 (io sr):Cg [g1] w0 I) c0 (io sr):Cg [g1] w0 eL) c1 (mor lr:∀k∈[w0.z],k∈[g1]∨w0.z<=k):Cg [g1] w0 eQ),z,eM,eN,eO,eP.c c1<|djs aZ⟩
 have bf:=ifF be aE;refine Ws<|Rq z z z<|Rw z<|Wc z (λaF=>?_) (λaF=>?_)
 .refine Wm z<|R z (bP (parts:=[(0,.tmp 88),(1,.const<|.int .i64 0)]) (cs:=[vI x3,vI 0]) c_O z z)<|E z (fa b_P) ?_
  rintro _ c2 ⟨rfl,c3⟩;have hx:=c3.below;refine E0 (fs0 (cur':=[vI x3,vI 0]) B_ z z (c3.blk:Blk c2 I.z [vI 0,vI 0]) z z z z) ?_;rintro _ L ⟨eT,eU⟩;have hy:=eU.one;refine Wn<|Wq<|Ws<|Rf z a_1 z<|R z (l0 H_ z<|((hb.e hx).c hy<|djs<|mm1 bq.lt<|lt_ G.s h3.s).at z) ?_
  have c4:∀k∈[H.z],¬B k:=or0 (e_ lr)<|n_<|zt' J h1.s;have ab:=lt_ (lt_ (lt_ h1.s h2.s) G.s) h3.s;have an:∀k∈[I.z],¬B k:=or0 (e_ lr)<|n_<|zt' J ab;have c5:=((((h2.ag B).c G<|g_ c4).c h3<|g_<|e_ hBg).e hx).c hy<|g_ an
  refine R z (lnR y_ z<|he.g c5)<|Rm z<|Wn ?_
  obtain ⟨_,d1,bg⟩:=bdS<|ifT bf aF;refine Wf (σ:=Int×Int×Int) (ρ:=T_×Int) (λ(c6:Nat) s a w=>un3 (λxm xc xd=>Sat 145 [(0,pt g1),(6,pt w0.z),(12,pt I.z),(91,sl ai nj ck),(92,vI (xh.kids.length:Int)),(93,vI ((c6:Nat):Int))] a/\Chg (· ∈ ([g1]++[I.z])) L w/\inI xm/\inI xc/\inI xd/\Blk w g1 [sl A0 N0 C0,sl A1 N1 C1,vI xm]/\Blk w I.z [vI xc,vI xd]) s) (λs a w=>un3 (λxm xc xd=>Sat 145 [(6,pt w0.z),(12,pt I.z)] a/\Chg (· ∈ ([g1]++[I.z])) L w/\inI xm/\inI xc/\inI xd/\Blk w g1 [sl A0 N0 C0,sl A1 N1 C1,vI xm]/\Blk w I.z [vI xc,vI xd]) s) (rQ prog fn<|Q34 w0 g1 B A0 N0 C0 A1 N1 C1 x1) d1 ?_ ?_ ?_ ?_ ?_
  .exact λ_ q=>⟨q.k<|s6 z z z z z z,cr ([g1]++[I.z]) L,iA _ _,a0,ii z,(ha.e hx).c hy<|djs<|mm1 (Blk.lt hB1) ab,eT⟩
  .rintro c6 ⟨xm,xc,xd⟩ _ c7 _ bh ⟨d2,ad,ae,af,ap,ah,a5⟩ d3;refine Wu ?_ d2;refine Ws<|Rl z z z<|Wn<|Wq<|Wc z (λ_=>?_) (λhc=>(O_ bh hc).elim)
   refine Wk<|Wq<|Wb<|Ws ?_
   obtain ⟨_,eV,d4⟩:=bdS<|b_Z d3;refine RX z (at_ (α:=Int) y_ z_3 z z z (he.g<|c5.c ad<|nmA (g_<|e_ hBg)<|g_ an) eV) ?_;rintro _ ⟨_,_,_,rfl,eW,eX,_⟩;obtain ⟨rfl,eY⟩:=V_ eX;refine R z (l0 g_3 z<|eW.at0 z)<|Rw z<|Wm z<|Rm z<|Rf z d_k z<|R z (l0 g_3 z<|a5.at z) ?_
   have c8:=((((((h1.ag B).e h2).c G<|g_ c4).c h3<|g_<|e_ hBg).e hx).c hy<|g_ an).c ad<|nmA (g_<|e_ hBg)<|g_ an
   obtain ⟨aq,eZ,f0,bi⟩:=Y_ d4;refine E z (fc call134 z<|dN.run (B:=B) f0 ah (zt' J<|lt_ (lt_ (lt_ ab hx.s) hy.s) ad.s) hBg (W.g c8) (Y.g c8) ae eY af) ?_;rintro _ c9 ⟨b0,rfl,ca,cb,cc,cd⟩;have b1:=mm1 (Blk.lt hB1) ab;refine E0 (fs0 (cur':=[vI aq.at_,vI aq.code]) B_ z z (a5.c b0<|atp b1) z z z z) ?_;rintro _ ce ⟨b2,f1⟩;have av:=f1.one;refine Wn<|Ws<|Rf z d_N z<|R z (l0 g_3 z<|b2.at z)<|R z (nq z z)<|Wx z (λaG=>?_) (λaG=>?_)
   .have f2:Chg (· ∈ ([g1]++[I.z])) L c7:=cM (cr ([g1]++[I.z]) L) ad<|aa_ (io<|a_B sr)<|io<|a_3 sr;exact We<|exO z (λ_ q=>a_Q (som<|ifT bi aG).symm ⟨q.k<|s2 z z,(cM (cM f2 b0 (io<|a_B sr):Chg (· ∈ ([g1]++[I.z])) L c9) av (io<|a_3 sr):Chg (· ∈ ([g1]++[I.z])) L ce),cc,ca,cb,cd.c av<|djs b1,b2⟩)
   refine Wk<|Wg<|R z (inc_ bh (lt_ (repS.len he) z_) z z)<|Rm z<|Wl ?_
   exact λ_ q=>⟨(eZ,aq.at_,aq.code),(som<|ifF bi aG).symm,⟨q.k<|s6 z z z z z z,(cM (cM (cM (cr ([g1]++[I.z]) L) ad (aa_ (io<|a_B sr)<|io<|a_3 sr):Chg (· ∈ ([g1]++[I.z])) L c7) b0 (io<|a_B sr):Chg (· ∈ ([g1]++[I.z])) L c9) av (io<|a_3 sr):Chg (· ∈ ([g1]++[I.z])) L ce),cc,ca,cb,cd.c av<|djs b1,b2⟩⟩
  .rintro ⟨xm,xc,xd⟩ _ f3 ⟨d5,f4,ae,af,ap,ah,a5⟩;refine Wu ?_ d5;refine Ws<|Rl z z z<|Wn<|Wq<|Wc z (λhc=>(P_ hc).elim) (λ_=>?_)
   exact We<|λ_ q=>⟨rfl,⟨q.k<|s2 z z,(cM (cr ([g1]++[I.z]) L) f4 (aa_ (io<|a_B sr)<|io<|a_3 sr):Chg (· ∈ ([g1]++[I.z])) L f3),ae,af,ap,ah,a5⟩⟩
  .rintro ⟨xm,xc,xd⟩ f5 f6 rfl ⟨_,cf,ae,af,ap,ah,a5⟩;have d6:=elL bg;revert f5;refine Wo<|Ws<|R z (lN (vs:=[vI xc,vI xd]) a_l B_ z z fid<|a5.row 0 2 z) ?_
   have b3:=mmr<|Blk.lt hB1
   have cg:=mm1 h6.lt<|lt_ (lt_ h2.s G.s) h3.s
   refine E0 (fs0 (cur':=[vI xc,vI xd]) B_ z z ((((((h6.e h2).c G<|djs<|mmr h6.lt).c h3<|atp b3).e hx).c hy<|djs cg).c cf<|atp<|nmA b3<|ds cg) z z z z) ?_;rintro _ f7 ⟨f8,f9⟩;have ch:=f9.one;refine Wn ?_;obtain rfl:=som<|b_Z d6;have ci:∀k∈[I.z],k∈[g1]∨w0.z<=k:=mor ab;exact Wr<|rtO<|c_ hr (q_ a_l B_ z f8 z) ⟨(cM (cM (cM (i_ (cM (cM (i_ (i_ (cr [g1] w0) h1:Cg [g1] w0 H) h2:Cg [g1] w0 O) G (mor h1.s:∀k∈[H.z],k∈[g1]∨w0.z<=k):Cg [g1] w0 V) h3 (io sr):Cg [g1] w0 I) hx:Cg [g1] w0 c2) hy ci:Cg [g1] w0 L) cf (aa_ (io sr) ci):Cg [g1] w0 f6) ch (mor lr:∀k∈[w0.z],k∈[g1]∨w0.z<=k):Cg [g1] w0 f7),z,af,ap,ae,ah.c ch<|djs b3⟩
  rintro _ _ _ _ rfl ⟨rfl,cN⟩;have cO:=elR bg;obtain rfl:=som cO;exact ⟨cN,z⟩
 have bj:=ifF bf aF;refine Ws<|Rq z z z<|Rw z<|Wc z (λaH=>?_) (λaH=>?_)
 .refine Wm z<|R z (lN (vs:=vR xh ao np cq ar ns ct au nv cw ai nj ck) Q_ t_ z z fid<|hb.row 0 8 z)<|Rm z ?_
  have cj:∀k∈[H.z],¬B k:=or0 (e_ lr)<|n_<|zt' J h1.s;have cl:=(((h1.ag B).e h2).c G<|g_ cj).c h3<|g_<|e_ hBg
  have aw:=((h2.ag B).c G<|g_ cj).c h3<|g_<|e_ hBg
  obtain ⟨cm,_,d7,cP⟩:=Y_<|ifT bj aH;refine E z (fc call175 z<|dP.run (B:=B) d7 ha (zt' J<|lt_ (lt_ (lt_ h1.s h2.s) G.s) h3.s) hBg (W.g cl) (Y.g cl) (iA _ _) a7 a8 hz (a1.g aw) (a9.g aw) (aa.g aw) (he.g aw) a0) ?_;rintro _ d8 ⟨cn,rfl,d9,da,db,dc⟩;have b4:=mmr<|Blk.lt hB1
  refine E0 (fs0 (cur':=[vI cm.at_,vI cm.code]) B_ z z ((((h6.e h2).c G<|djs<|mmr h6.lt).c h3<|atp b4).c cn<|atp b4) z z z z) ?_;rintro _ dd ⟨de,df⟩;have co:=df.one;refine Wn ?_;obtain rfl:=som cP;exact Wr<|rtO<|c_ hr (q_ a_l B_ z de z) ⟨(cM (cM (cM (cM (i_ (i_ (cr [g1] w0) h1:Cg [g1] w0 H) h2:Cg [g1] w0 O) G (mor h1.s:∀k∈[H.z],k∈[g1]∨w0.z<=k):Cg [g1] w0 V) h3 (io sr):Cg [g1] w0 I) cn (io sr):Cg [g1] w0 d8) co (mor lr:∀k∈[w0.z],k∈[g1]∨w0.z<=k):Cg [g1] w0 dd),z,d9,da,db,dc.c co<|djs b4⟩
 have bk:=ifF bj aH;refine Ws<|Rq z z z<|Rw z<|Wc z (λaI=>?_) (λaI=>?_)
 .refine Wm z<|R z (lN (vs:=vR xh ao np cq ar ns ct au nv cw ai nj ck) Q_ t_ z z fid<|hb.row 0 8 z)<|Rm z ?_
  have cp:∀k∈[H.z],¬B k:=or0 (e_ lr)<|n_<|zt' J h1.s;have cu:=(((h1.ag B).e h2).c G<|g_ cp).c h3<|g_<|e_ hBg
  have ax:=((h2.ag B).c G<|g_ cp).c h3<|g_<|e_ hBg
  obtain ⟨cv,_,dg,cQ⟩:=Y_<|ifT bk aI;refine E z (fc call176 z<|dS.run (B:=B) dg ha (zt' J<|lt_ (lt_ (lt_ h1.s h2.s) G.s) h3.s) hBg (W.g cu) (Y.g cu) (iA _ _) a7 a8 hz (a1.g ax) (a9.g ax) (aa.g ax) (he.g ax) a0) ?_;rintro _ dh ⟨cx,rfl,di,dj,dk,dl⟩;have b5:=mmr<|Blk.lt hB1
  refine E0 (fs0 (cur':=[vI cv.at_,vI cv.code]) B_ z z ((((h6.e h2).c G<|djs<|mmr h6.lt).c h3<|atp b5).c cx<|atp b5) z z z z) ?_;rintro _ dm ⟨dn,dp⟩;have cy:=dp.one;refine Wn ?_;obtain rfl:=som cQ;exact Wr<|rtO<|c_ hr (q_ a_l B_ z dn z) ⟨(cM (cM (cM (cM (i_ (i_ (cr [g1] w0) h1:Cg [g1] w0 H) h2:Cg [g1] w0 O) G (mor h1.s:∀k∈[H.z],k∈[g1]∨w0.z<=k):Cg [g1] w0 V) h3 (io sr):Cg [g1] w0 I) cx (io sr):Cg [g1] w0 dh) cy (mor lr:∀k∈[w0.z],k∈[g1]∨w0.z<=k):Cg [g1] w0 dm),z,di,dj,dk,dl.c cy<|djs b5⟩
 have bm:=ifF bk aI;refine Ws<|Rq z z z<|Rw z<|Wc z (λaJ=>?_) (λaJ=>?_)
 .refine Wm z<|R z (lN (vs:=vR xh ao np cq ar ns ct au nv cw ai nj ck) Q_ t_ z z fid<|hb.row 0 8 z)<|Rm z ?_
  have cz:∀k∈[H.z],¬B k:=or0 (e_ lr)<|n_<|zt' J h1.s;have cA:=(((h1.ag B).e h2).c G<|g_ cz).c h3<|g_<|e_ hBg
  have ay:=((h2.ag B).c G<|g_ cz).c h3<|g_<|e_ hBg
  obtain ⟨cB,_,dq,cR⟩:=Y_<|ifT bm aJ;refine E z (fc call177 z<|dT.run (B:=B) dq ha (zt' J<|lt_ (lt_ (lt_ h1.s h2.s) G.s) h3.s) hBg (W.g cA) (Y.g cA) (iA _ _) a7 a8 hz (a1.g ay) (a9.g ay) (aa.g ay) (he.g ay) a0) ?_;rintro _ dr ⟨cC,rfl,dt,du,dv,dw⟩;have b6:=mmr<|Blk.lt hB1
  refine E0 (fs0 (cur':=[vI cB.at_,vI cB.code]) B_ z z ((((h6.e h2).c G<|djs<|mmr h6.lt).c h3<|atp b6).c cC<|atp b6) z z z z) ?_;rintro _ dx ⟨dy,dz⟩;have cD:=dz.one;refine Wn ?_;obtain rfl:=som cR;exact Wr<|rtO<|c_ hr (q_ a_l B_ z dy z) ⟨(cM (cM (cM (cM (i_ (i_ (cr [g1] w0) h1:Cg [g1] w0 H) h2:Cg [g1] w0 O) G (mor h1.s:∀k∈[H.z],k∈[g1]∨w0.z<=k):Cg [g1] w0 V) h3 (io sr):Cg [g1] w0 I) cC (io sr):Cg [g1] w0 dr) cD (mor lr:∀k∈[w0.z],k∈[g1]∨w0.z<=k):Cg [g1] w0 dx),z,dt,du,dv,dw.c cD<|djs b6⟩
 refine Wk<|Wq (Wd (X:=noX) 0 (pl_ 17 [9]) mo (by kernel_rfl) λcE sg _=>dM z z z<|dR z z (a_8 z)<|dR z z (fd e_g z) ?_)
 have b7:=ha.e sg;refine dR z z (l0 K_ z<|b7.at z)<|dM z z z<|dR z z (fd b_j z)<|dR z z (l0 K_ z<|(hb.e sg).at z) ?_
 obtain ⟨_,dA,cS⟩:=bdS<|ifF bm aJ;have cF:∀k∈[H.z],¬B k:=or0 (e_ lr)<|n_<|zt' J h1.s;refine dRX z z (at_ (α:=UInt8) k_ z_5 z z z (a1.g<|(((h2.ag B).c G<|g_ cF).c h3<|g_<|e_ hBg).e sg) dA) ?_;rintro _ ⟨_,_,_,rfl,dB,dC,_⟩;obtain rfl:=u8 dC;refine dR z z (l0 g_5 z<|dB.at0 z) ?_;obtain ⟨_,cG,_,dD,bn⟩:=U_ cS;refine dE z z (fc call165 z<|W_w1p dD (zt' J<|lt_ (lt_ (lt_ (lt_ h1.s h2.s) G.s) h3.s) sg.s) (Y.g<|((((h1.ag B).e h2).c G<|g_ cF).c h3<|g_<|e_ hBg).e sg) a0) (.inr λ_ _ h=>E_<|h.1) ?_;rintro _ cH ⟨a6,_,_,_,_,rfl,_,dF,_,_⟩;refine dM z z z ?_
 iterate 3 refine dR z z (ext_ z z) ?_
 iterate 3 refine dQ z z z ?_
 refine pD<|Wo<|Wq<|Wm z<|R z (not_ z)<|Wx z (λaK=>?_) (λaK=>?_)
 .refine Wm z<|R z (bP (parts:=[(0,.tmp 141),(1,.const<|.int .i64 1)]) (cs:=[vI x3,vI 1]) c_O z z) ?_
  have cI:=mmr<|Blk.lt hB1
  refine E0 (fs0 (cur':=[vI x3,vI 1]) B_ z z (((((h6.e h2).c G<|djs<|mmr h6.lt).c h3<|atp cI).e sg).e a6) z z z z) ?_;rintro _ dG ⟨dH,dI⟩;have cJ:=dI.one;refine Wn ?_;obtain rfl:=som<|ifT bn aK;exact Wr<|c_ hr (q_ a_l B_ z dH z) ⟨(cM (i_ (i_ (cM (cM (i_ (i_ (cr [g1] w0) h1:Cg [g1] w0 H) h2:Cg [g1] w0 O) G (mor h1.s:∀k∈[H.z],k∈[g1]∨w0.z<=k):Cg [g1] w0 V) h3 (io sr):Cg [g1] w0 I) sg:Cg [g1] w0 cE) a6:Cg [g1] w0 cH) cJ (mor lr:∀k∈[w0.z],k∈[g1]∨w0.z<=k):Cg [g1] w0 dG),z,a0,ii z,iA _ _,(b7.e a6).c cJ<|djs cI⟩
 refine Wk<|Wm z<|R z (bP (parts:=[(0,.tmp 143),(1,.const<|.int .i64 0)]) (cs:=[vI cG,vI 0]) c_O z z) ?_
 have cK:=mmr<|Blk.lt hB1
 refine E0 (fs0 (cur':=[vI cG,vI 0]) B_ z z (((((h6.e h2).c G<|djs<|mmr h6.lt).c h3<|atp cK).e sg).e a6) z z z z) ?_;rintro _ dJ ⟨dK,dL⟩;have cL:=dL.one;refine Wn ?_;obtain rfl:=som<|ifF bn aK;exact Wr<|c_ hr (q_ a_l B_ z dK z) ⟨(cM (i_ (i_ (cM (cM (i_ (i_ (cr [g1] w0) h1:Cg [g1] w0 H) h2:Cg [g1] w0 O) G (mor h1.s:∀k∈[H.z],k∈[g1]∨w0.z<=k):Cg [g1] w0 V) h3 (io sr):Cg [g1] w0 I) sg:Cg [g1] w0 cE) a6:Cg [g1] w0 cH) cL (mor lr:∀k∈[w0.z],k∈[g1]∨w0.z<=k):Cg [g1] w0 dJ),z,dF,ii z,iA _ _,(b7.e a6).c cL<|djs cK⟩
theorem T_w1w (ih:g_a n):m_b (i_A n<|a_E n):=by
 obtain ⟨aO,_,_,_,_⟩:=ih
 constructor
 intro A0 A1 A3 A5 A2 A6 N0 C0 N1 C1 g1 N3 C3 N5 C5 N2 C2 N6 C6 B x1 x2 x3 res w0 hm hB1 V hBg a1 a2 aD bt bu bv bw bx bz a3 a4;unfold i_A at hm
 refine goG func174 z z z λfn hr=>Ws<|E z (fb z) ?_
 rintro _ I ⟨rfl,aa⟩;have h6:=aa.below;have ab:Blk I w0.z (vR x2 A3 N3 C3 A5 N5 C5 A2 N2 C2 A6 N6 C6):=aa.blk;refine E z (fa b_P) ?_;rintro _ wr ⟨rfl,ad⟩;have he:=ad.below;have hn:Blk wr I.z [vI 0,vI 0]:=ad.blk;refine Wn<|Wm z<|Rf z a_1 z ?_
 have ae:=ab.e he;refine R z (l0 H_ z<|ae.at z) ?_;obtain ⟨_,aP,aE⟩:=bdS hm;have ho:=(h6.ag B).e he;refine RX z (at_ (α:=Int) y_ z_3 z z z (a3.g ho) aP) ?_;rintro _ ⟨_,_,_,rfl,aQ,aR,_⟩;obtain ⟨rfl,aS⟩:=V_ aR;refine R z (l0 g_3 z<|aQ.at0 z)<|Rm z ?_
 have hj:=lt_ h6.s he.s;obtain ⟨af,rs,_,aT,aF⟩:=U_ aE;refine E z (fc call171 z<|k_0 (B:=B) aT ((hB1.e h6).e he) (zt' V hj) hBg (a1.g ho) (a2.g ho) aD aS a4) ?_;rintro _ h ⟨H,rfl,aU,aV,aW,ah,ai⟩;refine Rm z<|Re z z z<|Re z z z<|E z (fa b_P) ?_
 rintro _ wu ⟨rfl,aj⟩;have L:=aj.below;refine Ra z<|E0 (fs0 (cur':=[vI rs.at_,vI rs.code]) B_ z z (aj.blk:Blk wu h.z [vI 0,vI 0]) z z z z) ?_
 rintro _ wg ⟨ak,aX⟩;have O:=aX.one;refine Wn<|Wq<|Wq ?_
 obtain ⟨aY,a5,a6⟩:=bdS aF;refine Wt (λa w=>∃(xv:Bool),xv=aY/\Sat 46 [(0,pt g1),(2,vI x3),(4,pt w0.z),(6,pt I.z),(7,vI af),(8,pt h.z),(25,vB xv)] a/\Below wg.z wg w) ?_ ?_
 .refine Wg<|Rf z d_N z<|R z (l0 g_3 z<|ak.at z)<|Rq z z z<|Rm z ?_
  rcases bs (rs.code==0) with J | J
  .exact Rh z J (mv z)<|Rh z J (X_ z z)<|R z (pT z J z)<|Wl (λ_ q=>⟨decide<|40<af,som<|ifT a5 J,q.k<|s7 z z z z z z z,br wg⟩)
  exact Nh z J<|Nh z J<|R z (pF z J z)<|Wl (λ_ q=>⟨false,som<|ifF a5 J,q.k<|s7 z z z z z z z,br wg⟩)
 rintro aZ G ⟨xv,rfl,_,s4⟩;revert aZ;refine Wo<|Wc z (λhcw=>?_) (λhcw=>?_)
 .refine Wm z<|R z (bP (parts:=[(0,.tmp 26),(1,.const<|.int .i64 6)]) (cs:=[vI x3,vI 6]) c_O z z) ?_
  have al:=mm1 (Blk.lt hB1) h6.s;refine E0 (fs0 (cur':=[vI x3,vI 6]) B_ z z ((((hn.c H<|atp al).e L).c O<|djs<|mm1 hn.lt H.s).e s4) z z z z) ?_;rintro _ b0 ⟨b1,b2⟩;have am:=b2.one;refine Wn ?_;obtain rfl:=som<|ifT a6 hcw;have an:=lt_ hj H.s;exact Wr<|c_ hr (q_ a_l B_ z b1 z) ⟨(cM (i_ (cM (i_ (cM (i_ (i_ (cr [g1] w0) h6:Cg [g1] w0 I) he:Cg [g1] w0 wr) H (io sr):Cg [g1] w0 h) L:Cg [g1] w0 wu) O (mor an:∀k∈[h.z],k∈[g1]∨w0.z<=k):Cg [g1] w0 wg) s4:Cg [g1] w0 G) am (mor h6.s:∀k∈[I.z],k∈[g1]∨w0.z<=k):Cg [g1] w0 b0),z,a4,ii z,ah,(((ai.e L).c O<|djs<|mm1 (Blk.lt hB1) an).e s4).c am<|djs al⟩
 refine Wk<|Wq ?_
 obtain ⟨_,aG,a7⟩:=bdS<|ifF a6 hcw;refine a_X (σ:=Int×Int×Int×Int) (ρ:=T_×Int) (λs a w=>un4 (λxa xf xb x5=>Sat 46 [(0,pt g1),(4,pt w0.z),(6,pt I.z),(7,vI xa),(8,pt h.z)] a/\Chg (· ∈ ([g1]++[h.z])) G w/\inI xa/\inI xf/\inI xb/\inI x5/\Blk w g1 [sl A0 N0 C0,sl A1 N1 C1,vI xf]/\Blk w h.z [vI xb,vI x5]) s) (λs a w=>un4 (λxa xf xb x5=>Sat 46 [(6,pt I.z),(8,pt h.z)] a/\Chg (· ∈ ([g1]++[h.z])) G w/\inI xa/\inI xf/\inI xb/\inI x5/\Blk w g1 [sl A0 N0 C0,sl A1 N1 C1,vI xf]/\Blk w h.z [vI xb,vI x5]) s) (rQ prog fn<|Q34 w0 g1 B A0 N0 C0 A1 N1 C1 x1) aG ?_ ?_ ?_ ?_
 .exact λ_ q=>⟨q.k<|s5 z z z z z,cr ([g1]++[h.z]) G,aU,ah,aV,aW,((ai.e L).c O<|djs<|mm1 (Blk.lt hB1)<|lt_ hj H.s).e s4,ak.e s4⟩
 .rintro ⟨xa,xf,xb,x5⟩ _ wh _ ⟨aH,sk,ao,hp,hq,hx,ht,hl⟩ aI;refine Wu ?_ aH;refine Wq<|Wq ?_
  obtain ⟨b3,a8,a9⟩:=bdS<|un4S aI;refine Wt (λa w=>∃(xy:Bool),xy=b3/\Sat 46 [(0,pt g1),(4,pt w0.z),(6,pt I.z),(7,vI xa),(8,pt h.z),(34,vB xy)] a/\Below wh.z wh w) ?_ ?_
  .refine Wg<|Rm z<|R z (X_ z z)<|Rm z ?_
   rcases bs (decide<|0<xa) with hcc | hcc
   .exact Rh z hcc (fd d_N z)<|Rh z hcc (l0 g_3 z<|hl.at z)<|Rh z hcc (eql z z)<|R z (pT z hcc z)<|Wl (λ_ q=>⟨x5==0,som<|ifT a8 hcc,q.k<|s6 z z z z z z,br wh⟩)
   iterate 3 refine Nh z hcc ?_
   exact R z (pF z hcc z)<|Wl (λ_ q=>⟨false,som<|ifF a8 hcc,q.k<|s6 z z z z z z,br wh⟩)
  rintro b4 ap ⟨xy,rfl,_,sd⟩;revert b4;refine Wo<|Wc z (λhcz=>?_) (λhcz=>?_)
  .refine Wk<|Wq<|Wb (Wd (X:=noX) 384 (pl_ 9 [7,8]) mo (by kernel_rfl) λb5 si _=>dM z z z<|dR z z (fd a_1 z) ?_)
   have aq:=mmr<|Blk.lt hB1
   have ar:=mm1 ab.lt<|lt_ he.s H.s
   refine dR z z (l0 H_ z<|(((((((ae.c H<|atp aq).e L).c O<|djs ar).e s4).c sk<|atp<|nmA aq<|ds ar).e sd).e si).at z) ?_;obtain ⟨_,b6,aJ⟩:=bdS<|ifT a9 hcz;have W:=lt_ hj H.s;have au:∀k∈[h.z],¬B k:=or0 (e_ lr)<|n_<|zt' V W;have Y:=((((((ho.c H<|g_<|e_ hBg).e L).c O<|g_ au).e s4).c sk<|nmA (g_<|e_ hBg)<|g_ au).e sd).e si;refine dRX z z (at_ (α:=Int) y_ z_3 z z z (a3.g Y) b6) ?_;rintro _ ⟨_,_,_,rfl,b7,b8,_⟩;obtain ⟨rfl,b9⟩:=V_ b8;refine dR z z (l0 g_3 z<|b7.at0 z)<|dR z z (fd d_k z) ?_
   have av:=(hl.e sd).e si;refine dR z z (l0 g_3 z<|av.at z) ?_;obtain ⟨rm,ba,bb,aK⟩:=Y_ aJ;refine dE z z (fc call134 z<|aO.run (B:=B) bb ((ht.e sd).e si) (zt' V<|lt_ (lt_ (lt_ (lt_ (lt_ (lt_ W L.s) O.s) s4.s) sk.s) sd.s) si.s) hBg (a1.g Y) (a2.g Y) hp b9 hq) (.inl z) ?_;rintro _ bc ⟨aw,rfl,be,bf,bg,bh⟩;have ax:=mm1 (Blk.lt hB1) W;refine dE0 z (fs0 (cur':=[vI rm.at_,vI rm.code]) B_ z z (av.c aw<|atp ax) z z z z) (.inl z) ?_;rintro _ bi ⟨bj,bk⟩;have ay:=bk.one;refine pD<|Wo<|Wg<|Rm z<|R z (sb_ z z)<|Ra z<|Wl ?_
   exact λ_ q=>⟨(w_ xa 1,ba,rm.at_,rm.code),(som aK).symm,⟨q.k<|s5 z z z z z,(cM (cM (i_ (i_ (cM (cr ([g1]++[h.z]) G) sk (aa_ (io<|a_B sr)<|io<|a_3 sr):Chg (· ∈ ([g1]++[h.z])) G wh) sd:Chg (· ∈ ([g1]++[h.z])) G ap) si:Chg (· ∈ ([g1]++[h.z])) G b5) aw (io<|a_B sr):Chg (· ∈ ([g1]++[h.z])) G bc) ay (io<|a_3 sr):Chg (· ∈ ([g1]++[h.z])) G bi),iS _ _,bg,be,bf,bh.c ay<|djs ax,bj⟩⟩
  exact We<|λ_ q=>a_Q (som<|ifF a9 hcz).symm ⟨q.k<|s2 z z,(i_ (cM (cr ([g1]++[h.z]) G) sk (aa_ (io<|a_B sr)<|io<|a_3 sr):Chg (· ∈ ([g1]++[h.z])) G wh) sd:Chg (· ∈ ([g1]++[h.z])) G ap),ao,hp,hq,hx,ht.e sd,hl.e sd⟩
 .rintro ⟨xa,xf,xb,x5⟩ bm bn rfl ⟨_,az,ao,hp,hq,hx,ht,hl⟩;have aL:=elL a7;revert bm;refine Wo<|Ws<|R z (lN (vs:=[vI xb,vI x5]) a_l B_ z z fid<|hl.row 0 2 z) ?_
  have a0:=mm1 (Blk.lt hB1) h6.s;have aA:=mm1 hn.lt H.s;refine E0 (fs0 (cur':=[vI xb,vI x5]) B_ z z (((((hn.c H<|atp a0).e L).c O<|djs aA).e s4).c az<|atp<|nmA a0<|ds aA) z z z z) ?_;rintro _ bo ⟨bp,bq⟩;have aB:=bq.one;refine Wn ?_;obtain rfl:=som<|un4S aL;have aC:∀k∈[h.z],k∈[g1]∨w0.z<=k:=mor<|lt_ hj H.s;exact Wr<|c_ hr (q_ a_l B_ z bp z) ⟨(cM (cM (i_ (cM (i_ (cM (i_ (i_ (cr [g1] w0) h6:Cg [g1] w0 I) he:Cg [g1] w0 wr) H (io sr):Cg [g1] w0 h) L:Cg [g1] w0 wu) O aC:Cg [g1] w0 wg) s4:Cg [g1] w0 G) az (aa_ (io sr) aC):Cg [g1] w0 bn) aB (mor h6.s:∀k∈[I.z],k∈[g1]∨w0.z<=k):Cg [g1] w0 bo),z,hq,hx,hp,ht.c aB<|djs a0⟩
 rintro _ _ _ _ rfl ⟨rfl,aM⟩;have aN:=elR a7;obtain rfl:=som aN;exact ⟨aM,z⟩
theorem T_w1x (ih:g_a n):m_c (i_B n<|a_E n):=by
 obtain ⟨ap,_,_,_,_⟩:=ih
 constructor
 intro A0 A1 A3 A5 A2 A6 N0 C0 N1 C1 g1 N3 C3 N5 C5 N2 C2 N6 C6 B x1 x2 x3 res w0 hm hB1 O hBg V W ad b1 b2 b3 b4 b5 L Y a0;unfold i_B at hm
 refine goG func175 z z z λfn hr=>Ws<|E z (fb z) ?_
 rintro _ G ⟨rfl,hq⟩;have h1:=hq.below;have ht:Blk G w0.z (vR x2 A3 N3 C3 A5 N5 C5 A2 N2 C2 A6 N6 C6):=hq.blk;refine E z (fa b_P) ?_;rintro _ wc ⟨rfl,hu⟩;have h6:=hu.below;have J:Blk wc G.z [vI 0,vI 0]:=hu.blk;refine Wn<|Wm z<|Rf z a_1 z ?_
 have hv:=ht.e h6;refine R z (l0 H_ z<|hv.at z) ?_;obtain ⟨_,aq,ae⟩:=bdS hm;have he:=(h1.ag B).e h6;refine RX z (at_ (α:=Int) y_ z_3 z z z (Y.g he) aq) ?_;rintro _ ⟨_,_,_,rfl,ar,au,_⟩;obtain ⟨rfl,av⟩:=V_ au;refine R z (l0 g_3 z<|ar.at0 z)<|Rm z ?_
 have hg:=lt_ h1.s h6.s;obtain ⟨aw,rb,_,ax,hmr⟩:=U_ ae;refine E z (fc call171 z<|k_0 (B:=B) ax ((hB1.e h1).e h6) (zt' O hg) hBg (V.g he) (W.g he) ad av a0) ?_;rintro _ H ⟨h,rfl,_,hw,ay,hh,hi⟩;refine Rm z<|Re z z z<|Re z z z<|E z (fa b_P) ?_
 rintro _ wf ⟨rfl,hx⟩;have h2:=hx.below;refine Ra z<|E0 (fs0 (cur':=[vI rb.at_,vI rb.code]) B_ z z (hx.blk:Blk wf H.z [vI 0,vI 0]) z z z z) ?_
 rintro _ I ⟨hj,az⟩;have h3:=az.one;refine Wn<|Wq<|Ws<|Rf z d_N z<|R z (l0 g_3 z<|hj.at z)<|R z (nq z z)<|Wx z (λhck=>?_) (λhck=>?_)
 .refine Ws<|R z (lN (vs:=[vI rb.at_,vI rb.code]) a_l B_ z z fid<|hj.row 0 2 z) ?_
  have hy:=mm1 (Blk.lt hB1) h1.s;refine E0 (fs0 (cur':=[vI rb.at_,vI rb.code]) B_ z z (((J.c h<|atp hy).e h2).c h3<|djs<|mm1 J.lt h.s) z z z z) ?_;rintro _ aA ⟨aB,aC⟩;have hz:=aC.one;refine Wn ?_;obtain rfl:=som<|ifT hmr hck;have a2:=lt_ hg h.s;exact Wr<|c_ hr (q_ a_l B_ z aB z) ⟨(cM (cM (i_ (cM (i_ (i_ (cr [g1] w0) h1:Cg [g1] w0 G) h6:Cg [g1] w0 wc) h (io sr):Cg [g1] w0 H) h2:Cg [g1] w0 wf) h3 (mor a2:∀k∈[H.z],k∈[g1]∨w0.z<=k):Cg [g1] w0 I) hz (mor h1.s:∀k∈[G.z],k∈[g1]∨w0.z<=k):Cg [g1] w0 aA),z,hw,ay,hh,((hi.e h2).c h3<|djs<|mm1 (Blk.lt hB1) a2).c hz<|djs hy⟩
 refine Wk<|Wq<|Ws<|Rf z b_k z ?_
 have a3:=((hv.c h<|atp<|mmr<|Blk.lt hB1).e h2).c h3<|djs<|mm1 ht.lt<|lt_ h6.s h.s
 refine R z (l0 H_ z<|a3.at z) ?_;have hd:=lt_ hg h.s;have a4:=((he.c h<|g_<|e_ hBg).e h2).c h3<|g_ (or0 (e_ lr) (n_<|zt' O hd):∀k∈[H.z],¬B k)
 refine R z (lnR y_ z<|L.g a4)<|Rm z<|Wn ?_
 obtain ⟨_,af,hms⟩:=bdS<|ifF hmr hck;refine Wf (σ:=Unit) (ρ:=T_×Int) (λ(a5:Nat)(_:Unit) a w=>Sat 49 [(0,pt g1),(2,vI x3),(4,pt w0.z),(6,pt G.z),(7,vI aw),(8,pt H.z),(26,sl A2 N2 C2),(27,vI (x2.tags.length:Int)),(28,vI ((a5:Nat):Int))] a/\Below I.z I w) (λ(_:Unit) a w=>Sat 49 [(2,vI x3),(6,pt G.z)] a/\Below I.z I w) (rQ prog fn<|Q34 w0 g1 B A0 N0 C0 A1 N1 C1 x1) af ?_ ?_ ?_ ?_ ?_
 .exact λ_ q=>⟨q.k<|s9 z z z z z z z z z,br I⟩
 .rintro a5 _ _ aD _ hkl ⟨ah,s8⟩ ai;refine Wu ?_ ah;refine Ws<|Rl z z z<|Wn<|Wq<|Wc z (λ_=>?_) (λhc=>(O_ hkl hc).elim)
  refine Wk<|Wq<|Wb<|Wm z ?_
  obtain ⟨_,aE,a1⟩:=bdS ai;have a6:=a4.e s8;refine RX z (at_ (α:=Int) y_ z_3 z z z (L.g a6) aE) ?_;rintro _ ⟨_,_,_,rfl,aF,aG,_⟩;obtain ⟨rfl,_⟩:=V_ aG;refine R z (l0 g_3 z<|aF.at0 z)<|Ra z<|Rw z<|Wm z<|Rm z<|Rq z z z<|Wx z (λhcm=>?_) (λhcm=>?_)
  .refine Wq (Wd (X:=noX) 1536 (pl_ 11 [9,10]) mo (by kernel_rfl) λaH sa _=>dM z z z<|dR z z (fd a_1 z)<|dR z z (l0 H_ z<|((a3.e s8).e sa).at z)<|dM z z z<|dR z z (inc_ hkl (lt_ (repS.len L) z_) z z) ?_);obtain ⟨_,aI,aj⟩:=bdS<|ifT a1 hcm;have hn:=a6.e sa;refine dRX z z (at_ (α:=Int) y_ z_3 z z z (Y.g hn) aI) ?_;rintro _ ⟨_,_,_,rfl,aJ,aK,_⟩;obtain ⟨rfl,aL⟩:=V_ aK;refine dR z z (l0 g_3 z<|aJ.at0 z)<|dR z z (fd d_k z)<|dR z z (l0 g_3 z<|((hj.e s8).e sa).at z) ?_
   obtain ⟨a7,_,aM,ak⟩:=Y_ aj;refine dE z z (fc call134 z<|ap.run (B:=B) aM ((((hi.e h2).c h3<|djs<|mm1 (Blk.lt hB1) hd).e s8).e sa) (zt' O<|lt_ (lt_ (lt_ (lt_ hd h2.s) h3.s) s8.s) sa.s) hBg (V.g hn) (W.g hn) hh aL hw) (.inl z) ?_;rintro _ aN ⟨a8,rfl,aO,aP,aQ,aR⟩;have ho:=mm1 (Blk.lt hB1) h1.s;refine dE0 z (fs0 (cur':=[vI a7.at_,vI a7.code]) B_ z z ((((((J.c h<|atp ho).e h2).c h3<|djs<|mm1 J.lt h.s).e s8).e sa).c a8<|atp ho) z z z z) (.inl z) ?_;rintro _ aS ⟨aT,aU⟩;have a9:=aU.one;refine pD<|Wo ?_
   exact Wr<|rtO<|qL (som ak).symm<|c_ hr (q_ a_l B_ z aT z) ⟨(cM (cM (i_ (i_ (cM (i_ (cM (i_ (i_ (cr [g1] w0) h1:Cg [g1] w0 G) h6:Cg [g1] w0 wc) h (io sr):Cg [g1] w0 H) h2:Cg [g1] w0 wf) h3 (mor hd:∀k∈[H.z],k∈[g1]∨w0.z<=k):Cg [g1] w0 I) s8:Cg [g1] w0 aD) sa:Cg [g1] w0 aH) a8 (io sr):Cg [g1] w0 aN) a9 (mor h1.s:∀k∈[G.z],k∈[g1]∨w0.z<=k):Cg [g1] w0 aS),z,aO,aP,aQ,aR.c a9<|djs ho⟩
  exact Wk<|Wg<|R z (inc_ hkl (lt_ (repS.len L) z_) z z)<|Rm z<|Wl (λ_ q=>⟨(),(som<|ifF a1 hcm).symm,⟨q.k<|s9 z z z z z z z z z,s8⟩⟩)
 .rintro _ _ _ ⟨al,aV⟩;refine Wu ?_ al;refine Ws<|Rl z z z<|Wn<|Wq<|Wc z (λhc=>(P_ hc).elim) (λ_=>?_)
  exact We<|λ_ q=>⟨rfl,⟨q.k<|s2 z z,aV⟩⟩
 .rintro _ aW aX rfl ⟨_,sp⟩;have am:=elL hms;revert aW;refine Wo<|Wm z<|R z (bP (parts:=[(0,.tmp 47),(1,.const<|.int .i64 3)]) (cs:=[vI x3,vI 3]) c_O z z) ?_
  have aa:=mm1 (Blk.lt hB1) h1.s;refine E0 (fs0 (cur':=[vI x3,vI 3]) B_ z z ((((J.c h<|atp aa).e h2).c h3<|djs<|mm1 J.lt h.s).e sp) z z z z) ?_;rintro _ aY ⟨aZ,b0⟩;have ab:=b0.one;refine Wn ?_;obtain rfl:=som am;exact Wr<|c_ hr (q_ a_l B_ z aZ z) ⟨(cM (i_ (cM (i_ (cM (i_ (i_ (cr [g1] w0) h1:Cg [g1] w0 G) h6:Cg [g1] w0 wc) h (io sr):Cg [g1] w0 H) h2:Cg [g1] w0 wf) h3 (mor hd:∀k∈[H.z],k∈[g1]∨w0.z<=k):Cg [g1] w0 I) sp:Cg [g1] w0 aX) ab (mor h1.s:∀k∈[G.z],k∈[g1]∨w0.z<=k):Cg [g1] w0 aY),z,a0,ii z,hh,(((hi.e h2).c h3<|djs<|mm1 (Blk.lt hB1) hd).e sp).c ab<|djs aa⟩
 rintro _ _ _ _ rfl ⟨rfl,an⟩;have ao:=elR hms;obtain rfl:=som ao;exact ⟨an,z⟩
theorem T_w1y (ih:g_a n):m_d (i_C n<|a_E n):=by
 obtain ⟨ae,_,_,_,_⟩:=ih
 constructor
 intro A0 A1 A3 A5 A2 A6 N0 C0 N1 C1 g1 N3 C3 N5 C5 N2 C2 N6 C6 B x1 x2 x3 res w0 hm hB1 O hBg Y V W aO aP aQ aR aS aT a8 a0;unfold i_C at hm
 refine goG func176 z z z λfn hr=>Ws<|E z (fb z) ?_
 rintro _ I ⟨rfl,hq⟩;have h5:=hq.below;have ht:Blk I w0.z (vR x2 A3 N3 C3 A5 N5 C5 A2 N2 C2 A6 N6 C6):=hq.blk;refine E z (fa b_P) ?_;rintro _ we ⟨rfl,hu⟩;have J:=hu.below;have hc:Blk we I.z [vI 0,vI 0]:=hu.blk;refine Wn<|Wm z<|Rm z ?_
 have hf:=(hB1.e h5).e J;have hg:=(h5.ag B).e J;have hh:=lt_ h5.s J.s;obtain ⟨L,af,a9⟩:=bdS hm;refine E z (fc call173 z<|h_r (B:=w0.z) af (a_K hh) (repS.mono (Y.g hg) O) (repS.mono (V.g hg) O) W (hf.row 0 3 z) (Blk.lt hB1) a0<|ii z) ?_;rintro _ H ⟨h,rfl,hv,ah⟩;refine E z (fa b_P) ?_;rintro _ wi ⟨rfl,hw⟩;have h2:=hw.below;refine E0 (fs0 (cur':=[vI L.at_,vI L.code]) B_ z z (hw.blk:Blk wi H.z [vI 0,vI 0]) z z z z) ?_;rintro _ wa ⟨hj,ai⟩;have h3:=ai.one;refine Wn<|Wq<|Wb<|Wq ?_
 obtain ⟨aj,hur,hms⟩:=bdS a9;refine Wt (λa w=>∃(xk:Bool),xk=aj/\Sat 45 [(0,pt g1),(2,vI x3),(4,pt w0.z),(6,pt I.z),(7,pt H.z),(11,vB xk)] a/\Below wa.z wa w) ?_ ?_
 .refine Wg<|Rf z d_N z<|R z (l0 g_3 z<|hj.at z)<|R z (nq z z)<|Rm z ?_
  rcases bs (L.code != 0) with G | G
  .iterate 8 refine Nh z G ?_
   exact R z (pT z G z)<|Ra z<|Wl (λ_ q=>⟨true,som<|ifT hur G,q.k<|s6 z z z z z z,br wa⟩)
  refine Rh z G (mv z)<|Rh z G (a_8 z)<|Rh z G (fd e_g z) ?_
  have hx:=lt_ hh h.s;refine Rh z G (l0 K_ z<|(((hf.e h).e h2).c h3<|djs<|mm1 (Blk.lt hB1) hx).at z)<|Rh z G (mv z) ?_
  obtain ⟨ak,al,aa⟩:=bdS<|ifF hur G;refine RXg z z G z (at_ (α:=UInt8) k_ z_5 z z z (V.g<|((hg.e h).e h2).c h3<|g_ (or0 (e_ lr) (n_<|zt' O hx):∀k∈[H.z],¬B k)) al) ?_;rintro _ ⟨_,_,_,rfl,am,an,_⟩;obtain rfl:=u8 an;exact Rh z G (l0 g_5 z<|am.at0 z)<|Rh z G (eql z z)<|R z (pF z G z)<|Ra z<|Wl (λ_ q=>⟨(byteI ak)==(byteI (0:UInt8)),som aa,q.k<|s6 z z z z z z,br wa⟩)
 rintro ao wl ⟨xk,rfl,_,s4⟩;revert ao;refine Wo<|Wc z (λhcm=>?_) (λhcm=>?_)
 .refine Ws<|R z (lN (vs:=[vI L.at_,vI L.code]) a_l B_ z z fid<|(hj.e s4).row 0 2 z)<|E0 (fs0 (cur':=[vI L.at_,vI L.code]) B_ z z ((((hc.e h).e h2).c h3<|djs<|mm1 hc.lt h.s).e s4) z z z z) ?_
  rintro _ ap ⟨aq,ar⟩;have hy:=ar.one;refine Wn ?_;obtain rfl:=som<|ifT hms hcm;have hz:=lt_ hh h.s;exact Wr<|rtO<|c_ hr (q_ a_l B_ z aq z) ⟨(cM (i_ (cM (i_ (i_ (i_ (i_ (cr [g1] w0) h5:Cg [g1] w0 I) J:Cg [g1] w0 we) h:Cg [g1] w0 H) h2:Cg [g1] w0 wi) h3 (mor hz:∀k∈[H.z],k∈[g1]∨w0.z<=k):Cg [g1] w0 wa) s4:Cg [g1] w0 wl) hy (mor h5.s:∀k∈[I.z],k∈[g1]∨w0.z<=k):Cg [g1] w0 ap),z,hv,ah,W,((((hf.e h).e h2).c h3<|djs<|mm1 (Blk.lt hB1) hz).e s4).c hy<|djs<|mm1 (Blk.lt hB1) h5.s⟩
 refine Wm z<|R z (a_8 z)<|Rf z e_g z ?_
 have hd:=lt_ hh h.s;have hn:=(((hf.e h).e h2).c h3<|djs<|mm1 (Blk.lt hB1) hd).e s4;refine R z (l0 K_ z<|hn.at z)<|Rm z ?_
 obtain ⟨_,au,a1⟩:=bdS<|ifF hms hcm;have a2:=(((hg.e h).e h2).c h3<|g_ (or0 (e_ lr) (n_<|zt' O hd):∀k∈[H.z],¬B k)).e s4;refine RX z (at_ (α:=UInt8) k_ z_5 z z z (V.g a2) au) ?_;rintro _ ⟨_,_,_,rfl,av,aw,_⟩;obtain rfl:=u8 aw;refine R z (l0 g_5 z<|av.at0 z)<|R z (X_ z z)<|Rw z<|Wc z (λhco=>?_) (λhco=>?_)
 .refine Wm z<|R z (bP (parts:=[(0,.tmp 35),(1,.const<|.int .i64 4)]) (cs:=[vI x3,vI 4]) c_O z z)<|E0 (fs0 (cur':=[vI x3,vI 4]) B_ z z ((((hc.e h).e h2).c h3<|djs<|mm1 hc.lt h.s).e s4) z z z z) ?_
  rintro _ ax ⟨ay,az⟩;have a3:=az.one;refine Wn ?_;obtain rfl:=som<|ifT a1 hco;exact Wr<|rtO<|c_ hr (q_ a_l B_ z ay z) ⟨(cM (i_ (cM (i_ (i_ (i_ (i_ (cr [g1] w0) h5:Cg [g1] w0 I) J:Cg [g1] w0 we) h:Cg [g1] w0 H) h2:Cg [g1] w0 wi) h3 (mor hd:∀k∈[H.z],k∈[g1]∨w0.z<=k):Cg [g1] w0 wa) s4:Cg [g1] w0 wl) a3 (mor h5.s:∀k∈[I.z],k∈[g1]∨w0.z<=k):Cg [g1] w0 ax),z,a0,ii z,W,hn.c a3<|djs<|mm1 (Blk.lt hB1) h5.s⟩
 refine Wk<|Wq (Wd (X:=noX) 384 (pl_ 9 [7,8]) mo (by kernel_rfl) λaA sb _=>dM z z z<|dR z z (fd a_1 z)<|dR z z (l0 H_ z<|((((((ht.e J).e h).e h2).c h3<|djs<|mm1 ht.lt<|lt_ J.s h.s).e s4).e sb).at z) ?_)
 obtain ⟨_,aB,ab⟩:=bdS<|ifF a1 hco;have hp:=a2.e sb;refine dRX z z (at_ (α:=Int) y_ z_3 z z z (a8.g hp) aB) ?_;rintro _ ⟨_,_,_,rfl,aC,aD,_⟩;obtain ⟨rfl,aE⟩:=V_ aD;refine dR z z (l0 g_3 z<|aC.at0 z)<|dR z z (fd d_k z)<|dR z z (l0 g_3 z<|((hj.e s4).e sb).at z) ?_
 obtain ⟨a4,_,aF,ad⟩:=Y_ ab;refine dE z z (fc call134 z<|ae.run (B:=B) aF (hn.e sb) (zt' O<|lt_ (lt_ (lt_ (lt_ hd h2.s) h3.s) s4.s) sb.s) hBg (Y.g hp) (V.g hp) W aE hv) (.inl z) ?_;rintro _ aG ⟨a5,rfl,aH,aI,aJ,aK⟩;have a6:=mm1 (Blk.lt hB1) h5.s;refine dE0 z (fs0 (cur':=[vI a4.at_,vI a4.code]) B_ z z ((((((hc.e h).e h2).c h3<|djs<|mm1 hc.lt h.s).e s4).e sb).c a5<|atp a6) z z z z) (.inl z) ?_;rintro _ aL ⟨aM,aN⟩;have a7:=aN.one;refine pD<|Wo ?_
 obtain rfl:=som ad;exact Wr<|c_ hr (q_ a_l B_ z aM z) ⟨(cM (cM (i_ (i_ (cM (i_ (i_ (i_ (i_ (cr [g1] w0) h5:Cg [g1] w0 I) J:Cg [g1] w0 we) h:Cg [g1] w0 H) h2:Cg [g1] w0 wi) h3 (mor hd:∀k∈[H.z],k∈[g1]∨w0.z<=k):Cg [g1] w0 wa) s4:Cg [g1] w0 wl) sb:Cg [g1] w0 aA) a5 (io sr):Cg [g1] w0 aG) a7 (mor h5.s:∀k∈[I.z],k∈[g1]∨w0.z<=k):Cg [g1] w0 aL),z,aH,aI,aJ,aK.c a7<|djs a6⟩
theorem T_w1z (ih:g_a n):m_e (i_D n<|a_E n):=by
 obtain ⟨aw,_,_,_,_⟩:=ih
 constructor
 intro A0 A1 A3 A5 A2 A6 N0 C0 N1 C1 g1 N3 C3 N5 C5 N2 C2 N6 C6 B x1 x2 x3 res w0 hm hB1 L hBg V O am b2 b3 b4 b5 b6 b7 an ao;unfold i_D at hm
 refine goG func177 z z z λfn hr=>Ws<|E z (fb z) ?_
 rintro _ I ⟨rfl,a1⟩;have h4:=a1.below;refine E z (fa b_P) ?_;rintro _ wj ⟨rfl,a2⟩;have hd:=a2.below;have ha:Blk wj I.z [vI 0,vI 0]:=a2.blk;refine Wn<|Wm z<|Rf z a_1 z<|R z (l0 H_ z<|((a1.blk:Blk I w0.z (vR x2 A3 N3 C3 A5 N5 C5 A2 N2 C2 A6 N6 C6)).e hd).at z) ?_
 obtain ⟨_,ax,ap⟩:=bdS hm;have hk:=(h4.ag B).e hd;refine RX z (at_ (α:=Int) y_ z_3 z z z (an.g hk) ax) ?_;rintro _ ⟨_,_,_,rfl,ay,az,_⟩;obtain ⟨rfl,aA⟩:=V_ az;refine R z (l0 g_3 z<|ay.at0 z)<|Rm z ?_
 have hq:=lt_ h4.s hd.s;obtain ⟨rb,_,aB,W⟩:=Y_ ap;refine E z (fc call134 z<|aw.run (B:=B) aB ((hB1.e h4).e hd) (zt' L hq) hBg (V.g hk) (O.g hk) am aA ao) ?_;rintro _ J ⟨s2,rfl,ht,aC,hl,a3⟩;refine E z (fa b_P) ?_;rintro _ wm ⟨rfl,a4⟩;have h5:=a4.below;have hu:Blk wm J.z [vI 0,vI 0]:=a4.blk;refine E0 (fs0 (cur':=[vI rb.at_,vI rb.code]) B_ z z hu z z z z) ?_;rintro _ wr ⟨hh,aD⟩;have h3:=aD.one;refine Wn<|Wq<|Ws<|Rf z d_N z<|R z (l0 g_3 z<|hh.at z)<|R z (nq z z)<|Wx z (λhcs=>?_) (λhcs=>?_)
 .refine Ws<|R z (lN (vs:=[vI rb.at_,vI rb.code]) a_l B_ z z fid<|hh.row 0 2 z) ?_
  have a5:=mm1 (Blk.lt hB1) h4.s;refine E0 (fs0 (cur':=[vI rb.at_,vI rb.code]) B_ z z (((ha.c s2<|atp a5).e h5).c h3<|djs<|mm1 ha.lt s2.s) z z z z) ?_;rintro _ aE ⟨aF,aG⟩;have a6:=aG.one;refine Wn ?_;obtain rfl:=som<|ifT W hcs;have a7:=lt_ hq s2.s;exact Wr<|c_ hr (q_ a_l B_ z aF z) ⟨(cM (cM (i_ (cM (i_ (i_ (cr [g1] w0) h4:Cg [g1] w0 I) hd:Cg [g1] w0 wj) s2 (io sr):Cg [g1] w0 J) h5:Cg [g1] w0 wm) h3 (mor a7:∀k∈[J.z],k∈[g1]∨w0.z<=k):Cg [g1] w0 wr) a6 (mor h4.s:∀k∈[I.z],k∈[g1]∨w0.z<=k):Cg [g1] w0 aE),z,ht,aC,hl,((a3.e h5).c h3<|djs<|mm1 (Blk.lt hB1) a7).c a6<|djs a5⟩
 refine Wk<|Wm z<|Rf z d_k z<|R z (l0 g_3 z<|hh.at z) ?_
 have hi:=lt_ hq s2.s;have hn:=(a3.e h5).c h3<|djs<|mm1 (Blk.lt hB1) hi
 have hv:=((hk.c s2<|g_<|e_ hBg).e h5).c h3<|g_ (or0 (e_ lr) (n_<|zt' L hi):∀k∈[J.z],¬B k)
 have ho:=lt_ (lt_ hi h5.s) h3.s;obtain ⟨re,aH,aq⟩:=bdS<|ifF W hcs;refine E z (fc call173 z<|h_r (B:=w0.z) aH (a_K ho) (repS.mono (V.g hv) L) (repS.mono (O.g hv) L) hl (hn.row 0 3 z) (Blk.lt hB1) ht<|ii z) ?_;rintro _ wf ⟨s1,rfl,aI,aJ⟩;refine E z (fa b_P) ?_;rintro _ ww ⟨rfl,a8⟩;have h6:=a8.below;refine E0 (fs0 (cur':=[vI re.at_,vI re.code]) B_ z z (a8.blk:Blk ww wf.z [vI 0,vI 0]) z z z z) ?_;rintro _ wp ⟨a9,aK⟩;have H:=aK.one;refine Wn<|Wq<|Wq ?_
 obtain ⟨aL,Y,a0⟩:=bdS aq;refine Wt (λa w=>∃(xx:Bool),xx=aL/\Sat 52 [(6,pt I.z),(7,pt J.z),(8,pt wf.z),(47,vB xx)] a/\Below wp.z wp w) ?_ ?_
 .refine Wd (X:=noX) 0 (pl_ 24 [21]) mo (by kernel_rfl) λb8 sg _=>dR z z (fd d_N z)<|dR z z (l0 g_3 z<|(a9.e sg).at z)<|dR z z (eql z z)<|dM z z z ?_
  rcases bs (re.code==0) with G | G
  .refine dRg z z z G z (mv z)<|dRg z z z G z (a_8 z)<|dRg z z z G z (fd e_g z) ?_
   have hy:=lt_ ho s1.s;have aa:=(((hn.e s1).e h6).c H<|djs<|mm1 (Blk.lt hB1) hy).e sg;refine dRg z z z G z (l0 K_ z<|aa.at z)<|dRg z z z G z (fd d_k z) ?_
   have ab:=(((hh.e s1).e h6).c H<|djs<|mm1 hu.lt<|lt_ h3.s s1.s).e sg;refine dRg z z z G z (l0 g_3 z<|ab.at z) ?_;obtain ⟨aM,aN,ar⟩:=bdS<|ifT Y G;have ad:=O.g<|(((hv.e s1).e h6).c H<|g_ (or0 (e_ lr) (n_<|zt' L hy):∀k∈[wf.z],¬B k)).e sg
   refine a_L z z z G z (at_ (α:=UInt8) k_ z_5 z z z ad aN) ?_;rintro _ ⟨_,_,_,rfl,aO,aP,_⟩;obtain rfl:=u8 aP;refine dRg z z z G z (l0 g_5 z<|aO.at0 z)<|dRg z z z G z (b_s d_5 d_3 z)<|dRg z z z G z (mv z)<|dRg z z z G z (a_8 z)<|dRg z z z G z (fd e_g z)<|dRg z z z G z (l0 K_ z<|aa.at z)<|dRg z z z G z (mv z)<|dRg z z z G z (fd d_k z)<|dRg z z z G z (l0 g_3 z<|ab.at z) ?_
   obtain ⟨_,aQ,au⟩:=bdS ar;refine a_L z z z G z (rX k_ z_5 z z ad z z aQ) ?_;rintro _ ⟨_,_,_,rfl,aR⟩;obtain ⟨aS,aT,av⟩:=bdS au;refine dEg z z z G z (fc call156 z<|m_0 aT (zt' L<|lt_ (lt_ (lt_ hy h6.s) H.s) sg.s) aR) (.inr λ_ _ h=>E_<|h.1) ?_;rintro _ _ ⟨aU,rfl,_⟩;exact dRg z z z G z (nq z z)<|dR z z (pT z G z)<|pD (λ_ q=>⟨(byteI aM) != aS,som av,q.k<|s4 z z z z,bup sg aU⟩)
  iterate 17 refine dRn z z z G z ?_
  exact dEn z z z G z<|dRn z z z G z<|dR z z (pF z G z)<|pD (λ_ q=>⟨false,som<|ifF Y G,q.k<|s4 z z z z,sg⟩)
 rintro aV ae ⟨xx,rfl,_,sc⟩;revert aV;refine Wo<|Wc z (λhcz=>?_) (λhcz=>?_)
 .refine Ws<|Rf z d_k z<|R z (l0 g_3 z<|((((hh.e s1).e h6).c H<|djs<|mm1 hu.lt<|lt_ h3.s s1.s).e sc).at z)<|R z (bP (parts:=[(0,.tmp 49),(1,.const<|.int .i64 5)]) (cs:=[vI rb.at_,vI 5]) c_O z z) ?_
  have af:=mm1 (Blk.lt hB1) h4.s;refine E0 (fs0 (cur':=[vI rb.at_,vI 5]) B_ z z (((((((ha.c s2<|atp af).e h5).c h3<|djs<|mm1 ha.lt s2.s).e s1).e h6).c H<|djs<|mm1 ha.lt<|lt_ (lt_ (lt_ s2.s h5.s) h3.s) s1.s).e sc) z z z z) ?_;rintro _ aW ⟨aX,aY⟩;have ah:=aY.one;refine Wn ?_;obtain rfl:=som<|ifT a0 hcz;have ai:=lt_ ho s1.s;exact Wr<|c_ hr (q_ a_l B_ z aX z) ⟨(cM (i_ (cM (i_ (i_ (cM (i_ (cM (i_ (i_ (cr [g1] w0) h4:Cg [g1] w0 I) hd:Cg [g1] w0 wj) s2 (io sr):Cg [g1] w0 J) h5:Cg [g1] w0 wm) h3 (mor hi:∀k∈[J.z],k∈[g1]∨w0.z<=k):Cg [g1] w0 wr) s1:Cg [g1] w0 wf) h6:Cg [g1] w0 ww) H (mor ai:∀k∈[wf.z],k∈[g1]∨w0.z<=k):Cg [g1] w0 wp) sc:Cg [g1] w0 ae) ah (mor h4.s:∀k∈[I.z],k∈[g1]∨w0.z<=k):Cg [g1] w0 aW),z,ht,ii z,hl,((((hn.e s1).e h6).c H<|djs<|mm1 (Blk.lt hB1) ai).e sc).c ah<|djs af⟩
 refine Wk<|Ws<|R z (lN (vs:=[vI re.at_,vI re.code]) a_l B_ z z fid<|(a9.e sc).row 0 2 z) ?_
 have aj:=mm1 (Blk.lt hB1) h4.s;refine E0 (fs0 (cur':=[vI re.at_,vI re.code]) B_ z z (((((((ha.c s2<|atp aj).e h5).c h3<|djs<|mm1 ha.lt s2.s).e s1).e h6).c H<|djs<|mm1 ha.lt<|lt_ (lt_ (lt_ s2.s h5.s) h3.s) s1.s).e sc) z z z z) ?_;rintro _ aZ ⟨b0,b1⟩;have ak:=b1.one;refine Wn ?_;obtain rfl:=som<|ifF a0 hcz;have al:=lt_ ho s1.s;exact Wr<|c_ hr (q_ a_l B_ z b0 z) ⟨(cM (i_ (cM (i_ (i_ (cM (i_ (cM (i_ (i_ (cr [g1] w0) h4:Cg [g1] w0 I) hd:Cg [g1] w0 wj) s2 (io sr):Cg [g1] w0 J) h5:Cg [g1] w0 wm) h3 (mor hi:∀k∈[J.z],k∈[g1]∨w0.z<=k):Cg [g1] w0 wr) s1:Cg [g1] w0 wf) h6:Cg [g1] w0 ww) H (mor al:∀k∈[wf.z],k∈[g1]∨w0.z<=k):Cg [g1] w0 wp) sc:Cg [g1] w0 ae) ak (mor h4.s:∀k∈[I.z],k∈[g1]∨w0.z<=k):Cg [g1] w0 aZ),z,aI,aJ,hl,((((hn.e s1).e h6).c H<|djs<|mm1 (Blk.lt hB1) al).e sc).c ak<|djs aj⟩
theorem d_T:∀n,g_a n
  | 0=>⟨⟨λhm=>by intros;exact nomatch (show none=some _ from hm)⟩,⟨λhm=>by intros;exact nomatch (show none=some _ from hm)⟩,⟨λhm=>by intros;exact nomatch (show none=some _ from hm)⟩,⟨λhm=>by intros;exact nomatch (show none=some _ from hm)⟩,⟨λhm=>by intros;exact nomatch (show none=some _ from hm)⟩⟩
  | n+1=>⟨T_w03<|d_T n,T_w1w<|d_T n,T_w1x<|d_T n,T_w1y<|d_T n,T_w1z<|d_T n⟩
theorem W_w03:m_a (a_E n).impl_checker_value:=(d_T n).1
theorem W_w1w:m_b (a_E n).impl_checker_array:=(d_T n).2.1
theorem W_w1x:m_c (a_E n).impl_checker_choice:=(d_T n).2.2.1
theorem W_w1y:m_d (a_E n).impl_checker_option:=(d_T n).2.2.2.1
theorem W_w1z:m_e (a_E n).impl_checker_checked:=(d_T n).2.2.2.2
def Q35 (w0:World)(B:Zone)(r:Int×Int)(v:Value)(w':World):Prop:=Bw w0 w'/\un2 (λh G=>v = .tuple #[vI h,vI G]/\inI h/\inI G) r
theorem W_w47 {x1:f_}{x2:Int}{x3:Bt}{x4:Int}{res:Int×Int}(hm:i_E n x1 x2 x3 x4=some res)(I:B<=w0.z)(W:repS w0 B (sl A0 N0 C0) x1.rules)(Y:inI x2)(a0:repS w0 B (sl A7 N7 C7) x3)(a1:inI x4):h_ prog 98 [(.agg #[sl A0 N0 C0]),vI x2,sl A7 N7 C7,vI x4] w0 (Q35 w0 B res):=by
 unfold i_E at hm
 refine goG func98 z z z λfn hr=>Ws<|E z (fb z) ?_
 rintro _ L ⟨rfl,hb⟩;have h3:=hb.below;have hc:Blk L w0.z [sl A0 N0 C0]:=hb.blk;refine Ra z<|Rw z<|Wq<|Wq ?_
 obtain ⟨ur,hus,hmd⟩:=bdS hm;refine Wt (λa w=>∃(O:Bool),O=ur/\Sat 43 [(1,vI x2),(2,sl A7 N7 C7),(3,vI x4),(4,pt w0.z),(30,vB O)] a/\Below L.z L w) ?_ ?_
 .refine Wg<|R z (lN (vs:=[sl A0 N0 C0]) L_ D_ z z fid<|hc.row 0 1 z)<|Rm z ?_
  obtain ⟨rt,eu,hme⟩:=bdS hus;refine E z (fc call131 z<|m_2 eu (zt' I h3.s) (W.e h3) Y) ?_;rintro _ _ ⟨s4,rfl⟩;refine R z (not_ z)<|Rm z ?_
  rcases bs (!rt) with G | G
  .exact Nh z G<|Nh z G<|R z (pT z G z)<|Rm z<|Nh z z<|Nh z z<|Nh z z<|Nh z z<|R z (pT z z z)<|Rm z<|Nh z z<|Nh z z<|Nh z z<|R z (pT z z z)<|Wl (λ_ q=>⟨true,som<|ifT hme G,q.k<|s5 z z z z z,s4⟩)
  have hmf:=ifF hme G;refine Rh z G (mv z)<|Rh z G (lss z z)<|R z (pF z G z)<|Rm z ?_
  rcases bs (decide<|x4<0) with h | h
  .iterate 4 refine Nh z h ?_
   exact R z (pT z h z)<|Rm z<|Nh z z<|Nh z z<|Nh z z<|R z (pT z z z)<|Wl (λ_ q=>⟨true,som<|ifT hmf h,q.k<|s5 z z z z z,s4⟩)
  have hmg:=ifF hmf h;refine Rh z h (mv z)<|Rh z h (mv z) ?_
  have hh:=a0.g<|(h3.ag B).e s4
  refine Rh z h (lnR k_ z hh)<|Rh z h (X_ z z)<|R z (pF z h z)<|Rm z ?_
  rcases bs (decide<|(x3.length:Int)<x4) with H | H
  .iterate 3 refine Nh z H ?_
   exact R z (pT z H z)<|Wl (λ_ q=>⟨true,som<|ifT hmg H,q.k<|s5 z z z z z,s4⟩)
  exact Rh z H (mv z)<|Rh z H (lnR k_ z hh)<|Rh z H (X_ z z)<|R z (pF z H z)<|Wl (λ_ q=>⟨decide<|400<(x3.length:Int),som<|ifF hmg H,q.k<|s5 z z z z z,s4⟩)
 rintro av wi ⟨O,rfl,_,s6⟩;revert av;refine Wo<|Wc z (λJ=>?_) (λJ=>?_)
 .refine Ws<|Ra z<|Rw z ?_
  obtain rfl:=som<|ifT hmd J;exact Wr<|a_0 hr z z ⟨bup h3 s6,z,ii z,ii z⟩
 refine Wk<|Ws<|R z (lN (vs:=[sl A0 N0 C0]) L_ D_ z z fid<|(hc.e s6).row 0 1 z)<|Rm z<|R z (bP (parts:=[(0,.tmp 31),(1,.tmp 32)]) (cs:=[sl A0 N0 C0,sl A7 N7 C7,vI 0]) r_Z z z)<|E z (fb z) ?_
 rintro _ ww ⟨rfl,hj⟩;have V:=hj.below;refine Rw z<|Wm z<|RM z z ?_
 have hk:=((h3.ag B).e s6).e V;have ha:=lt_ h3.s s6.s;have hl:=lt_ ha V.s;obtain ⟨rm,_,ez,a2⟩:=Y_<|ifF hmd J;refine E z (fc call134 z<|W_w03.run (B:=B) ez (hj.blk:Blk ww wi.z [sl A0 N0 C0,sl A7 N7 C7,vI 0]) (zt' I hl) (atp (or0 (e_ lr) (n_<|zt' I ha):∀k∈[wi.z],¬B k)) (W.g hk) (a0.g hk) (ii z) Y a1) ?_;rintro _ a3 ⟨sn,rfl,a4,a5,_,_⟩;refine E z (fa b_P) ?_;rintro _ a6 ⟨rfl,ho⟩;refine E0 (fs0 (cur':=[vI rm.at_,vI rm.code]) B_ z z (ho.blk:Blk a6 a3.z [vI 0,vI 0]) z z z z) ?_;rintro _ _ ⟨a7,a8⟩;refine Wn<|Wq (Wd (X:=noX) 0 (pl_ 6 []) mo (by kernel_rfl) λa9 sp _=>dR z z (fd d_k z) ?_)
 have hq:=a7.e sp;refine dR z z (l0 g_3 z<|hq.at z)<|dR z z (fd d_N z)<|dR z z (l0 g_3 z<|hq.at z)<|dQ z z z<|dQ z z z<|pD<|Wo ?_
 obtain rfl:=som a2;exact Wr<|a_0 hr z z ⟨bup (bM (bup (bM (bup (bup h3 s6) V) sn<|m1 ha) ho.below) a8.one<|m1<|lt_ hl sn.s) sp,z,a4,a5⟩
theorem W_w48 {x1:Int}{res:Str}(hm:l_j x1=some res)(G:B<=w0.z)(hG:Gl w0 B)(h:inI x1):h_ prog 135 [vI x1] w0 (Q19 w0 B res):=by
 unfold l_j at hm
 refine goG func135 z z z λfn hr=>Ws<|Rw z<|Wm z ?_
 obtain ⟨_,I,H⟩:=bdS hm;refine E z (fc call178 z<|r_y (B:=B) I G hG h) ?_;rintro _ _ ⟨s2,rfl,h3⟩;refine Rw z ?_
 obtain rfl:=som H;exact Wr<|c_ hr z ⟨s2,z,h3⟩
theorem W_w49 {x1:f_}{x2:Int}{x3:Int}{res:Str}(hm:f_R n x1 x2 x3=some res)(I:B<=w0.z)(hG:Gl w0 B)(V:repS w0 B (sl A0 N0 C0) x1.rules)(ad:inI x2)(ae:inI x3):h_ prog 99 [(.agg #[sl A0 N0 C0]),vI x2,vI x3] w0 (Q19 w0 B res):=by
 unfold f_R at hm
 refine goG func99 z z z λfn hr=>Ws<|E z (fb z) ?_
 rintro _ wb ⟨rfl,hn⟩;have h:=hn.below;have ho:Blk wb w0.z [sl A0 N0 C0]:=hn.blk;refine Rw z<|Wq<|Wq ?_
 obtain ⟨aj,af,hmp⟩:=bdS hm;refine Wt (λa w=>∃(xc:Bool),xc=aj/\Sat 58 [(1,vI x2),(2,vI x3),(3,pt w0.z),(15,vB xc)] a/\Below wb.z wb w) ?_ ?_
 .refine Wg<|R z (lN (vs:=[sl A0 N0 C0]) L_ D_ z z fid<|ho.row 0 1 z)<|Rm z ?_
  obtain ⟨ak,al,hmq⟩:=bdS af;refine E z (fc call131 z<|m_2 al (zt' I h.s) (V.e h) ad) ?_;rintro _ _ ⟨sr,rfl⟩;refine R z (not_ z)<|Rm z ?_
  rcases bs (!ak) with H | H
  .exact Nh z H<|Nh z H<|R z (pT z H z)<|Wl (λ_ q=>⟨true,som<|ifT hmq H,q.k<|s4 z z z z,sr⟩)
  exact Rh z H (mv z)<|Rh z H (lss z z)<|R z (pF z H z)<|Wl (λ_ q=>⟨decide<|x3<0,som<|ifF hmq H,q.k<|s4 z z z z,sr⟩)
 rintro am J ⟨xc,rfl,_,s1⟩;revert am;refine Wo<|Wc z (λhcd=>?_) (λhcd=>?_)
 .refine Ws<|Rw z ?_
  obtain rfl:=som<|ifT hmp hcd;exact Wr<|c_ hr z ⟨bup h s1,z,lb z⟩
 refine Wk<|Ws<|Rf z a_s z<|R z (l0 a_u z<|(ho.e s1).at z)<|Rm z ?_
 obtain ⟨O,an,hms⟩:=bdS<|ifF hmp hcd;refine RX z (at_ (α:=d_) a_2 t_ z z z (V.g<|(h.ag B).e s1) an) ?_;rintro _ ⟨_,_,_,rfl,ao,ap,_⟩;obtain ⟨au,nt,cv,aw,nx,cy,az,a4,a5,a6,a7,a8,rfl,_,_,_,_,a9,_,_⟩:=b_3 ap;refine R z (lN (vs:=vR O au nt cv aw nx cy az a4 a5 a6 a7 a8) Q_ t_ z z fid ao)<|E z (fa c_q) ?_
 rintro _ aq ⟨rfl,aa⟩;have h2:=aa.below;refine E0 (fs0 (cur':=vR O au nt cv aw nx cy az a4 a5 a6 a7 a8) t_ z z (aa.blk:Blk aq J.z [(Str.v (⟨[]⟩:Str)),vI 0,vI 0,vB false,sN,sN,sN,sN]) z z z z) ?_;rintro _ wa ⟨L,ar⟩;have h3:=ar.one;refine Wn<|Wq<|Wb<|Ws<|Rf z a_O z<|R z (l0 g_3 z<|L.at z)<|Rq z z z<|Rw z<|Wc z (λhce=>?_) (λhce=>?_)
 .refine Wm z ?_
  have hf:=lt_ h.s s1.s;obtain ⟨_,av,ah⟩:=bdS<|ifT hms hce;refine E z (fc call135 z<|W_w48 av (zt' I<|lt_ (lt_ hf h2.s) h3.s) ((((hG.e h).e s1).e h2).c h3<|g_ (or0 (e_ lr) (n_<|zt' I hf):∀k∈[J.z],¬B k)) ae) ?_;rintro _ _ ⟨ax,rfl,ay⟩;refine Rw z ?_
  obtain rfl:=som ah;exact Wr<|rtO<|c_ hr z ⟨bup (bM (bup (bup h s1) h2) h3<|m1 hf) ax,z,ay⟩
 refine Wq ?_;obtain ⟨aA,W,Y⟩:=bdS<|ifF hms hce;refine Wt (λa w=>∃(xg:Bool),xg=aA/\Sat 58 [(2,vI x3),(7,pt J.z),(27,vB xg)] a/\Below wa.z wa w) ?_ ?_
 .refine Wg<|Rf z a_O z<|R z (l0 g_3 z<|L.at z)<|Rq z z z<|Rm z ?_
  rcases bs (O.kind==6) with G | G
  .refine Rh z G (mv z)<|Rh z G (fd c_i z)<|Rh z G (l0 a_G z<|L.at z) ?_
   exact Rh z G (lnR F_ z<|a9.g<|(h2.ag B).c h3<|g_ (or0 (e_ lr) (n_<|zt' I<|lt_ h.s s1.s):∀k∈[J.z],¬B k))<|Rh z G (lss z z)<|R z (pT z G z)<|Ra z<|Wl (λ_ q=>⟨decide<|x3<(O.names.length:Int),som<|ifT W G,q.k<|s3 z z z,br wa⟩)
  iterate 5 refine Nh z G ?_
  exact R z (pF z G z)<|Ra z<|Wl (λ_ q=>⟨false,som<|ifF W G,q.k<|s3 z z z,br wa⟩)
 rintro aB _ ⟨xg,rfl,_,s6⟩;revert aB;refine Wo<|Wc z (λhch=>?_) (λhch=>?_)
 .refine Ws<|Rf z c_i z<|R z (l0 a_G z<|(L.e s6).at z)<|Rm z ?_
  obtain ⟨_,aC,ai⟩:=bdS<|ifT Y hch;have ab:=lt_ h.s s1.s;refine RX z (at_ (α:=Str) F_ z_9 z z z (a9.g<|((h2.ag B).c h3<|g_ (or0 (e_ lr) (n_<|zt' I ab):∀k∈[J.z],¬B k)).e s6) aC) ?_;rintro _ ⟨_,_,_,rfl,aD,aE,_⟩;obtain ⟨rfl,aF⟩:=a_n aE;refine R z (l0 g_9 z<|aD.at0 z)<|Rw z ?_
  obtain rfl:=som ai;exact Wr<|rtO<|c_ hr z ⟨bup (bM (bup (bup h s1) h2) h3<|m1 ab) s6,z,aF⟩
 have a0:=ifF Y hch;refine Wm z<|R z (X_ z z)<|Rw z<|Wc z (λhci=>?_) (λhci=>?_)
 .refine Ws<|Rw z ?_
  obtain rfl:=som<|ifT a0 hci;exact Wr<|rtO<|c_ hr z ⟨bup (bM (bup (bup h s1) h2) h3<|m1<|lt_ h.s s1.s) s6,z,lb z⟩
 have a1:=ifF a0 hci;refine Ws<|Rf z a_O z ?_
 have hj:=L.e s6;refine R z (l0 g_3 z<|hj.at z)<|Rq z z z<|Rw z<|Wc z (λhck=>?_) (λhck=>?_)
 .refine Ws<|Rw z ?_
  obtain rfl:=som<|ifT a1 hck;exact Wr<|rtO<|c_ hr z ⟨bup (bM (bup (bup h s1) h2) h3<|m1<|lt_ h.s s1.s) s6,z,lb z⟩
 have a2:=ifF a1 hck;refine Ws<|Rf z a_O z<|R z (l0 g_3 z<|hj.at z)<|Rq z z z<|Rw z<|Wc z (λhcl=>?_) (λhcl=>?_)
 .refine Ws<|Rw z ?_
  obtain rfl:=som<|ifT a2 hcl;exact Wr<|rtO<|c_ hr z ⟨bup (bM (bup (bup h s1) h2) h3<|m1<|lt_ h.s s1.s) s6,z,lb z⟩
 have a3:=ifF a2 hcl;refine Ws<|Rf z a_O z<|R z (l0 g_3 z<|hj.at z)<|Rq z z z<|Rw z<|Wc z (λhcm=>?_) (λhcm=>?_)
 .refine Ws<|Rw z ?_
  obtain rfl:=som<|ifT a3 hcm;exact Wr<|rtO<|c_ hr z ⟨bup (bM (bup (bup h s1) h2) h3<|m1<|lt_ h.s s1.s) s6,z,lb z⟩
 refine Wk<|Ws<|Rw z ?_
 obtain rfl:=som<|ifF a3 hcm;exact Wr<|c_ hr z ⟨bup (bM (bup (bup h s1) h2) h3<|m1<|lt_ h.s s1.s) s6,z,lb z⟩
theorem W_w4a {x1:f_}{x2:Int}{x3:Val}{I L:Nat}{x4:Int}{res:Int}(hm:f_S x1 x2 x3 x4=some res)(aX:B<=w0.z)(V:repS w0 B (sl A0 N0 C0) x1.rules)(aR:inI x2)(aS:inI x3.number)(aT:repS w0 B (sl AK NK CK) x3.bytes)(aU:repS w0 B (sl AL NL CL) x3.items)(ai:R_ w0 I L [vI x3.number,sl AK NK CK,sl AL NL CL])(aV:B I)(aW:inI x4):h_ prog 100 [(.agg #[sl A0 N0 C0]),vI x2,.pointer<|some ⟨I,L,none⟩,vI x4] w0 (Q0 w0 B res):=by
 unfold f_S at hm
 refine goG func100 z z z λfn hr=>Ws<|E z (fb z) ?_
 rintro _ h ⟨rfl,hj⟩;have G:=hj.below;refine Rw z<|Ws<|Rf z a_s z<|R z (l0 a_u z<|(hj.blk:Blk h w0.z [sl A0 N0 C0]).at z)<|Rm z ?_
 obtain ⟨O,ew,hmk⟩:=bdS hm;refine RX z (at_ (α:=d_) a_2 t_ z z z (V.e G) ew) ?_;rintro _ ⟨bl,om,_,rfl,h2,hx,_⟩;obtain ⟨_,_,_,_,_,_,ay,nz,aj,_,_,_,rfl,_,_,_,_,_,h5,h4⟩:=b_3 hx;refine Rw z<|Wq<|Wm z<|R z (a_8 z)<|Rf z a_O z<|R z (l0 g_3 z<|h2.at (j:=1) z)<|Wn<|Wb<|Ws<|Rq z z z<|Rw z<|Wc z (λJ=>?_) (λJ=>?_)
 .refine Wm z<|R z (a_8 z)<|Rf z a_1 z<|R z (l0 H_ z<|h2.at (j:=7) z) ?_
  obtain ⟨_,ak,W⟩:=bdS<|ifT hmk J;refine RX z (at_ (α:=Int) y_ z_3 z z z h4 ak) ?_;rintro _ ⟨_,_,_,rfl,al,am,_⟩;obtain ⟨rfl,an⟩:=V_ am;refine R z (l0 g_3 z<|al.at0 z)<|Rw z ?_
  obtain rfl:=som W;exact Wr<|rtO<|c_ hr z ⟨G,z,an⟩
 refine Ws<|Rq z z z<|Rw z ?_
 obtain ⟨ao,hun,H⟩:=bdS<|ifF hmk J;refine Wt (λa w=>Sum.inl ()=ao/\Sat 80 [] a/\Below h.z h w) ?_ ?_
 .refine Wc z (λhca=>?_)<|λhca=>?_
  .have hmo:=ifT hun hca;refine Wm z<|Rm z<|R z (a_8 z)<|Rf z a_1 z<|R z (l0 H_ z<|h2.at (j:=7) z)<|R z (lnR y_ z h4)<|Rl z z z<|Wx z (λhcb=>?_) (λhcb=>?_)
   .refine Wm z<|R z (a_8 z)<|Rf z a_1 z<|R z (l0 H_ z<|h2.at (j:=7) z)<|Rm z ?_
    obtain ⟨_,ap,Y⟩:=bdS<|ifT hmo hcb;refine RX z (at_ (α:=Int) y_ z_3 z z z h4 ap) ?_;rintro _ ⟨_,_,_,rfl,aq,ar,_⟩;obtain ⟨rfl,au⟩:=V_ ar;refine R z (l0 g_3 z<|aq.at0 z)<|Rw z ?_
    obtain rfl:=som Y;have a0:=elR H;obtain rfl:=som a0;exact Wr<|rtO<|c_ hr z ⟨G,z,au⟩
   exact a_j<|λ_ q=>⟨som<|ifF hmo hcb,q.k sn,br h⟩
  refine Ws<|Rq z z z<|Rw z ?_
  obtain ⟨av,hup,hmc⟩:=bdS<|ifF hun hca;refine Wt (λa w=>Sum.inl ()=av/\Sat 80 [] a/\Below h.z h w) ?_ ?_
  .refine Wc z (λhcd=>?_)<|λhcd=>?_
   .refine Wm z<|R z (a_8 z)<|Rf z b_k z<|R z (l0 H_ z<|h2.at (j:=6) z)<|R z (lnR y_ z h5)<|Rm z<|Wn ?_
    obtain ⟨_,a1,hmq⟩:=bdS<|ifT hup hcd;refine Wf (σ:=Unit) (ρ:=Int) (λ(kr:Nat)(_:Unit) a w=>Sat 80 [(2,.pointer<|some ⟨I,L,none⟩),(9,.pointer<|some ⟨bl,om,none⟩),(49,sl ay nz aj),(50,vI (O.tags.length:Int)),(51,vI ((kr:Nat):Int))] a/\Below h.z h w) (λ(_:Unit) a w=>Sat 80 [] a/\Below h.z h w) (rQ prog fn<|Q0 w0 B) a1 ?_ ?_ ?_ ?_ ?_
    .exact λ_ q=>⟨q.k<|s5 z z z z z,br h⟩
    .rintro kr _ _ _ _ hke ⟨a2,s3⟩ a3;refine Wu ?_ a2;refine Ws<|Rl z z z<|Wn<|Wq<|Wc z (λ_=>?_) (λhc=>(O_ hke hc).elim)
     refine Wk<|Wq<|Wb<|Wm z ?_
     obtain ⟨_,aw,hms⟩:=bdS a3;refine RX z (at_ (α:=Int) y_ z_3 z z z (h5.e s3) aw) ?_;rintro _ ⟨_,_,_,rfl,ax,az,_⟩;obtain ⟨rfl,_⟩:=V_ az;refine R z (l0 g_3 z<|ax.at0 z)<|Ra z<|Rw z<|Wm z<|Rm z<|R z (a_8 z)<|Rf z l_J z<|R z (l0 g_3 z<|((ai.e G).e s3).at (j:=0) z)<|Rq z z z<|Wx z (λhcf=>?_) (λhcf=>?_)
     .refine Wm z<|R z (a_8 z)<|Rf z a_1 z<|R z (l0 H_ z<|(h2.e s3).at (j:=7) z)<|Rm z<|R z (inc_ hke (lt_ (repS.len h5) z_) z z) ?_
      obtain ⟨_,aA,a4⟩:=bdS<|ifT hms hcf;refine RX z (at_ (α:=Int) y_ z_3 z z z (h4.e s3) aA) ?_;rintro _ ⟨_,_,_,rfl,aB,aC,_⟩;obtain ⟨rfl,aD⟩:=V_ aC;exact R z (l0 g_3 z<|aB.at0 z)<|Rw z<|Wr<|rtO<|qL (som a4).symm<|c_ hr z ⟨bup G s3,z,aD⟩
     exact Wk<|Wg<|R z (inc_ hke (lt_ (repS.len h5) z_) z z)<|Rm z<|Wl (λ_ q=>⟨(),(som<|ifF hms hcf).symm,⟨q.k<|s5 z z z z z,s3⟩⟩)
    .rintro _ _ _ ⟨a5,aE⟩;refine Wu ?_ a5;refine Ws<|Rl z z z<|Wn<|Wq<|Wc z (λhc=>(P_ hc).elim) (λ_=>?_)
     exact We<|λ_ q=>⟨rfl,⟨q.k sn,aE⟩⟩
    .rintro _ aF _ rfl ⟨_,aG⟩;have a6:=elL hmq;revert aF;exact λ_ q=>⟨som a6,q.k sn,aG⟩
    rintro _ _ _ _ rfl ⟨rfl,a7⟩;have a8:=elR hmq;obtain rfl:=som a8;have a9:=elR hmc;obtain rfl:=som a9;have aa:=elR H;obtain rfl:=som aa;exact ⟨a7,z⟩
   refine Wq<|Ws<|Rq z z z<|Rw z ?_
   obtain ⟨aH,hut,hmu⟩:=bdS<|ifF hup hcd;refine Wt (λa w=>∃(xg:Bool),xg=aH/\Sat 80 [(9,.pointer<|some ⟨bl,om,none⟩),(71,vB xg)] a/\Below h.z h w) ?_ ?_
   .refine Wc z (λhch=>?_)<|λhch=>?_
    .exact a_j<|λ_ q=>⟨O.kind==8,som<|ifT hut hch,q.k<|s2 z z,br h⟩
    exact Wg<|Rq z z z<|Ra z<|Wl (λ_ q=>⟨O.kind==9,som<|ifF hut hch,q.k<|s2 z z,br h⟩)
   rintro aI _ ⟨xg,rfl,_,s7⟩;revert aI;refine Wo<|Wc z (λhci=>?_) (λhci=>?_)
   .refine Wm z<|R z (a_8 z)<|Rf z a_1 z<|R z (l0 H_ z<|(h2.e s7).at (j:=7) z) ?_
    obtain ⟨_,aJ,ab⟩:=bdS<|ifT hmu hci;refine RX z (at_ (α:=Int) y_ z_3 z z z (h4.e s7) aJ) ?_;rintro _ ⟨_,_,_,rfl,aK,aL,_⟩;obtain ⟨rfl,aM⟩:=V_ aL;refine R z (l0 g_3 z<|aK.at0 z)<|Rw z ?_
    obtain rfl:=som ab;have ad:=elR hmc;obtain rfl:=som ad;have ae:=elR H;obtain rfl:=som ae;exact Wr<|rtO<|c_ hr z ⟨bup G s7,z,aM⟩
   exact a_j<|λ_ q=>⟨som<|ifF hmu hci,q.k sn,s7⟩
  rintro aN _ ⟨rfl,_,aO⟩;have af:=elL hmc;revert aN;exact λ_ q=>⟨som af,q.k sn,aO⟩
 rintro aP _ ⟨rfl,_,aQ⟩;have ah:=elL H;revert aP;refine Wo<|Ws<|Rw z ?_
 obtain rfl:=som ah;exact Wr<|c_ hr z ⟨bup G aQ,z,ii z⟩
def Q36 (w0:World)(g1:Nat)(B:Zone)(A0:Option Addr)(N0 C0:Nat)(A1:Option Addr)(N1 C1:Nat)(AE:Option Addr)(NE CE:Nat)(S1_2:List Nat)(x1:d_I)(r:Int×(List l_))(v:Value)(w':World):Prop:=Chg (· ∈ ([g1]++S1_2)) w0 w'/\un2 (λh J=>∃G H I S1,(vI h)=v/\inI h/\a_ w' S1 (sl G H I) J/\S1.Nodup/\(∀k∈S1,k∈S1_2∨w0.z<=k)/\Blk w' g1 [sl A0 N0 C0,sl A1 N1 C1,sl G H I]) r
structure m_f (f:d_I->Str->Int->Val->Int->Option (Int×(List l_))):Prop where
  run:∀{A0 A1 AE AI AJ:Option Addr}{N0 C0 N1 C1 NE CE g1 NI CI NJ CJ b4 o4:Nat}{S1_2:List Nat}{B:Zone}{x1:d_I}{x2:Str}{x3:Int}{x4:Val}{x5:Int}{res:Int×(List l_)}{w0:World}(hm:f x1 x2 x3 x4 x5=some res)(hB1:Blk w0 g1 [sl A0 N0 C0,sl A1 N1 C1,sl AE NE CE])(hBw:B<=w0.z)(hBg:¬B g1)(hG:Gl w0 B)(p1_0:repS w0 B (sl A0 N0 C0) x1.d.rules)(p1_1:repS w0 B (sl A1 N1 C1) x1.b)(p1_2:a_ w0 S1_2 (sl AE NE CE) x1.list_)(p1_2n:S1_2.Nodup)(p1_2g:∀k∈S1_2,¬B k)(p1_2d:∀k∈S1_2,k∉[g1])(p2_0:x2.b.length<=LEN)(p3_0:inI x3)(p4_0:inI x4.number)(p4_1:repS w0 B (sl AI NI CI) x4.bytes)(p4_2:repS w0 B (sl AJ NJ CJ) x4.items)(hC4:R_ w0 b4 o4 [vI x4.number,sl AI NI CI,sl AJ NJ CJ])(hC4b:B b4)(p5_0:inI x5),h_ prog 69 [pt g1,Str.v x2,vI x3,.pointer<|some ⟨b4,o4,none⟩,vI x5] w0<|Q36 w0 g1 B A0 N0 C0 A1 N1 C1 AE NE CE S1_2 x1 res
abbrev o_1 (n:Nat):Prop:=m_f (f_f n).impl_indexer_part
theorem T_w09 (bD:o_1 n):m_f (i_V n<|f_f n):=by
 constructor
 intro A0 A1 AE AI AJ N0 C0 N1 C1 NE CE g1 NI CI NJ CJ b4 o4 S1_2 B x1 x2 x3 x4 x5 res w0 hm hB1 O hBg hG V an ao p1_2n p1_2g p1_2d ap Y ba bb W hC4 hC4b a0;unfold i_V at hm
 refine goG func69 z z z λfn hr=>Ws<|Rw z<|Wm z<|R z (a_8 z)<|Rf z h_p z<|R z (l0 g_31 z<|hB1.at z)<|R z (lnR b_5 z<|a_.rep ao)<|Rw z<|Wm z<|Rm z<|R z (a_8 z)<|Rf z h_p z<|R z (l0 g_31 z<|hB1.at z)<|RM z z<|Rm z<|R z (bP (parts:=[(0,.tmp 27),(1,.tmp 28),(2,.tmp 29)]) (cs:=[Str.v x2,vI x3,vI x5,vI 0]) n_C z z)<|E z (fS [(.tmp 30)] c_g z z z (a_v z) (lb z)<|lb z) ?_
 rintro _ aw ⟨rfl,a9⟩;have h3:=a9.below;have cP:=b_D a9<|d_i (x:=(⟨x2,x3,x5,0⟩:l_)) ap Y a0<|ii z
 obtain ⟨_,bE,bc⟩:=bdS hm;refine E z (b_l (α:=l_) c_g bE z z (ao.e h3) p1_2n (a9.blk:Blk aw w0.z [Str.v x2,vI x3,vI x5,vI 0]) (d_i (x:=(⟨x2,x3,x5,0⟩:l_)) ap Y a0<|ii z) an_ G_) ?_;rintro _ bF ⟨G,ax,ay,az,rfl,sk,aA,bG,hl⟩;refine R z (a_8 z)<|Rf z h_p z<|E0 (fs0 (cur':=[sl A0 N0 C0,sl A1 N1 C1,sl ax ay az]) z_31 z z ((hB1.e h3).c sk<|djs p1_2d) z z z z) ?_
 rintro _ bH ⟨bI,bJ⟩;have hi:=bJ.one;refine Wn<|Wq (Wd (X:=noX) 0 (pl_ 16 [10]) mo (by kernel_rfl) λbK sf _=>dM z z z<|dR z z (a_8 z)<|dR z z (fd h_o z) ?_)
 have aa:=bI.e sf;refine dR z z (lN (vs:=[sl A0 N0 C0]) L_ D_ z z fid<|aa.row 0 1 z)<|dM z z z<|dM z z z<|dR z z (a_8 z)<|dR z z (fd s_0 z)<|dR z z (l0 K_ z<|aa.at z)<|dM z z z ?_
 have ab:=(((h3.ag B).c sk<|g_ p1_2g).c hi<|g_<|e_ hBg).e sf;have ad:=lt_ (lt_ (lt_ h3.s sk.s) hi.s) sf.s;obtain ⟨rm,_,bL,be⟩:=Y_ bc;refine dE z z (fc call98 z<|W_w47 (B:=B) (x1:=(⟨x1.d.rules⟩:f_)) bL (zt' O ad) (V.g ab) Y (an.g ab) a0) (.inr λ_ _ h=>E_<|h.1) ?_;rintro _ wn ⟨sd,rfl,aB,_⟩;refine dM z z z<|dR z z (ext_ z z)<|dR z z (ext_ z z)<|dQ z z z<|dQ z z z<|pD<|Wo<|Wm z<|Rw z<|Wq<|Wm z<|R z (a_8 z)<|Rf z h_o z<|Rf z a_s z ?_
 have ae:=aa.e sd;refine R z (l0 a_u z<|ae.at z)<|Rm z ?_
 obtain ⟨xr,bM,bf⟩:=bdS be;have af:=ab.e sd;refine RX z (at_ (α:=d_) a_2 t_ z z z (V.g af) bM) ?_;rintro _ ⟨_,_,_,rfl,bN,bO,_⟩;obtain ⟨aC,aD,aE,aF,aG,aH,aI,aJ,aK,aL,aM,aN,rfl,_,_,_,_,_,_,bQ⟩:=b_3 bO;refine R z (lN (vs:=vR xr aC aD aE aF aG aH aI aJ aK aL aM aN) Q_ t_ z z fid bN)<|E z (fa c_q) ?_
 rintro _ aO ⟨rfl,aP⟩;have h5:=aP.below;refine E0 (fs0 (cur':=vR xr aC aD aE aF aG aH aI aJ aK aL aM aN) t_ z z (aP.blk:Blk aO wn.z [(Str.v (⟨[]⟩:Str)),vI 0,vI 0,vB false,sN,sN,sN,sN]) z z z z) ?_;rintro _ ws ⟨aQ,bR⟩;have h6:=bR.one;refine Wn<|Ws<|Rf z a_O z<|R z (l0 g_3 z<|aQ.at z)<|Wn<|Wb<|Wq<|Ws<|Rq z z z<|Rw z ?_
 obtain ⟨bS,aq,bg⟩:=bdS bf;refine Wt (λa w=>∃(ah:Bool),ah=bS/\Sat 126 [(0,pt g1),(1,Str.v x2),(2,vI x3),(3,.pointer<|some ⟨b4,o4,none⟩),(11,vI (x1.list_.length:Int)),(12,vI rm),(14,vI x5),(15,pt wn.z),(59,vI xr.kind),(60,vB ah)] a/\Below ws.z ws w) ?_ ?_
 .refine Wc z (λa5=>?_)<|λa5=>?_
  .exact a_j<|λ_ q=>⟨xr.kind==5,som<|ifT aq a5,q.k<|sc z<|sc z<|sc z<|sc z<|sc z<|sc z<|sc z<|sc z<|sc z<|sc z sn,br ws⟩
  exact Wg<|Rq z z z<|Ra z<|Wl (λ_ q=>⟨xr.kind==7,som<|ifF aq a5,q.k<|sc z<|sc z<|sc z<|sc z<|sc z<|sc z<|sc z<|sc z<|sc z<|sc z sn,br ws⟩)
 rintro bT wc ⟨ah,rfl,_,s4⟩;revert bT;refine Wo ?_;obtain ⟨bU,ar,bh⟩:=bdS bg;refine Wt (λa w=>∃(xy:Int),xy=bU/\Sat 126 [(0,pt g1),(1,Str.v x2),(2,vI x3),(3,.pointer<|some ⟨b4,o4,none⟩),(11,vI (x1.list_.length:Int)),(12,vI rm),(14,vI xy)] a/\Below wc.z wc w/\inI xy) ?_ ?_
 .refine Wc z (λa6=>?_)<|λa6=>?_
  .refine Wd (X:=noX) 0 (pl_ 15 []) mo (by kernel_rfl) λcQ su _=>dM z z z<|dM z z z<|dR z z (a_8 z)<|dR z z (fd h_o z)<|dR z z (fd a_s z) ?_
   have aR:=lt_ ad sd.s;refine dR z z (l0 a_u z<|((((ae.e h5).c h6<|djs<|mm1 (Blk.lt hB1) aR).e s4).e su).at z)<|dR z z (fd a_1 z)<|dR z z (l0 H_ z<|((aQ.e s4).e su).at z) ?_
   obtain ⟨_,bV,bi⟩:=bdS<|ifT ar a6;have aS:∀k∈[wn.z],¬B k:=or0 (e_ lr)<|n_<|zt' O aR;refine dRX z z (at_ (α:=Int) y_ z_3 z z z (bQ.g<|(((h5.ag B).c h6<|g_ aS).e s4).e su) bV) ?_;rintro _ ⟨_,_,_,rfl,bW,bX,_⟩;obtain ⟨rfl,_⟩:=V_ bX;refine dR z z (l0 g_3 z<|bW.at0 z) ?_;obtain ⟨bY,bZ,bj⟩:=bdS bi;refine dRX z z (at_ (α:=d_) a_2 t_ z z z (V.g<|(((af.e h5).c h6<|g_ aS).e s4).e su) bZ) ?_;rintro _ ⟨_,_,_,rfl,c0,c1,_⟩;obtain ⟨_,_,_,_,_,_,_,_,_,_,_,_,rfl,_,_,_,_,_,_,_⟩:=b_3 c1;exact dR z z (fd b_1 z)<|dR z z (l0 g_3 z<|c0.at (j:=2) z)<|dR z z (add_ z z)<|dQ z z z<|pD (λ_ q=>⟨b_ x5 bY.size,som bj,q.k<|s7 z z z z z z z,su,iA _ _⟩)
  refine Ws<|Rq z z z<|Rw z ?_
  obtain ⟨c2,au,bk⟩:=bdS<|ifF ar a6;refine Wt (λa w=>∃(xv:Int),xv=c2/\Sat 126 [(0,pt g1),(1,Str.v x2),(2,vI x3),(3,.pointer<|some ⟨b4,o4,none⟩),(11,vI (x1.list_.length:Int)),(12,vI rm),(14,vI xv)] a/\Below wc.z wc w/\inI xv) ?_ ?_
  .refine Wc z (λa8=>?_)<|λa8=>?_
   .exact Wg<|Rm z<|R z (add_ z z)<|Ra z<|Wl (λ_ q=>⟨b_ x5 1,som<|ifT au a8,q.k<|s7 z z z z z z z,br wc,iA _ _⟩)
   exact a_j<|λ_ q=>⟨x5,som<|ifF au a8,q.k<|s7 z z z z z z z,br wc,a0⟩
  rintro c3 _ ⟨xv,rfl,_,c4,c5⟩;revert c3;exact λ_ q=>⟨xv,som bk,q.k<|s7 z z z z z z z,c4,c5⟩
 rintro c6 H ⟨xy,rfl,_,sg,c7⟩;revert c6;refine Wo<|Wq<|Wm z<|R z (a_8 z)<|Rf z e_I z ?_
 have hw:=lt_ ad sd.s;have ai:∀k∈[wn.z],¬B k:=or0 (e_ lr)<|n_<|zt' O hw;have aT:=((((((((hC4.e h3).c sk<|(g_ p1_2g) _ hC4b).c hi<|(g_<|e_ hBg) _ hC4b).e sf).e sd).e h5).c h6<|(g_ ai) _ hC4b).e s4).e sg;refine R z (l0 g_0 z<|aT.at (j:=2) z) ?_;have aU:=(((af.e h5).c h6<|g_ ai).e s4).e sg;refine R z (lnR d_97 z<|W.g aU)<|Rm z<|Wn ?_
 obtain ⟨_,bm,av⟩:=bdS bh;refine Wf (σ:=Int×(List l_)) (ρ:=Int×(List l_)) (λ(aV:Nat) s a w=>un2 (λxj xo=>∃I J L S1,Sat 126 [(0,pt g1),(1,Str.v x2),(2,vI x3),(3,.pointer<|some ⟨b4,o4,none⟩),(11,vI (x1.list_.length:Int)),(12,vI rm),(14,vI xj),(85,vI (x4.items.length:Int)),(86,vI ((aV:Nat):Int))] a/\Chg (· ∈ ([g1]++G)) H w/\inI xj/\a_ w S1 (sl I J L) xo/\S1.Nodup/\(∀k∈S1,k∈G∨H.z<=k)/\Blk w g1 [sl A0 N0 C0,sl A1 N1 C1,sl I J L]) s) (λs a w=>un2 (λxj xo=>∃I J L S1,Sat 126 [(0,pt g1),(11,vI (x1.list_.length:Int)),(12,vI rm)] a/\Chg (· ∈ ([g1]++G)) H w/\inI xj/\a_ w S1 (sl I J L) xo/\S1.Nodup/\(∀k∈S1,k∈G∨H.z<=k)/\Blk w g1 [sl A0 N0 C0,sl A1 N1 C1,sl I J L]) s) (rQ prog fn<|Q36 w0 g1 B A0 N0 C0 A1 N1 C1 AE NE CE S1_2 x1) bm ?_ ?_ ?_ ?_ ?_
 .have c8:∀k∈G,k∉[g1]:=or2 hl p1_2d an_<|a_P (e_<|Blk.lt hB1) h3.s;exact λ_ q=>⟨ax,ay,az,G,q.k<|s9 z z z z z z z z z,cr ([g1]++G) H,c7,((((((aA.c hi c8).e sf).e sd).e h5).c h6<|ds<|mno (a_.lt aA)<|lt_ (lt_ hi.s sf.s) sd.s).e s4).e sg,bG,io sr,(((ae.e h5).c h6<|djs<|mm1 (Blk.lt hB1) hw).e s4).e sg⟩
 .rintro aV ⟨xj,xo⟩ _ ca _ hkz ⟨I,J,L,S1,bn,sp,a1,hq,hx,ha,ht⟩ bo;refine Wu ?_ bn;refine Ws<|Rl z z z<|Wn<|Wq<|Wc z (λ_=>?_) (λhc=>(O_ hkz hc).elim)
  refine Wk<|Wq<|Wb<|Wm z<|Ra z<|Wn (Wd (X:=noX) 67108864 (.rd 0<|.rd 1<|.rd 2<|.rd 3<|.rd 4<|.rd 5<|.rd 6<|.rd 7<|.rd 8<|.rd 11<|.rd 12<|.rd 13<|.rd 14<|.rd 15<|.rd 16<|.rd 17<|.rd 19<|.rd 20<|.rd 21<|.rd 22<|.rd 23<|.rd 24<|.rd 25<|.ef 9<|.rd 10<|.ef 18<|.ef 26<|.rd 27 .done) mo (by kernel_rfl) λcb sh _=>dM z z z<|dM z z z ?_)
  obtain ⟨_,cc,bp⟩:=bdS<|a_7 bo;refine dR z z (e_N z z cc)<|dM z z z<|dR z z (a_8 z)<|dR z z (fd h_o z) ?_
  have aj:=ht.e sh;refine dR z z (lN (vs:=[sl A0 N0 C0]) L_ D_ z z fid<|aj.row 0 1 z) ?_
  iterate 3 refine dM z z z ?_
  refine dR z z (a_8 z)<|dR z z (fd h_o z)<|dR z z (lN (vs:=[sl A0 N0 C0]) L_ D_ z z fid<|aj.row 0 1 z) ?_
  iterate 4 refine dM z z z ?_
  refine dR z z (a_8 z)<|dR z z (fd e_I z) ?_
  have a2:∀k∈G,¬B k:=or2 hl p1_2g an_<|n_<|zt' O h3.s;have aW:=(aT.c sp<|(nmA (g_<|e_ hBg)<|g_ a2) _ hC4b).e sh;refine dR z z (l0 g_0 z<|aW.at (j:=2) z)<|dM z z z ?_
  obtain ⟨_,cd,bq⟩:=bdS bp;have ak:=(aU.c sp<|nmA (g_<|e_ hBg)<|g_ a2).e sh;refine dRX z z (at_ (α:=Val) d_97 m_ z z z (W.g ak) cd) ?_;rintro _ ⟨_,_,_,rfl,ce,cf,cg⟩;obtain ⟨_,_,_,_,_,_,rfl,ch,ci,cj⟩:=w_3 cf;refine dM z z z ?_;have aX:=((((((((((hG.e h3).c sk<|g_ p1_2g).c hi<|g_<|e_ hBg).e sf).e sd).e h5).c h6<|g_ ai).e s4).e sg).c sp<|nmA (g_<|e_ hBg)<|g_ a2).e sh;have al:=lt_ (lt_ (lt_ (lt_ hw h5.s) h6.s) s4.s) sg.s;have aY:=lt_ (lt_ al sp.s) sh.s;obtain ⟨_,ck,bs⟩:=bdS bq;refine dE z z (fc call99 z<|W_w49 (B:=B) (x1:=(⟨x1.d.rules⟩:f_)) ck (zt' O aY) aX (V.g ak) Y<|ic (Nat.le_of_lt hkz)<|lt_ (repS.len W) z_) (.inr λ_ _ h=>E_<|h.1) ?_;rintro _ cl ⟨sb,rfl,_⟩;obtain ⟨_,aZ,bt⟩:=bdS bs;refine dR z z (e_N z z aZ) ?_;have a3:=ak.e sb;have b0:=lt_ aY sb.s;obtain ⟨_,cm,bu⟩:=bdS bt;refine dE z z (fc call100 z<|W_w4a (B:=B) (x1:=(⟨x1.d.rules⟩:f_)) cm (zt' O b0) (V.g a3) Y ba (bb.g a3) (W.g a3) (aW.e sb) hC4b<|ic (Nat.le_of_lt hkz)<|lt_ (repS.len W) z_) (.inr λ_ _ h=>E_<|h.1) ?_;rintro _ cn ⟨se,rfl,co⟩;have b1:=a3.e se;have b2:=(sb.ag B).e se;obtain ⟨cp,cq,ct,bv⟩:=Y_ bu;refine dE z z (fc call69 z<|bD.run (B:=B) ct ((aj.e sb).e se) (zt' O<|lt_ b0 se.s) hBg ((aX.e sb).e se) (V.g b1) (an.g b1) (((hq.e sh).e sb).e se) hx (or1 ha a2 (n_<|zt' O al):∀k∈S1,¬B k) (or1 ha (or2 hl p1_2d an_ (a_P (e_<|Blk.lt hB1) h3.s):∀k∈G,k∉[g1]) (a_P (e_<|Blk.lt hB1) al):∀k∈S1,k∉[g1]) (g_d aZ) co ch (ci.g b2) (cj.g b2) ((ce.e sb).e se) cg a1) (.inl z) ?_;rintro _ cu ⟨cv,cw,cx,cy,b3,rfl,cz,cA,cB,cC,cD⟩;refine dQ z z z<|pD<|Wo<|Wg<|R z (inc_ hkz (lt_ (repS.len W) z_) z z)<|Rm z<|Wl ?_
  exact λ_ q=>⟨(cp,cq),(som bv).symm,⟨cw,cx,cy,b3,q.k<|s9 z z z z z z z z z,(cM (i_ (i_ (i_ (cM (cr ([g1]++G) H) sp (aa_ (io<|a_B sr)<|io<|a_3 sr):Chg (· ∈ ([g1]++G)) H ca) sh:Chg (· ∈ ([g1]++G)) H cb) sb:Chg (· ∈ ([g1]++G)) H cl) se:Chg (· ∈ ([g1]++G)) H cn) cv (aa_ (io<|a_B sr) (or1 ha (io<|a_3 sr) (j_ lr):∀k∈S1,k∈([g1]++G)∨H.z<=k)):Chg (· ∈ ([g1]++G)) H cu),cz,cA,cB,(or1 cC (or1 ha (io sr) (j_ lr):∀k∈S1,k∈G∨H.z<=k) (j_<|lt_ (lt_ (lt_ sp.s sh.s) sb.s) se.s):∀k∈b3,k∈G∨H.z<=k),cD⟩⟩
 .rintro ⟨xj,xo⟩ _ cE ⟨I,J,L,S1,bw,cF,a1,hq,hx,ha,ht⟩;refine Wu ?_ bw;refine Ws<|Rl z z z<|Wn<|Wq<|Wc z (λhc=>(P_ hc).elim) (λ_=>?_)
  exact We<|λ_ q=>⟨rfl,⟨I,J,L,S1,q.k<|s3 z z z,(cM (cr ([g1]++G) H) cF (aa_ (io<|a_B sr)<|io<|a_3 sr):Chg (· ∈ ([g1]++G)) H cE),a1,hq,hx,(or1 ha (io sr) (j_ lr):∀k∈S1,k∈G∨H.z<=k),ht⟩⟩
 .rintro ⟨xj,xo⟩ cG cH rfl ⟨I,J,L,S1,_,b5,a1,hq,hx,ha,ht⟩;have bx:=elL av;revert cG;refine Wo<|Wm z<|R z (a_8 z)<|Rf z h_p z<|R z (l0 g_31 z<|ht.at z)<|RM z z ?_
  obtain ⟨am,b6,bz⟩:=bdS<|a_7 bx;refine RX z (c_t (α:=l_) b_5 b_x z z hq b6) ?_;rintro _ ⟨_,cI,rfl⟩;refine Rf z h_q z ?_;obtain ⟨_,cJ,bA⟩:=bdS bz;refine E0 (e_q (α:=l_) (v':=(⟨am.path,am.rule,am.start,rm⟩:l_)) z_3 z cI z z z z b6 cJ hq hx (lb z)<|λ_ _ _ h=>n_u h aB) ?_;rintro _ cK ⟨b7,b8,cL,cN,cO⟩;refine Wn<|Wm z<|Rw z ?_
  obtain rfl:=som bA;have b9:∀k∈G,k∈([g1]++S1_2)∨w0.z<=k:=or2 hl (io<|a_3 sr) an_<|j_ h3.s;have a4:=lt_ (lt_ (lt_ (lt_ hw h5.s) h6.s) s4.s) sg.s;exact Wr<|c_ hr z ⟨(cM (cM (i_ (i_ (cM (i_ (i_ (i_ (cM (cM (i_ (cr ([g1]++S1_2) w0) h3:Chg (· ∈ ([g1]++S1_2)) w0 aw) sk (io<|a_3 sr):Chg (· ∈ ([g1]++S1_2)) w0 bF) hi (io<|a_B sr):Chg (· ∈ ([g1]++S1_2)) w0 bH) sf:Chg (· ∈ ([g1]++S1_2)) w0 bK) sd:Chg (· ∈ ([g1]++S1_2)) w0 wn) h5:Chg (· ∈ ([g1]++S1_2)) w0 aO) h6 (mor hw:∀k∈[wn.z],k∈([g1]++S1_2)∨w0.z<=k):Chg (· ∈ ([g1]++S1_2)) w0 ws) s4:Chg (· ∈ ([g1]++S1_2)) w0 wc) sg:Chg (· ∈ ([g1]++S1_2)) w0 H) b5 (aa_ (io<|a_B sr) b9):Chg (· ∈ ([g1]++S1_2)) w0 cH) b8 (or1 ha b9 (j_ a4):∀k∈S1,k∈([g1]++S1_2)∨w0.z<=k):Chg (· ∈ ([g1]++S1_2)) w0 cK),I,J,L,b7,z,aB,cL,cN,(or1 cO (or1 ha (or2 hl (io sr) an_ (j_ h3.s):∀k∈G,k∈S1_2∨w0.z<=k) (j_ a4):∀k∈S1,k∈S1_2∨w0.z<=k) (j_<|lt_ a4 b5.s):∀k∈b7,k∈S1_2∨w0.z<=k),ht.c b8<|djs (or1 ha (or2 hl p1_2d an_ (a_P (e_<|Blk.lt hB1) h3.s):∀k∈G,k∉[g1]) (a_P (e_<|Blk.lt hB1) a4):∀k∈S1,k∉[g1])⟩
 rintro _ _ _ _ rfl ⟨rfl,bB⟩;have bC:=elR av;obtain rfl:=som bC;exact ⟨bB,z⟩
theorem A_w09:∀n,o_1 n
  | 0=>⟨λhm=>by intros;exact nomatch (show none=some _ from hm)⟩
  | n+1=>T_w09<|A_w09 n
theorem W_w09:m_f (f_f n).impl_indexer_part:=A_w09 n
theorem W_w4b {x1:f_}{x2:Bt}{res:(List l_)×Bool}(hm:i_X n x1 x2=some res)(G:B<=w0.z)(hG:Gl w0 B)(H:repS w0 B (sl A0 N0 C0) x1.rules)(O:repS w0 B (sl A4 N4 C4) x2):h_ prog 42 [(.agg #[sl A0 N0 C0]),sl A4 N4 C4] w0 (Q21 w0 B res):=by
 unfold i_X at hm
 refine goG func42 z z z λfn hr=>Ws<|E z (fb z) ?_
 rintro _ wr ⟨rfl,hc⟩;have h2:=hc.below;have h6:Blk wr w0.z [sl A0 N0 C0]:=hc.blk;refine Ra z<|Rw z<|Ws<|R z (lN (vs:=[sl A0 N0 C0]) L_ D_ z z fid<|h6.row 0 1 z)<|Rm z ?_
 have hd:=hG.e h2;obtain ⟨rs,_,_,ew,hme⟩:=U_ hm;refine E z (fc call68 z<|W_w1v ew (zt' G h2.s) hd (H.e h2)<|O.e h2) ?_;rintro _ wf ⟨s5,ax,ny,cz,_,Y,a0,a1,_,rfl,a2,J,L,_,_,_,_⟩;refine Rm z ?_
 iterate 3 refine Re z z z ?_
 refine E z (fa a_q) ?_;rintro _ wg ⟨rfl,hh⟩;have h:=hh.below;have hi:Blk wg wf.z [vI 0,sN,sN]:=hh.blk;refine E0 (fs0 (cur':=[vI rs.number,sl ax ny cz,sl Y a0 a1]) m_ z z hi z z z z) ?_;rintro _ wj ⟨a3,a4⟩;have h1:=a4.one;refine Ra z<|Rw z<|Wq<|Wm z<|R z (nq z z)<|Wx z (λI=>?_) (λI=>?_)
 .refine Ws<|E z (f0 (α:=l_) c_g) ?_
  rintro _ _ ⟨a5,a6,a7,rfl,a8,a9⟩;refine Ra z<|Rw z ?_
  obtain rfl:=som<|ifT hme I;have hk:=lt_ h2.s s5.s;exact Wr<|a_0 hr z z ⟨bup (bM (bup (bup h2 s5) h) h1<|m1 hk) a8,a5,a6,a7,[wj.z],z,a9,Z_,m1<|lt_ (lt_ hk h.s) h1.s⟩
 refine Wk<|Ws ?_
 have hl:=((h6.e s5).e h).c h1<|djs<|mm1 h6.lt s5.s
 refine R z (lN (vs:=[sl A0 N0 C0]) L_ D_ z z fid<|hl.row 0 1 z)<|Rm z<|R z (bP (parts:=[(0,.tmp 20),(1,.tmp 21)]) (cs:=[sl A0 N0 C0,sl A4 N4 C4,sN]) r_W z z)<|E z (fb z) ?_
 rintro _ aa ⟨rfl,hn⟩;have h3:=hn.below;refine Rw z<|Wm z<|R z (lN (vs:=[sl A0 N0 C0]) L_ D_ z z fid<|(hl.e h3).row 0 1 z) ?_
 have ha:=lt_ h2.s s5.s;have ho:∀k∈[wf.z],¬B k:=or0 (e_ lr)<|n_<|zt' G ha;have hp:=((((h2.ag B).e s5).e h).c h1<|g_ ho).e h3;have hq:=lt_ ha h.s;have ht:=lt_ hq h1.s;have hu:=lt_ ht h3.s;obtain ⟨_,ab,V⟩:=bdS<|ifF hme I;refine E z (fc call70 z<|m_1 ab (zt' G hu)<|H.g hp) ?_;rintro _ _ ⟨s4,rfl,ad⟩;have hv:=hp.e s4;have hb:=zt' G hq;obtain ⟨_,_,ae,W⟩:=Y_ V;refine E z (fc call69 z<|W_w09.run (B:=wg.z) ae ((hn.blk:Blk aa wj.z [sl A0 N0 C0,sl A4 N4 C4,sN]).e s4) (a_K<|lt_ (lt_ h1.s h3.s) s4.s) (atp<|nbl<|m1 h1.s) ((((((hd.e s5).e h).c h1<|g_ ho).e h3).e s4).mono hb) (repS.mono (H.g hv) hb) (repS.mono (O.g hv) hb) onL G_ (nbl an_) an_ (lb z) ad a2 (repS.mono (or_ ((((J.e h).c h1<|ds<|mnr<|a_.lt J).e h3).e s4)<|a_.lt J)<|a_K h.s) (repS.mono (or_ ((((L.e h).c h1<|ds<|mnr<|a_.lt L).e h3).e s4)<|a_.lt L)<|a_K h.s) (((a3.e h3).e s4).row 0 3 z) hi.lt<|ii z) ?_;rintro _ _ ⟨af,ah,ai,aj,Sm,rfl,_,ak,al,am,an⟩;refine Wn<|Wm z<|R z (a_8 z)<|Rf z h_p z<|R z (l0 g_31 z<|an.at z)<|Ra z<|Rw z ?_
 obtain rfl:=som W;exact Wr<|a_0 hr z z ⟨bM (bup (bup (bM (bup (bup h2 s5) h) h1<|m1 ha) h3) s4) af<|aa_ (m1 ht) an_,ah,ai,aj,Sm,z,ak,al,(or1 am an_ (a_W<|lt_ hu s4.s):∀k∈Sm,w0.z<=k)⟩
theorem W_w20 {x1:Str}{x2:UInt8}{res:(List Str)}(hm:f_8 x1 x2=some res)(aV:B<=w0.z)(J:x1.b.length<=LEN):h_ prog 180 [Str.v x1,vU<|byteI x2] w0 (Q2 w0 B res):=by
 unfold f_8 at hm
 refine goG func180 z z z λfn hr=>Ws<|Rw z<|Ws<|E z (f0 (α:=Str) b_q) ?_
 rintro _ G ⟨ai,aj,ak,rfl,sk,al⟩;refine Rw z<|Ws<|Rw z<|Wq<|Ws<|Rw z ?_
 obtain ⟨_,a1,hmr⟩:=bdS hm;refine Wf (σ:=(List Str)×Int) (ρ:=List Str) (λ(kd:Nat) s a w=>un2 (λO x5=>∃a2 H I h,Sat 35 [(0,Str.v x1),(1,vU<|byteI x2),(5,sl a2 H I),(6,vI x5),(7,vI ((kd:Nat):Int))] a/\Cg [w0.z] G w/\a_ w h (sl a2 H I) O/\h.Nodup/\(∀k∈h,k∈[w0.z]∨G.z<=k)/\inI x5) s) (λs a w=>un2 (λO x5=>∃a2 H I h,Sat 35 [(0,Str.v x1),(5,sl a2 H I),(6,vI x5)] a/\Cg [w0.z] G w/\a_ w h (sl a2 H I) O/\h.Nodup/\(∀k∈h,k∈[w0.z]∨G.z<=k)/\inI x5) s) (rQ prog fn<|Q2 w0 B) a1 ?_ ?_ ?_ ?_ ?_
 .exact λ_ q=>⟨ai,aj,ak,[w0.z],q.k<|s5 z z z z z,cr [w0.z] G,al,Z_,io sr,ii z⟩
 .rintro kd ⟨O,x5⟩ _ L _ hke ⟨a2,H,I,h,a3,ss,V,W,hb,hf⟩ a4;refine Wu ?_ a3;refine Wq<|Wm z<|Rm z<|R z (lnT d_9 z)<|Rl z z z<|Wx z (λ_=>?_) (λhc=>(O_ hke hc).elim)
  refine Wk<|Wq<|Wb<|Wm z<|Rm z ?_
  obtain ⟨_,eu,a5⟩:=bdS<|a_7 a4;refine R z (c_u d_9 z z (a_A eu).1 (a_A eu).2.1)<|Rm z<|Rq z z z<|Wn ?_
  obtain ⟨am,huv,a6⟩:=bdS a5;refine Wt (λa w=>∃(xg:List Str)(xc:Int),(xg,xc)=am/\∃ah ni cj Sa,Sat 35 [(0,Str.v x1),(1,vU<|byteI x2),(5,sl ah ni cj),(6,vI xc),(7,vI ((kd:Nat):Int))] a/\Cg h L w/\a_ w Sa (sl ah ni cj) xg/\Sa.Nodup/\(∀k∈Sa,k∈h∨L.z<=k)/\inI xc) ?_ ?_
  .refine Wc z (λhcl=>?_)<|λhcl=>?_
   .refine Wm z<|RM z z<|Rm z ?_
    obtain ⟨an,em,a7⟩:=bdS<|ifT huv hcl;refine R z (m_p d_9 z z z J em)<|E z (fS [(.tmp 24)] b_q z z z (a_v z) (lb z)<|lb z) ?_
    rintro _ ww ⟨rfl,hn⟩;have ho:=hn.below;have aW:=b_D hn<|c_r<|g_i em J
    obtain ⟨ao,ap,a8⟩:=bdS a7;refine E z (b_l (α:=Str) b_q ap z z (V.e ho) W (hn.blk:Blk ww L.z [Str.v an]) (c_r<|g_i em J) an_ G_) ?_;rintro _ aq ⟨Sx,ar,au,av,rfl,aw,ax,ay,az⟩;refine Rw z<|Wg<|Rm z<|R z (inc_ hke (lt_ J z_) z z)<|Ra z<|Wl ?_
    exact λ_ q=>⟨ao,((kd+1:Nat):Int),som a8,ar,au,av,Sx,q.k<|s5 z z z z z,(cM (i_ (cr h L) ho:Cg h L ww) aw (io sr):Cg h L aq),ax,ay,(or2 az (io sr) an_ (j_ ho.s):∀k∈Sx,k∈h∨L.z<=k),ic (Nat.succ_le_of_lt hke)<|lt_ J z_⟩
   exact a_j<|λ_ q=>⟨O,x5,som<|ifF huv hcl,a2,H,I,h,q.k<|s5 z z z z z,cr h L,V,W,io sr,hf⟩
  rintro aA aB ⟨xg,xc,rfl,ah,ni,cj,Sa,_,aC,aD,aE,aF,aG⟩;revert aA;refine Wo<|Wg<|Rm z<|R z (inc_ hke (lt_ J z_) z z)<|Ra z<|Wl ?_
  have hy:∀k∈h,k∈[w0.z]∨G.z<=k:=or1 hb (io sr)<|j_ lr;exact λ_ q=>⟨(xg,xc),(som<|a_7 a6).symm,⟨ah,ni,cj,Sa,q.k<|s5 z z z z z,(cM (cM (cr [w0.z] G) ss (io sr):Cg [w0.z] G L) aC hy:Cg [w0.z] G aB),aD,aE,(or1 aF hy (j_ ss.s):∀k∈Sa,k∈[w0.z]∨G.z<=k),aG⟩⟩
 .rintro ⟨O,x5⟩ _ aH ⟨a2,H,I,h,a9,aI,V,W,hb,hf⟩;refine Wu ?_ a9;refine Wq<|Wm z<|Rm z<|R z (lnT d_9 z)<|Rl z z z<|Wx z (λhc=>(P_ hc).elim) (λ_=>?_)
  exact We<|λ_ q=>⟨rfl,⟨a2,H,I,h,q.k<|s3 z z z,(cM (cr [w0.z] G) aI (io sr):Cg [w0.z] G aH),V,W,(or1 hb (io sr) (j_ lr):∀k∈h,k∈[w0.z]∨G.z<=k),hf⟩⟩
 .rintro ⟨O,x5⟩ aJ aK rfl ⟨a2,H,I,h,_,sz,V,W,hb,hf⟩;have aa:=elL hmr;revert aJ;refine Wo<|Wm z<|RM z z ?_
  obtain ⟨aL,ep,ab⟩:=bdS<|a_7 aa;refine R z (m_p d_9 z z z J ep)<|E z (fS [(.tmp 32)] b_q z z z (a_v z) (lb z)<|lb z) ?_
  rintro _ aM ⟨rfl,hq⟩;have ht:=hq.below;have aX:=b_D hq<|c_r<|g_i ep J
  obtain ⟨_,aN,ad⟩:=bdS ab;refine E z (b_l (α:=Str) b_q aN z z (V.e ht) W (hq.blk:Blk aM aK.z [Str.v aL]) (c_r<|g_i ep J) an_ G_) ?_;rintro _ _ ⟨Y,aO,aP,aQ,rfl,aR,aS,aT,aU⟩;refine Rw z ?_
  obtain rfl:=som ad;have a0:∀k∈h,w0.z<=k:=or1 hb (e_ lr)<|a_W sk.s;exact Wr<|c_ hr z ⟨bM (bup (bM sk sz<|e_ lr) ht) aR a0,aO,aP,aQ,Y,z,aS,aT,(or2 aU a0 an_ (a_W<|lt_ (lt_ sk.s sz.s) ht.s):∀k∈Y,w0.z<=k)⟩
 rintro _ _ _ _ rfl ⟨rfl,ae⟩;have af:=elR hmr;obtain rfl:=som af;exact ⟨ae,z⟩
theorem W_w21 {x1:Str}{res:Int×Bool}(hm:g_W x1=some res)(ae:B<=w0.z)(W:x1.b.length<=LEN):h_ prog 138 [Str.v x1] w0 (Q22 w0 B res):=by
 unfold g_W at hm
 refine goG func138 z z z λfn hr=>Ws<|Ra z<|Rw z<|Wq<|Wq ?_
 obtain ⟨uv,huf,hmg⟩:=bdS hm;refine Wt (λa w=>∃(V:Bool),V=uv/\Sat 50 [(0,Str.v x1),(22,vB V)] a/\Below w0.z w0 w) ?_ ?_
 .refine Wg<|Rm z<|R z (a_M z z)<|Rm z ?_
  rcases bs (x1.b==(⟨[]⟩:Str).b) with H | H
  .iterate 3 refine Nh z H ?_
   exact R z (pT z H z)<|Rm z<|Nh z z<|Nh z z<|Nh z z<|Nh z z<|Nv z<|Nv z<|Nv z<|Nh z z<|R z (pT z z z)<|Wl (λ_ q=>⟨true,som<|ifT huf H,q.k<|s2 z z,br w0⟩)
  have hmh:=ifF huf H;refine Rh z H (mv z)<|Rh z H (lnT d_9 z)<|Rh z H (X_ z z)<|R z (pF z H z)<|Rm z ?_
  rcases bs (decide<|13<(x1.b.length:Int)) with h | h
  .iterate 4 refine Nh z h ?_
   exact Nv z<|Nv z<|Nv z<|Nh z h<|R z (pT z h z)<|Wl (λ_ q=>⟨true,som<|ifT hmh h,q.k<|s2 z z,br w0⟩)
  refine Rh z h (mv z) ?_;obtain ⟨xw,ei,hmj⟩:=bdS<|ifF hmh h;refine Rh z h (c_u d_9 z z (a_A ei).1 (a_A ei).2.1)<|Rh z h (eql z z)<|Rh z h (mv z) ?_
  rcases bs ((byteI xw)==(byteI (48:UInt8))) with I | I
  .exact Rh z I (mv z)<|Rh z I (lnT d_9 z)<|Rh z I (X_ z z)<|Rh z h (pT z I z)<|R z (pF z h z)<|Wl (λ_ q=>⟨decide<|1<(x1.b.length:Int),som<|ifT hmj I,q.k<|s2 z z,br w0⟩)
  iterate 3 refine Nh z I ?_
  exact Rh z h (pF z I z)<|R z (pF z h z)<|Wl (λ_ q=>⟨false,som<|ifF hmj I,q.k<|s2 z z,br w0⟩)
 rintro ax J ⟨V,rfl,_,s6⟩;revert ax;refine Wo<|Wc z (λhca=>?_) (λhca=>?_)
 .refine Ws<|Ra z<|Rw z ?_
  obtain rfl:=som<|ifT hmg hca;exact Wr<|a_0 hr z z ⟨s6,z,ii z⟩
 refine Wk<|Ws<|Rw z<|Wq<|Ws<|Rw z ?_
 obtain ⟨_,huy,hmk⟩:=bdS<|ifF hmg hca;refine Wf (σ:=Int) (ρ:=Int×Bool) (λ(kb:Nat)(x2:Int) a w=>Sat 50 [(0,Str.v x1),(4,vI x2),(5,vI ((kb:Nat):Int))] a/\Below J.z J w/\inI x2) (λ(x2:Int) a w=>Sat 50 [(4,vI x2)] a/\Below J.z J w/\inI x2) (rQ prog fn<|Q22 w0 B) huy ?_ ?_ ?_ ?_ ?_
 .exact λ_ q=>⟨q.k<|s3 z z z,br J,ii z⟩
 .rintro kb x2 _ L _ hkl ⟨hSz,sm,O⟩ Y;refine Wu ?_ hSz;refine Wq<|Wm z<|Rm z<|R z (lnT d_9 z)<|Rl z z z<|Wx z (λ_=>?_) (λhc=>(O_ hkl hc).elim)
  refine Wk<|Wq<|Wb<|Wq<|Wq ?_
  obtain ⟨a6,a0,hmn⟩:=bdS Y;refine Wt (λa w=>∃(xc:Bool),xc=a6/\Sat 50 [(0,Str.v x1),(4,vI x2),(5,vI ((kb:Nat):Int)),(38,vB xc)] a/\Below L.z L w) ?_ ?_
  .refine Wg<|RM z z ?_
   obtain ⟨a7,eo,hmp⟩:=bdS a0;refine R z (c_u d_9 z z (a_A eo).1 (a_A eo).2.1)<|Rl z z z<|Rm z ?_
   rcases bs (decide<|(byteI a7)<(byteI (48:UInt8))) with G | G
   .iterate 4 refine Nh z G ?_
    exact R z (pT z G z)<|Wl (λ_ q=>⟨true,som<|ifT hmp G,q.k<|s4 z z z z,br L⟩)
   refine Rh z G (mv z)<|Rh z G (mv z) ?_
   obtain ⟨a8,eq,a1⟩:=bdS<|ifF hmp G;exact Rh z G (c_u d_9 z z (a_A eq).1 (a_A eq).2.1)<|Rh z G (X_ z z)<|R z (pF z G z)<|Wl (λ_ q=>⟨decide<|(byteI (57:UInt8))<(byteI a8),som a1,q.k<|s4 z z z z,br L⟩)
  rintro a9 _ ⟨xc,rfl,_,sr⟩;revert a9;refine Wo<|Wc z (λhcd=>?_) (λhcd=>?_)
  .exact Ws<|Ra z<|Rw z<|Wr<|rtO<|qL (som<|ifT hmn hcd).symm<|a_0 hr z z ⟨bup (bup s6 sm) sr,z,ii z⟩
  refine Wk<|Wg<|Rm z<|R z (g_n z z)<|RM z z ?_
  obtain ⟨aa,es,a2⟩:=bdS<|ifF hmn hcd;exact R z (c_u d_9 z z (a_A es).1 (a_A es).2.1)<|R z (o_5 z z)<|R z (b_s d_5 d_3 z)<|R z (add_ z z)<|Rw z<|Wg<|Rm z<|R z (inc_ hkl (lt_ W z_) z z)<|Ra z<|Wl (λ_ q=>⟨b_ (b_e 10 x2)<|byteI<|mkB (byteI aa - byteI (48:UInt8)),(som a2).symm,⟨q.k<|s3 z z z,bup sm sr,iA _ _⟩⟩)
 .rintro x2 _ _ ⟨a3,ab,O⟩;refine Wu ?_ a3;refine Wq<|Wm z<|Rm z<|R z (lnT d_9 z)<|Rl z z z<|Wx z (λhc=>(P_ hc).elim) (λ_=>?_)
  exact We<|λ_ q=>⟨rfl,⟨q.k<|s1 z,ab,O⟩⟩
 .rintro x2 ad _ rfl ⟨_,st,O⟩;have hmu:=elL hmk;revert ad;refine Wo<|Wq<|Wm z<|R z (X_ z z)<|Wx z (λhce=>?_) (λhce=>?_)
  .refine Ws<|Ra z<|Rw z ?_
   obtain rfl:=som<|ifT hmu hce;exact Wr<|a_0 hr z z ⟨bup s6 st,z,ii z⟩
  refine Wk<|Wm z<|Ra z<|Rw z ?_
  obtain rfl:=som<|ifF hmu hce;exact Wr<|a_0 hr z z ⟨bup s6 st,z,O⟩
 rintro _ _ _ _ rfl ⟨rfl,a4⟩;have a5:=elR hmk;obtain rfl:=som a5;exact ⟨a4,z⟩
theorem W_w22 {x1:Str}{res:Bool}(hm:f_9 n x1=some res)(L:B<=w0.z)(J:x1.b.length<=LEN):h_ prog 103 [Str.v x1] w0 (Q11 w0 B res):=by
 unfold f_9 at hm
 refine goG func103 z z z λfn hr=>Ws<|Rw z<|Wq<|Wq ?_
 obtain ⟨ub,huc,O⟩:=bdS hm;refine Wt (λa w=>∃(x4:Bool),x4=ub/\Sat 25 [(0,Str.v x1),(18,vB x4)] a/\Below w0.z w0 w) ?_ ?_
 .refine Wg<|Rm z ?_
  obtain ⟨rd,ee,V⟩:=bdS huc;refine E z (fc call137 z<|j_X (B:=B) ee L J) ?_;rintro _ _ ⟨s3,rfl⟩;refine Rm z ?_
  rcases bs rd with h | h
  .exact Nh z h<|Nh z h<|R z (pT z h z)<|Rm z<|Nh z z<|Nh z z<|R z (pT z z z)<|Rm z<|Nh z z<|Nh z z<|R z (pT z z z)<|Wl (λ_ q=>⟨true,som<|ifT V h,q.k<|s2 z z,s3⟩)
  have W:=ifF V h;refine Rh z h (mv z)<|Rh z h (a_M z z)<|R z (pF z h z)<|Rm z ?_
  rcases bs (x1.b==(⟨[42]⟩:Str).b) with G | G
  .exact Nh z G<|Nh z G<|R z (pT z G z)<|Rm z<|Nh z z<|Nh z z<|R z (pT z z z)<|Wl (λ_ q=>⟨true,som<|ifT W G,q.k<|s2 z z,s3⟩)
  have hma:=ifF W G;refine Rh z G (mv z)<|Rh z G (a_M z z)<|R z (pF z G z)<|Rm z ?_
  rcases bs (x1.b==(⟨[63]⟩:Str).b) with H | H
  .exact Nh z H<|Nh z H<|R z (pT z H z)<|Wl (λ_ q=>⟨true,som<|ifT hma H,q.k<|s2 z z,s3⟩)
  exact Rh z H (mv z)<|Rh z H (a_M z z)<|R z (pF z H z)<|Wl (λ_ q=>⟨x1.b==(⟨[43]⟩:Str).b,som<|ifF hma H,q.k<|s2 z z,s3⟩)
 rintro af _ ⟨x4,rfl,_,s5⟩;revert af;refine Wo<|Wc z (λI=>?_) (λI=>?_)
 .refine Ws<|Rw z ?_
  obtain rfl:=som<|ifT O I;exact Wr<|c_ hr z ⟨s5,z⟩
 refine Wk<|Wm z ?_
 obtain ⟨_,_,eg,hmh⟩:=Y_<|ifF O I;refine E z (fc call138 z<|W_w21 eg (zt' L s5.s) J) ?_;rintro _ _ ⟨si,rfl,_⟩;refine Rm z<|Re z z z<|Re z z z<|Ra z<|Rw z<|Wm z<|Rw z ?_
 obtain rfl:=som hmh;exact Wr<|c_ hr z ⟨bup s5 si,z⟩
theorem W_w4c {x1:Str}{res:Bool}(hm:f_T n x1=some res)(L:B<=w0.z)(J:x1.b.length<=LEN):h_ prog 102 [Str.v x1] w0 (Q11 w0 B res):=by
 unfold f_T at hm
 refine goG func102 z z z λfn hr=>Ws<|Rw z<|Wq ?_
 obtain ⟨W,O,V⟩:=bdS hm;refine Wt (λa w=>∃(x2:Bool),x2=W/\Sat 13 [(2,vB x2)] a/\Below w0.z w0 w) ?_ ?_
 .refine Wg<|Rm z ?_
  obtain ⟨Y,ea,H⟩:=bdS O;refine E z (fc call103 z<|W_w22 (B:=B) ea L J) ?_;rintro _ _ ⟨s3,rfl⟩;refine Rm z ?_
  rcases bs Y with h | h
  .exact Nh z h<|Nh z h<|R z (pT z h z)<|Rm z<|Nh z z<|Nh z z<|R z (pT z z z)<|Ra z<|Wl (λ_ q=>⟨true,som<|ifT H h,q.k<|s1 z,s3⟩)
  have I:=ifF H h;refine Rh z h (mv z)<|Rh z h (a_M z z)<|R z (pF z h z)<|Rm z ?_
  rcases bs (x1.b==(⟨[35]⟩:Str).b) with G | G
  .exact Nh z G<|Nh z G<|R z (pT z G z)<|Ra z<|Wl (λ_ q=>⟨true,som<|ifT I G,q.k<|s1 z,s3⟩)
  exact Rh z G (mv z)<|Rh z G (a_M z z)<|R z (pF z G z)<|Ra z<|Wl (λ_ q=>⟨x1.b==(⟨[46,46]⟩:Str).b,som<|ifF I G,q.k<|s1 z,s3⟩)
 rintro ab _ ⟨x2,rfl,_,sc⟩;revert ab;refine Wo ?_;obtain rfl:=som V;exact Wr<|c_ hr z ⟨sc,z⟩
def Q37 (w0:World)(B:Zone)(r:(List Str)×Bool)(v:Value)(w':World):Prop:=Bw w0 w'/\un2 (λI J=>∃(h:Option Addr)(G H:Nat)(S1:List Nat),v = .tuple #[(sl h G H),(vB J)]/\a_ w' S1 (sl h G H) I/\S1.Nodup/\(∀k∈S1,w0.heap.size<=k)) r
theorem s_j {w:World}{gp b:Nat}{s:Str}{l0 parts:List Str}(hs:s.b.length<=LEN)(hm:f_8 s (47:UInt8)=some l0)(hsl:slc l0 1 (l0.length:Int)=some parts)(hp:Blk w gp [Str.v s])(hb:b<w.heap.size)(hrow:∀g,c_b w b g->g<w.heap.size) :
    SeqStopsK (α:={x:Str // x∈parts/\x.b.length<=LEN}) Fence.wide 1 Tryz.prog 179 [pt gp].toArray (λx=>#[x.1.v]) (KpS b) (λxs=>xs.map (·.1)=parts) (λ_=>True) parts.length w:=by
  intro l J Jx W hW hJ hJx hY h0;have hpW:=hp.ext hW
  have hrowW:∀g,c_b W b g->g<W.heap.size:=λg ⟨n,c,h⟩=>by
    have h':w.cell? ⟨b,0,none⟩=some (sl (some ⟨g,0,none⟩) n c):=(World.cell?_of_block (w:=w) (w':=W) (a:=⟨b,0,none⟩)<|hW.block b hb).symm.trans h;exact Nat.lt_of_lt_of_le (hrow g ⟨n,c,h'⟩) hW.size
  have hbW:=Nat.lt_of_lt_of_le hb hW.size
  have hc:h_ Tryz.prog 179 [.func (.yield l) #[] #[],pt gp] W (λ_ W'=>(∃xs:List {x:Str // x∈parts/\x.b.length<=LEN},xs.map (·.1)=parts/\J xs W')∨(∃pre,True/\Jx pre W')):=by
    obtain ⟨fn,hf,hbd,hN,hr⟩:=fnE Tryz.func179;refine h_E hf (hbd.trans rfl) (hN.trans rfl) (Nat.le_of_ble_eq_true rfl) ?_;refine a_i<|a_J ?_;refine R rfl (b_J g_9 rfl (λh=>h)<|hpW.at rfl) ?_;refine E rfl (e_F Tryz.call180 rfl<|W_w20 (B:=W.heap.size) hm zr hs) ?_;rintro _ W1 ⟨s1,a1,n1,c1,S1,rfl,ho,nd,hge⟩;refine RX rfl (q_J F_ z_9 rfl ho rfl rfl hsl) ?_;intro v7 hv7;obtain ⟨ao7,c7,rfl,_⟩:=id hv7;refine R rfl (g_e F_ rfl<|hv7.repS (B:=W1.heap.size)<|λk hk=>ho.lt k hk) ?_;refine R rfl (b_g rfl) ?_;refine a_k<|WC.of_KC ?_;have hJ1:J [] W1:=hJ [] W W1 none h0 (Below.grows s1) (λr h=>by cases h);have hb1:b∉S1:=λh=>absurd (hge b h)<|Nat.not_le.2 hbW
    have hr1:∀g,c_b W1 b g->g∉S1:=λg ⟨n,c,h⟩ hg=>by
      have h':W.cell? ⟨b,0,none⟩=some (sl (some ⟨g,0,none⟩) n c):=(World.cell?_of_block (w:=W) (w':=W1) (a:=⟨b,0,none⟩)<|s1.block b hbW).symm.trans h;exact absurd (hge g hg)<|Nat.not_le.2<|hrowW g ⟨n,c,h'⟩
    have hlenL:parts.length<=9223372036854775807:=Nat.le_trans (by obtain ⟨_,_,_,_,h,_⟩:=hv7;exact h) z_;refine d_h λa ha=>?_
    refine Code.wp_mono (Q:=Exit.then noK<|λex a w=>(ex = .exit 0/\c_0 Tryz.prog fn (λ_ W'=>(∃xs:List {x:Str // x∈parts/\x.b.length<=LEN},xs.map (·.1)=parts/\J xs W')∨(∃pre,True/\Jx pre W')) a w)∨(ex = .ret/\c_0 Tryz.prog fn (λ_ W'=>(∃xs:List {x:Str // x∈parts/\x.b.length<=LEN},xs.map (·.1)=parts/\J xs W')∨(∃pre,True/\Jx pre W')) a w)) (λex a' w' q=>?_)<|wp_loop_ghost (λm a w=>∃(k:Nat)(pre:List {x:Str // x∈parts/\x.b.length<=LEN}),k+m=parts.length/\pre.map (·.1)=parts.take k/\Sat 18 [(9,vI (k:Int)),(8,vI (parts.length:Int)),(7,sl ao7 parts.length c7),(0,.func (.yield l) #[] #[])] a/\J pre w/\a_ w S1 (sl a1 n1 c1) l0/\(∀g,c_b w b g->g∉S1)/\d_B w (· ∈ S1) (sl ao7 parts.length c7) parts) parts.length ?_ ?_
    . cases ex with
      | normal=>exact (show False from q).elim
      | exit i =>
        rcases q with ⟨h,q⟩ | ⟨h,_⟩
        . cases h;exact q
        . cases h
      | ret =>
        rcases q with ⟨h,_⟩ | ⟨_,q⟩
        . cases h
        . exact q
      | _=>rcases q with ⟨h,_⟩ | ⟨h,_⟩ <;> cases h
    . exact ⟨0,[],by omega,by simp,ha.weaken<|sc rfl<|sc rfl<|sc rfl<|sc rfl sn,hJ1,ho,hr1,hv7⟩
    . rintro m a w ⟨k,pre,hkm,hpre,hsat,hJw,how,hrw,hvw⟩
      refine g_l (N:=18) (e:=[(9,vI (k:Int)),(8,vI (parts.length:Int)),(7,sl ao7 parts.length c7),(0,.func (.yield l) #[] #[])]) ?_ hsat;refine a_i<|a_J<|R rfl (f_t rfl rfl)<|a_k<|WC.of_KC ?_;refine a_i<|c_e rfl (λhc=>?_)<|λhc=>?_
      . have hk:k<parts.length:=by simpa using hc
        obtain ⟨m,rfl⟩:∃m',m=m'+1:=⟨m - 1,by omega⟩;refine a_j<|WC.of_KC ?_;refine a_i<|d_h ?_;refine a_i<|a_J ?_;have hrep:=hvw.repS (B:=w.heap.size)<|λk hk=>how.lt k hk;have hidx:idx parts (k:Int)=some parts[k]:=by rw [m_h];simp [hk]
        refine RX rfl (g_f (α:=Str) F_ z_9 rfl rfl rfl hrep hidx) ?_;rintro _ ⟨bb,oo,cs,rfl,hc1,hrr,hlt⟩;obtain ⟨rfl,hxl⟩:=a_n hrr;refine R rfl (b_J g_9 rfl (λh=>h)<|hc1.at0 rfl) ?_;refine R rfl (c_Z rfl) ?_;refine a_k<|WC.of_KC ?_;refine a_i<|q_E ?_;refine f_5 rfl (b_g rfl) ?_;refine f_5 rfl (b_g rfl) ?_
        have hpl:pre.length=k:=by
          have:=congrArg List.length hpre
          simp at this;omega
        refine q_F (S:=λv w'=>(v=vB true/\J (pre++[⟨parts[k],List.getElem_mem hk,hxl⟩]) w'/\KpS b w w')∨(v=vB false/\Jx (pre++[⟨parts[k],List.getElem_mem hk,hxl⟩]) w')) rfl rfl rfl (hY pre ⟨parts[k],List.getElem_mem hk,hxl⟩ w hJw (by omega)) (λe w' h=>?_) ?_
        . rcases h with ⟨rfl,h⟩ | ⟨rfl,h⟩
          . exact ⟨_,rfl,.inl ⟨rfl,h⟩⟩
          . exact ⟨_,rfl,.inr ⟨rfl,h⟩⟩
        rintro v w' (⟨rfl,hJ',hK⟩ | ⟨rfl,hX⟩)
        . refine f_5 rfl (d_W rfl) ?_
          refine l_5<|WC.of_KC ?_;refine c_e rfl (λh=>by cases h)<|λ_=>?_;refine a_j<|WC.of_KC ?_;refine a_J<|R rfl (g_c hk hlenL rfl rfl)<|R rfl (b_g rfl) ?_;obtain ⟨ho',hr'⟩:=hK.own how hb1 hrw
          have hv':d_B w' (· ∈ S1) (sl ao7 parts.length c7) parts:=hvw.stay λg hg=>hK.chg.block g (how.lt g hg) λhm=>by
            rcases hm with rfl | hm | ⟨o,ho2,hcl⟩
            . exact hb1 hg
            . exact hrw g hm hg
            . obtain ⟨cur,hB⟩:=e_9 how g hg
              rw [hB.isCells ho2] at hcl;cases hcl
          refine a_k λa' ha'=>⟨m,Nat.lt_succ_self _,k+1,pre++[⟨parts[k],List.getElem_mem hk,hxl⟩],by omega,?_,ha'.weaken<|sc rfl<|sc rfl<|sc rfl<|sc rfl sn,hJ',ho',hr',hv'⟩
          rw [List.map_append,hpre,List.take_add_one,List.getElem?_eq_getElem hk];rfl
        . refine f_5 rfl (d_W rfl) ?_
          refine l_5<|WC.of_KC ?_;refine c_e rfl (λ_=>?_) (λh=>by cases h);exact c_N<|rtO λa' ha'=>.inr ⟨rfl,ret0 hr (.inr ⟨_,trivial,hX⟩) a' ha'⟩
      . have hk:¬k<parts.length:=by simpa using hc
        have:k=parts.length:=by omega
        subst this;refine f_X λa' ha'=>.inl ⟨rfl,ret0 hr (.inl ⟨pre,?_,hJw⟩) a' ha'⟩
        rw [hpre,List.take_length]
  refine callsIn_wide.2<|hc.run.mono λe w' ⟨v,he,h⟩=>⟨⟨v,he⟩,h⟩
theorem o_2 {w0 W W':World}{row:Option Nat}(h:Below w0.heap.size w0 W)(hg:W.grownBy W' row)(hr:∀r,row=some r->w0.heap.size<=r):Below w0.heap.size w0 W':=c_j h (l_6 hg) λk hk e=>absurd (hr k e)<|Nat.not_le.2 hk
def s_k (w0:World)(s:Str)(v:Value)(w':World):Prop:=v = .func (.func 179) #[] #[pt w0.heap.size]/\Blk w' w0.heap.size [Str.v s]/\Bw w0 w'
theorem s_l {w0:World}{s:Str}:h_ Tryz.prog 136 [Str.v s] w0 (s_k w0 s):=by
  obtain ⟨_,hf,hb,hN,hr⟩:=fnE Tryz.func136;refine h_E hf (hb.trans rfl) (hN.trans rfl) (Nat.le_of_ble_eq_true rfl) ?_;refine a_i<|a_J ?_;refine E rfl (e_E rfl) ?_;rintro _ h ⟨rfl,h1⟩;refine R rfl (c_Z rfl) ?_;refine a_k<|WC.of_KC ?_;refine a_i<|a_J ?_;refine R rfl (k_2 rfl) ?_;refine R rfl (c_Z rfl) ?_;refine a_k<|WC.of_KC ?_;exact c_N<|c_ hr rfl ⟨rfl,(h1.blk:Blk h w0.heap.size [Str.v s]),h1.below⟩
theorem W_w4d {n:Nat}{B:Zone}{x1:Str}{res:(List Str)×Bool}{w0:World}(hm:l_k n x1=some res)(hBw:B<=w0.heap.size)(p1_0:x1.b.length<=LEN):h_ Tryz.prog 101 [(Str.v x1),.func (.func 102) #[] #[]] w0 (Q37 w0 B res):=by
  unfold l_k at hm
  obtain ⟨fn,hf,hb,hN,hr⟩:=fnE Tryz.func101;refine q_H hf (hb.trans rfl) (hN.trans rfl) (Nat.le_of_ble_eq_true rfl) ?_
  -- the cells
  refine a_i<|a_J ?_;refine E rfl (e_E rfl) ?_;rintro _ w1 ⟨rfl,h1⟩;have b3:Blk w1 w0.heap.size [.func (.func 102) #[] #[]]:=h1.blk;refine E rfl (d_J j_P) ?_;rintro _ w2 ⟨rfl,h2⟩;have b4:Blk w2 w1.heap.size [.slice none 0 0]:=h2.blk;refine E rfl (d_J n_T) ?_;rintro _ w3 ⟨rfl,h3⟩;have b5:Blk w3 w2.heap.size [vB false]:=h3.blk;refine a_k<|WC.of_KC ?_;refine a_i<|a_J ?_;refine E rfl (e_M (α:=Str) b_q) ?_;rintro _ w4 ⟨a,m,c,rfl,s4,ho4⟩;refine E rfl (d_J j_P) ?_;rintro _ w5 ⟨rfl,h5⟩;have b6:Blk w5 w4.heap.size [.slice none 0 0]:=h5.blk;refine E0 (a_V (cur':=[.slice a m c]) c_C rfl rfl b6 rfl (Nat.le_of_ble_eq_true rfl) (b_6 rfl) rfl) ?_;rintro _ w6 ⟨c6,s6⟩;have t6:=s6.one;refine a_k<|WC.of_KC ?_
  -- what is known behind
  have g1:=h1.below;have g2:=h2.below;have g3:=h3.below;have g5:=h5.below;have z1:=h1.size;have z2:=h2.size;have z3:=h3.size;have z5:=h5.size;have z4:=s4.size;have z6:=s6.size
  have hz:w0.heap.size<w1.heap.size/\w1.heap.size<w2.heap.size/\w2.heap.size<w3.heap.size/\w3.heap.size<w4.heap.size/\w4.heap.size<w6.heap.size:=by
    have:=ho4.lt _ List.mem_cons_self
    omega
  have k3:Blk w6 w0.heap.size [.func (.func 102) #[] #[]]:=((((b3.ext g2).ext g3).ext s4).ext g5).chg s6 (by omega);have k4:Blk w6 w1.heap.size [.slice none 0 0]:=(((b4.ext g3).ext s4).ext g5).chg s6 (by omega);have k5:Blk w6 w2.heap.size [vB false]:=((b5.ext s4).ext g5).chg s6 (by omega);have kS:a_ w6 [w3.heap.size] (sl a m c) ([]:List Str):=(ho4.ext g5).chg s6 (λk hk=>by have:=List.mem_singleton.1 hk;omega);have kB:Below w0.heap.size w0 w6:=c_s (bup (bup (bup (bup g1 g2) g3) s4) g5) t6 (λk hk=>by have:=List.mem_singleton.1 hk;omega)
  clear b3 b4 b5 b6 ho4 h1 h2 h3 h5 s4 s6 t6 g1 g2 g3 g5 z1 z2 z3 z4 z5 z6
  -- the first look
  refine a_i<|a_i<|a_J ?_;refine R rfl (b_g rfl) ?_;refine R rfl (a_M rfl rfl) ?_;refine a_k<|WC.of_KC ?_;refine c_e rfl (λhc=>?_)<|λhc=>?_
  . obtain rfl:=som (ifT hm hc)
    refine a_i<|a_J ?_;refine R rfl (b_J a_G rfl (λh=>h)<|c6.at rfl) ?_;refine E0 (a_V (cur':=[.slice a m c]) c_C rfl rfl k4 rfl (Nat.le_of_ble_eq_true rfl) (b_6 rfl) rfl) ?_;rintro _ w7 ⟨c7,s7⟩;refine E0 (a_V (cur':=[vB true]) z_4 rfl rfl (k5.chg s7 (by omega)) rfl (Nat.le_of_ble_eq_true rfl) (b_6 rfl) rfl) ?_;rintro _ w8 ⟨c8,s8⟩;refine a_k<|WC.of_KC ?_;refine c_N λa' ha'=>retM<|a_0 hr (c_7 (n:=1) a_G rfl<|c7.chg s8 (by omega)) (c_7 (n:=1) g_4 rfl c8) ⟨c_s (c_s kB s7.one (λk hk=>by have:=List.mem_singleton.1 hk;omega)) s8.one (λk hk=>by have:=List.mem_singleton.1 hk;omega),?_⟩ a' ha'
    exact ⟨a,m,c,_,rfl,(kS.chg s7 (λk hk=>by have:=List.mem_singleton.1 hk;omega)).chg s8 (λk hk=>by have:=List.mem_singleton.1 hk;omega),(by simp),λk hk=>by have:=List.mem_singleton.1 hk;omega⟩
  replace hm:=ifF hm hc;refine a_j<|WC.of_KC ?_
  -- the first byte
  refine a_i<|a_i<|a_J ?_;refine R rfl (b_g rfl) ?_;obtain ⟨x13,e13,hm⟩:=bdS hm;refine R rfl (c_u d_9 rfl rfl (a_A e13).1 (a_A e13).2.1) ?_;refine R rfl (g_o rfl rfl) ?_;refine a_k<|WC.of_KC ?_;refine c_e rfl (λhc=>?_)<|λhc=>?_
  . obtain rfl:=som (ifT hm hc)
    refine a_i<|a_J ?_;refine R rfl (b_J a_G rfl (λh=>h)<|c6.at rfl) ?_;refine E0 (a_V (cur':=[.slice a m c]) c_C rfl rfl k4 rfl (Nat.le_of_ble_eq_true rfl) (b_6 rfl) rfl) ?_;rintro _ w7 ⟨c7,s7⟩;refine E0 (a_V (cur':=[vB false]) z_4 rfl rfl (k5.chg s7 (by omega)) rfl (Nat.le_of_ble_eq_true rfl) (b_6 rfl) rfl) ?_;rintro _ w8 ⟨c8,s8⟩;refine a_k<|WC.of_KC ?_;refine c_N λa' ha'=>retM<|a_0 hr (c_7 (n:=1) a_G rfl<|c7.chg s8 (by omega)) (c_7 (n:=1) g_4 rfl c8) ⟨c_s (c_s kB s7.one (λk hk=>by have:=List.mem_singleton.1 hk;omega)) s8.one (λk hk=>by have:=List.mem_singleton.1 hk;omega),?_⟩ a' ha'
    exact ⟨a,m,c,_,rfl,(kS.chg s7 (λk hk=>by have:=List.mem_singleton.1 hk;omega)).chg s8 (λk hk=>by have:=List.mem_singleton.1 hk;omega),(by simp),λk hk=>by have:=List.mem_singleton.1 hk;omega⟩
  replace hm:=ifF hm hc;refine a_j<|WC.of_KC ?_;obtain ⟨l0,hsp,hm⟩:=bdS hm;obtain ⟨parts,hsl,hm⟩:=bdS hm;obtain ⟨oks,hok,hm⟩:=bdS hm
  split at hm
  case isFalse=>cases hm
  rename_i hlim
  obtain rfl:=som hm;obtain ⟨hacc,hall⟩:=n_h hok
  -- the loop
  refine a_i<|a_i<|a_J ?_;refine R rfl (b_g rfl) ?_;refine E rfl (e_F Tryz.call136 rfl s_l) ?_;rintro _ w7 ⟨rfl,bp,s7⟩;refine a_k<|WC.of_KC ?_;replace k3:=k3.ext s7;replace k4:=k4.ext s7;replace k5:=k5.ext s7;replace c6:=c6.ext s7;replace kS:=kS.ext s7;replace kB:=bup kB<|s7.mono<|Nat.le_refl _;have z7:=s7.size
  have hrow:∀g,c_b w7 w4.heap.size g->g<w7.heap.size:=λg hg=>by
    have h1:=n_g c6 hg;exact kS.lt _<|(i_5 kS).2 g 0 none h1
  generalize w1.heap.size=q4 at *
  generalize w2.heap.size=q5 at *
  generalize w4.heap.size=q6 at *
  refine q_I (α:={x:Str // x∈parts/\x.b.length<=LEN}) (f:=λx=>x.1) (gf:=179) (lb:=[pt w6.heap.size]) (b:=q6) (M:=parts.length) (S:=λxs=>xs.map (·.1)=parts) (Sp:=λ_=>True) rfl Tryz.call179 rfl rfl (by omega)
    (s_j p1_0 hsp hsl bp (by omega) hrow)
    (λpre W=>(∀x∈pre,(f_T n x.1).getD false=true)/\(∃(a:Option Addr)(m c:Nat)(S:List Nat),Blk W q6 [.slice a m c]/\a_ W S (sl a m c) (pre.map (·.1))/\S.Nodup/\(∀k∈S,q5<k/\k ≠ q6))/\Blk W w0.heap.size [.func (.func 102) #[] #[]]/\Blk W q4 [.slice none 0 0]/\Blk W q5 [vB false]/\Below w0.heap.size w0 W)
    (λpre W=>(∃x∈pre,(f_T n x.1).getD false=false)/\(∃(a:Option Addr)(m c:Nat)(S:List Nat),Blk W q4 [.slice a m c]/\a_ W S (sl a m c) ([]:List Str)/\S.Nodup/\(∀k∈S,w0.heap.size<=k))/\Blk W q5 [vB false]/\Below w0.heap.size w0 W)
    ?_ ?_ ?_ ?_ ?_ ?_
  . rintro pre W W' row ⟨h1,⟨a,m,c,S,h2,h3,h4,h5⟩,h6,h7,h8,h9⟩ hg hr
    have hr':=λr e=>(hr r e).2
    exact ⟨h1,⟨a,m,c,S,h2.grown hg hr',l_9 h3 hg hr',h4,h5⟩,h6.grown hg hr',h7.grown hg hr',h8.grown hg hr',o_2 h9 hg λr e=>Nat.le_trans (by omega) (hr r e).1⟩
  . rintro pre W W' row ⟨h1,⟨a,m,c,S,h2,h3,h4,h5⟩,h8,h9⟩ hg hr
    have hr':=λr e=>(hr r e).2
    exact ⟨h1,⟨a,m,c,S,h2.grown hg hr',l_9 h3 hg hr',h4,h5⟩,h8.grown hg hr',o_2 h9 hg λr e=>Nat.le_trans (by omega) (hr r e).1⟩
  . exact ⟨λx hx=>(by cases hx),⟨a,m,c,_,c6,kS,(by simp),λk hk=>by have:=List.mem_singleton.1 hk;omega⟩,k3,k4,k5,kB⟩
  . rintro l pre ⟨x,hx,hxl⟩ W ⟨h1,⟨a,m,c,S,h2,h3,h4,h5⟩,h6,h7,h8,h9⟩ hlt
    refine q_D<|g_H<|g_H<|g_G rfl (λ_ _ h=>by cases h.1) ?_;refine R rfl (b_J g_135 rfl (λh=>h)<|h6.at rfl) ?_;refine R rfl (b_g rfl) ?_;refine E rfl (h_s (caps:=[]) Tryz.call102 rfl rfl<|W_w4c (hacc x hx) zr hxl) ?_;rintro _ W1 ⟨s1,rfl⟩;refine R rfl (d_W rfl) ?_;refine a_k<|WCI.of_KC ?_;have y1:=s1.size;have hq6:=h2.lt;have hw0.heap.size:=h6.lt;have hq4:=h7.lt;have hq5:=h8.lt;refine q_A rfl (λhc=>?_)<|λhc=>?_
    . refine g_H (g_G rfl (λ_ _ h=>by cases h.1) ?_)
      refine E rfl (e_M (α:=Str) b_q) ?_;rintro _ W2 ⟨a2,m2,c2,rfl,s2,ho2⟩;refine E0 (a_V (cur':=[.slice a2 m2 c2]) c_C rfl rfl ((h7.ext s1).ext s2) rfl (Nat.le_of_ble_eq_true rfl) (b_6 rfl) rfl) ?_;rintro _ W3 ⟨c3,s3⟩;refine E0 (a_V (cur':=[vB false]) z_4 rfl rfl (((h8.ext s1).ext s2).chg s3 (by omega)) rfl (Nat.le_of_ble_eq_true rfl) (b_6 rfl) rfl) ?_;rintro _ W4 ⟨c4,s4⟩;refine a_k<|WCI.of_KC ?_;have hW:Below W.heap.size W W2:=bup s1 s2
      have hc4:Chg (λk=>k=q4∨k=q5) W W4:=by
        have e1:Chg (λk=>k=q4∨k=q5) W W2:=(Chg.refl _ W).ext hW;refine (e1.comp s3 λk _ hk=>.inl hk).comp s4 λk _ hk=>.inr hk
      refine q_C λ_ q=>⟨rfl,l_8 hc4 λk _ hk=>?_,⟨⟨x,hx,hxl⟩,by simp,by simpa using hc⟩,⟨a2,m2,c2,_,c3.chg s4 (by omega),(ho2.chg s3 λk hk=>by have:=List.mem_singleton.1 hk;omega).chg s4 λk hk=>by have:=List.mem_singleton.1 hk;omega,(by simp),λk hk=>by have:=List.mem_singleton.1 hk;omega⟩,c4,?_⟩
      . rcases hk with rfl | rfl
        . exact ⟨_,h7⟩
        . exact ⟨_,h8⟩
      . exact c_j h9 hc4 λk hk hm=>by rcases hm with rfl | rfl <;> omega
    . refine q_B (WCI.of_KC ?_)
      refine g_G rfl (λ_ _ h=>by cases h.1) ?_
      have hpsh:psh (pre.map (·.1)) x=some (pre.map (·.1)++[x]):=by
        unfold psh
        rw [if_pos (by rw [List.length_map];omega)]
      refine R rfl (b_J a_G rfl (λh=>h)<|(h2.ext s1).at rfl) ?_;refine R rfl (b_g rfl) ?_;refine E rfl (f_Y [(.tmp 25)] b_q rfl rfl rfl (a_v rfl) (Nat.le_of_ble_eq_true rfl)<|Nat.le_of_ble_eq_true rfl) ?_;rintro _ W2 ⟨rfl,hb⟩;have s2:=hb.below;have y2:=s2.size;refine E rfl (b_l (α:=Str) b_q hpsh rfl rfl ((h3.ext s1).ext s2) h4 hb.blk (c_r hxl) all_nil G_) ?_;rintro _ W3 ⟨S',a',n',c',rfl,s3,ho3,nd3,hs3⟩;have y3:=s3.size
      have n3:∀k,k<W.heap.size->k<=q5∨k=q6->k∉S':=λk hk hq hm=>by
        rcases hs3 k hm with h | h | h
        . have:=h5 k h;omega
        . cases h
        . omega
      refine E0 (a_V (cur':=[.slice a' n' c']) c_C rfl rfl (((h2.ext s1).ext s2).chg s3 (λhm=>(h5 _ hm).2 rfl)) rfl (Nat.le_of_ble_eq_true rfl) (b_6 rfl) rfl) ?_;rintro _ W4 ⟨c4,s4⟩;have hW:Below W.heap.size W W2:=bup s1 s2
      have hc4:Chg (λk=>k=q6∨k∈S) W W4:=by
        have e1:Chg (λk=>k=q6∨k∈S) W W2:=(Chg.refl _ W).ext hW;refine (e1.comp s3 λk _ hk=>.inr hk).comp s4 λk _ hk=>.inl hk
      have ho4:a_ W4 S' (sl a' n' c') (pre.map (·.1)++[x]):=ho3.chg s4 λk hk he=>n3 q6 hq6 (.inr rfl)<|he ▸ hk
      have hs4:∀k∈S',k∈S∨W.heap.size<=k:=λk hk=>by
        rcases hs3 k hk with h | h | h
        . exact .inl h
        . cases h
        . exact .inr (by omega)
      have k4:∀k,k<=q5->¬(k=q6∨k∈S):=λk hk hm=>by
        rcases hm with rfl | hm
        . omega
        . have:=h5 k hm;omega
      refine a_k λa'' ha''=>⟨l_8 hc4 λk _ hk=>?_,KpS.of_chg h2 h3 c4 ho4 hs4 hc4,λy hy=>?_,⟨a',n',c',S',c4,by simpa using ho4,nd3,λk hk=>?_⟩,h6.chg hc4<|k4 _ (by omega),h7.chg hc4<|k4 _ (by omega),h8.chg hc4<|k4 _ (by omega),c_j h9 hc4 λk hk hm=>k4 k (by omega) hm⟩
      . rcases hk with rfl | hk
        . exact ⟨_,h2⟩
        . exact e_9 h3 k hk
      . rcases List.mem_append.1 hy with hy | hy
        . exact h1 y hy
        . obtain rfl:=List.mem_singleton.1 hy
          simpa using hc
      . rcases hs4 k hk with h | h
        . exact h5 k h
        . omega
  . rintro D xs W hD hxs ⟨h1,⟨a,m,c,S,h2,h3,h4,h5⟩,h6,h7,h8,h9⟩ hdef a0 ha0
    have hw0.heap.size:=h6.lt;have hq4:=h7.lt;have hq5:=h8.lt;refine tailD ?_ ha0;refine R rfl (b_J a_G rfl (λh=>h)<|h2.at rfl) ?_;refine E0 (a_V (cur':=[.slice a m c]) c_C rfl rfl h7 rfl (Nat.le_of_ble_eq_true rfl) (b_6 rfl) rfl) ?_;rintro _ W1 ⟨c7,s7⟩;refine E0 (a_V (cur':=[vB true]) z_4 rfl rfl (h8.chg s7 (by omega)) rfl (Nat.le_of_ble_eq_true rfl) (b_6 rfl) rfl) ?_;rintro _ W2 ⟨c8,s8⟩;have hDlt:=(Array.getElem?_eq_some_iff.1 hdef).1;have hdef2:W2.heap[D]? = some (.deferred<|some []):=((s8.block D (Nat.lt_of_lt_of_le hDlt s7.size) (by omega)).trans (s7.block D hDlt (by omega))).trans hdef
    have hDS:∀k∈S,k ≠ D:=λk hk e=>by
      obtain ⟨cur,hB⟩:=e_9 h3 k hk;have:=(e ▸ hB).isCells hdef
      cases this
    have hoks:oks.all id=true:=hall.2 λy hy=>by
      rw [← hxs] at hy
      obtain ⟨z,hz,rfl⟩:=List.mem_map.1 hy;exact h1 z hz
    rw [if_pos hoks]
    refine a_k λa' ha'=>⟨ha'.defers,hdef2,?_⟩
    have hp:=l_7 W2 D<|.deferred none;obtain ⟨_,v,e1,e2⟩:=a_0 (R:=Q37 w0 B (parts,true)) hr (c_7 (n:=1) a_G rfl<|(c7.chg s8 (by omega)).chg hp (by omega)) (c_7 (n:=1) g_4 rfl<|c8.chg hp (by omega)) ⟨c_j (c_j (c_j h9 s7 λk hk e=>by omega) s8 λk hk e=>by omega) hp λk hk e=>by omega,a,m,c,S,rfl,((hxs ▸ h3).chg s7 λk hk e=>by have:=h5 k hk;omega).chg s8 (λk hk e=>by have:=h5 k hk;omega) |>.chg hp λk hk e=>hDS k hk e,h4,λk hk=>by have:=h5 k hk;omega⟩ a' ha';exact ⟨v,e1,e2⟩
  . rintro D pre W hD _ ⟨⟨⟨x,hx,hxl⟩,hxm,hxb⟩,⟨a,m,c,S,h2,h3,h4,h5⟩,h8,h9⟩ hdef a0 ha0
    have hq4:=h2.lt;have hq5:=h8.lt
    have hDS:∀k∈S,k ≠ D:=λk hk e=>by
      obtain ⟨cur,hB⟩:=e_9 h3 k hk;have:=(e ▸ hB).isCells hdef
      cases this
    have hoks:¬oks.all id=true:=λh=>by
      have:=hall.1 h x hx
      rw [this] at hxb;cases hxb
    rw [if_neg hoks]
    have hp:=l_7 W D<|.deferred none;obtain ⟨_,v,e1,e2⟩:=a_0 (R:=Q37 w0 B ([],false)) hr (c_7 (n:=1) a_G rfl<|h2.chg hp (by omega)) (c_7 (n:=1) g_4 rfl<|h8.chg hp (by omega)) ⟨c_j h9 hp λk hk e=>by omega,a,m,c,S,rfl,h3.chg hp λk hk e=>hDS k hk e,h4,h5⟩ a0 ha0;exact retD ha0.defers hdef e1 e2
def Q38 (w0:World)(B:Zone)(r:(List Str)×Bool)(v:Value)(w':World):Prop:=Bw w0 w'/\un2 (λI J=>∃h G H S1,v = .tuple #[sl h G H,vB J]/\a_ w' S1 (sl h G H) I/\S1.Nodup/\(∀k∈S1,w0.z<=k)) r
theorem W_w4e {x1:Str}{res:(List Str)×Bool}(hm:j_2 n x1=some res)(G:B<=w0.z)(h:x1.b.length<=LEN):h_ prog 71 [Str.v x1] w0 (Q38 w0 B res):=by
 unfold j_2 at hm
 refine goG func71 z z z λfn hr=>Ws<|Ra z<|Rw z<|Wm z ?_
 obtain ⟨_,_,I,H⟩:=Y_ hm;refine E z (fc call101 z<|W_w4d (B:=B) I G h) ?_;rintro _ _ ⟨s2,J,L,O,V,rfl,W,Y,h9⟩;refine Re z z z<|Re z z z<|Ra z<|Rw z ?_
 obtain rfl:=som H;exact Wr<|a_0 hr z z ⟨s2,J,L,O,V,z,W,Y,h9⟩
def Q39 (w0:World)(B:Zone)(r:(List Str)×Bool)(v:Value)(w':World):Prop:=Bw w0 w'/\un2 (λI J=>∃(h:Option Addr)(G H:Nat)(S1:List Nat),v = .tuple #[(sl h G H),(vB J)]/\a_ w' S1 (sl h G H) I/\S1.Nodup/\(∀k∈S1,w0.heap.size<=k)) r
theorem s_m {w:World}{gp b:Nat}{s:Str}{l0 parts:List Str}(hs:s.b.length<=LEN)(hm:f_8 s (47:UInt8)=some l0)(hsl:slc l0 1 (l0.length:Int)=some parts)(hp:Blk w gp [Str.v s])(hb:b<w.heap.size)(hrow:∀g,c_b w b g->g<w.heap.size) :
    SeqStopsK (α:={x:Str // x∈parts/\x.b.length<=LEN}) Fence.wide 1 Tryz.prog 179 [pt gp].toArray (λx=>#[x.1.v]) (KpS b) (λxs=>xs.map (·.1)=parts) (λ_=>True) parts.length w:=by
  intro l J Jx W hW hJ hJx hY h0;have hpW:=hp.ext hW
  have hrowW:∀g,c_b W b g->g<W.heap.size:=λg ⟨n,c,h⟩=>by
    have h':w.cell? ⟨b,0,none⟩=some (sl (some ⟨g,0,none⟩) n c):=(World.cell?_of_block (w:=w) (w':=W) (a:=⟨b,0,none⟩)<|hW.block b hb).symm.trans h;exact Nat.lt_of_lt_of_le (hrow g ⟨n,c,h'⟩) hW.size
  have hbW:=Nat.lt_of_lt_of_le hb hW.size
  have hc:h_ Tryz.prog 179 [.func (.yield l) #[] #[],pt gp] W (λ_ W'=>(∃xs:List {x:Str // x∈parts/\x.b.length<=LEN},xs.map (·.1)=parts/\J xs W')∨(∃pre,True/\Jx pre W')):=by
    obtain ⟨fn,hf,hbd,hN,hr⟩:=fnE Tryz.func179;refine h_E hf (hbd.trans rfl) (hN.trans rfl) (Nat.le_of_ble_eq_true rfl) ?_;refine a_i<|a_J ?_;refine R rfl (b_J g_9 rfl (λh=>h)<|hpW.at rfl) ?_;refine E rfl (e_F Tryz.call180 rfl<|W_w20 (B:=W.heap.size) hm zr hs) ?_;rintro _ W1 ⟨s1,a1,n1,c1,S1,rfl,ho,nd,hge⟩;refine RX rfl (q_J F_ z_9 rfl ho rfl rfl hsl) ?_;intro v7 hv7;obtain ⟨ao7,c7,rfl,_⟩:=id hv7;refine R rfl (g_e F_ rfl<|hv7.repS (B:=W1.heap.size)<|λk hk=>ho.lt k hk) ?_;refine R rfl (b_g rfl) ?_;refine a_k<|WC.of_KC ?_;have hJ1:J [] W1:=hJ [] W W1 none h0 (Below.grows s1) (λr h=>by cases h);have hb1:b∉S1:=λh=>absurd (hge b h)<|Nat.not_le.2 hbW
    have hr1:∀g,c_b W1 b g->g∉S1:=λg ⟨n,c,h⟩ hg=>by
      have h':W.cell? ⟨b,0,none⟩=some (sl (some ⟨g,0,none⟩) n c):=(World.cell?_of_block (w:=W) (w':=W1) (a:=⟨b,0,none⟩)<|s1.block b hbW).symm.trans h;exact absurd (hge g hg)<|Nat.not_le.2<|hrowW g ⟨n,c,h'⟩
    have hlenL:parts.length<=9223372036854775807:=Nat.le_trans (by obtain ⟨_,_,_,_,h,_⟩:=hv7;exact h) z_;refine d_h λa ha=>?_
    refine Code.wp_mono (Q:=Exit.then noK<|λex a w=>(ex = .exit 0/\c_0 Tryz.prog fn (λ_ W'=>(∃xs:List {x:Str // x∈parts/\x.b.length<=LEN},xs.map (·.1)=parts/\J xs W')∨(∃pre,True/\Jx pre W')) a w)∨(ex = .ret/\c_0 Tryz.prog fn (λ_ W'=>(∃xs:List {x:Str // x∈parts/\x.b.length<=LEN},xs.map (·.1)=parts/\J xs W')∨(∃pre,True/\Jx pre W')) a w)) (λex a' w' q=>?_)<|wp_loop_ghost (λm a w=>∃(k:Nat)(pre:List {x:Str // x∈parts/\x.b.length<=LEN}),k+m=parts.length/\pre.map (·.1)=parts.take k/\Sat 18 [(9,vI (k:Int)),(8,vI (parts.length:Int)),(7,sl ao7 parts.length c7),(0,.func (.yield l) #[] #[])] a/\J pre w/\a_ w S1 (sl a1 n1 c1) l0/\(∀g,c_b w b g->g∉S1)/\d_B w (· ∈ S1) (sl ao7 parts.length c7) parts) parts.length ?_ ?_
    . cases ex with
      | normal=>exact (show False from q).elim
      | exit i =>
        rcases q with ⟨h,q⟩ | ⟨h,_⟩
        . cases h;exact q
        . cases h
      | ret =>
        rcases q with ⟨h,_⟩ | ⟨_,q⟩
        . cases h
        . exact q
      | _=>rcases q with ⟨h,_⟩ | ⟨h,_⟩ <;> cases h
    . exact ⟨0,[],by omega,by simp,ha.weaken<|sc rfl<|sc rfl<|sc rfl<|sc rfl sn,hJ1,ho,hr1,hv7⟩
    . rintro m a w ⟨k,pre,hkm,hpre,hsat,hJw,how,hrw,hvw⟩
      refine g_l (N:=18) (e:=[(9,vI (k:Int)),(8,vI (parts.length:Int)),(7,sl ao7 parts.length c7),(0,.func (.yield l) #[] #[])]) ?_ hsat;refine a_i<|a_J<|R rfl (f_t rfl rfl)<|a_k<|WC.of_KC ?_;refine a_i<|c_e rfl (λhc=>?_)<|λhc=>?_
      . have hk:k<parts.length:=by simpa using hc
        obtain ⟨m,rfl⟩:∃m',m=m'+1:=⟨m - 1,by omega⟩;refine a_j<|WC.of_KC ?_;refine a_i<|d_h ?_;refine a_i<|a_J ?_;have hrep:=hvw.repS (B:=w.heap.size)<|λk hk=>how.lt k hk;have hidx:idx parts (k:Int)=some parts[k]:=by rw [m_h];simp [hk]
        refine RX rfl (g_f (α:=Str) F_ z_9 rfl rfl rfl hrep hidx) ?_;rintro _ ⟨bb,oo,cs,rfl,hc1,hrr,hlt⟩;obtain ⟨rfl,hxl⟩:=a_n hrr;refine R rfl (b_J g_9 rfl (λh=>h)<|hc1.at0 rfl) ?_;refine R rfl (c_Z rfl) ?_;refine a_k<|WC.of_KC ?_;refine a_i<|q_E ?_;refine f_5 rfl (b_g rfl) ?_;refine f_5 rfl (b_g rfl) ?_
        have hpl:pre.length=k:=by
          have:=congrArg List.length hpre
          simp at this;omega
        refine q_F (S:=λv w'=>(v=vB true/\J (pre++[⟨parts[k],List.getElem_mem hk,hxl⟩]) w'/\KpS b w w')∨(v=vB false/\Jx (pre++[⟨parts[k],List.getElem_mem hk,hxl⟩]) w')) rfl rfl rfl (hY pre ⟨parts[k],List.getElem_mem hk,hxl⟩ w hJw (by omega)) (λe w' h=>?_) ?_
        . rcases h with ⟨rfl,h⟩ | ⟨rfl,h⟩
          . exact ⟨_,rfl,.inl ⟨rfl,h⟩⟩
          . exact ⟨_,rfl,.inr ⟨rfl,h⟩⟩
        rintro v w' (⟨rfl,hJ',hK⟩ | ⟨rfl,hX⟩)
        . refine f_5 rfl (d_W rfl) ?_
          refine l_5<|WC.of_KC ?_;refine c_e rfl (λh=>by cases h)<|λ_=>?_;refine a_j<|WC.of_KC ?_;refine a_J<|R rfl (g_c hk hlenL rfl rfl)<|R rfl (b_g rfl) ?_;obtain ⟨ho',hr'⟩:=hK.own how hb1 hrw
          have hv':d_B w' (· ∈ S1) (sl ao7 parts.length c7) parts:=hvw.stay λg hg=>hK.chg.block g (how.lt g hg) λhm=>by
            rcases hm with rfl | hm | ⟨o,ho2,hcl⟩
            . exact hb1 hg
            . exact hrw g hm hg
            . obtain ⟨cur,hB⟩:=e_9 how g hg
              rw [hB.isCells ho2] at hcl;cases hcl
          refine a_k λa' ha'=>⟨m,Nat.lt_succ_self _,k+1,pre++[⟨parts[k],List.getElem_mem hk,hxl⟩],by omega,?_,ha'.weaken<|sc rfl<|sc rfl<|sc rfl<|sc rfl sn,hJ',ho',hr',hv'⟩
          rw [List.map_append,hpre,List.take_add_one,List.getElem?_eq_getElem hk];rfl
        . refine f_5 rfl (d_W rfl) ?_
          refine l_5<|WC.of_KC ?_;refine c_e rfl (λ_=>?_) (λh=>by cases h);exact c_N<|rtO λa' ha'=>.inr ⟨rfl,ret0 hr (.inr ⟨_,trivial,hX⟩) a' ha'⟩
      . have hk:¬k<parts.length:=by simpa using hc
        have:k=parts.length:=by omega
        subst this;refine f_X λa' ha'=>.inl ⟨rfl,ret0 hr (.inl ⟨pre,?_,hJw⟩) a' ha'⟩
        rw [hpre,List.take_length]
  refine callsIn_wide.2<|hc.run.mono λe w' ⟨v,he,h⟩=>⟨⟨v,he⟩,h⟩
theorem o_3 {w0 W W':World}{row:Option Nat}(h:Below w0.heap.size w0 W)(hg:W.grownBy W' row)(hr:∀r,row=some r->w0.heap.size<=r):Below w0.heap.size w0 W':=c_j h (l_6 hg) λk hk e=>absurd (hr k e)<|Nat.not_le.2 hk
def s_n (w0:World)(s:Str)(v:Value)(w':World):Prop:=v = .func (.func 179) #[] #[pt w0.heap.size]/\Blk w' w0.heap.size [Str.v s]/\Bw w0 w'
theorem s_o {w0:World}{s:Str}:h_ Tryz.prog 136 [Str.v s] w0 (s_n w0 s):=by
  obtain ⟨_,hf,hb,hN,hr⟩:=fnE Tryz.func136;refine h_E hf (hb.trans rfl) (hN.trans rfl) (Nat.le_of_ble_eq_true rfl) ?_;refine a_i<|a_J ?_;refine E rfl (e_E rfl) ?_;rintro _ h ⟨rfl,h1⟩;refine R rfl (c_Z rfl) ?_;refine a_k<|WC.of_KC ?_;refine a_i<|a_J ?_;refine R rfl (k_2 rfl) ?_;refine R rfl (c_Z rfl) ?_;refine a_k<|WC.of_KC ?_;exact c_N<|c_ hr rfl ⟨rfl,(h1.blk:Blk h w0.heap.size [Str.v s]),h1.below⟩
theorem W_w4f {n:Nat}{B:Zone}{x1:Str}{res:(List Str)×Bool}{w0:World}(hm:l_e n x1=some res)(hBw:B<=w0.heap.size)(p1_0:x1.b.length<=LEN):h_ Tryz.prog 101 [(Str.v x1),.func (.func 103) #[] #[]] w0 (Q39 w0 B res):=by
  unfold l_e at hm
  obtain ⟨fn,hf,hb,hN,hr⟩:=fnE Tryz.func101;refine q_H hf (hb.trans rfl) (hN.trans rfl) (Nat.le_of_ble_eq_true rfl) ?_
  -- the cells
  refine a_i<|a_J ?_;refine E rfl (e_E rfl) ?_;rintro _ w1 ⟨rfl,h1⟩;have b3:Blk w1 w0.heap.size [.func (.func 103) #[] #[]]:=h1.blk;refine E rfl (d_J j_P) ?_;rintro _ w2 ⟨rfl,h2⟩;have b4:Blk w2 w1.heap.size [.slice none 0 0]:=h2.blk;refine E rfl (d_J n_T) ?_;rintro _ w3 ⟨rfl,h3⟩;have b5:Blk w3 w2.heap.size [vB false]:=h3.blk;refine a_k<|WC.of_KC ?_;refine a_i<|a_J ?_;refine E rfl (e_M (α:=Str) b_q) ?_;rintro _ w4 ⟨a,m,c,rfl,s4,ho4⟩;refine E rfl (d_J j_P) ?_;rintro _ w5 ⟨rfl,h5⟩;have b6:Blk w5 w4.heap.size [.slice none 0 0]:=h5.blk;refine E0 (a_V (cur':=[.slice a m c]) c_C rfl rfl b6 rfl (Nat.le_of_ble_eq_true rfl) (b_6 rfl) rfl) ?_;rintro _ w6 ⟨c6,s6⟩;have t6:=s6.one;refine a_k<|WC.of_KC ?_
  -- what is known behind
  have g1:=h1.below;have g2:=h2.below;have g3:=h3.below;have g5:=h5.below;have z1:=h1.size;have z2:=h2.size;have z3:=h3.size;have z5:=h5.size;have z4:=s4.size;have z6:=s6.size
  have hz:w0.heap.size<w1.heap.size/\w1.heap.size<w2.heap.size/\w2.heap.size<w3.heap.size/\w3.heap.size<w4.heap.size/\w4.heap.size<w6.heap.size:=by
    have:=ho4.lt _ List.mem_cons_self
    omega
  have k3:Blk w6 w0.heap.size [.func (.func 103) #[] #[]]:=((((b3.ext g2).ext g3).ext s4).ext g5).chg s6 (by omega);have k4:Blk w6 w1.heap.size [.slice none 0 0]:=(((b4.ext g3).ext s4).ext g5).chg s6 (by omega);have k5:Blk w6 w2.heap.size [vB false]:=((b5.ext s4).ext g5).chg s6 (by omega);have kS:a_ w6 [w3.heap.size] (sl a m c) ([]:List Str):=(ho4.ext g5).chg s6 (λk hk=>by have:=List.mem_singleton.1 hk;omega);have kB:Below w0.heap.size w0 w6:=c_s (bup (bup (bup (bup g1 g2) g3) s4) g5) t6 (λk hk=>by have:=List.mem_singleton.1 hk;omega)
  clear b3 b4 b5 b6 ho4 h1 h2 h3 h5 s4 s6 t6 g1 g2 g3 g5 z1 z2 z3 z4 z5 z6
  -- the first look
  refine a_i<|a_i<|a_J ?_;refine R rfl (b_g rfl) ?_;refine R rfl (a_M rfl rfl) ?_;refine a_k<|WC.of_KC ?_;refine c_e rfl (λhc=>?_)<|λhc=>?_
  . obtain rfl:=som (ifT hm hc)
    refine a_i<|a_J ?_;refine R rfl (b_J a_G rfl (λh=>h)<|c6.at rfl) ?_;refine E0 (a_V (cur':=[.slice a m c]) c_C rfl rfl k4 rfl (Nat.le_of_ble_eq_true rfl) (b_6 rfl) rfl) ?_;rintro _ w7 ⟨c7,s7⟩;refine E0 (a_V (cur':=[vB true]) z_4 rfl rfl (k5.chg s7 (by omega)) rfl (Nat.le_of_ble_eq_true rfl) (b_6 rfl) rfl) ?_;rintro _ w8 ⟨c8,s8⟩;refine a_k<|WC.of_KC ?_;refine c_N λa' ha'=>retM<|a_0 hr (c_7 (n:=1) a_G rfl<|c7.chg s8 (by omega)) (c_7 (n:=1) g_4 rfl c8) ⟨c_s (c_s kB s7.one (λk hk=>by have:=List.mem_singleton.1 hk;omega)) s8.one (λk hk=>by have:=List.mem_singleton.1 hk;omega),?_⟩ a' ha'
    exact ⟨a,m,c,_,rfl,(kS.chg s7 (λk hk=>by have:=List.mem_singleton.1 hk;omega)).chg s8 (λk hk=>by have:=List.mem_singleton.1 hk;omega),(by simp),λk hk=>by have:=List.mem_singleton.1 hk;omega⟩
  replace hm:=ifF hm hc;refine a_j<|WC.of_KC ?_
  -- the first byte
  refine a_i<|a_i<|a_J ?_;refine R rfl (b_g rfl) ?_;obtain ⟨x13,e13,hm⟩:=bdS hm;refine R rfl (c_u d_9 rfl rfl (a_A e13).1 (a_A e13).2.1) ?_;refine R rfl (g_o rfl rfl) ?_;refine a_k<|WC.of_KC ?_;refine c_e rfl (λhc=>?_)<|λhc=>?_
  . obtain rfl:=som (ifT hm hc)
    refine a_i<|a_J ?_;refine R rfl (b_J a_G rfl (λh=>h)<|c6.at rfl) ?_;refine E0 (a_V (cur':=[.slice a m c]) c_C rfl rfl k4 rfl (Nat.le_of_ble_eq_true rfl) (b_6 rfl) rfl) ?_;rintro _ w7 ⟨c7,s7⟩;refine E0 (a_V (cur':=[vB false]) z_4 rfl rfl (k5.chg s7 (by omega)) rfl (Nat.le_of_ble_eq_true rfl) (b_6 rfl) rfl) ?_;rintro _ w8 ⟨c8,s8⟩;refine a_k<|WC.of_KC ?_;refine c_N λa' ha'=>retM<|a_0 hr (c_7 (n:=1) a_G rfl<|c7.chg s8 (by omega)) (c_7 (n:=1) g_4 rfl c8) ⟨c_s (c_s kB s7.one (λk hk=>by have:=List.mem_singleton.1 hk;omega)) s8.one (λk hk=>by have:=List.mem_singleton.1 hk;omega),?_⟩ a' ha'
    exact ⟨a,m,c,_,rfl,(kS.chg s7 (λk hk=>by have:=List.mem_singleton.1 hk;omega)).chg s8 (λk hk=>by have:=List.mem_singleton.1 hk;omega),(by simp),λk hk=>by have:=List.mem_singleton.1 hk;omega⟩
  replace hm:=ifF hm hc;refine a_j<|WC.of_KC ?_;obtain ⟨l0,hsp,hm⟩:=bdS hm;obtain ⟨parts,hsl,hm⟩:=bdS hm;obtain ⟨oks,hok,hm⟩:=bdS hm
  split at hm
  case isFalse=>cases hm
  rename_i hlim
  obtain rfl:=som hm;obtain ⟨hacc,hall⟩:=n_h hok
  -- the loop
  refine a_i<|a_i<|a_J ?_;refine R rfl (b_g rfl) ?_;refine E rfl (e_F Tryz.call136 rfl s_o) ?_;rintro _ w7 ⟨rfl,bp,s7⟩;refine a_k<|WC.of_KC ?_;replace k3:=k3.ext s7;replace k4:=k4.ext s7;replace k5:=k5.ext s7;replace c6:=c6.ext s7;replace kS:=kS.ext s7;replace kB:=bup kB<|s7.mono<|Nat.le_refl _;have z7:=s7.size
  have hrow:∀g,c_b w7 w4.heap.size g->g<w7.heap.size:=λg hg=>by
    have h1:=n_g c6 hg;exact kS.lt _<|(i_5 kS).2 g 0 none h1
  generalize w1.heap.size=q4 at *
  generalize w2.heap.size=q5 at *
  generalize w4.heap.size=q6 at *
  refine q_I (α:={x:Str // x∈parts/\x.b.length<=LEN}) (f:=λx=>x.1) (gf:=179) (lb:=[pt w6.heap.size]) (b:=q6) (M:=parts.length) (S:=λxs=>xs.map (·.1)=parts) (Sp:=λ_=>True) rfl Tryz.call179 rfl rfl (by omega)
    (s_m p1_0 hsp hsl bp (by omega) hrow)
    (λpre W=>(∀x∈pre,(f_9 n x.1).getD false=true)/\(∃(a:Option Addr)(m c:Nat)(S:List Nat),Blk W q6 [.slice a m c]/\a_ W S (sl a m c) (pre.map (·.1))/\S.Nodup/\(∀k∈S,q5<k/\k ≠ q6))/\Blk W w0.heap.size [.func (.func 103) #[] #[]]/\Blk W q4 [.slice none 0 0]/\Blk W q5 [vB false]/\Below w0.heap.size w0 W)
    (λpre W=>(∃x∈pre,(f_9 n x.1).getD false=false)/\(∃(a:Option Addr)(m c:Nat)(S:List Nat),Blk W q4 [.slice a m c]/\a_ W S (sl a m c) ([]:List Str)/\S.Nodup/\(∀k∈S,w0.heap.size<=k))/\Blk W q5 [vB false]/\Below w0.heap.size w0 W)
    ?_ ?_ ?_ ?_ ?_ ?_
  . rintro pre W W' row ⟨h1,⟨a,m,c,S,h2,h3,h4,h5⟩,h6,h7,h8,h9⟩ hg hr
    have hr':=λr e=>(hr r e).2
    exact ⟨h1,⟨a,m,c,S,h2.grown hg hr',l_9 h3 hg hr',h4,h5⟩,h6.grown hg hr',h7.grown hg hr',h8.grown hg hr',o_3 h9 hg λr e=>Nat.le_trans (by omega) (hr r e).1⟩
  . rintro pre W W' row ⟨h1,⟨a,m,c,S,h2,h3,h4,h5⟩,h8,h9⟩ hg hr
    have hr':=λr e=>(hr r e).2
    exact ⟨h1,⟨a,m,c,S,h2.grown hg hr',l_9 h3 hg hr',h4,h5⟩,h8.grown hg hr',o_3 h9 hg λr e=>Nat.le_trans (by omega) (hr r e).1⟩
  . exact ⟨λx hx=>(by cases hx),⟨a,m,c,_,c6,kS,(by simp),λk hk=>by have:=List.mem_singleton.1 hk;omega⟩,k3,k4,k5,kB⟩
  . rintro l pre ⟨x,hx,hxl⟩ W ⟨h1,⟨a,m,c,S,h2,h3,h4,h5⟩,h6,h7,h8,h9⟩ hlt
    refine q_D<|g_H<|g_H<|g_G rfl (λ_ _ h=>by cases h.1) ?_;refine R rfl (b_J g_135 rfl (λh=>h)<|h6.at rfl) ?_;refine R rfl (b_g rfl) ?_;refine E rfl (h_s (caps:=[]) Tryz.call103 rfl rfl<|W_w22 (hacc x hx) zr hxl) ?_;rintro _ W1 ⟨s1,rfl⟩;refine R rfl (d_W rfl) ?_;refine a_k<|WCI.of_KC ?_;have y1:=s1.size;have hq6:=h2.lt;have hw0.heap.size:=h6.lt;have hq4:=h7.lt;have hq5:=h8.lt;refine q_A rfl (λhc=>?_)<|λhc=>?_
    . refine g_H (g_G rfl (λ_ _ h=>by cases h.1) ?_)
      refine E rfl (e_M (α:=Str) b_q) ?_;rintro _ W2 ⟨a2,m2,c2,rfl,s2,ho2⟩;refine E0 (a_V (cur':=[.slice a2 m2 c2]) c_C rfl rfl ((h7.ext s1).ext s2) rfl (Nat.le_of_ble_eq_true rfl) (b_6 rfl) rfl) ?_;rintro _ W3 ⟨c3,s3⟩;refine E0 (a_V (cur':=[vB false]) z_4 rfl rfl (((h8.ext s1).ext s2).chg s3 (by omega)) rfl (Nat.le_of_ble_eq_true rfl) (b_6 rfl) rfl) ?_;rintro _ W4 ⟨c4,s4⟩;refine a_k<|WCI.of_KC ?_;have hW:Below W.heap.size W W2:=bup s1 s2
      have hc4:Chg (λk=>k=q4∨k=q5) W W4:=by
        have e1:Chg (λk=>k=q4∨k=q5) W W2:=(Chg.refl _ W).ext hW;refine (e1.comp s3 λk _ hk=>.inl hk).comp s4 λk _ hk=>.inr hk
      refine q_C λ_ q=>⟨rfl,l_8 hc4 λk _ hk=>?_,⟨⟨x,hx,hxl⟩,by simp,by simpa using hc⟩,⟨a2,m2,c2,_,c3.chg s4 (by omega),(ho2.chg s3 λk hk=>by have:=List.mem_singleton.1 hk;omega).chg s4 λk hk=>by have:=List.mem_singleton.1 hk;omega,(by simp),λk hk=>by have:=List.mem_singleton.1 hk;omega⟩,c4,?_⟩
      . rcases hk with rfl | rfl
        . exact ⟨_,h7⟩
        . exact ⟨_,h8⟩
      . exact c_j h9 hc4 λk hk hm=>by rcases hm with rfl | rfl <;> omega
    . refine q_B (WCI.of_KC ?_)
      refine g_G rfl (λ_ _ h=>by cases h.1) ?_
      have hpsh:psh (pre.map (·.1)) x=some (pre.map (·.1)++[x]):=by
        unfold psh
        rw [if_pos (by rw [List.length_map];omega)]
      refine R rfl (b_J a_G rfl (λh=>h)<|(h2.ext s1).at rfl) ?_;refine R rfl (b_g rfl) ?_;refine E rfl (f_Y [(.tmp 25)] b_q rfl rfl rfl (a_v rfl) (Nat.le_of_ble_eq_true rfl)<|Nat.le_of_ble_eq_true rfl) ?_;rintro _ W2 ⟨rfl,hb⟩;have s2:=hb.below;have y2:=s2.size;refine E rfl (b_l (α:=Str) b_q hpsh rfl rfl ((h3.ext s1).ext s2) h4 hb.blk (c_r hxl) all_nil G_) ?_;rintro _ W3 ⟨S',a',n',c',rfl,s3,ho3,nd3,hs3⟩;have y3:=s3.size
      have n3:∀k,k<W.heap.size->k<=q5∨k=q6->k∉S':=λk hk hq hm=>by
        rcases hs3 k hm with h | h | h
        . have:=h5 k h;omega
        . cases h
        . omega
      refine E0 (a_V (cur':=[.slice a' n' c']) c_C rfl rfl (((h2.ext s1).ext s2).chg s3 (λhm=>(h5 _ hm).2 rfl)) rfl (Nat.le_of_ble_eq_true rfl) (b_6 rfl) rfl) ?_;rintro _ W4 ⟨c4,s4⟩;have hW:Below W.heap.size W W2:=bup s1 s2
      have hc4:Chg (λk=>k=q6∨k∈S) W W4:=by
        have e1:Chg (λk=>k=q6∨k∈S) W W2:=(Chg.refl _ W).ext hW;refine (e1.comp s3 λk _ hk=>.inr hk).comp s4 λk _ hk=>.inl hk
      have ho4:a_ W4 S' (sl a' n' c') (pre.map (·.1)++[x]):=ho3.chg s4 λk hk he=>n3 q6 hq6 (.inr rfl)<|he ▸ hk
      have hs4:∀k∈S',k∈S∨W.heap.size<=k:=λk hk=>by
        rcases hs3 k hk with h | h | h
        . exact .inl h
        . cases h
        . exact .inr (by omega)
      have k4:∀k,k<=q5->¬(k=q6∨k∈S):=λk hk hm=>by
        rcases hm with rfl | hm
        . omega
        . have:=h5 k hm;omega
      refine a_k λa'' ha''=>⟨l_8 hc4 λk _ hk=>?_,KpS.of_chg h2 h3 c4 ho4 hs4 hc4,λy hy=>?_,⟨a',n',c',S',c4,by simpa using ho4,nd3,λk hk=>?_⟩,h6.chg hc4<|k4 _ (by omega),h7.chg hc4<|k4 _ (by omega),h8.chg hc4<|k4 _ (by omega),c_j h9 hc4 λk hk hm=>k4 k (by omega) hm⟩
      . rcases hk with rfl | hk
        . exact ⟨_,h2⟩
        . exact e_9 h3 k hk
      . rcases List.mem_append.1 hy with hy | hy
        . exact h1 y hy
        . obtain rfl:=List.mem_singleton.1 hy
          simpa using hc
      . rcases hs4 k hk with h | h
        . exact h5 k h
        . omega
  . rintro D xs W hD hxs ⟨h1,⟨a,m,c,S,h2,h3,h4,h5⟩,h6,h7,h8,h9⟩ hdef a0 ha0
    have hw0.heap.size:=h6.lt;have hq4:=h7.lt;have hq5:=h8.lt;refine tailD ?_ ha0;refine R rfl (b_J a_G rfl (λh=>h)<|h2.at rfl) ?_;refine E0 (a_V (cur':=[.slice a m c]) c_C rfl rfl h7 rfl (Nat.le_of_ble_eq_true rfl) (b_6 rfl) rfl) ?_;rintro _ W1 ⟨c7,s7⟩;refine E0 (a_V (cur':=[vB true]) z_4 rfl rfl (h8.chg s7 (by omega)) rfl (Nat.le_of_ble_eq_true rfl) (b_6 rfl) rfl) ?_;rintro _ W2 ⟨c8,s8⟩;have hDlt:=(Array.getElem?_eq_some_iff.1 hdef).1;have hdef2:W2.heap[D]? = some (.deferred<|some []):=((s8.block D (Nat.lt_of_lt_of_le hDlt s7.size) (by omega)).trans (s7.block D hDlt (by omega))).trans hdef
    have hDS:∀k∈S,k ≠ D:=λk hk e=>by
      obtain ⟨cur,hB⟩:=e_9 h3 k hk;have:=(e ▸ hB).isCells hdef
      cases this
    have hoks:oks.all id=true:=hall.2 λy hy=>by
      rw [← hxs] at hy
      obtain ⟨z,hz,rfl⟩:=List.mem_map.1 hy;exact h1 z hz
    rw [if_pos hoks]
    refine a_k λa' ha'=>⟨ha'.defers,hdef2,?_⟩
    have hp:=l_7 W2 D<|.deferred none;obtain ⟨_,v,e1,e2⟩:=a_0 (R:=Q39 w0 B (parts,true)) hr (c_7 (n:=1) a_G rfl<|(c7.chg s8 (by omega)).chg hp (by omega)) (c_7 (n:=1) g_4 rfl<|c8.chg hp (by omega)) ⟨c_j (c_j (c_j h9 s7 λk hk e=>by omega) s8 λk hk e=>by omega) hp λk hk e=>by omega,a,m,c,S,rfl,((hxs ▸ h3).chg s7 λk hk e=>by have:=h5 k hk;omega).chg s8 (λk hk e=>by have:=h5 k hk;omega) |>.chg hp λk hk e=>hDS k hk e,h4,λk hk=>by have:=h5 k hk;omega⟩ a' ha';exact ⟨v,e1,e2⟩
  . rintro D pre W hD _ ⟨⟨⟨x,hx,hxl⟩,hxm,hxb⟩,⟨a,m,c,S,h2,h3,h4,h5⟩,h8,h9⟩ hdef a0 ha0
    have hq4:=h2.lt;have hq5:=h8.lt
    have hDS:∀k∈S,k ≠ D:=λk hk e=>by
      obtain ⟨cur,hB⟩:=e_9 h3 k hk;have:=(e ▸ hB).isCells hdef
      cases this
    have hoks:¬oks.all id=true:=λh=>by
      have:=hall.1 h x hx
      rw [this] at hxb;cases hxb
    rw [if_neg hoks]
    have hp:=l_7 W D<|.deferred none;obtain ⟨_,v,e1,e2⟩:=a_0 (R:=Q39 w0 B ([],false)) hr (c_7 (n:=1) a_G rfl<|h2.chg hp (by omega)) (c_7 (n:=1) g_4 rfl<|h8.chg hp (by omega)) ⟨c_j h9 hp λk hk e=>by omega,a,m,c,S,rfl,h3.chg hp λk hk e=>hDS k hk e,h4,h5⟩ a0 ha0;exact retD ha0.defers hdef e1 e2
theorem W_w4g {x1:Str}{res:(List Str)×Bool}(hm:i_t n x1=some res)(G:B<=w0.z)(h:x1.b.length<=LEN):h_ prog 72 [Str.v x1] w0 (Q38 w0 B res):=by
 unfold i_t at hm
 refine goG func72 z z z λfn hr=>Ws<|Ra z<|Rw z<|Wm z ?_
 obtain ⟨_,_,I,H⟩:=Y_ hm;refine E z (fc call101 z<|W_w4f (B:=B) I G h) ?_;rintro _ _ ⟨s2,J,L,O,V,rfl,W,Y,h9⟩;refine Re z z z<|Re z z z<|Ra z<|Rw z ?_
 obtain rfl:=som H;exact Wr<|a_0 hr z z ⟨s2,J,L,O,V,z,W,Y,h9⟩
theorem W_w4h {x1:List Str}{x2:Int}{x3:Str}{res:Bool}(hm:j_3 x1 x2 x3=some res)(J:B<=w0.z)(G:repS w0 B (sl A0 N0 C0) x1)(a0:inI x2)(I:x3.b.length<=LEN):h_ prog 139 [sl A0 N0 C0,vI x2,Str.v x3] w0 (Q11 w0 B res):=by
 unfold j_3 at hm
 refine goG func139 z z z λfn hr=>Ws<|Rw z<|Wq<|Wm z<|Rm z ?_
 obtain ⟨_,V,H⟩:=bdS hm;refine RX z (at_ (α:=Str) j_O z_9 z z z G V) ?_;rintro _ ⟨_,_,_,rfl,h3,h4,_⟩;obtain ⟨rfl,_⟩:=a_n h4;refine R z (l0 g_9 z<|h3.at0 z)<|R z (a_M z z)<|Wx z (λh=>?_) (λh=>?_)
 .refine Wm z ?_
  obtain ⟨_,_,W,L⟩:=Y_<|ifT H h;refine E z (fc call138 z<|W_w21 (B:=B) W J I) ?_;rintro _ _ ⟨s7,rfl,_⟩;refine Rm z<|Re z z z<|Re z z z<|Ra z<|Rw z<|Wm z<|Rw z ?_
  obtain rfl:=som L;exact Wr<|c_ hr z ⟨s7,z⟩
 refine Wk<|Wm z<|Rm z ?_
 obtain ⟨_,Y,O⟩:=bdS<|ifF H h;refine RX z (at_ (α:=Str) j_O z_9 z z z G Y) ?_;rintro _ ⟨_,_,_,rfl,ha,hb,_⟩;obtain ⟨rfl,_⟩:=a_n hb;refine R z (l0 g_9 z<|ha.at0 z)<|Rm z<|R z (a_M z z)<|Rw z ?_
 obtain rfl:=som O;exact Wr<|c_ hr z ⟨br w0,z⟩
end Go.Vw
