
import Derived.Test.YtcaidakkhpmcjaaGreatDoorVwAW3
set_option linter.unusedVariables false
namespace Go.Vw
open Go.RowKit Dat Go.Proofs
open Go.Proofs.Tryz
open Go.Vw renaming a_S->Wq,b_o->Wg,WC.of_KC->Wo,a_T->Wl,c_S->Wc,d_F->Wr,g_k->Wu,i_m->pT,i_n->pF,g_o->fd,c_g->l1,i_D->lN,b_O->mv,d_p->asg,g_f->lnR,f_f->lss,g_s->eql,g_p->ext_,i_p->bP,g_q->add_,g_b->inc_,e_w->not_,g_g->at_,e_Z->fc,b_z->fs,e_Y->fb,e_n->fa,i_g->sr,i_k->cr,i_l->cM,d_l->bM,i_7->iS,i_6->iA,i_9->br,b_L->oA,i_c->bs,ltge->lg,inor->io,g_t->nq,i_E->lnT,i_F->sb_,i_e->ar_,i_d->al_,i_f->ds,j_6->m1,i_i->nr_,i_h->nl_,g_d->aa_,all_nil->an_,d_G->Wb,g_c->u8,i_3->pD,g_7->We,i_8->Wt,g_a->fS,e_Q->or_,i_y->Wf,i_u->qL,i_2->Wd,i_q->fN,g_e->na_,i_j->nj,f_7->f0,i_o->rX,i_r->tl_,i_s->ic
variable {A0:Option Addr}{N0 C0:Nat}{B:Zone}{w0:World}{AD:Option Addr}{A8:Option Addr}{AE:Option Addr}{AF:Option Addr}{ND CD:Nat}{N8 C8:Nat}{NE CE:Nat}{NF CF:Nat}{A3:Option Addr}{A4:Option Addr}{A2:Option Addr}{A5:Option Addr}{N3 C3:Nat}{N4 C4:Nat}{N2 C2:Nat}{N5 C5:Nat}{A7:Option Addr}{N7 C7:Nat}{A6:Option Addr}{N6 C6:Nat}{n:Nat}{AA:Option Addr}{AB:Option Addr}{NA CA:Nat}{NB CB:Nat}{A9:Option Addr}{AG:Option Addr}{N9 C9:Nat}{NG CG:Nat}{A1:Option Addr}{N1 C1:Nat}
theorem W_w3y {x1:b_}{x2:b_}{res:Bool}(hm:h_D x1 x2=some res)(V:B<=w0.z)(L:repS w0 B (sl A0 N0 C0) x1.rules)(O:repS w0 B (sl A6 N6 C6) x2.rules):i_ prog 9 [(.agg #[sl A0 N0 C0]),(.agg #[sl A6 N6 C6])] w0 (Q7 w0 B res):=by
 unfold h_D at hm
 refine goG func9 z z z fun fn hr=>Ws<|E z (fb z) ?_
 rintro _ J ⟨rfl,h4⟩;have h1:=h4.below;refine E z (fb z) ?_;rintro _ wa ⟨rfl,h5⟩;have G:=h5.below;refine Rw z<|Wq<|Ws<|Rf z a_9 z<|R z (l0 a_d z<|((h4.blk:Blk J w0.z [sl A0 N0 C0]).e G).at z)<|Rf z a_9 z<|R z (l0 a_d z<|(h5.blk:Blk wa J.z [sl A6 N6 C6]).at z) ?_
 have h6:=(h1.ag B).e G;obtain ⟨_,ec,I⟩:=bdS hm;refine E z (fc call25 z<|W_w3x ec (zt' V<|lt_ h1.s G.s) (L.g h6)<|O.g h6) ?_;rintro _ _ ⟨s8,rfl⟩;refine R z (not_ z)<|Wx z (fun H=>?_) (fun H=>?_)
 ·refine Ws<|Rw z ?_
  obtain rfl:=som<|ifT I H;exact Wr<|d_ hr z ⟨bup (bup h1 G) s8,z⟩
 refine Wk<|Ws<|Rw z ?_
 obtain rfl:=som<|ifF I H;exact Wr<|d_ hr z ⟨bup (bup h1 G) s8,z⟩
def o_C (w0:World)(B:Zone)(r:Bool)(v:Value)(w':World):Prop:=Bw w0 w'/\(fun G=>(vB G)=v) r
theorem o_D {x1:b_}{x2:List UInt8}{res:Bool}(hm:g_n n x1 x2=some res)(I:B<=w0.z)(hG:Gl w0 B)(J:repS w0 B (sl A0 N0 C0) x1.rules)(L:repS w0 B (sl A6 N6 C6) x2):i_ prog 3 [(.agg #[sl A0 N0 C0]),sl A6 N6 C6] w0 (o_C w0 B res):=by
 unfold g_n at hm
 refine goG func3 z z z fun fn hr=>Ws<|E z (fb z) ?_
 rintro _ am ⟨rfl,hq⟩;have G:=hq.below;have hg:Blk am w0.z [sl A0 N0 C0]:=hq.blk;refine Rw z<|Wq<|Wm z<|R z (lnR o_ z<|L.e G)<|R z (a_i z z)<|Wx z (fun hch=>?_) (fun hch=>?_)
 ·refine Ws<|Rw z ?_
  obtain rfl:=som<|ifT hm hch;exact Wr<|d_ hr z ⟨G,z⟩
 refine Wk<|Ws<|Rw z<|Ws<|R z (lN (vs:=[sl A0 N0 C0]) g_24 z_24 z z fid<|hg.row 0 1 z)<|Rm z ?_
 obtain ⟨_,an,hmr⟩:=bdS<|ifF hm hch;refine E z (fc call4 z<|W_w2b an (zt' I G.s) (J.e G)<|ii z) ?_;rintro _ _ ⟨s5,rfl,_⟩;refine Rw z<|Wq<|Wm z<|Rl z z z<|Wx z (fun hci=>?_) (fun hci=>?_)
 ·refine Ws<|Rw z ?_
  obtain rfl:=som<|ifT hmr hci;exact Wr<|d_ hr z ⟨bup G s5,z⟩
 refine Wk<|Ws ?_
 have ht:=hg.e s5;refine R z (lN (vs:=[sl A0 N0 C0]) g_24 z_24 z z fid<|ht.row 0 1 z) ?_;have hu:=(G.ag B).e s5;have hv:=lt_ G.s s5.s;obtain ⟨_,ao,ad⟩:=bdS<|ifF hmr hci;refine E z (fc call6 z<|j_n ao (zt' I hv)<|J.g hu) ?_;rintro _ _ ⟨s8,_,_,_,_,rfl,hw,_,_⟩;refine Rm z ?_;have hx:=hu.e s8;have hy:=lt_ hv s8.s;obtain ⟨_,ap,ae⟩:=bdS ad;refine E z (fc call7 z<|h_V ap (zt' I hy)<|L.g hx) ?_;rintro _ aq ⟨s2,_,_,_,_,rfl,ar,_,_⟩;obtain ⟨_,au,af⟩:=bdS ae;refine E z (fc call5 z<|W_w2z (B:=aq.z) au zr (repS.mono (or_ (hw.e s2)<|a_.lt hw)<|a_p s2.s)<|a_.rep ar) ?_;rintro _ _ ⟨s9,rfl⟩;refine Rw z<|Ws ?_
 have hz:=((ht.e s8).e s2).e s9;refine R z (lN (vs:=[sl A0 N0 C0]) g_24 z_24 z z fid<|hz.row 0 1 z) ?_;have Y:=(hx.e s2).e s9;have a0:=lt_ (lt_ hy s2.s) s9.s;obtain ⟨_,av,ah⟩:=bdS af;refine E z (fc call6 z<|j_n av (zt' I a0)<|J.g Y) ?_;rintro _ ws ⟨sa,aj,nk,cl,_,rfl,he,_,_⟩;refine E z (fa j_l) ?_;rintro _ aw ⟨rfl,a1⟩;have h6:=a1.below;refine E0 (fs0 (cur':=[sl aj nk cl]) u_ z z (a1.blk:Blk aw ws.z [sl none 0 0]) z z z z) ?_;rintro _ _ ⟨ax,ay⟩;have H:=ay.one;refine Wn<|Wm z ?_
 have hd:=lt_ a0 sa.s;have a2:∀k∈[ws.z],¬B k:=or0 (f_ lr)<|t_<|zt' I hd;have a3:=((Y.e sa).e h6).c H<|g_ a2
 have a4:=lt_ (lt_ hd h6.s) H.s;obtain ⟨_,az,ai⟩:=bdS ah;refine E z (fc call7 z<|h_V az (zt' I a4)<|L.g a3) ?_;rintro _ aA ⟨s3,_,_,_,_,rfl,hn,_,_⟩;refine Rw z<|Ws ?_
 have a5:=ax.e s3;refine R z (lN (vs:=[sl aj nk cl]) w_ u_ z z fid<|a5.row 0 1 z)<|Rm z ?_
 have a6:=((he.e h6).c H<|ds<|mnr<|a_.lt he).e s3;have a7:=lt_ (lt_ h6.s H.s) s3.s;have a8:=lt_ a4 s3.s;obtain ⟨_,aB,O⟩:=bdS ai;refine E z (fc call8 z<|W_w3u (B:=aA.z) aB zr ((((((((((hG.e G).e s5).e s8).e s2).e s9).e sa).e h6).c H<|g_ a2).e s3).mono<|zt' I a8) (repS.mono (or_ a6<|a_.lt he)<|a_p a7)<|a_.rep hn) ?_;rintro _ _ ⟨s1,rfl⟩;refine Rw z<|Wq<|Wm z<|Rm z<|R z (m_8 d_4 z z)<|Wx z (fun hcm=>?_) (fun hcm=>?_)
 ·refine Ws<|Rw z ?_
  obtain rfl:=som<|ifT O hcm;exact Wr<|d_ hr z ⟨bup (bup (bM (bup (bup (bup (bup (bup (bup G s5) s8) s2) s9) sa) h6) H<|m1 hd) s3) s1,z⟩
 refine Wk<|Wq<|Wq (Wd (X:=noX) 0 (pl_ 5 [2,3]) mo (by kernel_rfl) fun aK s4 _=>dR z z (lN (vs:=[sl aj nk cl]) w_ u_ z z fid<|((a5.e s1).e s4).row 0 1 z)<|dR z z (lN (vs:=[sl A0 N0 C0]) g_24 z_24 z z fid<|((((((hz.e sa).e h6).c H<|djs<|mm1 hg.lt<|lt_ (lt_ (lt_ (lt_ s5.s s8.s) s2.s) s9.s) sa.s).e s3).e s1).e s4).row 0 1 z) ?_)
 have a9:=((a3.e s3).e s1).e s4;have aa:=lt_ (lt_ a8 s1.s) s4.s;obtain ⟨_,aC,ak⟩:=bdS<|ifF O hcm;refine dE z z (fc call6 z<|j_n aC (zt' I aa)<|J.g a9) (.inr fun _ _ h=>l_<|h.1) ?_;rintro _ aD ⟨sb,_,_,_,_,rfl,aE,_,_⟩;obtain ⟨_,aF,V⟩:=bdS ak;refine dE z z (fc call9 z<|W_w3y (B:=aD.z) aF zr (repS.mono (or_ (((a6.e s1).e s4).e sb)<|a_.lt he)<|a_p<|lt_ (lt_ (lt_ a7 s1.s) s4.s) sb.s)<|a_.rep aE) (.inr fun _ _ h=>l_<|h.1) ?_;rintro _ _ ⟨sc,rfl⟩;refine dR z z (not_ z)<|pD<|Wo<|Wc z (fun hco=>?_) (fun hco=>?_)
 ·refine Ws<|Rw z ?_
  obtain rfl:=som<|ifT V hco;exact Wr<|d_ hr z ⟨bup (bup (bup (bup (bup (bM (bup (bup (bup (bup (bup (bup G s5) s8) s2) s9) sa) h6) H<|m1 hd) s3) s1) s4) sb) sc,z⟩
 refine Wk<|Wq<|Wm z<|Rm z ?_
 obtain ⟨_,aG,al⟩:=bdS<|ifF V hco;refine E z (fc call7 z<|h_V aG (zt' I<|lt_ (lt_ aa sb.s) sc.s)<|L.g<|(a9.e sb).e sc) ?_;rintro _ aH ⟨sf,_,_,_,_,rfl,aI,_,_⟩;obtain ⟨_,aJ,W⟩:=bdS al;refine E z (fc call10 z<|W_w25 (B:=aH.z) aJ zr (repS.mono (or_ (((((hn.e s1).e s4).e sb).e sc).e sf)<|a_.lt hn)<|a_p<|lt_ (lt_ (lt_ (lt_ s1.s s4.s) sb.s) sc.s) sf.s)<|a_.rep aI) ?_;rintro _ _ ⟨ab,rfl⟩;refine R z (not_ z)<|Wx z (fun hcp=>?_) (fun hcp=>?_)
 ·refine Ws<|Rw z ?_
  obtain rfl:=som<|ifT W hcp;exact Wr<|d_ hr z ⟨bup (bup (bup (bup (bup (bup (bup (bM (bup (bup (bup (bup (bup (bup G s5) s8) s2) s9) sa) h6) H<|m1 hd) s3) s1) s4) sb) sc) sf) ab,z⟩
 refine Wk<|Ws<|Rw z ?_
 obtain rfl:=som<|ifF W hcp;exact Wr<|d_ hr z ⟨bup (bup (bup (bup (bup (bup (bup (bM (bup (bup (bup (bup (bup (bup G s5) s8) s2) s9) sa) h6) H<|m1 hd) s3) s1) s4) sb) sc) sf) ab,z⟩
end Go.Vw
