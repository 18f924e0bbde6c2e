
import Derived.Test.YtbhbfaljeoeciaaGreatDoorVbb
set_option linter.unusedVariables false
namespace Go.Vw
open Go.RowKit Dat Go.Proofs
open Go.Proofs.Tryz
open Go.Vw renaming f_U->Wq,f_W->Wg,WC.of_KC->Wo,e_R->Wl,f_V->Wc,h_F->Wr,i_p->Wu,i_6->pT,i_7->pF,g_j->fd,g_k->l1,i_t->lN,f_1->mv,f_2->asg,i_8->lnR,g_p->lss,g_o->eql,g_l->ext_,i_b->bP,g_m->add_,h_T->inc_,i_x->not_,i_9->at_,h_N->fc,e_S->fs,h_M->fb,h_L->fa,h_Z->sr,i_4->cr,i_5->cM,i_3->bM,h_R->iS,h_Q->iA,g_0->br,g_6->oA,h_V->bs,ltge->lg,inor->io,i_w->nq,i_u->lnT,i_v->sb_,h_X->ar_,h_W->al_,h_Y->ds,j_1->m1,i_1->nr_,i_0->nl_,g_7->aa_,all_nil->an_,e_Q->Wb,g_2->u8,h_J->pD,h_G->We,h_S->Wt,h_O->fS,e_E->or_,i_q->Wf,i_h->qL,h_I->Wd,i_c->fN,g_8->na_,i_2->nj,i_d->f0,i_a->rX,i_e->tl_,i_f->ic
variable {A0:Option Addr}{N0 C0:Nat}{B:Zone}{w0:World}{AC:Option Addr}{AB:Option Addr}{AD:Option Addr}{AE:Option Addr}{NC CC:Nat}{NB CB:Nat}{ND CD:Nat}{NE CE:Nat}{A3:Option Addr}{A2:Option Addr}{A1:Option Addr}{A4:Option Addr}{N3 C3:Nat}{N2 C2:Nat}{N1 C1:Nat}{N4 C4:Nat}{A9:Option Addr}{N9 C9:Nat}{A6:Option Addr}{N6 C6:Nat}{n:Nat}{A5:Option Addr}{A7:Option Addr}{N5 C5:Nat}{N7 C7:Nat}{AA:Option Addr}{AF:Option Addr}{NA CA:Nat}{NF CF:Nat}{A8:Option Addr}{N8 C8:Nat}
theorem W_w40 {x1:g_}{x2:g_}{res:Bool}(hm:h_o x1 x2=some res)(H:B<=w0.z)(aa:x1.name.b.length<=LEN)(ab:inI x1.kind)(ad:inI x1.size)(V:repS w0 B (sl AC NC CC) x1.bytes)(W:repS w0 B (sl AB NB CB) x1.names)(Y:repS w0 B (sl AD ND CD) x1.tags)(a0:repS w0 B (sl AE NE CE) x1.kids)(ae:x2.name.b.length<=LEN)(af:inI x2.kind)(ah:inI x2.size)(a1:repS w0 B (sl A3 N3 C3) x2.bytes)(a2:repS w0 B (sl A2 N2 C2) x2.names)(a3:repS w0 B (sl A1 N1 C1) x2.tags)(a4:repS w0 B (sl A4 N4 C4) x2.kids):l_ prog 46 [(.agg #[Str.v x1.name,vI x1.kind,vI x1.size,vB x1.little,sl AC NC CC,sl AB NB CB,sl AD ND CD,sl AE NE CE]),(.agg #[Str.v x2.name,vI x2.kind,vI x2.size,vB x2.little,sl A3 N3 C3,sl A2 N2 C2,sl A1 N1 C1,sl A4 N4 C4])] w0 (Q7 w0 B res):=by
 unfold h_o at hm
 refine goG func46 z z z fun fn hr=>Ws<|E z (fb z) ?_
 rintro _ wi ⟨rfl,hj⟩;have h1:=hj.below;refine E z (fb z) ?_;rintro _ a5 ⟨rfl,hk⟩;have G:=hk.below;have h5:Blk a5 wi.z (vR x2 A3 N3 C3 A2 N2 C2 A1 N1 C1 A4 N4 C4):=hk.blk;refine Rw z<|Wq<|Ws<|Rf z d_z z ?_
 have h6:=(hj.blk:Blk wi w0.z (vR x1 AC NC CC AB NB CB AD ND CD AE NE CE)).e G;refine R z (l0 g_9 z<|h6.at z)<|Rf z d_z z<|R z (l0 g_9 z<|h5.at z)<|R z (g_q z z)<|Wx z (fun I=>?_) (fun I=>?_)
 ·refine Ws<|Rw z ?_
  obtain rfl:=som<|ifT hm I;exact Wr<|f_ hr z ⟨bup h1 G,z⟩
 have hml:=ifF hm I;refine Wk<|Wq<|Ws<|Rf z a_M z<|R z (l0 g_3 z<|h6.at z)<|Rf z a_M z<|R z (l0 g_3 z<|h5.at z)<|R z (nq z z)<|Wx z (fun J=>?_) (fun J=>?_)
 ·refine Ws<|Rw z ?_
  obtain rfl:=som<|ifT hml J;exact Wr<|f_ hr z ⟨bup h1 G,z⟩
 have hmm:=ifF hml J;refine Wk<|Wq<|Ws<|Rf z a_G z<|R z (l0 g_3 z<|h6.at z)<|Rf z a_G z<|R z (l0 g_3 z<|h5.at z)<|R z (nq z z)<|Wx z (fun L=>?_) (fun L=>?_)
 ·refine Ws<|Rw z ?_
  obtain rfl:=som<|ifT hmm L;exact Wr<|f_ hr z ⟨bup h1 G,z⟩
 have hmn:=ifF hmm L;refine Wk<|Wq<|Ws<|Rf z c_R z<|R z (l0 g_4 z<|h6.at z)<|Rf z c_R z<|R z (l0 g_4 z<|h5.at z)<|R z (l_O d_4 z z)<|Wx z (fun hca=>?_) (fun hca=>?_)
 ·refine Ws<|Rw z ?_
  obtain rfl:=som<|ifT hmn hca;exact Wr<|f_ hr z ⟨bup h1 G,z⟩
 refine Wk<|Wq<|Ws<|Rf z a_Z z<|R z (l0 J_ z<|h6.at z)<|Rf z a_Z z<|R z (l0 J_ z<|h5.at z) ?_
 have hb:=(h1.ag B).e G;have ho:=lt_ h1.s G.s;obtain ⟨_,a6,hmp⟩:=bdS<|ifF hmn hca;refine E z (fc call10 z<|W_w2g a6 (zt' H ho) (V.g hb)<|a1.g hb) ?_;rintro _ _ ⟨s2,rfl⟩;refine R z (not_ z)<|Wx z (fun hcc=>?_) (fun hcc=>?_)
 ·refine Ws<|Rw z ?_
  obtain rfl:=som<|ifT hmp hcc;exact Wr<|f_ hr z ⟨bup (bup h1 G) s2,z⟩
 refine Wk<|Wq<|Ws<|Rf z c_b z ?_
 have hq:=h6.e s2;refine R z (l0 b_L z<|hq.at z)<|Rf z c_b z ?_
 have ht:=h5.e s2;refine R z (l0 b_L z<|ht.at z) ?_;have hd:=hb.e s2;have hu:=lt_ ho s2.s;obtain ⟨_,a7,hmr⟩:=bdS<|ifF hmp hcc;refine E z (fc call84 z<|W_w3z a7 (zt' H hu) (W.g hd)<|a2.g hd) ?_;rintro _ _ ⟨s3,rfl⟩;refine R z (not_ z)<|Wx z (fun hce=>?_) (fun hce=>?_)
 ·refine Ws<|Rw z ?_
  obtain rfl:=som<|ifT hmr hce;exact Wr<|f_ hr z ⟨bup (bup (bup h1 G) s2) s3,z⟩
 refine Wk<|Wq<|Ws<|Rf z b_f z ?_
 have hv:=hq.e s3;refine R z (l0 A_ z<|hv.at z)<|Rf z b_f z ?_
 have hw:=ht.e s3;refine R z (l0 A_ z<|hw.at z) ?_;have hf:=hd.e s3;have hx:=lt_ hu s3.s;obtain ⟨_,a8,hms⟩:=bdS<|ifF hmr hce;refine E z (fc call85 z<|W_w2h a8 (zt' H hx) (Y.g hf)<|a3.g hf) ?_;rintro _ _ ⟨s4,rfl⟩;refine R z (not_ z)<|Wx z (fun hcg=>?_) (fun hcg=>?_)
 ·refine Ws<|Rw z ?_
  obtain rfl:=som<|ifT hms hcg;exact Wr<|f_ hr z ⟨bup (bup (bup (bup h1 G) s2) s3) s4,z⟩
 refine Wk<|Wq<|Ws<|Rf z R_ z<|R z (l0 A_ z<|(hv.e s4).at z)<|Rf z R_ z<|R z (l0 A_ z<|(hw.e s4).at z) ?_
 have hy:=hf.e s4;obtain ⟨_,a9,hmz⟩:=bdS<|ifF hms hcg;refine E z (fc call85 z<|W_w2h a9 (zt' H<|lt_ hx s4.s) (a0.g hy)<|a4.g hy) ?_;rintro _ _ ⟨O,rfl⟩;refine R z (not_ z)<|Wx z (fun hch=>?_) (fun hch=>?_)
 ·refine Ws<|Rw z ?_
  obtain rfl:=som<|ifT hmz hch;exact Wr<|f_ hr z ⟨bup (bup (bup (bup (bup h1 G) s2) s3) s4) O,z⟩
 refine Wk<|Ws<|Rw z ?_
 obtain rfl:=som<|ifF hmz hch;exact Wr<|f_ hr z ⟨bup (bup (bup (bup (bup h1 G) s2) s3) s4) O,z⟩
theorem W_w41 {x1:List g_}{x2:List g_}{res:Bool}(hm:j_7 x1 x2=some res)(a5:B<=w0.z)(G:repS w0 B (sl A0 N0 C0) x1)(L:repS w0 B (sl A6 N6 C6) x2):l_ prog 29 [sl A0 N0 C0,sl A6 N6 C6] w0 (Q7 w0 B res):=by
 unfold j_7 at hm
 refine goG func29 z z z fun fn hr=>Ws<|Rw z<|Wq<|Wm z<|R z (lnR a_3 z G)<|Rm z<|R z (lnR a_3 z L)<|R z (nq z z)<|Wx z (fun I=>?_) (fun I=>?_)
 ·refine Ws<|Rw z ?_
  obtain rfl:=som<|ifT hm I;exact Wr<|f_ hr z ⟨br w0,z⟩
 refine Wk<|Wq<|Ws<|Rw z ?_
 obtain ⟨_,hub,O⟩:=bdS<|ifF hm I;refine Wf (σ:=Unit) (ρ:=Bool) (fun (k5:Nat)(_:Unit) a w=>Sat 27 [(0,sl A0 N0 C0),(1,sl A6 N6 C6),(5,vI ((k5:Nat):Int))] a/\Below w0.z w0 w) (fun (_:Unit) a w=>Sat 27 [] a/\Below w0.z w0 w) (rQ prog fn<|Q7 w0 B) hub ?_ ?_ ?_ ?_ ?_
 ·exact fun _ q=>⟨q.k<|s3 z z z,br w0⟩
 ·rintro k5 _ _ _ _ V ⟨hSc,H⟩ hmd;refine Wu ?_ hSc;refine Wq<|Wm z<|Rm z<|R z (lnR a_3 z<|G.e H)<|Rl z z z<|Wx z (fun _=>?_) (fun hc=>(a_0 V hc).elim)
  refine Wk<|Wq<|Wb<|Wq (Wd (X:=noX) 0 (pl_ 10 [8]) mo (by kernel_rfl) fun aG s1 _=>dM z z z<|dM z z z ?_)
  obtain ⟨xe,eg,hmf⟩:=bdS hmd;have Y:=(H.ag B).e s1;refine dRX z z (at_ (α:=g_) a_3 t_ z z z (G.g Y) eg) ?_;rintro _ ⟨_,_,_,rfl,hh,hi,_⟩;obtain ⟨aj,nk,cl,am,nn,co,ap,nr,cq,au,ns,ct,rfl,hv,hw,hx,hy,hz,a6,a7⟩:=a_v hi;refine dR z z (lN (vs:=vR xe aj nk cl am nn co ap nr cq au ns ct) D_ t_ z z fid hh)<|dM z z z<|dM z z z ?_
  obtain ⟨a8,a9,a0⟩:=bdS hmf;refine dRX z z (at_ (α:=g_) a_3 t_ z z z (L.g Y) a9) ?_;rintro _ ⟨_,_,_,rfl,aa,ab,_⟩;obtain ⟨ad,ae,af,ah,ai,ak,al,an,ao,aq,ar,av,rfl,aw,ax,ay,az,aA,aB,aC⟩:=a_v ab;refine dR z z (lN (vs:=vR a8 ad ae af ah ai ak al an ao aq ar av) D_ t_ z z fid aa) ?_;obtain ⟨_,aD,W⟩:=bdS a0;refine dE z z (fc call46 z<|W_w40 aD (zt' a5<|lt_ H.s s1.s) hv hw hx hy hz a6 a7 aw ax ay az aA aB aC) (.inr fun _ _ h=>o_<|h.1) ?_;rintro _ _ ⟨s9,rfl⟩;refine dR z z (not_ z)<|pD<|Wo<|Wc z (fun J=>?_) (fun J=>?_)
  ·exact Ws<|Rw z<|Wr<|rtO<|qL (som<|ifT W J).symm<|f_ hr z ⟨bup (bup H s1) s9,z⟩
  exact Wk<|Wg<|Rm z<|R z (inc_ V (lt_ (repS.len G) G_) z z)<|Ra z<|Wl (fun _ q=>⟨(),(som<|ifF W J).symm,⟨q.k<|s3 z z z,bup (bup H s1) s9⟩⟩)
 ·rintro _ _ _ ⟨a1,sa⟩;refine Wu ?_ a1;refine Wq<|Wm z<|Rm z<|R z (lnR a_3 z<|G.e sa)<|Rl z z z<|Wx z (fun hc=>(a_1 hc).elim) (fun _=>?_)
  exact We<|fun _ q=>⟨rfl,⟨q.k sn,sa⟩⟩
 ·rintro _ aE _ rfl ⟨_,aF⟩;have a2:=elL O;revert aE;refine Wo<|Ws<|Rw z ?_
  obtain rfl:=som a2;exact Wr<|f_ hr z ⟨aF,z⟩
 rintro _ _ _ _ rfl ⟨rfl,a3⟩;have a4:=elR O;obtain rfl:=som a4;exact ⟨a3,z⟩
theorem W_w42 {x1:c_}{x2:c_}{res:Bool}(hm:h_p x1 x2=some res)(V:B<=w0.z)(L:repS w0 B (sl A0 N0 C0) x1.rules)(O:repS w0 B (sl A6 N6 C6) x2.rules):l_ prog 9 [(.agg #[sl A0 N0 C0]),(.agg #[sl A6 N6 C6])] w0 (Q7 w0 B res):=by
 unfold h_p at hm
 refine goG func9 z z z fun fn hr=>Ws<|E z (fb z) ?_
 rintro _ J ⟨rfl,h4⟩;have h1:=h4.below;refine E z (fb z) ?_;rintro _ wa ⟨rfl,h5⟩;have G:=h5.below;refine Rw z<|Wq<|Ws<|Rf z a_9 z<|R z (l0 a_b z<|((h4.blk:Blk J w0.z [sl A0 N0 C0]).e G).at z)<|Rf z a_9 z<|R z (l0 a_b z<|(h5.blk:Blk wa J.z [sl A6 N6 C6]).at z) ?_
 have h6:=(h1.ag B).e G;obtain ⟨_,ec,I⟩:=bdS hm;refine E z (fc call29 z<|W_w41 ec (zt' V<|lt_ h1.s G.s) (L.g h6)<|O.g h6) ?_;rintro _ _ ⟨s8,rfl⟩;refine R z (not_ z)<|Wx z (fun H=>?_) (fun H=>?_)
 ·refine Ws<|Rw z ?_
  obtain rfl:=som<|ifT I H;exact Wr<|f_ hr z ⟨bup (bup h1 G) s8,z⟩
 refine Wk<|Ws<|Rw z ?_
 obtain rfl:=som<|ifF I H;exact Wr<|f_ hr z ⟨bup (bup h1 G) s8,z⟩
def r_I (w0:World)(B:Zone)(r:Bool)(v:Value)(w':World):Prop:=Bw w0 w'/\(fun G=>(vB G)=v) r
theorem r_J {x1:c_}{x2:List UInt8}{res:Bool}(hm:f_T n x1 x2=some res)(I:B<=w0.z)(hG:Gl w0 B)(J:repS w0 B (sl A0 N0 C0) x1.rules)(L:repS w0 B (sl A6 N6 C6) x2):l_ prog 3 [(.agg #[sl A0 N0 C0]),sl A6 N6 C6] w0 (r_I w0 B res):=by
 unfold f_T at hm
 refine goG func3 z z z fun fn hr=>Ws<|E z (fb z) ?_
 rintro _ am ⟨rfl,hq⟩;have G:=hq.below;have hg:Blk am w0.z [sl A0 N0 C0]:=hq.blk;refine Rw z<|Wq<|Wm z<|R z (lnR n_ z<|L.e G)<|R z (a_C z z)<|Wx z (fun hch=>?_) (fun hch=>?_)
 ·refine Ws<|Rw z ?_
  obtain rfl:=som<|ifT hm hch;exact Wr<|f_ hr z ⟨G,z⟩
 refine Wk<|Ws<|Rw z<|Ws<|R z (lN (vs:=[sl A0 N0 C0]) g_24 z_24 z z fid<|hg.row 0 1 z)<|Rm z ?_
 obtain ⟨_,an,hmr⟩:=bdS<|ifF hm hch;refine E z (fc call4 z<|W_w2m an (zt' I G.s) (J.e G)<|ii z) ?_;rintro _ _ ⟨s5,rfl,_⟩;refine Rw z<|Wq<|Wm z<|Rl z z z<|Wx z (fun hci=>?_) (fun hci=>?_)
 ·refine Ws<|Rw z ?_
  obtain rfl:=som<|ifT hmr hci;exact Wr<|f_ hr z ⟨bup G s5,z⟩
 refine Wk<|Ws ?_
 have ht:=hg.e s5;refine R z (lN (vs:=[sl A0 N0 C0]) g_24 z_24 z z fid<|ht.row 0 1 z) ?_;have hu:=(G.ag B).e s5;have hv:=lt_ G.s s5.s;obtain ⟨_,ao,ad⟩:=bdS<|ifF hmr hci;refine E z (fc call6 z<|k_v ao (zt' I hv)<|J.g hu) ?_;rintro _ _ ⟨s8,_,_,_,_,rfl,hw,_,_⟩;refine Rm z ?_;have hx:=hu.e s8;have hy:=lt_ hv s8.s;obtain ⟨_,ap,ae⟩:=bdS ad;refine E z (fc call7 z<|j_e ap (zt' I hy)<|L.g hx) ?_;rintro _ aq ⟨s2,_,_,_,_,rfl,ar,_,_⟩;obtain ⟨_,au,af⟩:=bdS ae;refine E z (fc call5 z<|W_w39 (B:=aq.z) au zr (repS.mono (or_ (hw.e s2)<|a_.lt hw)<|M_ s2.s)<|a_.rep ar) ?_;rintro _ _ ⟨s9,rfl⟩;refine Rw z<|Ws ?_
 have hz:=((ht.e s8).e s2).e s9;refine R z (lN (vs:=[sl A0 N0 C0]) g_24 z_24 z z fid<|hz.row 0 1 z) ?_;have Y:=(hx.e s2).e s9;have a0:=lt_ (lt_ hy s2.s) s9.s;obtain ⟨_,av,ah⟩:=bdS af;refine E z (fc call6 z<|k_v av (zt' I a0)<|J.g Y) ?_;rintro _ ws ⟨sa,aj,nk,cl,_,rfl,he,_,_⟩;refine E z (fa k_q) ?_;rintro _ aw ⟨rfl,a1⟩;have h6:=a1.below;refine E0 (fs0 (cur':=[sl aj nk cl]) v_ z z (a1.blk:Blk aw ws.z [sl none 0 0]) z z z z) ?_;rintro _ _ ⟨ax,ay⟩;have H:=ay.one;refine Wn<|Wm z ?_
 have hd:=lt_ a0 sa.s;have a2:∀k∈[ws.z],¬B k:=or0 (d_ lr)<|p_<|zt' I hd;have a3:=((Y.e sa).e h6).c H<|e_ a2
 have a4:=lt_ (lt_ hd h6.s) H.s;obtain ⟨_,az,ai⟩:=bdS ah;refine E z (fc call7 z<|j_e az (zt' I a4)<|L.g a3) ?_;rintro _ aA ⟨s3,_,_,_,_,rfl,hn,_,_⟩;refine Rw z<|Ws ?_
 have a5:=ax.e s3;refine R z (lN (vs:=[sl aj nk cl]) w_ v_ z z fid<|a5.row 0 1 z)<|Rm z ?_
 have a6:=((he.e h6).c H<|ds<|mnr<|a_.lt he).e s3;have a7:=lt_ (lt_ h6.s H.s) s3.s;have a8:=lt_ a4 s3.s;obtain ⟨_,aB,O⟩:=bdS ai;refine E z (fc call8 z<|W_w3y (B:=aA.z) aB zr ((((((((((hG.e G).e s5).e s8).e s2).e s9).e sa).e h6).c H<|e_ a2).e s3).mono<|zt' I a8) (repS.mono (or_ a6<|a_.lt he)<|M_ a7)<|a_.rep hn) ?_;rintro _ _ ⟨s1,rfl⟩;refine Rw z<|Wq<|Wm z<|Rm z<|R z (l_O d_4 z z)<|Wx z (fun hcm=>?_) (fun hcm=>?_)
 ·refine Ws<|Rw z ?_
  obtain rfl:=som<|ifT O hcm;exact Wr<|f_ hr z ⟨bup (bup (bM (bup (bup (bup (bup (bup (bup G s5) s8) s2) s9) sa) h6) H<|m1 hd) s3) s1,z⟩
 refine Wk<|Wq<|Wq (Wd (X:=noX) 0 (pl_ 5 [2,3]) mo (by kernel_rfl) fun aK s4 _=>dR z z (lN (vs:=[sl aj nk cl]) w_ v_ z z fid<|((a5.e s1).e s4).row 0 1 z)<|dR z z (lN (vs:=[sl A0 N0 C0]) g_24 z_24 z z fid<|((((((hz.e sa).e h6).c H<|djs<|mm1 hg.lt<|lt_ (lt_ (lt_ (lt_ s5.s s8.s) s2.s) s9.s) sa.s).e s3).e s1).e s4).row 0 1 z) ?_)
 have a9:=((a3.e s3).e s1).e s4;have aa:=lt_ (lt_ a8 s1.s) s4.s;obtain ⟨_,aC,ak⟩:=bdS<|ifF O hcm;refine dE z z (fc call6 z<|k_v aC (zt' I aa)<|J.g a9) (.inr fun _ _ h=>o_<|h.1) ?_;rintro _ aD ⟨sb,_,_,_,_,rfl,aE,_,_⟩;obtain ⟨_,aF,V⟩:=bdS ak;refine dE z z (fc call9 z<|W_w42 (B:=aD.z) aF zr (repS.mono (or_ (((a6.e s1).e s4).e sb)<|a_.lt he)<|M_<|lt_ (lt_ (lt_ a7 s1.s) s4.s) sb.s)<|a_.rep aE) (.inr fun _ _ h=>o_<|h.1) ?_;rintro _ _ ⟨sc,rfl⟩;refine dR z z (not_ z)<|pD<|Wo<|Wc z (fun hco=>?_) (fun hco=>?_)
 ·refine Ws<|Rw z ?_
  obtain rfl:=som<|ifT V hco;exact Wr<|f_ hr z ⟨bup (bup (bup (bup (bup (bM (bup (bup (bup (bup (bup (bup G s5) s8) s2) s9) sa) h6) H<|m1 hd) s3) s1) s4) sb) sc,z⟩
 refine Wk<|Wq<|Wm z<|Rm z ?_
 obtain ⟨_,aG,al⟩:=bdS<|ifF V hco;refine E z (fc call7 z<|j_e aG (zt' I<|lt_ (lt_ aa sb.s) sc.s)<|L.g<|(a9.e sb).e sc) ?_;rintro _ aH ⟨sf,_,_,_,_,rfl,aI,_,_⟩;obtain ⟨_,aJ,W⟩:=bdS al;refine E z (fc call10 z<|W_w2g (B:=aH.z) aJ zr (repS.mono (or_ (((((hn.e s1).e s4).e sb).e sc).e sf)<|a_.lt hn)<|M_<|lt_ (lt_ (lt_ (lt_ s1.s s4.s) sb.s) sc.s) sf.s)<|a_.rep aI) ?_;rintro _ _ ⟨ab,rfl⟩;refine R z (not_ z)<|Wx z (fun hcp=>?_) (fun hcp=>?_)
 ·refine Ws<|Rw z ?_
  obtain rfl:=som<|ifT W hcp;exact Wr<|f_ hr z ⟨bup (bup (bup (bup (bup (bup (bup (bM (bup (bup (bup (bup (bup (bup G s5) s8) s2) s9) sa) h6) H<|m1 hd) s3) s1) s4) sb) sc) sf) ab,z⟩
 refine Wk<|Ws<|Rw z ?_
 obtain rfl:=som<|ifF W hcp;exact Wr<|f_ hr z ⟨bup (bup (bup (bup (bup (bup (bup (bM (bup (bup (bup (bup (bup (bup G s5) s8) s2) s9) sa) h6) H<|m1 hd) s3) s1) s4) sb) sc) sf) ab,z⟩
end Go.Vw
