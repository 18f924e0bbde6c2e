
import Derived.Test.YtcaidakkhpmcjaaGreatDoorVwAW2
set_option linter.unusedVariables false
namespace Go.Vw
open Go.RowKit Dat Go.Proofs
open Go.Proofs.Tryz
open Go.Vw renaming a_S->Wq,b_o->Wg,WC.of_KC->Wo,a_T->Wl,c_S->Wc,d_F->Wr,g_k->Wu,i_m->pT,i_n->pF,g_o->fd,c_g->l1,i_D->lN,b_O->mv,d_p->asg,g_f->lnR,f_f->lss,g_s->eql,g_p->ext_,i_p->bP,g_q->add_,g_b->inc_,e_w->not_,g_g->at_,e_Z->fc,b_z->fs,e_Y->fb,e_n->fa,i_g->sr,i_k->cr,i_l->cM,d_l->bM,i_7->iS,i_6->iA,i_9->br,b_L->oA,i_c->bs,ltge->lg,inor->io,g_t->nq,i_E->lnT,i_F->sb_,i_e->ar_,i_d->al_,i_f->ds,j_6->m1,i_i->nr_,i_h->nl_,g_d->aa_,all_nil->an_,d_G->Wb,g_c->u8,i_3->pD,g_7->We,i_8->Wt,g_a->fS,e_Q->or_,i_y->Wf,i_u->qL,i_2->Wd,i_q->fN,g_e->na_,i_j->nj,f_7->f0,i_o->rX,i_r->tl_,i_s->ic
variable {A0:Option Addr}{N0 C0:Nat}{B:Zone}{w0:World}{AD:Option Addr}{A8:Option Addr}{AE:Option Addr}{AF:Option Addr}{ND CD:Nat}{N8 C8:Nat}{NE CE:Nat}{NF CF:Nat}{A3:Option Addr}{A4:Option Addr}{A2:Option Addr}{A5:Option Addr}{N3 C3:Nat}{N4 C4:Nat}{N2 C2:Nat}{N5 C5:Nat}{A7:Option Addr}{N7 C7:Nat}{A6:Option Addr}{N6 C6:Nat}{n:Nat}{AA:Option Addr}{AB:Option Addr}{NA CA:Nat}{NB CB:Nat}{A9:Option Addr}{AG:Option Addr}{N9 C9:Nat}{NG CG:Nat}{A1:Option Addr}{N1 C1:Nat}
theorem T_w1v (ih:e_X n):j_N (h_l n<|a_y n):=by
 obtain ⟨aP,_,_,_,_⟩:=ih
 constructor
 intro A0 A1 A3 A4 A2 A5 N0 C0 N1 C1 g1 N3 C3 N4 C4 N2 C2 N5 C5 B x1 x2 x3 res w0 hm hB1 W hBg a2 a3 aE bu bv bw bx bz bA a4 a5;unfold h_l at hm
 refine goG func137 z z z fun fn hr=>Ws<|E z (fb z) ?_
 rintro _ J ⟨rfl,ab⟩;have h6:=ab.below;have ad:Blk J w0.z (vR x2 A3 N3 C3 A4 N4 C4 A2 N2 C2 A5 N5 C5):=ab.blk;refine E z (fa b_k) ?_;rintro _ wr ⟨rfl,ae⟩;have he:=ae.below;have hn:Blk wr J.z [vI 0,vI 0]:=ae.blk;refine Wn<|Wm z<|Rf z N_ z ?_
 have af:=ad.e he;refine R z (l0 A_ z<|af.at z) ?_;obtain ⟨_,aQ,aF⟩:=bdS hm;have ho:=(h6.ag B).e he;refine RX z (at_ (α:=Int) x_ z_3 z z z (a4.g ho) aQ) ?_;rintro _ ⟨_,_,_,rfl,aR,aS,_⟩;obtain ⟨rfl,aT⟩:=O_ aS;refine R z (l0 g_3 z<|aR.at0 z)<|Rm z ?_
 have hj:=lt_ h6.s he.s;obtain ⟨ah,rs,_,aU,aG⟩:=I_ aF;refine E z (fc call134 z<|h_Z (B:=B) aU ((hB1.e h6).e he) (zt' W hj) hBg (a2.g ho) (a3.g ho) aE aT a5) ?_;rintro _ G ⟨I,rfl,aV,aW,aX,ai,aj⟩;refine Rm z<|Re z z z<|Re z z z<|E z (fa b_k) ?_
 rintro _ wu ⟨rfl,ak⟩;have O:=ak.below;refine Ra z<|E0 (fs0 (cur':=[vI rs.at_,vI rs.code]) E_ z z (ak.blk:Blk wu G.z [vI 0,vI 0]) z z z z) ?_
 rintro _ wg ⟨al,aY⟩;have V:=aY.one;refine Wn<|Wq<|Wq ?_
 obtain ⟨aZ,a6,a7⟩:=bdS aG;refine Wt (fun a w=>∃(xv:Bool),xv=aZ/\Sat 46 [(0,pt g1),(2,vI x3),(4,pt w0.z),(6,pt J.z),(7,vI ah),(8,pt G.z),(25,vB xv)] a/\Below wg.z wg w) ?_ ?_
 ·refine Wg<|Rf z c_N z<|R z (l0 g_3 z<|al.at z)<|Rq z z z<|Rm z ?_
  rcases bs (rs.code==0) with L | L
  ·exact Rh z L (mv z)<|Rh z L (a_i z z)<|R z (pT z L z)<|Wl (fun _ q=>⟨decide<|40<ah,som<|ifT a6 L,q.k<|s7 z z z z z z z,br wg⟩)
  exact Nh z L<|Nh z L<|R z (pF z L z)<|Wl (fun _ q=>⟨false,som<|ifF a6 L,q.k<|s7 z z z z z z z,br wg⟩)
 rintro b0 H ⟨xv,rfl,_,s4⟩;revert b0;refine Wo<|Wc z (fun hcw=>?_) (fun hcw=>?_)
 ·refine Wm z<|R z (bP (parts:=[(0,.tmp 26),(1,.const<|.int .i64 6)]) (cs:=[vI x3,vI 6]) c_c z z) ?_
  have am:=mm1 (Blk.lt hB1) h6.s;refine E0 (fs0 (cur':=[vI x3,vI 6]) E_ z z ((((hn.c I<|atp am).e O).c V<|djs<|mm1 hn.lt I.s).e s4) z z z z) ?_;rintro _ b1 ⟨b2,b3⟩;have an:=b3.one;refine Wn ?_;obtain rfl:=som<|ifT a7 hcw;have ao:=lt_ hj I.s;exact Wr<|d_ hr (q_ a_g E_ z b2 z) ⟨(cM (h_ (cM (h_ (cM (h_ (h_ (cr [g1] w0) h6:Chg (· ∈ [g1]) w0 J) he:Chg (· ∈ [g1]) w0 wr) I (io sr):Chg (· ∈ [g1]) w0 G) O:Chg (· ∈ [g1]) w0 wu) V (mor ao:∀k∈[G.z],k∈[g1]∨w0.z<=k):Chg (· ∈ [g1]) w0 wg) s4:Chg (· ∈ [g1]) w0 H) an (mor h6.s:∀k∈[J.z],k∈[g1]∨w0.z<=k):Chg (· ∈ [g1]) w0 b1),z,a5,ii z,ai,(((aj.e O).c V<|djs<|mm1 (Blk.lt hB1) ao).e s4).c an<|djs am⟩
 refine Wk<|Wq ?_
 obtain ⟨_,aH,a8⟩:=bdS<|ifF a7 hcw;refine d_P (σ:=Int×Int×Int×Int) (ρ:=X_×Int) (fun s a w=>un4 (fun xa xf xb x5=>Sat 46 [(0,pt g1),(4,pt w0.z),(6,pt J.z),(7,vI xa),(8,pt G.z)] a/\Chg (· ∈ ([g1]++[G.z])) H w/\inI xa/\inI xf/\inI xb/\inI x5/\Blk w g1 [sl A0 N0 C0,sl A1 N1 C1,vI xf]/\Blk w G.z [vI xb,vI x5]) s) (fun s a w=>un4 (fun xa xf xb x5=>Sat 46 [(6,pt J.z),(8,pt G.z)] a/\Chg (· ∈ ([g1]++[G.z])) H w/\inI xa/\inI xf/\inI xb/\inI x5/\Blk w g1 [sl A0 N0 C0,sl A1 N1 C1,vI xf]/\Blk w G.z [vI xb,vI x5]) s) (rQ prog fn<|Q29 w0 g1 B A0 N0 C0 A1 N1 C1 x1) aH ?_ ?_ ?_ ?_
 ·exact fun _ q=>⟨q.k<|s5 z z z z z,cr ([g1]++[G.z]) H,aV,ai,aW,aX,((aj.e O).c V<|djs<|mm1 (Blk.lt hB1)<|lt_ hj I.s).e s4,al.e s4⟩
 ·rintro ⟨xa,xf,xb,x5⟩ _ wh _ ⟨aI,sk,ap,hp,hq,hx,ht,hl⟩ aJ;refine Wu ?_ aI;refine Wq<|Wq ?_
  obtain ⟨b4,a9,aa⟩:=bdS<|un4S aJ;refine Wt (fun a w=>∃(xy:Bool),xy=b4/\Sat 46 [(0,pt g1),(4,pt w0.z),(6,pt J.z),(7,vI xa),(8,pt G.z),(34,vB xy)] a/\Below wh.z wh w) ?_ ?_
  ·refine Wg<|Rm z<|R z (a_i z z)<|Rm z ?_
   rcases bs (decide<|0<xa) with hcc | hcc
   ·exact Rh z hcc (fd c_N z)<|Rh z hcc (l0 g_3 z<|hl.at z)<|Rh z hcc (eql z z)<|R z (pT z hcc z)<|Wl (fun _ q=>⟨x5==0,som<|ifT a9 hcc,q.k<|s6 z z z z z z,br wh⟩)
   iterate 3 refine Nh z hcc ?_
   exact R z (pF z hcc z)<|Wl (fun _ q=>⟨false,som<|ifF a9 hcc,q.k<|s6 z z z z z z,br wh⟩)
  rintro b5 aq ⟨xy,rfl,_,sd⟩;revert b5;refine Wo<|Wc z (fun hcz=>?_) (fun hcz=>?_)
  ·refine Wk<|Wq<|Wb (Wd (X:=noX) 384 (pl_ 9 [7,8]) mo (by kernel_rfl) fun b6 si _=>dM z z z<|dR z z (fd N_ z) ?_)
   have ar:=mmr<|Blk.lt hB1
   have au:=mm1 ad.lt<|lt_ he.s I.s
   refine dR z z (l0 A_ z<|(((((((af.c I<|atp ar).e O).c V<|djs au).e s4).c sk<|atp<|nmA ar<|ds au).e sd).e si).at z) ?_;obtain ⟨_,b7,aK⟩:=bdS<|ifT aa hcz;have Y:=lt_ hj I.s;have av:∀k∈[G.z],¬B k:=or0 (f_ lr)<|t_<|zt' W Y;have a0:=((((((ho.c I<|g_<|f_ hBg).e O).c V<|g_ av).e s4).c sk<|nmA (g_<|f_ hBg)<|g_ av).e sd).e si;refine dRX z z (at_ (α:=Int) x_ z_3 z z z (a4.g a0) b7) ?_;rintro _ ⟨_,_,_,rfl,b8,b9,_⟩;obtain ⟨rfl,ba⟩:=O_ b9;refine dR z z (l0 g_3 z<|b8.at0 z)<|dR z z (fd c_r z) ?_
   have aw:=(hl.e sd).e si;refine dR z z (l0 g_3 z<|aw.at z) ?_;obtain ⟨rm,bb,bc,aL⟩:=a_3 aK;refine dE z z (fc call100 z<|aP.run (B:=B) bc ((ht.e sd).e si) (zt' W<|lt_ (lt_ (lt_ (lt_ (lt_ (lt_ Y O.s) V.s) s4.s) sk.s) sd.s) si.s) hBg (a2.g a0) (a3.g a0) hp ba hq) (.inl z) ?_;rintro _ be ⟨ax,rfl,bf,bg,bh,bi⟩;have ay:=mm1 (Blk.lt hB1) Y;refine dE0 z (fs0 (cur':=[vI rm.at_,vI rm.code]) E_ z z (aw.c ax<|atp ay) z z z z) (.inl z) ?_;rintro _ bj ⟨bk,bm⟩;have az:=bm.one;refine pD<|Wo<|Wg<|Rm z<|R z (sb_ z z)<|Ra z<|Wl ?_
   exact fun _ q=>⟨(S_ xa 1,bb,rm.at_,rm.code),(som aL).symm,⟨q.k<|s5 z z z z z,(cM (cM (h_ (h_ (cM (cr ([g1]++[G.z]) H) sk (aa_ (io<|a_U sr)<|io<|a_L sr):Chg (· ∈ ([g1]++[G.z])) H wh) sd:Chg (· ∈ ([g1]++[G.z])) H aq) si:Chg (· ∈ ([g1]++[G.z])) H b6) ax (io<|a_U sr):Chg (· ∈ ([g1]++[G.z])) H be) az (io<|a_L sr):Chg (· ∈ ([g1]++[G.z])) H bj),iS _ _,bh,bf,bg,bi.c az<|djs ay,bk⟩⟩
  exact We<|fun _ q=>c_v (som<|ifF aa hcz).symm ⟨q.k<|s2 z z,(h_ (cM (cr ([g1]++[G.z]) H) sk (aa_ (io<|a_U sr)<|io<|a_L sr):Chg (· ∈ ([g1]++[G.z])) H wh) sd:Chg (· ∈ ([g1]++[G.z])) H aq),ap,hp,hq,hx,ht.e sd,hl.e sd⟩
 ·rintro ⟨xa,xf,xb,x5⟩ bn bo rfl ⟨_,aA,ap,hp,hq,hx,ht,hl⟩;have aM:=elL a8;revert bn;refine Wo<|Ws<|R z (lN (vs:=[vI xb,vI x5]) a_g E_ z z fid<|hl.row 0 2 z) ?_
  have a1:=mm1 (Blk.lt hB1) h6.s;have aB:=mm1 hn.lt I.s;refine E0 (fs0 (cur':=[vI xb,vI x5]) E_ z z (((((hn.c I<|atp a1).e O).c V<|djs aB).e s4).c aA<|atp<|nmA a1<|ds aB) z z z z) ?_;rintro _ bp ⟨bq,bt⟩;have aC:=bt.one;refine Wn ?_;obtain rfl:=som<|un4S aM;have aD:∀k∈[G.z],k∈[g1]∨w0.z<=k:=mor<|lt_ hj I.s;exact Wr<|d_ hr (q_ a_g E_ z bq z) ⟨(cM (cM (h_ (cM (h_ (cM (h_ (h_ (cr [g1] w0) h6:Chg (· ∈ [g1]) w0 J) he:Chg (· ∈ [g1]) w0 wr) I (io sr):Chg (· ∈ [g1]) w0 G) O:Chg (· ∈ [g1]) w0 wu) V aD:Chg (· ∈ [g1]) w0 wg) s4:Chg (· ∈ [g1]) w0 H) aA (aa_ (io sr) aD):Chg (· ∈ [g1]) w0 bo) aC (mor h6.s:∀k∈[J.z],k∈[g1]∨w0.z<=k):Chg (· ∈ [g1]) w0 bp),z,hq,hx,hp,ht.c aC<|djs a1⟩
 rintro _ _ _ _ rfl ⟨rfl,aN⟩;have aO:=elR a8;obtain rfl:=som aO;exact ⟨aN,z⟩
theorem T_w1w (ih:e_X n):j_O (h_m n<|a_y n):=by
 obtain ⟨aq,_,_,_,_⟩:=ih
 constructor
 intro A0 A1 A3 A4 A2 A5 N0 C0 N1 C1 g1 N3 C3 N4 C4 N2 C2 N5 C5 B x1 x2 x3 res w0 hm hB1 V hBg W Y ae b2 b3 b4 b5 b6 O a0 a1;unfold h_m at hm
 refine goG func138 z z z fun fn hr=>Ws<|E z (fb z) ?_
 rintro _ H ⟨rfl,hq⟩;have h1:=hq.below;have ht:Blk H w0.z (vR x2 A3 N3 C3 A4 N4 C4 A2 N2 C2 A5 N5 C5):=hq.blk;refine E z (fa b_k) ?_;rintro _ wc ⟨rfl,hu⟩;have h6:=hu.below;have L:Blk wc H.z [vI 0,vI 0]:=hu.blk;refine Wn<|Wm z<|Rf z N_ z ?_
 have hv:=ht.e h6;refine R z (l0 A_ z<|hv.at z) ?_;obtain ⟨_,ar,af⟩:=bdS hm;have he:=(h1.ag B).e h6;refine RX z (at_ (α:=Int) x_ z_3 z z z (a0.g he) ar) ?_;rintro _ ⟨_,_,_,rfl,au,av,_⟩;obtain ⟨rfl,aw⟩:=O_ av;refine R z (l0 g_3 z<|au.at0 z)<|Rm z ?_
 have hg:=lt_ h1.s h6.s;obtain ⟨ax,rb,_,ay,hmr⟩:=I_ af;refine E z (fc call134 z<|h_Z (B:=B) ay ((hB1.e h1).e h6) (zt' V hg) hBg (W.g he) (Y.g he) ae aw a1) ?_;rintro _ I ⟨G,rfl,_,hw,az,hh,hi⟩;refine Rm z<|Re z z z<|Re z z z<|E z (fa b_k) ?_
 rintro _ wf ⟨rfl,hx⟩;have h2:=hx.below;refine Ra z<|E0 (fs0 (cur':=[vI rb.at_,vI rb.code]) E_ z z (hx.blk:Blk wf I.z [vI 0,vI 0]) z z z z) ?_
 rintro _ J ⟨hj,aA⟩;have h3:=aA.one;refine Wn<|Wq<|Ws<|Rf z c_N z<|R z (l0 g_3 z<|hj.at z)<|R z (nq z z)<|Wx z (fun hck=>?_) (fun hck=>?_)
 ·refine Ws<|R z (lN (vs:=[vI rb.at_,vI rb.code]) a_g E_ z z fid<|hj.row 0 2 z) ?_
  have hy:=mm1 (Blk.lt hB1) h1.s;refine E0 (fs0 (cur':=[vI rb.at_,vI rb.code]) E_ z z (((L.c G<|atp hy).e h2).c h3<|djs<|mm1 L.lt G.s) z z z z) ?_;rintro _ aB ⟨aC,aD⟩;have hz:=aD.one;refine Wn ?_;obtain rfl:=som<|ifT hmr hck;have a3:=lt_ hg G.s;exact Wr<|d_ hr (q_ a_g E_ z aC z) ⟨(cM (cM (h_ (cM (h_ (h_ (cr [g1] w0) h1:Chg (· ∈ [g1]) w0 H) h6:Chg (· ∈ [g1]) w0 wc) G (io sr):Chg (· ∈ [g1]) w0 I) h2:Chg (· ∈ [g1]) w0 wf) h3 (mor a3:∀k∈[I.z],k∈[g1]∨w0.z<=k):Chg (· ∈ [g1]) w0 J) hz (mor h1.s:∀k∈[H.z],k∈[g1]∨w0.z<=k):Chg (· ∈ [g1]) w0 aB),z,hw,az,hh,((hi.e h2).c h3<|djs<|mm1 (Blk.lt hB1) a3).c hz<|djs hy⟩
 refine Wk<|Wq<|Ws<|Rf z a_R z ?_
 have a4:=((hv.c G<|atp<|mmr<|Blk.lt hB1).e h2).c h3<|djs<|mm1 ht.lt<|lt_ h6.s G.s
 refine R z (l0 A_ z<|a4.at z) ?_;have hd:=lt_ hg G.s;have a5:=((he.c G<|g_<|f_ hBg).e h2).c h3<|g_ (or0 (f_ lr) (t_<|zt' V hd):∀k∈[I.z],¬B k)
 refine R z (lnR x_ z<|O.g a5)<|Rm z<|Wn ?_
 obtain ⟨_,ah,hms⟩:=bdS<|ifF hmr hck;refine Wf (σ:=Unit) (ρ:=X_×Int) (fun (a6:Nat)(_:Unit) a w=>Sat 49 [(0,pt g1),(2,vI x3),(4,pt w0.z),(6,pt H.z),(7,vI ax),(8,pt I.z),(26,sl A2 N2 C2),(27,vI (x2.tags.length:Int)),(28,vI ((a6:Nat):Int))] a/\Below J.z J w) (fun (_:Unit) a w=>Sat 49 [(2,vI x3),(6,pt H.z)] a/\Below J.z J w) (rQ prog fn<|Q29 w0 g1 B A0 N0 C0 A1 N1 C1 x1) ah ?_ ?_ ?_ ?_ ?_
 ·exact fun _ q=>⟨q.k<|s9 z z z z z z z z z,br J⟩
 ·rintro a6 _ _ aE _ hkl ⟨ai,s8⟩ aj;refine Wu ?_ ai;refine Ws<|Rl z z z<|Wn<|Wq<|Wc z (fun _=>?_) (fun hc=>(V_ hkl hc).elim)
  refine Wk<|Wq<|Wb<|Wm z ?_
  obtain ⟨_,aF,a2⟩:=bdS aj;have a7:=a5.e s8;refine RX z (at_ (α:=Int) x_ z_3 z z z (O.g a7) aF) ?_;rintro _ ⟨_,_,_,rfl,aG,aH,_⟩;obtain ⟨rfl,_⟩:=O_ aH;refine R z (l0 g_3 z<|aG.at0 z)<|Ra z<|Rw z<|Wm z<|Rm z<|Rq z z z<|Wx z (fun hcm=>?_) (fun hcm=>?_)
  ·refine Wq (Wd (X:=noX) 1536 (pl_ 11 [9,10]) mo (by kernel_rfl) fun aI sa _=>dM z z z<|dR z z (fd N_ z)<|dR z z (l0 A_ z<|((a4.e s8).e sa).at z)<|dM z z z<|dR z z (inc_ hkl (lt_ (repS.len O) D_) z z) ?_);obtain ⟨_,aJ,ak⟩:=bdS<|ifT a2 hcm;have hn:=a7.e sa;refine dRX z z (at_ (α:=Int) x_ z_3 z z z (a0.g hn) aJ) ?_;rintro _ ⟨_,_,_,rfl,aK,aL,_⟩;obtain ⟨rfl,aM⟩:=O_ aL;refine dR z z (l0 g_3 z<|aK.at0 z)<|dR z z (fd c_r z)<|dR z z (l0 g_3 z<|((hj.e s8).e sa).at z) ?_
   obtain ⟨a8,_,aN,al⟩:=a_3 ak;refine dE z z (fc call100 z<|aq.run (B:=B) aN ((((hi.e h2).c h3<|djs<|mm1 (Blk.lt hB1) hd).e s8).e sa) (zt' V<|lt_ (lt_ (lt_ (lt_ hd h2.s) h3.s) s8.s) sa.s) hBg (W.g hn) (Y.g hn) hh aM hw) (.inl z) ?_;rintro _ aO ⟨a9,rfl,aP,aQ,aR,aS⟩;have ho:=mm1 (Blk.lt hB1) h1.s;refine dE0 z (fs0 (cur':=[vI a8.at_,vI a8.code]) E_ z z ((((((L.c G<|atp ho).e h2).c h3<|djs<|mm1 L.lt G.s).e s8).e sa).c a9<|atp ho) z z z z) (.inl z) ?_;rintro _ aT ⟨aU,aV⟩;have aa:=aV.one;refine pD<|Wo ?_
   exact Wr<|rtO<|qL (som al).symm<|d_ hr (q_ a_g E_ z aU z) ⟨(cM (cM (h_ (h_ (cM (h_ (cM (h_ (h_ (cr [g1] w0) h1:Chg (· ∈ [g1]) w0 H) h6:Chg (· ∈ [g1]) w0 wc) G (io sr):Chg (· ∈ [g1]) w0 I) h2:Chg (· ∈ [g1]) w0 wf) h3 (mor hd:∀k∈[I.z],k∈[g1]∨w0.z<=k):Chg (· ∈ [g1]) w0 J) s8:Chg (· ∈ [g1]) w0 aE) sa:Chg (· ∈ [g1]) w0 aI) a9 (io sr):Chg (· ∈ [g1]) w0 aO) aa (mor h1.s:∀k∈[H.z],k∈[g1]∨w0.z<=k):Chg (· ∈ [g1]) w0 aT),z,aP,aQ,aR,aS.c aa<|djs ho⟩
  exact Wk<|Wg<|R z (inc_ hkl (lt_ (repS.len O) D_) z z)<|Rm z<|Wl (fun _ q=>⟨(),(som<|ifF a2 hcm).symm,⟨q.k<|s9 z z z z z z z z z,s8⟩⟩)
 ·rintro _ _ _ ⟨am,aW⟩;refine Wu ?_ am;refine Ws<|Rl z z z<|Wn<|Wq<|Wc z (fun hc=>(W_ hc).elim) (fun _=>?_)
  exact We<|fun _ q=>⟨rfl,⟨q.k<|s2 z z,aW⟩⟩
 ·rintro _ aX aY rfl ⟨_,sp⟩;have an:=elL hms;revert aX;refine Wo<|Wm z<|R z (bP (parts:=[(0,.tmp 47),(1,.const<|.int .i64 3)]) (cs:=[vI x3,vI 3]) c_c z z) ?_
  have ab:=mm1 (Blk.lt hB1) h1.s;refine E0 (fs0 (cur':=[vI x3,vI 3]) E_ z z ((((L.c G<|atp ab).e h2).c h3<|djs<|mm1 L.lt G.s).e sp) z z z z) ?_;rintro _ aZ ⟨b0,b1⟩;have ad:=b1.one;refine Wn ?_;obtain rfl:=som an;exact Wr<|d_ hr (q_ a_g E_ z b0 z) ⟨(cM (h_ (cM (h_ (cM (h_ (h_ (cr [g1] w0) h1:Chg (· ∈ [g1]) w0 H) h6:Chg (· ∈ [g1]) w0 wc) G (io sr):Chg (· ∈ [g1]) w0 I) h2:Chg (· ∈ [g1]) w0 wf) h3 (mor hd:∀k∈[I.z],k∈[g1]∨w0.z<=k):Chg (· ∈ [g1]) w0 J) sp:Chg (· ∈ [g1]) w0 aY) ad (mor h1.s:∀k∈[H.z],k∈[g1]∨w0.z<=k):Chg (· ∈ [g1]) w0 aZ),z,a1,ii z,hh,(((hi.e h2).c h3<|djs<|mm1 (Blk.lt hB1) hd).e sp).c ad<|djs ab⟩
 rintro _ _ _ _ rfl ⟨rfl,ao⟩;have ap:=elR hms;obtain rfl:=som ap;exact ⟨ao,z⟩
theorem T_w1x (ih:e_X n):j_P (h_n n<|a_y n):=by
 obtain ⟨af,_,_,_,_⟩:=ih
 constructor
 intro A0 A1 A3 A4 A2 A5 N0 C0 N1 C1 g1 N3 C3 N4 C4 N2 C2 N5 C5 B x1 x2 x3 res w0 hm hB1 V hBg a0 W Y aP aQ aR aS aT aU a9 a1;unfold h_n at hm
 refine goG func139 z z z fun fn hr=>Ws<|E z (fb z) ?_
 rintro _ J ⟨rfl,hq⟩;have h5:=hq.below;have ht:Blk J w0.z (vR x2 A3 N3 C3 A4 N4 C4 A2 N2 C2 A5 N5 C5):=hq.blk;refine E z (fa b_k) ?_;rintro _ we ⟨rfl,hu⟩;have L:=hu.below;have hc:Blk we J.z [vI 0,vI 0]:=hu.blk;refine Wn<|Wm z<|Rm z ?_
 have hf:=(hB1.e h5).e L;have hg:=(h5.ag B).e L;have hh:=lt_ h5.s L.s;obtain ⟨O,ah,aa⟩:=bdS hm;refine E z (fc call136 z<|g_6 (B:=w0.z) ah (a_p hh) (repS.mono (a0.g hg) V) (repS.mono (W.g hg) V) Y (hf.row 0 3 z) (Blk.lt hB1) a1<|ii z) ?_;rintro _ I ⟨G,rfl,hv,ai⟩;refine E z (fa b_k) ?_;rintro _ wi ⟨rfl,hw⟩;have h2:=hw.below;refine E0 (fs0 (cur':=[vI O.at_,vI O.code]) E_ z z (hw.blk:Blk wi I.z [vI 0,vI 0]) z z z z) ?_;rintro _ wa ⟨hj,aj⟩;have h3:=aj.one;refine Wn<|Wq<|Wb<|Wq ?_
 obtain ⟨ak,hur,hms⟩:=bdS aa;refine Wt (fun a w=>∃(xk:Bool),xk=ak/\Sat 45 [(0,pt g1),(2,vI x3),(4,pt w0.z),(6,pt J.z),(7,pt I.z),(11,vB xk)] a/\Below wa.z wa w) ?_ ?_
 ·refine Wg<|Rf z c_N z<|R z (l0 g_3 z<|hj.at z)<|R z (nq z z)<|Rm z ?_
  rcases bs (O.code != 0) with H | H
  ·iterate 8 refine Nh z H ?_
   exact R z (pT z H z)<|Ra z<|Wl (fun _ q=>⟨true,som<|ifT hur H,q.k<|s6 z z z z z z,br wa⟩)
  refine Rh z H (mv z)<|Rh z H (B_ z)<|Rh z H (fd d_c z) ?_
  have hx:=lt_ hh G.s;refine Rh z H (l0 R_ z<|(((hf.e G).e h2).c h3<|djs<|mm1 (Blk.lt hB1) hx).at z)<|Rh z H (mv z) ?_
  obtain ⟨al,am,ab⟩:=bdS<|ifF hur H;refine RXg z z H z (at_ (α:=UInt8) o_ z_5 z z z (W.g<|((hg.e G).e h2).c h3<|g_ (or0 (f_ lr) (t_<|zt' V hx):∀k∈[I.z],¬B k)) am) ?_;rintro _ ⟨_,_,_,rfl,an,ao,_⟩;obtain rfl:=u8 ao;exact Rh z H (l0 g_5 z<|an.at0 z)<|Rh z H (eql z z)<|R z (pF z H z)<|Ra z<|Wl (fun _ q=>⟨(byteI al)==(byteI (0:UInt8)),som ab,q.k<|s6 z z z z z z,br wa⟩)
 rintro ap wl ⟨xk,rfl,_,s4⟩;revert ap;refine Wo<|Wc z (fun hcm=>?_) (fun hcm=>?_)
 ·refine Ws<|R z (lN (vs:=[vI O.at_,vI O.code]) a_g E_ z z fid<|(hj.e s4).row 0 2 z)<|E0 (fs0 (cur':=[vI O.at_,vI O.code]) E_ z z ((((hc.e G).e h2).c h3<|djs<|mm1 hc.lt G.s).e s4) z z z z) ?_
  rintro _ aq ⟨ar,au⟩;have hy:=au.one;refine Wn ?_;obtain rfl:=som<|ifT hms hcm;have hz:=lt_ hh G.s;exact Wr<|rtO<|d_ hr (q_ a_g E_ z ar z) ⟨(cM (h_ (cM (h_ (h_ (h_ (h_ (cr [g1] w0) h5:Chg (· ∈ [g1]) w0 J) L:Chg (· ∈ [g1]) w0 we) G:Chg (· ∈ [g1]) w0 I) h2:Chg (· ∈ [g1]) w0 wi) h3 (mor hz:∀k∈[I.z],k∈[g1]∨w0.z<=k):Chg (· ∈ [g1]) w0 wa) s4:Chg (· ∈ [g1]) w0 wl) hy (mor h5.s:∀k∈[J.z],k∈[g1]∨w0.z<=k):Chg (· ∈ [g1]) w0 aq),z,hv,ai,Y,((((hf.e G).e h2).c h3<|djs<|mm1 (Blk.lt hB1) hz).e s4).c hy<|djs<|mm1 (Blk.lt hB1) h5.s⟩
 refine Wm z<|R z (B_ z)<|Rf z d_c z ?_
 have hd:=lt_ hh G.s;have hn:=(((hf.e G).e h2).c h3<|djs<|mm1 (Blk.lt hB1) hd).e s4;refine R z (l0 R_ z<|hn.at z)<|Rm z ?_
 obtain ⟨_,av,a2⟩:=bdS<|ifF hms hcm;have a3:=(((hg.e G).e h2).c h3<|g_ (or0 (f_ lr) (t_<|zt' V hd):∀k∈[I.z],¬B k)).e s4;refine RX z (at_ (α:=UInt8) o_ z_5 z z z (W.g a3) av) ?_;rintro _ ⟨_,_,_,rfl,aw,ax,_⟩;obtain rfl:=u8 ax;refine R z (l0 g_5 z<|aw.at0 z)<|R z (a_i z z)<|Rw z<|Wc z (fun hco=>?_) (fun hco=>?_)
 ·refine Wm z<|R z (bP (parts:=[(0,.tmp 35),(1,.const<|.int .i64 4)]) (cs:=[vI x3,vI 4]) c_c z z)<|E0 (fs0 (cur':=[vI x3,vI 4]) E_ z z ((((hc.e G).e h2).c h3<|djs<|mm1 hc.lt G.s).e s4) z z z z) ?_
  rintro _ ay ⟨az,aA⟩;have a4:=aA.one;refine Wn ?_;obtain rfl:=som<|ifT a2 hco;exact Wr<|rtO<|d_ hr (q_ a_g E_ z az z) ⟨(cM (h_ (cM (h_ (h_ (h_ (h_ (cr [g1] w0) h5:Chg (· ∈ [g1]) w0 J) L:Chg (· ∈ [g1]) w0 we) G:Chg (· ∈ [g1]) w0 I) h2:Chg (· ∈ [g1]) w0 wi) h3 (mor hd:∀k∈[I.z],k∈[g1]∨w0.z<=k):Chg (· ∈ [g1]) w0 wa) s4:Chg (· ∈ [g1]) w0 wl) a4 (mor h5.s:∀k∈[J.z],k∈[g1]∨w0.z<=k):Chg (· ∈ [g1]) w0 ay),z,a1,ii z,Y,hn.c a4<|djs<|mm1 (Blk.lt hB1) h5.s⟩
 refine Wk<|Wq (Wd (X:=noX) 384 (pl_ 9 [7,8]) mo (by kernel_rfl) fun aB sb _=>dM z z z<|dR z z (fd N_ z)<|dR z z (l0 A_ z<|((((((ht.e L).e G).e h2).c h3<|djs<|mm1 ht.lt<|lt_ L.s G.s).e s4).e sb).at z) ?_)
 obtain ⟨_,aC,ad⟩:=bdS<|ifF a2 hco;have hp:=a3.e sb;refine dRX z z (at_ (α:=Int) x_ z_3 z z z (a9.g hp) aC) ?_;rintro _ ⟨_,_,_,rfl,aD,aE,_⟩;obtain ⟨rfl,aF⟩:=O_ aE;refine dR z z (l0 g_3 z<|aD.at0 z)<|dR z z (fd c_r z)<|dR z z (l0 g_3 z<|((hj.e s4).e sb).at z) ?_
 obtain ⟨a5,_,aG,ae⟩:=a_3 ad;refine dE z z (fc call100 z<|af.run (B:=B) aG (hn.e sb) (zt' V<|lt_ (lt_ (lt_ (lt_ hd h2.s) h3.s) s4.s) sb.s) hBg (a0.g hp) (W.g hp) Y aF hv) (.inl z) ?_;rintro _ aH ⟨a6,rfl,aI,aJ,aK,aL⟩;have a7:=mm1 (Blk.lt hB1) h5.s;refine dE0 z (fs0 (cur':=[vI a5.at_,vI a5.code]) E_ z z ((((((hc.e G).e h2).c h3<|djs<|mm1 hc.lt G.s).e s4).e sb).c a6<|atp a7) z z z z) (.inl z) ?_;rintro _ aM ⟨aN,aO⟩;have a8:=aO.one;refine pD<|Wo ?_
 obtain rfl:=som ae;exact Wr<|d_ hr (q_ a_g E_ z aN z) ⟨(cM (cM (h_ (h_ (cM (h_ (h_ (h_ (h_ (cr [g1] w0) h5:Chg (· ∈ [g1]) w0 J) L:Chg (· ∈ [g1]) w0 we) G:Chg (· ∈ [g1]) w0 I) h2:Chg (· ∈ [g1]) w0 wi) h3 (mor hd:∀k∈[I.z],k∈[g1]∨w0.z<=k):Chg (· ∈ [g1]) w0 wa) s4:Chg (· ∈ [g1]) w0 wl) sb:Chg (· ∈ [g1]) w0 aB) a6 (io sr):Chg (· ∈ [g1]) w0 aH) a8 (mor h5.s:∀k∈[J.z],k∈[g1]∨w0.z<=k):Chg (· ∈ [g1]) w0 aM),z,aI,aJ,aK,aL.c a8<|djs a7⟩
theorem T_w1y (ih:e_X n):j_Q (h_o n<|a_y n):=by
 obtain ⟨aw,_,_,_,_⟩:=ih
 constructor
 intro A0 A1 A3 A4 A2 A5 N0 C0 N1 C1 g1 N3 C3 N4 C4 N2 C2 N5 C5 B x1 x2 x3 res w0 hm hB1 L hBg V O am b2 b3 b4 b5 b6 b7 an ao;unfold h_o at hm
 refine goG func140 z z z fun fn hr=>Ws<|E z (fb z) ?_
 rintro _ I ⟨rfl,a1⟩;have h4:=a1.below;refine E z (fa b_k) ?_;rintro _ wj ⟨rfl,a2⟩;have hd:=a2.below;have ha:Blk wj I.z [vI 0,vI 0]:=a2.blk;refine Wn<|Wm z<|Rf z N_ z<|R z (l0 A_ z<|((a1.blk:Blk I w0.z (vR x2 A3 N3 C3 A4 N4 C4 A2 N2 C2 A5 N5 C5)).e hd).at z) ?_
 obtain ⟨_,ax,ap⟩:=bdS hm;have hk:=(h4.ag B).e hd;refine RX z (at_ (α:=Int) x_ z_3 z z z (an.g hk) ax) ?_;rintro _ ⟨_,_,_,rfl,ay,az,_⟩;obtain ⟨rfl,aA⟩:=O_ az;refine R z (l0 g_3 z<|ay.at0 z)<|Rm z ?_
 have hq:=lt_ h4.s hd.s;obtain ⟨rb,_,aB,W⟩:=a_3 ap;refine E z (fc call100 z<|aw.run (B:=B) aB ((hB1.e h4).e hd) (zt' L hq) hBg (V.g hk) (O.g hk) am aA ao) ?_;rintro _ J ⟨s2,rfl,ht,aC,hl,a3⟩;refine E z (fa b_k) ?_;rintro _ wm ⟨rfl,a4⟩;have h5:=a4.below;have hu:Blk wm J.z [vI 0,vI 0]:=a4.blk;refine E0 (fs0 (cur':=[vI rb.at_,vI rb.code]) E_ z z hu z z z z) ?_;rintro _ wr ⟨hh,aD⟩;have h3:=aD.one;refine Wn<|Wq<|Ws<|Rf z c_N z<|R z (l0 g_3 z<|hh.at z)<|R z (nq z z)<|Wx z (fun hcs=>?_) (fun hcs=>?_)
 ·refine Ws<|R z (lN (vs:=[vI rb.at_,vI rb.code]) a_g E_ z z fid<|hh.row 0 2 z) ?_
  have a5:=mm1 (Blk.lt hB1) h4.s;refine E0 (fs0 (cur':=[vI rb.at_,vI rb.code]) E_ z z (((ha.c s2<|atp a5).e h5).c h3<|djs<|mm1 ha.lt s2.s) z z z z) ?_;rintro _ aE ⟨aF,aG⟩;have a6:=aG.one;refine Wn ?_;obtain rfl:=som<|ifT W hcs;have a7:=lt_ hq s2.s;exact Wr<|d_ hr (q_ a_g E_ z aF z) ⟨(cM (cM (h_ (cM (h_ (h_ (cr [g1] w0) h4:Chg (· ∈ [g1]) w0 I) hd:Chg (· ∈ [g1]) w0 wj) s2 (io sr):Chg (· ∈ [g1]) w0 J) h5:Chg (· ∈ [g1]) w0 wm) h3 (mor a7:∀k∈[J.z],k∈[g1]∨w0.z<=k):Chg (· ∈ [g1]) w0 wr) a6 (mor h4.s:∀k∈[I.z],k∈[g1]∨w0.z<=k):Chg (· ∈ [g1]) w0 aE),z,ht,aC,hl,((a3.e h5).c h3<|djs<|mm1 (Blk.lt hB1) a7).c a6<|djs a5⟩
 refine Wk<|Wm z<|Rf z c_r z<|R z (l0 g_3 z<|hh.at z) ?_
 have hi:=lt_ hq s2.s;have hn:=(a3.e h5).c h3<|djs<|mm1 (Blk.lt hB1) hi
 have hv:=((hk.c s2<|g_<|f_ hBg).e h5).c h3<|g_ (or0 (f_ lr) (t_<|zt' L hi):∀k∈[J.z],¬B k)
 have ho:=lt_ (lt_ hi h5.s) h3.s;obtain ⟨re,aH,aq⟩:=bdS<|ifF W hcs;refine E z (fc call136 z<|g_6 (B:=w0.z) aH (a_p ho) (repS.mono (V.g hv) L) (repS.mono (O.g hv) L) hl (hn.row 0 3 z) (Blk.lt hB1) ht<|ii z) ?_;rintro _ wf ⟨s1,rfl,aI,aJ⟩;refine E z (fa b_k) ?_;rintro _ ww ⟨rfl,a8⟩;have h6:=a8.below;refine E0 (fs0 (cur':=[vI re.at_,vI re.code]) E_ z z (a8.blk:Blk ww wf.z [vI 0,vI 0]) z z z z) ?_;rintro _ wp ⟨a9,aK⟩;have H:=aK.one;refine Wn<|Wq<|Wq ?_
 obtain ⟨aL,Y,a0⟩:=bdS aq;refine Wt (fun a w=>∃(xx:Bool),xx=aL/\Sat 52 [(6,pt I.z),(7,pt J.z),(8,pt wf.z),(47,vB xx)] a/\Below wp.z wp w) ?_ ?_
 ·refine Wd (X:=noX) 0 (pl_ 24 [21]) mo (by kernel_rfl) fun b8 sg _=>dR z z (fd c_N z)<|dR z z (l0 g_3 z<|(a9.e sg).at z)<|dR z z (eql z z)<|dM z z z ?_
  rcases bs (re.code==0) with G | G
  ·refine dRg z z z G z (mv z)<|dRg z z z G z (B_ z)<|dRg z z z G z (fd d_c z) ?_
   have hy:=lt_ ho s1.s;have aa:=(((hn.e s1).e h6).c H<|djs<|mm1 (Blk.lt hB1) hy).e sg;refine dRg z z z G z (l0 R_ z<|aa.at z)<|dRg z z z G z (fd c_r z) ?_
   have ab:=(((hh.e s1).e h6).c H<|djs<|mm1 hu.lt<|lt_ h3.s s1.s).e sg;refine dRg z z z G z (l0 g_3 z<|ab.at z) ?_;obtain ⟨aM,aN,ar⟩:=bdS<|ifT Y G;have ad:=O.g<|(((hv.e s1).e h6).c H<|g_ (or0 (f_ lr) (t_<|zt' L hy):∀k∈[wf.z],¬B k)).e sg
   refine b_M z z z G z (at_ (α:=UInt8) o_ z_5 z z z ad aN) ?_;rintro _ ⟨_,_,_,rfl,aO,aP,_⟩;obtain rfl:=u8 aP;refine dRg z z z G z (l0 g_5 z<|aO.at0 z)<|dRg z z z G z (c_e d_5 d_3 z)<|dRg z z z G z (mv z)<|dRg z z z G z (B_ z)<|dRg z z z G z (fd d_c z)<|dRg z z z G z (l0 R_ z<|aa.at z)<|dRg z z z G z (mv z)<|dRg z z z G z (fd c_r z)<|dRg z z z G z (l0 g_3 z<|ab.at z) ?_
   obtain ⟨_,aQ,au⟩:=bdS ar;refine b_M z z z G z (rX o_ z_5 z z ad z z aQ) ?_;rintro _ ⟨_,_,_,rfl,aR⟩;obtain ⟨aS,aT,av⟩:=bdS au;refine dEg z z z G z (fc call144 z<|W_w1n aT (zt' L<|lt_ (lt_ (lt_ hy h6.s) H.s) sg.s) aR) (.inr fun _ _ h=>l_<|h.1) ?_;rintro _ _ ⟨aU,rfl,_⟩;exact dRg z z z G z (nq z z)<|dR z z (pT z G z)<|pD (fun _ q=>⟨(byteI aM) != aS,som av,q.k<|s4 z z z z,bup sg aU⟩)
  iterate 17 refine dRn z z z G z ?_
  exact dEn z z z G z<|dRn z z z G z<|dR z z (pF z G z)<|pD (fun _ q=>⟨false,som<|ifF Y G,q.k<|s4 z z z z,sg⟩)
 rintro aV ae ⟨xx,rfl,_,sc⟩;revert aV;refine Wo<|Wc z (fun hcz=>?_) (fun hcz=>?_)
 ·refine Ws<|Rf z c_r z<|R z (l0 g_3 z<|((((hh.e s1).e h6).c H<|djs<|mm1 hu.lt<|lt_ h3.s s1.s).e sc).at z)<|R z (bP (parts:=[(0,.tmp 49),(1,.const<|.int .i64 5)]) (cs:=[vI rb.at_,vI 5]) c_c z z) ?_
  have af:=mm1 (Blk.lt hB1) h4.s;refine E0 (fs0 (cur':=[vI rb.at_,vI 5]) E_ z z (((((((ha.c s2<|atp af).e h5).c h3<|djs<|mm1 ha.lt s2.s).e s1).e h6).c H<|djs<|mm1 ha.lt<|lt_ (lt_ (lt_ s2.s h5.s) h3.s) s1.s).e sc) z z z z) ?_;rintro _ aW ⟨aX,aY⟩;have ah:=aY.one;refine Wn ?_;obtain rfl:=som<|ifT a0 hcz;have ai:=lt_ ho s1.s;exact Wr<|d_ hr (q_ a_g E_ z aX z) ⟨(cM (h_ (cM (h_ (h_ (cM (h_ (cM (h_ (h_ (cr [g1] w0) h4:Chg (· ∈ [g1]) w0 I) hd:Chg (· ∈ [g1]) w0 wj) s2 (io sr):Chg (· ∈ [g1]) w0 J) h5:Chg (· ∈ [g1]) w0 wm) h3 (mor hi:∀k∈[J.z],k∈[g1]∨w0.z<=k):Chg (· ∈ [g1]) w0 wr) s1:Chg (· ∈ [g1]) w0 wf) h6:Chg (· ∈ [g1]) w0 ww) H (mor ai:∀k∈[wf.z],k∈[g1]∨w0.z<=k):Chg (· ∈ [g1]) w0 wp) sc:Chg (· ∈ [g1]) w0 ae) ah (mor h4.s:∀k∈[I.z],k∈[g1]∨w0.z<=k):Chg (· ∈ [g1]) w0 aW),z,ht,ii z,hl,((((hn.e s1).e h6).c H<|djs<|mm1 (Blk.lt hB1) ai).e sc).c ah<|djs af⟩
 refine Wk<|Ws<|R z (lN (vs:=[vI re.at_,vI re.code]) a_g E_ z z fid<|(a9.e sc).row 0 2 z) ?_
 have aj:=mm1 (Blk.lt hB1) h4.s;refine E0 (fs0 (cur':=[vI re.at_,vI re.code]) E_ z z (((((((ha.c s2<|atp aj).e h5).c h3<|djs<|mm1 ha.lt s2.s).e s1).e h6).c H<|djs<|mm1 ha.lt<|lt_ (lt_ (lt_ s2.s h5.s) h3.s) s1.s).e sc) z z z z) ?_;rintro _ aZ ⟨b0,b1⟩;have ak:=b1.one;refine Wn ?_;obtain rfl:=som<|ifF a0 hcz;have al:=lt_ ho s1.s;exact Wr<|d_ hr (q_ a_g E_ z b0 z) ⟨(cM (h_ (cM (h_ (h_ (cM (h_ (cM (h_ (h_ (cr [g1] w0) h4:Chg (· ∈ [g1]) w0 I) hd:Chg (· ∈ [g1]) w0 wj) s2 (io sr):Chg (· ∈ [g1]) w0 J) h5:Chg (· ∈ [g1]) w0 wm) h3 (mor hi:∀k∈[J.z],k∈[g1]∨w0.z<=k):Chg (· ∈ [g1]) w0 wr) s1:Chg (· ∈ [g1]) w0 wf) h6:Chg (· ∈ [g1]) w0 ww) H (mor al:∀k∈[wf.z],k∈[g1]∨w0.z<=k):Chg (· ∈ [g1]) w0 wp) sc:Chg (· ∈ [g1]) w0 ae) ak (mor h4.s:∀k∈[I.z],k∈[g1]∨w0.z<=k):Chg (· ∈ [g1]) w0 aZ),z,aI,aJ,hl,((((hn.e s1).e h6).c H<|djs<|mm1 (Blk.lt hB1) al).e sc).c ak<|djs aj⟩
theorem c_R:∀n,e_X n
  | 0=>⟨⟨fun hm=>by intros;exact nomatch (show none=some _ from hm)⟩,⟨fun hm=>by intros;exact nomatch (show none=some _ from hm)⟩,⟨fun hm=>by intros;exact nomatch (show none=some _ from hm)⟩,⟨fun hm=>by intros;exact nomatch (show none=some _ from hm)⟩,⟨fun hm=>by intros;exact nomatch (show none=some _ from hm)⟩⟩
  | n+1=>⟨T_w03<|c_R n,T_w1v<|c_R n,T_w1w<|c_R n,T_w1x<|c_R n,T_w1y<|c_R n⟩
theorem W_w03:j_M (a_y n).impl_checker_value:=(c_R n).1
theorem W_w1v:j_N (a_y n).impl_checker_array:=(c_R n).2.1
theorem W_w1w:j_O (a_y n).impl_checker_choice:=(c_R n).2.2.1
theorem W_w1x:j_P (a_y n).impl_checker_option:=(c_R n).2.2.2.1
theorem W_w1y:j_Q (a_y n).impl_checker_checked:=(c_R n).2.2.2.2
def Q30 (w0:World)(B:Zone)(r:Int×Int)(v:Value)(w':World):Prop:=Bw w0 w'/\un2 (fun G H=>v = .tuple #[vI G,vI H]/\inI G/\inI H) r
theorem W_w1z {x1:b_}{x2:Int}{x3:List UInt8}{x4:Int}{res:Int×Int}(hm:f_K n x1 x2 x3 x4=some res)(J:B<=w0.z)(Y:repS w0 B (sl A0 N0 C0) x1.rules)(a0:inI x2)(a1:repS w0 B (sl A7 N7 C7) x3)(a2:inI x4):i_ prog 75 [(.agg #[sl A0 N0 C0]),vI x2,sl A7 N7 C7,vI x4] w0 (Q30 w0 B res):=by
 unfold f_K at hm
 refine goG func75 z z z fun fn hr=>Ws<|E z (fb z) ?_
 rintro _ O ⟨rfl,hb⟩;have h3:=hb.below;have hc:Blk O w0.z [sl A0 N0 C0]:=hb.blk;refine Ra z<|Rw z<|Wq<|Wq ?_
 obtain ⟨ur,hus,hmd⟩:=bdS hm;refine Wt (fun a w=>∃(V:Bool),V=ur/\Sat 43 [(1,vI x2),(2,sl A7 N7 C7),(3,vI x4),(4,pt w0.z),(30,vB V)] a/\Below O.z O w) ?_ ?_
 ·refine Wg<|R z (lN (vs:=[sl A0 N0 C0]) w_ u_ z z fid<|hc.row 0 1 z)<|Rm z ?_
  obtain ⟨rt,eu,hme⟩:=bdS hus;refine E z (fc call78 z<|g_2 eu (zt' J h3.s) (Y.e h3) a0) ?_;rintro _ _ ⟨s4,rfl⟩;refine R z (not_ z)<|Rm z ?_
  rcases bs (!rt) with H | H
  ·exact Nh z H<|Nh z H<|R z (pT z H z)<|Rm z<|Nh z z<|Nh z z<|Nh z z<|Nh z z<|R z (pT z z z)<|Rm z<|Nh z z<|Nh z z<|Nh z z<|R z (pT z z z)<|Wl (fun _ q=>⟨true,som<|ifT hme H,q.k<|s5 z z z z z,s4⟩)
  have hmf:=ifF hme H;refine Rh z H (mv z)<|Rh z H (lss z z)<|R z (pF z H z)<|Rm z ?_
  rcases bs (decide<|x4<0) with G | G
  ·iterate 4 refine Nh z G ?_
   exact R z (pT z G z)<|Rm z<|Nh z z<|Nh z z<|Nh z z<|R z (pT z z z)<|Wl (fun _ q=>⟨true,som<|ifT hmf G,q.k<|s5 z z z z z,s4⟩)
  have hmg:=ifF hmf G;refine Rh z G (mv z)<|Rh z G (mv z) ?_
  have hh:=a1.g<|(h3.ag B).e s4
  refine Rh z G (lnR o_ z hh)<|Rh z G (a_i z z)<|R z (pF z G z)<|Rm z ?_
  rcases bs (decide<|(x3.length:Int)<x4) with I | I
  ·iterate 3 refine Nh z I ?_
   exact R z (pT z I z)<|Wl (fun _ q=>⟨true,som<|ifT hmg I,q.k<|s5 z z z z z,s4⟩)
  exact Rh z I (mv z)<|Rh z I (lnR o_ z hh)<|Rh z I (a_i z z)<|R z (pF z I z)<|Wl (fun _ q=>⟨decide<|400<(x3.length:Int),som<|ifF hmg I,q.k<|s5 z z z z z,s4⟩)
 rintro av wi ⟨V,rfl,_,s6⟩;revert av;refine Wo<|Wc z (fun L=>?_) (fun L=>?_)
 ·refine Ws<|Ra z<|Rw z ?_
  obtain rfl:=som<|ifT hmd L;exact Wr<|a_4 hr z z ⟨bup h3 s6,z,ii z,ii z⟩
 refine Wk<|Ws<|R z (lN (vs:=[sl A0 N0 C0]) w_ u_ z z fid<|(hc.e s6).row 0 1 z)<|Rm z<|R z (bP (parts:=[(0,.tmp 31),(1,.tmp 32)]) (cs:=[sl A0 N0 C0,sl A7 N7 C7,vI 0]) o_n z z)<|E z (fb z) ?_
 rintro _ ww ⟨rfl,hj⟩;have W:=hj.below;refine Rw z<|Wm z<|RM z z ?_
 have hk:=((h3.ag B).e s6).e W;have ha:=lt_ h3.s s6.s;have hl:=lt_ ha W.s;obtain ⟨rm,_,ez,a3⟩:=a_3<|ifF hmd L;refine E z (fc call100 z<|W_w03.run (B:=B) ez (hj.blk:Blk ww wi.z [sl A0 N0 C0,sl A7 N7 C7,vI 0]) (zt' J hl) (atp (or0 (f_ lr) (t_<|zt' J ha):∀k∈[wi.z],¬B k)) (Y.g hk) (a1.g hk) (ii z) a0 a2) ?_;rintro _ a4 ⟨sn,rfl,a5,a6,_,_⟩;refine E z (fa b_k) ?_;rintro _ a7 ⟨rfl,ho⟩;refine E0 (fs0 (cur':=[vI rm.at_,vI rm.code]) E_ z z (ho.blk:Blk a7 a4.z [vI 0,vI 0]) z z z z) ?_;rintro _ _ ⟨a8,a9⟩;refine Wn<|Wq (Wd (X:=noX) 0 (pl_ 6 []) mo (by kernel_rfl) fun aa sp _=>dR z z (fd c_r z) ?_)
 have hq:=a8.e sp;refine dR z z (l0 g_3 z<|hq.at z)<|dR z z (fd c_N z)<|dR z z (l0 g_3 z<|hq.at z)<|dQ z z z<|dQ z z z<|pD<|Wo ?_
 obtain rfl:=som a3;exact Wr<|a_4 hr z z ⟨bup (bM (bup (bM (bup (bup h3 s6) W) sn<|m1 ha) ho.below) a9.one<|m1<|lt_ hl sn.s) sp,z,a5,a6⟩
theorem W_w36 {x1:Int}{res:Str}(hm:j_f x1=some res)(H:B<=w0.z)(hG:Gl w0 B)(G:inI x1):i_ prog 101 [vI x1] w0 (Q11 w0 B res):=by
 unfold j_f at hm
 refine goG func101 z z z fun fn hr=>Ws<|Rw z<|Wm z ?_
 obtain ⟨_,J,I⟩:=bdS hm;refine E z (fc call141 z<|n_X (B:=B) J H hG G) ?_;rintro _ _ ⟨s2,rfl,h3⟩;refine Rw z ?_
 obtain rfl:=som I;exact Wr<|d_ hr z ⟨s2,z,h3⟩
theorem W_w20 {x1:b_}{x2:Int}{x3:Int}{res:Str}(hm:e_h n x1 x2 x3=some res)(J:B<=w0.z)(hG:Gl w0 B)(W:repS w0 B (sl A0 N0 C0) x1.rules)(ae:inI x2)(af:inI x3):i_ prog 76 [(.agg #[sl A0 N0 C0]),vI x2,vI x3] w0 (Q11 w0 B res):=by
 unfold e_h at hm
 refine goG func76 z z z fun fn hr=>Ws<|E z (fb z) ?_
 rintro _ wb ⟨rfl,hn⟩;have G:=hn.below;have ho:Blk wb w0.z [sl A0 N0 C0]:=hn.blk;refine Rw z<|Wq<|Wq ?_
 obtain ⟨ak,ah,hmp⟩:=bdS hm;refine Wt (fun a w=>∃(xc:Bool),xc=ak/\Sat 58 [(1,vI x2),(2,vI x3),(3,pt w0.z),(15,vB xc)] a/\Below wb.z wb w) ?_ ?_
 ·refine Wg<|R z (lN (vs:=[sl A0 N0 C0]) w_ u_ z z fid<|ho.row 0 1 z)<|Rm z ?_
  obtain ⟨al,am,hmq⟩:=bdS ah;refine E z (fc call78 z<|g_2 am (zt' J G.s) (W.e G) ae) ?_;rintro _ _ ⟨sr,rfl⟩;refine R z (not_ z)<|Rm z ?_
  rcases bs (!al) with I | I
  ·exact Nh z I<|Nh z I<|R z (pT z I z)<|Wl (fun _ q=>⟨true,som<|ifT hmq I,q.k<|s4 z z z z,sr⟩)
  exact Rh z I (mv z)<|Rh z I (lss z z)<|R z (pF z I z)<|Wl (fun _ q=>⟨decide<|x3<0,som<|ifF hmq I,q.k<|s4 z z z z,sr⟩)
 rintro an L ⟨xc,rfl,_,s1⟩;revert an;refine Wo<|Wc z (fun hcd=>?_) (fun hcd=>?_)
 ·refine Ws<|Rw z ?_
  obtain rfl:=som<|ifT hmp hcd;exact Wr<|d_ hr z ⟨bup G s1,z,lb z⟩
 refine Wk<|Ws<|Rf z a_9 z<|R z (l0 a_d z<|(ho.e s1).at z)<|Rm z ?_
 obtain ⟨V,ao,hms⟩:=bdS<|ifF hmp hcd;refine RX z (at_ (α:=e_) a_0 m_ z z z (W.g<|(G.ag B).e s1) ao) ?_;rintro _ ⟨_,_,_,rfl,ap,aq,_⟩;obtain ⟨au,nt,cv,aw,nx,cy,az,a5,a6,a7,a8,a9,rfl,_,_,_,_,aa,_,_⟩:=a_w aq;refine R z (lN (vs:=vR V au nt cv aw nx cy az a5 a6 a7 a8 a9) G_ m_ z z fid ap)<|E z (fa b_l) ?_
 rintro _ ar ⟨rfl,ab⟩;have h2:=ab.below;refine E0 (fs0 (cur':=vR V au nt cv aw nx cy az a5 a6 a7 a8 a9) m_ z z (ab.blk:Blk ar L.z [(Str.v (⟨[]⟩:Str)),vI 0,vI 0,vB false,sl none 0 0,sl none 0 0,sl none 0 0,sl none 0 0]) z z z z) ?_;rintro _ wa ⟨O,av⟩;have h3:=av.one;refine Wn<|Wq<|Wb<|Ws<|Rf z a_e z<|R z (l0 g_3 z<|O.at z)<|Rq z z z<|Rw z<|Wc z (fun hce=>?_) (fun hce=>?_)
 ·refine Wm z ?_
  have hf:=lt_ G.s s1.s;obtain ⟨_,ax,ai⟩:=bdS<|ifT hms hce;refine E z (fc call101 z<|W_w36 ax (zt' J<|lt_ (lt_ hf h2.s) h3.s) ((((hG.e G).e s1).e h2).c h3<|g_ (or0 (f_ lr) (t_<|zt' J hf):∀k∈[L.z],¬B k)) af) ?_;rintro _ _ ⟨ay,rfl,aA⟩;refine Rw z ?_
  obtain rfl:=som ai;exact Wr<|rtO<|d_ hr z ⟨bup (bM (bup (bup G s1) h2) h3<|m1 hf) ay,z,aA⟩
 refine Wq ?_;obtain ⟨aB,Y,a0⟩:=bdS<|ifF hms hce;refine Wt (fun a w=>∃(xg:Bool),xg=aB/\Sat 58 [(2,vI x3),(7,pt L.z),(27,vB xg)] a/\Below wa.z wa w) ?_ ?_
 ·refine Wg<|Rf z a_e z<|R z (l0 g_3 z<|O.at z)<|Rq z z z<|Rm z ?_
  rcases bs (V.kind==6) with H | H
  ·refine Rh z H (mv z)<|Rh z H (fd b_y z)<|Rh z H (l0 a_I z<|O.at z) ?_
   exact Rh z H (lnR T_ z<|aa.g<|(h2.ag B).c h3<|g_ (or0 (f_ lr) (t_<|zt' J<|lt_ G.s s1.s):∀k∈[L.z],¬B k))<|Rh z H (lss z z)<|R z (pT z H z)<|Ra z<|Wl (fun _ q=>⟨decide<|x3<(V.names.length:Int),som<|ifT Y H,q.k<|s3 z z z,br wa⟩)
  iterate 5 refine Nh z H ?_
  exact R z (pF z H z)<|Ra z<|Wl (fun _ q=>⟨false,som<|ifF Y H,q.k<|s3 z z z,br wa⟩)
 rintro aC _ ⟨xg,rfl,_,s6⟩;revert aC;refine Wo<|Wc z (fun hch=>?_) (fun hch=>?_)
 ·refine Ws<|Rf z b_y z<|R z (l0 a_I z<|(O.e s6).at z)<|Rm z ?_
  obtain ⟨_,aD,aj⟩:=bdS<|ifT a0 hch;have ad:=lt_ G.s s1.s;refine RX z (at_ (α:=Str) T_ z_9 z z z (aa.g<|((h2.ag B).c h3<|g_ (or0 (f_ lr) (t_<|zt' J ad):∀k∈[L.z],¬B k)).e s6) aD) ?_;rintro _ ⟨_,_,_,rfl,aE,aF,_⟩;obtain ⟨rfl,aG⟩:=b_2 aF;refine R z (l0 g_9 z<|aE.at0 z)<|Rw z ?_
  obtain rfl:=som aj;exact Wr<|rtO<|d_ hr z ⟨bup (bM (bup (bup G s1) h2) h3<|m1 ad) s6,z,aG⟩
 have a1:=ifF a0 hch;refine Wm z<|R z (a_i z z)<|Rw z<|Wc z (fun hci=>?_) (fun hci=>?_)
 ·refine Ws<|Rw z ?_
  obtain rfl:=som<|ifT a1 hci;exact Wr<|rtO<|d_ hr z ⟨bup (bM (bup (bup G s1) h2) h3<|m1<|lt_ G.s s1.s) s6,z,lb z⟩
 have a2:=ifF a1 hci;refine Ws<|Rf z a_e z ?_
 have hj:=O.e s6;refine R z (l0 g_3 z<|hj.at z)<|Rq z z z<|Rw z<|Wc z (fun hck=>?_) (fun hck=>?_)
 ·refine Ws<|Rw z ?_
  obtain rfl:=som<|ifT a2 hck;exact Wr<|rtO<|d_ hr z ⟨bup (bM (bup (bup G s1) h2) h3<|m1<|lt_ G.s s1.s) s6,z,lb z⟩
 have a3:=ifF a2 hck;refine Ws<|Rf z a_e z<|R z (l0 g_3 z<|hj.at z)<|Rq z z z<|Rw z<|Wc z (fun hcl=>?_) (fun hcl=>?_)
 ·refine Ws<|Rw z ?_
  obtain rfl:=som<|ifT a3 hcl;exact Wr<|rtO<|d_ hr z ⟨bup (bM (bup (bup G s1) h2) h3<|m1<|lt_ G.s s1.s) s6,z,lb z⟩
 have a4:=ifF a3 hcl;refine Ws<|Rf z a_e z<|R z (l0 g_3 z<|hj.at z)<|Rq z z z<|Rw z<|Wc z (fun hcm=>?_) (fun hcm=>?_)
 ·refine Ws<|Rw z ?_
  obtain rfl:=som<|ifT a4 hcm;exact Wr<|rtO<|d_ hr z ⟨bup (bM (bup (bup G s1) h2) h3<|m1<|lt_ G.s s1.s) s6,z,lb z⟩
 refine Wk<|Ws<|Rw z ?_
 obtain rfl:=som<|ifF a4 hcm;exact Wr<|d_ hr z ⟨bup (bM (bup (bup G s1) h2) h3<|m1<|lt_ G.s s1.s) s6,z,lb z⟩
theorem j_R {x1:b_}{x2:Int}{x3:Val}{b3 o3:Nat}{x4:Int}{res:Int}(hm:c_L x1 x2 x3 x4=some res)(aU:B<=w0.z)(O:repS w0 B (sl A0 N0 C0) x1.rules)(aP:inI x2)(aQ:inI x3.number)(aR:repS w0 B (sl AA NA CA) x3.bytes)(aS:repS w0 B (sl AB NB CB) x3.items)(hC3:P_ w0 b3 o3 [vI x3.number,sl AA NA CA,sl AB NB CB])(hC3b:B b3)(aT:inI x4):i_ prog 77 [(.agg #[sl A0 N0 C0]),vI x2,.pointer<|some ⟨b3,o3,none⟩,vI x4] w0 (Q0 w0 B res):=by
 unfold c_L at hm
 refine goG func77 z z z fun fn hr=>Ws<|E z (fb z) ?_
 rintro _ G ⟨rfl,hj⟩;have H:=hj.below;refine Rw z<|Ws<|Rf z a_9 z<|R z (l0 a_d z<|(hj.blk:Blk G w0.z [sl A0 N0 C0]).at z)<|Rm z ?_
 obtain ⟨L,ew,hmk⟩:=bdS hm;refine RX z (at_ (α:=e_) a_0 m_ z z z (O.e H) ew) ?_;rintro _ ⟨bl,om,_,rfl,h2,hx,_⟩;obtain ⟨_,_,_,_,_,_,ay,nz,ah,_,_,_,rfl,_,_,_,_,_,h5,h4⟩:=a_w hx;refine Rw z<|Wq<|Wm z<|R z (B_ z)<|Rf z a_e z<|R z (l0 g_3 z<|h2.at (j:=1) z)<|Wn<|Wb<|Ws<|Rq z z z<|Rw z<|Wc z (fun J=>?_) (fun J=>?_)
 ·refine Wm z<|R z (B_ z)<|Rf z N_ z<|R z (l0 A_ z<|h2.at (j:=7) z) ?_
  obtain ⟨_,ai,V⟩:=bdS<|ifT hmk J;refine RX z (at_ (α:=Int) x_ z_3 z z z h4 ai) ?_;rintro _ ⟨_,_,_,rfl,aj,ak,_⟩;obtain ⟨rfl,al⟩:=O_ ak;refine R z (l0 g_3 z<|aj.at0 z)<|Rw z ?_
  obtain rfl:=som V;exact Wr<|rtO<|d_ hr z ⟨H,z,al⟩
 refine Ws<|Rq z z z<|Rw z ?_
 obtain ⟨am,hun,I⟩:=bdS<|ifF hmk J;refine Wt (fun a w=>Sum.inl ()=am/\Sat 80 [] a/\Below G.z G w) ?_ ?_
 ·refine Wc z (fun hca=>?_)<|fun hca=>?_
  ·have hmo:=ifT hun hca;refine Wm z<|Rm z<|R z (B_ z)<|Rf z N_ z<|R z (l0 A_ z<|h2.at (j:=7) z)<|R z (lnR x_ z h4)<|Rl z z z<|Wx z (fun hcb=>?_) (fun hcb=>?_)
   ·refine Wm z<|R z (B_ z)<|Rf z N_ z<|R z (l0 A_ z<|h2.at (j:=7) z)<|Rm z ?_
    obtain ⟨_,an,W⟩:=bdS<|ifT hmo hcb;refine RX z (at_ (α:=Int) x_ z_3 z z z h4 an) ?_;rintro _ ⟨_,_,_,rfl,ao,ap,_⟩;obtain ⟨rfl,aq⟩:=O_ ap;refine R z (l0 g_3 z<|ao.at0 z)<|Rw z ?_
    obtain rfl:=som W;have Y:=elR I;obtain rfl:=som Y;exact Wr<|rtO<|d_ hr z ⟨H,z,aq⟩
   exact a_k<|fun _ q=>⟨som<|ifF hmo hcb,q.k sn,br G⟩
  refine Ws<|Rq z z z<|Rw z ?_
  obtain ⟨ar,hup,hmc⟩:=bdS<|ifF hun hca;refine Wt (fun a w=>Sum.inl ()=ar/\Sat 80 [] a/\Below G.z G w) ?_ ?_
  ·refine Wc z (fun hcd=>?_)<|fun hcd=>?_
   ·refine Wm z<|R z (B_ z)<|Rf z a_R z<|R z (l0 A_ z<|h2.at (j:=6) z)<|R z (lnR x_ z h5)<|Rm z<|Wn ?_
    obtain ⟨_,a0,hmq⟩:=bdS<|ifT hup hcd;refine Wf (σ:=Unit) (ρ:=Int) (fun (kr:Nat)(_:Unit) a w=>Sat 80 [(2,.pointer<|some ⟨b3,o3,none⟩),(9,.pointer<|some ⟨bl,om,none⟩),(49,sl ay nz ah),(50,vI (L.tags.length:Int)),(51,vI ((kr:Nat):Int))] a/\Below G.z G w) (fun (_:Unit) a w=>Sat 80 [] a/\Below G.z G w) (rQ prog fn<|Q0 w0 B) a0 ?_ ?_ ?_ ?_ ?_
    ·exact fun _ q=>⟨q.k<|s5 z z z z z,br G⟩
    ·rintro kr _ _ _ _ hke ⟨a1,s3⟩ a2;refine Wu ?_ a1;refine Ws<|Rl z z z<|Wn<|Wq<|Wc z (fun _=>?_) (fun hc=>(V_ hke hc).elim)
     refine Wk<|Wq<|Wb<|Wm z ?_
     obtain ⟨_,au,hms⟩:=bdS a2;refine RX z (at_ (α:=Int) x_ z_3 z z z (h5.e s3) au) ?_;rintro _ ⟨_,_,_,rfl,av,aw,_⟩;obtain ⟨rfl,_⟩:=O_ aw;refine R z (l0 g_3 z<|av.at0 z)<|Ra z<|Rw z<|Wm z<|Rm z<|R z (B_ z)<|Rf z b_0 z<|R z (l0 g_3 z<|((hC3.e H).e s3).at (j:=0) z)<|Rq z z z<|Wx z (fun hcf=>?_) (fun hcf=>?_)
     ·refine Wm z<|R z (B_ z)<|Rf z N_ z<|R z (l0 A_ z<|(h2.e s3).at (j:=7) z)<|Rm z<|R z (inc_ hke (lt_ (repS.len h5) D_) z z) ?_
      obtain ⟨_,ax,a3⟩:=bdS<|ifT hms hcf;refine RX z (at_ (α:=Int) x_ z_3 z z z (h4.e s3) ax) ?_;rintro _ ⟨_,_,_,rfl,az,aA,_⟩;obtain ⟨rfl,aB⟩:=O_ aA;exact R z (l0 g_3 z<|az.at0 z)<|Rw z<|Wr<|rtO<|qL (som a3).symm<|d_ hr z ⟨bup H s3,z,aB⟩
     exact Wk<|Wg<|R z (inc_ hke (lt_ (repS.len h5) D_) z z)<|Rm z<|Wl (fun _ q=>⟨(),(som<|ifF hms hcf).symm,⟨q.k<|s5 z z z z z,s3⟩⟩)
    ·rintro _ _ _ ⟨a4,aC⟩;refine Wu ?_ a4;refine Ws<|Rl z z z<|Wn<|Wq<|Wc z (fun hc=>(W_ hc).elim) (fun _=>?_)
     exact We<|fun _ q=>⟨rfl,⟨q.k sn,aC⟩⟩
    ·rintro _ aD _ rfl ⟨_,aE⟩;have a5:=elL hmq;revert aD;exact fun _ q=>⟨som a5,q.k sn,aE⟩
    rintro _ _ _ _ rfl ⟨rfl,a6⟩;have a7:=elR hmq;obtain rfl:=som a7;have a8:=elR hmc;obtain rfl:=som a8;have a9:=elR I;obtain rfl:=som a9;exact ⟨a6,z⟩
   refine Wq<|Ws<|Rq z z z<|Rw z ?_
   obtain ⟨aF,hut,hmu⟩:=bdS<|ifF hup hcd;refine Wt (fun a w=>∃(xg:Bool),xg=aF/\Sat 80 [(9,.pointer<|some ⟨bl,om,none⟩),(71,vB xg)] a/\Below G.z G w) ?_ ?_
   ·refine Wc z (fun hch=>?_)<|fun hch=>?_
    ·exact a_k<|fun _ q=>⟨L.kind==8,som<|ifT hut hch,q.k<|s2 z z,br G⟩
    exact Wg<|Rq z z z<|Ra z<|Wl (fun _ q=>⟨L.kind==9,som<|ifF hut hch,q.k<|s2 z z,br G⟩)
   rintro aG _ ⟨xg,rfl,_,s7⟩;revert aG;refine Wo<|Wc z (fun hci=>?_) (fun hci=>?_)
   ·refine Wm z<|R z (B_ z)<|Rf z N_ z<|R z (l0 A_ z<|(h2.e s7).at (j:=7) z) ?_
    obtain ⟨_,aH,aa⟩:=bdS<|ifT hmu hci;refine RX z (at_ (α:=Int) x_ z_3 z z z (h4.e s7) aH) ?_;rintro _ ⟨_,_,_,rfl,aI,aJ,_⟩;obtain ⟨rfl,aK⟩:=O_ aJ;refine R z (l0 g_3 z<|aI.at0 z)<|Rw z ?_
    obtain rfl:=som aa;have ab:=elR hmc;obtain rfl:=som ab;have ad:=elR I;obtain rfl:=som ad;exact Wr<|rtO<|d_ hr z ⟨bup H s7,z,aK⟩
   exact a_k<|fun _ q=>⟨som<|ifF hmu hci,q.k sn,s7⟩
  rintro aL _ ⟨rfl,_,aM⟩;have ae:=elL hmc;revert aL;exact fun _ q=>⟨som ae,q.k sn,aM⟩
 rintro aN _ ⟨rfl,_,aO⟩;have af:=elL I;revert aN;refine Wo<|Ws<|Rw z ?_
 obtain rfl:=som af;exact Wr<|d_ hr z ⟨bup H aO,z,ii z⟩
def Q31 (w0:World)(g1:Nat)(B:Zone)(A0:Option Addr)(N0 C0:Nat)(A1:Option Addr)(N1 C1:Nat)(AC:Option Addr)(NC CC:Nat)(S1_2:List Nat)(x1:c_V)(r:Int×(List k_))(v:Value)(w':World):Prop:=Chg (· ∈ ([g1]++S1_2)) w0 w'/\un2 (fun G L=>∃H I J S1,(vI G)=v/\inI G/\a_ w' S1 (sl H I J) L/\S1.Nodup/\(∀k∈S1,k∈S1_2∨w0.z<=k)/\Blk w' g1 [sl A0 N0 C0,sl A1 N1 C1,sl H I J]) r
structure j_S (f:c_V->Str->Int->Val->Int->Option (Int×(List k_))):Prop where
  run:∀{A0 A1 AC AI AJ:Option Addr}{N0 C0 N1 C1 NC CC g1 NI CI NJ CJ b4 o4:Nat}{S1_2:List Nat}{B:Zone}{x1:c_V}{x2:Str}{x3:Int}{x4:Val}{x5:Int}{res:Int×(List k_)}{w0:World}(hm:f x1 x2 x3 x4 x5=some res)(hB1:Blk w0 g1 [sl A0 N0 C0,sl A1 N1 C1,sl AC NC CC])(hBw:B<=w0.z)(hBg:¬B g1)(hG:Gl w0 B)(p1_0:repS w0 B (sl A0 N0 C0) x1.d.rules)(p1_1:repS w0 B (sl A1 N1 C1) x1.b)(p1_2:a_ w0 S1_2 (sl AC NC CC) x1.list_)(p1_2n:S1_2.Nodup)(p1_2g:∀k∈S1_2,¬B k)(p1_2d:∀k∈S1_2,k∉[g1])(p2_0:x2.b.length<=LEN)(p3_0:inI x3)(p4_0:inI x4.number)(p4_1:repS w0 B (sl AI NI CI) x4.bytes)(p4_2:repS w0 B (sl AJ NJ CJ) x4.items)(hC4:P_ w0 b4 o4 [vI x4.number,sl AI NI CI,sl AJ NJ CJ])(hC4b:B b4)(p5_0:inI x5),i_ prog 41 [pt g1,Str.v x2,vI x3,.pointer<|some ⟨b4,o4,none⟩,vI x5] w0<|Q31 w0 g1 B A0 N0 C0 A1 N1 C1 AC NC CC S1_2 x1 res
abbrev l_u (n:Nat):Prop:=j_S (e_i n).impl_indexer_part
theorem T_w0f (bD:l_u n):j_S (h_J n<|e_i n):=by
 constructor
 intro A0 A1 AC AI AJ N0 C0 N1 C1 NC CC g1 NI CI NJ CJ b4 o4 S1_2 B x1 x2 x3 x4 x5 res w0 hm hB1 O hBg hG V an ao p1_2n p1_2g p1_2d ap Y ba bb W hC4 hC4b a0;unfold h_J at hm
 refine goG func41 z z z fun fn hr=>Ws<|Rw z<|Wm z<|R z (B_ z)<|Rf z f_X z<|R z (l0 g_37 z<|hB1.at z)<|R z (lnR c_P z<|a_.rep ao)<|Rw z<|Wm z<|Rm z<|R z (B_ z)<|Rf z f_X z<|R z (l0 g_37 z<|hB1.at z)<|RM z z<|Rm z<|R z (bP (parts:=[(0,.tmp 27),(1,.tmp 28),(2,.tmp 29)]) (cs:=[Str.v x2,vI x3,vI x5,vI 0]) c_M z z)<|E z (fS [(.tmp 30)] e_S z z z (b_V z) (lb z)<|lb z) ?_
 rintro _ aw ⟨rfl,a9⟩;have h3:=a9.below;have cP:=d_k a9<|i_4 (x:=(⟨x2,x3,x5,0⟩:k_)) ap Y a0<|ii z
 obtain ⟨_,bE,bc⟩:=bdS hm;refine E z (c_u (α:=k_) e_S bE z z (ao.e h3) p1_2n (a9.blk:Blk aw w0.z [Str.v x2,vI x3,vI x5,vI 0]) (i_4 (x:=(⟨x2,x3,x5,0⟩:k_)) ap Y a0<|ii z) an_ a_x) ?_;rintro _ bF ⟨G,ax,ay,az,rfl,sk,aA,bG,hl⟩;refine R z (B_ z)<|Rf z f_X z<|E0 (fs0 (cur':=[sl A0 N0 C0,sl A1 N1 C1,sl ax ay az]) z_37 z z ((hB1.e h3).c sk<|djs p1_2d) z z z z) ?_
 rintro _ bH ⟨bI,bJ⟩;have hi:=bJ.one;refine Wn<|Wq (Wd (X:=noX) 0 (pl_ 16 [10]) mo (by kernel_rfl) fun bK sf _=>dM z z z<|dR z z (B_ z)<|dR z z (fd f_W z) ?_)
 have aa:=bI.e sf;refine dR z z (lN (vs:=[sl A0 N0 C0]) w_ u_ z z fid<|aa.row 0 1 z)<|dM z z z<|dM z z z<|dR z z (B_ z)<|dR z z (fd f_78_1 z)<|dR z z (l0 R_ z<|aa.at z)<|dM z z z ?_
 have ab:=(((h3.ag B).c sk<|g_ p1_2g).c hi<|g_<|f_ hBg).e sf;have ad:=lt_ (lt_ (lt_ h3.s sk.s) hi.s) sf.s;obtain ⟨rm,_,bL,be⟩:=a_3 bc;refine dE z z (fc call75 z<|W_w1z (B:=B) (x1:=(⟨x1.d.rules⟩:b_)) bL (zt' O ad) (V.g ab) Y (an.g ab) a0) (.inr fun _ _ h=>l_<|h.1) ?_;rintro _ wn ⟨sd,rfl,aB,_⟩;refine dM z z z<|dR z z (ext_ z z)<|dR z z (ext_ z z)<|dQ z z z<|dQ z z z<|pD<|Wo<|Wm z<|Rw z<|Wq<|Wm z<|R z (B_ z)<|Rf z f_W z<|Rf z a_9 z ?_
 have ae:=aa.e sd;refine R z (l0 a_d z<|ae.at z)<|Rm z ?_
 obtain ⟨xr,bM,bf⟩:=bdS be;have af:=ab.e sd;refine RX z (at_ (α:=e_) a_0 m_ z z z (V.g af) bM) ?_;rintro _ ⟨_,_,_,rfl,bN,bO,_⟩;obtain ⟨aC,aD,aE,aF,aG,aH,aI,aJ,aK,aL,aM,aN,rfl,_,_,_,_,_,_,bQ⟩:=a_w bO;refine R z (lN (vs:=vR xr aC aD aE aF aG aH aI aJ aK aL aM aN) G_ m_ z z fid bN)<|E z (fa b_l) ?_
 rintro _ aO ⟨rfl,aP⟩;have h5:=aP.below;refine E0 (fs0 (cur':=vR xr aC aD aE aF aG aH aI aJ aK aL aM aN) m_ z z (aP.blk:Blk aO wn.z [(Str.v (⟨[]⟩:Str)),vI 0,vI 0,vB false,sl none 0 0,sl none 0 0,sl none 0 0,sl none 0 0]) z z z z) ?_;rintro _ ws ⟨aQ,bR⟩;have h6:=bR.one;refine Wn<|Ws<|Rf z a_e z<|R z (l0 g_3 z<|aQ.at z)<|Wn<|Wb<|Wq<|Ws<|Rq z z z<|Rw z ?_
 obtain ⟨bS,aq,bg⟩:=bdS bf;refine Wt (fun a w=>∃(ah:Bool),ah=bS/\Sat 126 [(0,pt g1),(1,Str.v x2),(2,vI x3),(3,.pointer<|some ⟨b4,o4,none⟩),(11,vI (x1.list_.length:Int)),(12,vI rm),(14,vI x5),(15,pt wn.z),(59,vI xr.kind),(60,vB ah)] a/\Below ws.z ws w) ?_ ?_
 ·refine Wc z (fun a5=>?_)<|fun a5=>?_
  ·exact a_k<|fun _ q=>⟨xr.kind==5,som<|ifT aq a5,q.k<|sc z<|sc z<|sc z<|sc z<|sc z<|sc z<|sc z<|sc z<|sc z<|sc z sn,br ws⟩
  exact Wg<|Rq z z z<|Ra z<|Wl (fun _ q=>⟨xr.kind==7,som<|ifF aq a5,q.k<|sc z<|sc z<|sc z<|sc z<|sc z<|sc z<|sc z<|sc z<|sc z<|sc z sn,br ws⟩)
 rintro bT wc ⟨ah,rfl,_,s4⟩;revert bT;refine Wo ?_;obtain ⟨bU,ar,bh⟩:=bdS bg;refine Wt (fun a w=>∃(xy:Int),xy=bU/\Sat 126 [(0,pt g1),(1,Str.v x2),(2,vI x3),(3,.pointer<|some ⟨b4,o4,none⟩),(11,vI (x1.list_.length:Int)),(12,vI rm),(14,vI xy)] a/\Below wc.z wc w/\inI xy) ?_ ?_
 ·refine Wc z (fun a6=>?_)<|fun a6=>?_
  ·refine Wd (X:=noX) 0 (pl_ 15 []) mo (by kernel_rfl) fun cQ su _=>dM z z z<|dM z z z<|dR z z (B_ z)<|dR z z (fd f_W z)<|dR z z (fd a_9 z) ?_
   have aR:=lt_ ad sd.s;refine dR z z (l0 a_d z<|((((ae.e h5).c h6<|djs<|mm1 (Blk.lt hB1) aR).e s4).e su).at z)<|dR z z (fd N_ z)<|dR z z (l0 A_ z<|((aQ.e s4).e su).at z) ?_
   obtain ⟨_,bV,bi⟩:=bdS<|ifT ar a6;have aS:∀k∈[wn.z],¬B k:=or0 (f_ lr)<|t_<|zt' O aR;refine dRX z z (at_ (α:=Int) x_ z_3 z z z (bQ.g<|(((h5.ag B).c h6<|g_ aS).e s4).e su) bV) ?_;rintro _ ⟨_,_,_,rfl,bW,bX,_⟩;obtain ⟨rfl,_⟩:=O_ bX;refine dR z z (l0 g_3 z<|bW.at0 z) ?_;obtain ⟨bY,bZ,bj⟩:=bdS bi;refine dRX z z (at_ (α:=e_) a_0 m_ z z z (V.g<|(((af.e h5).c h6<|g_ aS).e s4).e su) bZ) ?_;rintro _ ⟨_,_,_,rfl,c0,c1,_⟩;obtain ⟨_,_,_,_,_,_,_,_,_,_,_,_,rfl,_,_,_,_,_,_,_⟩:=a_w c1;exact dR z z (fd a_F z)<|dR z z (l0 g_3 z<|c0.at (j:=2) z)<|dR z z (add_ z z)<|dQ z z z<|pD (fun _ q=>⟨j_ x5 bY.size,som bj,q.k<|s7 z z z z z z z,su,iA _ _⟩)
  refine Ws<|Rq z z z<|Rw z ?_
  obtain ⟨c2,au,bk⟩:=bdS<|ifF ar a6;refine Wt (fun a w=>∃(xv:Int),xv=c2/\Sat 126 [(0,pt g1),(1,Str.v x2),(2,vI x3),(3,.pointer<|some ⟨b4,o4,none⟩),(11,vI (x1.list_.length:Int)),(12,vI rm),(14,vI xv)] a/\Below wc.z wc w/\inI xv) ?_ ?_
  ·refine Wc z (fun a8=>?_)<|fun a8=>?_
   ·exact Wg<|Rm z<|R z (add_ z z)<|Ra z<|Wl (fun _ q=>⟨j_ x5 1,som<|ifT au a8,q.k<|s7 z z z z z z z,br wc,iA _ _⟩)
   exact a_k<|fun _ q=>⟨x5,som<|ifF au a8,q.k<|s7 z z z z z z z,br wc,a0⟩
  rintro c3 _ ⟨xv,rfl,_,c4,c5⟩;revert c3;exact fun _ q=>⟨xv,som bk,q.k<|s7 z z z z z z z,c4,c5⟩
 rintro c6 H ⟨xy,rfl,_,sg,c7⟩;revert c6;refine Wo<|Wq<|Wm z<|R z (B_ z)<|Rf z Z_ z ?_
 have hw:=lt_ ad sd.s;have ai:∀k∈[wn.z],¬B k:=or0 (f_ lr)<|t_<|zt' O hw;have aT:=((((((((hC4.e h3).c sk<|(g_ p1_2g) _ hC4b).c hi<|(g_<|f_ hBg) _ hC4b).e sf).e sd).e h5).c h6<|(g_ ai) _ hC4b).e s4).e sg;refine R z (l0 a_2 z<|aT.at (j:=2) z) ?_;have aU:=(((af.e h5).c h6<|g_ ai).e s4).e sg;refine R z (lnR a_a z<|W.g aU)<|Rm z<|Wn ?_
 obtain ⟨_,bm,av⟩:=bdS bh;refine Wf (σ:=Int×(List k_)) (ρ:=Int×(List k_)) (fun (aV:Nat) s a w=>un2 (fun xj xo=>∃I J L S1,Sat 126 [(0,pt g1),(1,Str.v x2),(2,vI x3),(3,.pointer<|some ⟨b4,o4,none⟩),(11,vI (x1.list_.length:Int)),(12,vI rm),(14,vI xj),(85,vI (x4.items.length:Int)),(86,vI ((aV:Nat):Int))] a/\Chg (· ∈ ([g1]++G)) H w/\inI xj/\a_ w S1 (sl I J L) xo/\S1.Nodup/\(∀k∈S1,k∈G∨H.z<=k)/\Blk w g1 [sl A0 N0 C0,sl A1 N1 C1,sl I J L]) s) (fun s a w=>un2 (fun xj xo=>∃I J L S1,Sat 126 [(0,pt g1),(11,vI (x1.list_.length:Int)),(12,vI rm)] a/\Chg (· ∈ ([g1]++G)) H w/\inI xj/\a_ w S1 (sl I J L) xo/\S1.Nodup/\(∀k∈S1,k∈G∨H.z<=k)/\Blk w g1 [sl A0 N0 C0,sl A1 N1 C1,sl I J L]) s) (rQ prog fn<|Q31 w0 g1 B A0 N0 C0 A1 N1 C1 AC NC CC S1_2 x1) bm ?_ ?_ ?_ ?_ ?_
 ·have c8:∀k∈G,k∉[g1]:=or2 hl p1_2d an_<|a_f (f_<|Blk.lt hB1) h3.s;exact fun _ q=>⟨ax,ay,az,G,q.k<|s9 z z z z z z z z z,cr ([g1]++G) H,c7,((((((aA.c hi c8).e sf).e sd).e h5).c h6<|ds<|mno (a_.lt aA)<|lt_ (lt_ hi.s sf.s) sd.s).e s4).e sg,bG,io sr,(((ae.e h5).c h6<|djs<|mm1 (Blk.lt hB1) hw).e s4).e sg⟩
 ·rintro aV ⟨xj,xo⟩ _ ca _ hkz ⟨I,J,L,S1,bn,sp,a1,hq,hx,ha,ht⟩ bo;refine Wu ?_ bn;refine Ws<|Rl z z z<|Wn<|Wq<|Wc z (fun _=>?_) (fun hc=>(V_ hkz hc).elim)
  refine Wk<|Wq<|Wb<|Wm z<|Ra z<|Wn (Wd (X:=noX) 67108864 (.rd 0<|.rd 1<|.rd 2<|.rd 3<|.rd 4<|.rd 5<|.rd 6<|.rd 7<|.rd 8<|.rd 11<|.rd 12<|.rd 13<|.rd 14<|.rd 15<|.rd 16<|.rd 17<|.rd 19<|.rd 20<|.rd 21<|.rd 22<|.rd 23<|.rd 24<|.rd 25<|.ef 9<|.rd 10<|.ef 18<|.ef 26<|.rd 27 .done) mo (by kernel_rfl) fun cb sh _=>dM z z z<|dM z z z ?_)
  obtain ⟨_,cc,bp⟩:=bdS<|a_G bo;refine dR z z (f_a z z cc)<|dM z z z<|dR z z (B_ z)<|dR z z (fd f_W z) ?_
  have aj:=ht.e sh;refine dR z z (lN (vs:=[sl A0 N0 C0]) w_ u_ z z fid<|aj.row 0 1 z) ?_
  iterate 3 refine dM z z z ?_
  refine dR z z (B_ z)<|dR z z (fd f_W z)<|dR z z (lN (vs:=[sl A0 N0 C0]) w_ u_ z z fid<|aj.row 0 1 z) ?_
  iterate 4 refine dM z z z ?_
  refine dR z z (B_ z)<|dR z z (fd Z_ z) ?_
  have a2:∀k∈G,¬B k:=or2 hl p1_2g an_<|t_<|zt' O h3.s;have aW:=(aT.c sp<|(nmA (g_<|f_ hBg)<|g_ a2) _ hC4b).e sh;refine dR z z (l0 a_2 z<|aW.at (j:=2) z)<|dM z z z ?_
  obtain ⟨_,cd,bq⟩:=bdS bp;have ak:=(aU.c sp<|nmA (g_<|f_ hBg)<|g_ a2).e sh;refine dRX z z (at_ (α:=Val) a_a c_ z z z (W.g ak) cd) ?_;rintro _ ⟨_,_,_,rfl,ce,cf,cg⟩;obtain ⟨_,_,_,_,_,_,rfl,ch,ci,cj⟩:=b_T cf;refine dM z z z ?_;have aX:=((((((((((hG.e h3).c sk<|g_ p1_2g).c hi<|g_<|f_ hBg).e sf).e sd).e h5).c h6<|g_ ai).e s4).e sg).c sp<|nmA (g_<|f_ hBg)<|g_ a2).e sh;have al:=lt_ (lt_ (lt_ (lt_ hw h5.s) h6.s) s4.s) sg.s;have aY:=lt_ (lt_ al sp.s) sh.s;obtain ⟨_,ck,bs⟩:=bdS bq;refine dE z z (fc call76 z<|W_w20 (B:=B) (x1:=(⟨x1.d.rules⟩:b_)) ck (zt' O aY) aX (V.g ak) Y<|ic (Nat.le_of_lt hkz)<|lt_ (repS.len W) D_) (.inr fun _ _ h=>l_<|h.1) ?_;rintro _ cl ⟨sb,rfl,_⟩;obtain ⟨_,aZ,bt⟩:=bdS bs;refine dR z z (f_a z z aZ) ?_;have a3:=ak.e sb;have b0:=lt_ aY sb.s;obtain ⟨_,cm,bu⟩:=bdS bt;refine dE z z (fc call77 z<|j_R (B:=B) (x1:=(⟨x1.d.rules⟩:b_)) cm (zt' O b0) (V.g a3) Y ba (bb.g a3) (W.g a3) (aW.e sb) hC4b<|ic (Nat.le_of_lt hkz)<|lt_ (repS.len W) D_) (.inr fun _ _ h=>l_<|h.1) ?_;rintro _ cn ⟨se,rfl,co⟩;have b1:=a3.e se;have b2:=(sb.ag B).e se;obtain ⟨cp,cq,ct,bv⟩:=a_3 bu;refine dE z z (fc call41 z<|bD.run (B:=B) ct ((aj.e sb).e se) (zt' O<|lt_ b0 se.s) hBg ((aX.e sb).e se) (V.g b1) (an.g b1) (((hq.e sh).e sb).e se) hx (or1 ha a2 (t_<|zt' O al):∀k∈S1,¬B k) (or1 ha (or2 hl p1_2d an_ (a_f (f_<|Blk.lt hB1) h3.s):∀k∈G,k∉[g1]) (a_f (f_<|Blk.lt hB1) al):∀k∈S1,k∉[g1]) (i_a aZ) co ch (ci.g b2) (cj.g b2) ((ce.e sb).e se) cg a1) (.inl z) ?_;rintro _ cu ⟨cv,cw,cx,cy,b3,rfl,cz,cA,cB,cC,cD⟩;refine dQ z z z<|pD<|Wo<|Wg<|R z (inc_ hkz (lt_ (repS.len W) D_) z z)<|Rm z<|Wl ?_
  exact fun _ q=>⟨(cp,cq),(som bv).symm,⟨cw,cx,cy,b3,q.k<|s9 z z z z z z z z z,(cM (h_ (h_ (h_ (cM (cr ([g1]++G) H) sp (aa_ (io<|a_U sr)<|io<|a_L sr):Chg (· ∈ ([g1]++G)) H ca) sh:Chg (· ∈ ([g1]++G)) H cb) sb:Chg (· ∈ ([g1]++G)) H cl) se:Chg (· ∈ ([g1]++G)) H cn) cv (aa_ (io<|a_U sr) (or1 ha (io<|a_L sr) (M_ lr):∀k∈S1,k∈([g1]++G)∨H.z<=k)):Chg (· ∈ ([g1]++G)) H cu),cz,cA,cB,(or1 cC (or1 ha (io sr) (M_ lr):∀k∈S1,k∈G∨H.z<=k) (M_<|lt_ (lt_ (lt_ sp.s sh.s) sb.s) se.s):∀k∈b3,k∈G∨H.z<=k),cD⟩⟩
 ·rintro ⟨xj,xo⟩ _ cE ⟨I,J,L,S1,bw,cF,a1,hq,hx,ha,ht⟩;refine Wu ?_ bw;refine Ws<|Rl z z z<|Wn<|Wq<|Wc z (fun hc=>(W_ hc).elim) (fun _=>?_)
  exact We<|fun _ q=>⟨rfl,⟨I,J,L,S1,q.k<|s3 z z z,(cM (cr ([g1]++G) H) cF (aa_ (io<|a_U sr)<|io<|a_L sr):Chg (· ∈ ([g1]++G)) H cE),a1,hq,hx,(or1 ha (io sr) (M_ lr):∀k∈S1,k∈G∨H.z<=k),ht⟩⟩
 ·rintro ⟨xj,xo⟩ cG cH rfl ⟨I,J,L,S1,_,b5,a1,hq,hx,ha,ht⟩;have bx:=elL av;revert cG;refine Wo<|Wm z<|R z (B_ z)<|Rf z f_X z<|R z (l0 g_37 z<|ht.at z)<|RM z z ?_
  obtain ⟨am,b6,bz⟩:=bdS<|a_G bx;refine RX z (rd_atQ (α:=k_) c_P a_v z z hq b6) ?_;rintro _ ⟨_,cI,rfl⟩;refine Rf z f_46_3 z ?_;obtain ⟨_,cJ,bA⟩:=bdS bz;refine E0 (p_O (α:=k_) (v':=(⟨am.path,am.rule,am.start,rm⟩:k_)) z_3 z cI z z z z b6 cJ hq hx (lb z)<|fun _ _ _ h=>p_1 h aB) ?_;rintro _ cK ⟨b7,b8,cL,cN,cO⟩;refine Wn<|Wm z<|Rw z ?_
  obtain rfl:=som bA;have b9:∀k∈G,k∈([g1]++S1_2)∨w0.z<=k:=or2 hl (io<|a_L sr) an_<|M_ h3.s;have a4:=lt_ (lt_ (lt_ (lt_ hw h5.s) h6.s) s4.s) sg.s;exact Wr<|d_ hr z ⟨(cM (cM (h_ (h_ (cM (h_ (h_ (h_ (cM (cM (h_ (cr ([g1]++S1_2) w0) h3:Chg (· ∈ ([g1]++S1_2)) w0 aw) sk (io<|a_L sr):Chg (· ∈ ([g1]++S1_2)) w0 bF) hi (io<|a_U sr):Chg (· ∈ ([g1]++S1_2)) w0 bH) sf:Chg (· ∈ ([g1]++S1_2)) w0 bK) sd:Chg (· ∈ ([g1]++S1_2)) w0 wn) h5:Chg (· ∈ ([g1]++S1_2)) w0 aO) h6 (mor hw:∀k∈[wn.z],k∈([g1]++S1_2)∨w0.z<=k):Chg (· ∈ ([g1]++S1_2)) w0 ws) s4:Chg (· ∈ ([g1]++S1_2)) w0 wc) sg:Chg (· ∈ ([g1]++S1_2)) w0 H) b5 (aa_ (io<|a_U sr) b9):Chg (· ∈ ([g1]++S1_2)) w0 cH) b8 (or1 ha b9 (M_ a4):∀k∈S1,k∈([g1]++S1_2)∨w0.z<=k):Chg (· ∈ ([g1]++S1_2)) w0 cK),I,J,L,b7,z,aB,cL,cN,(or1 cO (or1 ha (or2 hl (io sr) an_ (M_ h3.s):∀k∈G,k∈S1_2∨w0.z<=k) (M_ a4):∀k∈S1,k∈S1_2∨w0.z<=k) (M_<|lt_ a4 b5.s):∀k∈b7,k∈S1_2∨w0.z<=k),ht.c b8<|djs (or1 ha (or2 hl p1_2d an_ (a_f (f_<|Blk.lt hB1) h3.s):∀k∈G,k∉[g1]) (a_f (f_<|Blk.lt hB1) a4):∀k∈S1,k∉[g1])⟩
 rintro _ _ _ _ rfl ⟨rfl,bB⟩;have bC:=elR av;obtain rfl:=som bC;exact ⟨bB,z⟩
theorem A_w0f:∀n,l_u n
  | 0=>⟨fun hm=>by intros;exact nomatch (show none=some _ from hm)⟩
  | n+1=>T_w0f<|A_w0f n
theorem W_w0f:j_S (e_i n).impl_indexer_part:=A_w0f n
theorem W_w37 {x1:b_}{x2:List UInt8}{res:(List k_)×Bool}(hm:h_L n x1 x2=some res)(H:B<=w0.z)(hG:Gl w0 B)(I:repS w0 B (sl A0 N0 C0) x1.rules)(V:repS w0 B (sl A6 N6 C6) x2):i_ prog 19 [(.agg #[sl A0 N0 C0]),sl A6 N6 C6] w0 (Q13 w0 B res):=by
 unfold h_L at hm
 refine goG func19 z z z fun fn hr=>Ws<|E z (fb z) ?_
 rintro _ wr ⟨rfl,hc⟩;have h2:=hc.below;have h6:Blk wr w0.z [sl A0 N0 C0]:=hc.blk;refine Ra z<|Rw z<|Ws<|R z (lN (vs:=[sl A0 N0 C0]) w_ u_ z z fid<|h6.row 0 1 z)<|Rm z ?_
 have hd:=hG.e h2;obtain ⟨rs,_,_,ew,hme⟩:=I_ hm;refine E z (fc call20 z<|W_w1u ew (zt' H h2.s) hd (I.e h2)<|V.e h2) ?_;rintro _ wf ⟨s5,ax,ny,cz,_,a0,a1,a2,_,rfl,a3,L,O,_,_,_,_⟩;refine Rm z ?_
 iterate 3 refine Re z z z ?_
 refine E z (fa J_) ?_;rintro _ wg ⟨rfl,hh⟩;have G:=hh.below;have hi:Blk wg wf.z [vI 0,sl none 0 0,sl none 0 0]:=hh.blk;refine E0 (fs0 (cur':=[vI rs.number,sl ax ny cz,sl a0 a1 a2]) c_ z z hi z z z z) ?_;rintro _ wj ⟨a4,a5⟩;have h1:=a5.one;refine Ra z<|Rw z<|Wq<|Wm z<|R z (nq z z)<|Wx z (fun J=>?_) (fun J=>?_)
 ·refine Ws<|E z (f0 (α:=k_) e_S) ?_
  rintro _ _ ⟨a6,a7,a8,rfl,a9,aa⟩;refine Ra z<|Rw z ?_
  obtain rfl:=som<|ifT hme J;have hk:=lt_ h2.s s5.s;exact Wr<|a_4 hr z z ⟨bup (bM (bup (bup h2 s5) G) h1<|m1 hk) a9,a6,a7,a8,[wj.z],z,aa,a_b,m1<|lt_ (lt_ hk G.s) h1.s⟩
 refine Wk<|Ws ?_
 have hl:=((h6.e s5).e G).c h1<|djs<|mm1 h6.lt s5.s
 refine R z (lN (vs:=[sl A0 N0 C0]) w_ u_ z z fid<|hl.row 0 1 z)<|Rm z<|R z (bP (parts:=[(0,.tmp 20),(1,.tmp 21)]) (cs:=[sl A0 N0 C0,sl A6 N6 C6,sl none 0 0]) o_o z z)<|E z (fb z) ?_
 rintro _ ab ⟨rfl,hn⟩;have h3:=hn.below;refine Rw z<|Wm z<|R z (lN (vs:=[sl A0 N0 C0]) w_ u_ z z fid<|(hl.e h3).row 0 1 z) ?_
 have ha:=lt_ h2.s s5.s;have ho:∀k∈[wf.z],¬B k:=or0 (f_ lr)<|t_<|zt' H ha;have hp:=((((h2.ag B).e s5).e G).c h1<|g_ ho).e h3;have hq:=lt_ ha G.s;have ht:=lt_ hq h1.s;have hu:=lt_ ht h3.s;obtain ⟨_,ad,W⟩:=bdS<|ifF hme J;refine E z (fc call42 z<|e_W ad (zt' H hu)<|I.g hp) ?_;rintro _ _ ⟨s4,rfl,ae⟩;have hv:=hp.e s4;have hb:=zt' H hq;obtain ⟨_,_,af,Y⟩:=a_3 W;refine E z (fc call41 z<|W_w0f.run (B:=wg.z) af ((hn.blk:Blk ab wj.z [sl A0 N0 C0,sl A6 N6 C6,sl none 0 0]).e s4) (a_p<|lt_ (lt_ h1.s h3.s) s4.s) (atp<|nbl<|m1 h1.s) ((((((hd.e s5).e G).c h1<|g_ ho).e h3).e s4).mono hb) (repS.mono (I.g hv) hb) (repS.mono (V.g hv) hb) onL a_x (nbl an_) an_ (lb z) ae a3 (repS.mono (or_ ((((L.e G).c h1<|ds<|mnr<|a_.lt L).e h3).e s4)<|a_.lt L)<|a_p G.s) (repS.mono (or_ ((((O.e G).c h1<|ds<|mnr<|a_.lt O).e h3).e s4)<|a_.lt O)<|a_p G.s) (((a4.e h3).e s4).row 0 3 z) hi.lt<|ii z) ?_;rintro _ _ ⟨ah,ai,aj,ak,Sm,rfl,_,al,am,an,ao⟩;refine Wn<|Wm z<|R z (B_ z)<|Rf z f_X z<|R z (l0 g_37 z<|ao.at z)<|Ra z<|Rw z ?_
 obtain rfl:=som Y;exact Wr<|a_4 hr z z ⟨bM (bup (bup (bM (bup (bup h2 s5) G) h1<|m1 ha) h3) s4) ah<|aa_ (m1 ht) an_,ai,aj,ak,Sm,z,al,am,(or1 an an_ (c_3<|lt_ hu s4.s):∀k∈Sm,w0.z<=k)⟩
theorem W_w38 {x1:Str}{x2:UInt8}{res:(List Str)}(hm:f_E x1 x2=some res)(aW:B<=w0.z)(L:x1.b.length<=LEN):i_ prog 149 [Str.v x1,vU<|byteI x2] w0 (Q2 w0 B res):=by
 unfold f_E at hm
 refine goG func149 z z z fun fn hr=>Ws<|Rw z<|Ws<|E z (f0 (α:=Str) b_C) ?_
 rintro _ H ⟨aj,ak,al,rfl,sk,am⟩;refine Rw z<|Ws<|Rw z<|Wq<|Ws<|Rw z ?_
 obtain ⟨_,a3,hmr⟩:=bdS hm;refine Wf (σ:=(List Str)×Int) (ρ:=List Str) (fun (kd:Nat) s a w=>un2 (fun V x5=>∃a2 I J G,Sat 35 [(0,Str.v x1),(1,vU<|byteI x2),(5,sl a2 I J),(6,vI x5),(7,vI ((kd:Nat):Int))] a/\Chg (· ∈ [w0.z]) H w/\a_ w G (sl a2 I J) V/\G.Nodup/\(∀k∈G,k∈[w0.z]∨H.z<=k)/\inI x5) s) (fun s a w=>un2 (fun V x5=>∃a2 I J G,Sat 35 [(0,Str.v x1),(5,sl a2 I J),(6,vI x5)] a/\Chg (· ∈ [w0.z]) H w/\a_ w G (sl a2 I J) V/\G.Nodup/\(∀k∈G,k∈[w0.z]∨H.z<=k)/\inI x5) s) (rQ prog fn<|Q2 w0 B) a3 ?_ ?_ ?_ ?_ ?_
 ·exact fun _ q=>⟨aj,ak,al,[w0.z],q.k<|s5 z z z z z,cr [w0.z] H,am,a_b,io sr,ii z⟩
 ·rintro kd ⟨V,x5⟩ _ O _ hke ⟨a2,I,J,G,a4,ss,W,Y,hb,hf⟩ a5;refine Wu ?_ a4;refine Wq<|Wm z<|Rm z<|R z (lnT d_9 z)<|Rl z z z<|Wx z (fun _=>?_) (fun hc=>(V_ hke hc).elim)
  refine Wk<|Wq<|Wb<|Wm z<|Rm z ?_
  obtain ⟨_,eu,a6⟩:=bdS<|a_G a5;refine R z (c_4 d_9 z z (a_z eu).1 (a_z eu).2.1)<|Rm z<|Rq z z z<|Wn ?_
  obtain ⟨an,huv,a7⟩:=bdS a6;refine Wt (fun a w=>∃(xg:List Str)(xc:Int),(xg,xc)=an/\∃ah ni cj Sa,Sat 35 [(0,Str.v x1),(1,vU<|byteI x2),(5,sl ah ni cj),(6,vI xc),(7,vI ((kd:Nat):Int))] a/\Chg (· ∈ G) O w/\a_ w Sa (sl ah ni cj) xg/\Sa.Nodup/\(∀k∈Sa,k∈G∨O.z<=k)/\inI xc) ?_ ?_
  ·refine Wc z (fun hcl=>?_)<|fun hcl=>?_
   ·refine Wm z<|RM z z<|Rm z ?_
    obtain ⟨ao,em,a8⟩:=bdS<|ifT huv hcl;refine R z (k_i d_9 z z z L em)<|E z (fS [(.tmp 24)] b_C z z z (b_V z) (lb z)<|lb z) ?_
    rintro _ ww ⟨rfl,hn⟩;have ho:=hn.below;have aX:=d_k hn<|c_t<|f_b em L
    obtain ⟨ap,aq,a9⟩:=bdS a8;refine E z (c_u (α:=Str) b_C aq z z (W.e ho) Y (hn.blk:Blk ww O.z [Str.v ao]) (c_t<|f_b em L) an_ a_x) ?_;rintro _ ar ⟨Sx,au,av,aw,rfl,ax,ay,az,aA⟩;refine Rw z<|Wg<|Rm z<|R z (inc_ hke (lt_ L D_) z z)<|Ra z<|Wl ?_
    exact fun _ q=>⟨ap,((kd+1:Nat):Int),som a9,au,av,aw,Sx,q.k<|s5 z z z z z,(cM (h_ (cr G O) ho:Chg (· ∈ G) O ww) ax (io sr):Chg (· ∈ G) O ar),ay,az,(or2 aA (io sr) an_ (M_ ho.s):∀k∈Sx,k∈G∨O.z<=k),ic (Nat.succ_le_of_lt hke)<|lt_ L D_⟩
   exact a_k<|fun _ q=>⟨V,x5,som<|ifF huv hcl,a2,I,J,G,q.k<|s5 z z z z z,cr G O,W,Y,io sr,hf⟩
  rintro aB aC ⟨xg,xc,rfl,ah,ni,cj,Sa,_,aD,aE,aF,aG,aH⟩;revert aB;refine Wo<|Wg<|Rm z<|R z (inc_ hke (lt_ L D_) z z)<|Ra z<|Wl ?_
  have hy:∀k∈G,k∈[w0.z]∨H.z<=k:=or1 hb (io sr)<|M_ lr;exact fun _ q=>⟨(xg,xc),(som<|a_G a7).symm,⟨ah,ni,cj,Sa,q.k<|s5 z z z z z,(cM (cM (cr [w0.z] H) ss (io sr):Chg (· ∈ [w0.z]) H O) aD hy:Chg (· ∈ [w0.z]) H aC),aE,aF,(or1 aG hy (M_ ss.s):∀k∈Sa,k∈[w0.z]∨H.z<=k),aH⟩⟩
 ·rintro ⟨V,x5⟩ _ aI ⟨a2,I,J,G,aa,aJ,W,Y,hb,hf⟩;refine Wu ?_ aa;refine Wq<|Wm z<|Rm z<|R z (lnT d_9 z)<|Rl z z z<|Wx z (fun hc=>(W_ hc).elim) (fun _=>?_)
  exact We<|fun _ q=>⟨rfl,⟨a2,I,J,G,q.k<|s3 z z z,(cM (cr [w0.z] H) aJ (io sr):Chg (· ∈ [w0.z]) H aI),W,Y,(or1 hb (io sr) (M_ lr):∀k∈G,k∈[w0.z]∨H.z<=k),hf⟩⟩
 ·rintro ⟨V,x5⟩ aK aL rfl ⟨a2,I,J,G,_,sz,W,Y,hb,hf⟩;have ab:=elL hmr;revert aK;refine Wo<|Wm z<|RM z z ?_
  obtain ⟨aM,ep,ad⟩:=bdS<|a_G ab;refine R z (k_i d_9 z z z L ep)<|E z (fS [(.tmp 32)] b_C z z z (b_V z) (lb z)<|lb z) ?_
  rintro _ aN ⟨rfl,hq⟩;have ht:=hq.below;have aY:=d_k hq<|c_t<|f_b ep L
  obtain ⟨_,aO,ae⟩:=bdS ad;refine E z (c_u (α:=Str) b_C aO z z (W.e ht) Y (hq.blk:Blk aN aL.z [Str.v aM]) (c_t<|f_b ep L) an_ a_x) ?_;rintro _ _ ⟨a0,aP,aQ,aR,rfl,aS,aT,aU,aV⟩;refine Rw z ?_
  obtain rfl:=som ae;have a1:∀k∈G,w0.z<=k:=or1 hb (f_ lr)<|c_3 sk.s;exact Wr<|d_ hr z ⟨bM (bup (bM sk sz<|f_ lr) ht) aS a1,aP,aQ,aR,a0,z,aT,aU,(or2 aV a1 an_ (c_3<|lt_ (lt_ sk.s sz.s) ht.s):∀k∈a0,w0.z<=k)⟩
 rintro _ _ _ _ rfl ⟨rfl,af⟩;have ai:=elR hmr;obtain rfl:=som ai;exact ⟨af,z⟩
theorem j_T {x1:Str}{res:Int×Bool}(hm:e_b x1=some res)(af:B<=w0.z)(Y:x1.b.length<=LEN):i_ prog 119 [Str.v x1] w0 (Q14 w0 B res):=by
 unfold e_b at hm
 refine goG func119 z z z fun fn hr=>Ws<|Ra z<|Rw z<|Wq<|Wq ?_
 obtain ⟨uv,huf,hmg⟩:=bdS hm;refine Wt (fun a w=>∃(W:Bool),W=uv/\Sat 50 [(0,Str.v x1),(22,vB W)] a/\Below w0.z w0 w) ?_ ?_
 ·refine Wg<|Rm z<|R z (a_V z z)<|Rm z ?_
  rcases bs (x1.b==(⟨[]⟩:Str).b) with I | I
  ·iterate 3 refine Nh z I ?_
   exact R z (pT z I z)<|Rm z<|Nh z z<|Nh z z<|Nh z z<|Nh z z<|Nv z<|Nv z<|Nv z<|Nh z z<|R z (pT z z z)<|Wl (fun _ q=>⟨true,som<|ifT huf I,q.k<|s2 z z,br w0⟩)
  have hmh:=ifF huf I;refine Rh z I (mv z)<|Rh z I (lnT d_9 z)<|Rh z I (a_i z z)<|R z (pF z I z)<|Rm z ?_
  rcases bs (decide<|13<(x1.b.length:Int)) with G | G
  ·iterate 4 refine Nh z G ?_
   exact Nv z<|Nv z<|Nv z<|Nh z G<|R z (pT z G z)<|Wl (fun _ q=>⟨true,som<|ifT hmh G,q.k<|s2 z z,br w0⟩)
  refine Rh z G (mv z) ?_;obtain ⟨xw,ei,hmj⟩:=bdS<|ifF hmh G;refine Rh z G (c_4 d_9 z z (a_z ei).1 (a_z ei).2.1)<|Rh z G (eql z z)<|Rh z G (mv z) ?_
  rcases bs ((byteI xw)==(byteI (48:UInt8))) with J | J
  ·exact Rh z J (mv z)<|Rh z J (lnT d_9 z)<|Rh z J (a_i z z)<|Rh z G (pT z J z)<|R z (pF z G z)<|Wl (fun _ q=>⟨decide<|1<(x1.b.length:Int),som<|ifT hmj J,q.k<|s2 z z,br w0⟩)
  iterate 3 refine Nh z J ?_
  exact Rh z G (pF z J z)<|R z (pF z G z)<|Wl (fun _ q=>⟨false,som<|ifF hmj J,q.k<|s2 z z,br w0⟩)
 rintro ax L ⟨W,rfl,_,s6⟩;revert ax;refine Wo<|Wc z (fun hca=>?_) (fun hca=>?_)
 ·refine Ws<|Ra z<|Rw z ?_
  obtain rfl:=som<|ifT hmg hca;exact Wr<|a_4 hr z z ⟨s6,z,ii z⟩
 refine Wk<|Ws<|Rw z<|Wq<|Ws<|Rw z ?_
 obtain ⟨_,huy,hmk⟩:=bdS<|ifF hmg hca;refine Wf (σ:=Int) (ρ:=Int×Bool) (fun (kb:Nat)(x2:Int) a w=>Sat 50 [(0,Str.v x1),(4,vI x2),(5,vI ((kb:Nat):Int))] a/\Below L.z L w/\inI x2) (fun (x2:Int) a w=>Sat 50 [(4,vI x2)] a/\Below L.z L w/\inI x2) (rQ prog fn<|Q14 w0 B) huy ?_ ?_ ?_ ?_ ?_
 ·exact fun _ q=>⟨q.k<|s3 z z z,br L,ii z⟩
 ·rintro kb x2 _ O _ hkl ⟨hSz,sm,V⟩ a0;refine Wu ?_ hSz;refine Wq<|Wm z<|Rm z<|R z (lnT d_9 z)<|Rl z z z<|Wx z (fun _=>?_) (fun hc=>(V_ hkl hc).elim)
  refine Wk<|Wq<|Wb<|Wq<|Wq ?_
  obtain ⟨a7,a1,hmn⟩:=bdS a0;refine Wt (fun a w=>∃(xc:Bool),xc=a7/\Sat 50 [(0,Str.v x1),(4,vI x2),(5,vI ((kb:Nat):Int)),(38,vB xc)] a/\Below O.z O w) ?_ ?_
  ·refine Wg<|RM z z ?_
   obtain ⟨a8,eo,hmp⟩:=bdS a1;refine R z (c_4 d_9 z z (a_z eo).1 (a_z eo).2.1)<|Rl z z z<|Rm z ?_
   rcases bs (decide<|(byteI a8)<(byteI (48:UInt8))) with H | H
   ·iterate 4 refine Nh z H ?_
    exact R z (pT z H z)<|Wl (fun _ q=>⟨true,som<|ifT hmp H,q.k<|s4 z z z z,br O⟩)
   refine Rh z H (mv z)<|Rh z H (mv z) ?_
   obtain ⟨a9,eq,a2⟩:=bdS<|ifF hmp H;exact Rh z H (c_4 d_9 z z (a_z eq).1 (a_z eq).2.1)<|Rh z H (a_i z z)<|R z (pF z H z)<|Wl (fun _ q=>⟨decide<|(byteI (57:UInt8))<(byteI a9),som a2,q.k<|s4 z z z z,br O⟩)
  rintro aa _ ⟨xc,rfl,_,sr⟩;revert aa;refine Wo<|Wc z (fun hcd=>?_) (fun hcd=>?_)
  ·exact Ws<|Ra z<|Rw z<|Wr<|rtO<|qL (som<|ifT hmn hcd).symm<|a_4 hr z z ⟨bup (bup s6 sm) sr,z,ii z⟩
  refine Wk<|Wg<|Rm z<|R z (g_r z z)<|RM z z ?_
  obtain ⟨ab,es,a3⟩:=bdS<|ifF hmn hcd;exact R z (c_4 d_9 z z (a_z es).1 (a_z es).2.1)<|R z (l_W z z)<|R z (c_e d_5 d_3 z)<|R z (add_ z z)<|Rw z<|Wg<|Rm z<|R z (inc_ hkl (lt_ Y D_) z z)<|Ra z<|Wl (fun _ q=>⟨j_ (b_g 10 x2)<|byteI<|mkB (byteI ab - byteI (48:UInt8)),(som a3).symm,⟨q.k<|s3 z z z,bup sm sr,iA _ _⟩⟩)
 ·rintro x2 _ _ ⟨a4,ad,V⟩;refine Wu ?_ a4;refine Wq<|Wm z<|Rm z<|R z (lnT d_9 z)<|Rl z z z<|Wx z (fun hc=>(W_ hc).elim) (fun _=>?_)
  exact We<|fun _ q=>⟨rfl,⟨q.k<|s1 z,ad,V⟩⟩
 ·rintro x2 ae _ rfl ⟨_,st,V⟩;have hmu:=elL hmk;revert ae;refine Wo<|Wq<|Wm z<|R z (a_i z z)<|Wx z (fun hce=>?_) (fun hce=>?_)
  ·refine Ws<|Ra z<|Rw z ?_
   obtain rfl:=som<|ifT hmu hce;exact Wr<|a_4 hr z z ⟨bup s6 st,z,ii z⟩
  refine Wk<|Wm z<|Ra z<|Rw z ?_
  obtain rfl:=som<|ifF hmu hce;exact Wr<|a_4 hr z z ⟨bup s6 st,z,V⟩
 rintro _ _ _ _ rfl ⟨rfl,a5⟩;have a6:=elR hmk;obtain rfl:=som a6;exact ⟨a5,z⟩
theorem W_w39 {x1:Str}{res:Bool}(hm:e_K n x1=some res)(O:B<=w0.z)(L:x1.b.length<=LEN):i_ prog 82 [Str.v x1] w0 (Q7 w0 B res):=by
 unfold e_K at hm
 refine goG func82 z z z fun fn hr=>Ws<|Rw z<|Wq<|Wq ?_
 obtain ⟨ub,huc,V⟩:=bdS hm;refine Wt (fun a w=>∃(x4:Bool),x4=ub/\Sat 25 [(0,Str.v x1),(18,vB x4)] a/\Below w0.z w0 w) ?_ ?_
 ·refine Wg<|Rm z ?_
  obtain ⟨rd,ee,W⟩:=bdS huc;refine E z (fc call118 z<|j_E (B:=B) ee O L) ?_;rintro _ _ ⟨s3,rfl⟩;refine Rm z ?_
  rcases bs rd with G | G
  ·exact Nh z G<|Nh z G<|R z (pT z G z)<|Rm z<|Nh z z<|Nh z z<|R z (pT z z z)<|Rm z<|Nh z z<|Nh z z<|R z (pT z z z)<|Wl (fun _ q=>⟨true,som<|ifT W G,q.k<|s2 z z,s3⟩)
  have Y:=ifF W G;refine Rh z G (mv z)<|Rh z G (a_V z z)<|R z (pF z G z)<|Rm z ?_
  rcases bs (x1.b==(⟨[42]⟩:Str).b) with H | H
  ·exact Nh z H<|Nh z H<|R z (pT z H z)<|Rm z<|Nh z z<|Nh z z<|R z (pT z z z)<|Wl (fun _ q=>⟨true,som<|ifT Y H,q.k<|s2 z z,s3⟩)
  have hma:=ifF Y H;refine Rh z H (mv z)<|Rh z H (a_V z z)<|R z (pF z H z)<|Rm z ?_
  rcases bs (x1.b==(⟨[63]⟩:Str).b) with I | I
  ·exact Nh z I<|Nh z I<|R z (pT z I z)<|Wl (fun _ q=>⟨true,som<|ifT hma I,q.k<|s2 z z,s3⟩)
  exact Rh z I (mv z)<|Rh z I (a_V z z)<|R z (pF z I z)<|Wl (fun _ q=>⟨x1.b==(⟨[43]⟩:Str).b,som<|ifF hma I,q.k<|s2 z z,s3⟩)
 rintro af _ ⟨x4,rfl,_,s5⟩;revert af;refine Wo<|Wc z (fun J=>?_) (fun J=>?_)
 ·refine Ws<|Rw z ?_
  obtain rfl:=som<|ifT V J;exact Wr<|d_ hr z ⟨s5,z⟩
 refine Wk<|Wm z ?_
 obtain ⟨_,_,eg,hmh⟩:=a_3<|ifF V J;refine E z (fc call119 z<|j_T eg (zt' O s5.s) L) ?_;rintro _ _ ⟨si,rfl,_⟩;refine Rm z<|Re z z z<|Re z z z<|Ra z<|Rw z<|Wm z<|Rw z ?_
 obtain rfl:=som hmh;exact Wr<|d_ hr z ⟨bup s5 si,z⟩
def Q32 (w0:World)(B:Zone)(r:(List Str)×Bool)(v:Value)(w':World):Prop:=Bw w0 w'/\un2 (fun J L=>∃(G:Option Addr)(H I:Nat)(S1:List Nat),v = .tuple #[(sl G H I),(vB L)]/\a_ w' S1 (sl G H I) J/\S1.Nodup/\(∀k∈S1,w0.heap.size<=k)) r
theorem o_z {w:World}{gp b:Nat}{s:Str}{l0 parts:List Str}(hs:s.b.length<=LEN)(hm:f_E s (47:UInt8)=some l0)(hsl:slc l0 1 (l0.length:Int)=some parts)(hp:Blk w gp [Str.v s])(hb:b<w.heap.size)(hrow:∀g,c_G w b g->g<w.heap.size) :
    SeqStopsK (α:={x:Str // x∈parts/\x.b.length<=LEN}) Fence.wide 1 Tryz.prog 148 [pt gp].toArray (fun x=>#[x.1.v]) (KpS b) (fun xs=>xs.map (·.1)=parts) (fun _=>True) parts.length w:=by
  intro l J Jx W hW hJ hJx hY h0;have hpW:=hp.ext hW
  have hrowW:∀g,c_G W b g->g<W.heap.size:=fun g ⟨n,c,h⟩=>by
    have h':w.cell? ⟨b,0,none⟩=some (sl (some ⟨g,0,none⟩) n c):=(World.cell?_of_block (w:=w) (w':=W) (a:=⟨b,0,none⟩)<|hW.block b hb).symm.trans h;exact Nat.lt_of_lt_of_le (hrow g ⟨n,c,h'⟩) hW.size
  have hbW:=Nat.lt_of_lt_of_le hb hW.size
  have hc:i_ Tryz.prog 148 [.func (.yield l) #[] #[],pt gp] W (fun _ W'=>(∃xs:List {x:Str // x∈parts/\x.b.length<=LEN},xs.map (·.1)=parts/\J xs W')∨(∃pre,True/\Jx pre W')):=by
    obtain ⟨fn,hf,hbd,hN,hr⟩:=fnE Tryz.func148;refine k_h hf (hbd.trans rfl) (hN.trans rfl) (Nat.le_of_ble_eq_true rfl) ?_;refine a_S<|b_o ?_;refine R rfl (c_g g_9 rfl (fun h=>h)<|hpW.at rfl) ?_;refine E rfl (e_Z Tryz.call149 rfl<|W_w38 (B:=W.heap.size) hm zr hs) ?_;rintro _ W1 ⟨s1,a1,n1,c1,S1,rfl,ho,nd,hge⟩;refine RX rfl (s_a T_ z_9 rfl ho rfl rfl hsl) ?_;intro v7 hv7;obtain ⟨ao7,c7,rfl,_⟩:=id hv7;refine R rfl (g_f T_ rfl<|hv7.repS (B:=W1.heap.size)<|fun k hk=>ho.lt k hk) ?_;refine R rfl (b_O rfl) ?_;refine a_T<|WC.of_KC ?_;have hJ1:J [] W1:=hJ [] W W1 none h0 (Below.grows s1) (fun r h=>by cases h);have hb1:b∉S1:=fun h=>absurd (hge b h)<|Nat.not_le.2 hbW
    have hr1:∀g,c_G W1 b g->g∉S1:=fun g ⟨n,c,h⟩ hg=>by
      have h':W.cell? ⟨b,0,none⟩=some (sl (some ⟨g,0,none⟩) n c):=(World.cell?_of_block (w:=W) (w':=W1) (a:=⟨b,0,none⟩)<|s1.block b hbW).symm.trans h;exact absurd (hge g hg)<|Nat.not_le.2<|hrowW g ⟨n,c,h'⟩
    have hlenL:parts.length<=9223372036854775807:=Nat.le_trans (by obtain ⟨_,_,_,_,h,_⟩:=hv7;exact h) D_;refine d_G fun a ha=>?_
    refine Code.wp_mono (Q:=Exit.then noK<|fun ex a w=>(ex = .exit 0/\b_W Tryz.prog fn (fun _ W'=>(∃xs:List {x:Str // x∈parts/\x.b.length<=LEN},xs.map (·.1)=parts/\J xs W')∨(∃pre,True/\Jx pre W')) a w)∨(ex = .ret/\b_W Tryz.prog fn (fun _ W'=>(∃xs:List {x:Str // x∈parts/\x.b.length<=LEN},xs.map (·.1)=parts/\J xs W')∨(∃pre,True/\Jx pre W')) a w)) (fun ex a' w' q=>?_)<|wp_loop_ghost (fun m a w=>∃(k:Nat)(pre:List {x:Str // x∈parts/\x.b.length<=LEN}),k+m=parts.length/\pre.map (·.1)=parts.take k/\Sat 18 [(9,vI (k:Int)),(8,vI (parts.length:Int)),(7,sl ao7 parts.length c7),(0,.func (.yield l) #[] #[])] a/\J pre w/\a_ w S1 (sl a1 n1 c1) l0/\(∀g,c_G w b g->g∉S1)/\d_w w (· ∈ S1) (sl ao7 parts.length c7) parts) parts.length ?_ ?_
    · cases ex with
      | normal=>exact (show False from q).elim
      | exit i =>
        rcases q with ⟨h,q⟩ | ⟨h,_⟩
        · cases h;exact q
        · cases h
      | ret =>
        rcases q with ⟨h,_⟩ | ⟨_,q⟩
        · cases h
        · exact q
      | _=>rcases q with ⟨h,_⟩ | ⟨h,_⟩ <;> cases h
    · exact ⟨0,[],by omega,by simp,ha.weaken<|sc rfl<|sc rfl<|sc rfl<|sc rfl sn,hJ1,ho,hr1,hv7⟩
    · rintro m a w ⟨k,pre,hkm,hpre,hsat,hJw,how,hrw,hvw⟩
      refine g_k (N:=18) (e:=[(9,vI (k:Int)),(8,vI (parts.length:Int)),(7,sl ao7 parts.length c7),(0,.func (.yield l) #[] #[])]) ?_ hsat;refine a_S<|b_o<|R rfl (f_f rfl rfl)<|a_T<|WC.of_KC ?_;refine a_S<|c_S rfl (fun hc=>?_)<|fun hc=>?_
      · have hk:k<parts.length:=by simpa using hc
        obtain ⟨m,rfl⟩:∃m',m=m'+1:=⟨m - 1,by omega⟩;refine a_k<|WC.of_KC ?_;refine a_S<|d_G ?_;refine a_S<|b_o ?_;have hrep:=hvw.repS (B:=w.heap.size)<|fun k hk=>how.lt k hk;have hidx:idx parts (k:Int)=some parts[k]:=by rw [l_U];simp [hk]
        refine RX rfl (g_g (α:=Str) T_ z_9 rfl rfl rfl hrep hidx) ?_;rintro _ ⟨bb,oo,cs,rfl,hc1,hrr,hlt⟩;obtain ⟨rfl,hxl⟩:=b_2 hrr;refine R rfl (c_g g_9 rfl (fun h=>h)<|hc1.at0 rfl) ?_;refine R rfl (d_p rfl) ?_;refine a_T<|WC.of_KC ?_;refine a_S<|s_3 ?_;refine j_4 rfl (b_O rfl) ?_;refine j_4 rfl (b_O rfl) ?_
        have hpl:pre.length=k:=by
          have:=congrArg List.length hpre
          simp at this;omega
        refine s_4 (S:=fun v w'=>(v=vB true/\J (pre++[⟨parts[k],List.getElem_mem hk,hxl⟩]) w'/\KpS b w w')∨(v=vB false/\Jx (pre++[⟨parts[k],List.getElem_mem hk,hxl⟩]) w')) rfl rfl rfl (hY pre ⟨parts[k],List.getElem_mem hk,hxl⟩ w hJw (by omega)) (fun e w' h=>?_) ?_
        · rcases h with ⟨rfl,h⟩ | ⟨rfl,h⟩
          · exact ⟨_,rfl,.inl ⟨rfl,h⟩⟩
          · exact ⟨_,rfl,.inr ⟨rfl,h⟩⟩
        rintro v w' (⟨rfl,hJ',hK⟩ | ⟨rfl,hX⟩)
        · refine j_4 rfl (e_w rfl) ?_
          refine n_J<|WC.of_KC ?_;refine c_S rfl (fun h=>by cases h)<|fun _=>?_;refine a_k<|WC.of_KC ?_;refine b_o<|R rfl (g_b hk hlenL rfl rfl)<|R rfl (b_O rfl) ?_;obtain ⟨ho',hr'⟩:=hK.own how hb1 hrw
          have hv':d_w w' (· ∈ S1) (sl ao7 parts.length c7) parts:=hvw.stay fun g hg=>hK.chg.block g (how.lt g hg) fun hm=>by
            rcases hm with rfl | hm | ⟨o,ho2,hcl⟩
            · exact hb1 hg
            · exact hrw g hm hg
            · obtain ⟨cur,hB⟩:=f_v how g hg
              rw [hB.isCells ho2] at hcl;cases hcl
          refine a_T fun a' ha'=>⟨m,Nat.lt_succ_self _,k+1,pre++[⟨parts[k],List.getElem_mem hk,hxl⟩],by omega,?_,ha'.weaken<|sc rfl<|sc rfl<|sc rfl<|sc rfl sn,hJ',ho',hr',hv'⟩
          rw [List.map_append,hpre,List.take_add_one,List.getElem?_eq_getElem hk];rfl
        · refine j_4 rfl (e_w rfl) ?_
          refine n_J<|WC.of_KC ?_;refine c_S rfl (fun _=>?_) (fun h=>by cases h);exact d_F<|rtO fun a' ha'=>.inr ⟨rfl,ret0 hr (.inr ⟨_,trivial,hX⟩) a' ha'⟩
      · have hk:¬k<parts.length:=by simpa using hc
        have:k=parts.length:=by omega
        subst this;refine g_7 fun a' ha'=>.inl ⟨rfl,ret0 hr (.inl ⟨pre,?_,hJw⟩) a' ha'⟩
        rw [hpre,List.take_length]
  refine callsIn_wide.2<|hc.run.mono fun e w' ⟨v,he,h⟩=>⟨⟨v,he⟩,h⟩
theorem l_v {w0 W W':World}{row:Option Nat}(h:Below w0.heap.size w0 W)(hg:W.grownBy W' row)(hr:∀r,row=some r->w0.heap.size<=r):Below w0.heap.size w0 W':=d_L h (l_9 hg) fun k hk e=>absurd (hr k e)<|Nat.not_le.2 hk
def o_A (w0:World)(s:Str)(v:Value)(w':World):Prop:=v = .func (.func 148) #[] #[pt w0.heap.size]/\Blk w' w0.heap.size [Str.v s]/\Bw w0 w'
theorem o_B {w0:World}{s:Str}:i_ Tryz.prog 117 [Str.v s] w0 (o_A w0 s):=by
  obtain ⟨_,hf,hb,hN,hr⟩:=fnE Tryz.func117;refine k_h hf (hb.trans rfl) (hN.trans rfl) (Nat.le_of_ble_eq_true rfl) ?_;refine a_S<|b_o ?_;refine E rfl (e_Y rfl) ?_;rintro _ G ⟨rfl,h1⟩;refine R rfl (d_p rfl) ?_;refine a_T<|WC.of_KC ?_;refine a_S<|b_o ?_;refine R rfl (k_2 rfl) ?_;refine R rfl (d_p rfl) ?_;refine a_T<|WC.of_KC ?_;exact d_F<|d_ hr rfl ⟨rfl,(h1.blk:Blk G w0.heap.size [Str.v s]),h1.below⟩
theorem W_w3a {n:Nat}{B:Zone}{x1:Str}{res:(List Str)×Bool}{w0:World}(hm:j_a n x1=some res)(hBw:B<=w0.heap.size)(p1_0:x1.b.length<=LEN):i_ Tryz.prog 81 [(Str.v x1),.func (.func 82) #[] #[]] w0 (Q32 w0 B res):=by
  unfold j_a at hm
  obtain ⟨fn,hf,hb,hN,hr⟩:=fnE Tryz.func81;refine s_7 hf (hb.trans rfl) (hN.trans rfl) (Nat.le_of_ble_eq_true rfl) ?_
  -- the cells
  refine a_S<|b_o ?_;refine E rfl (e_Y rfl) ?_;rintro _ w1 ⟨rfl,h1⟩;have b3:Blk w1 w0.heap.size [.func (.func 82) #[] #[]]:=h1.blk;refine E rfl (e_n l_o) ?_;rintro _ w2 ⟨rfl,h2⟩;have b4:Blk w2 w1.heap.size [.slice none 0 0]:=h2.blk;refine E rfl (e_n zero_4) ?_;rintro _ w3 ⟨rfl,h3⟩;have b5:Blk w3 w2.heap.size [vB false]:=h3.blk;refine a_T<|WC.of_KC ?_;refine a_S<|b_o ?_;refine E rfl (f_7 (α:=Str) b_C) ?_;rintro _ w4 ⟨a,m,c,rfl,s4,ho4⟩;refine E rfl (e_n l_o) ?_;rintro _ w5 ⟨rfl,h5⟩;have b6:Blk w5 w4.heap.size [.slice none 0 0]:=h5.blk;refine E0 (b_z (cur':=[.slice a m c]) e_k rfl rfl b6 rfl (Nat.le_of_ble_eq_true rfl) (b_L rfl) rfl) ?_;rintro _ w6 ⟨c6,s6⟩;have t6:=s6.one;refine a_T<|WC.of_KC ?_
  -- what is known behind
  have g1:=h1.below;have g2:=h2.below;have g3:=h3.below;have g5:=h5.below;have z1:=h1.size;have z2:=h2.size;have z3:=h3.size;have z5:=h5.size;have z4:=s4.size;have z6:=s6.size
  have hz:w0.heap.size<w1.heap.size/\w1.heap.size<w2.heap.size/\w2.heap.size<w3.heap.size/\w3.heap.size<w4.heap.size/\w4.heap.size<w6.heap.size:=by
    have:=ho4.lt _ List.mem_cons_self
    omega
  have k3:Blk w6 w0.heap.size [.func (.func 82) #[] #[]]:=((((b3.ext g2).ext g3).ext s4).ext g5).chg s6 (by omega);have k4:Blk w6 w1.heap.size [.slice none 0 0]:=(((b4.ext g3).ext s4).ext g5).chg s6 (by omega);have k5:Blk w6 w2.heap.size [vB false]:=((b5.ext s4).ext g5).chg s6 (by omega);have kS:a_ w6 [w3.heap.size] (sl a m c) ([]:List Str):=(ho4.ext g5).chg s6 (fun k hk=>by have:=List.mem_singleton.1 hk;omega);have kB:Below w0.heap.size w0 w6:=d_l (bup (bup (bup (bup g1 g2) g3) s4) g5) t6 (fun k hk=>by have:=List.mem_singleton.1 hk;omega)
  clear b3 b4 b5 b6 ho4 h1 h2 h3 h5 s4 s6 t6 g1 g2 g3 g5 z1 z2 z3 z4 z5 z6
  -- the first look
  refine a_S<|a_S<|b_o ?_;refine R rfl (b_O rfl) ?_;refine R rfl (a_V rfl rfl) ?_;refine a_T<|WC.of_KC ?_;refine c_S rfl (fun hc=>?_)<|fun hc=>?_
  · obtain rfl:=som (ifT hm hc)
    refine a_S<|b_o ?_;refine R rfl (c_g a_I rfl (fun h=>h)<|c6.at rfl) ?_;refine E0 (b_z (cur':=[.slice a m c]) e_k rfl rfl k4 rfl (Nat.le_of_ble_eq_true rfl) (b_L rfl) rfl) ?_;rintro _ w7 ⟨c7,s7⟩;refine E0 (b_z (cur':=[vB true]) z_4 rfl rfl (k5.chg s7 (by omega)) rfl (Nat.le_of_ble_eq_true rfl) (b_L rfl) rfl) ?_;rintro _ w8 ⟨c8,s8⟩;refine a_T<|WC.of_KC ?_;refine d_F fun a' ha'=>retM<|a_4 hr (d_M (n:=1) a_I rfl<|c7.chg s8 (by omega)) (d_M (n:=1) g_4 rfl c8) ⟨d_l (d_l kB s7.one (fun k hk=>by have:=List.mem_singleton.1 hk;omega)) s8.one (fun k hk=>by have:=List.mem_singleton.1 hk;omega),?_⟩ a' ha'
    exact ⟨a,m,c,_,rfl,(kS.chg s7 (fun k hk=>by have:=List.mem_singleton.1 hk;omega)).chg s8 (fun k hk=>by have:=List.mem_singleton.1 hk;omega),(by simp),fun k hk=>by have:=List.mem_singleton.1 hk;omega⟩
  replace hm:=ifF hm hc;refine a_k<|WC.of_KC ?_
  -- the first byte
  refine a_S<|a_S<|b_o ?_;refine R rfl (b_O rfl) ?_;obtain ⟨x13,e13,hm⟩:=bdS hm;refine R rfl (c_4 d_9 rfl rfl (a_z e13).1 (a_z e13).2.1) ?_;refine R rfl (g_t rfl rfl) ?_;refine a_T<|WC.of_KC ?_;refine c_S rfl (fun hc=>?_)<|fun hc=>?_
  · obtain rfl:=som (ifT hm hc)
    refine a_S<|b_o ?_;refine R rfl (c_g a_I rfl (fun h=>h)<|c6.at rfl) ?_;refine E0 (b_z (cur':=[.slice a m c]) e_k rfl rfl k4 rfl (Nat.le_of_ble_eq_true rfl) (b_L rfl) rfl) ?_;rintro _ w7 ⟨c7,s7⟩;refine E0 (b_z (cur':=[vB false]) z_4 rfl rfl (k5.chg s7 (by omega)) rfl (Nat.le_of_ble_eq_true rfl) (b_L rfl) rfl) ?_;rintro _ w8 ⟨c8,s8⟩;refine a_T<|WC.of_KC ?_;refine d_F fun a' ha'=>retM<|a_4 hr (d_M (n:=1) a_I rfl<|c7.chg s8 (by omega)) (d_M (n:=1) g_4 rfl c8) ⟨d_l (d_l kB s7.one (fun k hk=>by have:=List.mem_singleton.1 hk;omega)) s8.one (fun k hk=>by have:=List.mem_singleton.1 hk;omega),?_⟩ a' ha'
    exact ⟨a,m,c,_,rfl,(kS.chg s7 (fun k hk=>by have:=List.mem_singleton.1 hk;omega)).chg s8 (fun k hk=>by have:=List.mem_singleton.1 hk;omega),(by simp),fun k hk=>by have:=List.mem_singleton.1 hk;omega⟩
  replace hm:=ifF hm hc;refine a_k<|WC.of_KC ?_;obtain ⟨l0,hsp,hm⟩:=bdS hm;obtain ⟨parts,hsl,hm⟩:=bdS hm;obtain ⟨oks,hok,hm⟩:=bdS hm
  split at hm
  case isFalse=>cases hm
  rename_i hlim
  obtain rfl:=som hm;obtain ⟨hacc,hall⟩:=n_P hok
  -- the loop
  refine a_S<|a_S<|b_o ?_;refine R rfl (b_O rfl) ?_;refine E rfl (e_Z Tryz.call117 rfl o_B) ?_;rintro _ w7 ⟨rfl,bp,s7⟩;refine a_T<|WC.of_KC ?_;replace k3:=k3.ext s7;replace k4:=k4.ext s7;replace k5:=k5.ext s7;replace c6:=c6.ext s7;replace kS:=kS.ext s7;replace kB:=bup kB<|s7.mono<|Nat.le_refl _;have z7:=s7.size
  have hrow:∀g,c_G w7 w4.heap.size g->g<w7.heap.size:=fun g hg=>by
    have h1:=n_M c6 hg;exact kS.lt _<|(j_5 kS).2 g 0 none h1
  generalize w1.heap.size=q4 at *
  generalize w2.heap.size=q5 at *
  generalize w4.heap.size=q6 at *
  refine s_8 (α:={x:Str // x∈parts/\x.b.length<=LEN}) (f:=fun x=>x.1) (gf:=148) (lb:=[pt w6.heap.size]) (b:=q6) (M:=parts.length) (S:=fun xs=>xs.map (·.1)=parts) (Sp:=fun _=>True) rfl Tryz.call148 rfl rfl (by omega)
    (o_z p1_0 hsp hsl bp (by omega) hrow)
    (fun pre W=>(∀x∈pre,(e_K n x.1).getD false=true)/\(∃(a:Option Addr)(m c:Nat)(S:List Nat),Blk W q6 [.slice a m c]/\a_ W S (sl a m c) (pre.map (·.1))/\S.Nodup/\(∀k∈S,q5<k/\k ≠ q6))/\Blk W w0.heap.size [.func (.func 82) #[] #[]]/\Blk W q4 [.slice none 0 0]/\Blk W q5 [vB false]/\Below w0.heap.size w0 W)
    (fun pre W=>(∃x∈pre,(e_K n x.1).getD false=false)/\(∃(a:Option Addr)(m c:Nat)(S:List Nat),Blk W q4 [.slice a m c]/\a_ W S (sl a m c) ([]:List Str)/\S.Nodup/\(∀k∈S,w0.heap.size<=k))/\Blk W q5 [vB false]/\Below w0.heap.size w0 W)
    ?_ ?_ ?_ ?_ ?_ ?_
  · rintro pre W W' row ⟨h1,⟨a,m,c,S,h2,h3,h4,h5⟩,h6,h7,h8,h9⟩ hg hr
    have hr':=fun r e=>(hr r e).2
    exact ⟨h1,⟨a,m,c,S,h2.grown hg hr',n_O h3 hg hr',h4,h5⟩,h6.grown hg hr',h7.grown hg hr',h8.grown hg hr',l_v h9 hg fun r e=>Nat.le_trans (by omega) (hr r e).1⟩
  · rintro pre W W' row ⟨h1,⟨a,m,c,S,h2,h3,h4,h5⟩,h8,h9⟩ hg hr
    have hr':=fun r e=>(hr r e).2
    exact ⟨h1,⟨a,m,c,S,h2.grown hg hr',n_O h3 hg hr',h4,h5⟩,h8.grown hg hr',l_v h9 hg fun r e=>Nat.le_trans (by omega) (hr r e).1⟩
  · exact ⟨fun x hx=>(by cases hx),⟨a,m,c,_,c6,kS,(by simp),fun k hk=>by have:=List.mem_singleton.1 hk;omega⟩,k3,k4,k5,kB⟩
  · rintro l pre ⟨x,hx,hxl⟩ W ⟨h1,⟨a,m,c,S,h2,h3,h4,h5⟩,h6,h7,h8,h9⟩ hlt
    refine s_2<|l_8<|l_8<|l_7 rfl (fun _ _ h=>by cases h.1) ?_;refine R rfl (c_g g_84 rfl (fun h=>h)<|h6.at rfl) ?_;refine R rfl (b_O rfl) ?_;refine E rfl (i_5 (caps:=[]) Tryz.call82 rfl rfl<|W_w39 (hacc x hx) zr hxl) ?_;rintro _ W1 ⟨s1,rfl⟩;refine R rfl (e_w rfl) ?_;refine a_T<|WCI.of_KC ?_;have y1:=s1.size;have hq6:=h2.lt;have hw0.heap.size:=h6.lt;have hq4:=h7.lt;have hq5:=h8.lt;refine r_Z rfl (fun hc=>?_)<|fun hc=>?_
    · refine l_8 (l_7 rfl (fun _ _ h=>by cases h.1) ?_)
      refine E rfl (f_7 (α:=Str) b_C) ?_;rintro _ W2 ⟨a2,m2,c2,rfl,s2,ho2⟩;refine E0 (b_z (cur':=[.slice a2 m2 c2]) e_k rfl rfl ((h7.ext s1).ext s2) rfl (Nat.le_of_ble_eq_true rfl) (b_L rfl) rfl) ?_;rintro _ W3 ⟨c3,s3⟩;refine E0 (b_z (cur':=[vB false]) z_4 rfl rfl (((h8.ext s1).ext s2).chg s3 (by omega)) rfl (Nat.le_of_ble_eq_true rfl) (b_L rfl) rfl) ?_;rintro _ W4 ⟨c4,s4⟩;refine a_T<|WCI.of_KC ?_;have hW:Below W.heap.size W W2:=bup s1 s2
      have hc4:Chg (fun k=>k=q4∨k=q5) W W4:=by
        have e1:Chg (fun k=>k=q4∨k=q5) W W2:=(Chg.refl _ W).ext hW;refine (e1.comp s3 fun k _ hk=>.inl hk).comp s4 fun k _ hk=>.inr hk
      refine s_1 fun _ q=>⟨rfl,n_N hc4 fun k _ hk=>?_,⟨⟨x,hx,hxl⟩,by simp,by simpa using hc⟩,⟨a2,m2,c2,_,c3.chg s4 (by omega),(ho2.chg s3 fun k hk=>by have:=List.mem_singleton.1 hk;omega).chg s4 fun k hk=>by have:=List.mem_singleton.1 hk;omega,(by simp),fun k hk=>by have:=List.mem_singleton.1 hk;omega⟩,c4,?_⟩
      · rcases hk with rfl | rfl
        · exact ⟨_,h7⟩
        · exact ⟨_,h8⟩
      · exact d_L h9 hc4 fun k hk hm=>by rcases hm with rfl | rfl <;> omega
    · refine s_0 (WCI.of_KC ?_)
      refine l_7 rfl (fun _ _ h=>by cases h.1) ?_
      have hpsh:psh (pre.map (·.1)) x=some (pre.map (·.1)++[x]):=by
        unfold psh
        rw [if_pos (by rw [List.length_map];omega)]
      refine R rfl (c_g a_I rfl (fun h=>h)<|(h2.ext s1).at rfl) ?_;refine R rfl (b_O rfl) ?_;refine E rfl (g_a [(.tmp 25)] b_C rfl rfl rfl (b_V rfl) (Nat.le_of_ble_eq_true rfl)<|Nat.le_of_ble_eq_true rfl) ?_;rintro _ W2 ⟨rfl,hb⟩;have s2:=hb.below;have y2:=s2.size;refine E rfl (c_u (α:=Str) b_C hpsh rfl rfl ((h3.ext s1).ext s2) h4 hb.blk (c_t hxl) all_nil a_x) ?_;rintro _ W3 ⟨S',a',n',c',rfl,s3,ho3,nd3,hs3⟩;have y3:=s3.size
      have n3:∀k,k<W.heap.size->k<=q5∨k=q6->k∉S':=fun k hk hq hm=>by
        rcases hs3 k hm with h | h | h
        · have:=h5 k h;omega
        · cases h
        · omega
      refine E0 (b_z (cur':=[.slice a' n' c']) e_k rfl rfl (((h2.ext s1).ext s2).chg s3 (fun hm=>(h5 _ hm).2 rfl)) rfl (Nat.le_of_ble_eq_true rfl) (b_L rfl) rfl) ?_;rintro _ W4 ⟨c4,s4⟩;have hW:Below W.heap.size W W2:=bup s1 s2
      have hc4:Chg (fun k=>k=q6∨k∈S) W W4:=by
        have e1:Chg (fun k=>k=q6∨k∈S) W W2:=(Chg.refl _ W).ext hW;refine (e1.comp s3 fun k _ hk=>.inr hk).comp s4 fun k _ hk=>.inl hk
      have ho4:a_ W4 S' (sl a' n' c') (pre.map (·.1)++[x]):=ho3.chg s4 fun k hk he=>n3 q6 hq6 (.inr rfl)<|he ▸ hk
      have hs4:∀k∈S',k∈S∨W.heap.size<=k:=fun k hk=>by
        rcases hs3 k hk with h | h | h
        · exact .inl h
        · cases h
        · exact .inr (by omega)
      have k4:∀k,k<=q5->¬(k=q6∨k∈S):=fun k hk hm=>by
        rcases hm with rfl | hm
        · omega
        · have:=h5 k hm;omega
      refine a_T fun a'' ha''=>⟨n_N hc4 fun k _ hk=>?_,KpS.of_chg h2 h3 c4 ho4 hs4 hc4,fun y hy=>?_,⟨a',n',c',S',c4,by simpa using ho4,nd3,fun k hk=>?_⟩,h6.chg hc4<|k4 _ (by omega),h7.chg hc4<|k4 _ (by omega),h8.chg hc4<|k4 _ (by omega),d_L h9 hc4 fun k hk hm=>k4 k (by omega) hm⟩
      · rcases hk with rfl | hk
        · exact ⟨_,h2⟩
        · exact f_v h3 k hk
      · rcases List.mem_append.1 hy with hy | hy
        · exact h1 y hy
        · obtain rfl:=List.mem_singleton.1 hy
          simpa using hc
      · rcases hs4 k hk with h | h
        · exact h5 k h
        · omega
  · rintro D xs W hD hxs ⟨h1,⟨a,m,c,S,h2,h3,h4,h5⟩,h6,h7,h8,h9⟩ hdef a0 ha0
    have hw0.heap.size:=h6.lt;have hq4:=h7.lt;have hq5:=h8.lt;refine tailD ?_ ha0;refine R rfl (c_g a_I rfl (fun h=>h)<|h2.at rfl) ?_;refine E0 (b_z (cur':=[.slice a m c]) e_k rfl rfl h7 rfl (Nat.le_of_ble_eq_true rfl) (b_L rfl) rfl) ?_;rintro _ W1 ⟨c7,s7⟩;refine E0 (b_z (cur':=[vB true]) z_4 rfl rfl (h8.chg s7 (by omega)) rfl (Nat.le_of_ble_eq_true rfl) (b_L rfl) rfl) ?_;rintro _ W2 ⟨c8,s8⟩;have hDlt:=(Array.getElem?_eq_some_iff.1 hdef).1;have hdef2:W2.heap[D]? = some (.deferred<|some []):=((s8.block D (Nat.lt_of_lt_of_le hDlt s7.size) (by omega)).trans (s7.block D hDlt (by omega))).trans hdef
    have hDS:∀k∈S,k ≠ D:=fun k hk e=>by
      obtain ⟨cur,hB⟩:=f_v h3 k hk;have:=(e ▸ hB).isCells hdef
      cases this
    have hoks:oks.all id=true:=hall.2 fun y hy=>by
      rw [← hxs] at hy
      obtain ⟨z,hz,rfl⟩:=List.mem_map.1 hy;exact h1 z hz
    rw [if_pos hoks]
    refine a_T fun a' ha'=>⟨ha'.defers,hdef2,?_⟩
    have hp:=n_K W2 D<|.deferred none;obtain ⟨_,v,e1,e2⟩:=a_4 (R:=Q32 w0 B (parts,true)) hr (d_M (n:=1) a_I rfl<|(c7.chg s8 (by omega)).chg hp (by omega)) (d_M (n:=1) g_4 rfl<|c8.chg hp (by omega)) ⟨d_L (d_L (d_L h9 s7 fun k hk e=>by omega) s8 fun k hk e=>by omega) hp fun k hk e=>by omega,a,m,c,S,rfl,((hxs ▸ h3).chg s7 fun k hk e=>by have:=h5 k hk;omega).chg s8 (fun k hk e=>by have:=h5 k hk;omega) |>.chg hp fun k hk e=>hDS k hk e,h4,fun k hk=>by have:=h5 k hk;omega⟩ a' ha';exact ⟨v,e1,e2⟩
  · rintro D pre W hD _ ⟨⟨⟨x,hx,hxl⟩,hxm,hxb⟩,⟨a,m,c,S,h2,h3,h4,h5⟩,h8,h9⟩ hdef a0 ha0
    have hq4:=h2.lt;have hq5:=h8.lt
    have hDS:∀k∈S,k ≠ D:=fun k hk e=>by
      obtain ⟨cur,hB⟩:=f_v h3 k hk;have:=(e ▸ hB).isCells hdef
      cases this
    have hoks:¬oks.all id=true:=fun h=>by
      have:=hall.1 h x hx
      rw [this] at hxb;cases hxb
    rw [if_neg hoks]
    have hp:=n_K W D<|.deferred none;obtain ⟨_,v,e1,e2⟩:=a_4 (R:=Q32 w0 B ([],false)) hr (d_M (n:=1) a_I rfl<|h2.chg hp (by omega)) (d_M (n:=1) g_4 rfl<|h8.chg hp (by omega)) ⟨d_L h9 hp fun k hk e=>by omega,a,m,c,S,rfl,h3.chg hp fun k hk e=>hDS k hk e,h4,h5⟩ a0 ha0;exact retD ha0.defers hdef e1 e2
def Q33 (w0:World)(B:Zone)(r:(List Str)×Bool)(v:Value)(w':World):Prop:=Bw w0 w'/\un2 (fun J L=>∃G H I S1,v = .tuple #[sl G H I,vB L]/\a_ w' S1 (sl G H I) J/\S1.Nodup/\(∀k∈S1,w0.z<=k)) r
theorem W_w21 {x1:Str}{res:(List Str)×Bool}(hm:f_F n x1=some res)(H:B<=w0.z)(G:x1.b.length<=LEN):i_ prog 44 [Str.v x1] w0 (Q33 w0 B res):=by
 unfold f_F at hm
 refine goG func44 z z z fun fn hr=>Ws<|Ra z<|Rw z<|Wm z ?_
 obtain ⟨_,_,J,I⟩:=a_3 hm;refine E z (fc call81 z<|W_w3a (B:=B) J H G) ?_;rintro _ _ ⟨s2,L,O,V,W,rfl,Y,h8,h9⟩;refine Re z z z<|Re z z z<|Ra z<|Rw z ?_
 obtain rfl:=som I;exact Wr<|a_4 hr z z ⟨s2,L,O,V,W,z,Y,h8,h9⟩
def Q34 (w0:World)(g1:Nat)(B:Zone)(A0:Option Addr)(N0 C0:Nat)(A1:Option Addr)(N1 C1:Nat)(x1:a_P)(r:Bool×Int)(v:Value)(w':World):Prop:=Chg (· ∈ [g1]) w0 w'/\un2 (fun H G=>(vB H)=v/\inI G/\Blk w' g1 [sl A0 N0 C0,sl A1 N1 C1,vI x1.rule,vI G]) r
theorem i_0 {x1:a_P}{g1:Nat}{x2:Int}{res:Bool×Int}(hm:c_K n x1 x2=some res)(hB1:Blk w0 g1 [sl A0 N0 C0,sl A1 N1 C1,vI x1.rule,vI x1.at_])(O:B<=w0.z)(hBg:¬B g1)(H:repS w0 B (sl A0 N0 C0) x1.d.rules)(I:repS w0 B (sl A1 N1 C1) x1.b)(a0:inI x1.rule)(J:inI x1.at_)(L:inI x2):i_ prog 47 [pt g1,vI x2] w0 (Q34 w0 g1 B A0 N0 C0 A1 N1 C1 x1 res):=by
 unfold c_K at hm
 refine goG func47 z z z fun fn hr=>Ws<|Rw z<|Wq (Wd (X:=noX) 0 (pl_ 19 [13]) mo (by kernel_rfl) fun W G _=>dM z z z<|dR z z (B_ z)<|dR z z (fd j_k z) ?_)
 have h1:=hB1.e G;refine dR z z (lN (vs:=[sl A0 N0 C0]) w_ u_ z z fid<|h1.row 0 1 z)<|dM z z z<|dM z z z<|dR z z (B_ z)<|dR z z (fd h_T z)<|dR z z (l0 R_ z<|h1.at z)<|dM z z z<|dR z z (B_ z)<|dR z z (fd c_O z)<|dR z z (l0 g_3 z<|h1.at z) ?_
 obtain ⟨Y,_,e5,V⟩:=a_3 hm;refine dE z z (fc call75 z<|W_w1z (B:=B) (x1:=(⟨x1.d.rules⟩:b_)) e5 (zt' O G.s) (H.e G) L (I.e G) J) (.inr fun _ _ h=>l_<|h.1) ?_;rintro _ w7 ⟨s2,rfl,h8,_⟩;refine dM z z z<|dR z z (ext_ z z)<|dR z z (ext_ z z)<|dQ z z z<|dQ z z z<|pD<|Wo<|Wm z<|Rm z<|R z (B_ z)<|Rf z c_O z<|E0 (fs0 (cur':=[sl A0 N0 C0,sl A1 N1 C1,vI x1.rule,vI Y]) z_3 z z (h1.e s2) z z z z) ?_
 rintro _ w9 ⟨ha,sb⟩;refine Wn<|Wm z<|Rq z z z<|Rw z ?_
 obtain rfl:=som V;exact Wr<|d_ hr z ⟨(cM (h_ (h_ (cr [g1] w0) G:Chg (· ∈ [g1]) w0 W) s2:Chg (· ∈ [g1]) w0 w7) sb.one (io sr):Chg (· ∈ [g1]) w0 w9),z,h8,ha⟩
def Q35 (w0:World)(g1:Nat)(B:Zone)(A0:Option Addr)(N0 C0:Nat)(A1:Option Addr)(N1 C1:Nat)(x1:a_P)(r:Int×Bool×Int)(v:Value)(w':World):Prop:=Chg (· ∈ [g1]) w0 w'/\un3 (fun G I H=>v = .tuple #[vI G,vB I]/\inI G/\inI H/\Blk w' g1 [sl A0 N0 C0,sl A1 N1 C1,vI x1.rule,vI H]) r
theorem W_w22 {x1:a_P}{g1:Nat}{x2:Int}{res:Int×Bool×Int}(hm:f_L n x1 x2=some res)(hB1:Blk w0 g1 [sl A0 N0 C0,sl A1 N1 C1,vI x1.rule,vI x1.at_])(L:B<=w0.z)(hBg:¬B g1)(I:repS w0 B (sl A0 N0 C0) x1.d.rules)(J:repS w0 B (sl A1 N1 C1) x1.b)(a0:inI x1.rule)(a1:inI x1.at_)(a2:inI x2):i_ prog 121 [pt g1,vI x2] w0 (Q35 w0 g1 B A0 N0 C0 A1 N1 C1 x1 res):=by
 unfold f_L at hm
 refine goG func121 z z z fun fn hr=>Ws<|Ra z<|Rw z<|Wm z<|R z (B_ z)<|Rf z c_O z<|R z (l0 g_3 z<|hB1.at z)<|Rw z<|Wq<|Wm z<|Rm z ?_
 obtain ⟨_,_,ea,O⟩:=a_3 hm;refine E z (fc call47 z<|i_0 (B:=B) ea hB1 L hBg I J a0 a1 a2) ?_;rintro _ V ⟨G,rfl,h6,W⟩;refine R z (not_ z)<|Wx z (fun H=>?_) (fun H=>?_)
 ·refine Ws<|Ra z<|Rw z ?_
  obtain rfl:=som<|ifT O H;exact Wr<|a_4 hr z z ⟨(cM (cr [g1] w0) G (io sr):Chg (· ∈ [g1]) w0 V),z,ii z,h6,W⟩
 refine Wk<|Wq (Wd (X:=noX) 0 (pl_ 22 [19]) mo (by kernel_rfl) fun wc s1 _=>dM z z z<|dR z z (B_ z)<|dR z z (fd h_T z) ?_)
 have h2:=W.e s1;refine dR z z (l0 R_ z<|h2.at z)<|dM z z z<|dM z z z<|dR z z (B_ z)<|dR z z (fd c_O z)<|dR z z (l0 g_3 z<|h2.at z) ?_
 obtain ⟨_,ed,hme⟩:=bdS<|ifF O H;have Y:=(G.agc B<|g_<|f_ hBg).e s1;refine dRX z z (rX o_ z_5 z z (J.g Y) z z ed) ?_;rintro _ ⟨_,_,_,rfl,hf⟩;refine dM z z z<|dR z z (B_ z)<|dR z z (fd j_k z)<|dR z z (fd a_9 z)<|dR z z (l0 a_d z<|h2.at z)<|dM z z z ?_
 obtain ⟨_,eg,hmh⟩:=bdS hme;refine dRX z z (at_ (α:=e_) a_0 m_ z z z (I.g Y) eg) ?_;rintro _ ⟨_,_,_,rfl,hi,hj,_⟩;obtain ⟨_,_,_,_,_,_,_,_,_,_,_,_,rfl,_,_,_,_,_,_,_⟩:=a_w hj;refine dR z z (fd c_s z)<|dR z z (l0 g_4 z<|hi.at (j:=3) z) ?_
 obtain ⟨_,ek,hml⟩:=bdS hmh;refine dE z z (fc call143 z<|j_F ek (zt' L<|lt_ G.s s1.s) hf) (.inr fun _ _ h=>l_<|h.1) ?_;rintro _ wm ⟨s9,rfl,hn⟩;refine dQ z z z<|dQ z z z<|pD<|Wo ?_
 obtain rfl:=som hml;exact Wr<|a_4 hr z z ⟨(h_ (h_ (cM (cr [g1] w0) G (io sr):Chg (· ∈ [g1]) w0 V) s1:Chg (· ∈ [g1]) w0 wc) s9:Chg (· ∈ [g1]) w0 wm),z,hn,h6,h2.e s9⟩
def Q36 (w0:World)(g1:Nat)(B:Zone)(A0:Option Addr)(N0 C0:Nat)(A1:Option Addr)(N1 C1:Nat)(x1:a_P)(r:Bool×Int×Int)(v:Value)(w':World):Prop:=Chg (· ∈ [g1]) w0 w'/\un3 (fun I G H=>(vB I)=v/\inI G/\inI H/\Blk w' g1 [sl A0 N0 C0,sl A1 N1 C1,vI G,vI H]) r
theorem W_w3b {x1:a_P}{g1:Nat}{x2:e_}{x3:Str}{res:Bool×Int×Int}(hm:h_p n x1 x2 x3=some res)(hB1:Blk w0 g1 [sl A0 N0 C0,sl A1 N1 C1,vI x1.rule,vI x1.at_])(a0:B<=w0.z)(hBg:¬B g1)(a1:repS w0 B (sl A0 N0 C0) x1.d.rules)(a2:repS w0 B (sl A1 N1 C1) x1.b)(W:inI x1.rule)(a9:inI x1.at_)(aO:x2.name.b.length<=LEN)(aP:inI x2.kind)(aQ:inI x2.size)(aR:repS w0 B (sl A3 N3 C3) x2.bytes)(aS:repS w0 B (sl A4 N4 C4) x2.names)(aT:repS w0 B (sl A2 N2 C2) x2.tags)(Y:repS w0 B (sl A5 N5 C5) x2.kids)(aa:x3.b.length<=LEN):i_ prog 85 [pt g1,.agg #[Str.v x2.name,vI x2.kind,vI x2.size,vB x2.little,sl A3 N3 C3,sl A4 N4 C4,sl A2 N2 C2,sl A5 N5 C5],Str.v x3] w0 (Q36 w0 g1 B A0 N0 C0 A1 N1 C1 x1 res):=by
 unfold h_p at hm
 refine goG func85 z z z fun fn hr=>Ws<|E z (fb z) ?_
 rintro _ wb ⟨rfl,hn⟩;have V:=hn.below;refine Rw z<|p_B 0 z<|Wm z ?_
 obtain ⟨rm,an,ao,ab⟩:=a_3 hm;refine E z (fc call119 z<|j_T ao (zt' a0 V.s) aa) ?_;rintro _ we ⟨s9,rfl,ap⟩;refine Rm z<|Re z z z<|Re z z z<|Ra z<|Rw z<|Wm z<|Rf z N_ z ?_
 have hf:=(hn.blk:Blk wb w0.z (vR x2 A3 N3 C3 A4 N4 C4 A2 N2 C2 A5 N5 C5)).e s9;refine R z (l0 A_ z<|hf.at z) ?_;obtain ⟨_,aq,ad⟩:=bdS ab;have ha:=(V.ag B).e s9;refine RX z (at_ (α:=Int) x_ z_3 z z z (Y.g ha) aq) ?_;rintro _ ⟨_,_,_,rfl,ar,au,_⟩;obtain ⟨rfl,av⟩:=O_ au;refine R z (l0 g_3 z<|ar.at0 z) ?_;have ho:=lt_ V.s s9.s;obtain ⟨rp,aw,_,ax,ae⟩:=I_ ad;refine E z (fc call121 z<|W_w22 (B:=B) ax ((hB1.e V).e s9) (zt' a0 ho) hBg (a1.g ha) (a2.g ha) W a9 av) ?_;rintro _ L ⟨s5,rfl,_,hq,ht⟩;refine Rm z<|Re z z z<|Re z z z<|Ra z<|Rw z<|Wq<|Wq ?_
 obtain ⟨ay,hur,hms⟩:=bdS ae;refine Wt (fun a w=>∃(xg:Bool),xg=ay/\Sat 58 [(0,pt g1),(4,pt w0.z),(7,vI rm),(39,vB xg)] a/\Below L.z L w) ?_ ?_
 ·refine Wg<|Rm z<|R z (not_ z)<|Rm z ?_
  rcases bs (!an) with H | H
  ·exact Nh z H<|Nh z H<|R z (pT z H z)<|Rm z<|Nh z z<|Nh z z<|R z (pT z z z)<|Rm z<|Nh z z<|Nh z z<|Nh z z<|R z (pT z z z)<|Wl (fun _ q=>⟨true,som<|ifT hur H,q.k<|s4 z z z z,br L⟩)
  have hmu:=ifF hur H;refine Rh z H (mv z)<|Rh z H (not_ z)<|R z (pF z H z)<|Rm z ?_
  rcases bs (!aw) with I | I
  ·exact Nh z I<|Nh z I<|R z (pT z I z)<|Rm z<|Nh z z<|Nh z z<|Nh z z<|R z (pT z z z)<|Wl (fun _ q=>⟨true,som<|ifT hmu I,q.k<|s4 z z z z,br L⟩)
  have hmv:=ifF hmu I;refine Rh z I (mv z)<|Rh z I (a_i z z)<|R z (pF z I z)<|Rm z ?_
  rcases bs (decide<|40<rp) with J | J
  ·iterate 3 refine Nh z J ?_
   exact R z (pT z J z)<|Wl (fun _ q=>⟨true,som<|ifT hmv J,q.k<|s4 z z z z,br L⟩)
  exact Rh z J (mv z)<|Rh z J (mv z)<|Rh z J (b_s z z)<|R z (pF z J z)<|Wl (fun _ q=>⟨decide<|rp<=rm,som<|ifF hmv J,q.k<|s4 z z z z,br L⟩)
 rintro az O ⟨xg,rfl,_,G⟩;revert az;refine Wo<|Wc z (fun hch=>?_) (fun hch=>?_)
 ·refine Ws<|Rw z ?_
  obtain rfl:=som<|ifT hms hch;exact k_c<|d_ hr z ⟨(h_ (cM (h_ (h_ (cr [g1] w0) V:Chg (· ∈ [g1]) w0 wb) s9:Chg (· ∈ [g1]) w0 we) s5 (io sr):Chg (· ∈ [g1]) w0 L) G:Chg (· ∈ [g1]) w0 O),z,W,hq,ht.e G⟩
 refine Wk ?_;obtain ⟨_,af,ah⟩:=gotoS<|ifF hms hch;refine p_C (σ:=Int×Int) (ρ:=Bool×Int×Int) (fun s a w=>un2 (fun xc xd=>Sat 58 [(0,pt g1),(4,pt w0.z),(7,vI xc)] a/\Chg (· ∈ [g1]) O w/\inI xc/\inI xd/\Blk w g1 [sl A0 N0 C0,sl A1 N1 C1,vI x1.rule,vI xd]) s) (rQ prog fn<|Q36 w0 g1 B A0 N0 C0 A1 N1 C1 x1) af ?_ ?_ ?_
 ·exact fun _ q=>⟨q.k<|s3 z z z,cr [g1] O,ap,hq,ht.e G⟩
 ·rintro ⟨xc,xd⟩ _ wi _ ⟨ai,s7,_,hw,hx⟩ aj;have hmy:=a_G aj;refine Wu ?_ ai;refine Wq<|Wm z<|R z (a_i z z)<|Wx z (fun hcj=>?_) (fun hcj=>?_)
  ·refine Wq<|Wm z<|Rf z N_ z ?_
   have hz:=mmr<|Blk.lt hB1
   refine R z (l0 A_ z<|(((hf.c s5<|atp hz).e G).c s7<|atp hz).at z) ?_;obtain ⟨_,aA,ak⟩:=bdS<|ifT hmy hcj;have hk:=((ha.c s5<|g_<|f_ hBg).e G).c s7<|g_<|f_ hBg
   refine RX z (at_ (α:=Int) x_ z_3 z z z (Y.g hk) aA) ?_;rintro _ ⟨_,_,_,rfl,aB,aC,_⟩;obtain ⟨rfl,aD⟩:=O_ aC;refine R z (l0 g_3 z<|aB.at0 z) ?_;obtain ⟨_,aE,aF,a3⟩:=a_3 ak;refine E z (fc call47 z<|i_0 (B:=B) aF hx (zt' a0<|lt_ (lt_ (lt_ ho s5.s) G.s) s7.s) hBg (a1.g hk) (a2.g hk) W hw aD) ?_;rintro _ a4 ⟨a5,rfl,a6,a7⟩;refine R z (not_ z)<|Wx z (fun hcl=>?_) (fun hcl=>?_)
   ·refine Ws<|Rw z ?_
    exact k_c<|qL (som<|ifT a3 hcl).symm<|d_ hr z ⟨(cM (cM (h_ (cM (h_ (h_ (cr [g1] w0) V:Chg (· ∈ [g1]) w0 wb) s9:Chg (· ∈ [g1]) w0 we) s5 (io sr):Chg (· ∈ [g1]) w0 L) G:Chg (· ∈ [g1]) w0 O) s7 (io sr):Chg (· ∈ [g1]) w0 wi) a5 (io sr):Chg (· ∈ [g1]) w0 a4),z,W,a6,a7⟩
   refine Wk<|Wm z<|R z (sb_ z z)<|Rw z ?_
   exact p_D fun _ q=>⟨rfl,(S_ xc 1,aE),(som<|ifF a3 hcl).symm,⟨q.k<|s3 z z z,(cM (cM (cr [g1] O) s7 (io sr):Chg (· ∈ [g1]) O wi) a5 (io sr):Chg (· ∈ [g1]) O a4),iS _ _,a6,a7⟩⟩
  refine Wk<|Wm z<|Rf z N_ z ?_
  have a8:=mmr<|Blk.lt hB1
  refine R z (l0 A_ z<|(((hf.c s5<|atp a8).e G).c s7<|atp a8).at z) ?_;obtain ⟨aG,aH,al⟩:=bdS<|ifF hmy hcj;refine RX z (at_ (α:=Int) x_ z_3 z z z (Y.g<|((ha.c s5<|g_<|f_ hBg).e G).c s7<|g_<|f_ hBg) aH) ?_;rintro _ ⟨_,_,_,rfl,aI,aJ,_⟩;obtain ⟨rfl,aK⟩:=O_ aJ;refine R z (l0 g_3 z<|aI.at0 z)<|R z (B_ z)<|Rf z e_j z<|E0 (fs0 (cur':=[sl A0 N0 C0,sl A1 N1 C1,vI aG,vI xd]) z_3 z z hx z z z z) ?_
  rintro _ aL ⟨aM,aN⟩;refine Wn<|Ws<|Rw z ?_
  exact k_c<|qL (som al).symm<|d_ hr z ⟨(cM (cM (h_ (cM (h_ (h_ (cr [g1] w0) V:Chg (· ∈ [g1]) w0 wb) s9:Chg (· ∈ [g1]) w0 we) s5 (io sr):Chg (· ∈ [g1]) w0 L) G:Chg (· ∈ [g1]) w0 O) s7 (io sr):Chg (· ∈ [g1]) w0 wi) aN.one (io sr):Chg (· ∈ [g1]) w0 aL),z,aK,hw,aM⟩
 rintro _ _ _ ⟨rfl,am⟩;obtain rfl:=som ah;exact ⟨am,z⟩
theorem W_w3c {x1:a_P}{g1:Nat}{x2:e_}{x3:Str}{res:Bool×Int×Int}(hm:h_q n x1 x2 x3=some res)(hB1:Blk w0 g1 [sl A0 N0 C0,sl A1 N1 C1,vI x1.rule,vI x1.at_])(Y:B<=w0.z)(hBg:¬B g1)(a0:repS w0 B (sl A0 N0 C0) x1.d.rules)(a1:repS w0 B (sl A1 N1 C1) x1.b)(O:inI x1.rule)(a2:inI x1.at_)(aK:x2.name.b.length<=LEN)(aL:inI x2.kind)(aM:inI x2.size)(aN:repS w0 B (sl A3 N3 C3) x2.bytes)(V:repS w0 B (sl A4 N4 C4) x2.names)(aO:repS w0 B (sl A2 N2 C2) x2.tags)(W:repS w0 B (sl A5 N5 C5) x2.kids)(a3:x3.b.length<=LEN):i_ prog 86 [pt g1,.agg #[Str.v x2.name,vI x2.kind,vI x2.size,vB x2.little,sl A3 N3 C3,sl A4 N4 C4,sl A2 N2 C2,sl A5 N5 C5],Str.v x3] w0 (Q36 w0 g1 B A0 N0 C0 A1 N1 C1 x1 res):=by
 unfold h_q at hm
 refine goG func86 z z z fun fn hr=>Ws<|E z (fb z) ?_
 rintro _ H ⟨rfl,hh⟩;have h3:=hh.below;have ha:Blk H w0.z (vR x2 A3 N3 C3 A4 N4 C4 A2 N2 C2 A5 N5 C5):=hh.blk;refine Rw z<|Wq<|Ws<|Rf z b_y z<|R z (l0 a_I z<|ha.at z)<|R z (lnR T_ z<|V.e h3)<|Rm z<|Wn ?_
 obtain ⟨_,huv,hmi⟩:=bdS hm;refine Wf (σ:=Int) (ρ:=Bool×Int×Int) (fun (kb:Nat)(x4:Int) a w=>Sat 44 [(0,pt g1),(2,Str.v x3),(4,pt w0.z),(10,sl A4 N4 C4),(11,vI (x2.names.length:Int)),(12,vI ((kb:Nat):Int))] a/\Chg (· ∈ [g1]) H w/\inI x4/\Blk w g1 [sl A0 N0 C0,sl A1 N1 C1,vI x1.rule,vI x4]) (fun (x4:Int) a w=>Sat 44 [] a/\Chg (· ∈ [g1]) H w/\inI x4/\Blk w g1 [sl A0 N0 C0,sl A1 N1 C1,vI x1.rule,vI x4]) (rQ prog fn<|Q36 w0 g1 B A0 N0 C0 A1 N1 C1 x1) huv ?_ ?_ ?_ ?_ ?_
 ·exact fun _ q=>⟨q.k<|s6 z z z z z z,cr [g1] H,a2,hB1.e h3⟩
 ·rintro kb x4 _ I _ hkj ⟨hSw,s5,h6,J⟩ hmx;refine Wu ?_ hSw;refine Ws<|Rl z z z<|Wn<|Wq<|Wc z (fun _=>?_) (fun hc=>(V_ hkj hc).elim)
  refine Wk<|Wq<|Wb<|Wm z ?_
  obtain ⟨_,ey,hmk⟩:=bdS hmx;have hd:=(h3.ag B).c s5<|g_<|f_ hBg
  have hl:=V.g hd;refine RX z (at_ (α:=Str) T_ z_9 z z z hl ey) ?_;rintro _ ⟨_,_,_,rfl,hz,ae,_⟩;obtain ⟨rfl,_⟩:=b_2 ae;refine R z (l0 g_9 z<|hz.at0 z)<|Ra z<|Rw z<|Wq<|Wm z<|Rm z<|R z (a_V z z)<|Wx z (fun hcc=>?_) (fun hcc=>?_)
  ·refine Wm z<|Rf z N_ z<|R z (l0 A_ z<|(ha.c s5<|atp<|mmr<|Blk.lt hB1).at z)<|Rm z ?_
   obtain ⟨af,ah,a4⟩:=bdS<|ifT hmk hcc;refine RX z (at_ (α:=Int) x_ z_3 z z z (W.g hd) ah) ?_;rintro _ ⟨_,_,_,rfl,ai,aj,_⟩;obtain ⟨rfl,ak⟩:=O_ aj;refine R z (l0 g_3 z<|ai.at0 z)<|R z (B_ z)<|Rf z e_j z<|E0 (fs0 (cur':=[sl A0 N0 C0,sl A1 N1 C1,vI af,vI x4]) z_3 z z J z z z z) ?_
   rintro _ al ⟨am,an⟩;refine Wn<|Ws<|Rw z ?_
   exact Wr<|rtO<|qL (som a4).symm<|d_ hr z ⟨(cM (cM (h_ (cr [g1] w0) h3:Chg (· ∈ [g1]) w0 H) s5 (io sr):Chg (· ∈ [g1]) w0 I) an.one (io sr):Chg (· ∈ [g1]) w0 al),z,ak,h6,am⟩
  refine Wk<|Wq ?_
  obtain ⟨ao,a5,a6⟩:=bdS<|ifF hmk hcc;refine Wt (fun a w=>∃(xe:Bool)(L:Int),(xe,L)=ao/\Sat 44 [(0,pt g1),(2,Str.v x3),(4,pt w0.z),(10,sl A4 N4 C4),(11,vI (x2.names.length:Int)),(12,vI ((kb:Nat):Int)),(42,vB xe)] a/\Chg (· ∈ [g1]) I w/\inI L/\Blk w g1 [sl A0 N0 C0,sl A1 N1 C1,vI x1.rule,vI L]) ?_ ?_
  ·refine Wg<|Rf z b_y z ?_
   have hn:=ha.c s5<|atp<|mmr<|Blk.lt hB1
   refine R z (l0 a_I z<|hn.at z)<|Rm z ?_
   have ho:=lt_ h3.s s5.s;obtain ⟨ap,aq,hmm⟩:=bdS a5;refine E z (fc call122 z<|W_w1k aq (zt' Y ho) hl a3) ?_;rintro _ wp ⟨s8,rfl⟩;refine R z (not_ z)<|Rm z ?_
   rcases bs (!ap) with G | G
   ·iterate 8 refine Nh z G ?_
    refine R z (pT z G z)<|Wl ?_
    exact fun _ q=>⟨true,x4,som<|ifT hmm G,q.k<|s7 z z z z z z z,(h_ (cr [g1] I) s8:Chg (· ∈ [g1]) I wp),h6,J.e s8⟩
   refine Rh z G (mv z)<|Rh z G (fd N_ z)<|Rh z G (l0 A_ z<|(hn.e s8).at z)<|Rh z G (mv z) ?_
   obtain ⟨_,ar,a7⟩:=bdS<|ifF hmm G;have hf:=hd.e s8;refine RXg z z G z (at_ (α:=Int) x_ z_3 z z z (W.g hf) ar) ?_;rintro _ ⟨_,_,_,rfl,au,av,_⟩;obtain ⟨rfl,aw⟩:=O_ av;refine Rh z G (l0 g_3 z<|au.at0 z) ?_;obtain ⟨ax,ay,az,a8⟩:=a_3 a7;refine Eg z z G z (fc call47 z<|i_0 (B:=B) az (J.e s8) (zt' Y<|lt_ ho s8.s) hBg (a0.g hf) (a1.g hf) O h6 aw) ?_;rintro _ aA ⟨aB,rfl,aC,aD⟩;refine Rh z G (not_ z)<|R z (pF z G z)<|Wl ?_
   exact fun _ q=>⟨!ax,ay,som a8,q.k<|s7 z z z z z z z,(cM (h_ (cr [g1] I) s8:Chg (· ∈ [g1]) I wp) aB (io sr):Chg (· ∈ [g1]) I aA),aC,aD⟩
  rintro aE wq ⟨xe,L,rfl,_,ss,ht,hu⟩;have hmr:=a_G a6;revert aE;refine Wo<|Wc z (fun hcg=>?_) (fun hcg=>?_)
  ·refine Ws<|Rw z ?_
   exact Wr<|rtO<|qL (som<|ifT hmr hcg).symm<|d_ hr z ⟨(cM (cM (h_ (cr [g1] w0) h3:Chg (· ∈ [g1]) w0 H) s5 (io sr):Chg (· ∈ [g1]) w0 I) ss (io sr):Chg (· ∈ [g1]) w0 wq),z,O,ht,hu⟩
  refine Wk<|Wg<|R z (inc_ hkj (lt_ (repS.len V) D_) z z)<|Rm z<|Wl ?_
  exact fun _ q=>⟨L,(som<|ifF hmr hcg).symm,⟨q.k<|s6 z z z z z z,(cM (cM (cr [g1] H) s5 (io sr):Chg (· ∈ [g1]) H I) ss (io sr):Chg (· ∈ [g1]) H wq),ht,hu⟩⟩
 ·rintro x4 _ aF ⟨a9,aG,h6,J⟩;refine Wu ?_ a9;refine Ws<|Rl z z z<|Wn<|Wq<|Wc z (fun hc=>(W_ hc).elim) (fun _=>?_)
  exact We<|fun _ q=>⟨rfl,⟨q.k sn,(cM (cr [g1] H) aG (io sr):Chg (· ∈ [g1]) H aF),h6,J⟩⟩
 ·rintro x4 aH aI rfl ⟨_,aJ,h6,J⟩;have aa:=elL hmi;revert aH;refine Wo<|Ws<|Rw z ?_
  obtain rfl:=som aa;exact Wr<|d_ hr z ⟨(cM (h_ (cr [g1] w0) h3:Chg (· ∈ [g1]) w0 H) aJ (io sr):Chg (· ∈ [g1]) w0 aI),z,O,h6,J⟩
 rintro _ _ _ _ rfl ⟨rfl,ab⟩;have ad:=elR hmi;obtain rfl:=som ad;exact ⟨ab,z⟩
theorem W_w3d {x1:Int}{x2:Int}{G H:Nat}{res:Bool}(hm:j_b x1 x2=some res)(V:B<=w0.z)(J:inI x1)(L:inI x2)(I:P_ w0 G H [vI x2])(O:B G):i_ prog 124 [vI x1,(.pointer<|some ⟨G,H,none⟩)] w0 (Q7 w0 B res):=by
 unfold j_b at hm
 refine goG func124 z z z fun fn hr=>Ws<|Rw z<|Wm z<|R z (l0 g_3 z<|I.at0 z)<|Rq z z z<|Rw z ?_
 obtain rfl:=som hm;exact Wr<|d_ hr z ⟨br w0,z⟩
theorem W_w3e {x1:List Int}{J:Int}{H L:Nat}{res:Int}(hm:h_r x1 J=some res)(a2:B<=w0.z)(I:repS w0 B (sl A0 N0 C0) x1)(p2c0_0:inI J)(a1:P_ w0 H L [vI J])(a0:B H):i_ prog 123 [sl A0 N0 C0,(.func (.func 124) #[] #[(.pointer<|some ⟨H,L,none⟩)])] w0 (Q0 w0 B res):=by
 unfold h_r at hm
 refine goG func123 z z z fun fn hr=>Ws<|Rw z<|Wq<|Wm z<|R z (lnR x_ z I)<|Rm z<|Wn ?_
 obtain ⟨_,a3,W⟩:=bdS hm;refine Wf (σ:=Unit) (ρ:=Int) (fun (k4:Nat)(_:Unit) a w=>Sat 19 [(1,.func (.func 124) #[] #[(.pointer<|some ⟨H,L,none⟩)]),(7,sl A0 N0 C0),(8,vI (x1.length:Int)),(9,vI ((k4:Nat):Int))] a/\Below w0.z w0 w) (fun (_:Unit) a w=>Sat 19 [] a/\Below w0.z w0 w) (rQ prog fn<|Q0 w0 B) a3 ?_ ?_ ?_ ?_ ?_
 ·exact fun _ q=>⟨q.k<|s4 z z z z,br w0⟩
 ·rintro k4 _ _ _ _ O ⟨a4,G⟩ a5;refine Wu ?_ a4;refine Ws<|Rl z z z<|Wn<|Wq<|Wc z (fun _=>?_) (fun hc=>(V_ O hc).elim)
  refine Wk<|Wq<|Wb<|Wm z ?_
  obtain ⟨_,ea,hmb⟩:=bdS a5;refine RX z (at_ (α:=Int) x_ z_3 z z z (I.e G) ea) ?_;rintro _ ⟨_,_,_,rfl,hd,he,_⟩;obtain ⟨rfl,hf⟩:=O_ he;refine R z (l0 g_3 z<|hd.at0 z)<|Ra z<|Rw z<|Wm z<|Rm z ?_
  obtain ⟨_,ec,Y⟩:=bdS hmb;refine E z (i_5 call124 z z<|W_w3d ec (zt' a2 G.s) hf p2c0_0 (a1.e G) a0) ?_;rintro _ _ ⟨s6,rfl⟩;refine Wx z (fun V=>?_) (fun V=>?_)
  ·exact Wm z<|Rw z<|Wr<|rtO<|qL (som<|ifT Y V).symm<|d_ hr z ⟨bup G s6,z,ic (Nat.le_of_lt O)<|lt_ (repS.len I) D_⟩
  exact Wk<|Wg<|R z (inc_ O (lt_ (repS.len I) D_) z z)<|Rm z<|Wl (fun _ q=>⟨(),(som<|ifF Y V).symm,⟨q.k<|s4 z z z z,bup G s6⟩⟩)
 ·rintro _ _ _ ⟨hSg,sh⟩;refine Wu ?_ hSg;refine Ws<|Rl z z z<|Wn<|Wq<|Wc z (fun hc=>(W_ hc).elim) (fun _=>?_)
  exact We<|fun _ q=>⟨rfl,⟨q.k sn,sh⟩⟩
 ·rintro _ ai _ rfl ⟨_,sj⟩;have hmk:=elL W;revert ai;refine Wo<|Ws<|Rw z ?_
  obtain rfl:=som hmk;exact Wr<|d_ hr z ⟨sj,z,ii z⟩
 rintro _ _ _ _ rfl ⟨rfl,hql⟩;have hmm:=elR W;obtain rfl:=som hmm;exact ⟨hql,z⟩
theorem W_w3f {x1:a_P}{g1:Nat}{x2:e_}{res:Bool×Int×Int}(hm:h_s n x1 x2=some res)(hB1:Blk w0 g1 [sl A0 N0 C0,sl A1 N1 C1,vI x1.rule,vI x1.at_])(L:B<=w0.z)(hBg:¬B g1)(W:repS w0 B (sl A0 N0 C0) x1.d.rules)(Y:repS w0 B (sl A1 N1 C1) x1.b)(O:inI x1.rule)(a0:inI x1.at_)(al:x2.name.b.length<=LEN)(am:inI x2.kind)(an:inI x2.size)(ao:repS w0 B (sl A3 N3 C3) x2.bytes)(ap:repS w0 B (sl A4 N4 C4) x2.names)(a1:repS w0 B (sl A2 N2 C2) x2.tags)(V:repS w0 B (sl A5 N5 C5) x2.kids):i_ prog 87 [pt g1,(.agg #[Str.v x2.name,vI x2.kind,vI x2.size,vB x2.little,sl A3 N3 C3,sl A4 N4 C4,sl A2 N2 C2,sl A5 N5 C5])] w0 (Q36 w0 g1 B A0 N0 C0 A1 N1 C1 x1 res):=by
 unfold h_s at hm
 refine goG func87 z z z fun fn hr=>Ws<|E z (fb z) ?_
 rintro _ wb ⟨rfl,hf⟩;have H:=hf.below;have hc:Blk wb w0.z (vR x2 A3 N3 C3 A4 N4 C4 A2 N2 C2 A5 N5 C5):=hf.blk;refine Rw z<|Wm z<|Rf z N_ z<|R z (l0 A_ z<|hc.at z) ?_
 obtain ⟨_,er,hms⟩:=bdS hm;refine RX z (at_ (α:=Int) x_ z_3 z z z (V.e H) er) ?_;rintro _ ⟨_,_,_,rfl,ht,hu,_⟩;obtain ⟨rfl,hv⟩:=O_ hu;refine R z (l0 g_3 z<|ht.at0 z) ?_;obtain ⟨rx,ry,rz,ew,a2⟩:=I_ hms;refine E z (fc call121 z<|W_w22 (B:=B) ew (hB1.e H) (zt' L H.s) hBg (W.e H) (Y.e H) O a0 hv) ?_;rintro _ I ⟨s5,rfl,a5,hg,hh⟩;refine Rm z<|Re z z z<|Re z z z<|E z (fa zero_3) ?_
 rintro _ wa ⟨rfl,hi⟩;have h2:=hi.below;have hj:Blk wa I.z [vI 0]:=hi.blk;refine E0 (fs0 (cur':=[vI rx]) z_3 z z hj z z z z) ?_;rintro _ wk ⟨a6,a7⟩;have h3:=a7.one;refine Rw z<|Ws<|Rf z a_R z ?_
 have hl:=((hc.c s5<|atp<|mmr<|Blk.lt hB1).e h2).c h3<|djs<|mm1 hc.lt s5.s
 refine R z (l0 A_ z<|hl.at z)<|R z (k_2 z) ?_
 have h6:=lt_ H.s s5.s;have hn:=(((H.ag B).c s5<|g_<|f_ hBg).e h2).c h3<|g_ (or0 (f_ lr) (t_<|zt' L h6):∀k∈[I.z],¬B k)
 obtain ⟨rm,a8,a3⟩:=bdS a2;refine E z (fc call123 z<|W_w3e (B:=wa.z) a8 (a_p h3.s) (repS.mono (a1.g hn)<|zt' L<|lt_ h6 h2.s) a5 (a6.row 0 1 z) hj.lt) ?_;rintro _ J ⟨s8,rfl,_⟩;refine Rw z<|Wq<|Wq ?_
 obtain ⟨a9,huo,hmp⟩:=bdS a3;refine Wt (fun a w=>∃(xd:Bool),xd=a9/\Sat 36 [(0,pt g1),(3,pt w0.z),(7,vI rm),(26,vB xd)] a/\Below J.z J w) ?_ ?_
 ·refine Wg<|Rm z<|R z (not_ z)<|Rm z ?_
  rcases bs (!ry) with G | G
  ·exact Nh z G<|Nh z G<|R z (pT z G z)<|Wl (fun _ q=>⟨true,som<|ifT huo G,q.k<|s4 z z z z,br J⟩)
  exact Rh z G (mv z)<|Rh z G (lss z z)<|R z (pF z G z)<|Wl (fun _ q=>⟨decide<|rm<0,som<|ifF huo G,q.k<|s4 z z z z,br J⟩)
 rintro aa wq ⟨xd,rfl,_,s9⟩;revert aa;refine Wo<|Wc z (fun hce=>?_) (fun hce=>?_)
 ·refine Ws<|Rw z ?_
  obtain rfl:=som<|ifT hmp hce;exact Wr<|d_ hr z ⟨(h_ (h_ (cM (h_ (cM (h_ (cr [g1] w0) H:Chg (· ∈ [g1]) w0 wb) s5 (io sr):Chg (· ∈ [g1]) w0 I) h2:Chg (· ∈ [g1]) w0 wa) h3 (mor h6:∀k∈[I.z],k∈[g1]∨w0.z<=k):Chg (· ∈ [g1]) w0 wk) s8:Chg (· ∈ [g1]) w0 J) s9:Chg (· ∈ [g1]) w0 wq),z,O,hg,(((hh.e h2).c h3<|djs<|mm1 (Blk.lt hB1) h6).e s8).e s9⟩
 refine Wk<|Wm z<|Rf z N_ z<|R z (l0 A_ z<|((hl.e s8).e s9).at z)<|Rm z<|R z (add_ z z) ?_
 obtain ⟨ab,ad,a4⟩:=bdS<|ifF hmp hce;refine RX z (at_ (α:=Int) x_ z_3 z z z (V.g<|(hn.e s8).e s9) ad) ?_;rintro _ ⟨_,_,_,rfl,ae,af,_⟩;obtain ⟨rfl,ah⟩:=O_ af;refine R z (l0 g_3 z<|ae.at0 z)<|R z (B_ z)<|Rf z e_j z<|E0 (fs0 (cur':=[sl A0 N0 C0,sl A1 N1 C1,vI ab,vI rz]) z_3 z z ((((hh.e h2).c h3<|djs<|mm1 (Blk.lt hB1) h6).e s8).e s9) z z z z) ?_
 rintro _ ai ⟨aj,ak⟩;refine Wn<|Ws<|Rw z ?_
 obtain rfl:=som a4;exact Wr<|d_ hr z ⟨(cM (h_ (h_ (cM (h_ (cM (h_ (cr [g1] w0) H:Chg (· ∈ [g1]) w0 wb) s5 (io sr):Chg (· ∈ [g1]) w0 I) h2:Chg (· ∈ [g1]) w0 wa) h3 (mor h6:∀k∈[I.z],k∈[g1]∨w0.z<=k):Chg (· ∈ [g1]) w0 wk) s8:Chg (· ∈ [g1]) w0 J) s9:Chg (· ∈ [g1]) w0 wq) ak.one (io sr):Chg (· ∈ [g1]) w0 ai),z,ah,hg,aj⟩
theorem W_w3g {x1:a_P}{g1:Nat}{x2:Str}{res:Bool×Int×Int}(hm:f_M n x1 x2=some res)(hB1:Blk w0 g1 [sl A0 N0 C0,sl A1 N1 C1,vI x1.rule,vI x1.at_])(V:B<=w0.z)(hBg:¬B g1)(a0:repS w0 B (sl A0 N0 C0) x1.d.rules)(a1:repS w0 B (sl A1 N1 C1) x1.b)(Y:inI x1.rule)(W:inI x1.at_)(au:x2.b.length<=LEN):i_ prog 46 [pt g1,Str.v x2] w0 (Q36 w0 g1 B A0 N0 C0 A1 N1 C1 x1 res):=by
 unfold f_M at hm
 refine goG func46 z z z fun fn hr=>Ws<|Rw z<|Wq (Wd (X:=noX) 4096 (pl_ 13 [11,12]) mo (by kernel_rfl) fun H G _=>dM z z z<|dR z z (B_ z)<|dR z z (fd j_k z)<|dR z z (fd a_9 z) ?_)
 have L:=hB1.e G;refine dR z z (l0 a_d z<|L.at z)<|dM z z z<|dR z z (B_ z)<|dR z z (fd e_j z)<|dR z z (l0 g_3 z<|L.at z) ?_
 obtain ⟨xe,aZ,av⟩:=bdS hm;refine dRX z z (at_ (α:=e_) a_0 m_ z z z (a0.e G) aZ) ?_;rintro _ ⟨_,_,_,rfl,b0,b1,_⟩;obtain ⟨ah,ni,cj,ak,nl,cm,an,no,cp,aq,nr,cs,rfl,ab,ad,ae,af,ai,aj,hu⟩:=a_w b1;refine dR z z (lN (vs:=vR xe ah ni cj ak nl cm an no cp aq nr cs) G_ m_ z z fid b0)<|dE z z (fa b_l) (.inr fun _ _ h=>l_<|h.2.below) ?_
 rintro _ wg ⟨rfl,aF⟩;have h1:=aF.below;refine dE0 z (fs0 (cur':=vR xe ah ni cj ak nl cm an no cp aq nr cs) m_ z z (aF.blk:Blk wg H.z [(Str.v (⟨[]⟩:Str)),vI 0,vI 0,vB false,sl none 0 0,sl none 0 0,sl none 0 0,sl none 0 0]) z z z z) (.inl z) ?_;rintro _ O ⟨ha,b2⟩;have h2:=b2.one;refine pD<|Wo<|Wq<|Wb<|Ws<|Rf z a_e z<|R z (l0 g_3 z<|ha.at z)<|Rq z z z<|Rw z<|Wc z (fun a4=>?_) (fun a4=>?_)
 ·refine Wm z<|R z (lN (vs:=vR xe ah ni cj ak nl cm an no cp aq nr cs) G_ m_ z z fid<|ha.row 0 8 z)<|Rm z ?_
  have aG:∀k∈[H.z],¬B k:=or0 (f_ lr)<|t_<|zt' V G.s;have aH:=((G.ag B).e h1).c h2<|g_ aG
  have hv:=(h1.ag B).c h2<|g_ aG
  obtain ⟨_,_,_,b3,aQ⟩:=I_<|ifT av a4;refine E z (fc call85 z<|W_w3b (B:=B) b3 ((L.e h1).c h2<|djs<|mm1 (Blk.lt hB1) G.s) (zt' V<|lt_ (lt_ G.s h1.s) h2.s) hBg (a0.g aH) (a1.g aH) Y W ab ad ae (af.g hv) (ai.g hv) (aj.g hv) (hu.g hv) au) ?_;rintro _ b4 ⟨b5,rfl,b6,b7,b8⟩;refine Rw z ?_
  obtain rfl:=som aQ;exact Wr<|rtO<|d_ hr z ⟨(cM (cM (h_ (h_ (cr [g1] w0) G:Chg (· ∈ [g1]) w0 H) h1:Chg (· ∈ [g1]) w0 wg) h2 (mor G.s:∀k∈[H.z],k∈[g1]∨w0.z<=k):Chg (· ∈ [g1]) w0 O) b5 (io sr):Chg (· ∈ [g1]) w0 b4),z,b6,b7,b8⟩
 have aw:=ifF av a4;refine Ws<|Rf z a_e z<|R z (l0 g_3 z<|ha.at z)<|Rq z z z<|Rw z<|Wc z (fun a5=>?_) (fun a5=>?_)
 ·refine Wm z<|R z (lN (vs:=vR xe ah ni cj ak nl cm an no cp aq nr cs) G_ m_ z z fid<|ha.row 0 8 z)<|Rm z ?_
  have aI:∀k∈[H.z],¬B k:=or0 (f_ lr)<|t_<|zt' V G.s;have aJ:=((G.ag B).e h1).c h2<|g_ aI
  have hw:=(h1.ag B).c h2<|g_ aI
  obtain ⟨_,_,_,b9,aR⟩:=I_<|ifT aw a5;refine E z (fc call86 z<|W_w3c (B:=B) b9 ((L.e h1).c h2<|djs<|mm1 (Blk.lt hB1) G.s) (zt' V<|lt_ (lt_ G.s h1.s) h2.s) hBg (a0.g aJ) (a1.g aJ) Y W ab ad ae (af.g hw) (ai.g hw) (aj.g hw) (hu.g hw) au) ?_;rintro _ ba ⟨bb,rfl,bc,be,bf⟩;refine Rw z ?_
  obtain rfl:=som aR;exact Wr<|rtO<|d_ hr z ⟨(cM (cM (h_ (h_ (cr [g1] w0) G:Chg (· ∈ [g1]) w0 H) h1:Chg (· ∈ [g1]) w0 wg) h2 (mor G.s:∀k∈[H.z],k∈[g1]∨w0.z<=k):Chg (· ∈ [g1]) w0 O) bb (io sr):Chg (· ∈ [g1]) w0 ba),z,bc,be,bf⟩
 refine Wq ?_;obtain ⟨bg,ax,ay⟩:=bdS<|ifF aw a5;refine Wt (fun a w=>∃(al:Bool),al=bg/\Sat 97 [(0,pt g1),(1,Str.v x2),(5,pt H.z),(33,vB al)] a/\Below O.z O w) ?_ ?_
 ·refine Wg<|Rf z a_e z<|R z (l0 g_3 z<|ha.at z)<|Rq z z z<|Rm z ?_
  rcases bs (xe.kind==7) with hcb | hcb
  ·exact Rh z hcb (mv z)<|Rh z hcb (a_V z z)<|R z (pT z hcb z)<|Ra z<|Wl (fun _ q=>⟨x2.b==(⟨[42]⟩:Str).b,som<|ifT ax hcb,q.k<|s4 z z z z,br O⟩)
  exact Nh z hcb<|Nh z hcb<|R z (pF z hcb z)<|Ra z<|Wl (fun _ q=>⟨false,som<|ifF ax hcb,q.k<|s4 z z z z,br O⟩)
 rintro bh wf ⟨al,rfl,_,s5⟩;revert bh;refine Wo<|Wc z (fun a6=>?_) (fun a6=>?_)
 ·refine Wm z<|R z (lN (vs:=vR xe ah ni cj ak nl cm an no cp aq nr cs) G_ m_ z z fid<|(ha.e s5).row 0 8 z) ?_
  have aK:∀k∈[H.z],¬B k:=or0 (f_ lr)<|t_<|zt' V G.s;have aL:=(((G.ag B).e h1).c h2<|g_ aK).e s5;have hx:=((h1.ag B).c h2<|g_ aK).e s5;obtain ⟨_,_,_,bi,aS⟩:=I_<|ifT ay a6;refine E z (fc call87 z<|W_w3f (B:=B) bi (((L.e h1).c h2<|djs<|mm1 (Blk.lt hB1) G.s).e s5) (zt' V<|lt_ (lt_ (lt_ G.s h1.s) h2.s) s5.s) hBg (a0.g aL) (a1.g aL) Y W ab ad ae (af.g hx) (ai.g hx) (aj.g hx)<|hu.g hx) ?_;rintro _ bj ⟨bk,rfl,bm,bn,bo⟩;refine Rw z ?_
  obtain rfl:=som aS;exact Wr<|rtO<|d_ hr z ⟨(cM (h_ (cM (h_ (h_ (cr [g1] w0) G:Chg (· ∈ [g1]) w0 H) h1:Chg (· ∈ [g1]) w0 wg) h2 (mor G.s:∀k∈[H.z],k∈[g1]∨w0.z<=k):Chg (· ∈ [g1]) w0 O) s5:Chg (· ∈ [g1]) w0 wf) bk (io sr):Chg (· ∈ [g1]) w0 bj),z,bm,bn,bo⟩
 refine Wq ?_;obtain ⟨bp,az,aT⟩:=bdS<|ifF ay a6;refine Wt (fun a w=>∃(am:Bool),am=bp/\Sat 97 [(0,pt g1),(1,Str.v x2),(5,pt H.z),(44,vB am)] a/\Below wf.z wf w) ?_ ?_
 ·refine Wg<|Rf z a_e z<|R z (l0 g_3 z<|(ha.e s5).at z)<|Rq z z z<|Rm z ?_
  rcases bs (xe.kind==8) with hcc | hcc
  ·exact Rh z hcc (mv z)<|Rh z hcc (a_V z z)<|R z (pT z hcc z)<|Ra z<|Wl (fun _ q=>⟨x2.b==(⟨[63]⟩:Str).b,som<|ifT az hcc,q.k<|s4 z z z z,br wf⟩)
  exact Nh z hcc<|Nh z hcc<|R z (pF z hcc z)<|Ra z<|Wl (fun _ q=>⟨false,som<|ifF az hcc,q.k<|s4 z z z z,br wf⟩)
 rintro bq J ⟨am,rfl,_,s7⟩;revert bq;refine Wo ?_;obtain ⟨bt,aA,a7⟩:=bdS aT;refine Wt (fun a w=>∃(xt:Int),Sum.inl xt=bt/\Sat 97 [(0,pt g1),(5,pt H.z)] a/\Chg (· ∈ [g1]) J w/\inI xt/\Blk w g1 [sl A0 N0 C0,sl A1 N1 C1,vI x1.rule,vI xt]) ?_ ?_
 ·refine Wc z (fun a8=>?_)<|fun a8=>?_
  ·refine Wq<|Wq ?_
   obtain ⟨bu,aB,aC⟩:=bdS<|ifT aA a8;refine Wt (fun a w=>∃(ao:Bool),ao=bu/\Sat 97 [(0,pt g1),(5,pt H.z),(74,vB ao)] a/\Below J.z J w) ?_ ?_
   ·refine Wd (X:=noX) 0 (pl_ 23 []) mo (by kernel_rfl) fun bS sy _=>dM z z z<|dR z z (B_ z)<|dR z z (fd c_O z) ?_
    have hz:=((((L.e h1).c h2<|djs<|mm1 (Blk.lt hB1) G.s).e s5).e s7).e sy;refine dR z z (l0 g_3 z<|hz.at z)<|dM z z z<|dR z z (B_ z)<|dR z z (fd h_T z)<|dR z z (l0 R_ z<|hz.at z) ?_
    have aM:=a1.g<|(((((G.ag B).e h1).c h2<|g_ (or0 (f_ lr) (t_<|zt' V G.s):∀k∈[H.z],¬B k)).e s5).e s7).e sy
    refine dR z z (lnR o_ z aM)<|dR z z (b_s z z)<|dM z z z ?_
    rcases bs (decide<|(x1.b.length:Int)<=x1.at_) with I | I
    ·iterate 11 refine dRn z z z I z ?_
     exact dR z z (pT z I z)<|pD (fun _ q=>⟨true,som<|ifT aB I,q.k<|s3 z z z,sy⟩)
    refine dRg z z z I z (mv z)<|dRg z z z I z (B_ z)<|dRg z z z I z (fd h_T z)<|dRg z z z I z (l0 R_ z<|hz.at z)<|dRg z z z I z (mv z)<|dRg z z z I z (B_ z)<|dRg z z z I z (fd c_O z)<|dRg z z z I z (l0 g_3 z<|hz.at z) ?_
    obtain ⟨bv,bw,aU⟩:=bdS<|ifF aB I;refine b_M z z z I z (at_ (α:=UInt8) o_ z_5 z z z aM bw) ?_;rintro _ ⟨_,_,_,rfl,bx,bz,_⟩;obtain rfl:=u8 bz;exact dRg z z z I z (l0 g_5 z<|bx.at0 z)<|dRg z z z I z (nq z z)<|dR z z (pF z I z)<|pD (fun _ q=>⟨(byteI bv) != (byteI (1:UInt8)),som aU,q.k<|s3 z z z,sy⟩)
   rintro bA aN ⟨ao,rfl,_,a2⟩;revert bA;refine Wo<|Wc z (fun a9=>?_) (fun a9=>?_)
   ·refine Ws<|Rw z ?_
    obtain rfl:=som<|ifT aC a9;have aV:=elR a7;obtain rfl:=som aV;exact Wr<|rtO<|d_ hr z ⟨(h_ (h_ (h_ (cM (h_ (h_ (cr [g1] w0) G:Chg (· ∈ [g1]) w0 H) h1:Chg (· ∈ [g1]) w0 wg) h2 (mor G.s:∀k∈[H.z],k∈[g1]∨w0.z<=k):Chg (· ∈ [g1]) w0 O) s5:Chg (· ∈ [g1]) w0 wf) s7:Chg (· ∈ [g1]) w0 J) a2:Chg (· ∈ [g1]) w0 aN),z,Y,W,((((L.e h1).c h2<|djs<|mm1 (Blk.lt hB1) G.s).e s5).e s7).e a2⟩
   refine Wk<|Wg<|Rm z<|R z (B_ z)<|Rf z c_O z ?_
   have aO:=((((L.e h1).c h2<|djs<|mm1 (Blk.lt hB1) G.s).e s5).e s7).e a2;refine R z (l0 g_3 z<|aO.at z)<|R z (add_ z z)<|R z (B_ z)<|Rf z c_O z<|E0 (fs0 (cur':=[sl A0 N0 C0,sl A1 N1 C1,vI x1.rule,vI<|j_ x1.at_ 1]) z_3 z z aO z z z z) ?_
   rintro _ bB ⟨bC,bD⟩;refine Wl ?_;exact fun _ q=>⟨j_ x1.at_ 1,som<|ifF aC a9,q.k<|s2 z z,(cM (h_ (cr [g1] J) a2:Chg (· ∈ [g1]) J aN) bD.one (io sr):Chg (· ∈ [g1]) J bB),iA _ _,bC⟩
  refine Wq ?_;obtain ⟨bE,aD,aE⟩:=bdS<|ifF aA a8;refine Wt (fun a w=>∃(ap:Bool),ap=bE/\Sat 97 [(0,pt g1),(5,pt H.z),(82,vB ap)] a/\Below J.z J w) ?_ ?_
  ·refine Wg<|Rf z a_e z<|R z (l0 g_3 z<|((ha.e s5).e s7).at z)<|Rq z z z<|Rm z ?_
   rcases bs (xe.kind==9) with hcd | hcd
   ·exact Rh z hcd (mv z)<|Rh z hcd (a_V z z)<|R z (pT z hcd z)<|Ra z<|Wl (fun _ q=>⟨x2.b==(⟨[43]⟩:Str).b,som<|ifT aD hcd,q.k<|s3 z z z,br J⟩)
   exact Nh z hcd<|Nh z hcd<|R z (pF z hcd z)<|Ra z<|Wl (fun _ q=>⟨false,som<|ifF aD hcd,q.k<|s3 z z z,br J⟩)
  rintro bF aP ⟨ap,rfl,_,a3⟩;revert bF;refine Wo<|Wc z (fun aa=>?_) (fun aa=>?_)
  ·refine a_k ?_;exact fun _ q=>⟨x1.at_,som<|ifT aE aa,q.k<|s2 z z,(h_ (cr [g1] J) a3:Chg (· ∈ [g1]) J aP),W,((((L.e h1).c h2<|djs<|mm1 (Blk.lt hB1) G.s).e s5).e s7).e a3⟩
  refine Ws<|Rw z ?_
  obtain rfl:=som<|ifF aE aa;have aW:=elR a7;obtain rfl:=som aW;exact Wr<|rtO<|d_ hr z ⟨(h_ (h_ (h_ (cM (h_ (h_ (cr [g1] w0) G:Chg (· ∈ [g1]) w0 H) h1:Chg (· ∈ [g1]) w0 wg) h2 (mor G.s:∀k∈[H.z],k∈[g1]∨w0.z<=k):Chg (· ∈ [g1]) w0 O) s5:Chg (· ∈ [g1]) w0 wf) s7:Chg (· ∈ [g1]) w0 J) a3:Chg (· ∈ [g1]) w0 aP),z,Y,W,((((L.e h1).c h2<|djs<|mm1 (Blk.lt hB1) G.s).e s5).e s7).e a3⟩
 rintro bG bH ⟨xt,rfl,_,ar,bI,bJ⟩;have aX:=elL a7;revert bG;refine Wo<|Wm z<|Rf z N_ z<|R z (l0 A_ z<|(((ha.e s5).e s7).c ar<|atp<|mm1 (Blk.lt hB1) G.s).at z) ?_
 obtain ⟨bK,bL,aY⟩:=bdS aX;refine RX z (at_ (α:=Int) x_ z_3 z z z (hu.g<|((((h1.ag B).c h2<|g_ (or0 (f_ lr) (t_<|zt' V G.s):∀k∈[H.z],¬B k)).e s5).e s7).c ar<|g_<|f_ hBg) bL) ?_;rintro _ ⟨_,_,_,rfl,bM,bN,_⟩;obtain ⟨rfl,bO⟩:=O_ bN;refine R z (l0 g_3 z<|bM.at0 z)<|R z (B_ z)<|Rf z e_j z<|E0 (fs0 (cur':=[sl A0 N0 C0,sl A1 N1 C1,vI bK,vI xt]) z_3 z z bJ z z z z) ?_
 rintro _ bP ⟨bQ,bR⟩;refine Wn<|Ws<|Rw z ?_
 obtain rfl:=som aY;exact Wr<|d_ hr z ⟨(cM (cM (h_ (h_ (cM (h_ (h_ (cr [g1] w0) G:Chg (· ∈ [g1]) w0 H) h1:Chg (· ∈ [g1]) w0 wg) h2 (mor G.s:∀k∈[H.z],k∈[g1]∨w0.z<=k):Chg (· ∈ [g1]) w0 O) s5:Chg (· ∈ [g1]) w0 wf) s7:Chg (· ∈ [g1]) w0 J) ar (io sr):Chg (· ∈ [g1]) w0 bH) bR.one (io sr):Chg (· ∈ [g1]) w0 bP),z,bO,bI,bQ⟩
theorem W_w23 {x1:b_}{x2:List UInt8}{x3:Str}{res:k_×Bool}(hm:f_N n x1 x2 x3=some res)(O:B<=w0.z)(V:repS w0 B (sl A0 N0 C0) x1.rules)(W:repS w0 B (sl A6 N6 C6) x2)(Y:x3.b.length<=LEN):i_ prog 21 [(.agg #[sl A0 N0 C0]),sl A6 N6 C6,Str.v x3] w0 (Q17 w0 B res):=by
 unfold f_N at hm
 refine goG func21 z z z fun fn hr=>Ws<|E z (fb z) ?_
 rintro _ wj ⟨rfl,hz⟩;have h3:=hz.below;have a7:Blk wj w0.z [sl A0 N0 C0]:=hz.blk;refine E z (fa d_D) ?_;rintro _ aI ⟨rfl,a8⟩;have L:=a8.below;have hd:Blk aI wj.z [(Str.v (⟨[]⟩:Str)),vI 0,vI 0,vI 0]:=a8.blk;refine Rw z<|Wm z ?_
 have hn:=lt_ h3.s L.s;obtain ⟨aJ,aK,aL,ay⟩:=a_3 hm;refine E z (fc call44 z<|W_w21 aL (zt' O hn) Y) ?_;rintro _ wo ⟨G,a9,aa,ab,_,rfl,hk,_,_⟩;refine Rm z<|Re z z z<|Re z z z<|Ra z<|Rw z<|Wq<|Wq ?_
 obtain ⟨aM,a0,a1⟩:=bdS ay;refine Wt (fun a w=>∃(xp:Bool),xp=aM/\Sat 73 [(1,sl A6 N6 C6),(2,Str.v x3),(3,pt w0.z),(6,pt wj.z),(8,sl a9 aa ab),(30,vB xp)] a/\Below wo.z wo w) ?_ ?_
 ·refine Wg<|Rm z<|R z (not_ z)<|Rm z ?_
  rcases bs (!aK) with hca | hca
  ·iterate 3 refine Nh z hca ?_
   exact R z (pT z hca z)<|Rm z<|Nh z z<|Nh z z<|Nh z z<|R z (pT z z z)<|Wl (fun _ q=>⟨true,som<|ifT a0 hca,q.k<|s6 z z z z z z,br wo⟩)
  refine Rh z hca (lN (vs:=[sl A0 N0 C0]) w_ u_ z z fid<|((a7.e L).e G).row 0 1 z) ?_;have ad:=((h3.ag B).e L).e G;obtain ⟨aN,aO,a2⟩:=bdS<|ifF a0 hca;refine Eg z z hca z (fc call45 z<|W_w1l aO (zt' O<|lt_ hn G.s)<|V.g ad) ?_;rintro _ _ ⟨sq,rfl⟩;refine Rh z hca (not_ z)<|R z (pF z hca z)<|Rm z ?_
  rcases bs (!aN) with hcb | hcb
  ·iterate 3 refine Nh z hcb ?_
   exact R z (pT z hcb z)<|Wl (fun _ q=>⟨true,som<|ifT a2 hcb,q.k<|s6 z z z z z z,sq⟩)
  exact Rh z hcb (mv z)<|Rh z hcb (lnR o_ z<|W.g<|ad.e sq)<|Rh z hcb (a_i z z)<|R z (pF z hcb z)<|Wl (fun _ q=>⟨decide<|400<(x2.length:Int),som<|ifF a2 hcb,q.k<|s6 z z z z z z,sq⟩)
 rintro aP _ ⟨xp,rfl,_,s1⟩;revert aP;refine Wo<|Wc z (fun hcr=>?_) (fun hcr=>?_)
 ·refine Ws<|R z (bP (parts:=[]) (cs:=[(Str.v (⟨[]⟩:Str)),vI 0,vI 0,vI 0]) c_M z z)<|E0 (fs0 (cur':=[(Str.v (⟨[]⟩:Str)),vI 0,vI 0,vI 0]) a_v z z ((hd.e G).e s1) z z z z) ?_
  rintro _ _ ⟨aQ,aR⟩;refine Rw z ?_
  obtain rfl:=som<|ifT a1 hcr;exact Wr<|a_4 hr (q_ c_2 a_v z aQ z) z ⟨bM (bup (bup (bup h3 L) G) s1) aR.one<|m1 h3.s,z,lb z,ii z,ii z,ii z⟩
 refine Wk<|Wq (Wd (X:=noX) 0 (pl_ 7 [3,5]) mo (by kernel_rfl) fun bj s5 _=>?_)
 have ae:=(((a7.e L).e G).e s1).e s5;refine dR z z (lN (vs:=[sl A0 N0 C0]) w_ u_ z z fid<|ae.row 0 1 z)<|dM z z z<|dR z z (lN (vs:=[sl A0 N0 C0]) w_ u_ z z fid<|ae.row 0 1 z) ?_
 have ht:=((((h3.ag B).e L).e G).e s1).e s5;have hu:=lt_ (lt_ (lt_ hn G.s) s1.s) s5.s;obtain ⟨af,aS,az⟩:=bdS<|ifF a1 hcr;refine dE z z (fc call42 z<|e_W aS (zt' O hu)<|V.g ht) (.inr fun _ _ h=>l_<|h.1) ?_;rintro _ H ⟨s4,rfl,aT⟩;refine dR z z (bP (parts:=[(0,.tmp 32),(1,.tmp 33),(2,.tmp 35)]) (cs:=[sl A0 N0 C0,sl A6 N6 C6,vI af,vI 0]) o_p z z)<|dE z z (fb z) (.inr fun _ _ h=>l_<|h.2.below) ?_
 rintro _ wc ⟨rfl,ah⟩;have h6:=ah.below;refine dQ z z z<|pD<|Wo<|Wq<|Wm z ?_
 have ai:=(((hk.e s1).e s5).e s4).e h6;refine R z (lnR T_ z<|or_ ai<|a_.lt hk)<|Rm z<|Wn ?_
 obtain ⟨_,aA,a3⟩:=bdS az;refine Wf (σ:=Int×Int) (ρ:=k_×Bool) (fun (aj:Nat) s a w=>un2 (fun I J=>Sat 73 [(2,Str.v x3),(6,pt wj.z),(10,pt H.z),(38,sl a9 aa ab),(39,vI (aJ.length:Int)),(40,vI ((aj:Nat):Int))] a/\Chg (· ∈ [H.z]) wc w/\inI I/\inI J/\Blk w H.z [sl A0 N0 C0,sl A6 N6 C6,vI I,vI J]) s) (fun s a w=>un2 (fun I J=>Sat 73 [(2,Str.v x3),(6,pt wj.z),(10,pt H.z)] a/\Chg (· ∈ [H.z]) wc w/\inI I/\inI J/\Blk w H.z [sl A0 N0 C0,sl A6 N6 C6,vI I,vI J]) s) (rQ prog fn<|Q17 w0 B) aA ?_ ?_ ?_ ?_ ?_
 ·exact fun _ q=>⟨q.k<|s6 z z z z z z,cr [H.z] wc,aT,ii z,(ah.blk:Blk wc H.z [sl A0 N0 C0,sl A6 N6 C6,vI af,vI 0])⟩
 ·rintro aj ⟨I,J⟩ _ aU _ a4 ⟨aB,sg,he,hh,hf⟩ aC;refine Wu ?_ aB;refine Ws<|Rl z z z<|Wn<|Wq<|Wc z (fun _=>?_) (fun hc=>(V_ a4 hc).elim)
  refine Wk<|Wq<|Wb<|Ws ?_
  obtain ⟨_,aV,aD⟩:=bdS<|a_G aC;refine RX z (at_ (α:=Str) T_ z_9 z z z (or_ (ai.c sg<|ds<|mno (a_.lt hk)<|lt_ (lt_ s1.s s5.s) s4.s)<|a_.lt hk) aV) ?_;rintro _ ⟨_,_,_,rfl,aW,aX,_⟩;obtain ⟨rfl,aY⟩:=b_2 aX;refine R z (l0 g_9 z<|aW.at0 z)<|Rw z<|Wm z<|Rm z ?_
  have hv:=lt_ hu s4.s;have ak:∀k∈[H.z],¬B k:=or0 (f_ lr)<|t_<|zt' O hv;have al:=((ht.e s4).e h6).c sg<|g_ ak
  obtain ⟨_,aZ,b0,b1,a5⟩:=I_ aD;refine E z (fc call46 z<|W_w3g (B:=B) b1 hf (zt' O<|lt_ (lt_ hv h6.s) sg.s) (atp ak) (V.g al) (W.g al) he hh aY) ?_;rintro _ b2 ⟨ss,rfl,b3,b4,b5⟩;refine R z (not_ z)<|Wx z (fun hcw=>?_) (fun hcw=>?_)
  ·refine Ws<|R z (bP (parts:=[]) (cs:=[(Str.v (⟨[]⟩:Str)),vI 0,vI 0,vI 0]) c_M z z) ?_
   have am:=mm1 hd.lt<|lt_ (lt_ (lt_ G.s s1.s) s5.s) s4.s
   refine E0 (fs0 (cur':=[(Str.v (⟨[]⟩:Str)),vI 0,vI 0,vI 0]) a_v z z (((((((hd.e G).e s1).e s5).e s4).e h6).c sg<|djs am).c ss<|djs am) z z z z) ?_;rintro _ _ ⟨b6,b7⟩;refine Rw z ?_
   have an:=m1 hv;exact Wr<|rtO<|qL (som<|ifT a5 hcw).symm<|a_4 hr (q_ c_2 a_v z b6 z) z ⟨bM (bM (bM (bup (bup (bup (bup (bup (bup h3 L) G) s1) s5) s4) h6) sg an) ss an) b7.one<|m1 h3.s,z,lb z,ii z,ii z,ii z⟩
  refine Wk<|Wg<|R z (inc_ a4 (lt_ (a_.len hk) D_) z z)<|Rm z<|Wl ?_
  exact fun _ q=>⟨(aZ,b0),(som<|ifF a5 hcw).symm,⟨q.k<|s6 z z z z z z,(cM (cM (cr [H.z] wc) sg (io sr):Chg (· ∈ [H.z]) wc aU) ss (io sr):Chg (· ∈ [H.z]) wc b2),b3,b4,b5⟩⟩
 ·rintro ⟨I,J⟩ _ b8 ⟨aE,b9,he,hh,hf⟩;refine Wu ?_ aE;refine Ws<|Rl z z z<|Wn<|Wq<|Wc z (fun hc=>(W_ hc).elim) (fun _=>?_)
  exact We<|fun _ q=>⟨rfl,⟨q.k<|s3 z z z,(cM (cr [H.z] wc) b9 (io sr):Chg (· ∈ [H.z]) wc b8),he,hh,hf⟩⟩
 ·rintro ⟨I,J⟩ ba _ rfl ⟨_,si,he,hh,hf⟩;have aF:=elL a3;revert ba;refine Wo<|Wm z<|R z (B_ z)<|Rf z c_O z<|R z (l0 g_3 z<|hf.at z)<|Rw z<|Wq<|Wm z<|Rm z<|R z (B_ z)<|Rf z e_j z<|R z (l0 g_3 z<|hf.at z) ?_
  have hl:=lt_ hu s4.s;have ao:∀k∈[H.z],¬B k:=or0 (f_ lr)<|t_<|zt' O hl;have ap:=((ht.e s4).e h6).c si<|g_ ao
  obtain ⟨_,aq,bb,a6⟩:=a_3<|a_G aF;refine E z (fc call47 z<|i_0 (B:=B) bb hf (zt' O<|lt_ (lt_ hl h6.s) si.s) (atp ao) (V.g ap) (W.g ap) he hh he) ?_;rintro _ _ ⟨sm,rfl,bc,be⟩;refine R z (not_ z)<|Wx z (fun hcx=>?_) (fun hcx=>?_)
  ·refine Ws<|R z (bP (parts:=[]) (cs:=[(Str.v (⟨[]⟩:Str)),vI 0,vI 0,vI 0]) c_M z z) ?_
   have ar:=mm1 hd.lt<|lt_ (lt_ (lt_ G.s s1.s) s5.s) s4.s
   refine E0 (fs0 (cur':=[(Str.v (⟨[]⟩:Str)),vI 0,vI 0,vI 0]) a_v z z (((((((hd.e G).e s1).e s5).e s4).e h6).c si<|djs ar).c sm<|djs ar) z z z z) ?_;rintro _ _ ⟨bf,bg⟩;refine Rw z ?_
   obtain rfl:=som<|ifT a6 hcx;have au:=m1 hl;exact Wr<|a_4 hr (q_ c_2 a_v z bf z) z ⟨bM (bM (bM (bup (bup (bup (bup (bup (bup h3 L) G) s1) s5) s4) h6) si au) sm au) bg.one<|m1 h3.s,z,lb z,ii z,ii z,ii z⟩
  refine Wk<|Wq (Wd (X:=noX) 2048 (pl_ 13 [11]) mo (by kernel_rfl) fun bk sy _=>dM z z z<|dM z z z<|dR z z (B_ z)<|dR z z (fd e_j z) ?_)
  have av:=be.e sy;refine dR z z (l0 g_3 z<|av.at z)<|dM z z z<|dM z z z<|dR z z (B_ z)<|dR z z (fd c_O z)<|dR z z (l0 g_3 z<|av.at z)<|dR z z (bP (parts:=[(0,.tmp 62),(1,.tmp 66),(2,.tmp 67),(3,.tmp 71)]) (cs:=[Str.v x3,vI I,vI J,vI aq]) c_M z z) ?_
  have aw:=mm1 hd.lt<|lt_ (lt_ (lt_ G.s s1.s) s5.s) s4.s
  refine dE0 z (fs0 (cur':=[Str.v x3,vI I,vI J,vI aq]) a_v z z ((((((((hd.e G).e s1).e s5).e s4).e h6).c si<|djs aw).c sm<|djs aw).e sy) z z z z) (.inl z) ?_;rintro _ _ ⟨bh,bi⟩;refine dQ z z z<|pD<|Wo ?_
  obtain rfl:=som<|ifF a6 hcx;have ax:=m1 hl;exact Wr<|a_4 hr (q_ c_2 a_v z bh z) z ⟨bM (bup (bM (bM (bup (bup (bup (bup (bup (bup h3 L) G) s1) s5) s4) h6) si ax) sm ax) sy) bi.one<|m1 h3.s,z,Y,he,hh,bc⟩
 rintro _ _ _ _ rfl ⟨rfl,aG⟩;have aH:=elR a3;obtain rfl:=som aH;exact ⟨aG,z⟩
theorem W_w3h {x1:b_}{x2:List UInt8}{x3:Str}{res:Val×Int×Bool}(hm:h_F n x1 x2 x3=some res)(J:B<=w0.z)(hG:Gl w0 B)(L:repS w0 B (sl A0 N0 C0) x1.rules)(O:repS w0 B (sl A6 N6 C6) x2)(a6:x3.b.length<=LEN):i_ prog 48 [(.agg #[sl A0 N0 C0]),sl A6 N6 C6,Str.v x3] w0 (Q20 w0 B res):=by
 unfold h_F at hm
 refine goG func48 z z z fun fn hr=>Ws<|E z (fb z) ?_
 rintro _ wj ⟨rfl,hv⟩;have h3:=hv.below;have hw:Blk wj w0.z [sl A0 N0 C0]:=hv.blk;refine E z (fa J_) ?_;rintro _ a8 ⟨rfl,hx⟩;have h4:=hx.below;have h5:Blk a8 wj.z [vI 0,sl none 0 0,sl none 0 0]:=hx.blk;refine Ra z<|Rw z<|Ws ?_
 have hy:=hw.e h4;refine R z (lN (vs:=[sl A0 N0 C0]) w_ u_ z z fid<|hy.row 0 1 z)<|RM z z ?_
 have hk:=(h3.ag B).e h4;have hl:=lt_ h3.s h4.s;obtain ⟨ra,_,a9,hmr⟩:=a_3 hm;refine E z (fc call21 z<|W_w23 a9 (zt' J hl) (L.g hk) (O.g hk) a6) ?_;rintro _ ws ⟨G,rfl,_,hz,aa,_⟩;refine Rm z<|Re z z z<|Re z z z<|E z (fa d_D) ?_
 rintro _ ab ⟨rfl,V⟩;have h2:=V.below;have W:Blk ab ws.z [(Str.v (⟨[]⟩:Str)),vI 0,vI 0,vI 0]:=V.blk;refine E0 (fs0 (cur':=[Str.v ra.path,vI ra.rule,vI ra.start,vI ra.end_]) a_v z z W z z z z) ?_;rintro _ _ ⟨hn,ad⟩;have h1:=ad.one;refine Rw z<|Wq<|Wm z<|R z (not_ z)<|Wx z (fun hcm=>?_) (fun hcm=>?_)
 ·refine Ws<|R z (bP (parts:=[]) (cs:=[vI 0,sl none 0 0,sl none 0 0]) L_ z z)<|E0 (fs0 (cur':=[vI 0,sl none 0 0,sl none 0 0]) c_ z z (((h5.e G).e h2).c h1<|djs<|mm1 h5.lt G.s) z z z z) ?_
  rintro _ _ ⟨ae,ah⟩;refine Ra z<|Rw z ?_
  obtain rfl:=som<|ifT hmr hcm;exact Wr<|z_ hr (q_ r_ c_ z ae z) z z ⟨bM (bM (bup (bup (bup h3 h4) G) h2) h1<|m1<|lt_ hl G.s) ah.one<|m1 h3.s,none,0,0,[],none,0,0,[],z,ii z,onL,onL,ii z,nd0,al0⟩
 refine Wk<|Ws<|R z (lN (vs:=[sl A0 N0 C0]) w_ u_ z z fid<|(((hy.e G).e h2).c h1<|djs<|mm1 hw.lt<|lt_ h4.s G.s).row 0 1 z)<|Rf z h_S z<|R z (l0 g_3 z<|hn.at z)<|Rm z<|Rf z l_i z<|R z (l0 g_3 z<|hn.at z) ?_
 have ho:=lt_ hl G.s;have Y:∀k∈[ws.z],¬B k:=or0 (f_ lr)<|t_<|zt' J ho;have a0:=((hk.e G).e h2).c h1<|g_ Y
 have hb:=lt_ (lt_ ho h2.s) h1.s;obtain ⟨rp,_,_,ai,a7⟩:=I_<|ifF hmr hcm;refine E z (fc call43 z<|h_Y ai (zt' J hb) (((((hG.e h3).e h4).e G).e h2).c h1<|g_ Y) (L.g a0) hz (O.g a0) aa) ?_;rintro _ aj ⟨s6,ac,nd,ce,ak,af,ng,ch,al,rfl,am,a1,a2,_,_,hq,hi⟩;refine Rm z ?_
 iterate 3 refine Re z z z ?_
 refine E z (fa J_) ?_;rintro _ an ⟨rfl,a3⟩;have H:=a3.below;refine E0 (fs0 (cur':=[vI rp.number,sl ac nd ce,sl af ng ch]) c_ z z (a3.blk:Blk an aj.z [vI 0,sl none 0 0,sl none 0 0]) z z z z) ?_;rintro _ _ ⟨ao,ap⟩;have I:=ap.one;refine Ra z<|Rw z<|Wq (Wd (X:=(· ∈ [wj.z])) 0 (pl_ 6 [3]) mo (by kernel_rfl) fun au s7 _=>?_)
 have ht:=lt_ (lt_ G.s h2.s) h1.s;have a4:=mm1 h5.lt<|lt_ ht s6.s
 refine dR z z (lN (vs:=[vI rp.number,sl ac nd ce,sl af ng ch]) r_ c_ z z (atp a4)<|(ao.e s7).row 0 3 z)<|dR z z (fd h_S z) ?_
 have a5:=mm1 h5.lt G.s;refine dR z z (l1 g_3 z (atp a5)<|((((hn.e s6).e H).c I<|djs<|mm1 W.lt<|lt_ h1.s s6.s).e s7).at z)<|dE0 z (fs0 (cur':=[vI rp.number,sl ac nd ce,sl af ng ch]) c_ z z (((((((h5.e G).e h2).c h1<|djs a5).e s6).e H).c I<|djs a4).e s7) z z z z) (.inr fun _ _ h=>k_9 (List.mem_singleton.2 z) h.2) ?_
 rintro _ _ ⟨aq,ar⟩;have hu:=ar.one;refine dQ z z z<|dQ z z z<|pD<|Wo ?_
 obtain rfl:=som a7;exact Wr<|z_ hr (q_ r_ c_ z aq z) z z ⟨bM (bup (bM (bup (bup (bM (bup (bup (bup h3 h4) G) h2) h1<|m1 ho) s6) H) I<|m1<|lt_ hb s6.s) s7) hu<|m1 h3.s,ac,nd,ce,ak,af,ng,ch,al,z,am,(((a1.e H).c I<|ds<|mnr<|a_.lt a1).e s7).c hu<|n_ (al_ hi) h5.lt ht,(((a2.e H).c I<|ds<|mnr<|a_.lt a2).e s7).c hu<|n_ (ar_ hi) h5.lt ht,hz,na_ (nl_ hq) (nr_ hq)<|nj hq,aa_ (p_ (al_ hi) hb)<|p_ (ar_ hi) hb⟩
theorem W_w3i {x1:b_}{x2:List UInt8}{x3:Str}{res:Val×Bool}(hm:h_G n x1 x2 x3=some res)(a0:B<=w0.z)(hG:Gl w0 B)(V:repS w0 B (sl A0 N0 C0) x1.rules)(W:repS w0 B (sl A6 N6 C6) x2)(Y:x3.b.length<=LEN):i_ prog 22 [(.agg #[sl A0 N0 C0]),sl A6 N6 C6,Str.v x3] w0 (Q18 w0 B res):=by
 unfold h_G at hm
 refine goG func22 z z z fun fn hr=>Ws<|E z (fb z) ?_
 rintro _ wh ⟨rfl,hi⟩;have G:=hi.below;refine E z (fa J_) ?_;rintro _ wm ⟨rfl,hj⟩;have h1:=hj.below;have h2:Blk wm wh.z [vI 0,sl none 0 0,sl none 0 0]:=hj.blk;refine Rw z<|Ws<|R z (lN (vs:=[sl A0 N0 C0]) w_ u_ z z fid<|((hi.blk:Blk wh w0.z [sl A0 N0 C0]).e h1).row 0 1 z)<|RM z z ?_
 have hk:=(G.ag B).e h1;have h3:=lt_ G.s h1.s;obtain ⟨re,_,_,eq,hmr⟩:=I_ hm;refine E z (fc call48 z<|W_w3h eq (zt' a0 h3) ((hG.e G).e h1) (V.g hk) (W.g hk) Y) ?_;rintro _ ws ⟨s4,H,I,J,St,L,O,ca,Su,rfl,hv,hl,hn,_,hf,hb⟩;refine Rm z ?_
 iterate 3 refine Re z z z ?_
 refine E z (fa J_) ?_;rintro _ ww ⟨rfl,ho⟩;have hc:=ho.below;refine E0 (fs0 (cur':=[vI re.number,sl H I J,sl L O ca]) c_ z z (ho.blk:Blk ww ws.z [vI 0,sl none 0 0,sl none 0 0]) z z z z) ?_;rintro _ _ ⟨hy,sz⟩;have hd:=sz.one;refine Ra z<|Rw z<|Ws<|R z (lN (vs:=[vI re.number,sl H I J,sl L O ca]) r_ c_ z z fid<|hy.row 0 3 z)<|Rm z<|E0 (fs0 (cur':=[vI re.number,sl H I J,sl L O ca]) c_ z z (((h2.e s4).e hc).c hd<|djs<|mm1 h2.lt s4.s) z z z z) ?_
 rintro _ _ ⟨a1,a2⟩;have hg:=a2.one;refine Rw z ?_
 obtain rfl:=som hmr;exact Wr<|a_4 hr (q_ r_ c_ z a1 z) z ⟨bM (bM (bup (bup (bup G h1) s4) hc) hd<|m1<|lt_ h3 s4.s) hg<|m1 G.s,H,I,J,St,L,O,ca,Su,z,hv,((hl.e hc).c hd<|ds<|mnr<|a_.lt hl).c hg<|n_ (al_ hb) h2.lt lr,((hn.e hc).c hd<|ds<|mnr<|a_.lt hn).c hg<|n_ (ar_ hb) h2.lt lr,na_ (nl_ hf) (nr_ hf)<|nj hf,aa_ (p_ (al_ hb) h3)<|p_ (ar_ hb) h3⟩
theorem W_w3j {x1:Int}{x2:Int}{res:Bool}(hm:h_N x1 x2=some res)(I:B<=w0.z)(G:inI x1)(H:inI x2):i_ prog 158 [vI x1,vI x2] w0 (Q7 w0 B res):=by
 unfold h_N at hm
 refine goG func158 z z z fun fn hr=>Ws<|Rw z<|Wm z<|Rm z<|Rl z z z<|Rw z ?_
 obtain rfl:=som hm;exact Wr<|d_ hr z ⟨br w0,z⟩
theorem W_w3k {x2:Int}{x3:List Int}{res:Int}(hm:j_g x2 x3=some res)(W:B<=w0.z)(V:inI x2)(H:repS w0 B (sl A7 N7 C7) x3):i_ prog 157 [(.func (.func 158) #[] #[]),vI x2,sl A7 N7 C7] w0 (Q0 w0 B res):=by
 unfold j_g at hm
 refine goG func157 z z z fun fn hr=>Ws<|Rw z<|Wq<|Wm z<|R z (lnR x_ z H)<|Rm z<|Wn ?_
 obtain ⟨_,hub,J⟩:=bdS hm;refine Wf (σ:=Int) (ρ:=Int) (fun (k3:Nat)(x0:Int) a w=>Sat 22 [(0,.func (.func 158) #[] #[]),(1,vI x0),(9,sl A7 N7 C7),(10,vI (x3.length:Int)),(11,vI ((k3:Nat):Int))] a/\Below w0.z w0 w/\inI x0) (fun (x0:Int) a w=>Sat 22 [(1,vI x0)] a/\Below w0.z w0 w/\inI x0) (rQ prog fn<|Q0 w0 B) hub ?_ ?_ ?_ ?_ ?_
 ·exact fun _ q=>⟨q.k<|s5 z z z z z,br w0,V⟩
 ·rintro k3 x0 _ _ _ L ⟨hSc,s6,h1⟩ hmd;refine Wu ?_ hSc;refine Ws<|Rl z z z<|Wn<|Wq<|Wc z (fun _=>?_) (fun hc=>(V_ L hc).elim)
  refine Wk<|Wq<|Wb<|Ws ?_
  obtain ⟨xe,ef,hmg⟩:=bdS hmd;refine RX z (at_ (α:=Int) x_ z_3 z z z (H.e s6) ef) ?_;rintro _ ⟨_,_,_,rfl,hh,hi,_⟩;obtain ⟨rfl,O⟩:=O_ hi;refine R z (l0 g_3 z<|hh.at0 z)<|Rw z<|Wm z<|RM z z ?_
  obtain ⟨_,ej,hmk⟩:=bdS hmg;refine E z (i_5 call158 z z<|W_w3j ej (zt' W s6.s) O h1) ?_;rintro _ G ⟨sm,rfl⟩;refine Wn ?_;obtain ⟨ul,hua,hmn⟩:=bdS hmk;refine Wt (fun a w=>∃(x4:Int),x4=ul/\Sat 22 [(0,.func (.func 158) #[] #[]),(1,vI x4),(9,sl A7 N7 C7),(10,vI (x3.length:Int)),(11,vI ((k3:Nat):Int))] a/\Below G.z G w/\inI x4) ?_ ?_
  ·refine Wc z (fun I=>?_)<|fun I=>?_
   ·exact Wg<|Rm z<|Ra z<|Wl (fun _ q=>⟨xe,som<|ifT hua I,q.k<|s5 z z z z z,br G,O⟩)
   exact a_k<|fun _ q=>⟨x0,som<|ifF hua I,q.k<|s5 z z z z z,br G,h1⟩
  rintro ao _ ⟨x4,rfl,_,sp,hq⟩;revert ao;exact Wo<|Wg<|R z (inc_ L (lt_ (repS.len H) D_) z z)<|Rm z<|Wl (fun _ q=>⟨x4,(som hmn).symm,⟨q.k<|s5 z z z z z,bup (bup s6 sm) sp,hq⟩⟩)
 ·rintro x0 _ _ ⟨hSr,ss,h1⟩;refine Wu ?_ hSr;refine Ws<|Rl z z z<|Wn<|Wq<|Wc z (fun hc=>(W_ hc).elim) (fun _=>?_)
  exact We<|fun _ q=>⟨rfl,⟨q.k<|s1 z,ss,h1⟩⟩
 ·rintro x0 au _ rfl ⟨_,st,h1⟩;have hmv:=elL J;revert au;refine Wo<|Wm z<|Rw z ?_
  obtain rfl:=som hmv;exact Wr<|d_ hr z ⟨st,z,h1⟩
 rintro _ _ _ _ rfl ⟨rfl,hqw⟩;have hmx:=elR J;obtain rfl:=som hmx;exact ⟨hqw,z⟩
theorem W_w24 {x1:Int}{x2:Int}{res:Int}(hm:f_U x1 x2=some res)(V:B<=w0.z)(I:inI x1)(J:inI x2):i_ prog 154 [vI x1,vI x2] w0 (Q0 w0 B res):=by
 unfold f_U at hm
 refine goG func154 z z z fun fn hr=>Ws<|Rw z<|Wm z<|Rm z<|E z (fS [(.tmp 6)] j_j z z z (b_V z) (lb z)<|lb z) ?_
 rintro _ H ⟨rfl,G⟩;have h6:Blk H w0.z [vI x2]:=G.blk;obtain ⟨_,O,L⟩:=bdS hm;refine E z (fc call157 z<|W_w3k (B:=H.z) O zr I<|a_.rep<|d_k G<|c_W J) ?_;rintro _ _ ⟨s4,rfl,h5⟩;refine Rw z ?_
 obtain rfl:=som L;exact Wr<|d_ hr z ⟨bup G.below s4,z,h5⟩
theorem W_w3l {x1:b_}{x2:Int}{x3:Val}{b3 o3:Nat}{res:Bool}(hm:h_O x1 x2 x3=some res)(a0:B<=w0.z)(a5:repS w0 B (sl A0 N0 C0) x1.rules)(aW:inI x2)(aX:inI x3.number)(ap:repS w0 B (sl AA NA CA) x3.bytes)(a7:repS w0 B (sl AB NB CB) x3.items)(hC3:P_ w0 b3 o3 [vI x3.number,sl AA NA CA,sl AB NB CB])(hC3b:B b3):i_ prog 125 [(.agg #[sl A0 N0 C0]),vI x2,(.pointer<|some ⟨b3,o3,none⟩)] w0 (Q7 w0 B res):=by
 unfold h_O at hm
 refine goG func125 z z z fun fn hr=>Ws<|E z (fb z) ?_
 rintro _ G ⟨rfl,aK⟩;have H:=aK.below;have hh:Blk G w0.z [sl A0 N0 C0]:=aK.blk;refine Rw z<|Ws<|Rf z a_9 z<|R z (l0 a_d z<|hh.at z)<|Rm z ?_
 obtain ⟨xc,bp,aY⟩:=bdS hm;have aL:=a5.e H;refine RX z (at_ (α:=e_) a_0 m_ z z z aL bp) ?_;rintro _ ⟨W,Y,_,rfl,hb,bq,_⟩;obtain ⟨_,_,_,_,_,_,_,_,_,_,_,_,rfl,_,_,bt,_,_,_,hi⟩:=a_w bq;refine Rw z<|Ws<|RA z z<|Rw z<|Wq<|Wm z<|R z (B_ z)<|Rf z a_e z<|R z (l0 g_3 z<|hb.at (j:=1) z)<|Wn<|Wb<|Ws<|Rq z z z<|Rw z ?_
 obtain ⟨bu,aq,ar⟩:=bdS aY;refine Wt (fun a w=>∃(xj:Int)(xd:Int)(xa:Int),Sum.inl (xj,xd,xa)=bu/\Sat 136 [(2,.pointer<|some ⟨b3,o3,none⟩),(7,.pointer<|some ⟨W,Y,none⟩),(8,vI xj),(9,vI xd),(10,vI xa)] a/\Below G.z G w/\inI xj/\inI xd/\inI xa) ?_ ?_
 ·refine Wc z (fun a8=>?_)<|fun a8=>?_
  ·refine Wg<|R z (lN (vs:=[sl A0 N0 C0]) w_ u_ z z fid<|hh.row 0 1 z)<|Rm z ?_
   obtain ⟨bv,bw,aZ⟩:=bdS<|ifT aq a8;refine E z (fc call151 z<|e_l bw (zt' a0 H.s) aL aW) ?_;rintro _ _ ⟨bx,rfl,bz⟩;exact Ra z<|Wl (fun _ q=>⟨bv,0,0,som aZ,q.k<|s5 z z z z z,bx,bz,ii z,ii z⟩)
  refine Ws<|Rq z z z<|Rw z ?_
  obtain ⟨bA,au,av⟩:=bdS<|ifF aq a8;refine Wt (fun a w=>∃(xk:Int)(xl:Int)(xm:Int),Sum.inl (xk,xl,xm)=bA/\Sat 136 [(2,.pointer<|some ⟨b3,o3,none⟩),(7,.pointer<|some ⟨W,Y,none⟩),(8,vI xk),(9,vI xl),(10,vI xm)] a/\Below G.z G w/\inI xk/\inI xl/\inI xm) ?_ ?_
  ·refine Wc z (fun a9=>?_)<|fun a9=>?_
   ·have aw:=ifT au a9;refine Wq<|Wq (Wd (X:=noX) 0 (pl_ 10 []) mo (by kernel_rfl) fun cQ sn _=>dM z z z<|dR z z (B_ z)<|dR z z (fd b_j z)<|dR z z (l0 R_ z<|((hC3.e H).e sn).at (j:=1) z)<|dR z z (lnR o_ z<|ap.g<|(H.ag B).e sn)<|dM z z z<|dR z z (B_ z)<|dR z z (fd a_F z) ?_)
    have aM:=hb.e sn;refine dR z z (l0 g_3 z<|aM.at (j:=2) z)<|dR z z (nq z z)<|pD<|Wo<|Wc z (fun aa=>?_) (fun aa=>?_)
    ·refine Ws<|Rw z ?_
     obtain rfl:=som<|ifT aw aa;have b0:=elR av;obtain rfl:=som b0;have b1:=elR ar;obtain rfl:=som b1;exact Wr<|rtO<|d_ hr z ⟨bup H sn,z⟩
    exact Wk<|Wg<|Rm z<|R z (B_ z)<|Rf z a_F z<|R z (l0 g_3 z<|aM.at (j:=2) z)<|Ra z<|Wl (fun _ q=>⟨0,xc.size,0,som<|ifF aw aa,q.k<|s5 z z z z z,sn,ii z,bt,ii z⟩)
   refine Ws<|Rq z z z<|Rw z ?_
   obtain ⟨bB,ax,b2⟩:=bdS<|ifF au a9;refine Wt (fun a w=>∃(xo:Int)(xp:Int)(xq:Int),(xo,xp,xq)=bB/\Sat 136 [(2,.pointer<|some ⟨b3,o3,none⟩),(7,.pointer<|some ⟨W,Y,none⟩),(8,vI xo),(9,vI xp),(10,vI xq)] a/\Below G.z G w/\inI xo/\inI xp/\inI xq) ?_ ?_
   ·refine Wc z (fun ab=>?_)<|fun ab=>?_
    ·refine Wd (X:=noX) 0 (pl_ 10 [7,8]) mo (by kernel_rfl) fun cR se _=>dR z z (lN (vs:=[sl A0 N0 C0]) w_ u_ z z fid<|(hh.e se).row 0 1 z)<|dM z z z<|dR z z (B_ z)<|dR z z (fd N_ z)<|dR z z (l0 A_ z<|(hb.e se).at (j:=7) z) ?_
     obtain ⟨_,bC,b4⟩:=bdS<|ifT ax ab;refine dRX z z (at_ (α:=Int) x_ z_3 z z z (hi.e se) bC) ?_;rintro _ ⟨_,_,_,rfl,bD,bE,_⟩;obtain ⟨rfl,bF⟩:=O_ bE;refine dR z z (l0 g_3 z<|bD.at0 z) ?_;have aN:=lt_ H.s se.s;obtain ⟨_,bG,b5⟩:=bdS b4;refine dE z z (fc call151 z<|e_l bG (zt' a0 aN) (a5.g<|(H.ag B).e se) bF) (.inr fun _ _ h=>l_<|h.1) ?_;rintro _ _ ⟨aO,rfl,bH⟩;obtain ⟨bI,bJ,b6⟩:=bdS b5;refine dE z z (fc call154 z<|W_w24 bJ (zt' a0<|lt_ aN aO.s) (ii z) bH) (.inr fun _ _ h=>l_<|h.1) ?_;rintro _ _ ⟨bK,rfl,bL⟩;exact dQ z z z<|pD (fun _ q=>⟨0,bI,0,som b6,q.k<|s5 z z z z z,bup (bup se aO) bK,ii z,bL,ii z⟩)
    refine Ws<|Rq z z z<|Rw z ?_
    obtain ⟨bM,ay,b7⟩:=bdS<|ifF ax ab;refine Wt (fun a w=>∃(xr:Int)(xs:Int)(xt:Int),(xr,xs,xt)=bM/\Sat 136 [(2,.pointer<|some ⟨b3,o3,none⟩),(7,.pointer<|some ⟨W,Y,none⟩),(8,vI xr),(9,vI xs),(10,vI xt)] a/\Below G.z G w/\inI xr/\inI xs/\inI xt) ?_ ?_
    ·refine Wc z (fun ad=>?_)<|fun ad=>?_
     ·exact Wg<|Ra z<|Wl (fun _ q=>⟨0,400,0,som<|ifT ay ad,q.k<|s5 z z z z z,br G,ii z,ii z,ii z⟩)
     refine Ws<|Rq z z z<|Rw z ?_
     obtain ⟨bN,az,b9⟩:=bdS<|ifF ay ad;refine Wt (fun a w=>∃(xu:Int)(xv:Int),(xu,xv)=bN/\Sat 136 [(2,.pointer<|some ⟨b3,o3,none⟩),(7,.pointer<|some ⟨W,Y,none⟩),(8,vI xu),(9,vI 0),(10,vI xv)] a/\Below G.z G w/\inI xu/\inI xv) ?_ ?_
     ·refine Wc z (fun ae=>?_)<|fun ae=>?_
      ·refine Wd (X:=noX) 0 (pl_ 10 [7,8]) mo (by kernel_rfl) fun cS sf _=>dR z z (lN (vs:=[sl A0 N0 C0]) w_ u_ z z fid<|(hh.e sf).row 0 1 z)<|dM z z z<|dR z z (B_ z)<|dR z z (fd N_ z)<|dR z z (l0 A_ z<|(hb.e sf).at (j:=7) z) ?_
       obtain ⟨_,bO,ba⟩:=bdS<|ifT az ae;refine dRX z z (at_ (α:=Int) x_ z_3 z z z (hi.e sf) bO) ?_;rintro _ ⟨_,_,_,rfl,bP,bQ,_⟩;obtain ⟨rfl,bR⟩:=O_ bQ;refine dR z z (l0 g_3 z<|bP.at0 z) ?_;have aP:=lt_ H.s sf.s;obtain ⟨_,bS,bb⟩:=bdS ba;refine dE z z (fc call151 z<|e_l bS (zt' a0 aP) (a5.g<|(H.ag B).e sf) bR) (.inr fun _ _ h=>l_<|h.1) ?_;rintro _ _ ⟨aQ,rfl,bT⟩;obtain ⟨bU,bV,bc⟩:=bdS bb;refine dE z z (fc call154 z<|W_w24 bV (zt' a0<|lt_ aP aQ.s) (ii z) bT) (.inr fun _ _ h=>l_<|h.1) ?_;rintro _ _ ⟨bW,rfl,bX⟩;exact dQ z z z<|pD (fun _ q=>⟨0,bU,som bc,q.k<|s5 z z z z z,bup (bup sf aQ) bW,ii z,bX⟩)
      refine Ws<|Rq z z z<|Rw z ?_
      obtain ⟨bY,aA,be⟩:=bdS<|ifF az ae;refine Wt (fun a w=>∃(xw:Int)(xx:Int),(xw,xx)=bY/\Sat 136 [(2,.pointer<|some ⟨b3,o3,none⟩),(7,.pointer<|some ⟨W,Y,none⟩),(8,vI xw),(9,vI 0),(10,vI xx)] a/\Below G.z G w/\inI xw/\inI xx) ?_ ?_
      ·refine Wc z (fun af=>?_)<|fun af=>?_
       ·exact Wg<|Rm z<|R z (B_ z)<|Rf z N_ z<|R z (l0 A_ z<|hb.at (j:=7) z)<|R z (lnR x_ z hi)<|Ra z<|Wl (fun _ q=>⟨0,(xc.kids.length:Int),som<|ifT aA af,q.k<|s5 z z z z z,br G,ii z,b_D<|repS.len hi⟩)
       refine Ws<|Rq z z z<|Rw z ?_
       obtain ⟨bZ,aB,bf⟩:=bdS<|ifF aA af;refine Wt (fun a w=>∃(xy:Int)(xz:Int),(xy,xz)=bZ/\Sat 136 [(2,.pointer<|some ⟨b3,o3,none⟩),(7,.pointer<|some ⟨W,Y,none⟩),(8,vI xy),(9,vI 0),(10,vI xz)] a/\Below G.z G w/\inI xy/\inI xz) ?_ ?_
       ·refine Wc z (fun ah=>?_)<|fun ah=>?_
        ·refine Wd (X:=noX) 0 (pl_ 10 [7]) mo (by kernel_rfl) fun cT sg _=>dR z z (lN (vs:=[sl A0 N0 C0]) w_ u_ z z fid<|(hh.e sg).row 0 1 z)<|dM z z z<|dR z z (B_ z)<|dR z z (fd N_ z)<|dR z z (l0 A_ z<|(hb.e sg).at (j:=7) z) ?_
         obtain ⟨_,c0,bg⟩:=bdS<|ifT aB ah;refine dRX z z (at_ (α:=Int) x_ z_3 z z z (hi.e sg) c0) ?_;rintro _ ⟨_,_,_,rfl,c1,c2,_⟩;obtain ⟨rfl,c3⟩:=O_ c2;refine dR z z (l0 g_3 z<|c1.at0 z) ?_;obtain ⟨c4,c5,bh⟩:=bdS bg;refine dE z z (fc call151 z<|e_l c5 (zt' a0<|lt_ H.s sg.s) (a5.g<|(H.ag B).e sg) c3) (.inr fun _ _ h=>l_<|h.1) ?_;rintro _ _ ⟨c6,rfl,c7⟩;exact dQ z z z<|dQ z z z<|pD (fun _ q=>⟨c4,1,som bh,q.k<|s5 z z z z z,bup sg c6,c7,ii z⟩)
        refine Wq<|Ws<|Rq z z z<|Rw z ?_
        obtain ⟨c8,aC,bi⟩:=bdS<|ifF aB ah;refine Wt (fun a w=>∃(al:Bool),al=c8/\Sat 136 [(2,.pointer<|some ⟨b3,o3,none⟩),(7,.pointer<|some ⟨W,Y,none⟩),(8,vI 0),(9,vI 0),(10,vI 0),(81,vB al)] a/\Below G.z G w) ?_ ?_
        ·refine Wc z (fun ai=>?_)<|fun ai=>?_
         ·exact a_k<|fun _ q=>⟨xc.kind==8,som<|ifT aC ai,q.k<|s6 z z z z z z,br G⟩
         exact Wg<|Rq z z z<|Ra z<|Wl (fun _ q=>⟨xc.kind==9,som<|ifF aC ai,q.k<|s6 z z z z z z,br G⟩)
        rintro c9 a6 ⟨al,rfl,_,ca⟩;revert c9;refine Wo ?_;obtain ⟨cb,aD,bj⟩:=bdS bi;refine Wt (fun a w=>∃(a1:Int),a1=cb/\Sat 136 [(2,.pointer<|some ⟨b3,o3,none⟩),(7,.pointer<|some ⟨W,Y,none⟩),(8,vI 0),(9,vI 0),(10,vI a1)] a/\Below a6.z a6 w/\inI a1) ?_ ?_
        ·refine Wc z (fun aj=>?_)<|fun aj=>?_
         ·exact Wg<|Ra z<|Wl (fun _ q=>⟨1,som<|ifT aD aj,q.k<|s5 z z z z z,br a6,ii z⟩)
         exact a_k<|fun _ q=>⟨0,som<|ifF aD aj,q.k<|s5 z z z z z,br a6,ii z⟩
        rintro cc _ ⟨a1,rfl,_,cd,ce⟩;revert cc;exact fun _ q=>⟨0,a1,som bj,q.k<|s5 z z z z z,bup ca cd,ii z,ce⟩
       rintro cf _ ⟨xy,xz,rfl,_,cg,ch,ci⟩;revert cf;exact fun _ q=>⟨xy,xz,som<|a_G bf,q.k<|s5 z z z z z,cg,ch,ci⟩
      rintro cj _ ⟨xw,xx,rfl,_,ck,cl,cm⟩;revert cj;exact fun _ q=>⟨xw,xx,som<|a_G be,q.k<|s5 z z z z z,ck,cl,cm⟩
     rintro cn _ ⟨xu,xv,rfl,_,co,cp,cq⟩;revert cn;exact fun _ q=>⟨xu,0,xv,som<|a_G b9,q.k<|s5 z z z z z,co,cp,ii z,cq⟩
    rintro cr _ ⟨xr,xs,xt,rfl,_,ct,cu,cv,cw⟩;revert cr;exact fun _ q=>⟨xr,xs,xt,som<|c_Z b7,q.k<|s5 z z z z z,ct,cu,cv,cw⟩
   rintro cx _ ⟨xo,xp,xq,rfl,_,cy,cz,cA,cB⟩;revert cx;exact fun _ q=>⟨xo,xp,xq,som<|c_Z b2,q.k<|s5 z z z z z,cy,cz,cA,cB⟩
  rintro cC _ ⟨xk,xl,xm,rfl,_,cD,cE,cF,cG⟩;have bk:=elL av;revert cC;exact fun _ q=>⟨xk,xl,xm,som<|c_Z bk,q.k<|s5 z z z z z,cD,cE,cF,cG⟩
 rintro cH a2 ⟨xj,xd,xa,rfl,_,s7,cI,_,_⟩;have bm:=elL ar;revert cH;refine Wo<|Wq<|Wq ?_
 obtain ⟨cJ,aE,aF⟩:=bdS<|c_Z bm;refine Wt (fun a w=>∃(am:Bool),am=cJ/\Sat 136 [(2,.pointer<|some ⟨b3,o3,none⟩),(8,vI xj),(9,vI xd),(10,vI xa),(111,vB am)] a/\Below a2.z a2 w) ?_ ?_
 ·refine Wg<|Rm z<|R z (B_ z)<|Rf z a_e z ?_
  have an:=hb.e s7;refine R z (l0 g_3 z<|an.at (j:=1) z)<|Rq z z z<|Rm z ?_
  rcases bs (xc.kind==6) with O | O
  ·iterate 5 refine Nh z O ?_
   exact R z (pT z O z)<|Rm z<|Nh z z<|Nh z z<|Nh z z<|Nh z z<|Nh z z<|R z (pT z z z)<|Rm z<|Rh z z (mv z)<|Rh z z (B_ z)<|Rh z z (fd Z_ z)<|Rh z z (l0 a_2 z<|((hC3.e H).e s7).at (j:=2) z)<|Rh z z (lnR a_a z<|a7.g<|(H.ag B).e s7)<|Rh z z (mv z)<|Rh z z (nq z z)<|R z (pT z z z)<|Wl (fun _ q=>⟨(x3.items.length:Int) != xa,som<|ifT aE O,q.k<|s5 z z z z z,br a2⟩)
  refine Rh z O (mv z)<|Rh z O (B_ z)<|Rh z O (fd a_e z)<|Rh z O (l0 g_3 z<|an.at (j:=1) z)<|Rh z O (eql z z)<|R z (pF z O z)<|Rm z ?_
  obtain ⟨aR,aG,aH⟩:=bdS<|ifF aE O;refine c_U 102 aR 6 ?_ ?_
  ·rcases bs (xc.kind==7) with V | V
   ·iterate 5 refine Nh z V ?_
    exact R z (pT z V z)<|WLq 6 (ifT aG V) z z z
   exact Rh z V (mv z)<|Rh z V (B_ z)<|Rh z V (fd a_e z)<|Rh z V (l0 g_3 z<|an.at (j:=1) z)<|Rh z V (eql z z)<|R z (pF z V z)<|WLq 6 (ifF aG V) z z z
  refine Rm z ?_
  rcases bs aR with I | I
  ·exact Rh z I (mv z)<|Rh z I (B_ z)<|Rh z I (fd Z_ z)<|Rh z I (l0 a_2 z<|((hC3.e H).e s7).at (j:=2) z)<|Rh z I (lnR a_a z<|a7.g<|(H.ag B).e s7)<|Rh z I (mv z)<|Rh z I (nq z z)<|R z (pT z I z)<|Wl (fun _ q=>⟨(x3.items.length:Int) != xa,som<|ifT aH I,q.k<|s5 z z z z z,br a2⟩)
  iterate 7 refine Nh z I ?_
  exact R z (pF z I z)<|Wl (fun _ q=>⟨false,som<|ifF aH I,q.k<|s5 z z z z z,br a2⟩)
 rintro cK aS ⟨am,rfl,_,a3⟩;revert cK;refine Wo<|Wc z (fun ak=>?_) (fun ak=>?_)
 ·refine Ws<|Rw z ?_
  obtain rfl:=som<|ifT aF ak;exact Wr<|d_ hr z ⟨bup (bup H s7) a3,z⟩
 refine Wk<|Wq ?_
 obtain ⟨cL,bn,bo⟩:=bdS<|ifF aF ak;refine Wt (fun a w=>∃(ao:Bool),ao=cL/\Sat 136 [(6,vB ao)] a/\Below aS.z aS w) ?_ ?_
 ·refine Wg<|Rm z<|R z (B_ z)<|Rf z b_0 z ?_
  have aT:=((hC3.e H).e s7).e a3;refine R z (l0 g_3 z<|aT.at (j:=0) z)<|Rm z ?_
  obtain ⟨cM,cN,aI⟩:=bdS bn;refine E z (fc call83 z<|d_h cN (zt' a0<|lt_ (lt_ H.s s7.s) a3.s) aX (ii z) cI) ?_;rintro _ _ ⟨a4,rfl⟩;refine Rm z ?_
  rcases bs cM with J | J
  ·have aJ:=ifT aI J;refine Rh z J (mv z)<|Rh z J (B_ z)<|Rh z J (fd b_j z) ?_
   have aU:=aT.e a4;refine Rh z J (l0 R_ z<|aU.at (j:=1) z) ?_;have aV:=(((H.ag B).e s7).e a3).e a4;refine Rh z J (lnR o_ z<|ap.g aV)<|Rh z J (mv z)<|Rh z J (b_P z z)<|R z (pT z J z)<|Rm z ?_
   rcases bs (decide<|(x3.bytes.length:Int)<=xd) with L | L
   ·exact Rh z L (mv z)<|Rh z L (B_ z)<|Rh z L (fd Z_ z)<|Rh z L (l0 a_2 z<|aU.at (j:=2) z)<|Rh z L (lnR a_a z<|a7.g aV)<|Rh z L (mv z)<|Rh z L (b_P z z)<|R z (pT z L z)<|Ra z<|Wl (fun _ q=>⟨decide<|(x3.items.length:Int)<=xa,som<|ifT aJ L,q.k<|s1 z,a4⟩)
   iterate 7 refine Nh z L ?_
   exact R z (pF z L z)<|Ra z<|Wl (fun _ q=>⟨false,som<|ifF aJ L,q.k<|s1 z,a4⟩)
  iterate 7 refine Nh z J ?_
  exact R z (pF z J z)<|Rm z<|Nh z z<|Nh z z<|Nh z z<|Nh z z<|Nh z z<|Nh z z<|Nh z z<|R z (pF z z z)<|Ra z<|Wl (fun _ q=>⟨false,som<|ifF aI J,q.k<|s1 z,a4⟩)
 rintro cO _ ⟨ao,rfl,_,cP⟩;revert cO;refine Wo ?_;obtain rfl:=som bo;exact Wr<|d_ hr z ⟨bup (bup (bup H s7) a3) cP,z⟩
structure j_U (f:b_->Int->Val->Option Bool):Prop where
  run:∀{A0 AA AB:Option Addr}{N0 C0 NA CA NB CB b3 o3:Nat}{B:Zone}{x1:b_}{x2:Int}{x3:Val}{res:Bool}{w0:World}(hm:f x1 x2 x3=some res)(hBw:B<=w0.z)(p1_0:repS w0 B (sl A0 N0 C0) x1.rules)(p2_0:inI x2)(p3_0:inI x3.number)(p3_1:repS w0 B (sl AA NA CA) x3.bytes)(p3_2:repS w0 B (sl AB NB CB) x3.items)(hC3:P_ w0 b3 o3 [vI x3.number,sl AA NA CA,sl AB NB CB])(hC3b:B b3),i_ prog 88 [(.agg #[sl A0 N0 C0]),vI x2,(.pointer<|some ⟨b3,o3,none⟩)] w0<|Q7 w0 B res
abbrev l_w (n:Nat):Prop:=j_U (e_R n).impl_validValue
theorem T_w0g (a6:l_w n):j_U (h_P n<|e_R n):=by
 constructor
 intro A0 AA AB N0 C0 NA CA NB CB b3 o3 B x1 x2 x3 res w0 hm L J V W Y H hC3 hC3b;unfold h_P at hm
 refine goG func88 z z z fun fn hr=>Ws<|E z (fb z) ?_
 rintro _ ws ⟨rfl,hd⟩;have h1:=hd.below;have he:Blk ws w0.z [sl A0 N0 C0]:=hd.blk;refine Rw z<|Wq<|Ws<|R z (lN (vs:=[sl A0 N0 C0]) w_ u_ z z fid<|he.row 0 1 z)<|RM z z ?_
 have hf:=hC3.e h1;obtain ⟨_,et,hmg⟩:=bdS hm;refine E z (fc call125 z<|W_w3l et (zt' L h1.s) (J.e h1) V W (Y.e h1) (H.e h1) hf hC3b) ?_;rintro _ I ⟨s2,rfl⟩;refine R z (not_ z)<|Wx z (fun O=>?_) (fun O=>?_)
 ·refine Ws<|Rw z ?_
  obtain rfl:=som<|ifT hmg O;exact Wr<|d_ hr z ⟨bup h1 s2,z⟩
 refine Wk<|Wq<|Wm z<|R z (B_ z)<|Rf z Z_ z ?_
 have hh:=hf.e s2;refine R z (l0 a_2 z<|hh.at (j:=2) z) ?_;have hi:=(h1.ag B).e s2;refine R z (lnR a_a z<|H.g hi)<|Rm z<|Wn ?_
 obtain ⟨_,huu,hmj⟩:=bdS<|ifF hmg O;refine Wf (σ:=Unit) (ρ:=Bool) (fun (k9:Nat)(_:Unit) a w=>Sat 42 [(1,vI x2),(2,.pointer<|some ⟨b3,o3,none⟩),(3,pt w0.z),(18,vI (x3.items.length:Int)),(19,vI ((k9:Nat):Int))] a/\Below I.z I w) (fun (_:Unit) a w=>Sat 42 [] a/\Below I.z I w) (rQ prog fn<|Q7 w0 B) huu ?_ ?_ ?_ ?_ ?_
 ·exact fun _ q=>⟨q.k<|s5 z z z z z,br I⟩
 ·rintro k9 _ _ _ _ hka ⟨hSv,s3⟩ hmw;refine Wu ?_ hSv;refine Ws<|Rl z z z<|Wn<|Wq<|Wc z (fun _=>?_) (fun hc=>(V_ hka hc).elim)
  refine Wk<|Wq<|Wb<|Wm z<|Rw z<|Ws ?_
  have hk:=(he.e s2).e s3;refine R z (lN (vs:=[sl A0 N0 C0]) w_ u_ z z fid<|hk.row 0 1 z)<|RM z z<|Rm z ?_
  have h6:=hi.e s3;have hl:=hh.e s3;have hn:=lt_ (lt_ h1.s s2.s) s3.s;obtain ⟨rx,ey,hmz⟩:=bdS hmw;refine E z (fc call77 z<|j_R ey (zt' L hn) (J.g h6) V W (Y.g h6) (H.g h6) hl hC3b<|ic (Nat.le_of_lt hka)<|lt_ (repS.len H) D_) ?_;rintro _ wm ⟨s4,rfl,a7⟩;refine Rw z<|Wq ?_
  obtain ⟨a8,huo,hmp⟩:=bdS hmz;refine Wt (fun a w=>∃(xb:Bool),xb=a8/\Sat 42 [(1,vI x2),(2,.pointer<|some ⟨b3,o3,none⟩),(3,pt w0.z),(18,vI (x3.items.length:Int)),(19,vI ((k9:Nat):Int)),(40,vB xb)] a/\Below wm.z wm w) ?_ ?_
  ·refine Wd (X:=noX) 0 (pl_ 14 [11]) mo (by kernel_rfl) fun ap s7 _=>dM z z z<|dR z z (lss z z)<|dM z z z ?_
   rcases bs (decide<|rx<0) with G | G
   ·iterate 8 refine dRn z z z G z ?_
    exact dEn z z z G z<|dRn z z z G z<|dR z z (pT z G z)<|pD (fun _ q=>⟨true,som<|ifT huo G,q.k<|s6 z z z z z z,s7⟩)
   refine dRg z z z G z (lN (vs:=[sl A0 N0 C0]) w_ u_ z z fid<|((hk.e s4).e s7).row 0 1 z)<|dRg z z z G z (mv z)<|dRg z z z G z (mv z)<|dRg z z z G z (B_ z)<|dRg z z z G z (fd Z_ z)<|dRg z z z G z (l0 a_2 z<|((hl.e s4).e s7).at (j:=2) z)<|dRg z z z G z (mv z) ?_
   obtain ⟨_,a9,a0⟩:=bdS<|ifF huo G;have hq:=(h6.e s4).e s7;refine b_M z z z G z (at_ (α:=Val) a_a c_ z z z (H.g hq) a9) ?_;rintro _ ⟨_,_,_,rfl,aa,ab,ad⟩;obtain ⟨_,_,_,_,_,_,rfl,ae,af,ah⟩:=b_T ab;obtain ⟨ai,aj,a1⟩:=bdS a0;refine dEg z z z G z (fc call88 z<|a6.run aj (zt' L<|lt_ (lt_ hn s4.s) s7.s) (J.g hq) a7 ae af ah aa ad) (.inr fun _ _ h=>l_<|h.1) ?_;rintro _ _ ⟨ak,rfl⟩;exact dRg z z z G z (not_ z)<|dR z z (pF z G z)<|pD (fun _ q=>⟨!ai,som a1,q.k<|s6 z z z z z z,bup s7 ak⟩)
  rintro al _ ⟨xb,rfl,_,sr⟩;revert al;refine Wo<|Wc z (fun hcc=>?_) (fun hcc=>?_)
  ·exact Ws<|Rw z<|Wr<|rtO<|qL (som<|ifT hmp hcc).symm<|d_ hr z ⟨bup (bup (bup (bup h1 s2) s3) s4) sr,z⟩
  exact Wk<|Wg<|R z (inc_ hka (lt_ (repS.len H) D_) z z)<|Rm z<|Wl (fun _ q=>⟨(),(som<|ifF hmp hcc).symm,⟨q.k<|s5 z z z z z,bup (bup s3 s4) sr⟩⟩)
 ·rintro _ _ _ ⟨a2,am⟩;refine Wu ?_ a2;refine Ws<|Rl z z z<|Wn<|Wq<|Wc z (fun hc=>(W_ hc).elim) (fun _=>?_)
  exact We<|fun _ q=>⟨rfl,⟨q.k sn,am⟩⟩
 ·rintro _ an _ rfl ⟨_,ao⟩;have a3:=elL hmj;revert an;refine Wo<|Ws<|Rw z ?_
  obtain rfl:=som a3;exact Wr<|d_ hr z ⟨bup (bup h1 s2) ao,z⟩
 rintro _ _ _ _ rfl ⟨rfl,a4⟩;have a5:=elR hmj;obtain rfl:=som a5;exact ⟨a4,z⟩
theorem A_w0g:∀n,l_w n
  | 0=>⟨fun hm=>by intros;exact nomatch (show none=some _ from hm)⟩
  | n+1=>T_w0g<|A_w0g n
theorem W_w0g:j_U (e_R n).impl_validValue:=A_w0g n
theorem W_w3m {x1:b_}{x2:Int}{x3:Val}{res:Bool}(hm:h_Q n x1 x2 x3=some res)(a1:B<=w0.z)(J:repS w0 B (sl A0 N0 C0) x1.rules)(L:inI x2)(W:inI x3.number)(Y:repS w0 B (sl AA NA CA) x3.bytes)(a0:repS w0 B (sl AB NB CB) x3.items):i_ prog 49 [(.agg #[sl A0 N0 C0]),vI x2,(.agg #[vI x3.number,sl AA NA CA,sl AB NB CB])] w0 (Q7 w0 B res):=by
 unfold h_Q at hm
 refine goG func49 z z z fun fn hr=>Ws<|E z (fb z) ?_
 rintro _ O ⟨rfl,V⟩;have h5:=V.below;refine E z (fb z) ?_;rintro _ H ⟨rfl,ha⟩;have h3:=ha.below;have hb:Blk H O.z [vI x3.number,sl AA NA CA,sl AB NB CB]:=ha.blk;refine Rw z<|Wq ?_
 obtain ⟨ug,huh,hmi⟩:=bdS hm;refine Wt (fun a w=>∃(x6:Bool),x6=ug/\Sat 15 [(6,vB x6)] a/\Below H.z H w) ?_ ?_
 ·refine Wg ?_;have hc:=(V.blk:Blk O w0.z [sl A0 N0 C0]).e h3;refine R z (lN (vs:=[sl A0 N0 C0]) w_ u_ z z fid<|hc.row 0 1 z)<|Rm z ?_
  have hd:=(h5.ag B).e h3;have h4:=zt' a1<|lt_ h5.s h3.s
  obtain ⟨rj,ek,hme⟩:=bdS huh;refine E z (fc call78 z<|g_2 (B:=B) ek h4 (J.g hd) L) ?_;rintro _ _ ⟨s2,rfl⟩;refine Rm z ?_
  rcases bs rj with G | G
  ·refine Rh z G (lN (vs:=[sl A0 N0 C0]) w_ u_ z z fid<|(hc.e s2).row 0 1 z)<|Rh z G (mv z) ?_
   have I:=hd.e s2;obtain ⟨rl,em,hmn⟩:=bdS<|ifT hme G;refine Eg z z G z (fc call88 z<|W_w0g.run (B:=H.z) em (a_p s2.s) (repS.mono (J.g I) h4) L W (repS.mono (Y.g I) h4) (repS.mono (a0.g I) h4) ((hb.e s2).row 0 3 z) hb.lt) ?_;rintro _ _ ⟨so,rfl⟩;exact R z (pT z G z)<|Ra z<|Wl (fun _ q=>⟨rl,som hmn,q.k<|s1 z,bup s2 so⟩)
  iterate 3 refine Nh z G ?_
  exact R z (pF z G z)<|Ra z<|Wl (fun _ q=>⟨false,som<|ifF hme G,q.k<|s1 z,s2⟩)
 rintro ap _ ⟨x6,rfl,_,sq⟩;revert ap;refine Wo ?_;obtain rfl:=som hmi;exact Wr<|d_ hr z ⟨bup (bup h5 h3) sq,z⟩
theorem W_w3n {x1:Str}{x2:Str}{G H:Nat}{res:Bool}(hm:i_B x1 x2=some res)(V:B<=w0.z)(J:x1.b.length<=LEN)(L:x2.b.length<=LEN)(I:P_ w0 G H [Str.v x2])(O:B G):i_ prog 127 [Str.v x1,(.pointer<|some ⟨G,H,none⟩)] w0 (Q7 w0 B res):=by
 unfold i_B at hm
 refine goG func127 z z z fun fn hr=>Ws<|Rw z<|Wm z<|R z (l0 g_9 z<|I.at0 z)<|R z (a_V z z)<|Rw z ?_
 obtain rfl:=som hm;exact Wr<|d_ hr z ⟨br w0,z⟩
theorem W_w3o {x1:List Str}{J:Str}{H L:Nat}{res:Int}(hm:f_c x1 J=some res)(a2:B<=w0.z)(I:repS w0 B (sl A0 N0 C0) x1)(p2c0_0:J.b.length<=LEN)(a1:P_ w0 H L [Str.v J])(a0:B H):i_ prog 126 [sl A0 N0 C0,(.func (.func 127) #[] #[(.pointer<|some ⟨H,L,none⟩)])] w0 (Q0 w0 B res):=by
 unfold f_c at hm
 refine goG func126 z z z fun fn hr=>Ws<|Rw z<|Wq<|Wm z<|R z (lnR T_ z I)<|Rm z<|Wn ?_
 obtain ⟨_,a3,W⟩:=bdS hm;refine Wf (σ:=Unit) (ρ:=Int) (fun (k4:Nat)(_:Unit) a w=>Sat 19 [(1,.func (.func 127) #[] #[(.pointer<|some ⟨H,L,none⟩)]),(7,sl A0 N0 C0),(8,vI (x1.length:Int)),(9,vI ((k4:Nat):Int))] a/\Below w0.z w0 w) (fun (_:Unit) a w=>Sat 19 [] a/\Below w0.z w0 w) (rQ prog fn<|Q0 w0 B) a3 ?_ ?_ ?_ ?_ ?_
 ·exact fun _ q=>⟨q.k<|s4 z z z z,br w0⟩
 ·rintro k4 _ _ _ _ O ⟨a4,G⟩ a5;refine Wu ?_ a4;refine Ws<|Rl z z z<|Wn<|Wq<|Wc z (fun _=>?_) (fun hc=>(V_ O hc).elim)
  refine Wk<|Wq<|Wb<|Wm z ?_
  obtain ⟨_,ea,hmb⟩:=bdS a5;refine RX z (at_ (α:=Str) T_ z_9 z z z (I.e G) ea) ?_;rintro _ ⟨_,_,_,rfl,hd,he,_⟩;obtain ⟨rfl,hf⟩:=b_2 he;refine R z (l0 g_9 z<|hd.at0 z)<|Ra z<|Rw z<|Wm z<|Rm z ?_
  obtain ⟨_,ec,Y⟩:=bdS hmb;refine E z (i_5 call127 z z<|W_w3n ec (zt' a2 G.s) hf p2c0_0 (a1.e G) a0) ?_;rintro _ _ ⟨s6,rfl⟩;refine Wx z (fun V=>?_) (fun V=>?_)
  ·exact Wm z<|Rw z<|Wr<|rtO<|qL (som<|ifT Y V).symm<|d_ hr z ⟨bup G s6,z,ic (Nat.le_of_lt O)<|lt_ (repS.len I) D_⟩
  exact Wk<|Wg<|R z (inc_ O (lt_ (repS.len I) D_) z z)<|Rm z<|Wl (fun _ q=>⟨(),(som<|ifF Y V).symm,⟨q.k<|s4 z z z z,bup G s6⟩⟩)
 ·rintro _ _ _ ⟨hSg,sh⟩;refine Wu ?_ hSg;refine Ws<|Rl z z z<|Wn<|Wq<|Wc z (fun hc=>(W_ hc).elim) (fun _=>?_)
  exact We<|fun _ q=>⟨rfl,⟨q.k sn,sh⟩⟩
 ·rintro _ ai _ rfl ⟨_,sj⟩;have hmk:=elL W;revert ai;refine Wo<|Ws<|Rw z ?_
  obtain rfl:=som hmk;exact Wr<|d_ hr z ⟨sj,z,ii z⟩
 rintro _ _ _ _ rfl ⟨rfl,hql⟩;have hmm:=elR W;obtain rfl:=som hmm;exact ⟨hql,z⟩
theorem W_w3p {x1:b_}{x2:Int}{x3:Val}{x4:Str}{res:Int}(hm:e_t n x1 x2 x3 x4=some res)(O:B<=w0.z)(hG:Gl w0 B)(V:repS w0 B (sl A0 N0 C0) x1.rules)(W:inI x2)(b6:inI x3.number)(b7:repS w0 B (sl AA NA CA) x3.bytes)(aC:repS w0 B (sl AB NB CB) x3.items)(Y:x4.b.length<=LEN):i_ prog 89 [(.agg #[sl A0 N0 C0]),vI x2,.agg #[vI x3.number,sl AA NA CA,sl AB NB CB],Str.v x4] w0 (Q0 w0 B res):=by
 unfold e_t at hm
 refine goG func89 z z z fun fn hr=>Ws<|E z (fb z) ?_
 rintro _ wg ⟨rfl,hq⟩;have ha:=hq.below;have ht:Blk wg w0.z [sl A0 N0 C0]:=hq.blk;refine E z (fb z) ?_;rintro _ wh ⟨rfl,hu⟩;have L:=hu.below;have hv:Blk wh wg.z [vI x3.number,sl AA NA CA,sl AB NB CB]:=hu.blk;refine E z (fb z) ?_;rintro _ wr ⟨rfl,hw⟩;have h4:=hw.below;have hb:Blk wr wh.z [Str.v x4]:=hw.blk;refine Rw z<|Wq<|Ws ?_
 have hx:=(ht.e L).e h4;refine R z (lN (vs:=[sl A0 N0 C0]) w_ u_ z z fid<|hx.row 0 1 z)<|Rm z ?_
 have hy:=((ha.ag B).e L).e h4;have hd:=lt_ (lt_ ha.s L.s) h4.s;have hz:=zt' O hd;obtain ⟨_,aI,hms⟩:=bdS hm;refine E z (fc call78 z<|g_2 (B:=B) aI hz (V.g hy) W) ?_;rintro _ wi ⟨G,rfl⟩;refine R z (not_ z)<|Wx z (fun hcj=>?_) (fun hcj=>?_)
 ·refine Ws<|Rw z ?_
  obtain rfl:=som<|ifT hms hcj;exact Wr<|d_ hr z ⟨bup (bup (bup ha L) h4) G,z,ii z⟩
 refine Wk<|Ws<|Rw z<|Wq<|Ws<|Rf z a_9 z ?_
 have a8:=hx.e G;refine R z (l0 a_d z<|a8.at z)<|Rm z ?_
 obtain ⟨a9,aJ,aD⟩:=bdS<|ifF hms hcj;have aa:=hy.e G;refine RX z (at_ (α:=e_) a_0 m_ z z z (V.g aa) aJ) ?_;rintro _ ⟨_,_,_,rfl,aK,aL,_⟩;obtain ⟨ab,ad,ae,af,ah,ai,aj,ak,al,am,an,ao,rfl,_,_,_,_,aM,_,_⟩:=a_w aL;refine R z (lN (vs:=vR a9 ab ad ae af ah ai aj ak al am an ao) G_ m_ z z fid aK)<|E z (fa b_l) ?_
 rintro _ aN ⟨rfl,ap⟩;have h1:=ap.below;refine E0 (fs0 (cur':=vR a9 ab ad ae af ah ai aj ak al am an ao) m_ z z (ap.blk:Blk aN wi.z [(Str.v (⟨[]⟩:Str)),vI 0,vI 0,vB false,sl none 0 0,sl none 0 0,sl none 0 0,sl none 0 0]) z z z z) ?_;rintro _ we ⟨aq,aO⟩;have h2:=aO.one;refine Wn<|Ws<|Rf z a_e z<|R z (l0 g_3 z<|aq.at z)<|Wn<|Wb<|Ws<|Rq z z z<|Rw z ?_
 obtain ⟨aP,a0,a1⟩:=bdS aD;refine Wt (fun a w=>∃(xc:Int),Sum.inl xc=aP/\Sat 62 [(1,vI x2),(4,pt w0.z),(6,pt wg.z),(7,pt wh.z),(9,vI xc)] a/\Below we.z we w/\inI xc) ?_ ?_
 ·refine Wc z (fun hck=>?_)<|fun hck=>?_
  ·refine Ws<|R z (l0 g_9 z<|(((hb.e G).e h1).c h2<|djs<|mm1 hb.lt G.s).at z) ?_
   have ar:=lt_ hd G.s;obtain ⟨aQ,_,aR,a2⟩:=a_3<|ifT a0 hck;refine E z (fc call119 z<|j_T aR (zt' O<|lt_ (lt_ ar h1.s) h2.s) Y) ?_;rintro _ _ ⟨au,rfl,aS⟩;refine Rm z<|Re z z z<|Re z z z<|Ra z<|Rw z<|Wq<|Wm z<|R z (not_ z)<|Wx z (fun hcl=>?_) (fun hcl=>?_)
   ·refine Ws<|Rw z ?_
    obtain rfl:=som<|ifT a2 hcl;have aE:=elR a1;obtain rfl:=som aE;exact Wr<|rtO<|d_ hr z ⟨bup (bM (bup (bup (bup (bup ha L) h4) G) h1) h2<|m1 ar) au,z,ii z⟩
   exact Wk<|Wg<|Rm z<|Ra z<|Wl (fun _ q=>⟨aQ,som<|ifF a2 hcl,q.k<|s5 z z z z z,au,aS⟩)
  refine Ws<|Rq z z z<|Rw z ?_
  obtain ⟨aT,a3,aF⟩:=bdS<|ifF a0 hck;refine Wt (fun a w=>∃(xf:Int),xf=aT/\Sat 62 [(1,vI x2),(4,pt w0.z),(6,pt wg.z),(7,pt wh.z),(9,vI xf)] a/\Below we.z we w/\inI xf) ?_ ?_
  ·refine Wc z (fun hcm=>?_)<|fun hcm=>?_
   ·refine Wg<|Rf z b_y z<|R z (l0 a_I z<|aq.at z)<|R z (k_2 z) ?_
    obtain ⟨aU,aV,aG⟩:=bdS<|ifT a3 hcm;refine E z (fc call126 z<|W_w3o (B:=wr.z) aV (a_p<|lt_ (lt_ G.s h1.s) h2.s) (repS.mono (aM.g<|(h1.ag B).c h2<|g_ (or0 (f_ lr) (t_<|zt' O<|lt_ hd G.s):∀k∈[wi.z],¬B k)) hz) Y ((((hb.e G).e h1).c h2<|djs<|mm1 hb.lt G.s).row 0 1 z) hb.lt) ?_;rintro _ _ ⟨aW,rfl,aX⟩;exact Ra z<|Wl (fun _ q=>⟨aU,som aG,q.k<|s5 z z z z z,aW,aX⟩)
   exact a_k<|fun _ q=>⟨0,som<|ifF a3 hcm,q.k<|s5 z z z z z,br we,ii z⟩
  rintro aY _ ⟨xf,rfl,_,aZ,b0⟩;revert aY;exact fun _ q=>⟨xf,som aF,q.k<|s5 z z z z z,aZ,b0⟩
 rintro b1 av ⟨xc,rfl,_,s9,aw⟩;have aH:=elL a1;revert b1;refine Wo<|Wq<|Wq ?_
 obtain ⟨b2,a4,a5⟩:=bdS aH;refine Wt (fun a w=>∃(xn:Bool),xn=b2/\Sat 62 [(9,vI xc),(60,vB xn)] a/\Below av.z av w) ?_ ?_
 ·refine Wd (X:=noX) 0 (.rd 0<|.rd 1<|.rd 2<|.rd 3<|.rd 4<|.rd 5<|.rd 6<|.rd 7<|.rd 8<|.rd 9<|.rd 10<|.rd 11<|.rd 12<|.rd 14<|.ef 13<|.rd 15<|.rd 16<|.rd 17<|.rd 18<|.rd 19<|.rd 20 .done) mo (by kernel_rfl) fun b8 s6 _=>dM z z z<|dR z z (lss z z)<|dM z z z ?_
  rcases bs (decide<|xc<0) with I | I
  ·iterate 5 refine dRn z z z I z ?_
   refine dR z z (pT z I z)<|dM z z z ?_
   iterate 4 refine dRn z z z z z ?_
   exact dEn z z z z z<|dRn z z z z z<|dR z z (pT z z z)<|dM z z z<|dRn z z z z z<|dRn z z z z z<|dR z z (pT z z z)<|pD (fun _ q=>⟨true,som<|ifT a4 I,q.k<|s2 z z,s6⟩)
  have a6:=ifF a4 I;refine dRg z z z I z (mv z)<|dRg z z z I z (fd Z_ z)<|dRg z z z I z (l0 a_2 z<|((((((hv.e h4).e G).e h1).c h2<|djs<|mm1 hv.lt<|lt_ h4.s G.s).e s9).e s6).at z) ?_
  have ax:=lt_ hd G.s;have ay:∀k∈[wi.z],¬B k:=or0 (f_ lr)<|t_<|zt' O ax;have az:=(((aa.e h1).c h2<|g_ ay).e s9).e s6;refine dRg z z z I z (lnR a_a z<|aC.g az)<|dRg z z z I z (b_s z z)<|dR z z (pF z I z)<|dM z z z ?_
  rcases bs (decide<|(x3.items.length:Int)<=xc) with H | H
  ·iterate 4 refine dRn z z z H z ?_
   exact dEn z z z H z<|dRn z z z H z<|dR z z (pT z H z)<|dM z z z<|dRn z z z z z<|dRn z z z z z<|dR z z (pT z z z)<|pD (fun _ q=>⟨true,som<|ifT a6 H,q.k<|s2 z z,s6⟩)
  refine dRg z z z H z (lN (vs:=[sl A0 N0 C0]) w_ u_ z z fid<|((((a8.e h1).c h2<|djs<|mm1 ht.lt<|lt_ (lt_ L.s h4.s) G.s).e s9).e s6).row 0 1 z)<|dRg z z z H z (mv z)<|dRg z z z H z (mv z) ?_
  have aA:=((((hb.e G).e h1).c h2<|djs<|mm1 hb.lt G.s).e s9).e s6;refine dRg z z z H z (l0 g_9 z<|aA.at z) ?_;obtain ⟨b3,b4,a7⟩:=bdS<|ifF a6 H;refine dEg z z z H z (fc call76 z<|W_w20 b4 (zt' O<|lt_ (lt_ (lt_ (lt_ ax h1.s) h2.s) s9.s) s6.s) ((((((((hG.e ha).e L).e h4).e G).e h1).c h2<|g_ ay).e s9).e s6) (V.g az) W aw) (.inr fun _ _ h=>l_<|h.1) ?_;rintro _ _ ⟨so,rfl,_⟩;refine dRg z z z H z (f_g z z)<|dR z z (pF z H z)<|dM z z z ?_
  rcases bs (b3.b != x4.b) with J | J
  ·exact dRn z z z J z<|dRn z z z J z<|dR z z (pT z J z)<|pD (fun _ q=>⟨true,som<|ifT a7 J,q.k<|s2 z z,bup s6 so⟩)
  exact dRg z z z J z (l0 g_9 z<|(aA.e so).at z)<|dRg z z z J z (a_V z z)<|dR z z (pF z J z)<|pD (fun _ q=>⟨x4.b==(⟨[]⟩:Str).b,som<|ifF a7 J,q.k<|s2 z z,bup s6 so⟩)
 rintro b5 _ ⟨xn,rfl,_,aB⟩;revert b5;refine Wo<|Wc z (fun hcp=>?_) (fun hcp=>?_)
 ·refine Ws<|Rw z ?_
  obtain rfl:=som<|ifT a5 hcp;exact Wr<|d_ hr z ⟨bup (bup (bM (bup (bup (bup (bup ha L) h4) G) h1) h2<|m1<|lt_ hd G.s) s9) aB,z,ii z⟩
 refine Wk<|Wm z<|Rw z ?_
 obtain rfl:=som<|ifF a5 hcp;exact Wr<|d_ hr z ⟨bup (bup (bM (bup (bup (bup (bup ha L) h4) G) h1) h2<|m1<|lt_ hd G.s) s9) aB,z,aw⟩
def Q37 (w0:World)(B:Zone)(r:(Option Val)×Int)(v:Value)(w':World):Prop:=Bw w0 w'/\un2 (fun H G=>∃(v1:Value),v = .tuple #[v1,vI G]/\e_D w' B v1 H/\inI G) r
theorem W_w3q {x1:b_}{x2:Val}{I V:Nat}{x3:List Str}{res:(Option Val)×Int}(hm:i_C n x1 x2 x3=some res)(O:B<=w0.z)(hG:Gl w0 B)(J:repS w0 B (sl A0 N0 C0) x1.rules)(a5:inI x2.number)(a6:repS w0 B (sl A9 N9 C9) x2.bytes)(a7:repS w0 B (sl AG NG CG) x2.items)(an:P_ w0 I V [vI x2.number,sl A9 N9 C9,sl AG NG CG])(a8:B I)(L:repS w0 B (sl A7 N7 C7) x3):i_ prog 50 [(.agg #[sl A0 N0 C0]),.pointer<|some ⟨I,V,none⟩,sl A7 N7 C7] w0 (Q37 w0 B res):=by
 unfold i_C at hm
 refine goG func50 z z z fun fn hr=>Ws<|E z (fb z) ?_
 rintro _ ap ⟨rfl,ht⟩;have h2:=ht.below;have hu:Blk ap w0.z [sl A0 N0 C0]:=ht.blk;refine Ra z<|Rw z<|Ws<|R z (lN (vs:=[sl A0 N0 C0]) w_ u_ z z fid<|hu.row 0 1 z) ?_
 obtain ⟨_,aq,a9⟩:=bdS hm;refine E z (fc call42 z<|e_W aq (zt' O h2.s)<|J.e h2) ?_;rintro _ we ⟨s5,rfl,ar⟩;refine Rw z<|Wq<|Wm z ?_
 have hj:=(h2.ag B).e s5;refine R z (lnR T_ z<|L.g hj)<|Rm z<|Wn ?_
 obtain ⟨_,aa,hms⟩:=bdS a9;refine Wf (σ:=Val×Int) (ρ:=(Option Val)×Int) (fun (kv:Nat) s a w=>un2 (fun x6 x4=>∃G o1,Sat 43 [(1,.pointer<|some ⟨G,o1,none⟩),(3,pt w0.z),(8,vI x4),(14,sl A7 N7 C7),(15,vI (x3.length:Int)),(16,vI ((kv:Nat):Int))] a/\Below we.z we w/\d_8 w B G o1 x6/\inI x4) s) (fun s a w=>un2 (fun x6 x4=>∃G o1,Sat 43 [(1,.pointer<|some ⟨G,o1,none⟩),(8,vI x4)] a/\Below we.z we w/\d_8 w B G o1 x6/\inI x4) s) (rQ prog fn<|Q37 w0 B) aa ?_ ?_ ?_ ?_ ?_
 ·exact fun _ q=>⟨I,V,q.k<|s6 z z z z z z,br we,d_8.mk ((an.e h2).e s5) (j_h a5 (a6.g hj)<|a7.g hj) a8,ar⟩
 ·rintro kv ⟨x6,x4⟩ _ _ _ hkw ⟨G,o1,ab,s8,hf,H⟩ ad;obtain ⟨csx,hg,hh,hi⟩:=hf;obtain ⟨al,nm,cn,ao,np,cq,rfl,ha,hb,hd⟩:=b_T hh;refine Wu ?_ ab;refine Ws<|Rl z z z<|Wn<|Wq<|Wc z (fun _=>?_) (fun hc=>(V_ hkw hc).elim)
  refine Wk<|Wq<|Wb<|Ws ?_
  obtain ⟨_,au,ae⟩:=bdS<|a_G ad;have hy:=hj.e s8;refine RX z (at_ (α:=Str) T_ z_9 z z z (L.g hy) au) ?_;rintro _ ⟨_,_,_,rfl,av,aw,_⟩;obtain ⟨rfl,ax⟩:=b_2 aw;refine R z (l0 g_9 z<|av.at0 z)<|Rw z<|Wq (Wd (X:=noX) 0 (pl_ 8 [6]) mo (by kernel_rfl) fun aQ s3 _=>?_)
  have hz:=((hu.e s5).e s8).e s3;refine dR z z (lN (vs:=[sl A0 N0 C0]) w_ u_ z z fid<|hz.row 0 1 z)<|dM z z z<|dM z z z<|dR z z (B_ z) ?_
  have Y:=hg.e s3;refine dR z z (lN (vs:=[vI x6.number,sl al nm cn,sl ao np cq]) r_ c_ z z fid Y)<|dM z z z ?_
  have a0:=hy.e s3;have a1:=lt_ (lt_ (lt_ h2.s s5.s) s8.s) s3.s;obtain ⟨_,ay,W⟩:=bdS ae;refine dE z z (fc call89 z<|W_w3p ay (zt' O a1) ((((hG.e h2).e s5).e s8).e s3) (J.g a0) H ha (hb.e s3) (hd.e s3) ax) (.inr fun _ _ h=>l_<|h.1) ?_;rintro _ _ ⟨s7,rfl,az⟩;refine dQ z z z<|pD<|Wo<|Wq<|Wm z<|Rl z z z<|Wx z (fun hcr=>?_) (fun hcr=>?_)
  ·exact Ws<|Ra z<|Rw z<|Wr<|rtO<|qL (som<|ifT W hcr).symm<|a_4 hr z z ⟨bup (bup (bup (bup h2 s5) s8) s3) s7,.pointer none,z,e_D.nil,ii z⟩
  refine Wk<|Wd (X:=noX) 0 (.rd 0<|.rd 1<|.rd 2<|.rd 3<|.rd 5<|.rd 6<|.rd 7<|.rd 8<|.rd 9<|.rd 10<|.ef 4<|.rd 11<|.rd 12 .done) mo (by kernel_rfl) fun aR sc _=>dR z z (lN (vs:=[sl A0 N0 C0]) w_ u_ z z fid<|((hz.e s7).e sc).row 0 1 z) ?_
  iterate 4 refine dM z z z ?_
  refine dR z z (B_ z)<|dR z z (fd Z_ z) ?_
  have a2:=(Y.e s7).e sc;refine dR z z (l0 a_2 z<|a2.at (j:=2) z)<|dM z z z ?_
  obtain ⟨aA,aB,af⟩:=bdS<|ifF W hcr;have a3:=((s3.ag B).e s7).e sc;have a4:=hd.g a3;refine dRX z z (at_ (α:=Val) a_a c_ z z z a4 aB) ?_;rintro _ ⟨aC,aD,_,rfl,aE,aF,aG⟩;obtain ⟨_,_,_,_,_,_,rfl,aH,aI,aJ⟩:=b_T aF;obtain ⟨aK,aL,ah⟩:=bdS af;refine dE z z (fc call77 z<|j_R aL (zt' O<|lt_ (lt_ a1 s7.s) sc.s) (J.g<|(a0.e s7).e sc) H ha (hb.g a3) a4 a2 hi az) (.inr fun _ _ h=>l_<|h.1) ?_;rintro _ _ ⟨sk,rfl,aM⟩;exact dQ z z z<|dQ z z z<|pD<|Wo<|Wg<|R z (inc_ hkw (lt_ (repS.len L) D_) z z)<|Rm z<|Wl (fun _ q=>⟨(aA,aK),(som ah).symm,⟨aC,aD,q.k<|s6 z z z z z z,bup (bup (bup (bup s8 s3) s7) sc) sk,d_8.mk (aE.e sk) (j_h aH (aI.e sk)<|aJ.e sk) aG,aM⟩⟩)
 ·rintro ⟨x6,x4⟩ _ _ ⟨G,o1,ai,aN,hf,H⟩;obtain ⟨csx,hg,hh,hi⟩:=hf;obtain ⟨al,nm,cn,ao,np,cq,rfl,ha,hb,hd⟩:=b_T hh;refine Wu ?_ ai;refine Ws<|Rl z z z<|Wn<|Wq<|Wc z (fun hc=>(W_ hc).elim) (fun _=>?_)
  exact We<|fun _ q=>⟨rfl,⟨G,o1,q.k<|s2 z z,aN,d_8.mk hg (j_h ha hb hd) hi,H⟩⟩
 ·rintro ⟨x6,x4⟩ aO _ rfl ⟨G,o1,_,aP,hf,H⟩;obtain ⟨csx,hg,hh,hi⟩:=hf;obtain ⟨al,nm,cn,ao,np,cq,rfl,ha,hb,hd⟩:=b_T hh;have aj:=elL hms;revert aO;refine Wo<|Wm z<|Rm z<|Ra z<|Rw z ?_
  obtain rfl:=som<|a_G aj;exact Wr<|a_4 hr z z ⟨bup (bup h2 s5) aP,.pointer<|some ⟨G,o1,none⟩,z,e_D.mk<|d_8.mk hg (j_h ha hb hd) hi,H⟩
 rintro _ _ _ _ rfl ⟨rfl,ak⟩;have am:=elR hms;obtain rfl:=som am;exact ⟨ak,z⟩
structure j_V (f:Val->Option Val):Prop where
  run:∀{A1 AC:Option Addr}{N1 C1 NC CC:Nat}{B:Zone}{x1:Val}{res:Val}{w0:World}(hm:f x1=some res)(hBw:B<=w0.z)(p1_0:inI x1.number)(p1_1:repS w0 B (sl A1 N1 C1) x1.bytes)(p1_2:repS w0 B (sl AC NC CC) x1.items),i_ prog 51 [(.agg #[vI x1.number,sl A1 N1 C1,sl AC NC CC])] w0<|Q19 w0 B res
abbrev l_x (n:Nat):Prop:=j_V (d_Q n).impl_CopyValue
theorem T_w0h (im:l_x n):j_V (e_u n<|d_Q n):=by
 constructor
 intro A1 AC N1 C1 NC CC B x1 res w0 hm aT O Y aD;unfold e_u at hm
 refine goG func51 z z z fun fn hr=>Ws<|E z (fb z) ?_
 rintro _ a4 ⟨rfl,da⟩;have a5:=da.below;have ax:Blk a4 w0.z [vI x1.number,sl A1 N1 C1,sl AC NC CC]:=da.blk;refine E z (fa J_) ?_;rintro _ I ⟨rfl,db⟩;have hh:=db.below;have ay:Blk I a4.z [vI 0,sl none 0 0,sl none 0 0]:=db.blk;refine Wn<|Wq ?_
 obtain ⟨ip,hur,gc⟩:=bdS hm;refine Wt (fun a w=>∃(xi:Int)(aU:List UInt8)(aV:List Val),(xi,aU,aV)=ip/\∃aj nk cl Sx aE aF aG S3 g1,Sat 33 [(1,pt w0.z),(2,pt a4.z),(3,pt g1)] a/\Below I.z I w/\inI xi/\a_ w Sx (sl aj nk cl) aU/\Sx.Nodup/\(∀k∈Sx,I.z<=k)/\a_ w S3 (sl aE aF aG) aV/\S3.Nodup/\(∀k∈S3,I.z<=k)/\(∀k∈S3,k∉Sx)/\Blk w g1 [vI xi,sl aj nk cl,sl aE aF aG]/\I.z<=g1/\(∀k∈Sx,k∉[g1])/\(∀k∈S3,k∉[g1])) ?_ ?_
 ·refine Wd (X:=fun k=>k∈([]:List Nat)∨I.z<=k) 4096 (.rd 0<|.rd 1<|.rd 3<|.rd 4<|.rd 6<|.rd 7<|.rd 8<|.br3 2 (.br3 5 (.br 9 (.rd 10<|.ef 11<|.ef 12 .done) 11<|.ef 9<|.rd 10<|.ef 12 .done) 9 (.br 5 (.rd 10<|.ef 11<|.ef 12 .done) 11<|.ef 5<|.rd 10<|.ef 12 .done) 11<|.br 5 (.ef 9<|.rd 10<|.ef 12 .done) 9<|.ef 5<|.rd 10<|.ef 12 .done) 9 (.br 2 (.br 5 (.rd 10<|.ef 11<|.ef 12 .done) 11<|.ef 5<|.rd 10<|.ef 12 .done) 11<|.ef 2<|.ef 5<|.rd 10<|.ef 12 .done) 11<|.br 2 (.br 5 (.ef 9<|.rd 10<|.ef 12 .done) 9<|.ef 5<|.rd 10<|.ef 12 .done) 9<|.ef 2<|.ef 5<|.rd 10<|.ef 12 .done) mo (by kernel_rfl) fun L G _=>dR z z (fd b_0 z) ?_
  have aW:=(ax.e hh).e G;refine dR z z (l1 g_3 z (b_q nm0<|Nat.lt_of_lt_of_le ax.lt hh.s)<|aW.at z)<|dR z z (fd b_j z)<|dR z z (l1 R_ z (b_q nm0<|Nat.lt_of_lt_of_le ax.lt hh.s)<|aW.at z)<|dR z z (fd Z_ z)<|dR z z (l1 a_2 z (b_q nm0<|Nat.lt_of_lt_of_le ax.lt hh.s)<|aW.at z) ?_
  have V:=((a5.ag B).e hh).e G;refine dR z z (lnR a_a z<|aD.g V)<|l_F ?_ ?_ ?_
  ·refine dE z z (f0 (α:=UInt8) a_o) (.inr fun _ _ h=>l_ (by obtain ⟨_,_,_,_,h,_⟩:=h;exact h)) ?_;rintro _ wy ⟨_,_,_,rfl,s6,hg⟩;refine l_F ?_ ?_ ?_
   ·obtain ⟨dc,iq,d6⟩:=bdS hur;refine dE z z (fN (α:=UInt8) a_o iq z z hg a_b<|Y.g<|V.e s6) (.inr fun _ _ h=>by obtain ⟨_,_,_,_,_,h,_⟩:=h;exact h.mono fun k _ hk=>(mor G.s:∀k∈[L.z],k∈([]:List Nat)∨I.z<=k) k hk) ?_;rintro _ aX ⟨dd,a6,a7,a8,rfl,aH,a9,de,df⟩;refine b_p ?_ ?_
    ·obtain ⟨_,ir,fL⟩:=bdS d6;refine dE z z (d_m (α:=Val) b_x ir z z) (.inr fun _ _ h=>l_ (by obtain ⟨_,_,_,_,h,_⟩:=h;exact h)) ?_;rintro _ dg ⟨aY,aZ,b0,rfl,aI,dh⟩;refine dR z z (bP (parts:=[(0,.tmp 7),(1,.tmp 11),(2,.tmp 15)]) (cs:=[vI x1.number,sl a6 a7 a8,sl aY aZ b0]) L_ z z)<|dE z z (fa J_) (.inr fun _ _ h=>l_<|h.2.below) ?_
     rintro _ ge ⟨rfl,di⟩;have b1:=di.below;have dj:=lt_ G.s s6.s;have dk:=lt_ dj aH.s;have b2:=m1<|lt_ dk aI.s
     refine dE0 z (fs0 (cur':=[vI x1.number,sl a6 a7 a8,sl aY aZ b0]) c_ z z (di.blk:Blk ge dg.z [vI 0,sl none 0 0,sl none 0 0]) z z z z) (.inr fun _ _ h=>a_C (atp b2) h.2) ?_;rintro _ _ ⟨gf,gg⟩;have b3:=gg.one;refine pD ?_;have dl:=mno (a_.lt a9) aI.s;have dm:=m1 G.s;have dn:=mnr<|a_.lt dh
     exact fun _ q=>⟨x1.number,dc,([]:List Val),som fL,a6,a7,a8,dd,aY,aZ,b0,[aX.z],dg.z,q.k<|s3 z z z,bM (bup (bup (bM (bup G s6) aH dm) aI) b1) b3 b2,O,((a9.e aI).e b1).c b3<|ds dl,de,a_E df dm dj,(dh.e b1).c b3<|ds dn,a_b,m1 dk,mnr<|a_.lt a9,gf,atp b2,ds dl,ds dn⟩
    refine dE z z (fa J_) (.inr fun _ _ h=>l_<|h.2.below) ?_;rintro _ dp ⟨rfl,dq⟩;have aJ:=dq.below;have dr:Blk dp aX.z [vI 0,sl none 0 0,sl none 0 0]:=dq.blk;obtain ⟨_,gh,fM⟩:=bdS d6;refine dE z z (d_m (α:=Val) b_x gh z z) (.inr fun _ _ h=>l_ (by obtain ⟨_,_,_,_,h,_⟩:=h;exact h)) ?_;rintro _ _ ⟨b4,b5,b6,rfl,b7,gi⟩;refine dR z z (bP (parts:=[(0,.tmp 7),(1,.tmp 11),(2,.tmp 15)]) (cs:=[vI x1.number,sl a6 a7 a8,sl b4 b5 b6]) L_ z z) ?_;have dt:=lt_ G.s s6.s;have du:=lt_ dt aH.s;have b8:=m1 du;refine dE0 z (fs0 (cur':=[vI x1.number,sl a6 a7 a8,sl b4 b5 b6]) c_ z z (dr.e b7) z z z z) (.inr fun _ _ h=>a_C (atp b8) h.2) ?_;rintro _ _ ⟨gj,gk⟩;have b9:=gk.one;refine pD ?_;have dv:=mnr<|a_.lt a9
    have dw:=m1 G.s;have dx:=mmr dr.lt;exact fun _ q=>⟨x1.number,dc,([]:List Val),som fM,a6,a7,a8,dd,b4,b5,b6,[dp.z],aX.z,q.k<|s3 z z z,bM (bup (bup (bM (bup G s6) aH dw) aJ) b7) b9 b8,O,((a9.e aJ).e b7).c b9<|ds dv,de,a_E df dw dt,gi.c b9 dx,a_b,m1<|lt_ du aJ.s,mno (a_.lt a9) aJ.s,gj,atp b8,ds dv,dx⟩
   ·obtain ⟨dy,dz,fO⟩:=bdS hur;obtain ⟨_,gl,d7⟩:=bdS fO;refine dE z z (d_m (α:=Val) b_x gl z z) (.inr fun _ _ h=>l_ (by obtain ⟨_,_,_,_,h,_⟩:=h;exact h)) ?_;rintro _ ba ⟨aa,ab,ae,rfl,sm,af⟩;refine b_p ?_ ?_
    ·have gm:∀k∈[L.z],k∈([]:List Nat)∨I.z<=k:=mor G.s;refine dE z z (fN (α:=UInt8) a_o dz z z (hg.e sm) a_b<|Y.g<|(V.e s6).e sm) (.inr fun _ _ h=>by obtain ⟨_,_,_,_,_,h,_⟩:=h;exact h.mono fun k _ hk=>gm k hk) ?_;rintro _ dA ⟨gn,bb,bc,be,rfl,aK,dB,gp,dC⟩;refine dR z z (bP (parts:=[(0,.tmp 7),(1,.tmp 11),(2,.tmp 15)]) (cs:=[vI x1.number,sl bb bc be,sl aa ab ae]) L_ z z)<|dE z z (fa J_) (.inr fun _ _ h=>l_<|h.2.below) ?_
     rintro _ gq ⟨rfl,dD⟩;have bf:=dD.below;have dF:=lt_ G.s s6.s;have dG:=lt_ dF sm.s;have bg:=m1<|lt_ dG aK.s
     refine dE0 z (fs0 (cur':=[vI x1.number,sl bb bc be,sl aa ab ae]) c_ z z (dD.blk:Blk gq dA.z [vI 0,sl none 0 0,sl none 0 0]) z z z z) (.inr fun _ _ h=>a_C (atp bg) h.2) ?_;rintro _ _ ⟨gr,gs⟩;have bh:=gs.one;refine pD ?_;have dH:=mnr<|a_.lt dB
     have dI:=m1 G.s;have dJ:=mnr<|a_.lt hg
     have dK:=mno (a_.lt af) aK.s;exact fun _ q=>⟨x1.number,dy,([]:List Val),som d7,bb,bc,be,gn,aa,ab,ae,[wy.z],dA.z,q.k<|s3 z z z,bM (bup (bM (bup (bup G s6) sm) aK dI) bf) bh bg,O,(dB.e bf).c bh<|ds dH,gp,a_E dC dI dG,((af.c aK dJ).e bf).c bh<|ds dK,a_b,m1 dF,ds<|c_H dC (ds dJ) (a_.lt af) lr,gr,atp bg,ds dH,ds dK⟩
    refine dE z z (fa J_) (.inr fun _ _ h=>l_<|h.2.below) ?_;rintro _ gt ⟨rfl,dL⟩;have ah:=dL.below;have dN:Blk gt ba.z [vI 0,sl none 0 0,sl none 0 0]:=dL.blk;refine dE z z (fN (α:=UInt8) a_o dz z z ((hg.e sm).e ah) a_b<|Y.g<|((V.e s6).e sm).e ah) (.inr fun _ _ h=>by obtain ⟨_,_,_,_,_,h,_⟩:=h;exact h.mono fun k _ hk=>(mor G.s:∀k∈[L.z],k∈([]:List Nat)∨I.z<=k) k hk) ?_;rintro _ _ ⟨dO,bi,bj,bk,rfl,bm,gu,gv,bn⟩;refine dR z z (bP (parts:=[(0,.tmp 7),(1,.tmp 11),(2,.tmp 15)]) (cs:=[vI x1.number,sl bi bj bk,sl aa ab ae]) L_ z z) ?_;have dP:=mno (a_.lt hg) sm.s;have dS:=lt_ G.s s6.s;have dT:=lt_ dS sm.s;have bo:=m1 dT;refine dE0 z (fs0 (cur':=[vI x1.number,sl bi bj bk,sl aa ab ae]) c_ z z (dN.c bm<|atp dP) z z z z) (.inr fun _ _ h=>a_C (atp bo) h.2) ?_;rintro _ _ ⟨gw,gx⟩;have bp:=gx.one;refine pD ?_;have dU:∀k∈dO,k∉[ba.z]:=or1 bn (ds dP)<|a_f (f_ dN.lt) lr;have dV:=m1 G.s;have dW:=mnr<|a_.lt hg
    have dX:=mnr<|a_.lt af
    exact fun _ q=>⟨x1.number,dy,([]:List Val),som d7,bi,bj,bk,dO,aa,ab,ae,[wy.z],ba.z,q.k<|s3 z z z,bM (bM (bup (bup (bup G s6) sm) ah) bm dV) bp bo,O,gu.c bp dU,gv,a_E bn dV<|lt_ dT ah.s,((af.e ah).c bm dW).c bp<|ds dX,a_b,m1 dS,ds<|c_H bn (ds dW) (a_.lt af) ah.s,gw,atp bo,dU,ds dX⟩
   refine dE z z (fa J_) (.inr fun _ _ h=>l_<|h.2.below) ?_;rintro _ dY ⟨rfl,dZ⟩;have hn:=dZ.below;have ai:Blk dY wy.z [vI 0,sl none 0 0,sl none 0 0]:=dZ.blk;refine b_p ?_ ?_
   ·obtain ⟨gy,gz,fP⟩:=bdS hur;refine dE z z (fN (α:=UInt8) a_o gz z z (hg.e hn) a_b<|Y.g<|(V.e s6).e hn) (.inr fun _ _ h=>by obtain ⟨_,_,_,_,_,h,_⟩:=h;exact h.mono fun k _ hk=>(mor G.s:∀k∈[L.z],k∈([]:List Nat)∨I.z<=k) k hk) ?_;rintro _ gA ⟨e0,bq,bs,bt,rfl,aL,e1,gB,e2⟩;obtain ⟨_,gC,fQ⟩:=bdS fP;refine dE z z (d_m (α:=Val) b_x gC z z) (.inr fun _ _ h=>l_ (by obtain ⟨_,_,_,_,h,_⟩:=h;exact h)) ?_;rintro _ _ ⟨bu,bv,bw,rfl,bx,gD⟩;refine dR z z (bP (parts:=[(0,.tmp 7),(1,.tmp 11),(2,.tmp 15)]) (cs:=[vI x1.number,sl bq bs bt,sl bu bv bw]) L_ z z) ?_;have e3:=mnr<|a_.lt hg
    have e4:=lt_ G.s s6.s;have bz:=m1 e4;refine dE0 z (fs0 (cur':=[vI x1.number,sl bq bs bt,sl bu bv bw]) c_ z z ((ai.c aL<|atp e3).e bx) z z z z) (.inr fun _ _ h=>a_C (atp bz) h.2) ?_;rintro _ _ ⟨gE,gF⟩;have bA:=gF.one;refine pD ?_;have e5:∀k∈e0,k∉[wy.z]:=or1 e2 (ds e3)<|a_f (f_ ai.lt) lr;have e6:=lt_ e4 hn.s;have e7:=m1 G.s;have e8:=mm1 ai.lt aL.s;exact fun _ q=>⟨x1.number,gy,([]:List Val),som fQ,bq,bs,bt,e0,bu,bv,bw,[gA.z],wy.z,q.k<|s3 z z z,bM (bup (bM (bup (bup G s6) hn) aL e7) bx) bA bz,O,(e1.e bx).c bA e5,gB,a_E e2 e7 e6,gD.c bA e8,a_b,m1<|lt_ e6 aL.s,mnr<|a_.lt e1,gE,atp bz,e5,e8⟩
   obtain ⟨gG,gH,fR⟩:=bdS hur;obtain ⟨_,gI,fT⟩:=bdS fR;refine dE z z (d_m (α:=Val) b_x gI z z) (.inr fun _ _ h=>l_ (by obtain ⟨_,_,_,_,h,_⟩:=h;exact h)) ?_;rintro _ _ ⟨bB,bC,bD,rfl,ak,e9⟩;refine dE z z (fN (α:=UInt8) a_o gH z z ((hg.e hn).e ak) a_b<|Y.g<|((V.e s6).e hn).e ak) (.inr fun _ _ h=>by obtain ⟨_,_,_,_,_,h,_⟩:=h;exact h.mono fun k _ hk=>(mor G.s:∀k∈[L.z],k∈([]:List Nat)∨I.z<=k) k hk) ?_;rintro _ _ ⟨ea,bE,bF,bG,rfl,bH,gJ,gK,bI⟩;refine dR z z (bP (parts:=[(0,.tmp 7),(1,.tmp 11),(2,.tmp 15)]) (cs:=[vI x1.number,sl bE bF bG,sl bB bC bD]) L_ z z) ?_;have eb:=mnr<|a_.lt hg
   have ec:=lt_ G.s s6.s;have bJ:=m1 ec;refine dE0 z (fs0 (cur':=[vI x1.number,sl bE bF bG,sl bB bC bD]) c_ z z ((ai.e ak).c bH<|atp eb) z z z z) (.inr fun _ _ h=>a_C (atp bJ) h.2) ?_;rintro _ _ ⟨gL,gM⟩;have bK:=gM.one;refine pD ?_;have ed:∀k∈ea,k∉[wy.z]:=or1 bI (ds eb)<|a_f (f_ ai.lt) ak.s;have ee:=lt_ ec hn.s;have eg:=m1 G.s;have eh:=mno (a_.lt hg) hn.s;have ei:=mmr ai.lt;exact fun _ q=>⟨x1.number,gG,([]:List Val),som fT,bE,bF,bG,ea,bB,bC,bD,[dY.z],wy.z,q.k<|s3 z z z,bM (bM (bup (bup (bup G s6) hn) ak) bH eg) bK bJ,O,gJ.c bK ed,gK,a_E bI eg<|lt_ ee ak.s,(e9.c bH eh).c bK ei,a_b,m1 ee,ds<|c_H bI (ds eh) (a_.lt e9) lr,gL,atp bJ,ed,ei⟩
  ·obtain ⟨bL,bN,fU⟩:=bdS hur;obtain ⟨_,gN,aS⟩:=bdS fU;refine dE z z (d_m (α:=Val) b_x gN z z) (.inr fun _ _ h=>l_ (by obtain ⟨_,_,_,_,h,_⟩:=h;exact h)) ?_;rintro _ az ⟨ao,np,cq,rfl,ss,W⟩;refine b_p ?_ ?_
   ·refine dE z z (f0 (α:=UInt8) a_o) (.inr fun _ _ h=>l_ (by obtain ⟨_,_,_,_,h,_⟩:=h;exact h)) ?_;rintro _ bO ⟨_,_,_,rfl,sa,bQ⟩;refine b_p ?_ ?_
    ·have bR:=lt_ G.s ss.s;refine dE z z (fN (α:=UInt8) a_o bN z z bQ a_b<|Y.g<|(V.e ss).e sa) (.inr fun _ _ h=>by obtain ⟨_,_,_,_,_,h,_⟩:=h;exact h.mono fun k _ hk=>(mor bR:∀k∈[az.z],k∈([]:List Nat)∨I.z<=k) k hk) ?_;rintro _ ej ⟨gO,bS,bT,bU,rfl,aM,ek,gP,em⟩;refine dR z z (bP (parts:=[(0,.tmp 7),(1,.tmp 11),(2,.tmp 15)]) (cs:=[vI x1.number,sl bS bT bU,sl ao np cq]) L_ z z)<|dE z z (fa J_) (.inr fun _ _ h=>l_<|h.2.below) ?_
     rintro _ gQ ⟨rfl,en⟩;have bV:=en.below;have eo:=lt_ bR sa.s;have bW:=m1<|lt_ eo aM.s
     refine dE0 z (fs0 (cur':=[vI x1.number,sl bS bT bU,sl ao np cq]) c_ z z (en.blk:Blk gQ ej.z [vI 0,sl none 0 0,sl none 0 0]) z z z z) (.inr fun _ _ h=>a_C (atp bW) h.2) ?_;rintro _ _ ⟨gR,gS⟩;have bX:=gS.one;refine pD ?_;have ep:=mnr<|a_.lt ek
     have er:=m1 bR;have es:=mnr<|a_.lt W
     have eu:=mno (a_.lt W)<|lt_ sa.s aM.s
     exact fun _ q=>⟨x1.number,bL,([]:List Val),som aS,bS,bT,bU,gO,ao,np,cq,[L.z],ej.z,q.k<|s3 z z z,bM (bup (bM (bup (bup G ss) sa) aM er) bV) bX bW,O,(ek.e bV).c bX<|ds ep,gP,a_E em er eo,(((W.e sa).c aM<|ds es).e bV).c bX<|ds eu,a_b,m1 G.s,ds<|c_H em es (a_.lt W) sa.s,gR,atp bW,ds ep,ds eu⟩
    refine dE z z (fa J_) (.inr fun _ _ h=>l_<|h.2.below) ?_;rintro _ gT ⟨rfl,ew⟩;have al:=ew.below;have ex:Blk gT bO.z [vI 0,sl none 0 0,sl none 0 0]:=ew.blk;have bY:=lt_ G.s ss.s;refine dE z z (fN (α:=UInt8) a_o bN z z (bQ.e al) a_b<|Y.g<|((V.e ss).e sa).e al) (.inr fun _ _ h=>by obtain ⟨_,_,_,_,_,h,_⟩:=h;exact h.mono fun k _ hk=>(mor bY:∀k∈[az.z],k∈([]:List Nat)∨I.z<=k) k hk) ?_;rintro _ _ ⟨ey,bZ,c0,c1,rfl,c2,gU,gV,c3⟩;refine dR z z (bP (parts:=[(0,.tmp 7),(1,.tmp 11),(2,.tmp 15)]) (cs:=[vI x1.number,sl bZ c0 c1,sl ao np cq]) L_ z z) ?_;have ez:=mnr<|a_.lt bQ
    have eA:=lt_ bY sa.s;have c4:=m1 eA;refine dE0 z (fs0 (cur':=[vI x1.number,sl bZ c0 c1,sl ao np cq]) c_ z z (ex.c c2<|atp ez) z z z z) (.inr fun _ _ h=>a_C (atp c4) h.2) ?_;rintro _ _ ⟨gW,gX⟩;have c5:=gX.one;refine pD ?_;have eB:∀k∈ey,k∉[bO.z]:=or1 c3 (ds ez)<|a_f (f_ ex.lt) lr;have eC:=m1 bY;have eD:=mnr<|a_.lt W
    have eE:=mno (a_.lt W) sa.s;exact fun _ q=>⟨x1.number,bL,([]:List Val),som aS,bZ,c0,c1,ey,ao,np,cq,[L.z],bO.z,q.k<|s3 z z z,bM (bM (bup (bup (bup G ss) sa) al) c2 eC) c5 c4,O,gU.c c5 eB,gV,a_E c3 eC<|lt_ eA al.s,(((W.e sa).e al).c c2<|ds eD).c c5<|ds eE,a_b,m1 G.s,ds<|c_H c3 eD (a_.lt W)<|lt_ sa.s al.s,gW,atp c4,eB,ds eE⟩
   refine dE z z (fa J_) (.inr fun _ _ h=>l_<|h.2.below) ?_;rintro _ eF ⟨rfl,eG⟩;have am:=eG.below;have c6:Blk eF az.z [vI 0,sl none 0 0,sl none 0 0]:=eG.blk;refine dE z z (f0 (α:=UInt8) a_o) (.inr fun _ _ h=>l_ (by obtain ⟨_,_,_,_,h,_⟩:=h;exact h)) ?_;rintro _ _ ⟨_,_,_,rfl,sz,gY⟩;have eH:=lt_ G.s ss.s;have c7:=lt_ eH am.s;refine dE z z (fN (α:=UInt8) a_o bN z z gY a_b<|Y.g<|((V.e ss).e am).e sz) (.inr fun _ _ h=>by obtain ⟨_,_,_,_,_,h,_⟩:=h;exact h.mono fun k _ hk=>(mor c7:∀k∈[eF.z],k∈([]:List Nat)∨I.z<=k) k hk) ?_;rintro _ _ ⟨eI,c8,c9,ca,rfl,cb,gZ,h0,cc⟩;refine dR z z (bP (parts:=[(0,.tmp 7),(1,.tmp 11),(2,.tmp 15)]) (cs:=[vI x1.number,sl c8 c9 ca,sl ao np cq]) L_ z z) ?_;have eJ:=mmr c6.lt;have cd:=m1 eH;refine dE0 z (fs0 (cur':=[vI x1.number,sl c8 c9 ca,sl ao np cq]) c_ z z ((c6.e sz).c cb<|djs eJ) z z z z) (.inr fun _ _ h=>a_C (atp cd) h.2) ?_;rintro _ _ ⟨h1,h2⟩;have ce:=h2.one;refine pD ?_;have eK:∀k∈eI,k∉[az.z]:=or1 cc eJ<|a_f (f_ c6.lt) sz.s;have eL:=m1 c7;have eM:=mno (a_.lt W) am.s;have eN:=mnr<|a_.lt W
   exact fun _ q=>⟨x1.number,bL,([]:List Val),som aS,c8,c9,ca,eI,ao,np,cq,[L.z],az.z,q.k<|s3 z z z,bM (bM (bup (bup (bup G ss) am) sz) cb eL) ce cd,O,gZ.c ce eK,h0,a_E cc eL<|lt_ c7 sz.s,(((W.e am).e sz).c cb<|ds eM).c ce<|ds eN,a_b,m1 G.s,ds<|c_H cc eM (a_.lt W)<|lt_ am.s sz.s,h1,atp cd,eK,ds eN⟩
  refine dE z z (fa J_) (.inr fun _ _ h=>l_<|h.2.below) ?_;rintro _ aN ⟨rfl,eO⟩;have ht:=eO.below;have hb:Blk aN L.z [vI 0,sl none 0 0,sl none 0 0]:=eO.blk;refine b_p ?_ ?_
  ·refine dE z z (f0 (α:=UInt8) a_o) (.inr fun _ _ h=>l_ (by obtain ⟨_,_,_,_,h,_⟩:=h;exact h)) ?_;rintro _ h3 ⟨_,_,_,rfl,sc,cg⟩;refine b_p ?_ ?_
   ·obtain ⟨h4,h5,fV⟩:=bdS hur;have ch:=lt_ G.s ht.s;refine dE z z (fN (α:=UInt8) a_o h5 z z cg a_b<|Y.g<|(V.e ht).e sc) (.inr fun _ _ h=>by obtain ⟨_,_,_,_,_,h,_⟩:=h;exact h.mono fun k _ hk=>(mor ch:∀k∈[aN.z],k∈([]:List Nat)∨I.z<=k) k hk) ?_;rintro _ h6 ⟨eP,ci,cj,ck,rfl,aO,eQ,h7,eR⟩;obtain ⟨_,ha,fW⟩:=bdS fV;refine dE z z (d_m (α:=Val) b_x ha z z) (.inr fun _ _ h=>l_ (by obtain ⟨_,_,_,_,h,_⟩:=h;exact h)) ?_;rintro _ _ ⟨cm,cn,co,rfl,cp,hd⟩;refine dR z z (bP (parts:=[(0,.tmp 7),(1,.tmp 11),(2,.tmp 15)]) (cs:=[vI x1.number,sl ci cj ck,sl cm cn co]) L_ z z) ?_;have eS:=mmr hb.lt;have ct:=m1 G.s;refine dE0 z (fs0 (cur':=[vI x1.number,sl ci cj ck,sl cm cn co]) c_ z z (((hb.e sc).c aO<|djs eS).e cp) z z z z) (.inr fun _ _ h=>a_C (atp ct) h.2) ?_;rintro _ _ ⟨he,hf⟩;have cu:=hf.one;refine pD ?_;have eT:∀k∈eP,k∉[L.z]:=or1 eR eS<|a_f (f_ hb.lt) sc.s;have eU:=lt_ ch sc.s;have eV:=m1 ch;have eW:=mm1 hb.lt<|lt_ sc.s aO.s
    exact fun _ q=>⟨x1.number,h4,([]:List Val),som fW,ci,cj,ck,eP,cm,cn,co,[h6.z],L.z,q.k<|s3 z z z,bM (bup (bM (bup (bup G ht) sc) aO eV) cp) cu ct,O,(eQ.e cp).c cu eT,h7,a_E eR eV eU,hd.c cu eW,a_b,m1<|lt_ eU aO.s,mnr<|a_.lt eQ,he,atp ct,eT,eW⟩
   obtain ⟨hi,hj,fX⟩:=bdS hur;obtain ⟨_,hl,fY⟩:=bdS fX;refine dE z z (d_m (α:=Val) b_x hl z z) (.inr fun _ _ h=>l_ (by obtain ⟨_,_,_,_,h,_⟩:=h;exact h)) ?_;rintro _ _ ⟨cv,cw,cx,rfl,an,eX⟩;have cy:=lt_ G.s ht.s;refine dE z z (fN (α:=UInt8) a_o hj z z (cg.e an) a_b<|Y.g<|((V.e ht).e sc).e an) (.inr fun _ _ h=>by obtain ⟨_,_,_,_,_,h,_⟩:=h;exact h.mono fun k _ hk=>(mor cy:∀k∈[aN.z],k∈([]:List Nat)∨I.z<=k) k hk) ?_;rintro _ _ ⟨eY,cz,cA,cB,rfl,cC,ho,hp,cD⟩;refine dR z z (bP (parts:=[(0,.tmp 7),(1,.tmp 11),(2,.tmp 15)]) (cs:=[vI x1.number,sl cz cA cB,sl cv cw cx]) L_ z z) ?_;have eZ:=mmr hb.lt;have cE:=m1 G.s;refine dE0 z (fs0 (cur':=[vI x1.number,sl cz cA cB,sl cv cw cx]) c_ z z (((hb.e sc).e an).c cC<|djs eZ) z z z z) (.inr fun _ _ h=>a_C (atp cE) h.2) ?_;rintro _ _ ⟨hq,hw⟩;have cF:=hw.one;refine pD ?_;have f1:∀k∈eY,k∉[L.z]:=or1 cD eZ<|a_f (f_ hb.lt)<|lt_ sc.s an.s;have f2:=lt_ cy sc.s;have f3:=m1 cy;have f4:=mnr<|a_.lt cg
   have f5:=mm1 hb.lt sc.s;exact fun _ q=>⟨x1.number,hi,([]:List Val),som fY,cz,cA,cB,eY,cv,cw,cx,[h3.z],L.z,q.k<|s3 z z z,bM (bM (bup (bup (bup G ht) sc) an) cC f3) cF cE,O,ho.c cF f1,hp,a_E cD f3<|lt_ f2 an.s,(eX.c cC f4).c cF f5,a_b,m1 f2,ds<|c_H cD (ds f4) (a_.lt eX) lr,hq,atp cE,f1,f5⟩
  obtain ⟨hx,hy,fZ⟩:=bdS hur;obtain ⟨_,hz,g0⟩:=bdS fZ;refine dE z z (d_m (α:=Val) b_x hz z z) (.inr fun _ _ h=>l_ (by obtain ⟨_,_,_,_,h,_⟩:=h;exact h)) ?_;rintro _ hA ⟨cG,cH,cI,rfl,ap,cJ⟩;refine dE z z (f0 (α:=UInt8) a_o) (.inr fun _ _ h=>l_ (by obtain ⟨_,_,_,_,h,_⟩:=h;exact h)) ?_;rintro _ _ ⟨_,_,_,rfl,a0,hB⟩;have f6:=lt_ G.s ht.s;have cK:=lt_ f6 ap.s;refine dE z z (fN (α:=UInt8) a_o hy z z hB a_b<|Y.g<|((V.e ht).e ap).e a0) (.inr fun _ _ h=>by obtain ⟨_,_,_,_,_,h,_⟩:=h;exact h.mono fun k _ hk=>(mor cK:∀k∈[hA.z],k∈([]:List Nat)∨I.z<=k) k hk) ?_;rintro _ _ ⟨f7,cL,cN,cO,rfl,cP,hC,hD,cQ⟩;refine dR z z (bP (parts:=[(0,.tmp 7),(1,.tmp 11),(2,.tmp 15)]) (cs:=[vI x1.number,sl cL cN cO,sl cG cH cI]) L_ z z) ?_;have f8:=mm1 hb.lt ap.s;have cR:=m1 G.s;refine dE0 z (fs0 (cur':=[vI x1.number,sl cL cN cO,sl cG cH cI]) c_ z z (((hb.e ap).e a0).c cP<|djs f8) z z z z) (.inr fun _ _ h=>a_C (atp cR) h.2) ?_;rintro _ _ ⟨hE,hF⟩;have cS:=hF.one;refine pD ?_;have f9:∀k∈f7,k∉[L.z]:=or1 cQ f8<|a_f (f_ hb.lt)<|lt_ ap.s a0.s;have fe:=m1 cK;have ff:=mnr<|a_.lt cJ
  have fg:=mmr hb.lt;exact fun _ q=>⟨x1.number,hx,([]:List Val),som g0,cL,cN,cO,f7,cG,cH,cI,[aN.z],L.z,q.k<|s3 z z z,bM (bM (bup (bup (bup G ht) ap) a0) cP fe) cS cR,O,hC.c cS f9,hD,a_E cQ fe<|lt_ cK a0.s,((cJ.e a0).c cP<|ds ff).c cS fg,a_b,m1 f6,ds<|c_H cQ ff (a_.lt cJ) a0.s,hE,atp cR,f9,fg⟩
 rintro hG H ⟨xi,aU,aV,rfl,aj,nk,cl,Sx,aE,aF,aG,S3,g1,_,a1,hH,fh,hI,fi,hJ,hK,cT,fj,aq,cU,hL,hM⟩;revert hG;refine Wo<|Wq<|Ws<|Rf z Z_ z<|R z (l0 a_2 z<|((ax.e hh).e a1).at z) ?_
 have fk:=((a5.ag B).e hh).e a1;refine R z (lnR a_a z<|aD.g fk)<|Rm z<|Wn ?_
 obtain ⟨_,g2,d8⟩:=bdS<|c_Z gc;refine Wf (σ:=List Val) (ρ:=Val) (fun (fl:Nat)(ar:List Val) a w=>∃ad ne cf J,Sat 33 [(2,pt a4.z),(3,pt g1),(18,sl AC NC CC),(19,vI (x1.items.length:Int)),(20,vI ((fl:Nat):Int))] a/\Chg (· ∈ (S3++[g1])) H w/\a_ w J (sl ad ne cf) ar/\J.Nodup/\(∀k∈J,k∈S3∨H.z<=k)/\Blk w g1 [vI xi,sl aj nk cl,sl ad ne cf]) (fun (ar:List Val) a w=>∃ad ne cf J,Sat 33 [(2,pt a4.z),(3,pt g1)] a/\Chg (· ∈ (S3++[g1])) H w/\a_ w J (sl ad ne cf) ar/\J.Nodup/\(∀k∈J,k∈S3∨H.z<=k)/\Blk w g1 [vI xi,sl aj nk cl,sl ad ne cf]) (rQ prog fn<|Q19 w0 B) g2 ?_ ?_ ?_ ?_ ?_
 ·exact fun _ q=>⟨aE,aF,aG,S3,q.k<|s5 z z z z z,cr (S3++[g1]) H,hJ,hK,io sr,aq⟩
 ·rintro fl ar _ aP _ d9 ⟨ad,ne,cf,J,g3,au,hv,aA,hu,aB⟩ g4;refine Wu ?_ g3;refine Ws<|Rl z z z<|Wn<|Wq<|Wc z (fun _=>?_) (fun hc=>(V_ d9 hc).elim)
  refine Wk<|Wq<|Wb<|Ws ?_
  obtain ⟨cV,hN,g5⟩:=bdS g4;have fm:=lt_ a5.s hh.s;have fo:=zt' aT fm;refine RX z (at_ (α:=Val) a_a c_ z z z (aD.g<|fk.c au<|nmA (g_ (or0 cT (t_ fo):∀k∈S3,¬B k))<|g_ (or0 (f_ cU) (t_ fo):∀k∈[g1],¬B k)) hN) ?_;rintro _ ⟨_,_,_,rfl,hO,hP,_⟩;obtain ⟨cW,cX,cY,cZ,d0,d1,rfl,hQ,hR,hS⟩:=b_T hP;refine R z (lN (vs:=[vI cV.number,sl cW cX cY,sl cZ d0 d1]) r_ c_ z z fid hO)<|E z (fa J_) ?_
  rintro _ fp ⟨rfl,fq⟩;have a2:=fq.below;refine E0 (fs0 (cur':=[vI cV.number,sl cW cX cY,sl cZ d0 d1]) c_ z z (fq.blk:Blk fp aP.z [vI 0,sl none 0 0,sl none 0 0]) z z z z) ?_;rintro _ hT ⟨hU,hV⟩;have a3:=hV.one;refine Wn<|Wd (X:=noX) 160 (pl_ 8 [3,4,5,7]) mo (by kernel_rfl) fun hW sw _=>dR z z (fd Z_ z) ?_;have fr:=((aB.e a2).c a3<|djs<|mm1 (Blk.lt aq) au.s).e sw;refine dR z z (l0 a_2 z<|fr.at z)<|dR z z (lN (vs:=[vI cV.number,sl cW cX cY,sl cZ d0 d1]) r_ c_ z z fid<|(hU.e sw).row 0 3 z) ?_
  have fs:=lt_ (lt_ fm a1.s) au.s;have ft:=((a2.ag B).c a3<|g_ (or0 (f_ lr) (t_<|zt' aT fs):∀k∈[aP.z],¬B k)).e sw;obtain ⟨fu,hX,g6⟩:=bdS g5;refine dE z z (fc call51 z<|im.run hX (zt' aT<|lt_ (lt_ (lt_ fs a2.s) a3.s) sw.s) hQ (hR.g ft)<|hS.g ft) (.inr fun _ _ h=>l_<|h.1) ?_;rintro _ fv ⟨aQ,hY,hZ,i0,fw,i1,i2,i3,fx,rfl,i4,i5,i6,d2,av⟩;refine dE z z (fS [(.tmp 27)] b_x z z z (b_V z) (lb z)<|lb z) (.inr fun _ _ h=>l_<|h.2.below) ?_;rintro _ fy ⟨rfl,fz⟩;have aw:=fz.below;obtain ⟨i7,i8,g7⟩:=bdS g6;have fA:=lt_ (lt_ a2.s a3.s) sw.s;refine dE z z (c_u (α:=Val) b_x i8 z z (((((hv.e a2).c a3<|ds<|mnr<|a_.lt hv).e sw).e aQ).e aw) aA (fz.blk:Blk fy fv.z [vI fu.number,sl hY hZ i0,sl i1 i2 i3]) (j_i (x:=fu) (S1:=fw) (S2:=fx) i4 (i5.e aw)<|i6.e aw) (aa_ (b_w (al_ av) (a_.lt hv) fA)<|b_w (ar_ av) (a_.lt hv) fA)<|na_ (nl_ d2) (nr_ d2)<|nj d2) (.inl z) ?_;rintro _ i9 ⟨d3,fB,fC,fD,rfl,fE,ia,ib,fF⟩;refine dR z z (fd Z_ z) ?_;have fG:∀k∈J,k∉[g1]:=or1 hu hM<|a_f (f_<|Blk.lt aq) lr;refine dE0 z (fs0 (cur':=[vI xi,sl aj nk cl,sl fB fC fD]) z_40 z z (((fr.e aQ).e aw).c fE<|djs fG) z z z z) (.inl z) ?_;rintro _ ic ⟨id,ie⟩;have fH:=ie.one;refine pD<|Wo<|Wg<|R z (inc_ d9 (lt_ (repS.len aD) D_) z z)<|Rm z<|Wl ?_
  have aC:=lt_ (lt_ (lt_ au.s a2.s) a3.s) sw.s;have fI:=lt_ (lt_ aC aQ.s) aw.s;exact fun _ q=>⟨i7,(som g7).symm,⟨fB,fC,fD,d3,q.k<|s5 z z z z z,(cM (cM (h_ (h_ (h_ (cM (h_ (cM (cr (S3++[g1]) H) au (aa_ (io<|a_U sr)<|io<|a_L sr):Chg (· ∈ (S3++[g1])) H aP) a2:Chg (· ∈ (S3++[g1])) H fp) a3 (mor au.s:∀k∈[aP.z],k∈(S3++[g1])∨H.z<=k):Chg (· ∈ (S3++[g1])) H hT) sw:Chg (· ∈ (S3++[g1])) H hW) aQ:Chg (· ∈ (S3++[g1])) H fv) aw:Chg (· ∈ (S3++[g1])) H fy) fE (or1 hu (io<|a_U sr) (M_ lr):∀k∈J,k∈(S3++[g1])∨H.z<=k):Chg (· ∈ (S3++[g1])) H i9) fH (io<|a_L sr):Chg (· ∈ (S3++[g1])) H ic),ia.c fH (or2 fF fG (aa_ (n_ (al_ av) (Blk.lt aq) aC)<|n_ (ar_ av) (Blk.lt aq) aC) (a_f (f_<|Blk.lt aq) fI):∀k∈d3,k∉[g1]),ib,(or2 fF (or1 hu (io sr) (M_ lr):∀k∈J,k∈S3∨H.z<=k) (aa_ (or0 (al_ av) (M_ aC):∀k∈fw,k∈S3∨H.z<=k) (or0 (ar_ av) (M_ aC):∀k∈fx,k∈S3∨H.z<=k)) (M_ fI):∀k∈d3,k∈S3∨H.z<=k),id⟩⟩
 ·rintro ar _ ig ⟨ad,ne,cf,J,g8,ih,hv,aA,hu,aB⟩;refine Wu ?_ g8;refine Ws<|Rl z z z<|Wn<|Wq<|Wc z (fun hc=>(W_ hc).elim) (fun _=>?_)
  exact We<|fun _ q=>⟨rfl,⟨ad,ne,cf,J,q.k<|s2 z z,(cM (cr (S3++[g1]) H) ih (aa_ (io<|a_U sr)<|io<|a_L sr):Chg (· ∈ (S3++[g1])) H ig),hv,aA,(or1 hu (io sr) (M_ lr):∀k∈J,k∈S3∨H.z<=k),aB⟩⟩
 ·rintro ar ij _ rfl ⟨ad,ne,cf,J,_,d4,hv,aA,hu,aB⟩;have g9:=elL d8;revert ij;refine Wo<|Ws<|R z (lN (vs:=[vI xi,sl aj nk cl,sl ad ne cf]) r_ c_ z z fid<|aB.row 0 3 z) ?_
  have fJ:=n_ cT ay.lt lr;refine E0 (fs0 (cur':=[vI xi,sl aj nk cl,sl ad ne cf]) c_ z z ((ay.e a1).c d4<|atp<|nmA (ds fJ)<|ds<|n_ (f_ cU) ay.lt lr) z z z z) ?_;rintro _ _ ⟨ik,il⟩;have d5:=il.one;refine Wn ?_;obtain rfl:=som g9;have aR:=lt_ a5.s hh.s;have fK:=p_ cT aR;exact Wr<|d_ hr (q_ r_ c_ z ik z) ⟨bM (bM (bup (bup a5 hh) a1) d4<|aa_ fK<|p_ (f_ cU) aR) d5<|m1 a5.s,aj,nk,cl,Sx,ad,ne,cf,J,z,hH,(fh.c d4<|nmA (ds fj) hL).c d5<|n_ fi ay.lt lr,hv.c d5 (or1 hu fJ (a_f (f_ ay.lt) a1.s):∀k∈J,k∉[a4.z]),na_ hI aA<|ds<|c_H hu fj (a_.lt fh) lr,aa_ (p_ fi aR)<|a_E hu fK<|lt_ aR a1.s⟩
 rintro _ _ _ _ rfl ⟨rfl,ga⟩;have gb:=elR d8;obtain rfl:=som gb;exact ⟨ga,z⟩
theorem A_w0h:∀n,l_x n
  | 0=>⟨fun hm=>by intros;exact nomatch (show none=some _ from hm)⟩
  | n+1=>T_w0h<|A_w0h n
theorem W_w0h:j_V (d_Q n).impl_CopyValue:=A_w0h n
theorem W_w3r {x1:b_}{x2:Val}{x3:Str}{res:Val×Int×Bool}(hm:f_d n x1 x2 x3=some res)(J:B<=w0.z)(hG:Gl w0 B)(O:repS w0 B (sl A0 N0 C0) x1.rules)(V:inI x2.number)(W:repS w0 B (sl A9 N9 C9) x2.bytes)(Y:repS w0 B (sl AG NG CG) x2.items)(aa:x3.b.length<=LEN):i_ prog 23 [(.agg #[sl A0 N0 C0]),.agg #[vI x2.number,sl A9 N9 C9,sl AG NG CG],Str.v x3] w0 (Q20 w0 B res):=by
 unfold f_d at hm
 refine goG func23 z z z fun fn hr=>Ws<|E z (fb z) ?_
 rintro _ wc ⟨rfl,hp⟩;have h5:=hp.below;have hq:Blk wc w0.z [sl A0 N0 C0]:=hp.blk;refine E z (fb z) ?_;rintro _ we ⟨rfl,ht⟩;have h4:=ht.below;have hf:Blk we wc.z [vI x2.number,sl A9 N9 C9,sl AG NG CG]:=ht.blk;refine E z (fa J_) ?_;rintro _ aj ⟨rfl,hu⟩;have h3:=hu.below;have I:Blk aj we.z [vI 0,sl none 0 0,sl none 0 0]:=hu.blk;refine Ra z<|Rw z<|Wm z ?_
 have L:=lt_ h5.s h4.s;have hg:=lt_ L h3.s;obtain ⟨_,ak,al,ab⟩:=a_3 hm;refine E z (fc call44 z<|W_w21 al (zt' J hg) aa) ?_;rintro _ wa ⟨G,am,an,ao,_,rfl,hv,_,_⟩;refine Rm z<|Re z z z<|Re z z z<|Ra z<|Rw z<|Wq<|Wq ?_
 obtain ⟨ap,hum,hmr⟩:=bdS ab;refine Wt (fun a w=>∃(xh:Bool),xh=ap/\Sat 43 [(3,pt w0.z),(4,pt wc.z),(6,pt we.z),(9,sl am an ao),(27,vB xh)] a/\Below wa.z wa w) ?_ ?_
 ·refine Wd (X:=noX) 0 (.rd 0<|.rd 1<|.rd 2<|.rd 3<|.rd 4<|.rd 6<|.ef 5<|.ef 7<|.rd 8<|.rd 9 .done) mo (by kernel_rfl) fun b0 s7 _=>dM z z z<|dR z z (not_ z)<|dM z z z ?_
  rcases bs (!ak) with H | H
  ·iterate 3 refine dRn z z z H z ?_
   exact dEn z z z H z<|dEn z z z H z<|dRn z z z H z<|dR z z (pT z H z)<|pD (fun _ q=>⟨true,som<|ifT hum H,q.k<|s5 z z z z z,s7⟩)
  have hw:=(((hq.e h4).e h3).e G).e s7;refine dRg z z z H z (lN (vs:=[sl A0 N0 C0]) w_ u_ z z fid<|hw.row 0 1 z)<|dRg z z z H z (lN (vs:=[sl A0 N0 C0]) w_ u_ z z fid<|hw.row 0 1 z)<|dRg z z z H z (lN (vs:=[vI x2.number,sl A9 N9 C9,sl AG NG CG]) r_ c_ z z fid<|(((hf.e h3).e G).e s7).row 0 3 z) ?_
  have hx:=((((h5.ag B).e h4).e h3).e G).e s7;have hy:=lt_ (lt_ hg G.s) s7.s;obtain ⟨_,aq,ad⟩:=bdS<|ifF hum H;refine dEg z z z H z (fc call42 z<|e_W aq (zt' J hy)<|O.g hx) (.inr fun _ _ h=>l_<|h.1) ?_;rintro _ _ ⟨si,rfl,ar⟩;have hj:=hx.e si;obtain ⟨au,av,ae⟩:=bdS ad;refine dEg z z z H z (fc call49 z<|W_w3m av (zt' J<|lt_ hy si.s) (O.g hj) ar V (W.g hj)<|Y.g hj) (.inr fun _ _ h=>l_<|h.1) ?_;rintro _ _ ⟨aw,rfl⟩;exact dRg z z z H z (not_ z)<|dR z z (pF z H z)<|pD (fun _ q=>⟨!au,som ae,q.k<|s5 z z z z z,bup (bup s7 si) aw⟩)
 rintro ax _ ⟨xh,rfl,_,s2⟩;revert ax;refine Wo<|Wc z (fun hck=>?_) (fun hck=>?_)
 ·refine Ws<|R z (bP (parts:=[]) (cs:=[vI 0,sl none 0 0,sl none 0 0]) L_ z z)<|E0 (fs0 (cur':=[vI 0,sl none 0 0,sl none 0 0]) c_ z z ((I.e G).e s2) z z z z) ?_
  rintro _ _ ⟨ay,az⟩;refine Ra z<|Rw z ?_
  obtain rfl:=som<|ifT hmr hck;exact Wr<|z_ hr (q_ r_ c_ z ay z) z z ⟨bM (bup (bup (bup (bup h5 h4) h3) G) s2) az.one<|m1 L,none,0,0,[],none,0,0,[],z,ii z,onL,onL,ii z,nd0,al0⟩
 refine Wk<|Ws<|R z (lN (vs:=[sl A0 N0 C0]) w_ u_ z z fid<|((((hq.e h4).e h3).e G).e s2).row 0 1 z)<|Rm z ?_
 have hl:=((((h5.ag B).e h4).e h3).e G).e s2;have hz:=lt_ hg G.s;have hb:=zt' J hz;obtain ⟨aA,_,aB,hms⟩:=a_3<|ifF hmr hck;refine E z (fc call50 z<|W_w3q (B:=wa.z) aB (a_p s2.s) ((((((hG.e h5).e h4).e h3).e G).e s2).mono hb) (repS.mono (O.g hl) hb) V (repS.mono (W.g hl) hb) (repS.mono (Y.g hl) hb) ((((hf.e h3).e G).e s2).row 0 3 z) (zap' (a_p<|lt_ h3.s G.s) hf.lt)<|or_ (hv.e s2)<|a_.lt hv) ?_;rintro _ _ ⟨s6,_,rfl,a0,aC⟩;refine Rm z<|Re z z z<|Re z z z<|Ra z<|Rw z<|Wq<|Wm z ?_
 rcases aA with _ | aD
 ·obtain af:=opN hms;obtain rfl:=a0;refine R z (n_A d_80 z)<|Wx z (fun _=>?_) (fun hc=>(f_8 z hc).elim)
  refine Ws<|R z (bP (parts:=[]) (cs:=[vI 0,sl none 0 0,sl none 0 0]) L_ z z)<|E0 (fs0 (cur':=[vI 0,sl none 0 0,sl none 0 0]) c_ z z (((I.e G).e s2).e s6) z z z z) ?_
  rintro _ _ ⟨aE,aF⟩;refine Ra z<|Rw z ?_
  obtain rfl:=som af;exact Wr<|z_ hr (q_ r_ c_ z aE z) z z ⟨bM (bup (bup (bup (bup (bup h5 h4) h3) G) s2) s6) aF.one<|m1 L,none,0,0,[],none,0,0,[],z,ii z,onL,onL,ii z,nd0,al0⟩
 obtain ah:=opJ hms;obtain ⟨_,_,rfl,_,aG,aH,_⟩:=a0;obtain ⟨aI,aJ,aK,aL,aM,aN,rfl,aO,aP,aQ⟩:=b_T aH;refine R z (n_A d_80 z)<|Wx z (fun hc=>(f_8 hc z).elim) (fun _=>?_)
 refine Wk<|Wm z<|R z (B_ z)<|R z (lN (vs:=[vI aD.number,sl aI aJ aK,sl aL aM aN]) r_ c_ z z fid aG) ?_
 obtain ⟨aR,aS,ai⟩:=bdS ah;refine E z (fc call51 z<|W_w0h.run (B:=wa.z) aS (a_p<|lt_ s2.s s6.s) aO aP aQ) ?_;rintro _ _ ⟨a1,a2,a3,a4,aT,a5,a6,a7,aU,rfl,aV,aW,aX,hn,hd⟩;refine Rm z<|E0 (fs0 (cur':=[vI aR.number,sl a2 a3 a4,sl a5 a6 a7]) c_ z z ((((I.e G).e s2).e s6).e a1) z z z z) ?_
 rintro _ _ ⟨aY,aZ⟩;have ho:=aZ.one;refine Ra z<|Rw z ?_
 obtain rfl:=som ai;have a8:=lt_ (lt_ G.s s2.s) s6.s;have a9:=lt_ (lt_ hz s2.s) s6.s;exact Wr<|z_ hr (q_ r_ c_ z aY z) z z ⟨bM (bup (bup (bup (bup (bup (bup h5 h4) h3) G) s2) s6) a1) ho<|m1 L,a2,a3,a4,aT,a5,a6,a7,aU,z,aV,aW.c ho<|n_ (al_ hd) I.lt a8,aX.c ho<|n_ (ar_ hd) I.lt a8,aC,na_ (nl_ hn) (nr_ hn)<|nj hn,aa_ (p_ (al_ hd) a9)<|p_ (ar_ hd) a9⟩
theorem W_w3s {x1:List UInt8}{x2:List UInt8}{res:Bool}(hm:l_b x1 x2=some res)(I:B<=w0.z)(G:repS w0 B (sl A0 N0 C0) x1)(H:repS w0 B (sl A6 N6 C6) x2):i_ prog 90 [sl A0 N0 C0,sl A6 N6 C6] w0 (Q7 w0 B res):=by
 unfold l_b at hm
 refine goG func90 z z z fun fn hr=>Ws<|Rw z<|Wm z<|R z (k_8 o_ d_9 d_5 z_5 z G)<|Rm z<|R z (k_8 o_ d_9 d_5 z_5 z H)<|R z (a_V z z)<|Rw z ?_
 obtain rfl:=som hm;exact Wr<|d_ hr z ⟨br w0,z⟩
theorem W_w3t {x1:List UInt8}{x2:List UInt8}{res:Bool}(hm:h_A x1 x2=some res)(I:B<=w0.z)(G:repS w0 B (sl A0 N0 C0) x1)(H:repS w0 B (sl A6 N6 C6) x2):i_ prog 52 [sl A0 N0 C0,sl A6 N6 C6] w0 (Q7 w0 B res):=by
 unfold h_A at hm
 refine goG func52 z z z fun fn hr=>Ws<|Rw z<|Wm z<|Rm z ?_
 obtain ⟨_,L,J⟩:=bdS hm;refine E z (fc call90 z<|W_w3s (B:=B) L I G H) ?_;rintro _ _ ⟨s2,rfl⟩;refine Rw z ?_
 obtain rfl:=som J;exact Wr<|d_ hr z ⟨s2,z⟩
structure j_W (f:Val->Val->Option Bool):Prop where
  run:∀{A1 AC A9 AG:Option Addr}{N1 C1 NC CC N9 C9 NG CG:Nat}{B:Zone}{x1:Val}{x2:Val}{res:Bool}{w0:World}(hm:f x1 x2=some res)(hBw:B<=w0.z)(p1_0:inI x1.number)(p1_1:repS w0 B (sl A1 N1 C1) x1.bytes)(p1_2:repS w0 B (sl AC NC CC) x1.items)(p2_0:inI x2.number)(p2_1:repS w0 B (sl A9 N9 C9) x2.bytes)(p2_2:repS w0 B (sl AG NG CG) x2.items),i_ prog 24 [(.agg #[vI x1.number,sl A1 N1 C1,sl AC NC CC]),(.agg #[vI x2.number,sl A9 N9 C9,sl AG NG CG])] w0<|Q7 w0 B res
abbrev l_y (n:Nat):Prop:=j_W (d_R n).impl_EqualValues
theorem T_w0i (a9:l_y n):j_W (e_v n<|d_R n):=by
 constructor
 intro A1 AC A9 AG N1 C1 NC CC N9 C9 NG CG B x1 x2 res w0 hm V aJ W J aK Y O;unfold e_v at hm
 refine goG func24 z z z fun fn hr=>Ws<|E z (fb z) ?_
 rintro _ L ⟨rfl,hh⟩;have h3:=hh.below;have hi:Blk L w0.z [vI x1.number,sl A1 N1 C1,sl AC NC CC]:=hh.blk;refine E z (fb z) ?_;rintro _ wa ⟨rfl,hj⟩;have h2:=hj.below;have hb:Blk wa L.z [vI x2.number,sl A9 N9 C9,sl AG NG CG]:=hj.blk;refine Rw z<|Wq<|Wq ?_
 obtain ⟨uw,huk,hml⟩:=bdS hm;refine Wt (fun a w=>∃(xc:Bool),xc=uw/\Sat 47 [(2,pt w0.z),(3,pt L.z),(27,vB xc)] a/\Below wa.z wa w) ?_ ?_
 ·refine Wg<|Rf z b_0 z ?_
  have hd:=hi.e h2;refine R z (l0 g_3 z<|hd.at z)<|Rf z b_0 z<|R z (l0 g_3 z<|hb.at z)<|R z (nq z z)<|Rm z ?_
  rcases bs (x1.number != x2.number) with H | H
  ·iterate 6 refine Nh z H ?_
   exact R z (pT z H z)<|Rm z<|Nh z z<|Nh z z<|Nh z z<|Nh z z<|Nh z z<|Nh z z<|Nh z z<|R z (pT z z z)<|Wl (fun _ q=>⟨true,som<|ifT huk H,q.k<|s3 z z z,br wa⟩)
  refine Rh z H (fd b_j z)<|Rh z H (l0 R_ z<|hd.at z)<|Rh z H (fd b_j z)<|Rh z H (l0 R_ z<|hb.at z) ?_
  have he:=(h3.ag B).e h2;obtain ⟨rx,ey,hmm⟩:=bdS<|ifF huk H;refine Eg z z H z (fc call52 z<|W_w3t ey (zt' V<|lt_ h3.s h2.s) (W.g he)<|Y.g he) ?_;rintro _ _ ⟨s8,rfl⟩;refine Rh z H (not_ z)<|R z (pF z H z)<|Rm z ?_
  rcases bs (!rx) with G | G
  ·iterate 7 refine Nh z G ?_
   exact R z (pT z G z)<|Wl (fun _ q=>⟨true,som<|ifT hmm G,q.k<|s3 z z z,s8⟩)
  refine Rh z G (fd Z_ z)<|Rh z G (l0 a_2 z<|(hd.e s8).at z) ?_
  have hn:=he.e s8;exact Rh z G (lnR a_a z<|J.g hn)<|Rh z G (fd Z_ z)<|Rh z G (l0 a_2 z<|(hb.e s8).at z)<|Rh z G (lnR a_a z<|O.g hn)<|Rh z G (nq z z)<|R z (pF z G z)<|Wl (fun _ q=>⟨(x1.items.length:Int) != (x2.items.length:Int),som<|ifF hmm G,q.k<|s3 z z z,s8⟩)
 rintro az I ⟨xc,rfl,_,s5⟩;revert az;refine Wo<|Wc z (fun hcf=>?_) (fun hcf=>?_)
 ·refine Ws<|Rw z ?_
  obtain rfl:=som<|ifT hml hcf;exact Wr<|d_ hr z ⟨bup (bup h3 h2) s5,z⟩
 refine Wk<|Wq<|Ws<|Rf z Z_ z ?_
 have ho:=(hi.e h2).e s5;refine R z (l0 a_2 z<|ho.at z) ?_;have hp:=((h3.ag B).e h2).e s5;refine R z (lnR a_a z<|J.g hp)<|Rm z<|Wn ?_
 obtain ⟨_,a0,hmq⟩:=bdS<|ifF hml hcf;refine Wf (σ:=Unit) (ρ:=Bool) (fun (kr:Nat)(_:Unit) a w=>Sat 47 [(2,pt w0.z),(3,pt L.z),(30,vI (x1.items.length:Int)),(31,vI ((kr:Nat):Int))] a/\Below I.z I w) (fun (_:Unit) a w=>Sat 47 [] a/\Below I.z I w) (rQ prog fn<|Q7 w0 B) a0 ?_ ?_ ?_ ?_ ?_
 ·exact fun _ q=>⟨q.k<|s4 z z z z,br I⟩
 ·rintro kr _ _ _ _ hks ⟨a1,s6⟩ a2;refine Wu ?_ a1;refine Ws<|Rl z z z<|Wn<|Wq<|Wc z (fun _=>?_) (fun hc=>(V_ hks hc).elim)
  refine Wk<|Wq<|Wb<|Wm z<|Rw z<|Wq (Wd (X:=noX) 0 (pl_ 12 [10]) mo (by kernel_rfl) fun aL s7 _=>dR z z (fd Z_ z)<|dR z z (l0 a_2 z<|((ho.e s6).e s7).at z)<|dM z z z ?_)
  obtain ⟨aa,ab,a3⟩:=bdS a2;have ht:=(hp.e s6).e s7;refine dRX z z (at_ (α:=Val) a_a c_ z z z (J.g ht) ab) ?_;rintro _ ⟨_,_,_,rfl,ad,ae,_⟩;obtain ⟨af,ah,ai,aj,ak,al,rfl,am,an,ao⟩:=b_T ae;refine dR z z (lN (vs:=[vI aa.number,sl af ah ai,sl aj ak al]) r_ c_ z z fid ad)<|dR z z (fd Z_ z)<|dR z z (l0 a_2 z<|(((hb.e s5).e s6).e s7).at z)<|dM z z z ?_
  obtain ⟨ap,aq,a4⟩:=bdS a3;refine dRX z z (at_ (α:=Val) a_a c_ z z z (O.g ht) aq) ?_;rintro _ ⟨_,_,_,rfl,ar,au,_⟩;obtain ⟨av,aw,ax,ay,aA,aB,rfl,aC,aD,aE⟩:=b_T au;refine dR z z (lN (vs:=[vI ap.number,sl av aw ax,sl ay aA aB]) r_ c_ z z fid ar) ?_;obtain ⟨_,aF,hmu⟩:=bdS a4;refine dE z z (fc call24 z<|a9.run aF (zt' V<|lt_ (lt_ (lt_ (lt_ h3.s h2.s) s5.s) s6.s) s7.s) am an ao aC aD aE) (.inr fun _ _ h=>l_<|h.1) ?_;rintro _ _ ⟨sv,rfl⟩;refine dR z z (not_ z)<|pD<|Wo<|Wc z (fun hcg=>?_) (fun hcg=>?_)
  ·exact Ws<|Rw z<|Wr<|rtO<|qL (som<|ifT hmu hcg).symm<|d_ hr z ⟨bup (bup (bup (bup (bup h3 h2) s5) s6) s7) sv,z⟩
  exact Wk<|Wg<|R z (inc_ hks (lt_ (repS.len J) D_) z z)<|Rm z<|Wl (fun _ q=>⟨(),(som<|ifF hmu hcg).symm,⟨q.k<|s4 z z z z,bup (bup s6 s7) sv⟩⟩)
 ·rintro _ _ _ ⟨a5,aG⟩;refine Wu ?_ a5;refine Ws<|Rl z z z<|Wn<|Wq<|Wc z (fun hc=>(W_ hc).elim) (fun _=>?_)
  exact We<|fun _ q=>⟨rfl,⟨q.k sn,aG⟩⟩
 ·rintro _ aH _ rfl ⟨_,aI⟩;have a6:=elL hmq;revert aH;refine Wo<|Ws<|Rw z ?_
  obtain rfl:=som a6;exact Wr<|d_ hr z ⟨bup (bup (bup h3 h2) s5) aI,z⟩
 rintro _ _ _ _ rfl ⟨rfl,a7⟩;have a8:=elR hmq;obtain rfl:=som a8;exact ⟨a7,z⟩
theorem A_w0i:∀n,l_y n
  | 0=>⟨fun hm=>by intros;exact nomatch (show none=some _ from hm)⟩
  | n+1=>T_w0i<|A_w0i n
theorem W_w0i:j_W (d_R n).impl_EqualValues:=A_w0i n
theorem W_w3u {x1:b_}{x2:List UInt8}{res:Bool}(hm:g_m n x1 x2=some res)(L:B<=w0.z)(hG:Gl w0 B)(O:repS w0 B (sl A0 N0 C0) x1.rules)(V:repS w0 B (sl A6 N6 C6) x2):i_ prog 8 [(.agg #[sl A0 N0 C0]),sl A6 N6 C6] w0 (Q7 w0 B res):=by
 unfold g_m at hm
 refine goG func8 z z z fun fn hr=>Ws<|E z (fb z) ?_
 rintro _ bL ⟨rfl,ap⟩;have hl:=ap.below;have hn:Blk bL w0.z [sl A0 N0 C0]:=ap.blk;refine Rw z<|Ws<|R z (lN (vs:=[sl A0 N0 C0]) w_ u_ z z fid<|hn.row 0 1 z)<|Rm z ?_
 have aq:=hG.e hl;obtain ⟨ar,_,bN,bw⟩:=a_3 hm;refine E z (fc call19 z<|W_w37 bN (zt' L hl.s) aq (O.e hl)<|V.e hl) ?_;rintro _ _ ⟨sm,au,av,aw,_,rfl,ht,_,_⟩;refine Rm z<|Re z z z<|Re z z z<|Ra z<|Rw z<|Ws ?_
 have ax:=hn.e sm;refine R z (lN (vs:=[sl A0 N0 C0]) w_ u_ z z fid<|ax.row 0 1 z)<|Rm z ?_
 have hz:=(hl.ag B).e sm;have ay:=aq.e sm;have Y:=lt_ hl.s sm.s;obtain ⟨az,_,_,bO,bx⟩:=I_ bw;refine E z (fc call20 z<|W_w1u bO (zt' L Y) ay (O.g hz)<|V.g hz) ?_;rintro _ wr ⟨sc,aA,aB,aC,_,aD,aE,aF,_,rfl,bP,ho,hp,_,_,_,_⟩;refine Rm z ?_
 iterate 3 refine Re z z z ?_
 refine E z (fa J_) ?_;rintro _ bQ ⟨rfl,aG⟩;have hd:=aG.below;have hu:Blk bQ wr.z [vI 0,sl none 0 0,sl none 0 0]:=aG.blk;refine E0 (fs0 (cur':=[vI az.number,sl aA aB aC,sl aD aE aF]) c_ z z hu z z z z) ?_;rintro _ ws ⟨bR,bS⟩;have hb:=bS.one;refine Ra z<|Rw z<|Wq<|Wm z ?_
 have aH:=((ht.e sc).e hd).c hb<|ds<|mno (a_.lt ht) sc.s
 refine R z (lnR c_P z<|or_ aH<|a_.lt ht)<|Rm z<|Wn ?_
 obtain ⟨_,bz,ai⟩:=bdS bx;refine Wf (σ:=Unit) (ρ:=Bool) (fun (a0:Nat)(_:Unit) a w=>Sat 85 [(1,sl A6 N6 C6),(2,pt w0.z),(7,pt wr.z),(32,sl au av aw),(33,vI (ar.length:Int)),(34,vI ((a0:Nat):Int))] a/\Below ws.z ws w) (fun (_:Unit) a w=>Sat 85 [] a/\Below ws.z ws w) (rQ prog fn<|Q7 w0 B) bz ?_ ?_ ?_ ?_ ?_
 ·exact fun _ q=>⟨q.k<|s6 z z z z z z,br ws⟩
 ·rintro a0 _ _ aI _ aj ⟨bA,s4⟩ bB;refine Wu ?_ bA;refine Ws<|Rl z z z<|Wn<|Wq<|Wc z (fun _=>?_) (fun hc=>(V_ aj hc).elim)
  refine Wk<|Wq<|Wb<|Ws ?_
  obtain ⟨H,bT,bC⟩:=bdS bB;refine RX z (at_ (α:=k_) c_P a_v z z z (or_ (aH.e s4)<|a_.lt ht) bT) ?_;rintro _ ⟨_,_,_,rfl,bU,bV,_⟩;obtain ⟨rfl,a1,_,_,_⟩:=g_8 bV;refine R z (lN (vs:=[Str.v H.path,vI H.rule,vI H.start,vI H.end_]) c_2 a_v z z fid bU)<|E z (fa d_D) ?_
  rintro _ bW ⟨rfl,aJ⟩;have J:=aJ.below;have hv:Blk bW aI.z [(Str.v (⟨[]⟩:Str)),vI 0,vI 0,vI 0]:=aJ.blk;refine E0 (fs0 (cur':=[Str.v H.path,vI H.rule,vI H.start,vI H.end_]) a_v z z hv z z z z) ?_;rintro _ _ ⟨aK,bX⟩;have I:=bX.one;refine Wn<|Ws ?_
  have aL:=lt_ sm.s sc.s;have aM:=lt_ (lt_ (lt_ aL hd.s) hb.s) s4.s;have aN:=(((((ax.e sc).e hd).c hb<|djs<|mm1 hn.lt aL).e s4).e J).c I<|djs<|mm1 hn.lt aM
  refine R z (lN (vs:=[sl A0 N0 C0]) w_ u_ z z fid<|aN.row 0 1 z)<|Rm z<|Rf z e_U z<|R z (l0 g_9 z<|aK.at z) ?_
  have a2:=lt_ Y sc.s;have a3:=zt' L a2;have aO:∀k∈[wr.z],¬B k:=or0 (f_ lr)<|t_ a3;have a4:=lt_ (lt_ (lt_ a2 hd.s) hb.s) s4.s;have aP:∀k∈[aI.z],¬B k:=or0 (f_ lr)<|t_<|zt' L a4;have a5:=(((((hz.e sc).e hd).c hb<|g_ aO).e s4).e J).c I<|g_ aP
  have aQ:=lt_ (lt_ a4 J.s) I.s;obtain ⟨re,bY,bZ,bD⟩:=a_3 bC;refine E z (fc call21 z<|W_w23 bZ (zt' L aQ) (O.g a5) (V.g a5) a1) ?_;rintro _ aR ⟨s5,rfl,_,_,_,_⟩;refine Rm z<|Re z z z<|Re z z z<|E z (fa d_D) ?_
  rintro _ c0 ⟨rfl,aS⟩;have h6:=aS.below;have a6:Blk c0 aR.z [(Str.v (⟨[]⟩:Str)),vI 0,vI 0,vI 0]:=aS.blk;refine E0 (fs0 (cur':=[Str.v re.path,vI re.rule,vI re.start,vI re.end_]) a_v z z a6 z z z z) ?_;rintro _ _ ⟨c1,c2⟩;have h3:=c2.one;refine Rw z<|Ws ?_
  have aT:=lt_ (lt_ (lt_ aM J.s) I.s) s5.s;have aU:=((aN.e s5).e h6).c h3<|djs<|mm1 hn.lt aT
  refine R z (lN (vs:=[sl A0 N0 C0]) w_ u_ z z fid<|aU.row 0 1 z)<|Rm z<|Rf z e_U z ?_
  have aV:=lt_ I.s s5.s;have aW:=((aK.e s5).e h6).c h3<|djs<|mm1 hv.lt aV
  refine R z (l0 g_9 z<|aW.at z) ?_;have a7:=lt_ aQ s5.s;have aX:∀k∈[aR.z],¬B k:=or0 (f_ lr)<|t_<|zt' L a7;have a8:=((a5.e s5).e h6).c h3<|g_ aX
  have aY:=((((((((ay.e sc).e hd).c hb<|g_ aO).e s4).e J).c I<|g_ aP).e s5).e h6).c h3<|g_ aX
  have aZ:=lt_ (lt_ a7 h6.s) h3.s;obtain ⟨b0,c3,c4,bE⟩:=a_3 bD;refine E z (fc call22 z<|W_w3i c4 (zt' L aZ) aY (O.g a8) (V.g a8) a1) ?_;rintro _ b1 ⟨s2,b2,b3,b4,_,b5,b6,b7,_,rfl,c5,hw,hx,_,_⟩;refine Rm z<|Re z z z<|Re z z z<|E z (fa J_) ?_
  rintro _ c6 ⟨rfl,b8⟩;have h1:=b8.below;have b9:Blk c6 b1.z [vI 0,sl none 0 0,sl none 0 0]:=b8.blk;refine E0 (fs0 (cur':=[vI b0.number,sl b2 b3 b4,sl b5 b6 b7]) c_ z z b9 z z z z) ?_;rintro _ _ ⟨c7,c8⟩;have G:=c8.one;refine Rw z<|Ws<|R z (lN (vs:=[sl A0 N0 C0]) w_ u_ z z fid<|(((aU.e s2).e h1).c G<|djs<|mm1 hn.lt<|lt_ (lt_ (lt_ aT h6.s) h3.s) s2.s).row 0 1 z) ?_
  have ba:=lt_ hb.s s4.s;have bb:=lt_ (lt_ (lt_ ba J.s) I.s) s5.s;refine R z (lN (vs:=[vI az.number,sl aA aB aC,sl aD aE aF]) r_ c_ z z fid<|(((((((((bR.e s4).e J).c I<|djs<|mm1 hu.lt ba).e s5).e h6).c h3<|djs<|mm1 hu.lt bb).e s2).e h1).c G<|djs<|mm1 hu.lt<|lt_ (lt_ (lt_ bb h6.s) h3.s) s2.s).row 0 3 z)<|Rf z e_U z ?_
  have bc:=lt_ (lt_ (lt_ aV h6.s) h3.s) s2.s;have be:=((aW.e s2).e h1).c G<|djs<|mm1 hv.lt bc
  refine R z (l0 g_9 z<|be.at z) ?_;have a9:=lt_ aZ s2.s;have bf:∀k∈[b1.z],¬B k:=or0 (f_ lr)<|t_<|zt' L a9;have aa:=lt_ (lt_ hd.s hb.s) s4.s;have ab:=lt_ (lt_ (lt_ aa J.s) I.s) s5.s;have ad:=lt_ (lt_ (lt_ ab h6.s) h3.s) s2.s;obtain ⟨bg,_,c9,ca,bF⟩:=I_ bE;refine E z (fc call23 z<|W_w3r (B:=wr.z) ca (a_p<|lt_ (lt_ ad h1.s) G.s) ((((aY.e s2).e h1).c G<|g_ bf).mono a3) (repS.mono (O.g<|((a8.e s2).e h1).c G<|g_ bf) a3) bP (or_ (((((((((((ho.e hd).c hb<|ds<|mnr<|a_.lt ho).e s4).e J).c I<|ds<|mno (a_.lt ho) aa).e s5).e h6).c h3<|ds<|mno (a_.lt ho) ab).e s2).e h1).c G<|ds<|mno (a_.lt ho) ad)<|a_.lt ho) (or_ (((((((((((hp.e hd).c hb<|ds<|mnr<|a_.lt hp).e s4).e J).c I<|ds<|mno (a_.lt hp) aa).e s5).e h6).c h3<|ds<|mno (a_.lt hp) ab).e s2).e h1).c G<|ds<|mno (a_.lt hp) ad)<|a_.lt hp) a1) ?_;rintro _ bh ⟨sa,bi,bj,bk,_,bm,bn,bo,_,rfl,cb,ae,af,_,_,_⟩;refine Rm z ?_
  iterate 3 refine Re z z z ?_
  refine E z (fa J_) ?_;rintro _ cc ⟨rfl,bp⟩;have hf:=bp.below;refine E0 (fs0 (cur':=[vI bg.number,sl bi bj bk,sl bm bn bo]) c_ z z (bp.blk:Blk cc bh.z [vI 0,sl none 0 0,sl none 0 0]) z z z z) ?_;rintro _ wq ⟨cd,ce⟩;have hg:=ce.one;refine Ra z<|Rw z<|Wq ?_
  obtain ⟨cf,ak,al⟩:=bdS bF;refine Wt (fun a w=>∃(ah:Bool),ah=cf/\Sat 85 [(1,sl A6 N6 C6),(2,pt w0.z),(7,pt wr.z),(32,sl au av aw),(33,vI (ar.length:Int)),(34,vI ((a0:Nat):Int)),(83,vB ah)] a/\Below wq.z wq w) ?_ ?_
  ·refine Wg<|Rm z<|R z (not_ z)<|Rm z ?_
   rcases bs (!bY) with hci | hci
   ·iterate 3 refine Nh z hci ?_
    exact R z (pT z hci z)<|Rm z<|Nh z z<|Nh z z<|R z (pT z z z)<|Rm z<|Nh z z<|Nh z z<|R z (pT z z z)<|Rm z<|Nh z z<|Nh z z<|Nh z z<|Nh z z<|R z (pT z z z)<|Wl (fun _ q=>⟨true,som<|ifT ak hci,q.k<|s7 z z z z z z z,br wq⟩)
   have am:=ifF ak hci;have bq:=lt_ h3.s s2.s;refine Rh z hci (lN (vs:=[Str.v re.path,vI re.rule,vI re.start,vI re.end_]) c_2 a_v z z fid<|((((((c1.e s2).e h1).c G<|djs<|mm1 a6.lt bq).e sa).e hf).c hg<|djs<|mm1 a6.lt<|lt_ (lt_ (lt_ bq h1.s) G.s) sa.s).row 0 4 z)<|Rh z hci (lN (vs:=[Str.v H.path,vI H.rule,vI H.start,vI H.end_]) c_2 a_v z z fid<|(((be.e sa).e hf).c hg<|djs<|mm1 hv.lt<|lt_ (lt_ (lt_ bc h1.s) G.s) sa.s).row 0 4 z)<|Rh z hci (l_Q (a:=(re:k_)) (b:=(H:k_)) l_e z z)<|R z (pF z hci z)<|Rm z ?_
   rcases bs (!decide ((re:k_)=(H:k_))) with hcj | hcj
   ·exact Nh z hcj<|Nh z hcj<|R z (pT z hcj z)<|Rm z<|Nh z z<|Nh z z<|R z (pT z z z)<|Rm z<|Nh z z<|Nh z z<|Nh z z<|Nh z z<|R z (pT z z z)<|Wl (fun _ q=>⟨true,som<|ifT am hcj,q.k<|s7 z z z z z z z,br wq⟩)
   have an:=ifF am hcj;refine Rh z hcj (mv z)<|Rh z hcj (not_ z)<|R z (pF z hcj z)<|Rm z ?_
   rcases bs (!c3) with hck | hck
   ·exact Nh z hck<|Nh z hck<|R z (pT z hck z)<|Rm z<|Nh z z<|Nh z z<|Nh z z<|Nh z z<|R z (pT z z z)<|Wl (fun _ q=>⟨true,som<|ifT an hck,q.k<|s7 z z z z z z z,br wq⟩)
   have ao:=ifF an hck;refine Rh z hck (mv z)<|Rh z hck (not_ z)<|R z (pF z hck z)<|Rm z ?_
   rcases bs (!c9) with hch | hch
   ·iterate 4 refine Nh z hch ?_
    exact R z (pT z hch z)<|Wl (fun _ q=>⟨true,som<|ifT ao hch,q.k<|s7 z z z z z z z,br wq⟩)
   refine Rh z hch (lN (vs:=[vI b0.number,sl b2 b3 b4,sl b5 b6 b7]) r_ c_ z z fid<|(((c7.e sa).e hf).c hg<|djs<|mm1 b9.lt<|lt_ G.s sa.s).row 0 3 z)<|Rh z hch (lN (vs:=[vI bg.number,sl bi bj bk,sl bm bn bo]) r_ c_ z z fid<|cd.row 0 3 z) ?_
   have hy:=lt_ (lt_ h1.s G.s) sa.s;obtain ⟨cg,ch,bG⟩:=bdS<|ifF ao hch;refine Eg z z hch z (fc call24 z<|W_w0i.run (B:=bh.z) ch (a_p<|lt_ hf.s hg.s) c5 (repS.mono (or_ (((((hw.e h1).c G<|ds<|mnr<|a_.lt hw).e sa).e hf).c hg<|ds<|mno (a_.lt hw) hy)<|a_.lt hw)<|a_p hy) (repS.mono (or_ (((((hx.e h1).c G<|ds<|mnr<|a_.lt hx).e sa).e hf).c hg<|ds<|mno (a_.lt hx) hy)<|a_.lt hx)<|a_p hy) cb (or_ ((ae.e hf).c hg<|ds<|mnr<|a_.lt ae)<|a_.lt ae)<|or_ ((af.e hf).c hg<|ds<|mnr<|a_.lt af)<|a_.lt af) ?_;rintro _ _ ⟨ci,rfl⟩;exact Rh z hch (not_ z)<|R z (pF z hch z)<|Wl (fun _ q=>⟨!cg,som bG,q.k<|s7 z z z z z z z,ci⟩)
  rintro cj _ ⟨ah,rfl,_,bt⟩;revert cj;refine Wo<|Wc z (fun W=>?_) (fun W=>?_)
  ·refine Ws<|Rw z ?_
   exact Wr<|rtO<|qL (som<|ifT al W).symm<|d_ hr z ⟨bup (bM (bup (bup (bM (bup (bup (bM (bup (bup (bM (bup (bup (bM (bup (bup (bup hl sm) sc) hd) hb<|m1 a2) s4) J) I<|m1 a4) s5) h6) h3<|m1 a7) s2) h1) G<|m1 a9) sa) hf) hg<|m1<|lt_ (lt_ (lt_ a9 h1.s) G.s) sa.s) bt,z⟩
  refine Wk<|Wg<|R z (inc_ aj (lt_ (a_.len ht) D_) z z)<|Rm z<|Wl ?_
  have bu:=lt_ (lt_ (lt_ s4.s J.s) I.s) s5.s;have bv:=lt_ (lt_ (lt_ bu h6.s) h3.s) s2.s;exact fun _ q=>⟨(),(som<|ifF al W).symm,⟨q.k<|s6 z z z z z z,bup (bM (bup (bup (bM (bup (bup (bM (bup (bup (bM (bup s4 J) I<|m1 s4.s) s5) h6) h3<|m1 bu) s2) h1) G<|m1 bv) sa) hf) hg<|m1<|lt_ (lt_ (lt_ bv h1.s) G.s) sa.s) bt⟩⟩
 ·rintro _ _ _ ⟨bH,ck⟩;refine Wu ?_ bH;refine Ws<|Rl z z z<|Wn<|Wq<|Wc z (fun hc=>(W_ hc).elim) (fun _=>?_)
  exact We<|fun _ q=>⟨rfl,⟨q.k sn,ck⟩⟩
 ·rintro _ cl _ rfl ⟨_,cm⟩;have bI:=elL ai;revert cl;refine Wo<|Ws<|Rw z ?_
  obtain rfl:=som bI;exact Wr<|d_ hr z ⟨bup (bM (bup (bup (bup hl sm) sc) hd) hb<|m1<|lt_ Y sc.s) cm,z⟩
 rintro _ _ _ _ rfl ⟨rfl,bJ⟩;have bK:=elR ai;obtain rfl:=som bK;exact ⟨bJ,z⟩
theorem W_w25 {x1:List UInt8}{x2:List UInt8}{res:Bool}(hm:f_R x1 x2=some res)(a0:B<=w0.z)(G:repS w0 B (sl A0 N0 C0) x1)(L:repS w0 B (sl A6 N6 C6) x2):i_ prog 10 [sl A0 N0 C0,sl A6 N6 C6] w0 (Q7 w0 B res):=by
 unfold f_R at hm
 refine goG func10 z z z fun fn hr=>Ws<|Rw z<|Wq<|Wm z<|R z (lnR o_ z G)<|Rm z<|R z (lnR o_ z L)<|R z (nq z z)<|Wx z (fun I=>?_) (fun I=>?_)
 ·refine Ws<|Rw z ?_
  obtain rfl:=som<|ifT hm I;exact Wr<|d_ hr z ⟨br w0,z⟩
 refine Wk<|Wq<|Ws<|Rw z ?_
 obtain ⟨_,hua,O⟩:=bdS<|ifF hm I;refine Wf (σ:=Unit) (ρ:=Bool) (fun (k5:Nat)(_:Unit) a w=>Sat 26 [(0,sl A0 N0 C0),(1,sl A6 N6 C6),(5,vI ((k5:Nat):Int))] a/\Below w0.z w0 w) (fun (_:Unit) a w=>Sat 26 [] a/\Below w0.z w0 w) (rQ prog fn<|Q7 w0 B) hua ?_ ?_ ?_ ?_ ?_
 ·exact fun _ q=>⟨q.k<|s3 z z z,br w0⟩
 ·rintro k5 _ _ _ _ V ⟨hSb,H⟩ hmc;refine Wu ?_ hSb;refine Wq<|Wm z<|Rm z<|R z (lnR o_ z<|G.e H)<|Rl z z z<|Wx z (fun _=>?_) (fun hc=>(V_ V hc).elim)
  refine Wk<|Wq<|Wb<|Wq (Wd (X:=noX) 0 (pl_ 9 []) mo (by kernel_rfl) fun wu s2 _=>dM z z z<|dM z z z ?_)
  obtain ⟨_,ed,hme⟩:=bdS hmc;have Y:=(H.ag B).e s2;refine dRX z z (at_ (α:=UInt8) o_ z_5 z z z (G.g Y) ed) ?_;rintro _ ⟨_,_,_,rfl,hf,hg,_⟩;obtain rfl:=u8 hg;refine dR z z (l0 g_5 z<|hf.at0 z)<|dM z z z<|dM z z z ?_
  obtain ⟨_,eh,W⟩:=bdS hme;refine dRX z z (at_ (α:=UInt8) o_ z_5 z z z (L.g Y) eh) ?_;rintro _ ⟨_,_,_,rfl,hi,hj,_⟩;obtain rfl:=u8 hj;refine dR z z (l0 g_5 z<|hi.at0 z)<|dR z z (nq z z)<|pD<|Wo<|Wc z (fun J=>?_) (fun J=>?_)
  ·exact Ws<|Rw z<|Wr<|rtO<|qL (som<|ifT W J).symm<|d_ hr z ⟨bup H s2,z⟩
  exact Wk<|Wg<|Rm z<|R z (inc_ V (lt_ (repS.len G) D_) z z)<|Ra z<|Wl (fun _ q=>⟨(),(som<|ifF W J).symm,⟨q.k<|s3 z z z,bup H s2⟩⟩)
 ·rintro _ _ _ ⟨hSk,s9⟩;refine Wu ?_ hSk;refine Wq<|Wm z<|Rm z<|R z (lnR o_ z<|G.e s9)<|Rl z z z<|Wx z (fun hc=>(W_ hc).elim) (fun _=>?_)
  exact We<|fun _ q=>⟨rfl,⟨q.k sn,s9⟩⟩
 ·rintro _ al _ rfl ⟨_,sm⟩;have hmn:=elL O;revert al;refine Wo<|Ws<|Rw z ?_
  obtain rfl:=som hmn;exact Wr<|d_ hr z ⟨sm,z⟩
 rintro _ _ _ _ rfl ⟨rfl,hqo⟩;have hmp:=elR O;obtain rfl:=som hmp;exact ⟨hqo,z⟩
theorem W_w3v {x1:List Str}{x2:List Str}{res:Bool}(hm:h_B x1 x2=some res)(a0:B<=w0.z)(G:repS w0 B (sl A0 N0 C0) x1)(L:repS w0 B (sl A6 N6 C6) x2):i_ prog 91 [sl A0 N0 C0,sl A6 N6 C6] w0 (Q7 w0 B res):=by
 unfold h_B at hm
 refine goG func91 z z z fun fn hr=>Ws<|Rw z<|Wq<|Wm z<|R z (lnR T_ z G)<|Rm z<|R z (lnR T_ z L)<|R z (nq z z)<|Wx z (fun I=>?_) (fun I=>?_)
 ·refine Ws<|Rw z ?_
  obtain rfl:=som<|ifT hm I;exact Wr<|d_ hr z ⟨br w0,z⟩
 refine Wk<|Wq<|Ws<|Rw z ?_
 obtain ⟨_,hua,O⟩:=bdS<|ifF hm I;refine Wf (σ:=Unit) (ρ:=Bool) (fun (k5:Nat)(_:Unit) a w=>Sat 26 [(0,sl A0 N0 C0),(1,sl A6 N6 C6),(5,vI ((k5:Nat):Int))] a/\Below w0.z w0 w) (fun (_:Unit) a w=>Sat 26 [] a/\Below w0.z w0 w) (rQ prog fn<|Q7 w0 B) hua ?_ ?_ ?_ ?_ ?_
 ·exact fun _ q=>⟨q.k<|s3 z z z,br w0⟩
 ·rintro k5 _ _ _ _ V ⟨hSb,H⟩ hmc;refine Wu ?_ hSb;refine Wq<|Wm z<|Rm z<|R z (lnR T_ z<|G.e H)<|Rl z z z<|Wx z (fun _=>?_) (fun hc=>(V_ V hc).elim)
  refine Wk<|Wq<|Wb<|Wq (Wd (X:=noX) 0 (pl_ 9 []) mo (by kernel_rfl) fun wu s2 _=>dM z z z<|dM z z z ?_)
  obtain ⟨_,ed,hme⟩:=bdS hmc;have Y:=(H.ag B).e s2;refine dRX z z (at_ (α:=Str) T_ z_9 z z z (G.g Y) ed) ?_;rintro _ ⟨_,_,_,rfl,hf,hg,_⟩;obtain ⟨rfl,_⟩:=b_2 hg;refine dR z z (l0 g_9 z<|hf.at0 z)<|dM z z z<|dM z z z ?_
  obtain ⟨_,eh,W⟩:=bdS hme;refine dRX z z (at_ (α:=Str) T_ z_9 z z z (L.g Y) eh) ?_;rintro _ ⟨_,_,_,rfl,hi,hj,_⟩;obtain ⟨rfl,_⟩:=b_2 hj;refine dR z z (l0 g_9 z<|hi.at0 z)<|dR z z (f_g z z)<|pD<|Wo<|Wc z (fun J=>?_) (fun J=>?_)
  ·exact Ws<|Rw z<|Wr<|rtO<|qL (som<|ifT W J).symm<|d_ hr z ⟨bup H s2,z⟩
  exact Wk<|Wg<|Rm z<|R z (inc_ V (lt_ (repS.len G) D_) z z)<|Ra z<|Wl (fun _ q=>⟨(),(som<|ifF W J).symm,⟨q.k<|s3 z z z,bup H s2⟩⟩)
 ·rintro _ _ _ ⟨hSk,s9⟩;refine Wu ?_ hSk;refine Wq<|Wm z<|Rm z<|R z (lnR T_ z<|G.e s9)<|Rl z z z<|Wx z (fun hc=>(W_ hc).elim) (fun _=>?_)
  exact We<|fun _ q=>⟨rfl,⟨q.k sn,s9⟩⟩
 ·rintro _ al _ rfl ⟨_,sm⟩;have hmn:=elL O;revert al;refine Wo<|Ws<|Rw z ?_
  obtain rfl:=som hmn;exact Wr<|d_ hr z ⟨sm,z⟩
 rintro _ _ _ _ rfl ⟨rfl,hqo⟩;have hmp:=elR O;obtain rfl:=som hmp;exact ⟨hqo,z⟩
theorem W_w26 {x1:List Int}{x2:List Int}{res:Bool}(hm:f_S x1 x2=some res)(a0:B<=w0.z)(G:repS w0 B (sl A0 N0 C0) x1)(L:repS w0 B (sl A6 N6 C6) x2):i_ prog 92 [sl A0 N0 C0,sl A6 N6 C6] w0 (Q7 w0 B res):=by
 unfold f_S at hm
 refine goG func92 z z z fun fn hr=>Ws<|Rw z<|Wq<|Wm z<|R z (lnR x_ z G)<|Rm z<|R z (lnR x_ z L)<|R z (nq z z)<|Wx z (fun I=>?_) (fun I=>?_)
 ·refine Ws<|Rw z ?_
  obtain rfl:=som<|ifT hm I;exact Wr<|d_ hr z ⟨br w0,z⟩
 refine Wk<|Wq<|Ws<|Rw z ?_
 obtain ⟨_,hua,O⟩:=bdS<|ifF hm I;refine Wf (σ:=Unit) (ρ:=Bool) (fun (k5:Nat)(_:Unit) a w=>Sat 26 [(0,sl A0 N0 C0),(1,sl A6 N6 C6),(5,vI ((k5:Nat):Int))] a/\Below w0.z w0 w) (fun (_:Unit) a w=>Sat 26 [] a/\Below w0.z w0 w) (rQ prog fn<|Q7 w0 B) hua ?_ ?_ ?_ ?_ ?_
 ·exact fun _ q=>⟨q.k<|s3 z z z,br w0⟩
 ·rintro k5 _ _ _ _ V ⟨hSb,H⟩ hmc;refine Wu ?_ hSb;refine Wq<|Wm z<|Rm z<|R z (lnR x_ z<|G.e H)<|Rl z z z<|Wx z (fun _=>?_) (fun hc=>(V_ V hc).elim)
  refine Wk<|Wq<|Wb<|Wq (Wd (X:=noX) 0 (pl_ 9 []) mo (by kernel_rfl) fun wu s2 _=>dM z z z<|dM z z z ?_)
  obtain ⟨_,ed,hme⟩:=bdS hmc;have Y:=(H.ag B).e s2;refine dRX z z (at_ (α:=Int) x_ z_3 z z z (G.g Y) ed) ?_;rintro _ ⟨_,_,_,rfl,hf,hg,_⟩;obtain ⟨rfl,_⟩:=O_ hg;refine dR z z (l0 g_3 z<|hf.at0 z)<|dM z z z<|dM z z z ?_
  obtain ⟨_,eh,W⟩:=bdS hme;refine dRX z z (at_ (α:=Int) x_ z_3 z z z (L.g Y) eh) ?_;rintro _ ⟨_,_,_,rfl,hi,hj,_⟩;obtain ⟨rfl,_⟩:=O_ hj;refine dR z z (l0 g_3 z<|hi.at0 z)<|dR z z (nq z z)<|pD<|Wo<|Wc z (fun J=>?_) (fun J=>?_)
  ·exact Ws<|Rw z<|Wr<|rtO<|qL (som<|ifT W J).symm<|d_ hr z ⟨bup H s2,z⟩
  exact Wk<|Wg<|Rm z<|R z (inc_ V (lt_ (repS.len G) D_) z z)<|Ra z<|Wl (fun _ q=>⟨(),(som<|ifF W J).symm,⟨q.k<|s3 z z z,bup H s2⟩⟩)
 ·rintro _ _ _ ⟨hSk,s9⟩;refine Wu ?_ hSk;refine Wq<|Wm z<|Rm z<|R z (lnR x_ z<|G.e s9)<|Rl z z z<|Wx z (fun hc=>(W_ hc).elim) (fun _=>?_)
  exact We<|fun _ q=>⟨rfl,⟨q.k sn,s9⟩⟩
 ·rintro _ al _ rfl ⟨_,sm⟩;have hmn:=elL O;revert al;refine Wo<|Ws<|Rw z ?_
  obtain rfl:=som hmn;exact Wr<|d_ hr z ⟨sm,z⟩
 rintro _ _ _ _ rfl ⟨rfl,hqo⟩;have hmp:=elR O;obtain rfl:=som hmp;exact ⟨hqo,z⟩
theorem W_w3w {x1:e_}{x2:e_}{res:Bool}(hm:h_C x1 x2=some res)(H:B<=w0.z)(aa:x1.name.b.length<=LEN)(ab:inI x1.kind)(ad:inI x1.size)(V:repS w0 B (sl AD ND CD) x1.bytes)(W:repS w0 B (sl A8 N8 C8) x1.names)(Y:repS w0 B (sl AE NE CE) x1.tags)(a0:repS w0 B (sl AF NF CF) x1.kids)(ae:x2.name.b.length<=LEN)(af:inI x2.kind)(ah:inI x2.size)(a1:repS w0 B (sl A3 N3 C3) x2.bytes)(a2:repS w0 B (sl A4 N4 C4) x2.names)(a3:repS w0 B (sl A2 N2 C2) x2.tags)(a4:repS w0 B (sl A5 N5 C5) x2.kids):i_ prog 53 [(.agg #[Str.v x1.name,vI x1.kind,vI x1.size,vB x1.little,sl AD ND CD,sl A8 N8 C8,sl AE NE CE,sl AF NF CF]),(.agg #[Str.v x2.name,vI x2.kind,vI x2.size,vB x2.little,sl A3 N3 C3,sl A4 N4 C4,sl A2 N2 C2,sl A5 N5 C5])] w0 (Q7 w0 B res):=by
 unfold h_C at hm
 refine goG func53 z z z fun fn hr=>Ws<|E z (fb z) ?_
 rintro _ wi ⟨rfl,hj⟩;have h1:=hj.below;refine E z (fb z) ?_;rintro _ a5 ⟨rfl,hk⟩;have G:=hk.below;have h5:Blk a5 wi.z (vR x2 A3 N3 C3 A4 N4 C4 A2 N2 C2 A5 N5 C5):=hk.blk;refine Rw z<|Wq<|Ws<|Rf z d_d z ?_
 have h6:=(hj.blk:Blk wi w0.z (vR x1 AD ND CD A8 N8 C8 AE NE CE AF NF CF)).e G;refine R z (l0 g_9 z<|h6.at z)<|Rf z d_d z<|R z (l0 g_9 z<|h5.at z)<|R z (f_g z z)<|Wx z (fun I=>?_) (fun I=>?_)
 ·refine Ws<|Rw z ?_
  obtain rfl:=som<|ifT hm I;exact Wr<|d_ hr z ⟨bup h1 G,z⟩
 have hml:=ifF hm I;refine Wk<|Wq<|Ws<|Rf z a_e z<|R z (l0 g_3 z<|h6.at z)<|Rf z a_e z<|R z (l0 g_3 z<|h5.at z)<|R z (nq z z)<|Wx z (fun J=>?_) (fun J=>?_)
 ·refine Ws<|Rw z ?_
  obtain rfl:=som<|ifT hml J;exact Wr<|d_ hr z ⟨bup h1 G,z⟩
 have hmm:=ifF hml J;refine Wk<|Wq<|Ws<|Rf z a_F z<|R z (l0 g_3 z<|h6.at z)<|Rf z a_F z<|R z (l0 g_3 z<|h5.at z)<|R z (nq z z)<|Wx z (fun L=>?_) (fun L=>?_)
 ·refine Ws<|Rw z ?_
  obtain rfl:=som<|ifT hmm L;exact Wr<|d_ hr z ⟨bup h1 G,z⟩
 have hmn:=ifF hmm L;refine Wk<|Wq<|Ws<|Rf z c_s z<|R z (l0 g_4 z<|h6.at z)<|Rf z c_s z<|R z (l0 g_4 z<|h5.at z)<|R z (m_8 d_4 z z)<|Wx z (fun hca=>?_) (fun hca=>?_)
 ·refine Ws<|Rw z ?_
  obtain rfl:=som<|ifT hmn hca;exact Wr<|d_ hr z ⟨bup h1 G,z⟩
 refine Wk<|Wq<|Ws<|Rf z b_1 z<|R z (l0 R_ z<|h6.at z)<|Rf z b_1 z<|R z (l0 R_ z<|h5.at z) ?_
 have hb:=(h1.ag B).e G;have ho:=lt_ h1.s G.s;obtain ⟨_,a6,hmp⟩:=bdS<|ifF hmn hca;refine E z (fc call10 z<|W_w25 a6 (zt' H ho) (V.g hb)<|a1.g hb) ?_;rintro _ _ ⟨s2,rfl⟩;refine R z (not_ z)<|Wx z (fun hcc=>?_) (fun hcc=>?_)
 ·refine Ws<|Rw z ?_
  obtain rfl:=som<|ifT hmp hcc;exact Wr<|d_ hr z ⟨bup (bup h1 G) s2,z⟩
 refine Wk<|Wq<|Ws<|Rf z b_y z ?_
 have hq:=h6.e s2;refine R z (l0 a_I z<|hq.at z)<|Rf z b_y z ?_
 have ht:=h5.e s2;refine R z (l0 a_I z<|ht.at z) ?_;have hd:=hb.e s2;have hu:=lt_ ho s2.s;obtain ⟨_,a7,hmr⟩:=bdS<|ifF hmp hcc;refine E z (fc call91 z<|W_w3v a7 (zt' H hu) (W.g hd)<|a2.g hd) ?_;rintro _ _ ⟨s3,rfl⟩;refine R z (not_ z)<|Wx z (fun hce=>?_) (fun hce=>?_)
 ·refine Ws<|Rw z ?_
  obtain rfl:=som<|ifT hmr hce;exact Wr<|d_ hr z ⟨bup (bup (bup h1 G) s2) s3,z⟩
 refine Wk<|Wq<|Ws<|Rf z a_R z ?_
 have hv:=hq.e s3;refine R z (l0 A_ z<|hv.at z)<|Rf z a_R z ?_
 have hw:=ht.e s3;refine R z (l0 A_ z<|hw.at z) ?_;have hf:=hd.e s3;have hx:=lt_ hu s3.s;obtain ⟨_,a8,hms⟩:=bdS<|ifF hmr hce;refine E z (fc call92 z<|W_w26 a8 (zt' H hx) (Y.g hf)<|a3.g hf) ?_;rintro _ _ ⟨s4,rfl⟩;refine R z (not_ z)<|Wx z (fun hcg=>?_) (fun hcg=>?_)
 ·refine Ws<|Rw z ?_
  obtain rfl:=som<|ifT hms hcg;exact Wr<|d_ hr z ⟨bup (bup (bup (bup h1 G) s2) s3) s4,z⟩
 refine Wk<|Wq<|Ws<|Rf z N_ z<|R z (l0 A_ z<|(hv.e s4).at z)<|Rf z N_ z<|R z (l0 A_ z<|(hw.e s4).at z) ?_
 have hy:=hf.e s4;obtain ⟨_,a9,hmz⟩:=bdS<|ifF hms hcg;refine E z (fc call92 z<|W_w26 a9 (zt' H<|lt_ hx s4.s) (a0.g hy)<|a4.g hy) ?_;rintro _ _ ⟨O,rfl⟩;refine R z (not_ z)<|Wx z (fun hch=>?_) (fun hch=>?_)
 ·refine Ws<|Rw z ?_
  obtain rfl:=som<|ifT hmz hch;exact Wr<|d_ hr z ⟨bup (bup (bup (bup (bup h1 G) s2) s3) s4) O,z⟩
 refine Wk<|Ws<|Rw z ?_
 obtain rfl:=som<|ifF hmz hch;exact Wr<|d_ hr z ⟨bup (bup (bup (bup (bup h1 G) s2) s3) s4) O,z⟩
theorem W_w3x {x1:List e_}{x2:List e_}{res:Bool}(hm:j_d x1 x2=some res)(a5:B<=w0.z)(G:repS w0 B (sl A0 N0 C0) x1)(L:repS w0 B (sl A6 N6 C6) x2):i_ prog 25 [sl A0 N0 C0,sl A6 N6 C6] w0 (Q7 w0 B res):=by
 unfold j_d at hm
 refine goG func25 z z z fun fn hr=>Ws<|Rw z<|Wq<|Wm z<|R z (lnR a_0 z G)<|Rm z<|R z (lnR a_0 z L)<|R z (nq z z)<|Wx z (fun I=>?_) (fun I=>?_)
 ·refine Ws<|Rw z ?_
  obtain rfl:=som<|ifT hm I;exact Wr<|d_ hr z ⟨br w0,z⟩
 refine Wk<|Wq<|Ws<|Rw z ?_
 obtain ⟨_,hub,O⟩:=bdS<|ifF hm I;refine Wf (σ:=Unit) (ρ:=Bool) (fun (k5:Nat)(_:Unit) a w=>Sat 27 [(0,sl A0 N0 C0),(1,sl A6 N6 C6),(5,vI ((k5:Nat):Int))] a/\Below w0.z w0 w) (fun (_:Unit) a w=>Sat 27 [] a/\Below w0.z w0 w) (rQ prog fn<|Q7 w0 B) hub ?_ ?_ ?_ ?_ ?_
 ·exact fun _ q=>⟨q.k<|s3 z z z,br w0⟩
 ·rintro k5 _ _ _ _ V ⟨hSc,H⟩ hmd;refine Wu ?_ hSc;refine Wq<|Wm z<|Rm z<|R z (lnR a_0 z<|G.e H)<|Rl z z z<|Wx z (fun _=>?_) (fun hc=>(V_ V hc).elim)
  refine Wk<|Wq<|Wb<|Wq (Wd (X:=noX) 0 (pl_ 10 [8]) mo (by kernel_rfl) fun aG s1 _=>dM z z z<|dM z z z ?_)
  obtain ⟨xe,eg,hmf⟩:=bdS hmd;have Y:=(H.ag B).e s1;refine dRX z z (at_ (α:=e_) a_0 m_ z z z (G.g Y) eg) ?_;rintro _ ⟨_,_,_,rfl,hh,hi,_⟩;obtain ⟨aj,nk,cl,am,nn,co,ap,nr,cq,au,ns,ct,rfl,hv,hw,hx,hy,hz,a6,a7⟩:=a_w hi;refine dR z z (lN (vs:=vR xe aj nk cl am nn co ap nr cq au ns ct) G_ m_ z z fid hh)<|dM z z z<|dM z z z ?_
  obtain ⟨a8,a9,a0⟩:=bdS hmf;refine dRX z z (at_ (α:=e_) a_0 m_ z z z (L.g Y) a9) ?_;rintro _ ⟨_,_,_,rfl,aa,ab,_⟩;obtain ⟨ad,ae,af,ah,ai,ak,al,an,ao,aq,ar,av,rfl,aw,ax,ay,az,aA,aB,aC⟩:=a_w ab;refine dR z z (lN (vs:=vR a8 ad ae af ah ai ak al an ao aq ar av) G_ m_ z z fid aa) ?_;obtain ⟨_,aD,W⟩:=bdS a0;refine dE z z (fc call53 z<|W_w3w aD (zt' a5<|lt_ H.s s1.s) hv hw hx hy hz a6 a7 aw ax ay az aA aB aC) (.inr fun _ _ h=>l_<|h.1) ?_;rintro _ _ ⟨s9,rfl⟩;refine dR z z (not_ z)<|pD<|Wo<|Wc z (fun J=>?_) (fun J=>?_)
  ·exact Ws<|Rw z<|Wr<|rtO<|qL (som<|ifT W J).symm<|d_ hr z ⟨bup (bup H s1) s9,z⟩
  exact Wk<|Wg<|Rm z<|R z (inc_ V (lt_ (repS.len G) D_) z z)<|Ra z<|Wl (fun _ q=>⟨(),(som<|ifF W J).symm,⟨q.k<|s3 z z z,bup (bup H s1) s9⟩⟩)
 ·rintro _ _ _ ⟨a1,sa⟩;refine Wu ?_ a1;refine Wq<|Wm z<|Rm z<|R z (lnR a_0 z<|G.e sa)<|Rl z z z<|Wx z (fun hc=>(W_ hc).elim) (fun _=>?_)
  exact We<|fun _ q=>⟨rfl,⟨q.k sn,sa⟩⟩
 ·rintro _ aE _ rfl ⟨_,aF⟩;have a2:=elL O;revert aE;refine Wo<|Ws<|Rw z ?_
  obtain rfl:=som a2;exact Wr<|d_ hr z ⟨aF,z⟩
 rintro _ _ _ _ rfl ⟨rfl,a3⟩;have a4:=elR O;obtain rfl:=som a4;exact ⟨a3,z⟩
end Go.Vw
