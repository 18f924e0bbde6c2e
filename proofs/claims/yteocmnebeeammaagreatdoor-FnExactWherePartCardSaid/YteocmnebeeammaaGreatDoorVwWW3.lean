
import Derived.Test.YteocmnebeeammaaGreatDoorVwWW2
set_option linter.unusedVariables false
namespace Go.Vw
open Go.RowKit Dat Go.Proofs
open Go.Proofs.Tryz
open Go.Vw renaming a_g->Wq,a_B->Wg,WC.of_KC->Wo,a_j->Wl,c_8->Wc,c_M->Wr,f_K->Wu,i_M->pT,i_N->pF,g_P->fd,b_x->l1,j_3->lN,b_3->mv,c_O->asg,f_E->lnR,f_3->lss,g_S->eql,g_Q->ext_,i_P->bP,g_R->add_,f_D->inc_,d_t->not_,f_F->at_,e_m->fc,a_R->fs,e_l->fb,d_q->fa,i_G->sr,i_K->cr,i_L->cM,c_j->bM,i_z->iS,i_y->iA,g_F->br,a_X->oA,i_C->bs,ltge->lg,inor->io,f_O->nq,j_4->lnT,j_5->sb_,i_E->ar_,i_D->al_,i_F->ds,j_M->m1,i_I->nr_,i_H->nl_,g_H->aa_,all_nil->an_,d_l->Wb,g_G->u8,i_w->pD,f_v->We,i_A->Wt,f_y->fS,f_q->or_,j_1->Wf,i_U->qL,i_v->Wd,i_Q->fN,g_I->na_,i_J->nj,e_o->f0,i_O->rX,i_R->tl_,i_S->ic
variable {A0:Option Addr}{N0 C0:Nat}{B:Zone}{w0:World}{AB:Option Addr}{AA:Option Addr}{AC:Option Addr}{AD:Option Addr}{NB CB:Nat}{NA CA:Nat}{NC CC:Nat}{ND CD:Nat}{A2:Option Addr}{A3:Option Addr}{A1:Option Addr}{A4:Option Addr}{N2 C2:Nat}{N3 C3:Nat}{N1 C1:Nat}{N4 C4:Nat}{A7:Option Addr}{N7 C7:Nat}{A5:Option Addr}{N5 C5:Nat}{n:Nat}{A8:Option Addr}{A9:Option Addr}{N8 C8:Nat}{N9 C9:Nat}{A6:Option Addr}{N6 C6:Nat}
theorem T_w1s (ih:g_A n):m_3 (h_F n<|a_x n):=by
 obtain ⟨aP,_,_,_,_⟩:=ih
 constructor
 intro A0 A6 A2 A3 A1 A4 N0 C0 N6 C6 g1 N2 C2 N3 C3 N1 C1 N4 C4 B x1 x2 x3 res w0 hm hB1 W hBg a2 a3 aE bu bv bw bx bz bA a4 a5;unfold h_F at hm
 refine goG func158 z z z λfn hr=>Ws<|E z (fb z) ?_
 rintro _ J ⟨rfl,ab⟩;have h6:=ab.below;have ad:Blk J w0.z (vR x2 A2 N2 C2 A3 N3 C3 A1 N1 C1 A4 N4 C4):=ab.blk;refine E z (fa b_J) ?_;rintro _ wr ⟨rfl,ae⟩;have he:=ae.below;have hn:Blk wr J.z [vI 0,vI 0]:=ae.blk;refine Wn<|Wm z<|Rf z P_ z ?_
 have af:=ad.e he;refine R z (l0 E_ z<|af.at z) ?_;obtain ⟨_,aQ,aF⟩:=bdS hm;have ho:=(h6.ag B).e he;refine RX z (at_ (α:=Int) x_ z_3 z z z (a4.g ho) aQ) ?_;rintro _ ⟨_,_,_,rfl,aR,aS,_⟩;obtain ⟨rfl,aT⟩:=T_ aS;refine R z (l0 g_3 z<|aR.at0 z)<|Rm z ?_
 have hj:=lt_ h6.s he.s;obtain ⟨ah,rs,_,aU,aG⟩:=N_ aF;refine E z (fc call155 z<|k_f (B:=B) aU ((hB1.e h6).e he) (zt' W hj) hBg (a2.g ho) (a3.g ho) aE aT a5) ?_;rintro _ G ⟨I,rfl,aV,aW,aX,ai,aj⟩;refine Rm z<|Re z z z<|Re z z z<|E z (fa b_J) ?_
 rintro _ wu ⟨rfl,ak⟩;have O:=ak.below;refine Ra z<|E0 (fs0 (cur':=[vI rs.at_,vI rs.code]) F_ z z (ak.blk:Blk wu G.z [vI 0,vI 0]) z z z z) ?_
 rintro _ wg ⟨al,aY⟩;have V:=aY.one;refine Wn<|Wq<|Wq ?_
 obtain ⟨aZ,a6,a7⟩:=bdS aG;refine Wt (λa w=>∃(xv:Bool),xv=aZ/\Sat 46 [(0,pt g1),(2,vI x3),(4,pt w0.z),(6,pt J.z),(7,vI ah),(8,pt G.z),(25,vB xv)] a/\Below wg.z wg w) ?_ ?_
 .refine Wg<|Rf z d_I z<|R z (l0 g_3 z<|al.at z)<|Rq z z z<|Rm z ?_
  rcases bs (rs.code==0) with L | L
  .exact Rh z L (mv z)<|Rh z L (a_b z z)<|R z (pT z L z)<|Wl (λ_ q=>⟨decide<|40<ah,som<|ifT a6 L,q.k<|s7 z z z z z z z,br wg⟩)
  exact Nh z L<|Nh z L<|R z (pF z L z)<|Wl (λ_ q=>⟨false,som<|ifF a6 L,q.k<|s7 z z z z z z z,br wg⟩)
 rintro b0 H ⟨xv,rfl,_,s4⟩;revert b0;refine Wo<|Wc z (λhcw=>?_) (λhcw=>?_)
 .refine Wm z<|R z (bP (parts:=[(0,.tmp 26),(1,.const<|.int .i64 6)]) (cs:=[vI x3,vI 6]) d_0 z z) ?_
  have am:=mm1 (Blk.lt hB1) h6.s;refine E0 (fs0 (cur':=[vI x3,vI 6]) F_ z z ((((hn.c I<|atp am).e O).c V<|djs<|mm1 hn.lt I.s).e s4) z z z z) ?_;rintro _ b1 ⟨b2,b3⟩;have an:=b3.one;refine Wn ?_;obtain rfl:=som<|ifT a7 hcw;have ao:=lt_ hj I.s;exact Wr<|c_ hr (s_ a_m F_ z b2 z) ⟨(cM (j_ (cM (j_ (cM (j_ (j_ (cr [g1] w0) h6:Cg [g1] w0 J) he:Cg [g1] w0 wr) I (io sr):Cg [g1] w0 G) O:Cg [g1] w0 wu) V (mor ao:∀k∈[G.z],k∈[g1]∨w0.z<=k):Cg [g1] w0 wg) s4:Cg [g1] w0 H) an (mor h6.s:∀k∈[J.z],k∈[g1]∨w0.z<=k):Cg [g1] w0 b1),z,a5,ii z,ai,(((aj.e O).c V<|djs<|mm1 (Blk.lt hB1) ao).e s4).c an<|djs am⟩
 refine Wk<|Wq ?_
 obtain ⟨_,aH,a8⟩:=bdS<|ifF a7 hcw;refine c_k (σ:=Int×Int×Int×Int) (ρ:=S_×Int) (λs a w=>un4 (λxa xf xb x5=>Sat 46 [(0,pt g1),(4,pt w0.z),(6,pt J.z),(7,vI xa),(8,pt G.z)] a/\Chg (· ∈ ([g1]++[G.z])) H w/\inI xa/\inI xf/\inI xb/\inI x5/\Blk w g1 [sl A0 N0 C0,sl A6 N6 C6,vI xf]/\Blk w G.z [vI xb,vI x5]) s) (λs a w=>un4 (λxa xf xb x5=>Sat 46 [(6,pt J.z),(8,pt G.z)] a/\Chg (· ∈ ([g1]++[G.z])) H w/\inI xa/\inI xf/\inI xb/\inI x5/\Blk w g1 [sl A0 N0 C0,sl A6 N6 C6,vI xf]/\Blk w G.z [vI xb,vI x5]) s) (rQ prog fn<|Q29 w0 g1 B A0 N0 C0 A6 N6 C6 x1) aH ?_ ?_ ?_ ?_
 .exact λ_ q=>⟨q.k<|s5 z z z z z,cr ([g1]++[G.z]) H,aV,ai,aW,aX,((aj.e O).c V<|djs<|mm1 (Blk.lt hB1)<|lt_ hj I.s).e s4,al.e s4⟩
 .rintro ⟨xa,xf,xb,x5⟩ _ wh _ ⟨aI,sk,ap,hp,hq,hx,ht,hl⟩ aJ;refine Wu ?_ aI;refine Wq<|Wq ?_
  obtain ⟨b4,a9,aa⟩:=bdS<|un4S aJ;refine Wt (λa w=>∃(xy:Bool),xy=b4/\Sat 46 [(0,pt g1),(4,pt w0.z),(6,pt J.z),(7,vI xa),(8,pt G.z),(34,vB xy)] a/\Below wh.z wh w) ?_ ?_
  .refine Wg<|Rm z<|R z (a_b z z)<|Rm z ?_
   rcases bs (decide<|0<xa) with hcc | hcc
   .exact Rh z hcc (fd d_I z)<|Rh z hcc (l0 g_3 z<|hl.at z)<|Rh z hcc (eql z z)<|R z (pT z hcc z)<|Wl (λ_ q=>⟨x5==0,som<|ifT a9 hcc,q.k<|s6 z z z z z z,br wh⟩)
   iterate 3 refine Nh z hcc ?_
   exact R z (pF z hcc z)<|Wl (λ_ q=>⟨false,som<|ifF a9 hcc,q.k<|s6 z z z z z z,br wh⟩)
  rintro b5 aq ⟨xy,rfl,_,sd⟩;revert b5;refine Wo<|Wc z (λhcz=>?_) (λhcz=>?_)
  .refine Wk<|Wq<|Wb (Wd (X:=noX) 384 (pl_ 9 [7,8]) mo (by kernel_rfl) λb6 si _=>dM z z z<|dR z z (fd P_ z) ?_)
   have ar:=mmr<|Blk.lt hB1
   have au:=mm1 ad.lt<|lt_ he.s I.s
   refine dR z z (l0 E_ z<|(((((((af.c I<|atp ar).e O).c V<|djs au).e s4).c sk<|atp<|nmA ar<|ds au).e sd).e si).at z) ?_;obtain ⟨_,b7,aK⟩:=bdS<|ifT aa hcz;have Y:=lt_ hj I.s;have av:∀k∈[G.z],¬B k:=or0 (f_ lr)<|p_<|zt' W Y;have a0:=((((((ho.c I<|e_<|f_ hBg).e O).c V<|e_ av).e s4).c sk<|nmA (e_<|f_ hBg)<|e_ av).e sd).e si;refine dRX z z (at_ (α:=Int) x_ z_3 z z z (a4.g a0) b7) ?_;rintro _ ⟨_,_,_,rfl,b8,b9,_⟩;obtain ⟨rfl,ba⟩:=T_ b9;refine dR z z (l0 g_3 z<|b8.at0 z)<|dR z z (fd d_j z) ?_
   have aw:=(hl.e sd).e si;refine dR z z (l0 g_3 z<|aw.at z) ?_;obtain ⟨rm,bb,bc,aL⟩:=a_8 aK;refine dE z z (fc call137 z<|aP.run (B:=B) bc ((ht.e sd).e si) (zt' W<|lt_ (lt_ (lt_ (lt_ (lt_ (lt_ Y O.s) V.s) s4.s) sk.s) sd.s) si.s) hBg (a2.g a0) (a3.g a0) hp ba hq) (.inl z) ?_;rintro _ be ⟨ax,rfl,bf,bg,bh,bi⟩;have ay:=mm1 (Blk.lt hB1) Y;refine dE0 z (fs0 (cur':=[vI rm.at_,vI rm.code]) F_ z z (aw.c ax<|atp ay) z z z z) (.inl z) ?_;rintro _ bj ⟨bk,bm⟩;have az:=bm.one;refine pD<|Wo<|Wg<|Rm z<|R z (sb_ z z)<|Ra z<|Wl ?_
   exact λ_ q=>⟨(K_ xa 1,bb,rm.at_,rm.code),(som aL).symm,⟨q.k<|s5 z z z z z,(cM (cM (j_ (j_ (cM (cr ([g1]++[G.z]) H) sk (aa_ (io<|a_z sr)<|io<|a_0 sr):Chg (· ∈ ([g1]++[G.z])) H wh) sd:Chg (· ∈ ([g1]++[G.z])) H aq) si:Chg (· ∈ ([g1]++[G.z])) H b6) ax (io<|a_z sr):Chg (· ∈ ([g1]++[G.z])) H be) az (io<|a_0 sr):Chg (· ∈ ([g1]++[G.z])) H bj),iS _ _,bh,bf,bg,bi.c az<|djs ay,bk⟩⟩
  exact We<|λ_ q=>b_M (som<|ifF aa hcz).symm ⟨q.k<|s2 z z,(j_ (cM (cr ([g1]++[G.z]) H) sk (aa_ (io<|a_z sr)<|io<|a_0 sr):Chg (· ∈ ([g1]++[G.z])) H wh) sd:Chg (· ∈ ([g1]++[G.z])) H aq),ap,hp,hq,hx,ht.e sd,hl.e sd⟩
 .rintro ⟨xa,xf,xb,x5⟩ bn bo rfl ⟨_,aA,ap,hp,hq,hx,ht,hl⟩;have aM:=elL a8;revert bn;refine Wo<|Ws<|R z (lN (vs:=[vI xb,vI x5]) a_m F_ z z fid<|hl.row 0 2 z) ?_
  have a1:=mm1 (Blk.lt hB1) h6.s;have aB:=mm1 hn.lt I.s;refine E0 (fs0 (cur':=[vI xb,vI x5]) F_ z z (((((hn.c I<|atp a1).e O).c V<|djs aB).e s4).c aA<|atp<|nmA a1<|ds aB) z z z z) ?_;rintro _ bp ⟨bq,bt⟩;have aC:=bt.one;refine Wn ?_;obtain rfl:=som<|un4S aM;have aD:∀k∈[G.z],k∈[g1]∨w0.z<=k:=mor<|lt_ hj I.s;exact Wr<|c_ hr (s_ a_m F_ z bq z) ⟨(cM (cM (j_ (cM (j_ (cM (j_ (j_ (cr [g1] w0) h6:Cg [g1] w0 J) he:Cg [g1] w0 wr) I (io sr):Cg [g1] w0 G) O:Cg [g1] w0 wu) V aD:Cg [g1] w0 wg) s4:Cg [g1] w0 H) aA (aa_ (io sr) aD):Cg [g1] w0 bo) aC (mor h6.s:∀k∈[J.z],k∈[g1]∨w0.z<=k):Cg [g1] w0 bp),z,hq,hx,hp,ht.c aC<|djs a1⟩
 rintro _ _ _ _ rfl ⟨rfl,aN⟩;have aO:=elR a8;obtain rfl:=som aO;exact ⟨aN,z⟩
theorem T_w1t (ih:g_A n):m_4 (h_G n<|a_x n):=by
 obtain ⟨aq,_,_,_,_⟩:=ih
 constructor
 intro A0 A6 A2 A3 A1 A4 N0 C0 N6 C6 g1 N2 C2 N3 C3 N1 C1 N4 C4 B x1 x2 x3 res w0 hm hB1 V hBg W Y ae b2 b3 b4 b5 b6 O a0 a1;unfold h_G at hm
 refine goG func159 z z z λfn hr=>Ws<|E z (fb z) ?_
 rintro _ H ⟨rfl,hq⟩;have h1:=hq.below;have ht:Blk H w0.z (vR x2 A2 N2 C2 A3 N3 C3 A1 N1 C1 A4 N4 C4):=hq.blk;refine E z (fa b_J) ?_;rintro _ wc ⟨rfl,hu⟩;have h6:=hu.below;have L:Blk wc H.z [vI 0,vI 0]:=hu.blk;refine Wn<|Wm z<|Rf z P_ z ?_
 have hv:=ht.e h6;refine R z (l0 E_ z<|hv.at z) ?_;obtain ⟨_,ar,af⟩:=bdS hm;have he:=(h1.ag B).e h6;refine RX z (at_ (α:=Int) x_ z_3 z z z (a0.g he) ar) ?_;rintro _ ⟨_,_,_,rfl,au,av,_⟩;obtain ⟨rfl,aw⟩:=T_ av;refine R z (l0 g_3 z<|au.at0 z)<|Rm z ?_
 have hg:=lt_ h1.s h6.s;obtain ⟨ax,rb,_,ay,hmr⟩:=N_ af;refine E z (fc call155 z<|k_f (B:=B) ay ((hB1.e h1).e h6) (zt' V hg) hBg (W.g he) (Y.g he) ae aw a1) ?_;rintro _ I ⟨G,rfl,_,hw,az,hh,hi⟩;refine Rm z<|Re z z z<|Re z z z<|E z (fa b_J) ?_
 rintro _ wf ⟨rfl,hx⟩;have h2:=hx.below;refine Ra z<|E0 (fs0 (cur':=[vI rb.at_,vI rb.code]) F_ z z (hx.blk:Blk wf I.z [vI 0,vI 0]) z z z z) ?_
 rintro _ J ⟨hj,aA⟩;have h3:=aA.one;refine Wn<|Wq<|Ws<|Rf z d_I z<|R z (l0 g_3 z<|hj.at z)<|R z (nq z z)<|Wx z (λhck=>?_) (λhck=>?_)
 .refine Ws<|R z (lN (vs:=[vI rb.at_,vI rb.code]) a_m F_ z z fid<|hj.row 0 2 z) ?_
  have hy:=mm1 (Blk.lt hB1) h1.s;refine E0 (fs0 (cur':=[vI rb.at_,vI rb.code]) F_ z z (((L.c G<|atp hy).e h2).c h3<|djs<|mm1 L.lt G.s) z z z z) ?_;rintro _ aB ⟨aC,aD⟩;have hz:=aD.one;refine Wn ?_;obtain rfl:=som<|ifT hmr hck;have a3:=lt_ hg G.s;exact Wr<|c_ hr (s_ a_m F_ z aC z) ⟨(cM (cM (j_ (cM (j_ (j_ (cr [g1] w0) h1:Cg [g1] w0 H) h6:Cg [g1] w0 wc) G (io sr):Cg [g1] w0 I) h2:Cg [g1] w0 wf) h3 (mor a3:∀k∈[I.z],k∈[g1]∨w0.z<=k):Cg [g1] w0 J) hz (mor h1.s:∀k∈[H.z],k∈[g1]∨w0.z<=k):Cg [g1] w0 aB),z,hw,az,hh,((hi.e h2).c h3<|djs<|mm1 (Blk.lt hB1) a3).c hz<|djs hy⟩
 refine Wk<|Wq<|Ws<|Rf z b_g z ?_
 have a4:=((hv.c G<|atp<|mmr<|Blk.lt hB1).e h2).c h3<|djs<|mm1 ht.lt<|lt_ h6.s G.s
 refine R z (l0 E_ z<|a4.at z) ?_;have hd:=lt_ hg G.s;have a5:=((he.c G<|e_<|f_ hBg).e h2).c h3<|e_ (or0 (f_ lr) (p_<|zt' V hd):∀k∈[I.z],¬B k)
 refine R z (lnR x_ z<|O.g a5)<|Rm z<|Wn ?_
 obtain ⟨_,ah,hms⟩:=bdS<|ifF hmr hck;refine Wf (σ:=Unit) (ρ:=S_×Int) (λ(a6:Nat)(_:Unit) a w=>Sat 49 [(0,pt g1),(2,vI x3),(4,pt w0.z),(6,pt H.z),(7,vI ax),(8,pt I.z),(26,sl A1 N1 C1),(27,vI (x2.tags.length:Int)),(28,vI ((a6:Nat):Int))] a/\Below J.z J w) (λ(_:Unit) a w=>Sat 49 [(2,vI x3),(6,pt H.z)] a/\Below J.z J w) (rQ prog fn<|Q29 w0 g1 B A0 N0 C0 A6 N6 C6 x1) ah ?_ ?_ ?_ ?_ ?_
 .exact λ_ q=>⟨q.k<|s9 z z z z z z z z z,br J⟩
 .rintro a6 _ _ aE _ hkl ⟨ai,s8⟩ aj;refine Wu ?_ ai;refine Ws<|Rl z z z<|Wn<|Wq<|Wc z (λ_=>?_) (λhc=>(Q_ hkl hc).elim)
  refine Wk<|Wq<|Wb<|Wm z ?_
  obtain ⟨_,aF,a2⟩:=bdS aj;have a7:=a5.e s8;refine RX z (at_ (α:=Int) x_ z_3 z z z (O.g a7) aF) ?_;rintro _ ⟨_,_,_,rfl,aG,aH,_⟩;obtain ⟨rfl,_⟩:=T_ aH;refine R z (l0 g_3 z<|aG.at0 z)<|Ra z<|Rw z<|Wm z<|Rm z<|Rq z z z<|Wx z (λhcm=>?_) (λhcm=>?_)
  .refine Wq (Wd (X:=noX) 1536 (pl_ 11 [9,10]) mo (by kernel_rfl) λaI sa _=>dM z z z<|dR z z (fd P_ z)<|dR z z (l0 E_ z<|((a4.e s8).e sa).at z)<|dM z z z<|dR z z (inc_ hkl (lt_ (repS.len O) B_) z z) ?_);obtain ⟨_,aJ,ak⟩:=bdS<|ifT a2 hcm;have hn:=a7.e sa;refine dRX z z (at_ (α:=Int) x_ z_3 z z z (a0.g hn) aJ) ?_;rintro _ ⟨_,_,_,rfl,aK,aL,_⟩;obtain ⟨rfl,aM⟩:=T_ aL;refine dR z z (l0 g_3 z<|aK.at0 z)<|dR z z (fd d_j z)<|dR z z (l0 g_3 z<|((hj.e s8).e sa).at z) ?_
   obtain ⟨a8,_,aN,al⟩:=a_8 ak;refine dE z z (fc call137 z<|aq.run (B:=B) aN ((((hi.e h2).c h3<|djs<|mm1 (Blk.lt hB1) hd).e s8).e sa) (zt' V<|lt_ (lt_ (lt_ (lt_ hd h2.s) h3.s) s8.s) sa.s) hBg (W.g hn) (Y.g hn) hh aM hw) (.inl z) ?_;rintro _ aO ⟨a9,rfl,aP,aQ,aR,aS⟩;have ho:=mm1 (Blk.lt hB1) h1.s;refine dE0 z (fs0 (cur':=[vI a8.at_,vI a8.code]) F_ z z ((((((L.c G<|atp ho).e h2).c h3<|djs<|mm1 L.lt G.s).e s8).e sa).c a9<|atp ho) z z z z) (.inl z) ?_;rintro _ aT ⟨aU,aV⟩;have aa:=aV.one;refine pD<|Wo ?_
   exact Wr<|rtO<|qL (som al).symm<|c_ hr (s_ a_m F_ z aU z) ⟨(cM (cM (j_ (j_ (cM (j_ (cM (j_ (j_ (cr [g1] w0) h1:Cg [g1] w0 H) h6:Cg [g1] w0 wc) G (io sr):Cg [g1] w0 I) h2:Cg [g1] w0 wf) h3 (mor hd:∀k∈[I.z],k∈[g1]∨w0.z<=k):Cg [g1] w0 J) s8:Cg [g1] w0 aE) sa:Cg [g1] w0 aI) a9 (io sr):Cg [g1] w0 aO) aa (mor h1.s:∀k∈[H.z],k∈[g1]∨w0.z<=k):Cg [g1] w0 aT),z,aP,aQ,aR,aS.c aa<|djs ho⟩
  exact Wk<|Wg<|R z (inc_ hkl (lt_ (repS.len O) B_) z z)<|Rm z<|Wl (λ_ q=>⟨(),(som<|ifF a2 hcm).symm,⟨q.k<|s9 z z z z z z z z z,s8⟩⟩)
 .rintro _ _ _ ⟨am,aW⟩;refine Wu ?_ am;refine Ws<|Rl z z z<|Wn<|Wq<|Wc z (λhc=>(R_ hc).elim) (λ_=>?_)
  exact We<|λ_ q=>⟨rfl,⟨q.k<|s2 z z,aW⟩⟩
 .rintro _ aX aY rfl ⟨_,sp⟩;have an:=elL hms;revert aX;refine Wo<|Wm z<|R z (bP (parts:=[(0,.tmp 47),(1,.const<|.int .i64 3)]) (cs:=[vI x3,vI 3]) d_0 z z) ?_
  have ab:=mm1 (Blk.lt hB1) h1.s;refine E0 (fs0 (cur':=[vI x3,vI 3]) F_ z z ((((L.c G<|atp ab).e h2).c h3<|djs<|mm1 L.lt G.s).e sp) z z z z) ?_;rintro _ aZ ⟨b0,b1⟩;have ad:=b1.one;refine Wn ?_;obtain rfl:=som an;exact Wr<|c_ hr (s_ a_m F_ z b0 z) ⟨(cM (j_ (cM (j_ (cM (j_ (j_ (cr [g1] w0) h1:Cg [g1] w0 H) h6:Cg [g1] w0 wc) G (io sr):Cg [g1] w0 I) h2:Cg [g1] w0 wf) h3 (mor hd:∀k∈[I.z],k∈[g1]∨w0.z<=k):Cg [g1] w0 J) sp:Cg [g1] w0 aY) ad (mor h1.s:∀k∈[H.z],k∈[g1]∨w0.z<=k):Cg [g1] w0 aZ),z,a1,ii z,hh,(((hi.e h2).c h3<|djs<|mm1 (Blk.lt hB1) hd).e sp).c ad<|djs ab⟩
 rintro _ _ _ _ rfl ⟨rfl,ao⟩;have ap:=elR hms;obtain rfl:=som ap;exact ⟨ao,z⟩
theorem T_w1u (ih:g_A n):m_5 (h_H n<|a_x n):=by
 obtain ⟨af,_,_,_,_⟩:=ih
 constructor
 intro A0 A6 A2 A3 A1 A4 N0 C0 N6 C6 g1 N2 C2 N3 C3 N1 C1 N4 C4 B x1 x2 x3 res w0 hm hB1 V hBg a0 W Y aP aQ aR aS aT aU a9 a1;unfold h_H at hm
 refine goG func160 z z z λfn hr=>Ws<|E z (fb z) ?_
 rintro _ J ⟨rfl,hq⟩;have h5:=hq.below;have ht:Blk J w0.z (vR x2 A2 N2 C2 A3 N3 C3 A1 N1 C1 A4 N4 C4):=hq.blk;refine E z (fa b_J) ?_;rintro _ we ⟨rfl,hu⟩;have L:=hu.below;have hc:Blk we J.z [vI 0,vI 0]:=hu.blk;refine Wn<|Wm z<|Rm z ?_
 have hf:=(hB1.e h5).e L;have hg:=(h5.ag B).e L;have hh:=lt_ h5.s L.s;obtain ⟨O,ah,aa⟩:=bdS hm;refine E z (fc call157 z<|i_l (B:=w0.z) ah (Y_ hh) (repS.mono (a0.g hg) V) (repS.mono (W.g hg) V) Y (hf.row 0 3 z) (Blk.lt hB1) a1<|ii z) ?_;rintro _ I ⟨G,rfl,hv,ai⟩;refine E z (fa b_J) ?_;rintro _ wi ⟨rfl,hw⟩;have h2:=hw.below;refine E0 (fs0 (cur':=[vI O.at_,vI O.code]) F_ z z (hw.blk:Blk wi I.z [vI 0,vI 0]) z z z z) ?_;rintro _ wa ⟨hj,aj⟩;have h3:=aj.one;refine Wn<|Wq<|Wb<|Wq ?_
 obtain ⟨ak,hur,hms⟩:=bdS aa;refine Wt (λa w=>∃(xk:Bool),xk=ak/\Sat 45 [(0,pt g1),(2,vI x3),(4,pt w0.z),(6,pt J.z),(7,pt I.z),(11,vB xk)] a/\Below wa.z wa w) ?_ ?_
 .refine Wg<|Rf z d_I z<|R z (l0 g_3 z<|hj.at z)<|R z (nq z z)<|Rm z ?_
  rcases bs (O.code != 0) with H | H
  .iterate 8 refine Nh z H ?_
   exact R z (pT z H z)<|Ra z<|Wl (λ_ q=>⟨true,som<|ifT hur H,q.k<|s6 z z z z z z,br wa⟩)
  refine Rh z H (mv z)<|Rh z H (J_ z)<|Rh z H (fd e_d z) ?_
  have hx:=lt_ hh G.s;refine Rh z H (l0 X_ z<|(((hf.e G).e h2).c h3<|djs<|mm1 (Blk.lt hB1) hx).at z)<|Rh z H (mv z) ?_
  obtain ⟨al,am,ab⟩:=bdS<|ifF hur H;refine RXg z z H z (at_ (α:=UInt8) o_ z_5 z z z (W.g<|((hg.e G).e h2).c h3<|e_ (or0 (f_ lr) (p_<|zt' V hx):∀k∈[I.z],¬B k)) am) ?_;rintro _ ⟨_,_,_,rfl,an,ao,_⟩;obtain rfl:=u8 ao;exact Rh z H (l0 g_5 z<|an.at0 z)<|Rh z H (eql z z)<|R z (pF z H z)<|Ra z<|Wl (λ_ q=>⟨(byteI al)==(byteI (0:UInt8)),som ab,q.k<|s6 z z z z z z,br wa⟩)
 rintro ap wl ⟨xk,rfl,_,s4⟩;revert ap;refine Wo<|Wc z (λhcm=>?_) (λhcm=>?_)
 .refine Ws<|R z (lN (vs:=[vI O.at_,vI O.code]) a_m F_ z z fid<|(hj.e s4).row 0 2 z)<|E0 (fs0 (cur':=[vI O.at_,vI O.code]) F_ z z ((((hc.e G).e h2).c h3<|djs<|mm1 hc.lt G.s).e s4) z z z z) ?_
  rintro _ aq ⟨ar,au⟩;have hy:=au.one;refine Wn ?_;obtain rfl:=som<|ifT hms hcm;have hz:=lt_ hh G.s;exact Wr<|rtO<|c_ hr (s_ a_m F_ z ar z) ⟨(cM (j_ (cM (j_ (j_ (j_ (j_ (cr [g1] w0) h5:Cg [g1] w0 J) L:Cg [g1] w0 we) G:Cg [g1] w0 I) h2:Cg [g1] w0 wi) h3 (mor hz:∀k∈[I.z],k∈[g1]∨w0.z<=k):Cg [g1] w0 wa) s4:Cg [g1] w0 wl) hy (mor h5.s:∀k∈[J.z],k∈[g1]∨w0.z<=k):Cg [g1] w0 aq),z,hv,ai,Y,((((hf.e G).e h2).c h3<|djs<|mm1 (Blk.lt hB1) hz).e s4).c hy<|djs<|mm1 (Blk.lt hB1) h5.s⟩
 refine Wm z<|R z (J_ z)<|Rf z e_d z ?_
 have hd:=lt_ hh G.s;have hn:=(((hf.e G).e h2).c h3<|djs<|mm1 (Blk.lt hB1) hd).e s4;refine R z (l0 X_ z<|hn.at z)<|Rm z ?_
 obtain ⟨_,av,a2⟩:=bdS<|ifF hms hcm;have a3:=(((hg.e G).e h2).c h3<|e_ (or0 (f_ lr) (p_<|zt' V hd):∀k∈[I.z],¬B k)).e s4;refine RX z (at_ (α:=UInt8) o_ z_5 z z z (W.g a3) av) ?_;rintro _ ⟨_,_,_,rfl,aw,ax,_⟩;obtain rfl:=u8 ax;refine R z (l0 g_5 z<|aw.at0 z)<|R z (a_b z z)<|Rw z<|Wc z (λhco=>?_) (λhco=>?_)
 .refine Wm z<|R z (bP (parts:=[(0,.tmp 35),(1,.const<|.int .i64 4)]) (cs:=[vI x3,vI 4]) d_0 z z)<|E0 (fs0 (cur':=[vI x3,vI 4]) F_ z z ((((hc.e G).e h2).c h3<|djs<|mm1 hc.lt G.s).e s4) z z z z) ?_
  rintro _ ay ⟨az,aA⟩;have a4:=aA.one;refine Wn ?_;obtain rfl:=som<|ifT a2 hco;exact Wr<|rtO<|c_ hr (s_ a_m F_ z az z) ⟨(cM (j_ (cM (j_ (j_ (j_ (j_ (cr [g1] w0) h5:Cg [g1] w0 J) L:Cg [g1] w0 we) G:Cg [g1] w0 I) h2:Cg [g1] w0 wi) h3 (mor hd:∀k∈[I.z],k∈[g1]∨w0.z<=k):Cg [g1] w0 wa) s4:Cg [g1] w0 wl) a4 (mor h5.s:∀k∈[J.z],k∈[g1]∨w0.z<=k):Cg [g1] w0 ay),z,a1,ii z,Y,hn.c a4<|djs<|mm1 (Blk.lt hB1) h5.s⟩
 refine Wk<|Wq (Wd (X:=noX) 384 (pl_ 9 [7,8]) mo (by kernel_rfl) λaB sb _=>dM z z z<|dR z z (fd P_ z)<|dR z z (l0 E_ z<|((((((ht.e L).e G).e h2).c h3<|djs<|mm1 ht.lt<|lt_ L.s G.s).e s4).e sb).at z) ?_)
 obtain ⟨_,aC,ad⟩:=bdS<|ifF a2 hco;have hp:=a3.e sb;refine dRX z z (at_ (α:=Int) x_ z_3 z z z (a9.g hp) aC) ?_;rintro _ ⟨_,_,_,rfl,aD,aE,_⟩;obtain ⟨rfl,aF⟩:=T_ aE;refine dR z z (l0 g_3 z<|aD.at0 z)<|dR z z (fd d_j z)<|dR z z (l0 g_3 z<|((hj.e s4).e sb).at z) ?_
 obtain ⟨a5,_,aG,ae⟩:=a_8 ad;refine dE z z (fc call137 z<|af.run (B:=B) aG (hn.e sb) (zt' V<|lt_ (lt_ (lt_ (lt_ hd h2.s) h3.s) s4.s) sb.s) hBg (a0.g hp) (W.g hp) Y aF hv) (.inl z) ?_;rintro _ aH ⟨a6,rfl,aI,aJ,aK,aL⟩;have a7:=mm1 (Blk.lt hB1) h5.s;refine dE0 z (fs0 (cur':=[vI a5.at_,vI a5.code]) F_ z z ((((((hc.e G).e h2).c h3<|djs<|mm1 hc.lt G.s).e s4).e sb).c a6<|atp a7) z z z z) (.inl z) ?_;rintro _ aM ⟨aN,aO⟩;have a8:=aO.one;refine pD<|Wo ?_
 obtain rfl:=som ae;exact Wr<|c_ hr (s_ a_m F_ z aN z) ⟨(cM (cM (j_ (j_ (cM (j_ (j_ (j_ (j_ (cr [g1] w0) h5:Cg [g1] w0 J) L:Cg [g1] w0 we) G:Cg [g1] w0 I) h2:Cg [g1] w0 wi) h3 (mor hd:∀k∈[I.z],k∈[g1]∨w0.z<=k):Cg [g1] w0 wa) s4:Cg [g1] w0 wl) sb:Cg [g1] w0 aB) a6 (io sr):Cg [g1] w0 aH) a8 (mor h5.s:∀k∈[J.z],k∈[g1]∨w0.z<=k):Cg [g1] w0 aM),z,aI,aJ,aK,aL.c a8<|djs a7⟩
theorem T_w1v (ih:g_A n):m_6 (h_I n<|a_x n):=by
 obtain ⟨aw,_,_,_,_⟩:=ih
 constructor
 intro A0 A6 A2 A3 A1 A4 N0 C0 N6 C6 g1 N2 C2 N3 C3 N1 C1 N4 C4 B x1 x2 x3 res w0 hm hB1 L hBg V O am b2 b3 b4 b5 b6 b7 an ao;unfold h_I at hm
 refine goG func161 z z z λfn hr=>Ws<|E z (fb z) ?_
 rintro _ I ⟨rfl,a1⟩;have h4:=a1.below;refine E z (fa b_J) ?_;rintro _ wj ⟨rfl,a2⟩;have hd:=a2.below;have ha:Blk wj I.z [vI 0,vI 0]:=a2.blk;refine Wn<|Wm z<|Rf z P_ z<|R z (l0 E_ z<|((a1.blk:Blk I w0.z (vR x2 A2 N2 C2 A3 N3 C3 A1 N1 C1 A4 N4 C4)).e hd).at z) ?_
 obtain ⟨_,ax,ap⟩:=bdS hm;have hk:=(h4.ag B).e hd;refine RX z (at_ (α:=Int) x_ z_3 z z z (an.g hk) ax) ?_;rintro _ ⟨_,_,_,rfl,ay,az,_⟩;obtain ⟨rfl,aA⟩:=T_ az;refine R z (l0 g_3 z<|ay.at0 z)<|Rm z ?_
 have hq:=lt_ h4.s hd.s;obtain ⟨rb,_,aB,W⟩:=a_8 ap;refine E z (fc call137 z<|aw.run (B:=B) aB ((hB1.e h4).e hd) (zt' L hq) hBg (V.g hk) (O.g hk) am aA ao) ?_;rintro _ J ⟨s2,rfl,ht,aC,hl,a3⟩;refine E z (fa b_J) ?_;rintro _ wm ⟨rfl,a4⟩;have h5:=a4.below;have hu:Blk wm J.z [vI 0,vI 0]:=a4.blk;refine E0 (fs0 (cur':=[vI rb.at_,vI rb.code]) F_ z z hu z z z z) ?_;rintro _ wr ⟨hh,aD⟩;have h3:=aD.one;refine Wn<|Wq<|Ws<|Rf z d_I z<|R z (l0 g_3 z<|hh.at z)<|R z (nq z z)<|Wx z (λhcs=>?_) (λhcs=>?_)
 .refine Ws<|R z (lN (vs:=[vI rb.at_,vI rb.code]) a_m F_ z z fid<|hh.row 0 2 z) ?_
  have a5:=mm1 (Blk.lt hB1) h4.s;refine E0 (fs0 (cur':=[vI rb.at_,vI rb.code]) F_ z z (((ha.c s2<|atp a5).e h5).c h3<|djs<|mm1 ha.lt s2.s) z z z z) ?_;rintro _ aE ⟨aF,aG⟩;have a6:=aG.one;refine Wn ?_;obtain rfl:=som<|ifT W hcs;have a7:=lt_ hq s2.s;exact Wr<|c_ hr (s_ a_m F_ z aF z) ⟨(cM (cM (j_ (cM (j_ (j_ (cr [g1] w0) h4:Cg [g1] w0 I) hd:Cg [g1] w0 wj) s2 (io sr):Cg [g1] w0 J) h5:Cg [g1] w0 wm) h3 (mor a7:∀k∈[J.z],k∈[g1]∨w0.z<=k):Cg [g1] w0 wr) a6 (mor h4.s:∀k∈[I.z],k∈[g1]∨w0.z<=k):Cg [g1] w0 aE),z,ht,aC,hl,((a3.e h5).c h3<|djs<|mm1 (Blk.lt hB1) a7).c a6<|djs a5⟩
 refine Wk<|Wm z<|Rf z d_j z<|R z (l0 g_3 z<|hh.at z) ?_
 have hi:=lt_ hq s2.s;have hn:=(a3.e h5).c h3<|djs<|mm1 (Blk.lt hB1) hi
 have hv:=((hk.c s2<|e_<|f_ hBg).e h5).c h3<|e_ (or0 (f_ lr) (p_<|zt' L hi):∀k∈[J.z],¬B k)
 have ho:=lt_ (lt_ hi h5.s) h3.s;obtain ⟨re,aH,aq⟩:=bdS<|ifF W hcs;refine E z (fc call157 z<|i_l (B:=w0.z) aH (Y_ ho) (repS.mono (V.g hv) L) (repS.mono (O.g hv) L) hl (hn.row 0 3 z) (Blk.lt hB1) ht<|ii z) ?_;rintro _ wf ⟨s1,rfl,aI,aJ⟩;refine E z (fa b_J) ?_;rintro _ ww ⟨rfl,a8⟩;have h6:=a8.below;refine E0 (fs0 (cur':=[vI re.at_,vI re.code]) F_ z z (a8.blk:Blk ww wf.z [vI 0,vI 0]) z z z z) ?_;rintro _ wp ⟨a9,aK⟩;have H:=aK.one;refine Wn<|Wq<|Wq ?_
 obtain ⟨aL,Y,a0⟩:=bdS aq;refine Wt (λa w=>∃(xx:Bool),xx=aL/\Sat 52 [(6,pt I.z),(7,pt J.z),(8,pt wf.z),(47,vB xx)] a/\Below wp.z wp w) ?_ ?_
 .refine Wd (X:=noX) 0 (pl_ 24 [21]) mo (by kernel_rfl) λb8 sg _=>dR z z (fd d_I z)<|dR z z (l0 g_3 z<|(a9.e sg).at z)<|dR z z (eql z z)<|dM z z z ?_
  rcases bs (re.code==0) with G | G
  .refine dRg z z z G z (mv z)<|dRg z z z G z (J_ z)<|dRg z z z G z (fd e_d z) ?_
   have hy:=lt_ ho s1.s;have aa:=(((hn.e s1).e h6).c H<|djs<|mm1 (Blk.lt hB1) hy).e sg;refine dRg z z z G z (l0 X_ z<|aa.at z)<|dRg z z z G z (fd d_j z) ?_
   have ab:=(((hh.e s1).e h6).c H<|djs<|mm1 hu.lt<|lt_ h3.s s1.s).e sg;refine dRg z z z G z (l0 g_3 z<|ab.at z) ?_;obtain ⟨aM,aN,ar⟩:=bdS<|ifT Y G;have ad:=O.g<|(((hv.e s1).e h6).c H<|e_ (or0 (f_ lr) (p_<|zt' L hy):∀k∈[wf.z],¬B k)).e sg
   refine b_v z z z G z (at_ (α:=UInt8) o_ z_5 z z z ad aN) ?_;rintro _ ⟨_,_,_,rfl,aO,aP,_⟩;obtain rfl:=u8 aP;refine dRg z z z G z (l0 g_5 z<|aO.at0 z)<|dRg z z z G z (c_h d_5 d_3 z)<|dRg z z z G z (mv z)<|dRg z z z G z (J_ z)<|dRg z z z G z (fd e_d z)<|dRg z z z G z (l0 X_ z<|aa.at z)<|dRg z z z G z (mv z)<|dRg z z z G z (fd d_j z)<|dRg z z z G z (l0 g_3 z<|ab.at z) ?_
   obtain ⟨_,aQ,au⟩:=bdS ar;refine b_v z z z G z (rX o_ z_5 z z ad z z aQ) ?_;rintro _ ⟨_,_,_,rfl,aR⟩;obtain ⟨aS,aT,av⟩:=bdS au;refine dEg z z z G z (fc call124 z<|W_w1l aT (zt' L<|lt_ (lt_ (lt_ hy h6.s) H.s) sg.s) aR) (.inr λ_ _ h=>C_<|h.1) ?_;rintro _ _ ⟨aU,rfl,_⟩;exact dRg z z z G z (nq z z)<|dR z z (pT z G z)<|pD (λ_ q=>⟨(byteI aM) != aS,som av,q.k<|s4 z z z z,bup sg aU⟩)
  iterate 17 refine dRn z z z G z ?_
  exact dEn z z z G z<|dRn z z z G z<|dR z z (pF z G z)<|pD (λ_ q=>⟨false,som<|ifF Y G,q.k<|s4 z z z z,sg⟩)
 rintro aV ae ⟨xx,rfl,_,sc⟩;revert aV;refine Wo<|Wc z (λhcz=>?_) (λhcz=>?_)
 .refine Ws<|Rf z d_j z<|R z (l0 g_3 z<|((((hh.e s1).e h6).c H<|djs<|mm1 hu.lt<|lt_ h3.s s1.s).e sc).at z)<|R z (bP (parts:=[(0,.tmp 49),(1,.const<|.int .i64 5)]) (cs:=[vI rb.at_,vI 5]) d_0 z z) ?_
  have af:=mm1 (Blk.lt hB1) h4.s;refine E0 (fs0 (cur':=[vI rb.at_,vI 5]) F_ z z (((((((ha.c s2<|atp af).e h5).c h3<|djs<|mm1 ha.lt s2.s).e s1).e h6).c H<|djs<|mm1 ha.lt<|lt_ (lt_ (lt_ s2.s h5.s) h3.s) s1.s).e sc) z z z z) ?_;rintro _ aW ⟨aX,aY⟩;have ah:=aY.one;refine Wn ?_;obtain rfl:=som<|ifT a0 hcz;have ai:=lt_ ho s1.s;exact Wr<|c_ hr (s_ a_m F_ z aX z) ⟨(cM (j_ (cM (j_ (j_ (cM (j_ (cM (j_ (j_ (cr [g1] w0) h4:Cg [g1] w0 I) hd:Cg [g1] w0 wj) s2 (io sr):Cg [g1] w0 J) h5:Cg [g1] w0 wm) h3 (mor hi:∀k∈[J.z],k∈[g1]∨w0.z<=k):Cg [g1] w0 wr) s1:Cg [g1] w0 wf) h6:Cg [g1] w0 ww) H (mor ai:∀k∈[wf.z],k∈[g1]∨w0.z<=k):Cg [g1] w0 wp) sc:Cg [g1] w0 ae) ah (mor h4.s:∀k∈[I.z],k∈[g1]∨w0.z<=k):Cg [g1] w0 aW),z,ht,ii z,hl,((((hn.e s1).e h6).c H<|djs<|mm1 (Blk.lt hB1) ai).e sc).c ah<|djs af⟩
 refine Wk<|Ws<|R z (lN (vs:=[vI re.at_,vI re.code]) a_m F_ z z fid<|(a9.e sc).row 0 2 z) ?_
 have aj:=mm1 (Blk.lt hB1) h4.s;refine E0 (fs0 (cur':=[vI re.at_,vI re.code]) F_ z z (((((((ha.c s2<|atp aj).e h5).c h3<|djs<|mm1 ha.lt s2.s).e s1).e h6).c H<|djs<|mm1 ha.lt<|lt_ (lt_ (lt_ s2.s h5.s) h3.s) s1.s).e sc) z z z z) ?_;rintro _ aZ ⟨b0,b1⟩;have ak:=b1.one;refine Wn ?_;obtain rfl:=som<|ifF a0 hcz;have al:=lt_ ho s1.s;exact Wr<|c_ hr (s_ a_m F_ z b0 z) ⟨(cM (j_ (cM (j_ (j_ (cM (j_ (cM (j_ (j_ (cr [g1] w0) h4:Cg [g1] w0 I) hd:Cg [g1] w0 wj) s2 (io sr):Cg [g1] w0 J) h5:Cg [g1] w0 wm) h3 (mor hi:∀k∈[J.z],k∈[g1]∨w0.z<=k):Cg [g1] w0 wr) s1:Cg [g1] w0 wf) h6:Cg [g1] w0 ww) H (mor al:∀k∈[wf.z],k∈[g1]∨w0.z<=k):Cg [g1] w0 wp) sc:Cg [g1] w0 ae) ak (mor h4.s:∀k∈[I.z],k∈[g1]∨w0.z<=k):Cg [g1] w0 aZ),z,aI,aJ,hl,((((hn.e s1).e h6).c H<|djs<|mm1 (Blk.lt hB1) al).e sc).c ak<|djs aj⟩
theorem d_L:∀n,g_A n
  | 0=>⟨⟨λhm=>by intros;exact nomatch (show none=some _ from hm)⟩,⟨λhm=>by intros;exact nomatch (show none=some _ from hm)⟩,⟨λhm=>by intros;exact nomatch (show none=some _ from hm)⟩,⟨λhm=>by intros;exact nomatch (show none=some _ from hm)⟩,⟨λhm=>by intros;exact nomatch (show none=some _ from hm)⟩⟩
  | n+1=>⟨T_w03<|d_L n,T_w1s<|d_L n,T_w1t<|d_L n,T_w1u<|d_L n,T_w1v<|d_L n⟩
theorem W_w03:m_2 (a_x n).impl_checker_value:=(d_L n).1
theorem W_w1s:m_3 (a_x n).impl_checker_array:=(d_L n).2.1
theorem W_w1t:m_4 (a_x n).impl_checker_choice:=(d_L n).2.2.1
theorem W_w1u:m_5 (a_x n).impl_checker_option:=(d_L n).2.2.2.1
theorem W_w1v:m_6 (a_x n).impl_checker_checked:=(d_L n).2.2.2.2
def Q30 (w0:World)(B:Zone)(r:Int×Int)(v:Value)(w':World):Prop:=Bw w0 w'/\un2 (λG H=>v = .tuple #[vI G,vI H]/\inI G/\inI H) r
theorem W_w3g {x1:d_}{x2:Int}{x3:Bt}{x4:Int}{res:Int×Int}(hm:g_p n x1 x2 x3 x4=some res)(J:B<=w0.z)(Y:repS w0 B (sl A0 N0 C0) x1.rules)(a0:inI x2)(a1:repS w0 B (sl A7 N7 C7) x3)(a2:inI x4):i_ prog 114 [(.agg #[sl A0 N0 C0]),vI x2,sl A7 N7 C7,vI x4] w0 (Q30 w0 B res):=by
 unfold g_p at hm
 refine goG func114 z z z λfn hr=>Ws<|E z (fb z) ?_
 rintro _ O ⟨rfl,hb⟩;have h3:=hb.below;have hc:Blk O w0.z [sl A0 N0 C0]:=hb.blk;refine Ra z<|Rw z<|Wq<|Wq ?_
 obtain ⟨ur,hus,hmd⟩:=bdS hm;refine Wt (λa w=>∃(V:Bool),V=ur/\Sat 43 [(1,vI x2),(2,sl A7 N7 C7),(3,vI x4),(4,pt w0.z),(30,vB V)] a/\Below O.z O w) ?_ ?_
 .refine Wg<|R z (lN (vs:=[sl A0 N0 C0]) w_ v_ z z fid<|hc.row 0 1 z)<|Rm z ?_
  obtain ⟨rt,eu,hme⟩:=bdS hus;refine E z (fc call37 z<|k_b eu (zt' J h3.s) (Y.e h3) a0) ?_;rintro _ _ ⟨s4,rfl⟩;refine R z (not_ z)<|Rm z ?_
  rcases bs (!rt) with H | H
  .exact Nh z H<|Nh z H<|R z (pT z H z)<|Rm z<|Nh z z<|Nh z z<|Nh z z<|Nh z z<|R z (pT z z z)<|Rm z<|Nh z z<|Nh z z<|Nh z z<|R z (pT z z z)<|Wl (λ_ q=>⟨true,som<|ifT hme H,q.k<|s5 z z z z z,s4⟩)
  have hmf:=ifF hme H;refine Rh z H (mv z)<|Rh z H (lss z z)<|R z (pF z H z)<|Rm z ?_
  rcases bs (decide<|x4<0) with G | G
  .iterate 4 refine Nh z G ?_
   exact R z (pT z G z)<|Rm z<|Nh z z<|Nh z z<|Nh z z<|R z (pT z z z)<|Wl (λ_ q=>⟨true,som<|ifT hmf G,q.k<|s5 z z z z z,s4⟩)
  have hmg:=ifF hmf G;refine Rh z G (mv z)<|Rh z G (mv z) ?_
  have hh:=a1.g<|(h3.ag B).e s4
  refine Rh z G (lnR o_ z hh)<|Rh z G (a_b z z)<|R z (pF z G z)<|Rm z ?_
  rcases bs (decide<|(x3.length:Int)<x4) with I | I
  .iterate 3 refine Nh z I ?_
   exact R z (pT z I z)<|Wl (λ_ q=>⟨true,som<|ifT hmg I,q.k<|s5 z z z z z,s4⟩)
  exact Rh z I (mv z)<|Rh z I (lnR o_ z hh)<|Rh z I (a_b z z)<|R z (pF z I z)<|Wl (λ_ q=>⟨decide<|400<(x3.length:Int),som<|ifF hmg I,q.k<|s5 z z z z z,s4⟩)
 rintro av wi ⟨V,rfl,_,s6⟩;revert av;refine Wo<|Wc z (λL=>?_) (λL=>?_)
 .refine Ws<|Ra z<|Rw z ?_
  obtain rfl:=som<|ifT hmd L;exact Wr<|a_9 hr z z ⟨bup h3 s6,z,ii z,ii z⟩
 refine Wk<|Ws<|R z (lN (vs:=[sl A0 N0 C0]) w_ v_ z z fid<|(hc.e s6).row 0 1 z)<|Rm z<|R z (bP (parts:=[(0,.tmp 31),(1,.tmp 32)]) (cs:=[sl A0 N0 C0,sl A7 N7 C7,vI 0]) t_G z z)<|E z (fb z) ?_
 rintro _ ww ⟨rfl,hj⟩;have W:=hj.below;refine Rw z<|Wm z<|RM z z ?_
 have hk:=((h3.ag B).e s6).e W;have ha:=lt_ h3.s s6.s;have hl:=lt_ ha W.s;obtain ⟨rm,_,ez,a3⟩:=a_8<|ifF hmd L;refine E z (fc call137 z<|W_w03.run (B:=B) ez (hj.blk:Blk ww wi.z [sl A0 N0 C0,sl A7 N7 C7,vI 0]) (zt' J hl) (atp (or0 (f_ lr) (p_<|zt' J ha):∀k∈[wi.z],¬B k)) (Y.g hk) (a1.g hk) (ii z) a0 a2) ?_;rintro _ a4 ⟨sn,rfl,a5,a6,_,_⟩;refine E z (fa b_J) ?_;rintro _ a7 ⟨rfl,ho⟩;refine E0 (fs0 (cur':=[vI rm.at_,vI rm.code]) F_ z z (ho.blk:Blk a7 a4.z [vI 0,vI 0]) z z z z) ?_;rintro _ _ ⟨a8,a9⟩;refine Wn<|Wq (Wd (X:=noX) 0 (pl_ 6 []) mo (by kernel_rfl) λaa sp _=>dR z z (fd d_j z) ?_)
 have hq:=a8.e sp;refine dR z z (l0 g_3 z<|hq.at z)<|dR z z (fd d_I z)<|dR z z (l0 g_3 z<|hq.at z)<|dQ z z z<|dQ z z z<|pD<|Wo ?_
 obtain rfl:=som a3;exact Wr<|a_9 hr z z ⟨bup (bM (bup (bM (bup (bup h3 s6) W) sn<|m1 ha) ho.below) a9.one<|m1<|lt_ hl sn.s) sp,z,a5,a6⟩
theorem m_7 {x1:Int}{res:Str}(hm:f_n x1=some res)(H:B<=w0.z)(hG:Gl w0 B)(G:inI x1):i_ prog 86 [vI x1] w0 (Q11 w0 B res):=by
 unfold f_n at hm
 refine goG func86 z z z λfn hr=>Ws<|Rw z<|Wm z ?_
 obtain ⟨_,J,I⟩:=bdS hm;refine E z (fc call129 z<|t_0 (B:=B) J H hG G) ?_;rintro _ _ ⟨s2,rfl,h3⟩;refine Rw z ?_
 obtain rfl:=som I;exact Wr<|c_ hr z ⟨s2,z,h3⟩
theorem W_w3h {x1:d_}{x2:Int}{x3:Int}{res:Str}(hm:f_o n x1 x2 x3=some res)(J:B<=w0.z)(hG:Gl w0 B)(W:repS w0 B (sl A0 N0 C0) x1.rules)(ae:inI x2)(af:inI x3):i_ prog 115 [(.agg #[sl A0 N0 C0]),vI x2,vI x3] w0 (Q11 w0 B res):=by
 unfold f_o at hm
 refine goG func115 z z z λfn hr=>Ws<|E z (fb z) ?_
 rintro _ wb ⟨rfl,hn⟩;have G:=hn.below;have ho:Blk wb w0.z [sl A0 N0 C0]:=hn.blk;refine Rw z<|Wq<|Wq ?_
 obtain ⟨ak,ah,hmp⟩:=bdS hm;refine Wt (λa w=>∃(xc:Bool),xc=ak/\Sat 58 [(1,vI x2),(2,vI x3),(3,pt w0.z),(15,vB xc)] a/\Below wb.z wb w) ?_ ?_
 .refine Wg<|R z (lN (vs:=[sl A0 N0 C0]) w_ v_ z z fid<|ho.row 0 1 z)<|Rm z ?_
  obtain ⟨al,am,hmq⟩:=bdS ah;refine E z (fc call37 z<|k_b am (zt' J G.s) (W.e G) ae) ?_;rintro _ _ ⟨sr,rfl⟩;refine R z (not_ z)<|Rm z ?_
  rcases bs (!al) with I | I
  .exact Nh z I<|Nh z I<|R z (pT z I z)<|Wl (λ_ q=>⟨true,som<|ifT hmq I,q.k<|s4 z z z z,sr⟩)
  exact Rh z I (mv z)<|Rh z I (lss z z)<|R z (pF z I z)<|Wl (λ_ q=>⟨decide<|x3<0,som<|ifF hmq I,q.k<|s4 z z z z,sr⟩)
 rintro an L ⟨xc,rfl,_,s1⟩;revert an;refine Wo<|Wc z (λhcd=>?_) (λhcd=>?_)
 .refine Ws<|Rw z ?_
  obtain rfl:=som<|ifT hmp hcd;exact Wr<|c_ hr z ⟨bup G s1,z,lb z⟩
 refine Wk<|Ws<|Rf z a_i z<|R z (l0 a_n z<|(ho.e s1).at z)<|Rm z ?_
 obtain ⟨V,ao,hms⟩:=bdS<|ifF hmp hcd;refine RX z (at_ (α:=b_) V_ m_ z z z (W.g<|(G.ag B).e s1) ao) ?_;rintro _ ⟨_,_,_,rfl,ap,aq,_⟩;obtain ⟨au,nt,cv,aw,nx,cy,az,a5,a6,a7,a8,a9,rfl,_,_,_,_,aa,_,_⟩:=a_F aq;refine R z (lN (vs:=vR V au nt cv aw nx cy az a5 a6 a7 a8 a9) H_ m_ z z fid ap)<|E z (fa b_S) ?_
 rintro _ ar ⟨rfl,ab⟩;have h2:=ab.below;refine E0 (fs0 (cur':=vR V au nt cv aw nx cy az a5 a6 a7 a8 a9) m_ z z (ab.blk:Blk ar L.z [(Str.v (⟨[]⟩:Str)),vI 0,vI 0,vB false,sN,sN,sN,sN]) z z z z) ?_;rintro _ wa ⟨O,av⟩;have h3:=av.one;refine Wn<|Wq<|Wb<|Ws<|Rf z a_o z<|R z (l0 g_3 z<|O.at z)<|Rq z z z<|Rw z<|Wc z (λhce=>?_) (λhce=>?_)
 .refine Wm z ?_
  have hf:=lt_ G.s s1.s;obtain ⟨_,ax,ai⟩:=bdS<|ifT hms hce;refine E z (fc call86 z<|m_7 ax (zt' J<|lt_ (lt_ hf h2.s) h3.s) ((((hG.e G).e s1).e h2).c h3<|e_ (or0 (f_ lr) (p_<|zt' J hf):∀k∈[L.z],¬B k)) af) ?_;rintro _ _ ⟨ay,rfl,aA⟩;refine Rw z ?_
  obtain rfl:=som ai;exact Wr<|rtO<|c_ hr z ⟨bup (bM (bup (bup G s1) h2) h3<|m1 hf) ay,z,aA⟩
 refine Wq ?_;obtain ⟨aB,Y,a0⟩:=bdS<|ifF hms hce;refine Wt (λa w=>∃(xg:Bool),xg=aB/\Sat 58 [(2,vI x3),(7,pt L.z),(27,vB xg)] a/\Below wa.z wa w) ?_ ?_
 .refine Wg<|Rf z a_o z<|R z (l0 g_3 z<|O.at z)<|Rq z z z<|Rm z ?_
  rcases bs (V.kind==6) with H | H
  .refine Rh z H (mv z)<|Rh z H (fd b_R z)<|Rh z H (l0 a_t z<|O.at z) ?_
   exact Rh z H (lnR D_ z<|aa.g<|(h2.ag B).c h3<|e_ (or0 (f_ lr) (p_<|zt' J<|lt_ G.s s1.s):∀k∈[L.z],¬B k))<|Rh z H (lss z z)<|R z (pT z H z)<|Ra z<|Wl (λ_ q=>⟨decide<|x3<(V.names.length:Int),som<|ifT Y H,q.k<|s3 z z z,br wa⟩)
  iterate 5 refine Nh z H ?_
  exact R z (pF z H z)<|Ra z<|Wl (λ_ q=>⟨false,som<|ifF Y H,q.k<|s3 z z z,br wa⟩)
 rintro aC _ ⟨xg,rfl,_,s6⟩;revert aC;refine Wo<|Wc z (λhch=>?_) (λhch=>?_)
 .refine Ws<|Rf z b_R z<|R z (l0 a_t z<|(O.e s6).at z)<|Rm z ?_
  obtain ⟨_,aD,aj⟩:=bdS<|ifT a0 hch;have ad:=lt_ G.s s1.s;refine RX z (at_ (α:=Str) D_ z_9 z z z (aa.g<|((h2.ag B).c h3<|e_ (or0 (f_ lr) (p_<|zt' J ad):∀k∈[L.z],¬B k)).e s6) aD) ?_;rintro _ ⟨_,_,_,rfl,aE,aF,_⟩;obtain ⟨rfl,aG⟩:=a_h aF;refine R z (l0 g_9 z<|aE.at0 z)<|Rw z ?_
  obtain rfl:=som aj;exact Wr<|rtO<|c_ hr z ⟨bup (bM (bup (bup G s1) h2) h3<|m1 ad) s6,z,aG⟩
 have a1:=ifF a0 hch;refine Wm z<|R z (a_b z z)<|Rw z<|Wc z (λhci=>?_) (λhci=>?_)
 .refine Ws<|Rw z ?_
  obtain rfl:=som<|ifT a1 hci;exact Wr<|rtO<|c_ hr z ⟨bup (bM (bup (bup G s1) h2) h3<|m1<|lt_ G.s s1.s) s6,z,lb z⟩
 have a2:=ifF a1 hci;refine Ws<|Rf z a_o z ?_
 have hj:=O.e s6;refine R z (l0 g_3 z<|hj.at z)<|Rq z z z<|Rw z<|Wc z (λhck=>?_) (λhck=>?_)
 .refine Ws<|Rw z ?_
  obtain rfl:=som<|ifT a2 hck;exact Wr<|rtO<|c_ hr z ⟨bup (bM (bup (bup G s1) h2) h3<|m1<|lt_ G.s s1.s) s6,z,lb z⟩
 have a3:=ifF a2 hck;refine Ws<|Rf z a_o z<|R z (l0 g_3 z<|hj.at z)<|Rq z z z<|Rw z<|Wc z (λhcl=>?_) (λhcl=>?_)
 .refine Ws<|Rw z ?_
  obtain rfl:=som<|ifT a3 hcl;exact Wr<|rtO<|c_ hr z ⟨bup (bM (bup (bup G s1) h2) h3<|m1<|lt_ G.s s1.s) s6,z,lb z⟩
 have a4:=ifF a3 hcl;refine Ws<|Rf z a_o z<|R z (l0 g_3 z<|hj.at z)<|Rq z z z<|Rw z<|Wc z (λhcm=>?_) (λhcm=>?_)
 .refine Ws<|Rw z ?_
  obtain rfl:=som<|ifT a4 hcm;exact Wr<|rtO<|c_ hr z ⟨bup (bM (bup (bup G s1) h2) h3<|m1<|lt_ G.s s1.s) s6,z,lb z⟩
 refine Wk<|Ws<|Rw z ?_
 obtain rfl:=som<|ifF a4 hcm;exact Wr<|c_ hr z ⟨bup (bM (bup (bup G s1) h2) h3<|m1<|lt_ G.s s1.s) s6,z,lb z⟩
theorem m_8 {x1:d_}{x2:Int}{x3:Val}{b3 o3:Nat}{x4:Int}{res:Int}(hm:e_b x1 x2 x3 x4=some res)(aU:B<=w0.z)(O:repS w0 B (sl A0 N0 C0) x1.rules)(aP:inI x2)(aQ:inI x3.number)(aR:repS w0 B (sl A8 N8 C8) x3.bytes)(aS:repS w0 B (sl A9 N9 C9) x3.items)(hC3:L_ w0 b3 o3 [vI x3.number,sl A8 N8 C8,sl A9 N9 C9])(hC3b:B b3)(aT:inI x4):i_ prog 84 [(.agg #[sl A0 N0 C0]),vI x2,.pointer<|some ⟨b3,o3,none⟩,vI x4] w0 (Q0 w0 B res):=by
 unfold e_b at hm
 refine goG func84 z z z λfn hr=>Ws<|E z (fb z) ?_
 rintro _ G ⟨rfl,hj⟩;have H:=hj.below;refine Rw z<|Ws<|Rf z a_i z<|R z (l0 a_n z<|(hj.blk:Blk G w0.z [sl A0 N0 C0]).at z)<|Rm z ?_
 obtain ⟨L,ew,hmk⟩:=bdS hm;refine RX z (at_ (α:=b_) V_ m_ z z z (O.e H) ew) ?_;rintro _ ⟨bl,om,_,rfl,h2,hx,_⟩;obtain ⟨_,_,_,_,_,_,ay,nz,ah,_,_,_,rfl,_,_,_,_,_,h5,h4⟩:=a_F hx;refine Rw z<|Wq<|Wm z<|R z (J_ z)<|Rf z a_o z<|R z (l0 g_3 z<|h2.at (j:=1) z)<|Wn<|Wb<|Ws<|Rq z z z<|Rw z<|Wc z (λJ=>?_) (λJ=>?_)
 .refine Wm z<|R z (J_ z)<|Rf z P_ z<|R z (l0 E_ z<|h2.at (j:=7) z) ?_
  obtain ⟨_,ai,V⟩:=bdS<|ifT hmk J;refine RX z (at_ (α:=Int) x_ z_3 z z z h4 ai) ?_;rintro _ ⟨_,_,_,rfl,aj,ak,_⟩;obtain ⟨rfl,al⟩:=T_ ak;refine R z (l0 g_3 z<|aj.at0 z)<|Rw z ?_
  obtain rfl:=som V;exact Wr<|rtO<|c_ hr z ⟨H,z,al⟩
 refine Ws<|Rq z z z<|Rw z ?_
 obtain ⟨am,hun,I⟩:=bdS<|ifF hmk J;refine Wt (λa w=>Sum.inl ()=am/\Sat 80 [] a/\Below G.z G w) ?_ ?_
 .refine Wc z (λhca=>?_)<|λhca=>?_
  .have hmo:=ifT hun hca;refine Wm z<|Rm z<|R z (J_ z)<|Rf z P_ z<|R z (l0 E_ z<|h2.at (j:=7) z)<|R z (lnR x_ z h4)<|Rl z z z<|Wx z (λhcb=>?_) (λhcb=>?_)
   .refine Wm z<|R z (J_ z)<|Rf z P_ z<|R z (l0 E_ z<|h2.at (j:=7) z)<|Rm z ?_
    obtain ⟨_,an,W⟩:=bdS<|ifT hmo hcb;refine RX z (at_ (α:=Int) x_ z_3 z z z h4 an) ?_;rintro _ ⟨_,_,_,rfl,ao,ap,_⟩;obtain ⟨rfl,aq⟩:=T_ ap;refine R z (l0 g_3 z<|ao.at0 z)<|Rw z ?_
    obtain rfl:=som W;have Y:=elR I;obtain rfl:=som Y;exact Wr<|rtO<|c_ hr z ⟨H,z,aq⟩
   exact a_5<|λ_ q=>⟨som<|ifF hmo hcb,q.k sn,br G⟩
  refine Ws<|Rq z z z<|Rw z ?_
  obtain ⟨ar,hup,hmc⟩:=bdS<|ifF hun hca;refine Wt (λa w=>Sum.inl ()=ar/\Sat 80 [] a/\Below G.z G w) ?_ ?_
  .refine Wc z (λhcd=>?_)<|λhcd=>?_
   .refine Wm z<|R z (J_ z)<|Rf z b_g z<|R z (l0 E_ z<|h2.at (j:=6) z)<|R z (lnR x_ z h5)<|Rm z<|Wn ?_
    obtain ⟨_,a0,hmq⟩:=bdS<|ifT hup hcd;refine Wf (σ:=Unit) (ρ:=Int) (λ(kr:Nat)(_:Unit) a w=>Sat 80 [(2,.pointer<|some ⟨b3,o3,none⟩),(9,.pointer<|some ⟨bl,om,none⟩),(49,sl ay nz ah),(50,vI (L.tags.length:Int)),(51,vI ((kr:Nat):Int))] a/\Below G.z G w) (λ(_:Unit) a w=>Sat 80 [] a/\Below G.z G w) (rQ prog fn<|Q0 w0 B) a0 ?_ ?_ ?_ ?_ ?_
    .exact λ_ q=>⟨q.k<|s5 z z z z z,br G⟩
    .rintro kr _ _ _ _ hke ⟨a1,s3⟩ a2;refine Wu ?_ a1;refine Ws<|Rl z z z<|Wn<|Wq<|Wc z (λ_=>?_) (λhc=>(Q_ hke hc).elim)
     refine Wk<|Wq<|Wb<|Wm z ?_
     obtain ⟨_,au,hms⟩:=bdS a2;refine RX z (at_ (α:=Int) x_ z_3 z z z (h5.e s3) au) ?_;rintro _ ⟨_,_,_,rfl,av,aw,_⟩;obtain ⟨rfl,_⟩:=T_ aw;refine R z (l0 g_3 z<|av.at0 z)<|Ra z<|Rw z<|Wm z<|Rm z<|R z (J_ z)<|Rf z b_u z<|R z (l0 g_3 z<|((hC3.e H).e s3).at (j:=0) z)<|Rq z z z<|Wx z (λhcf=>?_) (λhcf=>?_)
     .refine Wm z<|R z (J_ z)<|Rf z P_ z<|R z (l0 E_ z<|(h2.e s3).at (j:=7) z)<|Rm z<|R z (inc_ hke (lt_ (repS.len h5) B_) z z) ?_
      obtain ⟨_,ax,a3⟩:=bdS<|ifT hms hcf;refine RX z (at_ (α:=Int) x_ z_3 z z z (h4.e s3) ax) ?_;rintro _ ⟨_,_,_,rfl,az,aA,_⟩;obtain ⟨rfl,aB⟩:=T_ aA;exact R z (l0 g_3 z<|az.at0 z)<|Rw z<|Wr<|rtO<|qL (som a3).symm<|c_ hr z ⟨bup H s3,z,aB⟩
     exact Wk<|Wg<|R z (inc_ hke (lt_ (repS.len h5) B_) z z)<|Rm z<|Wl (λ_ q=>⟨(),(som<|ifF hms hcf).symm,⟨q.k<|s5 z z z z z,s3⟩⟩)
    .rintro _ _ _ ⟨a4,aC⟩;refine Wu ?_ a4;refine Ws<|Rl z z z<|Wn<|Wq<|Wc z (λhc=>(R_ hc).elim) (λ_=>?_)
     exact We<|λ_ q=>⟨rfl,⟨q.k sn,aC⟩⟩
    .rintro _ aD _ rfl ⟨_,aE⟩;have a5:=elL hmq;revert aD;exact λ_ q=>⟨som a5,q.k sn,aE⟩
    rintro _ _ _ _ rfl ⟨rfl,a6⟩;have a7:=elR hmq;obtain rfl:=som a7;have a8:=elR hmc;obtain rfl:=som a8;have a9:=elR I;obtain rfl:=som a9;exact ⟨a6,z⟩
   refine Wq<|Ws<|Rq z z z<|Rw z ?_
   obtain ⟨aF,hut,hmu⟩:=bdS<|ifF hup hcd;refine Wt (λa w=>∃(xg:Bool),xg=aF/\Sat 80 [(9,.pointer<|some ⟨bl,om,none⟩),(71,vB xg)] a/\Below G.z G w) ?_ ?_
   .refine Wc z (λhch=>?_)<|λhch=>?_
    .exact a_5<|λ_ q=>⟨L.kind==8,som<|ifT hut hch,q.k<|s2 z z,br G⟩
    exact Wg<|Rq z z z<|Ra z<|Wl (λ_ q=>⟨L.kind==9,som<|ifF hut hch,q.k<|s2 z z,br G⟩)
   rintro aG _ ⟨xg,rfl,_,s7⟩;revert aG;refine Wo<|Wc z (λhci=>?_) (λhci=>?_)
   .refine Wm z<|R z (J_ z)<|Rf z P_ z<|R z (l0 E_ z<|(h2.e s7).at (j:=7) z) ?_
    obtain ⟨_,aH,aa⟩:=bdS<|ifT hmu hci;refine RX z (at_ (α:=Int) x_ z_3 z z z (h4.e s7) aH) ?_;rintro _ ⟨_,_,_,rfl,aI,aJ,_⟩;obtain ⟨rfl,aK⟩:=T_ aJ;refine R z (l0 g_3 z<|aI.at0 z)<|Rw z ?_
    obtain rfl:=som aa;have ab:=elR hmc;obtain rfl:=som ab;have ad:=elR I;obtain rfl:=som ad;exact Wr<|rtO<|c_ hr z ⟨bup H s7,z,aK⟩
   exact a_5<|λ_ q=>⟨som<|ifF hmu hci,q.k sn,s7⟩
  rintro aL _ ⟨rfl,_,aM⟩;have ae:=elL hmc;revert aL;exact λ_ q=>⟨som ae,q.k sn,aM⟩
 rintro aN _ ⟨rfl,_,aO⟩;have af:=elL I;revert aN;refine Wo<|Ws<|Rw z ?_
 obtain rfl:=som af;exact Wr<|c_ hr z ⟨bup H aO,z,ii z⟩
def Q31 (w0:World)(g1:Nat)(B:Zone)(A0:Option Addr)(N0 C0:Nat)(A6:Option Addr)(N6 C6:Nat)(AG:Option Addr)(NG CG:Nat)(S1_2:List Nat)(x1:d_p)(r:Int×(List k_))(v:Value)(w':World):Prop:=Chg (· ∈ ([g1]++S1_2)) w0 w'/\un2 (λG L=>∃H I J S1,(vI G)=v/\inI G/\a_ w' S1 (sl H I J) L/\S1.Nodup/\(∀k∈S1,k∈S1_2∨w0.z<=k)/\Blk w' g1 [sl A0 N0 C0,sl A6 N6 C6,sl H I J]) r
structure m_9 (f:d_p->Str->Int->Val->Int->Option (Int×(List k_))):Prop where
  run:∀{A0 A6 AG AI AJ:Option Addr}{N0 C0 N6 C6 NG CG g1 NI CI NJ CJ b4 o4:Nat}{S1_2:List Nat}{B:Zone}{x1:d_p}{x2:Str}{x3:Int}{x4:Val}{x5:Int}{res:Int×(List k_)}{w0:World}(hm:f x1 x2 x3 x4 x5=some res)(hB1:Blk w0 g1 [sl A0 N0 C0,sl A6 N6 C6,sl AG NG CG])(hBw:B<=w0.z)(hBg:¬B g1)(hG:Gl w0 B)(p1_0:repS w0 B (sl A0 N0 C0) x1.d.rules)(p1_1:repS w0 B (sl A6 N6 C6) x1.b)(p1_2:a_ w0 S1_2 (sl AG NG CG) x1.list_)(p1_2n:S1_2.Nodup)(p1_2g:∀k∈S1_2,¬B k)(p1_2d:∀k∈S1_2,k∉[g1])(p2_0:x2.b.length<=LEN)(p3_0:inI x3)(p4_0:inI x4.number)(p4_1:repS w0 B (sl AI NI CI) x4.bytes)(p4_2:repS w0 B (sl AJ NJ CJ) x4.items)(hC4:L_ w0 b4 o4 [vI x4.number,sl AI NI CI,sl AJ NJ CJ])(hC4b:B b4)(p5_0:inI x5),i_ prog 61 [pt g1,Str.v x2,vI x3,.pointer<|some ⟨b4,o4,none⟩,vI x5] w0<|Q31 w0 g1 B A0 N0 C0 A6 N6 C6 AG NG CG S1_2 x1 res
abbrev p_h (n:Nat):Prop:=m_9 (e_U n).impl_indexer_part
theorem T_w0e (bD:p_h n):m_9 (h_Y n<|e_U n):=by
 constructor
 intro A0 A6 AG AI AJ N0 C0 N6 C6 NG CG g1 NI CI NJ CJ b4 o4 S1_2 B x1 x2 x3 x4 x5 res w0 hm hB1 O hBg hG V an ao p1_2n p1_2g p1_2d ap Y ba bb W hC4 hC4b a0;unfold h_Y at hm
 refine goG func61 z z z λfn hr=>Ws<|Rw z<|Wm z<|R z (J_ z)<|Rf z i_d z<|R z (l0 g_42 z<|hB1.at z)<|R z (lnR c_v z<|a_.rep ao)<|Rw z<|Wm z<|Rm z<|R z (J_ z)<|Rf z i_d z<|R z (l0 g_42 z<|hB1.at z)<|RM z z<|Rm z<|R z (bP (parts:=[(0,.tmp 27),(1,.tmp 28),(2,.tmp 29)]) (cs:=[Str.v x2,vI x3,vI x5,vI 0]) g_x z z)<|E z (fS [(.tmp 30)] c_K z z z (b_l z) (lb z)<|lb z) ?_
 rintro _ aw ⟨rfl,a9⟩;have h3:=a9.below;have cP:=b_U a9<|e_k (x:=(⟨x2,x3,x5,0⟩:k_)) ap Y a0<|ii z
 obtain ⟨_,bE,bc⟩:=bdS hm;refine E z (b_W (α:=k_) c_K bE z z (ao.e h3) p1_2n (a9.blk:Blk aw w0.z [Str.v x2,vI x3,vI x5,vI 0]) (e_k (x:=(⟨x2,x3,x5,0⟩:k_)) ap Y a0<|ii z) an_ U_) ?_;rintro _ bF ⟨G,ax,ay,az,rfl,sk,aA,bG,hl⟩;refine R z (J_ z)<|Rf z i_d z<|E0 (fs0 (cur':=[sl A0 N0 C0,sl A6 N6 C6,sl ax ay az]) z_42 z z ((hB1.e h3).c sk<|djs p1_2d) z z z z) ?_
 rintro _ bH ⟨bI,bJ⟩;have hi:=bJ.one;refine Wn<|Wq (Wd (X:=noX) 0 (pl_ 16 [10]) mo (by kernel_rfl) λbK sf _=>dM z z z<|dR z z (J_ z)<|dR z z (fd i_c z) ?_)
 have aa:=bI.e sf;refine dR z z (lN (vs:=[sl A0 N0 C0]) w_ v_ z z fid<|aa.row 0 1 z)<|dM z z z<|dM z z z<|dR z z (J_ z)<|dR z z (fd t_J z)<|dR z z (l0 X_ z<|aa.at z)<|dM z z z ?_
 have ab:=(((h3.ag B).c sk<|e_ p1_2g).c hi<|e_<|f_ hBg).e sf;have ad:=lt_ (lt_ (lt_ h3.s sk.s) hi.s) sf.s;obtain ⟨rm,_,bL,be⟩:=a_8 bc;refine dE z z (fc call114 z<|W_w3g (B:=B) (x1:=(⟨x1.d.rules⟩:d_)) bL (zt' O ad) (V.g ab) Y (an.g ab) a0) (.inr λ_ _ h=>C_<|h.1) ?_;rintro _ wn ⟨sd,rfl,aB,_⟩;refine dM z z z<|dR z z (ext_ z z)<|dR z z (ext_ z z)<|dQ z z z<|dQ z z z<|pD<|Wo<|Wm z<|Rw z<|Wq<|Wm z<|R z (J_ z)<|Rf z i_c z<|Rf z a_i z ?_
 have ae:=aa.e sd;refine R z (l0 a_n z<|ae.at z)<|Rm z ?_
 obtain ⟨xr,bM,bf⟩:=bdS be;have af:=ab.e sd;refine RX z (at_ (α:=b_) V_ m_ z z z (V.g af) bM) ?_;rintro _ ⟨_,_,_,rfl,bN,bO,_⟩;obtain ⟨aC,aD,aE,aF,aG,aH,aI,aJ,aK,aL,aM,aN,rfl,_,_,_,_,_,_,bQ⟩:=a_F bO;refine R z (lN (vs:=vR xr aC aD aE aF aG aH aI aJ aK aL aM aN) H_ m_ z z fid bN)<|E z (fa b_S) ?_
 rintro _ aO ⟨rfl,aP⟩;have h5:=aP.below;refine E0 (fs0 (cur':=vR xr aC aD aE aF aG aH aI aJ aK aL aM aN) m_ z z (aP.blk:Blk aO wn.z [(Str.v (⟨[]⟩:Str)),vI 0,vI 0,vB false,sN,sN,sN,sN]) z z z z) ?_;rintro _ ws ⟨aQ,bR⟩;have h6:=bR.one;refine Wn<|Ws<|Rf z a_o z<|R z (l0 g_3 z<|aQ.at z)<|Wn<|Wb<|Wq<|Ws<|Rq z z z<|Rw z ?_
 obtain ⟨bS,aq,bg⟩:=bdS bf;refine Wt (λa w=>∃(ah:Bool),ah=bS/\Sat 126 [(0,pt g1),(1,Str.v x2),(2,vI x3),(3,.pointer<|some ⟨b4,o4,none⟩),(11,vI (x1.list_.length:Int)),(12,vI rm),(14,vI x5),(15,pt wn.z),(59,vI xr.kind),(60,vB ah)] a/\Below ws.z ws w) ?_ ?_
 .refine Wc z (λa5=>?_)<|λa5=>?_
  .exact a_5<|λ_ q=>⟨xr.kind==5,som<|ifT aq a5,q.k<|sc z<|sc z<|sc z<|sc z<|sc z<|sc z<|sc z<|sc z<|sc z<|sc z sn,br ws⟩
  exact Wg<|Rq z z z<|Ra z<|Wl (λ_ q=>⟨xr.kind==7,som<|ifF aq a5,q.k<|sc z<|sc z<|sc z<|sc z<|sc z<|sc z<|sc z<|sc z<|sc z<|sc z sn,br ws⟩)
 rintro bT wc ⟨ah,rfl,_,s4⟩;revert bT;refine Wo ?_;obtain ⟨bU,ar,bh⟩:=bdS bg;refine Wt (λa w=>∃(xy:Int),xy=bU/\Sat 126 [(0,pt g1),(1,Str.v x2),(2,vI x3),(3,.pointer<|some ⟨b4,o4,none⟩),(11,vI (x1.list_.length:Int)),(12,vI rm),(14,vI xy)] a/\Below wc.z wc w/\inI xy) ?_ ?_
 .refine Wc z (λa6=>?_)<|λa6=>?_
  .refine Wd (X:=noX) 0 (pl_ 15 []) mo (by kernel_rfl) λcQ su _=>dM z z z<|dM z z z<|dR z z (J_ z)<|dR z z (fd i_c z)<|dR z z (fd a_i z) ?_
   have aR:=lt_ ad sd.s;refine dR z z (l0 a_n z<|((((ae.e h5).c h6<|djs<|mm1 (Blk.lt hB1) aR).e s4).e su).at z)<|dR z z (fd P_ z)<|dR z z (l0 E_ z<|((aQ.e s4).e su).at z) ?_
   obtain ⟨_,bV,bi⟩:=bdS<|ifT ar a6;have aS:∀k∈[wn.z],¬B k:=or0 (f_ lr)<|p_<|zt' O aR;refine dRX z z (at_ (α:=Int) x_ z_3 z z z (bQ.g<|(((h5.ag B).c h6<|e_ aS).e s4).e su) bV) ?_;rintro _ ⟨_,_,_,rfl,bW,bX,_⟩;obtain ⟨rfl,_⟩:=T_ bX;refine dR z z (l0 g_3 z<|bW.at0 z) ?_;obtain ⟨bY,bZ,bj⟩:=bdS bi;refine dRX z z (at_ (α:=b_) V_ m_ z z z (V.g<|(((af.e h5).c h6<|e_ aS).e s4).e su) bZ) ?_;rintro _ ⟨_,_,_,rfl,c0,c1,_⟩;obtain ⟨_,_,_,_,_,_,_,_,_,_,_,_,rfl,_,_,_,_,_,_,_⟩:=a_F c1;exact dR z z (fd a_H z)<|dR z z (l0 g_3 z<|c0.at (j:=2) z)<|dR z z (add_ z z)<|dQ z z z<|pD (λ_ q=>⟨g_ x5 bY.size,som bj,q.k<|s7 z z z z z z z,su,iA _ _⟩)
  refine Ws<|Rq z z z<|Rw z ?_
  obtain ⟨c2,au,bk⟩:=bdS<|ifF ar a6;refine Wt (λa w=>∃(xv:Int),xv=c2/\Sat 126 [(0,pt g1),(1,Str.v x2),(2,vI x3),(3,.pointer<|some ⟨b4,o4,none⟩),(11,vI (x1.list_.length:Int)),(12,vI rm),(14,vI xv)] a/\Below wc.z wc w/\inI xv) ?_ ?_
  .refine Wc z (λa8=>?_)<|λa8=>?_
   .exact Wg<|Rm z<|R z (add_ z z)<|Ra z<|Wl (λ_ q=>⟨g_ x5 1,som<|ifT au a8,q.k<|s7 z z z z z z z,br wc,iA _ _⟩)
   exact a_5<|λ_ q=>⟨x5,som<|ifF au a8,q.k<|s7 z z z z z z z,br wc,a0⟩
  rintro c3 _ ⟨xv,rfl,_,c4,c5⟩;revert c3;exact λ_ q=>⟨xv,som bk,q.k<|s7 z z z z z z z,c4,c5⟩
 rintro c6 H ⟨xy,rfl,_,sg,c7⟩;revert c6;refine Wo<|Wq<|Wm z<|R z (J_ z)<|Rf z a_y z ?_
 have hw:=lt_ ad sd.s;have ai:∀k∈[wn.z],¬B k:=or0 (f_ lr)<|p_<|zt' O hw;have aT:=((((((((hC4.e h3).c sk<|(e_ p1_2g) _ hC4b).c hi<|(e_<|f_ hBg) _ hC4b).e sf).e sd).e h5).c h6<|(e_ ai) _ hC4b).e s4).e sg;refine R z (l0 a_E z<|aT.at (j:=2) z) ?_;have aU:=(((af.e h5).c h6<|e_ ai).e s4).e sg;refine R z (lnR a_N z<|W.g aU)<|Rm z<|Wn ?_
 obtain ⟨_,bm,av⟩:=bdS bh;refine Wf (σ:=Int×(List k_)) (ρ:=Int×(List k_)) (λ(aV:Nat) s a w=>un2 (λxj xo=>∃I J L S1,Sat 126 [(0,pt g1),(1,Str.v x2),(2,vI x3),(3,.pointer<|some ⟨b4,o4,none⟩),(11,vI (x1.list_.length:Int)),(12,vI rm),(14,vI xj),(85,vI (x4.items.length:Int)),(86,vI ((aV:Nat):Int))] a/\Chg (· ∈ ([g1]++G)) H w/\inI xj/\a_ w S1 (sl I J L) xo/\S1.Nodup/\(∀k∈S1,k∈G∨H.z<=k)/\Blk w g1 [sl A0 N0 C0,sl A6 N6 C6,sl I J L]) s) (λs a w=>un2 (λxj xo=>∃I J L S1,Sat 126 [(0,pt g1),(11,vI (x1.list_.length:Int)),(12,vI rm)] a/\Chg (· ∈ ([g1]++G)) H w/\inI xj/\a_ w S1 (sl I J L) xo/\S1.Nodup/\(∀k∈S1,k∈G∨H.z<=k)/\Blk w g1 [sl A0 N0 C0,sl A6 N6 C6,sl I J L]) s) (rQ prog fn<|Q31 w0 g1 B A0 N0 C0 A6 N6 C6 AG NG CG S1_2 x1) bm ?_ ?_ ?_ ?_ ?_
 .have c8:∀k∈G,k∉[g1]:=or2 hl p1_2d an_<|a_T (f_<|Blk.lt hB1) h3.s;exact λ_ q=>⟨ax,ay,az,G,q.k<|s9 z z z z z z z z z,cr ([g1]++G) H,c7,((((((aA.c hi c8).e sf).e sd).e h5).c h6<|ds<|mno (a_.lt aA)<|lt_ (lt_ hi.s sf.s) sd.s).e s4).e sg,bG,io sr,(((ae.e h5).c h6<|djs<|mm1 (Blk.lt hB1) hw).e s4).e sg⟩
 .rintro aV ⟨xj,xo⟩ _ ca _ hkz ⟨I,J,L,S1,bn,sp,a1,hq,hx,ha,ht⟩ bo;refine Wu ?_ bn;refine Ws<|Rl z z z<|Wn<|Wq<|Wc z (λ_=>?_) (λhc=>(Q_ hkz hc).elim)
  refine Wk<|Wq<|Wb<|Wm z<|Ra z<|Wn (Wd (X:=noX) 67108864 (.rd 0<|.rd 1<|.rd 2<|.rd 3<|.rd 4<|.rd 5<|.rd 6<|.rd 7<|.rd 8<|.rd 11<|.rd 12<|.rd 13<|.rd 14<|.rd 15<|.rd 16<|.rd 17<|.rd 19<|.rd 20<|.rd 21<|.rd 22<|.rd 23<|.rd 24<|.rd 25<|.ef 9<|.rd 10<|.ef 18<|.ef 26<|.rd 27 .done) mo (by kernel_rfl) λcb sh _=>dM z z z<|dM z z z ?_)
  obtain ⟨_,cc,bp⟩:=bdS<|a_P bo;refine dR z z (a_q z z cc)<|dM z z z<|dR z z (J_ z)<|dR z z (fd i_c z) ?_
  have aj:=ht.e sh;refine dR z z (lN (vs:=[sl A0 N0 C0]) w_ v_ z z fid<|aj.row 0 1 z) ?_
  iterate 3 refine dM z z z ?_
  refine dR z z (J_ z)<|dR z z (fd i_c z)<|dR z z (lN (vs:=[sl A0 N0 C0]) w_ v_ z z fid<|aj.row 0 1 z) ?_
  iterate 4 refine dM z z z ?_
  refine dR z z (J_ z)<|dR z z (fd a_y z) ?_
  have a2:∀k∈G,¬B k:=or2 hl p1_2g an_<|p_<|zt' O h3.s;have aW:=(aT.c sp<|(nmA (e_<|f_ hBg)<|e_ a2) _ hC4b).e sh;refine dR z z (l0 a_E z<|aW.at (j:=2) z)<|dM z z z ?_
  obtain ⟨_,cd,bq⟩:=bdS bp;have ak:=(aU.c sp<|nmA (e_<|f_ hBg)<|e_ a2).e sh;refine dRX z z (at_ (α:=Val) a_N h_ z z z (W.g ak) cd) ?_;rintro _ ⟨_,_,_,rfl,ce,cf,cg⟩;obtain ⟨_,_,_,_,_,_,rfl,ch,ci,cj⟩:=i_b cf;refine dM z z z ?_;have aX:=((((((((((hG.e h3).c sk<|e_ p1_2g).c hi<|e_<|f_ hBg).e sf).e sd).e h5).c h6<|e_ ai).e s4).e sg).c sp<|nmA (e_<|f_ hBg)<|e_ a2).e sh;have al:=lt_ (lt_ (lt_ (lt_ hw h5.s) h6.s) s4.s) sg.s;have aY:=lt_ (lt_ al sp.s) sh.s;obtain ⟨_,ck,bs⟩:=bdS bq;refine dE z z (fc call115 z<|W_w3h (B:=B) (x1:=(⟨x1.d.rules⟩:d_)) ck (zt' O aY) aX (V.g ak) Y<|ic (Nat.le_of_lt hkz)<|lt_ (repS.len W) B_) (.inr λ_ _ h=>C_<|h.1) ?_;rintro _ cl ⟨sb,rfl,_⟩;obtain ⟨_,aZ,bt⟩:=bdS bs;refine dR z z (a_q z z aZ) ?_;have a3:=ak.e sb;have b0:=lt_ aY sb.s;obtain ⟨_,cm,bu⟩:=bdS bt;refine dE z z (fc call84 z<|m_8 (B:=B) (x1:=(⟨x1.d.rules⟩:d_)) cm (zt' O b0) (V.g a3) Y ba (bb.g a3) (W.g a3) (aW.e sb) hC4b<|ic (Nat.le_of_lt hkz)<|lt_ (repS.len W) B_) (.inr λ_ _ h=>C_<|h.1) ?_;rintro _ cn ⟨se,rfl,co⟩;have b1:=a3.e se;have b2:=(sb.ag B).e se;obtain ⟨cp,cq,ct,bv⟩:=a_8 bu;refine dE z z (fc call61 z<|bD.run (B:=B) ct ((aj.e sb).e se) (zt' O<|lt_ b0 se.s) hBg ((aX.e sb).e se) (V.g b1) (an.g b1) (((hq.e sh).e sb).e se) hx (or1 ha a2 (p_<|zt' O al):∀k∈S1,¬B k) (or1 ha (or2 hl p1_2d an_ (a_T (f_<|Blk.lt hB1) h3.s):∀k∈G,k∉[g1]) (a_T (f_<|Blk.lt hB1) al):∀k∈S1,k∉[g1]) (b_2 aZ) co ch (ci.g b2) (cj.g b2) ((ce.e sb).e se) cg a1) (.inl z) ?_;rintro _ cu ⟨cv,cw,cx,cy,b3,rfl,cz,cA,cB,cC,cD⟩;refine dQ z z z<|pD<|Wo<|Wg<|R z (inc_ hkz (lt_ (repS.len W) B_) z z)<|Rm z<|Wl ?_
  exact λ_ q=>⟨(cp,cq),(som bv).symm,⟨cw,cx,cy,b3,q.k<|s9 z z z z z z z z z,(cM (j_ (j_ (j_ (cM (cr ([g1]++G) H) sp (aa_ (io<|a_z sr)<|io<|a_0 sr):Chg (· ∈ ([g1]++G)) H ca) sh:Chg (· ∈ ([g1]++G)) H cb) sb:Chg (· ∈ ([g1]++G)) H cl) se:Chg (· ∈ ([g1]++G)) H cn) cv (aa_ (io<|a_z sr) (or1 ha (io<|a_0 sr) (l_ lr):∀k∈S1,k∈([g1]++G)∨H.z<=k)):Chg (· ∈ ([g1]++G)) H cu),cz,cA,cB,(or1 cC (or1 ha (io sr) (l_ lr):∀k∈S1,k∈G∨H.z<=k) (l_<|lt_ (lt_ (lt_ sp.s sh.s) sb.s) se.s):∀k∈b3,k∈G∨H.z<=k),cD⟩⟩
 .rintro ⟨xj,xo⟩ _ cE ⟨I,J,L,S1,bw,cF,a1,hq,hx,ha,ht⟩;refine Wu ?_ bw;refine Ws<|Rl z z z<|Wn<|Wq<|Wc z (λhc=>(R_ hc).elim) (λ_=>?_)
  exact We<|λ_ q=>⟨rfl,⟨I,J,L,S1,q.k<|s3 z z z,(cM (cr ([g1]++G) H) cF (aa_ (io<|a_z sr)<|io<|a_0 sr):Chg (· ∈ ([g1]++G)) H cE),a1,hq,hx,(or1 ha (io sr) (l_ lr):∀k∈S1,k∈G∨H.z<=k),ht⟩⟩
 .rintro ⟨xj,xo⟩ cG cH rfl ⟨I,J,L,S1,_,b5,a1,hq,hx,ha,ht⟩;have bx:=elL av;revert cG;refine Wo<|Wm z<|R z (J_ z)<|Rf z i_d z<|R z (l0 g_42 z<|ht.at z)<|RM z z ?_
  obtain ⟨am,b6,bz⟩:=bdS<|a_P bx;refine RX z (d_S (α:=k_) c_v b_6 z z hq b6) ?_;rintro _ ⟨_,cI,rfl⟩;refine Rf z f_46_3 z ?_;obtain ⟨_,cJ,bA⟩:=bdS bz;refine E0 (g_K (α:=k_) (v':=(⟨am.path,am.rule,am.start,rm⟩:k_)) z_3 z cI z z z z b6 cJ hq hx (lb z)<|λ_ _ _ h=>p_R h aB) ?_;rintro _ cK ⟨b7,b8,cL,cN,cO⟩;refine Wn<|Wm z<|Rw z ?_
  obtain rfl:=som bA;have b9:∀k∈G,k∈([g1]++S1_2)∨w0.z<=k:=or2 hl (io<|a_0 sr) an_<|l_ h3.s;have a4:=lt_ (lt_ (lt_ (lt_ hw h5.s) h6.s) s4.s) sg.s;exact Wr<|c_ hr z ⟨(cM (cM (j_ (j_ (cM (j_ (j_ (j_ (cM (cM (j_ (cr ([g1]++S1_2) w0) h3:Chg (· ∈ ([g1]++S1_2)) w0 aw) sk (io<|a_0 sr):Chg (· ∈ ([g1]++S1_2)) w0 bF) hi (io<|a_z sr):Chg (· ∈ ([g1]++S1_2)) w0 bH) sf:Chg (· ∈ ([g1]++S1_2)) w0 bK) sd:Chg (· ∈ ([g1]++S1_2)) w0 wn) h5:Chg (· ∈ ([g1]++S1_2)) w0 aO) h6 (mor hw:∀k∈[wn.z],k∈([g1]++S1_2)∨w0.z<=k):Chg (· ∈ ([g1]++S1_2)) w0 ws) s4:Chg (· ∈ ([g1]++S1_2)) w0 wc) sg:Chg (· ∈ ([g1]++S1_2)) w0 H) b5 (aa_ (io<|a_z sr) b9):Chg (· ∈ ([g1]++S1_2)) w0 cH) b8 (or1 ha b9 (l_ a4):∀k∈S1,k∈([g1]++S1_2)∨w0.z<=k):Chg (· ∈ ([g1]++S1_2)) w0 cK),I,J,L,b7,z,aB,cL,cN,(or1 cO (or1 ha (or2 hl (io sr) an_ (l_ h3.s):∀k∈G,k∈S1_2∨w0.z<=k) (l_ a4):∀k∈S1,k∈S1_2∨w0.z<=k) (l_<|lt_ a4 b5.s):∀k∈b7,k∈S1_2∨w0.z<=k),ht.c b8<|djs (or1 ha (or2 hl p1_2d an_ (a_T (f_<|Blk.lt hB1) h3.s):∀k∈G,k∉[g1]) (a_T (f_<|Blk.lt hB1) a4):∀k∈S1,k∉[g1])⟩
 rintro _ _ _ _ rfl ⟨rfl,bB⟩;have bC:=elR av;obtain rfl:=som bC;exact ⟨bB,z⟩
theorem A_w0e:∀n,p_h n
  | 0=>⟨λhm=>by intros;exact nomatch (show none=some _ from hm)⟩
  | n+1=>T_w0e<|A_w0e n
theorem W_w0e:m_9 (e_U n).impl_indexer_part:=A_w0e n
theorem W_w3i {x1:d_}{x2:Bt}{res:(List k_)×Bool}(hm:i_0 n x1 x2=some res)(H:B<=w0.z)(hG:Gl w0 B)(I:repS w0 B (sl A0 N0 C0) x1.rules)(V:repS w0 B (sl A5 N5 C5) x2):i_ prog 33 [(.agg #[sl A0 N0 C0]),sl A5 N5 C5] w0 (Q13 w0 B res):=by
 unfold i_0 at hm
 refine goG func33 z z z λfn hr=>Ws<|E z (fb z) ?_
 rintro _ wr ⟨rfl,hc⟩;have h2:=hc.below;have h6:Blk wr w0.z [sl A0 N0 C0]:=hc.blk;refine Ra z<|Rw z<|Ws<|R z (lN (vs:=[sl A0 N0 C0]) w_ v_ z z fid<|h6.row 0 1 z)<|Rm z ?_
 have hd:=hG.e h2;obtain ⟨rs,_,_,ew,hme⟩:=N_ hm;refine E z (fc call60 z<|W_w3e ew (zt' H h2.s) hd (I.e h2)<|V.e h2) ?_;rintro _ wf ⟨s5,ax,ny,cz,_,a0,a1,a2,_,rfl,a3,L,O,_,_,_,_⟩;refine Rm z ?_
 iterate 3 refine Re z z z ?_
 refine E z (fa a_f) ?_;rintro _ wg ⟨rfl,hh⟩;have G:=hh.below;have hi:Blk wg wf.z [vI 0,sN,sN]:=hh.blk;refine E0 (fs0 (cur':=[vI rs.number,sl ax ny cz,sl a0 a1 a2]) h_ z z hi z z z z) ?_;rintro _ wj ⟨a4,a5⟩;have h1:=a5.one;refine Ra z<|Rw z<|Wq<|Wm z<|R z (nq z z)<|Wx z (λJ=>?_) (λJ=>?_)
 .refine Ws<|E z (f0 (α:=k_) c_K) ?_
  rintro _ _ ⟨a6,a7,a8,rfl,a9,aa⟩;refine Ra z<|Rw z ?_
  obtain rfl:=som<|ifT hme J;have hk:=lt_ h2.s s5.s;exact Wr<|a_9 hr z z ⟨bup (bM (bup (bup h2 s5) G) h1<|m1 hk) a9,a6,a7,a8,[wj.z],z,aa,a_I,m1<|lt_ (lt_ hk G.s) h1.s⟩
 refine Wk<|Ws ?_
 have hl:=((h6.e s5).e G).c h1<|djs<|mm1 h6.lt s5.s
 refine R z (lN (vs:=[sl A0 N0 C0]) w_ v_ z z fid<|hl.row 0 1 z)<|Rm z<|R z (bP (parts:=[(0,.tmp 20),(1,.tmp 21)]) (cs:=[sl A0 N0 C0,sl A5 N5 C5,sN]) t_x z z)<|E z (fb z) ?_
 rintro _ ab ⟨rfl,hn⟩;have h3:=hn.below;refine Rw z<|Wm z<|R z (lN (vs:=[sl A0 N0 C0]) w_ v_ z z fid<|(hl.e h3).row 0 1 z) ?_
 have ha:=lt_ h2.s s5.s;have ho:∀k∈[wf.z],¬B k:=or0 (f_ lr)<|p_<|zt' H ha;have hp:=((((h2.ag B).e s5).e G).c h1<|e_ ho).e h3;have hq:=lt_ ha G.s;have ht:=lt_ hq h1.s;have hu:=lt_ ht h3.s;obtain ⟨_,ad,W⟩:=bdS<|ifF hme J;refine E z (fc call62 z<|l_T ad (zt' H hu)<|I.g hp) ?_;rintro _ _ ⟨s4,rfl,ae⟩;have hv:=hp.e s4;have hb:=zt' H hq;obtain ⟨_,_,af,Y⟩:=a_8 W;refine E z (fc call61 z<|W_w0e.run (B:=wg.z) af ((hn.blk:Blk ab wj.z [sl A0 N0 C0,sl A5 N5 C5,sN]).e s4) (Y_<|lt_ (lt_ h1.s h3.s) s4.s) (atp<|nbl<|m1 h1.s) ((((((hd.e s5).e G).c h1<|e_ ho).e h3).e s4).mono hb) (repS.mono (I.g hv) hb) (repS.mono (V.g hv) hb) onL U_ (nbl an_) an_ (lb z) ae a3 (repS.mono (or_ ((((L.e G).c h1<|ds<|mnr<|a_.lt L).e h3).e s4)<|a_.lt L)<|Y_ G.s) (repS.mono (or_ ((((O.e G).c h1<|ds<|mnr<|a_.lt O).e h3).e s4)<|a_.lt O)<|Y_ G.s) (((a4.e h3).e s4).row 0 3 z) hi.lt<|ii z) ?_;rintro _ _ ⟨ah,ai,aj,ak,Sm,rfl,_,al,am,an,ao⟩;refine Wn<|Wm z<|R z (J_ z)<|Rf z i_d z<|R z (l0 g_42 z<|ao.at z)<|Ra z<|Rw z ?_
 obtain rfl:=som Y;exact Wr<|a_9 hr z z ⟨bM (bup (bup (bM (bup (bup h2 s5) G) h1<|m1 ha) h3) s4) ah<|aa_ (m1 ht) an_,ai,aj,ak,Sm,z,al,am,(or1 an an_ (c_i<|lt_ hu s4.s):∀k∈Sm,w0.z<=k)⟩
theorem W_w1w {x1:Str}{x2:UInt8}{res:(List Str)}(hm:e_I x1 x2=some res)(aW:B<=w0.z)(L:x1.b.length<=LEN):i_ prog 163 [Str.v x1,vU<|byteI x2] w0 (Q2 w0 B res):=by
 unfold e_I at hm
 refine goG func163 z z z λfn hr=>Ws<|Rw z<|Ws<|E z (f0 (α:=Str) a_w) ?_
 rintro _ H ⟨aj,ak,al,rfl,sk,am⟩;refine Rw z<|Ws<|Rw z<|Wq<|Ws<|Rw z ?_
 obtain ⟨_,a3,hmr⟩:=bdS hm;refine Wf (σ:=(List Str)×Int) (ρ:=List Str) (λ(kd:Nat) s a w=>un2 (λV x5=>∃a2 I J G,Sat 35 [(0,Str.v x1),(1,vU<|byteI x2),(5,sl a2 I J),(6,vI x5),(7,vI ((kd:Nat):Int))] a/\Cg [w0.z] H w/\a_ w G (sl a2 I J) V/\G.Nodup/\(∀k∈G,k∈[w0.z]∨H.z<=k)/\inI x5) s) (λs a w=>un2 (λV x5=>∃a2 I J G,Sat 35 [(0,Str.v x1),(5,sl a2 I J),(6,vI x5)] a/\Cg [w0.z] H w/\a_ w G (sl a2 I J) V/\G.Nodup/\(∀k∈G,k∈[w0.z]∨H.z<=k)/\inI x5) s) (rQ prog fn<|Q2 w0 B) a3 ?_ ?_ ?_ ?_ ?_
 .exact λ_ q=>⟨aj,ak,al,[w0.z],q.k<|s5 z z z z z,cr [w0.z] H,am,a_I,io sr,ii z⟩
 .rintro kd ⟨V,x5⟩ _ O _ hke ⟨a2,I,J,G,a4,ss,W,Y,hb,hf⟩ a5;refine Wu ?_ a4;refine Wq<|Wm z<|Rm z<|R z (lnT d_9 z)<|Rl z z z<|Wx z (λ_=>?_) (λhc=>(Q_ hke hc).elim)
  refine Wk<|Wq<|Wb<|Wm z<|Rm z ?_
  obtain ⟨_,eu,a6⟩:=bdS<|a_P a5;refine R z (c_0 d_9 z z (a_p eu).1 (a_p eu).2.1)<|Rm z<|Rq z z z<|Wn ?_
  obtain ⟨an,huv,a7⟩:=bdS a6;refine Wt (λa w=>∃(xg:List Str)(xc:Int),(xg,xc)=an/\∃ah ni cj Sa,Sat 35 [(0,Str.v x1),(1,vU<|byteI x2),(5,sl ah ni cj),(6,vI xc),(7,vI ((kd:Nat):Int))] a/\Cg G O w/\a_ w Sa (sl ah ni cj) xg/\Sa.Nodup/\(∀k∈Sa,k∈G∨O.z<=k)/\inI xc) ?_ ?_
  .refine Wc z (λhcl=>?_)<|λhcl=>?_
   .refine Wm z<|RM z z<|Rm z ?_
    obtain ⟨ao,em,a8⟩:=bdS<|ifT huv hcl;refine R z (g_N d_9 z z z L em)<|E z (fS [(.tmp 24)] a_w z z z (b_l z) (lb z)<|lb z) ?_
    rintro _ ww ⟨rfl,hn⟩;have ho:=hn.below;have aX:=b_U hn<|b_k<|f_H em L
    obtain ⟨ap,aq,a9⟩:=bdS a8;refine E z (b_W (α:=Str) a_w aq z z (W.e ho) Y (hn.blk:Blk ww O.z [Str.v ao]) (b_k<|f_H em L) an_ U_) ?_;rintro _ ar ⟨Sx,au,av,aw,rfl,ax,ay,az,aA⟩;refine Rw z<|Wg<|Rm z<|R z (inc_ hke (lt_ L B_) z z)<|Ra z<|Wl ?_
    exact λ_ q=>⟨ap,((kd+1:Nat):Int),som a9,au,av,aw,Sx,q.k<|s5 z z z z z,(cM (j_ (cr G O) ho:Cg G O ww) ax (io sr):Cg G O ar),ay,az,(or2 aA (io sr) an_ (l_ ho.s):∀k∈Sx,k∈G∨O.z<=k),ic (Nat.succ_le_of_lt hke)<|lt_ L B_⟩
   exact a_5<|λ_ q=>⟨V,x5,som<|ifF huv hcl,a2,I,J,G,q.k<|s5 z z z z z,cr G O,W,Y,io sr,hf⟩
  rintro aB aC ⟨xg,xc,rfl,ah,ni,cj,Sa,_,aD,aE,aF,aG,aH⟩;revert aB;refine Wo<|Wg<|Rm z<|R z (inc_ hke (lt_ L B_) z z)<|Ra z<|Wl ?_
  have hy:∀k∈G,k∈[w0.z]∨H.z<=k:=or1 hb (io sr)<|l_ lr;exact λ_ q=>⟨(xg,xc),(som<|a_P a7).symm,⟨ah,ni,cj,Sa,q.k<|s5 z z z z z,(cM (cM (cr [w0.z] H) ss (io sr):Cg [w0.z] H O) aD hy:Cg [w0.z] H aC),aE,aF,(or1 aG hy (l_ ss.s):∀k∈Sa,k∈[w0.z]∨H.z<=k),aH⟩⟩
 .rintro ⟨V,x5⟩ _ aI ⟨a2,I,J,G,aa,aJ,W,Y,hb,hf⟩;refine Wu ?_ aa;refine Wq<|Wm z<|Rm z<|R z (lnT d_9 z)<|Rl z z z<|Wx z (λhc=>(R_ hc).elim) (λ_=>?_)
  exact We<|λ_ q=>⟨rfl,⟨a2,I,J,G,q.k<|s3 z z z,(cM (cr [w0.z] H) aJ (io sr):Cg [w0.z] H aI),W,Y,(or1 hb (io sr) (l_ lr):∀k∈G,k∈[w0.z]∨H.z<=k),hf⟩⟩
 .rintro ⟨V,x5⟩ aK aL rfl ⟨a2,I,J,G,_,sz,W,Y,hb,hf⟩;have ab:=elL hmr;revert aK;refine Wo<|Wm z<|RM z z ?_
  obtain ⟨aM,ep,ad⟩:=bdS<|a_P ab;refine R z (g_N d_9 z z z L ep)<|E z (fS [(.tmp 32)] a_w z z z (b_l z) (lb z)<|lb z) ?_
  rintro _ aN ⟨rfl,hq⟩;have ht:=hq.below;have aY:=b_U hq<|b_k<|f_H ep L
  obtain ⟨_,aO,ae⟩:=bdS ad;refine E z (b_W (α:=Str) a_w aO z z (W.e ht) Y (hq.blk:Blk aN aL.z [Str.v aM]) (b_k<|f_H ep L) an_ U_) ?_;rintro _ _ ⟨a0,aP,aQ,aR,rfl,aS,aT,aU,aV⟩;refine Rw z ?_
  obtain rfl:=som ae;have a1:∀k∈G,w0.z<=k:=or1 hb (f_ lr)<|c_i sk.s;exact Wr<|c_ hr z ⟨bM (bup (bM sk sz<|f_ lr) ht) aS a1,aP,aQ,aR,a0,z,aT,aU,(or2 aV a1 an_ (c_i<|lt_ (lt_ sk.s sz.s) ht.s):∀k∈a0,w0.z<=k)⟩
 rintro _ _ _ _ rfl ⟨rfl,af⟩;have ai:=elR hmr;obtain rfl:=som ai;exact ⟨af,z⟩
theorem W_w1x {x1:Str}{res:Int×Bool}(hm:f_h x1=some res)(af:B<=w0.z)(Y:x1.b.length<=LEN):i_ prog 140 [Str.v x1] w0 (Q14 w0 B res):=by
 unfold f_h at hm
 refine goG func140 z z z λfn hr=>Ws<|Ra z<|Rw z<|Wq<|Wq ?_
 obtain ⟨uv,huf,hmg⟩:=bdS hm;refine Wt (λa w=>∃(W:Bool),W=uv/\Sat 50 [(0,Str.v x1),(22,vB W)] a/\Below w0.z w0 w) ?_ ?_
 .refine Wg<|Rm z<|R z (a_K z z)<|Rm z ?_
  rcases bs (x1.b==(⟨[]⟩:Str).b) with I | I
  .iterate 3 refine Nh z I ?_
   exact R z (pT z I z)<|Rm z<|Nh z z<|Nh z z<|Nh z z<|Nh z z<|Nv z<|Nv z<|Nv z<|Nh z z<|R z (pT z z z)<|Wl (λ_ q=>⟨true,som<|ifT huf I,q.k<|s2 z z,br w0⟩)
  have hmh:=ifF huf I;refine Rh z I (mv z)<|Rh z I (lnT d_9 z)<|Rh z I (a_b z z)<|R z (pF z I z)<|Rm z ?_
  rcases bs (decide<|13<(x1.b.length:Int)) with G | G
  .iterate 4 refine Nh z G ?_
   exact Nv z<|Nv z<|Nv z<|Nh z G<|R z (pT z G z)<|Wl (λ_ q=>⟨true,som<|ifT hmh G,q.k<|s2 z z,br w0⟩)
  refine Rh z G (mv z) ?_;obtain ⟨xw,ei,hmj⟩:=bdS<|ifF hmh G;refine Rh z G (c_0 d_9 z z (a_p ei).1 (a_p ei).2.1)<|Rh z G (eql z z)<|Rh z G (mv z) ?_
  rcases bs ((byteI xw)==(byteI (48:UInt8))) with J | J
  .exact Rh z J (mv z)<|Rh z J (lnT d_9 z)<|Rh z J (a_b z z)<|Rh z G (pT z J z)<|R z (pF z G z)<|Wl (λ_ q=>⟨decide<|1<(x1.b.length:Int),som<|ifT hmj J,q.k<|s2 z z,br w0⟩)
  iterate 3 refine Nh z J ?_
  exact Rh z G (pF z J z)<|R z (pF z G z)<|Wl (λ_ q=>⟨false,som<|ifF hmj J,q.k<|s2 z z,br w0⟩)
 rintro ax L ⟨W,rfl,_,s6⟩;revert ax;refine Wo<|Wc z (λhca=>?_) (λhca=>?_)
 .refine Ws<|Ra z<|Rw z ?_
  obtain rfl:=som<|ifT hmg hca;exact Wr<|a_9 hr z z ⟨s6,z,ii z⟩
 refine Wk<|Ws<|Rw z<|Wq<|Ws<|Rw z ?_
 obtain ⟨_,huy,hmk⟩:=bdS<|ifF hmg hca;refine Wf (σ:=Int) (ρ:=Int×Bool) (λ(kb:Nat)(x2:Int) a w=>Sat 50 [(0,Str.v x1),(4,vI x2),(5,vI ((kb:Nat):Int))] a/\Below L.z L w/\inI x2) (λ(x2:Int) a w=>Sat 50 [(4,vI x2)] a/\Below L.z L w/\inI x2) (rQ prog fn<|Q14 w0 B) huy ?_ ?_ ?_ ?_ ?_
 .exact λ_ q=>⟨q.k<|s3 z z z,br L,ii z⟩
 .rintro kb x2 _ O _ hkl ⟨hSz,sm,V⟩ a0;refine Wu ?_ hSz;refine Wq<|Wm z<|Rm z<|R z (lnT d_9 z)<|Rl z z z<|Wx z (λ_=>?_) (λhc=>(Q_ hkl hc).elim)
  refine Wk<|Wq<|Wb<|Wq<|Wq ?_
  obtain ⟨a7,a1,hmn⟩:=bdS a0;refine Wt (λa w=>∃(xc:Bool),xc=a7/\Sat 50 [(0,Str.v x1),(4,vI x2),(5,vI ((kb:Nat):Int)),(38,vB xc)] a/\Below O.z O w) ?_ ?_
  .refine Wg<|RM z z ?_
   obtain ⟨a8,eo,hmp⟩:=bdS a1;refine R z (c_0 d_9 z z (a_p eo).1 (a_p eo).2.1)<|Rl z z z<|Rm z ?_
   rcases bs (decide<|(byteI a8)<(byteI (48:UInt8))) with H | H
   .iterate 4 refine Nh z H ?_
    exact R z (pT z H z)<|Wl (λ_ q=>⟨true,som<|ifT hmp H,q.k<|s4 z z z z,br O⟩)
   refine Rh z H (mv z)<|Rh z H (mv z) ?_
   obtain ⟨a9,eq,a2⟩:=bdS<|ifF hmp H;exact Rh z H (c_0 d_9 z z (a_p eq).1 (a_p eq).2.1)<|Rh z H (a_b z z)<|R z (pF z H z)<|Wl (λ_ q=>⟨decide<|(byteI (57:UInt8))<(byteI a9),som a2,q.k<|s4 z z z z,br O⟩)
  rintro aa _ ⟨xc,rfl,_,sr⟩;revert aa;refine Wo<|Wc z (λhcd=>?_) (λhcd=>?_)
  .exact Ws<|Ra z<|Rw z<|Wr<|rtO<|qL (som<|ifT hmn hcd).symm<|a_9 hr z z ⟨bup (bup s6 sm) sr,z,ii z⟩
  refine Wk<|Wg<|Rm z<|R z (f_M z z)<|RM z z ?_
  obtain ⟨ab,es,a3⟩:=bdS<|ifF hmn hcd;exact R z (c_0 d_9 z z (a_p es).1 (a_p es).2.1)<|R z (m_B z z)<|R z (c_h d_5 d_3 z)<|R z (add_ z z)<|Rw z<|Wg<|Rm z<|R z (inc_ hkl (lt_ Y B_) z z)<|Ra z<|Wl (λ_ q=>⟨g_ (b_r 10 x2)<|byteI<|mkB (byteI ab - byteI (48:UInt8)),(som a3).symm,⟨q.k<|s3 z z z,bup sm sr,iA _ _⟩⟩)
 .rintro x2 _ _ ⟨a4,ad,V⟩;refine Wu ?_ a4;refine Wq<|Wm z<|Rm z<|R z (lnT d_9 z)<|Rl z z z<|Wx z (λhc=>(R_ hc).elim) (λ_=>?_)
  exact We<|λ_ q=>⟨rfl,⟨q.k<|s1 z,ad,V⟩⟩
 .rintro x2 ae _ rfl ⟨_,st,V⟩;have hmu:=elL hmk;revert ae;refine Wo<|Wq<|Wm z<|R z (a_b z z)<|Wx z (λhce=>?_) (λhce=>?_)
  .refine Ws<|Ra z<|Rw z ?_
   obtain rfl:=som<|ifT hmu hce;exact Wr<|a_9 hr z z ⟨bup s6 st,z,ii z⟩
  refine Wk<|Wm z<|Ra z<|Rw z ?_
  obtain rfl:=som<|ifF hmu hce;exact Wr<|a_9 hr z z ⟨bup s6 st,z,V⟩
 rintro _ _ _ _ rfl ⟨rfl,a5⟩;have a6:=elR hmk;obtain rfl:=som a6;exact ⟨a5,z⟩
theorem W_w1y {x1:Str}{res:Bool}(hm:e_K n x1=some res)(O:B<=w0.z)(L:x1.b.length<=LEN):i_ prog 118 [Str.v x1] w0 (Q7 w0 B res):=by
 unfold e_K at hm
 refine goG func118 z z z λfn hr=>Ws<|Rw z<|Wq<|Wq ?_
 obtain ⟨ub,huc,V⟩:=bdS hm;refine Wt (λa w=>∃(x4:Bool),x4=ub/\Sat 25 [(0,Str.v x1),(18,vB x4)] a/\Below w0.z w0 w) ?_ ?_
 .refine Wg<|Rm z ?_
  obtain ⟨rd,ee,W⟩:=bdS huc;refine E z (fc call139 z<|l_V (B:=B) ee O L) ?_;rintro _ _ ⟨s3,rfl⟩;refine Rm z ?_
  rcases bs rd with G | G
  .exact Nh z G<|Nh z G<|R z (pT z G z)<|Rm z<|Nh z z<|Nh z z<|R z (pT z z z)<|Rm z<|Nh z z<|Nh z z<|R z (pT z z z)<|Wl (λ_ q=>⟨true,som<|ifT W G,q.k<|s2 z z,s3⟩)
  have Y:=ifF W G;refine Rh z G (mv z)<|Rh z G (a_K z z)<|R z (pF z G z)<|Rm z ?_
  rcases bs (x1.b==(⟨[42]⟩:Str).b) with H | H
  .exact Nh z H<|Nh z H<|R z (pT z H z)<|Rm z<|Nh z z<|Nh z z<|R z (pT z z z)<|Wl (λ_ q=>⟨true,som<|ifT Y H,q.k<|s2 z z,s3⟩)
  have hma:=ifF Y H;refine Rh z H (mv z)<|Rh z H (a_K z z)<|R z (pF z H z)<|Rm z ?_
  rcases bs (x1.b==(⟨[63]⟩:Str).b) with I | I
  .exact Nh z I<|Nh z I<|R z (pT z I z)<|Wl (λ_ q=>⟨true,som<|ifT hma I,q.k<|s2 z z,s3⟩)
  exact Rh z I (mv z)<|Rh z I (a_K z z)<|R z (pF z I z)<|Wl (λ_ q=>⟨x1.b==(⟨[43]⟩:Str).b,som<|ifF hma I,q.k<|s2 z z,s3⟩)
 rintro af _ ⟨x4,rfl,_,s5⟩;revert af;refine Wo<|Wc z (λJ=>?_) (λJ=>?_)
 .refine Ws<|Rw z ?_
  obtain rfl:=som<|ifT V J;exact Wr<|c_ hr z ⟨s5,z⟩
 refine Wk<|Wm z ?_
 obtain ⟨_,_,eg,hmh⟩:=a_8<|ifF V J;refine E z (fc call140 z<|W_w1x eg (zt' O s5.s) L) ?_;rintro _ _ ⟨si,rfl,_⟩;refine Rm z<|Re z z z<|Re z z z<|Ra z<|Rw z<|Wm z<|Rw z ?_
 obtain rfl:=som hmh;exact Wr<|c_ hr z ⟨bup s5 si,z⟩
theorem W_w3j {x1:Str}{res:Bool}(hm:f_p n x1=some res)(O:B<=w0.z)(L:x1.b.length<=LEN):i_ prog 117 [Str.v x1] w0 (Q7 w0 B res):=by
 unfold f_p at hm
 refine goG func117 z z z λfn hr=>Ws<|Rw z<|Wq ?_
 obtain ⟨Y,V,W⟩:=bdS hm;refine Wt (λa w=>∃(x2:Bool),x2=Y/\Sat 13 [(2,vB x2)] a/\Below w0.z w0 w) ?_ ?_
 .refine Wg<|Rm z ?_
  obtain ⟨r9,ea,I⟩:=bdS V;refine E z (fc call118 z<|W_w1y (B:=B) ea O L) ?_;rintro _ _ ⟨s3,rfl⟩;refine Rm z ?_
  rcases bs r9 with G | G
  .exact Nh z G<|Nh z G<|R z (pT z G z)<|Rm z<|Nh z z<|Nh z z<|R z (pT z z z)<|Ra z<|Wl (λ_ q=>⟨true,som<|ifT I G,q.k<|s1 z,s3⟩)
  have J:=ifF I G;refine Rh z G (mv z)<|Rh z G (a_K z z)<|R z (pF z G z)<|Rm z ?_
  rcases bs (x1.b==(⟨[35]⟩:Str).b) with H | H
  .exact Nh z H<|Nh z H<|R z (pT z H z)<|Ra z<|Wl (λ_ q=>⟨true,som<|ifT J H,q.k<|s1 z,s3⟩)
  exact Rh z H (mv z)<|Rh z H (a_K z z)<|R z (pF z H z)<|Ra z<|Wl (λ_ q=>⟨x1.b==(⟨[46,46]⟩:Str).b,som<|ifF J H,q.k<|s1 z,s3⟩)
 rintro ab _ ⟨x2,rfl,_,sc⟩;revert ab;refine Wo ?_;obtain rfl:=som W;exact Wr<|c_ hr z ⟨sc,z⟩
def Q32 (w0:World)(B:Zone)(r:(List Str)×Bool)(v:Value)(w':World):Prop:=Bw w0 w'/\un2 (λJ L=>∃(G:Option Addr)(H I:Nat)(S1:List Nat),v = .tuple #[(sl G H I),(vB L)]/\a_ w' S1 (sl G H I) J/\S1.Nodup/\(∀k∈S1,w0.heap.size<=k)) r
theorem t_Z {w:World}{gp b:Nat}{s:Str}{l0 parts:List Str}(hs:s.b.length<=LEN)(hm:e_I s (47:UInt8)=some l0)(hsl:slc l0 1 (l0.length:Int)=some parts)(hp:Blk w gp [Str.v s])(hb:b<w.heap.size)(hrow:∀g,c_5 w b g->g<w.heap.size) :
    SeqStopsK (α:={x:Str // x∈parts/\x.b.length<=LEN}) Fence.wide 1 Tryz.prog 162 [pt gp].toArray (λx=>#[x.1.v]) (KpS b) (λxs=>xs.map (·.1)=parts) (λ_=>True) parts.length w:=by
  intro l J Jx W hW hJ hJx hY h0;have hpW:=hp.ext hW
  have hrowW:∀g,c_5 W b g->g<W.heap.size:=λg ⟨n,c,h⟩=>by
    have h':w.cell? ⟨b,0,none⟩=some (sl (some ⟨g,0,none⟩) n c):=(World.cell?_of_block (w:=w) (w':=W) (a:=⟨b,0,none⟩)<|hW.block b hb).symm.trans h;exact Nat.lt_of_lt_of_le (hrow g ⟨n,c,h'⟩) hW.size
  have hbW:=Nat.lt_of_lt_of_le hb hW.size
  have hc:i_ Tryz.prog 162 [.func (.yield l) #[] #[],pt gp] W (λ_ W'=>(∃xs:List {x:Str // x∈parts/\x.b.length<=LEN},xs.map (·.1)=parts/\J xs W')∨(∃pre,True/\Jx pre W')):=by
    obtain ⟨fn,hf,hbd,hN,hr⟩:=fnE Tryz.func162;refine g_M hf (hbd.trans rfl) (hN.trans rfl) (Nat.le_of_ble_eq_true rfl) ?_;refine a_g<|a_B ?_;refine R rfl (b_x g_9 rfl (λh=>h)<|hpW.at rfl) ?_;refine E rfl (e_m Tryz.call163 rfl<|W_w1w (B:=W.heap.size) hm zr hs) ?_;rintro _ W1 ⟨s1,a1,n1,c1,S1,rfl,ho,nd,hge⟩;refine RX rfl (o_V D_ z_9 rfl ho rfl rfl hsl) ?_;intro v7 hv7;obtain ⟨ao7,c7,rfl,_⟩:=id hv7;refine R rfl (f_E D_ rfl<|hv7.repS (B:=W1.heap.size)<|λk hk=>ho.lt k hk) ?_;refine R rfl (b_3 rfl) ?_;refine a_j<|WC.of_KC ?_;have hJ1:J [] W1:=hJ [] W W1 none h0 (Below.grows s1) (λr h=>by cases h);have hb1:b∉S1:=λh=>absurd (hge b h)<|Nat.not_le.2 hbW
    have hr1:∀g,c_5 W1 b g->g∉S1:=λg ⟨n,c,h⟩ hg=>by
      have h':W.cell? ⟨b,0,none⟩=some (sl (some ⟨g,0,none⟩) n c):=(World.cell?_of_block (w:=W) (w':=W1) (a:=⟨b,0,none⟩)<|s1.block b hbW).symm.trans h;exact absurd (hge g hg)<|Nat.not_le.2<|hrowW g ⟨n,c,h'⟩
    have hlenL:parts.length<=9223372036854775807:=Nat.le_trans (by obtain ⟨_,_,_,_,h,_⟩:=hv7;exact h) B_;refine d_l λa ha=>?_
    refine Code.wp_mono (Q:=Exit.then noK<|λex a w=>(ex = .exit 0/\b_Y Tryz.prog fn (λ_ W'=>(∃xs:List {x:Str // x∈parts/\x.b.length<=LEN},xs.map (·.1)=parts/\J xs W')∨(∃pre,True/\Jx pre W')) a w)∨(ex = .ret/\b_Y Tryz.prog fn (λ_ W'=>(∃xs:List {x:Str // x∈parts/\x.b.length<=LEN},xs.map (·.1)=parts/\J xs W')∨(∃pre,True/\Jx pre W')) a w)) (λex a' w' q=>?_)<|wp_loop_ghost (λm a w=>∃(k:Nat)(pre:List {x:Str // x∈parts/\x.b.length<=LEN}),k+m=parts.length/\pre.map (·.1)=parts.take k/\Sat 18 [(9,vI (k:Int)),(8,vI (parts.length:Int)),(7,sl ao7 parts.length c7),(0,.func (.yield l) #[] #[])] a/\J pre w/\a_ w S1 (sl a1 n1 c1) l0/\(∀g,c_5 w b g->g∉S1)/\d_g w (· ∈ S1) (sl ao7 parts.length c7) parts) parts.length ?_ ?_
    . cases ex with
      | normal=>exact (show False from q).elim
      | exit i =>
        rcases q with ⟨h,q⟩ | ⟨h,_⟩
        . cases h;exact q
        . cases h
      | ret =>
        rcases q with ⟨h,_⟩ | ⟨_,q⟩
        . cases h
        . exact q
      | _=>rcases q with ⟨h,_⟩ | ⟨h,_⟩ <;> cases h
    . exact ⟨0,[],by omega,by simp,ha.weaken<|sc rfl<|sc rfl<|sc rfl<|sc rfl sn,hJ1,ho,hr1,hv7⟩
    . rintro m a w ⟨k,pre,hkm,hpre,hsat,hJw,how,hrw,hvw⟩
      refine f_K (N:=18) (e:=[(9,vI (k:Int)),(8,vI (parts.length:Int)),(7,sl ao7 parts.length c7),(0,.func (.yield l) #[] #[])]) ?_ hsat;refine a_g<|a_B<|R rfl (f_3 rfl rfl)<|a_j<|WC.of_KC ?_;refine a_g<|c_8 rfl (λhc=>?_)<|λhc=>?_
      . have hk:k<parts.length:=by simpa using hc
        obtain ⟨m,rfl⟩:∃m',m=m'+1:=⟨m - 1,by omega⟩;refine a_5<|WC.of_KC ?_;refine a_g<|d_l ?_;refine a_g<|a_B ?_;have hrep:=hvw.repS (B:=w.heap.size)<|λk hk=>how.lt k hk;have hidx:idx parts (k:Int)=some parts[k]:=by rw [k_q];simp [hk]
        refine RX rfl (f_F (α:=Str) D_ z_9 rfl rfl rfl hrep hidx) ?_;rintro _ ⟨bb,oo,cs,rfl,hc1,hrr,hlt⟩;obtain ⟨rfl,hxl⟩:=a_h hrr;refine R rfl (b_x g_9 rfl (λh=>h)<|hc1.at0 rfl) ?_;refine R rfl (c_O rfl) ?_;refine a_j<|WC.of_KC ?_;refine a_g<|o_Q ?_;refine e_C rfl (b_3 rfl) ?_;refine e_C rfl (b_3 rfl) ?_
        have hpl:pre.length=k:=by
          have:=congrArg List.length hpre
          simp at this;omega
        refine o_R (S:=λv w'=>(v=vB true/\J (pre++[⟨parts[k],List.getElem_mem hk,hxl⟩]) w'/\KpS b w w')∨(v=vB false/\Jx (pre++[⟨parts[k],List.getElem_mem hk,hxl⟩]) w')) rfl rfl rfl (hY pre ⟨parts[k],List.getElem_mem hk,hxl⟩ w hJw (by omega)) (λe w' h=>?_) ?_
        . rcases h with ⟨rfl,h⟩ | ⟨rfl,h⟩
          . exact ⟨_,rfl,.inl ⟨rfl,h⟩⟩
          . exact ⟨_,rfl,.inr ⟨rfl,h⟩⟩
        rintro v w' (⟨rfl,hJ',hK⟩ | ⟨rfl,hX⟩)
        . refine e_C rfl (d_t rfl) ?_
          refine j_H<|WC.of_KC ?_;refine c_8 rfl (λh=>by cases h)<|λ_=>?_;refine a_5<|WC.of_KC ?_;refine a_B<|R rfl (f_D hk hlenL rfl rfl)<|R rfl (b_3 rfl) ?_;obtain ⟨ho',hr'⟩:=hK.own how hb1 hrw
          have hv':d_g w' (· ∈ S1) (sl ao7 parts.length c7) parts:=hvw.stay λg hg=>hK.chg.block g (how.lt g hg) λhm=>by
            rcases hm with rfl | hm | ⟨o,ho2,hcl⟩
            . exact hb1 hg
            . exact hrw g hm hg
            . obtain ⟨cur,hB⟩:=d_E how g hg
              rw [hB.isCells ho2] at hcl;cases hcl
          refine a_j λa' ha'=>⟨m,Nat.lt_succ_self _,k+1,pre++[⟨parts[k],List.getElem_mem hk,hxl⟩],by omega,?_,ha'.weaken<|sc rfl<|sc rfl<|sc rfl<|sc rfl sn,hJ',ho',hr',hv'⟩
          rw [List.map_append,hpre,List.take_add_one,List.getElem?_eq_getElem hk];rfl
        . refine e_C rfl (d_t rfl) ?_
          refine j_H<|WC.of_KC ?_;refine c_8 rfl (λ_=>?_) (λh=>by cases h);exact c_M<|rtO λa' ha'=>.inr ⟨rfl,ret0 hr (.inr ⟨_,trivial,hX⟩) a' ha'⟩
      . have hk:¬k<parts.length:=by simpa using hc
        have:k=parts.length:=by omega
        subst this;refine f_v λa' ha'=>.inl ⟨rfl,ret0 hr (.inl ⟨pre,?_,hJw⟩) a' ha'⟩
        rw [hpre,List.take_length]
  refine callsIn_wide.2<|hc.run.mono λe w' ⟨v,he,h⟩=>⟨⟨v,he⟩,h⟩
theorem p_i {w0 W W':World}{row:Option Nat}(h:Below w0.heap.size w0 W)(hg:W.grownBy W' row)(hr:∀r,row=some r->w0.heap.size<=r):Below w0.heap.size w0 W':=c_a h (j_I hg) λk hk e=>absurd (hr k e)<|Nat.not_le.2 hk
def u_0 (w0:World)(s:Str)(v:Value)(w':World):Prop:=v = .func (.func 162) #[] #[pt w0.heap.size]/\Blk w' w0.heap.size [Str.v s]/\Bw w0 w'
theorem u_1 {w0:World}{s:Str}:i_ Tryz.prog 138 [Str.v s] w0 (u_0 w0 s):=by
  obtain ⟨_,hf,hb,hN,hr⟩:=fnE Tryz.func138;refine g_M hf (hb.trans rfl) (hN.trans rfl) (Nat.le_of_ble_eq_true rfl) ?_;refine a_g<|a_B ?_;refine E rfl (e_l rfl) ?_;rintro _ G ⟨rfl,h1⟩;refine R rfl (c_O rfl) ?_;refine a_j<|WC.of_KC ?_;refine a_g<|a_B ?_;refine R rfl (i_x rfl) ?_;refine R rfl (c_O rfl) ?_;refine a_j<|WC.of_KC ?_;exact c_M<|c_ hr rfl ⟨rfl,(h1.blk:Blk G w0.heap.size [Str.v s]),h1.below⟩
theorem W_w3k {n:Nat}{B:Zone}{x1:Str}{res:(List Str)×Bool}{w0:World}(hm:j_W n x1=some res)(hBw:B<=w0.heap.size)(p1_0:x1.b.length<=LEN):i_ Tryz.prog 116 [(Str.v x1),.func (.func 117) #[] #[]] w0 (Q32 w0 B res):=by
  unfold j_W at hm
  obtain ⟨fn,hf,hb,hN,hr⟩:=fnE Tryz.func116;refine o_T hf (hb.trans rfl) (hN.trans rfl) (Nat.le_of_ble_eq_true rfl) ?_
  -- the cells
  refine a_g<|a_B ?_;refine E rfl (e_l rfl) ?_;rintro _ w1 ⟨rfl,h1⟩;have b3:Blk w1 w0.heap.size [.func (.func 117) #[] #[]]:=h1.blk;refine E rfl (d_q k_6) ?_;rintro _ w2 ⟨rfl,h2⟩;have b4:Blk w2 w1.heap.size [.slice none 0 0]:=h2.blk;refine E rfl (d_q p_d) ?_;rintro _ w3 ⟨rfl,h3⟩;have b5:Blk w3 w2.heap.size [vB false]:=h3.blk;refine a_j<|WC.of_KC ?_;refine a_g<|a_B ?_;refine E rfl (e_o (α:=Str) a_w) ?_;rintro _ w4 ⟨a,m,c,rfl,s4,ho4⟩;refine E rfl (d_q k_6) ?_;rintro _ w5 ⟨rfl,h5⟩;have b6:Blk w5 w4.heap.size [.slice none 0 0]:=h5.blk;refine E0 (a_R (cur':=[.slice a m c]) c_L rfl rfl b6 rfl (Nat.le_of_ble_eq_true rfl) (a_X rfl) rfl) ?_;rintro _ w6 ⟨c6,s6⟩;have t6:=s6.one;refine a_j<|WC.of_KC ?_
  -- what is known behind
  have g1:=h1.below;have g2:=h2.below;have g3:=h3.below;have g5:=h5.below;have z1:=h1.size;have z2:=h2.size;have z3:=h3.size;have z5:=h5.size;have z4:=s4.size;have z6:=s6.size
  have hz:w0.heap.size<w1.heap.size/\w1.heap.size<w2.heap.size/\w2.heap.size<w3.heap.size/\w3.heap.size<w4.heap.size/\w4.heap.size<w6.heap.size:=by
    have:=ho4.lt _ List.mem_cons_self
    omega
  have k3:Blk w6 w0.heap.size [.func (.func 117) #[] #[]]:=((((b3.ext g2).ext g3).ext s4).ext g5).chg s6 (by omega);have k4:Blk w6 w1.heap.size [.slice none 0 0]:=(((b4.ext g3).ext s4).ext g5).chg s6 (by omega);have k5:Blk w6 w2.heap.size [vB false]:=((b5.ext s4).ext g5).chg s6 (by omega);have kS:a_ w6 [w3.heap.size] (sl a m c) ([]:List Str):=(ho4.ext g5).chg s6 (λk hk=>by have:=List.mem_singleton.1 hk;omega);have kB:Below w0.heap.size w0 w6:=c_j (bup (bup (bup (bup g1 g2) g3) s4) g5) t6 (λk hk=>by have:=List.mem_singleton.1 hk;omega)
  clear b3 b4 b5 b6 ho4 h1 h2 h3 h5 s4 s6 t6 g1 g2 g3 g5 z1 z2 z3 z4 z5 z6
  -- the first look
  refine a_g<|a_g<|a_B ?_;refine R rfl (b_3 rfl) ?_;refine R rfl (a_K rfl rfl) ?_;refine a_j<|WC.of_KC ?_;refine c_8 rfl (λhc=>?_)<|λhc=>?_
  . obtain rfl:=som (ifT hm hc)
    refine a_g<|a_B ?_;refine R rfl (b_x a_t rfl (λh=>h)<|c6.at rfl) ?_;refine E0 (a_R (cur':=[.slice a m c]) c_L rfl rfl k4 rfl (Nat.le_of_ble_eq_true rfl) (a_X rfl) rfl) ?_;rintro _ w7 ⟨c7,s7⟩;refine E0 (a_R (cur':=[vB true]) z_4 rfl rfl (k5.chg s7 (by omega)) rfl (Nat.le_of_ble_eq_true rfl) (a_X rfl) rfl) ?_;rintro _ w8 ⟨c8,s8⟩;refine a_j<|WC.of_KC ?_;refine c_M λa' ha'=>retM<|a_9 hr (b_X (n:=1) a_t rfl<|c7.chg s8 (by omega)) (b_X (n:=1) g_4 rfl c8) ⟨c_j (c_j kB s7.one (λk hk=>by have:=List.mem_singleton.1 hk;omega)) s8.one (λk hk=>by have:=List.mem_singleton.1 hk;omega),?_⟩ a' ha'
    exact ⟨a,m,c,_,rfl,(kS.chg s7 (λk hk=>by have:=List.mem_singleton.1 hk;omega)).chg s8 (λk hk=>by have:=List.mem_singleton.1 hk;omega),(by simp),λk hk=>by have:=List.mem_singleton.1 hk;omega⟩
  replace hm:=ifF hm hc;refine a_5<|WC.of_KC ?_
  -- the first byte
  refine a_g<|a_g<|a_B ?_;refine R rfl (b_3 rfl) ?_;obtain ⟨x13,e13,hm⟩:=bdS hm;refine R rfl (c_0 d_9 rfl rfl (a_p e13).1 (a_p e13).2.1) ?_;refine R rfl (f_O rfl rfl) ?_;refine a_j<|WC.of_KC ?_;refine c_8 rfl (λhc=>?_)<|λhc=>?_
  . obtain rfl:=som (ifT hm hc)
    refine a_g<|a_B ?_;refine R rfl (b_x a_t rfl (λh=>h)<|c6.at rfl) ?_;refine E0 (a_R (cur':=[.slice a m c]) c_L rfl rfl k4 rfl (Nat.le_of_ble_eq_true rfl) (a_X rfl) rfl) ?_;rintro _ w7 ⟨c7,s7⟩;refine E0 (a_R (cur':=[vB false]) z_4 rfl rfl (k5.chg s7 (by omega)) rfl (Nat.le_of_ble_eq_true rfl) (a_X rfl) rfl) ?_;rintro _ w8 ⟨c8,s8⟩;refine a_j<|WC.of_KC ?_;refine c_M λa' ha'=>retM<|a_9 hr (b_X (n:=1) a_t rfl<|c7.chg s8 (by omega)) (b_X (n:=1) g_4 rfl c8) ⟨c_j (c_j kB s7.one (λk hk=>by have:=List.mem_singleton.1 hk;omega)) s8.one (λk hk=>by have:=List.mem_singleton.1 hk;omega),?_⟩ a' ha'
    exact ⟨a,m,c,_,rfl,(kS.chg s7 (λk hk=>by have:=List.mem_singleton.1 hk;omega)).chg s8 (λk hk=>by have:=List.mem_singleton.1 hk;omega),(by simp),λk hk=>by have:=List.mem_singleton.1 hk;omega⟩
  replace hm:=ifF hm hc;refine a_5<|WC.of_KC ?_;obtain ⟨l0,hsp,hm⟩:=bdS hm;obtain ⟨parts,hsl,hm⟩:=bdS hm;obtain ⟨oks,hok,hm⟩:=bdS hm
  split at hm
  case isFalse=>cases hm
  rename_i hlim
  obtain rfl:=som hm;obtain ⟨hacc,hall⟩:=l_x hok
  -- the loop
  refine a_g<|a_g<|a_B ?_;refine R rfl (b_3 rfl) ?_;refine E rfl (e_m Tryz.call138 rfl u_1) ?_;rintro _ w7 ⟨rfl,bp,s7⟩;refine a_j<|WC.of_KC ?_;replace k3:=k3.ext s7;replace k4:=k4.ext s7;replace k5:=k5.ext s7;replace c6:=c6.ext s7;replace kS:=kS.ext s7;replace kB:=bup kB<|s7.mono<|Nat.le_refl _;have z7:=s7.size
  have hrow:∀g,c_5 w7 w4.heap.size g->g<w7.heap.size:=λg hg=>by
    have h1:=l_w c6 hg;exact kS.lt _<|(h_c kS).2 g 0 none h1
  generalize w1.heap.size=q4 at *
  generalize w2.heap.size=q5 at *
  generalize w4.heap.size=q6 at *
  refine o_U (α:={x:Str // x∈parts/\x.b.length<=LEN}) (f:=λx=>x.1) (gf:=162) (lb:=[pt w6.heap.size]) (b:=q6) (M:=parts.length) (S:=λxs=>xs.map (·.1)=parts) (Sp:=λ_=>True) rfl Tryz.call162 rfl rfl (by omega)
    (t_Z p1_0 hsp hsl bp (by omega) hrow)
    (λpre W=>(∀x∈pre,(f_p n x.1).getD false=true)/\(∃(a:Option Addr)(m c:Nat)(S:List Nat),Blk W q6 [.slice a m c]/\a_ W S (sl a m c) (pre.map (·.1))/\S.Nodup/\(∀k∈S,q5<k/\k ≠ q6))/\Blk W w0.heap.size [.func (.func 117) #[] #[]]/\Blk W q4 [.slice none 0 0]/\Blk W q5 [vB false]/\Below w0.heap.size w0 W)
    (λpre W=>(∃x∈pre,(f_p n x.1).getD false=false)/\(∃(a:Option Addr)(m c:Nat)(S:List Nat),Blk W q4 [.slice a m c]/\a_ W S (sl a m c) ([]:List Str)/\S.Nodup/\(∀k∈S,w0.heap.size<=k))/\Blk W q5 [vB false]/\Below w0.heap.size w0 W)
    ?_ ?_ ?_ ?_ ?_ ?_
  . rintro pre W W' row ⟨h1,⟨a,m,c,S,h2,h3,h4,h5⟩,h6,h7,h8,h9⟩ hg hr
    have hr':=λr e=>(hr r e).2
    exact ⟨h1,⟨a,m,c,S,h2.grown hg hr',j_L h3 hg hr',h4,h5⟩,h6.grown hg hr',h7.grown hg hr',h8.grown hg hr',p_i h9 hg λr e=>Nat.le_trans (by omega) (hr r e).1⟩
  . rintro pre W W' row ⟨h1,⟨a,m,c,S,h2,h3,h4,h5⟩,h8,h9⟩ hg hr
    have hr':=λr e=>(hr r e).2
    exact ⟨h1,⟨a,m,c,S,h2.grown hg hr',j_L h3 hg hr',h4,h5⟩,h8.grown hg hr',p_i h9 hg λr e=>Nat.le_trans (by omega) (hr r e).1⟩
  . exact ⟨λx hx=>(by cases hx),⟨a,m,c,_,c6,kS,(by simp),λk hk=>by have:=List.mem_singleton.1 hk;omega⟩,k3,k4,k5,kB⟩
  . rintro l pre ⟨x,hx,hxl⟩ W ⟨h1,⟨a,m,c,S,h2,h3,h4,h5⟩,h6,h7,h8,h9⟩ hlt
    refine o_P<|g_a<|g_a<|g_8 rfl (λ_ _ h=>by cases h.1) ?_;refine R rfl (b_x g_148 rfl (λh=>h)<|h6.at rfl) ?_;refine R rfl (b_3 rfl) ?_;refine E rfl (d_N (caps:=[]) Tryz.call117 rfl rfl<|W_w3j (hacc x hx) zr hxl) ?_;rintro _ W1 ⟨s1,rfl⟩;refine R rfl (d_t rfl) ?_;refine a_j<|WCI.of_KC ?_;have y1:=s1.size;have hq6:=h2.lt;have hw0.heap.size:=h6.lt;have hq4:=h7.lt;have hq5:=h8.lt;refine o_M rfl (λhc=>?_)<|λhc=>?_
    . refine g_a (g_8 rfl (λ_ _ h=>by cases h.1) ?_)
      refine E rfl (e_o (α:=Str) a_w) ?_;rintro _ W2 ⟨a2,m2,c2,rfl,s2,ho2⟩;refine E0 (a_R (cur':=[.slice a2 m2 c2]) c_L rfl rfl ((h7.ext s1).ext s2) rfl (Nat.le_of_ble_eq_true rfl) (a_X rfl) rfl) ?_;rintro _ W3 ⟨c3,s3⟩;refine E0 (a_R (cur':=[vB false]) z_4 rfl rfl (((h8.ext s1).ext s2).chg s3 (by omega)) rfl (Nat.le_of_ble_eq_true rfl) (a_X rfl) rfl) ?_;rintro _ W4 ⟨c4,s4⟩;refine a_j<|WCI.of_KC ?_;have hW:Below W.heap.size W W2:=bup s1 s2
      have hc4:Chg (λk=>k=q4∨k=q5) W W4:=by
        have e1:Chg (λk=>k=q4∨k=q5) W W2:=(Chg.refl _ W).ext hW;refine (e1.comp s3 λk _ hk=>.inl hk).comp s4 λk _ hk=>.inr hk
      refine o_O λ_ q=>⟨rfl,j_K hc4 λk _ hk=>?_,⟨⟨x,hx,hxl⟩,by simp,by simpa using hc⟩,⟨a2,m2,c2,_,c3.chg s4 (by omega),(ho2.chg s3 λk hk=>by have:=List.mem_singleton.1 hk;omega).chg s4 λk hk=>by have:=List.mem_singleton.1 hk;omega,(by simp),λk hk=>by have:=List.mem_singleton.1 hk;omega⟩,c4,?_⟩
      . rcases hk with rfl | rfl
        . exact ⟨_,h7⟩
        . exact ⟨_,h8⟩
      . exact c_a h9 hc4 λk hk hm=>by rcases hm with rfl | rfl <;> omega
    . refine o_N (WCI.of_KC ?_)
      refine g_8 rfl (λ_ _ h=>by cases h.1) ?_
      have hpsh:psh (pre.map (·.1)) x=some (pre.map (·.1)++[x]):=by
        unfold psh
        rw [if_pos (by rw [List.length_map];omega)]
      refine R rfl (b_x a_t rfl (λh=>h)<|(h2.ext s1).at rfl) ?_;refine R rfl (b_3 rfl) ?_;refine E rfl (f_y [(.tmp 25)] a_w rfl rfl rfl (b_l rfl) (Nat.le_of_ble_eq_true rfl)<|Nat.le_of_ble_eq_true rfl) ?_;rintro _ W2 ⟨rfl,hb⟩;have s2:=hb.below;have y2:=s2.size;refine E rfl (b_W (α:=Str) a_w hpsh rfl rfl ((h3.ext s1).ext s2) h4 hb.blk (b_k hxl) all_nil U_) ?_;rintro _ W3 ⟨S',a',n',c',rfl,s3,ho3,nd3,hs3⟩;have y3:=s3.size
      have n3:∀k,k<W.heap.size->k<=q5∨k=q6->k∉S':=λk hk hq hm=>by
        rcases hs3 k hm with h | h | h
        . have:=h5 k h;omega
        . cases h
        . omega
      refine E0 (a_R (cur':=[.slice a' n' c']) c_L rfl rfl (((h2.ext s1).ext s2).chg s3 (λhm=>(h5 _ hm).2 rfl)) rfl (Nat.le_of_ble_eq_true rfl) (a_X rfl) rfl) ?_;rintro _ W4 ⟨c4,s4⟩;have hW:Below W.heap.size W W2:=bup s1 s2
      have hc4:Chg (λk=>k=q6∨k∈S) W W4:=by
        have e1:Chg (λk=>k=q6∨k∈S) W W2:=(Chg.refl _ W).ext hW;refine (e1.comp s3 λk _ hk=>.inr hk).comp s4 λk _ hk=>.inl hk
      have ho4:a_ W4 S' (sl a' n' c') (pre.map (·.1)++[x]):=ho3.chg s4 λk hk he=>n3 q6 hq6 (.inr rfl)<|he ▸ hk
      have hs4:∀k∈S',k∈S∨W.heap.size<=k:=λk hk=>by
        rcases hs3 k hk with h | h | h
        . exact .inl h
        . cases h
        . exact .inr (by omega)
      have k4:∀k,k<=q5->¬(k=q6∨k∈S):=λk hk hm=>by
        rcases hm with rfl | hm
        . omega
        . have:=h5 k hm;omega
      refine a_j λa'' ha''=>⟨j_K hc4 λk _ hk=>?_,KpS.of_chg h2 h3 c4 ho4 hs4 hc4,λy hy=>?_,⟨a',n',c',S',c4,by simpa using ho4,nd3,λk hk=>?_⟩,h6.chg hc4<|k4 _ (by omega),h7.chg hc4<|k4 _ (by omega),h8.chg hc4<|k4 _ (by omega),c_a h9 hc4 λk hk hm=>k4 k (by omega) hm⟩
      . rcases hk with rfl | hk
        . exact ⟨_,h2⟩
        . exact d_E h3 k hk
      . rcases List.mem_append.1 hy with hy | hy
        . exact h1 y hy
        . obtain rfl:=List.mem_singleton.1 hy
          simpa using hc
      . rcases hs4 k hk with h | h
        . exact h5 k h
        . omega
  . rintro D xs W hD hxs ⟨h1,⟨a,m,c,S,h2,h3,h4,h5⟩,h6,h7,h8,h9⟩ hdef a0 ha0
    have hw0.heap.size:=h6.lt;have hq4:=h7.lt;have hq5:=h8.lt;refine tailD ?_ ha0;refine R rfl (b_x a_t rfl (λh=>h)<|h2.at rfl) ?_;refine E0 (a_R (cur':=[.slice a m c]) c_L rfl rfl h7 rfl (Nat.le_of_ble_eq_true rfl) (a_X rfl) rfl) ?_;rintro _ W1 ⟨c7,s7⟩;refine E0 (a_R (cur':=[vB true]) z_4 rfl rfl (h8.chg s7 (by omega)) rfl (Nat.le_of_ble_eq_true rfl) (a_X rfl) rfl) ?_;rintro _ W2 ⟨c8,s8⟩;have hDlt:=(Array.getElem?_eq_some_iff.1 hdef).1;have hdef2:W2.heap[D]? = some (.deferred<|some []):=((s8.block D (Nat.lt_of_lt_of_le hDlt s7.size) (by omega)).trans (s7.block D hDlt (by omega))).trans hdef
    have hDS:∀k∈S,k ≠ D:=λk hk e=>by
      obtain ⟨cur,hB⟩:=d_E h3 k hk;have:=(e ▸ hB).isCells hdef
      cases this
    have hoks:oks.all id=true:=hall.2 λy hy=>by
      rw [← hxs] at hy
      obtain ⟨z,hz,rfl⟩:=List.mem_map.1 hy;exact h1 z hz
    rw [if_pos hoks]
    refine a_j λa' ha'=>⟨ha'.defers,hdef2,?_⟩
    have hp:=j_J W2 D<|.deferred none;obtain ⟨_,v,e1,e2⟩:=a_9 (R:=Q32 w0 B (parts,true)) hr (b_X (n:=1) a_t rfl<|(c7.chg s8 (by omega)).chg hp (by omega)) (b_X (n:=1) g_4 rfl<|c8.chg hp (by omega)) ⟨c_a (c_a (c_a h9 s7 λk hk e=>by omega) s8 λk hk e=>by omega) hp λk hk e=>by omega,a,m,c,S,rfl,((hxs ▸ h3).chg s7 λk hk e=>by have:=h5 k hk;omega).chg s8 (λk hk e=>by have:=h5 k hk;omega) |>.chg hp λk hk e=>hDS k hk e,h4,λk hk=>by have:=h5 k hk;omega⟩ a' ha';exact ⟨v,e1,e2⟩
  . rintro D pre W hD _ ⟨⟨⟨x,hx,hxl⟩,hxm,hxb⟩,⟨a,m,c,S,h2,h3,h4,h5⟩,h8,h9⟩ hdef a0 ha0
    have hq4:=h2.lt;have hq5:=h8.lt
    have hDS:∀k∈S,k ≠ D:=λk hk e=>by
      obtain ⟨cur,hB⟩:=d_E h3 k hk;have:=(e ▸ hB).isCells hdef
      cases this
    have hoks:¬oks.all id=true:=λh=>by
      have:=hall.1 h x hx
      rw [this] at hxb;cases hxb
    rw [if_neg hoks]
    have hp:=j_J W D<|.deferred none;obtain ⟨_,v,e1,e2⟩:=a_9 (R:=Q32 w0 B ([],false)) hr (b_X (n:=1) a_t rfl<|h2.chg hp (by omega)) (b_X (n:=1) g_4 rfl<|h8.chg hp (by omega)) ⟨c_a h9 hp λk hk e=>by omega,a,m,c,S,rfl,h3.chg hp λk hk e=>hDS k hk e,h4,h5⟩ a0 ha0;exact retD ha0.defers hdef e1 e2
def Q33 (w0:World)(B:Zone)(r:(List Str)×Bool)(v:Value)(w':World):Prop:=Bw w0 w'/\un2 (λJ L=>∃G H I S1,v = .tuple #[sl G H I,vB L]/\a_ w' S1 (sl G H I) J/\S1.Nodup/\(∀k∈S1,w0.z<=k)) r
theorem W_w3l {x1:Str}{res:(List Str)×Bool}(hm:i_5 n x1=some res)(H:B<=w0.z)(G:x1.b.length<=LEN):i_ prog 63 [Str.v x1] w0 (Q33 w0 B res):=by
 unfold i_5 at hm
 refine goG func63 z z z λfn hr=>Ws<|Ra z<|Rw z<|Wm z ?_
 obtain ⟨_,_,J,I⟩:=a_8 hm;refine E z (fc call116 z<|W_w3k (B:=B) J H G) ?_;rintro _ _ ⟨s2,L,O,V,W,rfl,Y,h8,h9⟩;refine Re z z z<|Re z z z<|Ra z<|Rw z ?_
 obtain rfl:=som I;exact Wr<|a_9 hr z z ⟨s2,L,O,V,W,z,Y,h8,h9⟩
def Q34 (w0:World)(B:Zone)(r:(List Str)×Bool)(v:Value)(w':World):Prop:=Bw w0 w'/\un2 (λJ L=>∃(G:Option Addr)(H I:Nat)(S1:List Nat),v = .tuple #[(sl G H I),(vB L)]/\a_ w' S1 (sl G H I) J/\S1.Nodup/\(∀k∈S1,w0.heap.size<=k)) r
theorem u_2 {w:World}{gp b:Nat}{s:Str}{l0 parts:List Str}(hs:s.b.length<=LEN)(hm:e_I s (47:UInt8)=some l0)(hsl:slc l0 1 (l0.length:Int)=some parts)(hp:Blk w gp [Str.v s])(hb:b<w.heap.size)(hrow:∀g,c_5 w b g->g<w.heap.size) :
    SeqStopsK (α:={x:Str // x∈parts/\x.b.length<=LEN}) Fence.wide 1 Tryz.prog 162 [pt gp].toArray (λx=>#[x.1.v]) (KpS b) (λxs=>xs.map (·.1)=parts) (λ_=>True) parts.length w:=by
  intro l J Jx W hW hJ hJx hY h0;have hpW:=hp.ext hW
  have hrowW:∀g,c_5 W b g->g<W.heap.size:=λg ⟨n,c,h⟩=>by
    have h':w.cell? ⟨b,0,none⟩=some (sl (some ⟨g,0,none⟩) n c):=(World.cell?_of_block (w:=w) (w':=W) (a:=⟨b,0,none⟩)<|hW.block b hb).symm.trans h;exact Nat.lt_of_lt_of_le (hrow g ⟨n,c,h'⟩) hW.size
  have hbW:=Nat.lt_of_lt_of_le hb hW.size
  have hc:i_ Tryz.prog 162 [.func (.yield l) #[] #[],pt gp] W (λ_ W'=>(∃xs:List {x:Str // x∈parts/\x.b.length<=LEN},xs.map (·.1)=parts/\J xs W')∨(∃pre,True/\Jx pre W')):=by
    obtain ⟨fn,hf,hbd,hN,hr⟩:=fnE Tryz.func162;refine g_M hf (hbd.trans rfl) (hN.trans rfl) (Nat.le_of_ble_eq_true rfl) ?_;refine a_g<|a_B ?_;refine R rfl (b_x g_9 rfl (λh=>h)<|hpW.at rfl) ?_;refine E rfl (e_m Tryz.call163 rfl<|W_w1w (B:=W.heap.size) hm zr hs) ?_;rintro _ W1 ⟨s1,a1,n1,c1,S1,rfl,ho,nd,hge⟩;refine RX rfl (o_V D_ z_9 rfl ho rfl rfl hsl) ?_;intro v7 hv7;obtain ⟨ao7,c7,rfl,_⟩:=id hv7;refine R rfl (f_E D_ rfl<|hv7.repS (B:=W1.heap.size)<|λk hk=>ho.lt k hk) ?_;refine R rfl (b_3 rfl) ?_;refine a_j<|WC.of_KC ?_;have hJ1:J [] W1:=hJ [] W W1 none h0 (Below.grows s1) (λr h=>by cases h);have hb1:b∉S1:=λh=>absurd (hge b h)<|Nat.not_le.2 hbW
    have hr1:∀g,c_5 W1 b g->g∉S1:=λg ⟨n,c,h⟩ hg=>by
      have h':W.cell? ⟨b,0,none⟩=some (sl (some ⟨g,0,none⟩) n c):=(World.cell?_of_block (w:=W) (w':=W1) (a:=⟨b,0,none⟩)<|s1.block b hbW).symm.trans h;exact absurd (hge g hg)<|Nat.not_le.2<|hrowW g ⟨n,c,h'⟩
    have hlenL:parts.length<=9223372036854775807:=Nat.le_trans (by obtain ⟨_,_,_,_,h,_⟩:=hv7;exact h) B_;refine d_l λa ha=>?_
    refine Code.wp_mono (Q:=Exit.then noK<|λex a w=>(ex = .exit 0/\b_Y Tryz.prog fn (λ_ W'=>(∃xs:List {x:Str // x∈parts/\x.b.length<=LEN},xs.map (·.1)=parts/\J xs W')∨(∃pre,True/\Jx pre W')) a w)∨(ex = .ret/\b_Y Tryz.prog fn (λ_ W'=>(∃xs:List {x:Str // x∈parts/\x.b.length<=LEN},xs.map (·.1)=parts/\J xs W')∨(∃pre,True/\Jx pre W')) a w)) (λex a' w' q=>?_)<|wp_loop_ghost (λm a w=>∃(k:Nat)(pre:List {x:Str // x∈parts/\x.b.length<=LEN}),k+m=parts.length/\pre.map (·.1)=parts.take k/\Sat 18 [(9,vI (k:Int)),(8,vI (parts.length:Int)),(7,sl ao7 parts.length c7),(0,.func (.yield l) #[] #[])] a/\J pre w/\a_ w S1 (sl a1 n1 c1) l0/\(∀g,c_5 w b g->g∉S1)/\d_g w (· ∈ S1) (sl ao7 parts.length c7) parts) parts.length ?_ ?_
    . cases ex with
      | normal=>exact (show False from q).elim
      | exit i =>
        rcases q with ⟨h,q⟩ | ⟨h,_⟩
        . cases h;exact q
        . cases h
      | ret =>
        rcases q with ⟨h,_⟩ | ⟨_,q⟩
        . cases h
        . exact q
      | _=>rcases q with ⟨h,_⟩ | ⟨h,_⟩ <;> cases h
    . exact ⟨0,[],by omega,by simp,ha.weaken<|sc rfl<|sc rfl<|sc rfl<|sc rfl sn,hJ1,ho,hr1,hv7⟩
    . rintro m a w ⟨k,pre,hkm,hpre,hsat,hJw,how,hrw,hvw⟩
      refine f_K (N:=18) (e:=[(9,vI (k:Int)),(8,vI (parts.length:Int)),(7,sl ao7 parts.length c7),(0,.func (.yield l) #[] #[])]) ?_ hsat;refine a_g<|a_B<|R rfl (f_3 rfl rfl)<|a_j<|WC.of_KC ?_;refine a_g<|c_8 rfl (λhc=>?_)<|λhc=>?_
      . have hk:k<parts.length:=by simpa using hc
        obtain ⟨m,rfl⟩:∃m',m=m'+1:=⟨m - 1,by omega⟩;refine a_5<|WC.of_KC ?_;refine a_g<|d_l ?_;refine a_g<|a_B ?_;have hrep:=hvw.repS (B:=w.heap.size)<|λk hk=>how.lt k hk;have hidx:idx parts (k:Int)=some parts[k]:=by rw [k_q];simp [hk]
        refine RX rfl (f_F (α:=Str) D_ z_9 rfl rfl rfl hrep hidx) ?_;rintro _ ⟨bb,oo,cs,rfl,hc1,hrr,hlt⟩;obtain ⟨rfl,hxl⟩:=a_h hrr;refine R rfl (b_x g_9 rfl (λh=>h)<|hc1.at0 rfl) ?_;refine R rfl (c_O rfl) ?_;refine a_j<|WC.of_KC ?_;refine a_g<|o_Q ?_;refine e_C rfl (b_3 rfl) ?_;refine e_C rfl (b_3 rfl) ?_
        have hpl:pre.length=k:=by
          have:=congrArg List.length hpre
          simp at this;omega
        refine o_R (S:=λv w'=>(v=vB true/\J (pre++[⟨parts[k],List.getElem_mem hk,hxl⟩]) w'/\KpS b w w')∨(v=vB false/\Jx (pre++[⟨parts[k],List.getElem_mem hk,hxl⟩]) w')) rfl rfl rfl (hY pre ⟨parts[k],List.getElem_mem hk,hxl⟩ w hJw (by omega)) (λe w' h=>?_) ?_
        . rcases h with ⟨rfl,h⟩ | ⟨rfl,h⟩
          . exact ⟨_,rfl,.inl ⟨rfl,h⟩⟩
          . exact ⟨_,rfl,.inr ⟨rfl,h⟩⟩
        rintro v w' (⟨rfl,hJ',hK⟩ | ⟨rfl,hX⟩)
        . refine e_C rfl (d_t rfl) ?_
          refine j_H<|WC.of_KC ?_;refine c_8 rfl (λh=>by cases h)<|λ_=>?_;refine a_5<|WC.of_KC ?_;refine a_B<|R rfl (f_D hk hlenL rfl rfl)<|R rfl (b_3 rfl) ?_;obtain ⟨ho',hr'⟩:=hK.own how hb1 hrw
          have hv':d_g w' (· ∈ S1) (sl ao7 parts.length c7) parts:=hvw.stay λg hg=>hK.chg.block g (how.lt g hg) λhm=>by
            rcases hm with rfl | hm | ⟨o,ho2,hcl⟩
            . exact hb1 hg
            . exact hrw g hm hg
            . obtain ⟨cur,hB⟩:=d_E how g hg
              rw [hB.isCells ho2] at hcl;cases hcl
          refine a_j λa' ha'=>⟨m,Nat.lt_succ_self _,k+1,pre++[⟨parts[k],List.getElem_mem hk,hxl⟩],by omega,?_,ha'.weaken<|sc rfl<|sc rfl<|sc rfl<|sc rfl sn,hJ',ho',hr',hv'⟩
          rw [List.map_append,hpre,List.take_add_one,List.getElem?_eq_getElem hk];rfl
        . refine e_C rfl (d_t rfl) ?_
          refine j_H<|WC.of_KC ?_;refine c_8 rfl (λ_=>?_) (λh=>by cases h);exact c_M<|rtO λa' ha'=>.inr ⟨rfl,ret0 hr (.inr ⟨_,trivial,hX⟩) a' ha'⟩
      . have hk:¬k<parts.length:=by simpa using hc
        have:k=parts.length:=by omega
        subst this;refine f_v λa' ha'=>.inl ⟨rfl,ret0 hr (.inl ⟨pre,?_,hJw⟩) a' ha'⟩
        rw [hpre,List.take_length]
  refine callsIn_wide.2<|hc.run.mono λe w' ⟨v,he,h⟩=>⟨⟨v,he⟩,h⟩
theorem p_j {w0 W W':World}{row:Option Nat}(h:Below w0.heap.size w0 W)(hg:W.grownBy W' row)(hr:∀r,row=some r->w0.heap.size<=r):Below w0.heap.size w0 W':=c_a h (j_I hg) λk hk e=>absurd (hr k e)<|Nat.not_le.2 hk
def u_3 (w0:World)(s:Str)(v:Value)(w':World):Prop:=v = .func (.func 162) #[] #[pt w0.heap.size]/\Blk w' w0.heap.size [Str.v s]/\Bw w0 w'
theorem u_4 {w0:World}{s:Str}:i_ Tryz.prog 138 [Str.v s] w0 (u_3 w0 s):=by
  obtain ⟨_,hf,hb,hN,hr⟩:=fnE Tryz.func138;refine g_M hf (hb.trans rfl) (hN.trans rfl) (Nat.le_of_ble_eq_true rfl) ?_;refine a_g<|a_B ?_;refine E rfl (e_l rfl) ?_;rintro _ G ⟨rfl,h1⟩;refine R rfl (c_O rfl) ?_;refine a_j<|WC.of_KC ?_;refine a_g<|a_B ?_;refine R rfl (i_x rfl) ?_;refine R rfl (c_O rfl) ?_;refine a_j<|WC.of_KC ?_;exact c_M<|c_ hr rfl ⟨rfl,(h1.blk:Blk G w0.heap.size [Str.v s]),h1.below⟩
theorem W_w3m {n:Nat}{B:Zone}{x1:Str}{res:(List Str)×Bool}{w0:World}(hm:j_Q n x1=some res)(hBw:B<=w0.heap.size)(p1_0:x1.b.length<=LEN):i_ Tryz.prog 116 [(Str.v x1),.func (.func 118) #[] #[]] w0 (Q34 w0 B res):=by
  unfold j_Q at hm
  obtain ⟨fn,hf,hb,hN,hr⟩:=fnE Tryz.func116;refine o_T hf (hb.trans rfl) (hN.trans rfl) (Nat.le_of_ble_eq_true rfl) ?_
  -- the cells
  refine a_g<|a_B ?_;refine E rfl (e_l rfl) ?_;rintro _ w1 ⟨rfl,h1⟩;have b3:Blk w1 w0.heap.size [.func (.func 118) #[] #[]]:=h1.blk;refine E rfl (d_q k_6) ?_;rintro _ w2 ⟨rfl,h2⟩;have b4:Blk w2 w1.heap.size [.slice none 0 0]:=h2.blk;refine E rfl (d_q p_d) ?_;rintro _ w3 ⟨rfl,h3⟩;have b5:Blk w3 w2.heap.size [vB false]:=h3.blk;refine a_j<|WC.of_KC ?_;refine a_g<|a_B ?_;refine E rfl (e_o (α:=Str) a_w) ?_;rintro _ w4 ⟨a,m,c,rfl,s4,ho4⟩;refine E rfl (d_q k_6) ?_;rintro _ w5 ⟨rfl,h5⟩;have b6:Blk w5 w4.heap.size [.slice none 0 0]:=h5.blk;refine E0 (a_R (cur':=[.slice a m c]) c_L rfl rfl b6 rfl (Nat.le_of_ble_eq_true rfl) (a_X rfl) rfl) ?_;rintro _ w6 ⟨c6,s6⟩;have t6:=s6.one;refine a_j<|WC.of_KC ?_
  -- what is known behind
  have g1:=h1.below;have g2:=h2.below;have g3:=h3.below;have g5:=h5.below;have z1:=h1.size;have z2:=h2.size;have z3:=h3.size;have z5:=h5.size;have z4:=s4.size;have z6:=s6.size
  have hz:w0.heap.size<w1.heap.size/\w1.heap.size<w2.heap.size/\w2.heap.size<w3.heap.size/\w3.heap.size<w4.heap.size/\w4.heap.size<w6.heap.size:=by
    have:=ho4.lt _ List.mem_cons_self
    omega
  have k3:Blk w6 w0.heap.size [.func (.func 118) #[] #[]]:=((((b3.ext g2).ext g3).ext s4).ext g5).chg s6 (by omega);have k4:Blk w6 w1.heap.size [.slice none 0 0]:=(((b4.ext g3).ext s4).ext g5).chg s6 (by omega);have k5:Blk w6 w2.heap.size [vB false]:=((b5.ext s4).ext g5).chg s6 (by omega);have kS:a_ w6 [w3.heap.size] (sl a m c) ([]:List Str):=(ho4.ext g5).chg s6 (λk hk=>by have:=List.mem_singleton.1 hk;omega);have kB:Below w0.heap.size w0 w6:=c_j (bup (bup (bup (bup g1 g2) g3) s4) g5) t6 (λk hk=>by have:=List.mem_singleton.1 hk;omega)
  clear b3 b4 b5 b6 ho4 h1 h2 h3 h5 s4 s6 t6 g1 g2 g3 g5 z1 z2 z3 z4 z5 z6
  -- the first look
  refine a_g<|a_g<|a_B ?_;refine R rfl (b_3 rfl) ?_;refine R rfl (a_K rfl rfl) ?_;refine a_j<|WC.of_KC ?_;refine c_8 rfl (λhc=>?_)<|λhc=>?_
  . obtain rfl:=som (ifT hm hc)
    refine a_g<|a_B ?_;refine R rfl (b_x a_t rfl (λh=>h)<|c6.at rfl) ?_;refine E0 (a_R (cur':=[.slice a m c]) c_L rfl rfl k4 rfl (Nat.le_of_ble_eq_true rfl) (a_X rfl) rfl) ?_;rintro _ w7 ⟨c7,s7⟩;refine E0 (a_R (cur':=[vB true]) z_4 rfl rfl (k5.chg s7 (by omega)) rfl (Nat.le_of_ble_eq_true rfl) (a_X rfl) rfl) ?_;rintro _ w8 ⟨c8,s8⟩;refine a_j<|WC.of_KC ?_;refine c_M λa' ha'=>retM<|a_9 hr (b_X (n:=1) a_t rfl<|c7.chg s8 (by omega)) (b_X (n:=1) g_4 rfl c8) ⟨c_j (c_j kB s7.one (λk hk=>by have:=List.mem_singleton.1 hk;omega)) s8.one (λk hk=>by have:=List.mem_singleton.1 hk;omega),?_⟩ a' ha'
    exact ⟨a,m,c,_,rfl,(kS.chg s7 (λk hk=>by have:=List.mem_singleton.1 hk;omega)).chg s8 (λk hk=>by have:=List.mem_singleton.1 hk;omega),(by simp),λk hk=>by have:=List.mem_singleton.1 hk;omega⟩
  replace hm:=ifF hm hc;refine a_5<|WC.of_KC ?_
  -- the first byte
  refine a_g<|a_g<|a_B ?_;refine R rfl (b_3 rfl) ?_;obtain ⟨x13,e13,hm⟩:=bdS hm;refine R rfl (c_0 d_9 rfl rfl (a_p e13).1 (a_p e13).2.1) ?_;refine R rfl (f_O rfl rfl) ?_;refine a_j<|WC.of_KC ?_;refine c_8 rfl (λhc=>?_)<|λhc=>?_
  . obtain rfl:=som (ifT hm hc)
    refine a_g<|a_B ?_;refine R rfl (b_x a_t rfl (λh=>h)<|c6.at rfl) ?_;refine E0 (a_R (cur':=[.slice a m c]) c_L rfl rfl k4 rfl (Nat.le_of_ble_eq_true rfl) (a_X rfl) rfl) ?_;rintro _ w7 ⟨c7,s7⟩;refine E0 (a_R (cur':=[vB false]) z_4 rfl rfl (k5.chg s7 (by omega)) rfl (Nat.le_of_ble_eq_true rfl) (a_X rfl) rfl) ?_;rintro _ w8 ⟨c8,s8⟩;refine a_j<|WC.of_KC ?_;refine c_M λa' ha'=>retM<|a_9 hr (b_X (n:=1) a_t rfl<|c7.chg s8 (by omega)) (b_X (n:=1) g_4 rfl c8) ⟨c_j (c_j kB s7.one (λk hk=>by have:=List.mem_singleton.1 hk;omega)) s8.one (λk hk=>by have:=List.mem_singleton.1 hk;omega),?_⟩ a' ha'
    exact ⟨a,m,c,_,rfl,(kS.chg s7 (λk hk=>by have:=List.mem_singleton.1 hk;omega)).chg s8 (λk hk=>by have:=List.mem_singleton.1 hk;omega),(by simp),λk hk=>by have:=List.mem_singleton.1 hk;omega⟩
  replace hm:=ifF hm hc;refine a_5<|WC.of_KC ?_;obtain ⟨l0,hsp,hm⟩:=bdS hm;obtain ⟨parts,hsl,hm⟩:=bdS hm;obtain ⟨oks,hok,hm⟩:=bdS hm
  split at hm
  case isFalse=>cases hm
  rename_i hlim
  obtain rfl:=som hm;obtain ⟨hacc,hall⟩:=l_x hok
  -- the loop
  refine a_g<|a_g<|a_B ?_;refine R rfl (b_3 rfl) ?_;refine E rfl (e_m Tryz.call138 rfl u_4) ?_;rintro _ w7 ⟨rfl,bp,s7⟩;refine a_j<|WC.of_KC ?_;replace k3:=k3.ext s7;replace k4:=k4.ext s7;replace k5:=k5.ext s7;replace c6:=c6.ext s7;replace kS:=kS.ext s7;replace kB:=bup kB<|s7.mono<|Nat.le_refl _;have z7:=s7.size
  have hrow:∀g,c_5 w7 w4.heap.size g->g<w7.heap.size:=λg hg=>by
    have h1:=l_w c6 hg;exact kS.lt _<|(h_c kS).2 g 0 none h1
  generalize w1.heap.size=q4 at *
  generalize w2.heap.size=q5 at *
  generalize w4.heap.size=q6 at *
  refine o_U (α:={x:Str // x∈parts/\x.b.length<=LEN}) (f:=λx=>x.1) (gf:=162) (lb:=[pt w6.heap.size]) (b:=q6) (M:=parts.length) (S:=λxs=>xs.map (·.1)=parts) (Sp:=λ_=>True) rfl Tryz.call162 rfl rfl (by omega)
    (u_2 p1_0 hsp hsl bp (by omega) hrow)
    (λpre W=>(∀x∈pre,(e_K n x.1).getD false=true)/\(∃(a:Option Addr)(m c:Nat)(S:List Nat),Blk W q6 [.slice a m c]/\a_ W S (sl a m c) (pre.map (·.1))/\S.Nodup/\(∀k∈S,q5<k/\k ≠ q6))/\Blk W w0.heap.size [.func (.func 118) #[] #[]]/\Blk W q4 [.slice none 0 0]/\Blk W q5 [vB false]/\Below w0.heap.size w0 W)
    (λpre W=>(∃x∈pre,(e_K n x.1).getD false=false)/\(∃(a:Option Addr)(m c:Nat)(S:List Nat),Blk W q4 [.slice a m c]/\a_ W S (sl a m c) ([]:List Str)/\S.Nodup/\(∀k∈S,w0.heap.size<=k))/\Blk W q5 [vB false]/\Below w0.heap.size w0 W)
    ?_ ?_ ?_ ?_ ?_ ?_
  . rintro pre W W' row ⟨h1,⟨a,m,c,S,h2,h3,h4,h5⟩,h6,h7,h8,h9⟩ hg hr
    have hr':=λr e=>(hr r e).2
    exact ⟨h1,⟨a,m,c,S,h2.grown hg hr',j_L h3 hg hr',h4,h5⟩,h6.grown hg hr',h7.grown hg hr',h8.grown hg hr',p_j h9 hg λr e=>Nat.le_trans (by omega) (hr r e).1⟩
  . rintro pre W W' row ⟨h1,⟨a,m,c,S,h2,h3,h4,h5⟩,h8,h9⟩ hg hr
    have hr':=λr e=>(hr r e).2
    exact ⟨h1,⟨a,m,c,S,h2.grown hg hr',j_L h3 hg hr',h4,h5⟩,h8.grown hg hr',p_j h9 hg λr e=>Nat.le_trans (by omega) (hr r e).1⟩
  . exact ⟨λx hx=>(by cases hx),⟨a,m,c,_,c6,kS,(by simp),λk hk=>by have:=List.mem_singleton.1 hk;omega⟩,k3,k4,k5,kB⟩
  . rintro l pre ⟨x,hx,hxl⟩ W ⟨h1,⟨a,m,c,S,h2,h3,h4,h5⟩,h6,h7,h8,h9⟩ hlt
    refine o_P<|g_a<|g_a<|g_8 rfl (λ_ _ h=>by cases h.1) ?_;refine R rfl (b_x g_148 rfl (λh=>h)<|h6.at rfl) ?_;refine R rfl (b_3 rfl) ?_;refine E rfl (d_N (caps:=[]) Tryz.call118 rfl rfl<|W_w1y (hacc x hx) zr hxl) ?_;rintro _ W1 ⟨s1,rfl⟩;refine R rfl (d_t rfl) ?_;refine a_j<|WCI.of_KC ?_;have y1:=s1.size;have hq6:=h2.lt;have hw0.heap.size:=h6.lt;have hq4:=h7.lt;have hq5:=h8.lt;refine o_M rfl (λhc=>?_)<|λhc=>?_
    . refine g_a (g_8 rfl (λ_ _ h=>by cases h.1) ?_)
      refine E rfl (e_o (α:=Str) a_w) ?_;rintro _ W2 ⟨a2,m2,c2,rfl,s2,ho2⟩;refine E0 (a_R (cur':=[.slice a2 m2 c2]) c_L rfl rfl ((h7.ext s1).ext s2) rfl (Nat.le_of_ble_eq_true rfl) (a_X rfl) rfl) ?_;rintro _ W3 ⟨c3,s3⟩;refine E0 (a_R (cur':=[vB false]) z_4 rfl rfl (((h8.ext s1).ext s2).chg s3 (by omega)) rfl (Nat.le_of_ble_eq_true rfl) (a_X rfl) rfl) ?_;rintro _ W4 ⟨c4,s4⟩;refine a_j<|WCI.of_KC ?_;have hW:Below W.heap.size W W2:=bup s1 s2
      have hc4:Chg (λk=>k=q4∨k=q5) W W4:=by
        have e1:Chg (λk=>k=q4∨k=q5) W W2:=(Chg.refl _ W).ext hW;refine (e1.comp s3 λk _ hk=>.inl hk).comp s4 λk _ hk=>.inr hk
      refine o_O λ_ q=>⟨rfl,j_K hc4 λk _ hk=>?_,⟨⟨x,hx,hxl⟩,by simp,by simpa using hc⟩,⟨a2,m2,c2,_,c3.chg s4 (by omega),(ho2.chg s3 λk hk=>by have:=List.mem_singleton.1 hk;omega).chg s4 λk hk=>by have:=List.mem_singleton.1 hk;omega,(by simp),λk hk=>by have:=List.mem_singleton.1 hk;omega⟩,c4,?_⟩
      . rcases hk with rfl | rfl
        . exact ⟨_,h7⟩
        . exact ⟨_,h8⟩
      . exact c_a h9 hc4 λk hk hm=>by rcases hm with rfl | rfl <;> omega
    . refine o_N (WCI.of_KC ?_)
      refine g_8 rfl (λ_ _ h=>by cases h.1) ?_
      have hpsh:psh (pre.map (·.1)) x=some (pre.map (·.1)++[x]):=by
        unfold psh
        rw [if_pos (by rw [List.length_map];omega)]
      refine R rfl (b_x a_t rfl (λh=>h)<|(h2.ext s1).at rfl) ?_;refine R rfl (b_3 rfl) ?_;refine E rfl (f_y [(.tmp 25)] a_w rfl rfl rfl (b_l rfl) (Nat.le_of_ble_eq_true rfl)<|Nat.le_of_ble_eq_true rfl) ?_;rintro _ W2 ⟨rfl,hb⟩;have s2:=hb.below;have y2:=s2.size;refine E rfl (b_W (α:=Str) a_w hpsh rfl rfl ((h3.ext s1).ext s2) h4 hb.blk (b_k hxl) all_nil U_) ?_;rintro _ W3 ⟨S',a',n',c',rfl,s3,ho3,nd3,hs3⟩;have y3:=s3.size
      have n3:∀k,k<W.heap.size->k<=q5∨k=q6->k∉S':=λk hk hq hm=>by
        rcases hs3 k hm with h | h | h
        . have:=h5 k h;omega
        . cases h
        . omega
      refine E0 (a_R (cur':=[.slice a' n' c']) c_L rfl rfl (((h2.ext s1).ext s2).chg s3 (λhm=>(h5 _ hm).2 rfl)) rfl (Nat.le_of_ble_eq_true rfl) (a_X rfl) rfl) ?_;rintro _ W4 ⟨c4,s4⟩;have hW:Below W.heap.size W W2:=bup s1 s2
      have hc4:Chg (λk=>k=q6∨k∈S) W W4:=by
        have e1:Chg (λk=>k=q6∨k∈S) W W2:=(Chg.refl _ W).ext hW;refine (e1.comp s3 λk _ hk=>.inr hk).comp s4 λk _ hk=>.inl hk
      have ho4:a_ W4 S' (sl a' n' c') (pre.map (·.1)++[x]):=ho3.chg s4 λk hk he=>n3 q6 hq6 (.inr rfl)<|he ▸ hk
      have hs4:∀k∈S',k∈S∨W.heap.size<=k:=λk hk=>by
        rcases hs3 k hk with h | h | h
        . exact .inl h
        . cases h
        . exact .inr (by omega)
      have k4:∀k,k<=q5->¬(k=q6∨k∈S):=λk hk hm=>by
        rcases hm with rfl | hm
        . omega
        . have:=h5 k hm;omega
      refine a_j λa'' ha''=>⟨j_K hc4 λk _ hk=>?_,KpS.of_chg h2 h3 c4 ho4 hs4 hc4,λy hy=>?_,⟨a',n',c',S',c4,by simpa using ho4,nd3,λk hk=>?_⟩,h6.chg hc4<|k4 _ (by omega),h7.chg hc4<|k4 _ (by omega),h8.chg hc4<|k4 _ (by omega),c_a h9 hc4 λk hk hm=>k4 k (by omega) hm⟩
      . rcases hk with rfl | hk
        . exact ⟨_,h2⟩
        . exact d_E h3 k hk
      . rcases List.mem_append.1 hy with hy | hy
        . exact h1 y hy
        . obtain rfl:=List.mem_singleton.1 hy
          simpa using hc
      . rcases hs4 k hk with h | h
        . exact h5 k h
        . omega
  . rintro D xs W hD hxs ⟨h1,⟨a,m,c,S,h2,h3,h4,h5⟩,h6,h7,h8,h9⟩ hdef a0 ha0
    have hw0.heap.size:=h6.lt;have hq4:=h7.lt;have hq5:=h8.lt;refine tailD ?_ ha0;refine R rfl (b_x a_t rfl (λh=>h)<|h2.at rfl) ?_;refine E0 (a_R (cur':=[.slice a m c]) c_L rfl rfl h7 rfl (Nat.le_of_ble_eq_true rfl) (a_X rfl) rfl) ?_;rintro _ W1 ⟨c7,s7⟩;refine E0 (a_R (cur':=[vB true]) z_4 rfl rfl (h8.chg s7 (by omega)) rfl (Nat.le_of_ble_eq_true rfl) (a_X rfl) rfl) ?_;rintro _ W2 ⟨c8,s8⟩;have hDlt:=(Array.getElem?_eq_some_iff.1 hdef).1;have hdef2:W2.heap[D]? = some (.deferred<|some []):=((s8.block D (Nat.lt_of_lt_of_le hDlt s7.size) (by omega)).trans (s7.block D hDlt (by omega))).trans hdef
    have hDS:∀k∈S,k ≠ D:=λk hk e=>by
      obtain ⟨cur,hB⟩:=d_E h3 k hk;have:=(e ▸ hB).isCells hdef
      cases this
    have hoks:oks.all id=true:=hall.2 λy hy=>by
      rw [← hxs] at hy
      obtain ⟨z,hz,rfl⟩:=List.mem_map.1 hy;exact h1 z hz
    rw [if_pos hoks]
    refine a_j λa' ha'=>⟨ha'.defers,hdef2,?_⟩
    have hp:=j_J W2 D<|.deferred none;obtain ⟨_,v,e1,e2⟩:=a_9 (R:=Q34 w0 B (parts,true)) hr (b_X (n:=1) a_t rfl<|(c7.chg s8 (by omega)).chg hp (by omega)) (b_X (n:=1) g_4 rfl<|c8.chg hp (by omega)) ⟨c_a (c_a (c_a h9 s7 λk hk e=>by omega) s8 λk hk e=>by omega) hp λk hk e=>by omega,a,m,c,S,rfl,((hxs ▸ h3).chg s7 λk hk e=>by have:=h5 k hk;omega).chg s8 (λk hk e=>by have:=h5 k hk;omega) |>.chg hp λk hk e=>hDS k hk e,h4,λk hk=>by have:=h5 k hk;omega⟩ a' ha';exact ⟨v,e1,e2⟩
  . rintro D pre W hD _ ⟨⟨⟨x,hx,hxl⟩,hxm,hxb⟩,⟨a,m,c,S,h2,h3,h4,h5⟩,h8,h9⟩ hdef a0 ha0
    have hq4:=h2.lt;have hq5:=h8.lt
    have hDS:∀k∈S,k ≠ D:=λk hk e=>by
      obtain ⟨cur,hB⟩:=d_E h3 k hk;have:=(e ▸ hB).isCells hdef
      cases this
    have hoks:¬oks.all id=true:=λh=>by
      have:=hall.1 h x hx
      rw [this] at hxb;cases hxb
    rw [if_neg hoks]
    have hp:=j_J W D<|.deferred none;obtain ⟨_,v,e1,e2⟩:=a_9 (R:=Q34 w0 B ([],false)) hr (b_X (n:=1) a_t rfl<|h2.chg hp (by omega)) (b_X (n:=1) g_4 rfl<|h8.chg hp (by omega)) ⟨c_a h9 hp λk hk e=>by omega,a,m,c,S,rfl,h3.chg hp λk hk e=>hDS k hk e,h4,h5⟩ a0 ha0;exact retD ha0.defers hdef e1 e2
theorem W_w3n {x1:Str}{res:(List Str)×Bool}(hm:g_k n x1=some res)(H:B<=w0.z)(G:x1.b.length<=LEN):i_ prog 64 [Str.v x1] w0 (Q33 w0 B res):=by
 unfold g_k at hm
 refine goG func64 z z z λfn hr=>Ws<|Ra z<|Rw z<|Wm z ?_
 obtain ⟨_,_,J,I⟩:=a_8 hm;refine E z (fc call116 z<|W_w3m (B:=B) J H G) ?_;rintro _ _ ⟨s2,L,O,V,W,rfl,Y,h8,h9⟩;refine Re z z z<|Re z z z<|Ra z<|Rw z ?_
 obtain rfl:=som I;exact Wr<|a_9 hr z z ⟨s2,L,O,V,W,z,Y,h8,h9⟩
theorem W_w3o {x1:List Str}{x2:Int}{x3:Str}{res:Bool}(hm:i_6 x1 x2 x3=some res)(L:B<=w0.z)(H:repS w0 B (sl A0 N0 C0) x1)(a0:inI x2)(J:x3.b.length<=LEN):i_ prog 141 [sl A0 N0 C0,vI x2,Str.v x3] w0 (Q7 w0 B res):=by
 unfold i_6 at hm
 refine goG func141 z z z λfn hr=>Ws<|Rw z<|Wq<|Wm z<|Rm z ?_
 obtain ⟨_,W,I⟩:=bdS hm;refine RX z (at_ (α:=Str) k_5 z_9 z z z H W) ?_;rintro _ ⟨_,_,_,rfl,h3,h4,_⟩;obtain ⟨rfl,_⟩:=a_h h4;refine R z (l0 g_9 z<|h3.at0 z)<|R z (a_K z z)<|Wx z (λG=>?_) (λG=>?_)
 .refine Wm z ?_
  obtain ⟨_,_,Y,O⟩:=a_8<|ifT I G;refine E z (fc call140 z<|W_w1x (B:=B) Y L J) ?_;rintro _ _ ⟨s7,rfl,_⟩;refine Rm z<|Re z z z<|Re z z z<|Ra z<|Rw z<|Wm z<|Rw z ?_
  obtain rfl:=som O;exact Wr<|c_ hr z ⟨s7,z⟩
 refine Wk<|Wm z<|Rm z ?_
 obtain ⟨_,e8,V⟩:=bdS<|ifF I G;refine RX z (at_ (α:=Str) k_5 z_9 z z z H e8) ?_;rintro _ ⟨_,_,_,rfl,ha,hb,_⟩;obtain ⟨rfl,_⟩:=a_h hb;refine R z (l0 g_9 z<|ha.at0 z)<|Rm z<|R z (a_K z z)<|Rw z ?_
 obtain rfl:=som V;exact Wr<|c_ hr z ⟨br w0,z⟩
theorem W_w3p {x1:List Str}{x2:List Str}{res:Bool}(hm:j_X x1 x2=some res)(a5:B<=w0.z)(Y:repS w0 B (sl A0 N0 C0) x1)(a0:repS w0 B (sl A5 N5 C5) x2):i_ prog 119 [sl A0 N0 C0,sl A5 N5 C5] w0 (Q7 w0 B res):=by
 unfold j_X at hm
 refine goG func119 z z z λfn hr=>Ws<|Rw z<|Wm z<|R z (lnR D_ z a0)<|R z (add_ z z) ?_
 obtain ⟨_,bg,aI⟩:=bdS hm;refine E z (d_P (α:=Bool) k_1 (λ_=>b_q) bg z z) ?_;rintro _ _ ⟨bh,bi,bj,rfl,sz,an⟩;refine Rw z<|Wm z ?_
 obtain ⟨_,ao,aJ⟩:=bdS aI;refine RX z (b_8 (α:=Bool) b_7 z_4 z z an ao) ?_;rintro _ ⟨_,bk,rfl⟩;refine E0 (b_9 (α:=Bool) z_4 z bk z z z ao an a_I b_q an_ U_) ?_;rintro _ wi ⟨Sm,a6,bm,bn,_⟩;refine Wn<|Wq<|Wm z ?_
 have a7:=(sz.ag B).c a6<|e_ (or0 (f_ lr) (p_ a5):∀k∈[w0.z],¬B k)
 refine R z (lnR k_5 z<|Y.g a7)<|Rm z<|Wn ?_
 obtain ⟨_,aK,ae⟩:=bdS aJ;refine Wf (σ:=List Bool) (ρ:=Bool) (λ(k7:Nat)(xe:List Bool) a w=>∃J L O Sd,Sat 82 [(0,sl A0 N0 C0),(1,sl A5 N5 C5),(5,sl J L O),(16,vI (x1.length:Int)),(17,vI ((k7:Nat):Int))] a/\Below wi.z wi w/\a_ w Sd (sl J L O) xe/\Sd.Nodup/\(∀k∈Sd,k∈Sm∨wi.z<=k)) (λ(xe:List Bool) a w=>∃J L O Sd,Sat 82 [(1,sl A5 N5 C5),(5,sl J L O)] a/\Below wi.z wi w/\a_ w Sd (sl J L O) xe/\Sd.Nodup/\(∀k∈Sd,k∈Sm∨wi.z<=k)) (rQ prog fn<|Q7 w0 B) aK ?_ ?_ ?_ ?_ ?_
 .exact λ_ q=>⟨bh,bi,bj,Sm,q.k<|s5 z z z z z,br wi,bm,bn,io sr⟩
 .rintro k7 xe _ I _ a1 ⟨J,L,O,Sd,aL,sn,hf,a8,aa⟩ aM;refine Wu ?_ aL;refine Ws<|Rl z z z<|Wn<|Wq<|Wc z (λ_=>?_) (λhc=>(Q_ a1 hc).elim)
  refine Wk<|Wq<|Wb<|Wm z<|Rw z<|Wm z ?_
  have ap:=a7.e sn;refine R z (lnR D_ z<|a0.g ap)<|R z (add_ z z) ?_
  obtain ⟨_,bo,aN⟩:=bdS aM;refine E z (d_P (α:=Bool) k_1 (λ_=>b_q) bo z z) ?_;rintro _ V ⟨W,na,cb,rfl,st,bp⟩;refine Rw z<|Wq<|Wm z ?_
  have ab:=hf.e st;refine R z (lnR b_7 z<|or_ ab<|a_.lt hf)<|Rm z<|Wn ?_
  obtain ⟨_,aO,af⟩:=bdS aN;refine Wf (σ:=List Bool) (ρ:=Bool) (λ(kl:Nat)(xk:List Bool) a w=>∃(G:List Nat),Sat 82 [(0,sl A0 N0 C0),(1,sl A5 N5 C5),(5,sl J L O),(6,vI ((k7:Nat):Int)),(7,sl W na cb),(16,vI (x1.length:Int)),(17,vI ((k7:Nat):Int)),(25,vI (xe.length:Int)),(26,vI ((kl:Nat):Int))] a/\Cg [I.z] V w/\a_ w G (sl W na cb) xk/\G.Nodup/\(∀k∈G,k∈[I.z]∨V.z<=k)) (λ(xk:List Bool) a w=>∃(G:List Nat),Sat 82 [(0,sl A0 N0 C0),(1,sl A5 N5 C5),(7,sl W na cb),(16,vI (x1.length:Int)),(17,vI ((k7:Nat):Int))] a/\Cg [I.z] V w/\a_ w G (sl W na cb) xk/\G.Nodup/\(∀k∈G,k∈[I.z]∨V.z<=k)) (rQ prog fn<|Q7 w0 B) aO ?_ ?_ ?_ ?_ ?_
  .exact λ_ q=>⟨[I.z],q.k<|s9 z z z z z z z z z,cr [I.z] V,bp,a_I,io sr⟩
  .rintro kl xk _ H _ ah ⟨G,aP,so,h3,hj,hu⟩ aQ;refine Wu ?_ aP;refine Ws<|Rl z z z<|Wn<|Wq<|Wc z (λ_=>?_) (λhc=>(Q_ ah hc).elim)
   refine Wk<|Wq<|Wb<|Wm z<|Rw z<|Wb<|Wm z<|Rm z ?_
   obtain ⟨_,bq,aR⟩:=bdS aQ;have aq:=lt_ (lt_ sz.s a6.s) sn.s;have ar:=(ap.e st).c so<|e_ (or0 (f_ lr) (p_<|zt' a5 aq):∀k∈[I.z],¬B k)
   have au:=Y.g ar;refine RX z (at_ (α:=Str) k_5 z_9 z z z au bq) ?_;rintro _ ⟨_,_,_,rfl,bt,bu,_⟩;obtain ⟨rfl,_⟩:=a_h bu;refine R z (l0 g_9 z<|bt.at0 z)<|R z (a_K z z)<|Rw z ?_
   obtain ⟨bv,ai,aS⟩:=bdS aR;refine Wt (λa w=>∃(xv:List Bool),xv=bv/\∃(Sp:List Nat),Sat 82 [(0,sl A0 N0 C0),(1,sl A5 N5 C5),(5,sl J L O),(6,vI ((k7:Nat):Int)),(7,sl W na cb),(16,vI (x1.length:Int)),(17,vI ((k7:Nat):Int)),(25,vI (xe.length:Int)),(26,vI ((kl:Nat):Int))] a/\Cg G H w/\a_ w Sp (sl W na cb) xv/\Sp.Nodup/\(∀k∈Sp,k∈G∨H.z<=k)) ?_ ?_
   .refine Wc z (λa2=>?_)<|λa2=>?_
    .obtain ⟨bw,aT,aU⟩:=bdS<|ifT ai a2;refine Wt (λa w=>∃(xw:List Bool),xw=bw/\∃(Sq:List Nat),Sat 82 [(0,sl A0 N0 C0),(1,sl A5 N5 C5),(5,sl J L O),(6,vI ((k7:Nat):Int)),(7,sl W na cb),(16,vI (x1.length:Int)),(17,vI ((k7:Nat):Int)),(25,vI (xe.length:Int)),(26,vI ((kl:Nat):Int))] a/\Cg G H w/\a_ w Sq (sl W na cb) xw/\Sq.Nodup/\(∀k∈Sq,k∈G∨H.z<=k)) ?_ ?_
     .refine Wg<|RM z z<|RM z z ?_
      obtain ⟨bx,bz,aj⟩:=bdS aT;refine RX z (at_ (α:=Bool) b_7 z_4 z z z (or_ (ab.c so<|ds<|mnr<|a_.lt hf)<|a_.lt hf) bz) ?_;rintro _ ⟨_,_,_,rfl,bA,bB,_⟩;obtain rfl:=d_O bB;refine R z (l0 g_4 z<|bA.at0 z)<|Rm z ?_
      rcases bs bx with hcc | hcc
      .iterate 3 refine Nh z hcc ?_
       refine Nv z<|Nv z<|Nv z<|Nv z<|Nv z<|Nh z hcc<|R z (pT z hcc z) ?_
       obtain ⟨bC,av,aV⟩:=bdS<|ifT aj hcc;refine RX z (b_8 (α:=Bool) b_7 z_4 z z h3 av) ?_;rintro _ ⟨_,bD,rfl⟩;refine E0 (b_9 (α:=Bool) z_4 z bD z z z av h3 hj b_q an_ U_) ?_;rintro _ bE ⟨aw,bF,bG,bH,bI⟩;refine Wl ?_;exact λ_ q=>⟨bC,som aV,aw,q.k<|s9 z z z z z z z z z,(cM (cr G H) bF (io sr):Cg G H bE),bG,bH,(or2 bI (io sr) an_ (l_ lr):∀k∈aw,k∈G∨H.z<=k)⟩
      have ak:=ifF aj hcc;refine Rh z hcc (mv z)<|Rh z hcc (a_b z z)<|Rh z hcc (mv z) ?_
      rcases bs (decide<|0<((kl:Nat):Int)) with hcg | hcg
      .refine Rh z hcg (mv z)<|Rh z hcg (mv z)<|Rh z hcg (sb_ z z) ?_
       obtain ⟨_,bJ,aW⟩:=bdS<|ifT ak hcg;refine RXg z z hcg z (at_ (α:=Bool) b_7 z_4 z z z (a_.rep h3) bJ) ?_;rintro _ ⟨_,_,_,rfl,bK,bL,_⟩;obtain rfl:=d_O bL;refine Rh z hcg (l0 g_4 z<|bK.at0 z)<|Rh z hcc (pT z hcg z)<|R z (pF z hcc z) ?_
       obtain ⟨bN,ax,aX⟩:=bdS aW;refine RX z (b_8 (α:=Bool) b_7 z_4 z z h3 ax) ?_;rintro _ ⟨_,bO,rfl⟩;refine E0 (b_9 (α:=Bool) z_4 z bO z z z ax h3 hj b_q an_ U_) ?_;rintro _ bP ⟨ay,bQ,bR,bS,bT⟩;refine Wl ?_;exact λ_ q=>⟨bN,som aX,ay,q.k<|s9 z z z z z z z z z,(cM (cr G H) bQ (io sr):Cg G H bP),bR,bS,(or2 bT (io sr) an_ (l_ lr):∀k∈ay,k∈G∨H.z<=k)⟩
      iterate 5 refine Nh z hcg ?_
      refine Rh z hcc (pF z hcg z)<|R z (pF z hcc z) ?_
      obtain ⟨bU,az,aY⟩:=bdS<|ifF ak hcg;refine RX z (b_8 (α:=Bool) b_7 z_4 z z h3 az) ?_;rintro _ ⟨_,bV,rfl⟩;refine E0 (b_9 (α:=Bool) z_4 z bV z z z az h3 hj b_q an_ U_) ?_;rintro _ bW ⟨aA,bX,bY,bZ,c0⟩;refine Wl ?_;exact λ_ q=>⟨bU,som aY,aA,q.k<|s9 z z z z z z z z z,(cM (cr G H) bX (io sr):Cg G H bW),bY,bZ,(or2 c0 (io sr) an_ (l_ lr):∀k∈aA,k∈G∨H.z<=k)⟩
     rintro c1 c2 ⟨xw,rfl,Sq,_,c3,c4,c5,c7⟩;revert c1;exact λ_ q=>⟨xw,som aU,Sq,q.k<|s9 z z z z z z z z z,(cM (cr G H) c3 (io sr):Cg G H c2),c4,c5,(or1 c7 (io sr) (l_ lr):∀k∈Sq,k∈G∨H.z<=k)⟩
    refine Wm z<|R z (a_b z z)<|Rw z ?_
    obtain ⟨c8,al,aZ⟩:=bdS<|ifF ai a2;refine Wt (λa w=>∃(xx:List Bool),xx=c8/\∃(Sr:List Nat),Sat 82 [(0,sl A0 N0 C0),(1,sl A5 N5 C5),(5,sl J L O),(6,vI ((k7:Nat):Int)),(7,sl W na cb),(16,vI (x1.length:Int)),(17,vI ((k7:Nat):Int)),(25,vI (xe.length:Int)),(26,vI ((kl:Nat):Int))] a/\Cg G H w/\a_ w Sr (sl W na cb) xx/\Sr.Nodup/\(∀k∈Sr,k∈G∨H.z<=k)) ?_ ?_
    .refine Wc z (λa3=>?_)<|λa3=>?_
     .obtain ⟨c9,b0,b1⟩:=bdS<|ifT al a3;refine Wt (λa w=>∃(xy:List Bool),xy=c9/\∃(Ss:List Nat),Sat 82 [(0,sl A0 N0 C0),(1,sl A5 N5 C5),(5,sl J L O),(6,vI ((k7:Nat):Int)),(7,sl W na cb),(16,vI (x1.length:Int)),(17,vI ((k7:Nat):Int)),(25,vI (xe.length:Int)),(26,vI ((kl:Nat):Int))] a/\Cg G H w/\a_ w Ss (sl W na cb) xy/\Ss.Nodup/\(∀k∈Ss,k∈G∨H.z<=k)) ?_ ?_
      .refine Wg<|RM z z<|RM z z<|R z (sb_ z z) ?_
       obtain ⟨ca,cc,am⟩:=bdS b0;refine RX z (at_ (α:=Bool) b_7 z_4 z z z (or_ (ab.c so<|ds<|mnr<|a_.lt hf)<|a_.lt hf) cc) ?_;rintro _ ⟨_,_,_,rfl,cd,ce,_⟩;obtain rfl:=d_O ce;refine R z (l0 g_4 z<|cd.at0 z)<|Rm z ?_
       rcases bs ca with hch | hch
       .iterate 4 refine Rh z hch (mv z) ?_
        refine Rh z hch (sb_ z z) ?_;obtain ⟨_,cf,b2⟩:=bdS<|ifT am hch;refine RXg z z hch z (at_ (α:=Str) D_ z_9 z z z (a0.g ar) cf) ?_;rintro _ ⟨_,_,_,rfl,cg,ch,_⟩;obtain ⟨rfl,ci⟩:=a_h ch;refine Rh z hch (l0 g_9 z<|cg.at0 z) ?_;obtain ⟨_,cj,b3⟩:=bdS b2;refine Eg z z hch z (fc call141 z<|W_w3o cj (zt' a5<|lt_ (lt_ aq st.s) so.s) au (ic (Nat.le_of_lt a1)<|lt_ (repS.len Y) B_) ci) ?_;rintro _ ck ⟨ad,rfl⟩;refine R z (pT z hch z) ?_;obtain ⟨cl,aB,b4⟩:=bdS b3;have aC:=h3.e ad;refine RX z (b_8 (α:=Bool) b_7 z_4 z z aC aB) ?_;rintro _ ⟨_,cm,rfl⟩;refine E0 (b_9 (α:=Bool) z_4 z cm z z z aB aC hj b_q an_ U_) ?_;rintro _ cn ⟨aD,co,cp,cq,ct⟩;refine Wl ?_;exact λ_ q=>⟨cl,som b4,aD,q.k<|s9 z z z z z z z z z,(cM (j_ (cr G H) ad:Cg G H ck) co (io sr):Cg G H cn),cp,cq,(or2 ct (io sr) an_ (l_ ad.s):∀k∈aD,k∈G∨H.z<=k)⟩
       iterate 8 refine Nh z hch ?_
       refine R z (pF z hch z) ?_;obtain ⟨cu,aE,b5⟩:=bdS<|ifF am hch;refine RX z (b_8 (α:=Bool) b_7 z_4 z z h3 aE) ?_;rintro _ ⟨_,cv,rfl⟩;refine E0 (b_9 (α:=Bool) z_4 z cv z z z aE h3 hj b_q an_ U_) ?_;rintro _ cw ⟨aF,cx,cy,cz,cA⟩;refine Wl ?_;exact λ_ q=>⟨cu,som b5,aF,q.k<|s9 z z z z z z z z z,(cM (cr G H) cx (io sr):Cg G H cw),cy,cz,(or2 cA (io sr) an_ (l_ lr):∀k∈aF,k∈G∨H.z<=k)⟩
      rintro cB cC ⟨xy,rfl,Ss,_,cD,cE,cF,cG⟩;revert cB;exact λ_ q=>⟨xy,som b1,Ss,q.k<|s9 z z z z z z z z z,(cM (cr G H) cD (io sr):Cg G H cC),cE,cF,(or1 cG (io sr) (l_ lr):∀k∈Ss,k∈G∨H.z<=k)⟩
     exact a_5<|λ_ q=>⟨xk,som<|ifF al a3,G,q.k<|s9 z z z z z z z z z,cr G H,h3,hj,io sr⟩
    rintro cH cI ⟨xx,rfl,Sr,_,cJ,cK,cL,cN⟩;revert cH;exact λ_ q=>⟨xx,som aZ,Sr,q.k<|s9 z z z z z z z z z,(cM (cr G H) cJ (io sr):Cg G H cI),cK,cL,(or1 cN (io sr) (l_ lr):∀k∈Sr,k∈G∨H.z<=k)⟩
   rintro cO cP ⟨xv,rfl,Sp,_,cQ,cR,cS,cT⟩;revert cO;refine Wo<|Wg<|R z (inc_ ah (lt_ (a_.len hf) B_) z z)<|Rm z<|Wl ?_
   have aG:∀k∈G,k∈[I.z]∨V.z<=k:=or1 hu (io sr)<|l_ lr;exact λ_ q=>⟨xv,(som aS).symm,⟨Sp,q.k<|s9 z z z z z z z z z,(cM (cM (cr [I.z] V) so (io sr):Cg [I.z] V H) cQ aG:Cg [I.z] V cP),cR,cS,(or1 cT aG (l_ so.s):∀k∈Sp,k∈[I.z]∨V.z<=k)⟩⟩
  .rintro xk _ cU ⟨G,b6,cV,h3,hj,hu⟩;refine Wu ?_ b6;refine Ws<|Rl z z z<|Wn<|Wq<|Wc z (λhc=>(R_ hc).elim) (λ_=>?_)
   exact We<|λ_ q=>⟨rfl,⟨G,q.k<|s5 z z z z z,(cM (cr [I.z] V) cV (io sr):Cg [I.z] V cU),h3,hj,(or1 hu (io sr) (l_ lr):∀k∈G,k∈[I.z]∨V.z<=k)⟩⟩
  .rintro xk cW _ rfl ⟨G,_,cX,h3,hj,hu⟩;have b7:=elL af;revert cW;refine Wo<|Wg<|Rm z<|Rw z<|Wg<|R z (inc_ a1 (lt_ (repS.len Y) B_) z z)<|Rm z<|Wl ?_
   exact λ_ q=>⟨xk,(som b7).symm,⟨W,na,cb,G,q.k<|s5 z z z z z,bM (bup sn st) cX<|m1 sn.s,h3,hj,(or1 hu (mor sn.s:∀k∈[I.z],k∈Sm∨wi.z<=k) (l_<|lt_ sn.s st.s):∀k∈G,k∈Sm∨wi.z<=k)⟩⟩
  rintro _ _ _ _ rfl ⟨rfl,b8⟩;have b9:=elR af;exact ⟨inbR<|k_w (som b9).symm ⟨rfl,b8⟩,z⟩
 .rintro xe _ _ ⟨J,L,O,Sd,ba,cY,hf,a8,aa⟩;refine Wu ?_ ba;refine Ws<|Rl z z z<|Wn<|Wq<|Wc z (λhc=>(R_ hc).elim) (λ_=>?_)
  exact We<|λ_ q=>⟨rfl,⟨J,L,O,Sd,q.k<|s2 z z,cY,hf,a8,(or1 aa (io sr) (l_ lr):∀k∈Sd,k∈Sm∨wi.z<=k)⟩⟩
 .rintro xe cZ _ rfl ⟨J,L,O,Sd,_,aH,hf,a8,aa⟩;have bb:=elL ae;revert cZ;refine Wo<|Wm z<|Rm z<|R z (lnR D_ z<|a0.g<|a7.e aH) ?_
  obtain ⟨_,d0,bc⟩:=bdS bb;refine RX z (at_ (α:=Bool) b_7 z_4 z z z (a_.rep hf) d0) ?_;rintro _ ⟨_,_,_,rfl,d1,d2,_⟩;obtain rfl:=d_O d2;refine R z (l0 g_4 z<|d1.at0 z)<|Rw z ?_
  obtain rfl:=som bc;exact Wr<|c_ hr z ⟨bup (bM sz a6<|f_ lr) aH,z⟩
 rintro _ _ _ _ rfl ⟨rfl,be⟩;have bf:=elR ae;obtain rfl:=som bf;exact ⟨be,z⟩
theorem W_w3q {x1:List Str}{x2:List Str}{res:Bool}(hm:i_7 x1 x2=some res)(I:B<=w0.z)(G:repS w0 B (sl A0 N0 C0) x1)(H:repS w0 B (sl A5 N5 C5) x2):i_ prog 65 [sl A0 N0 C0,sl A5 N5 C5] w0 (Q7 w0 B res):=by
 unfold i_7 at hm
 refine goG func65 z z z λfn hr=>Ws<|Rw z<|Wm z<|Rm z ?_
 obtain ⟨_,L,J⟩:=bdS hm;refine E z (fc call119 z<|W_w3p (B:=B) L I G H) ?_;rintro _ _ ⟨s2,rfl⟩;refine Rw z ?_
 obtain rfl:=som J;exact Wr<|c_ hr z ⟨s2,z⟩
theorem W_w3r {x1:Str}{x2:Str}{res:Bool}(hm:i_8 n x1 x2=some res)(J:B<=w0.z)(V:x1.b.length<=LEN)(W:x2.b.length<=LEN):i_ prog 36 [Str.v x1,Str.v x2] w0 (Q7 w0 B res):=by
 unfold i_8 at hm
 refine goG func36 z z z λfn hr=>Ws<|Rw z<|Wm z ?_
 obtain ⟨_,Y,ea,hmb⟩:=a_8 hm;refine E z (fc call63 z<|W_w3l (B:=B) ea J V) ?_;rintro _ _ ⟨s5,_,_,_,_,rfl,h6,_,_⟩;refine Rm z<|Re z z z<|Re z z z<|Ra z<|Rw z<|Wm z ?_
 obtain ⟨_,rc,ed,hme⟩:=a_8 hmb;refine E z (fc call64 z<|W_w3n ed (zt' J s5.s) W) ?_;rintro _ I ⟨s3,_,_,_,_,rfl,hf,_,_⟩;refine Rm z<|Re z z z<|Re z z z<|Ra z<|Rw z<|Wq ?_
 obtain ⟨ug,L,hmh⟩:=bdS hme;refine Wt (λa w=>∃(x4:Bool),x4=ug/\Sat 28 [(4,vB x4)] a/\Below I.z I w) ?_ ?_
 .refine Wg<|RM z z ?_
  rcases bs Y with H | H
  .have O:=ifT L H;refine Rh z H (mv z)<|R z (pT z H z)<|Rm z ?_
   rcases bs rc with G | G
   .refine Rh z G (mv z)<|Rh z G (mv z) ?_
    obtain ⟨ri,ej,hmk⟩:=bdS<|ifT O G;refine Eg z z G z (fc call65 z<|W_w3q (B:=I.z) ej zr (repS.mono (or_ (h6.e s3)<|a_.lt h6)<|Y_ s3.s)<|a_.rep hf) ?_;rintro _ _ ⟨sl,rfl⟩;exact R z (pT z G z)<|Ra z<|Wl (λ_ q=>⟨ri,som hmk,q.k<|s1 z,sl⟩)
   iterate 3 refine Nh z G ?_
   exact R z (pF z G z)<|Ra z<|Wl (λ_ q=>⟨false,som<|ifF O G,q.k<|s1 z,br I⟩)
  exact Nh z H<|R z (pF z H z)<|Rm z<|Nh z z<|Nh z z<|Nh z z<|R z (pF z z z)<|Ra z<|Wl (λ_ q=>⟨false,som<|ifF L H,q.k<|s1 z,br I⟩)
 rintro am _ ⟨x4,rfl,_,sn⟩;revert am;refine Wo ?_;obtain rfl:=som hmh;exact Wr<|c_ hr z ⟨bup (bup s5 s3) sn,z⟩
theorem W_w3s {x1:k_}{x2:Str}{b2 o2:Nat}{res:Bool}(hm:j_Y n x1 x2=some res)(J:B<=w0.z)(H:x1.path.b.length<=LEN)(W:inI x1.rule)(Y:inI x1.start)(a0:inI x1.end_)(I:x2.b.length<=LEN)(hC2:L_ w0 b2 o2 [Str.v x2])(hC2b:B b2):i_ prog 35 [(.agg #[Str.v x1.path,vI x1.rule,vI x1.start,vI x1.end_]),(.pointer<|some ⟨b2,o2,none⟩)] w0 (Q7 w0 B res):=by
 unfold j_Y at hm
 refine goG func35 z z z λfn hr=>Ws<|E z (fb z) ?_
 rintro _ O ⟨rfl,h1⟩;have G:=h1.below;refine Rw z<|Ws<|R z (l0 g_9 z<|(hC2.e G).at0 z)<|Rf z i_e z<|R z (l0 g_9 z<|(h1.blk:Blk O w0.z [Str.v x1.path,vI x1.rule,vI x1.start,vI x1.end_]).at z) ?_
 obtain ⟨_,V,L⟩:=bdS hm;refine E z (fc call36 z<|W_w3r V (zt' J G.s) I H) ?_;rintro _ _ ⟨s6,rfl⟩;refine Rw z ?_
 obtain rfl:=som L;exact Wr<|c_ hr z ⟨bup G s6,z⟩
theorem W_w3t {x1:List k_}{a2:Str}{Y a0:Nat}{res:(List k_)}(hm:j_Z n x1 a2=some res)(a5:B<=w0.z)(a4:repS w0 B (sl A0 N0 C0) x1)(p2c0_0:a2.b.length<=LEN)(ab:L_ w0 Y a0 [Str.v a2])(a1:B Y):i_ prog 34 [sl A0 N0 C0,(.func (.func 35) #[] #[(.pointer<|some ⟨Y,a0,none⟩)])] w0 (Q17 w0 B res):=by
 unfold j_Z at hm
 refine goG func34 z z z λfn hr=>Ws<|Rw z<|Ws<|E z (f0 (α:=k_) c_K) ?_
 rintro _ H ⟨aq,ar,au,rfl,s9,av⟩;refine Rw z<|Wq<|Wm z<|R z (lnR c_v z<|a4.e s9)<|Rm z<|Wn ?_
 obtain ⟨_,ad,hms⟩:=bdS hm;refine Wf (σ:=List k_) (ρ:=List k_) (λ(km:Nat)(W:List k_) a w=>∃I J L G,Sat 24 [(1,.func (.func 35) #[] #[(.pointer<|some ⟨Y,a0,none⟩)]),(5,sl I J L),(9,sl A0 N0 C0),(10,vI (x1.length:Int)),(11,vI ((km:Nat):Int))] a/\Cg [w0.z] H w/\a_ w G (sl I J L) W/\G.Nodup/\(∀k∈G,k∈[w0.z]∨H.z<=k)) (λ(W:List k_) a w=>∃I J L G,Sat 24 [(5,sl I J L)] a/\Cg [w0.z] H w/\a_ w G (sl I J L) W/\G.Nodup/\(∀k∈G,k∈[w0.z]∨H.z<=k)) (rQ prog fn<|Q17 w0 B) ad ?_ ?_ ?_ ?_ ?_
 .exact λ_ q=>⟨aq,ar,au,[w0.z],q.k<|s5 z z z z z,cr [w0.z] H,av,a_I,io sr⟩
 .rintro km W _ wh _ hkv ⟨I,J,L,G,ae,sa,V,hb,hf⟩ af;refine Wu ?_ ae;refine Ws<|Rl z z z<|Wn<|Wq<|Wc z (λ_=>?_) (λhc=>(Q_ hkv hc).elim)
  refine Wk<|Wq<|Wb<|Ws ?_
  obtain ⟨x2,aw,ah⟩:=bdS af;have hw:∀k∈[w0.z],¬B k:=or0 (f_ lr)<|p_ a5;refine RX z (at_ (α:=k_) c_v b_6 z z z (a4.g<|(s9.ag B).c sa<|e_ hw) aw) ?_;rintro _ ⟨_,_,_,rfl,ax,ay,_⟩;obtain ⟨rfl,hn,ho,hp,hq⟩:=f_x ay;refine R z (lN (vs:=[Str.v x2.path,vI x2.rule,vI x2.start,vI x2.end_]) e_c b_6 z z fid ax)<|E z (fa i_f) ?_
  rintro _ wx ⟨rfl,hy⟩;have hd:=hy.below;refine E0 (fs0 (cur':=[Str.v x2.path,vI x2.rule,vI x2.start,vI x2.end_]) b_6 z z (hy.blk:Blk wx wh.z [(Str.v (⟨[]⟩:Str)),vI 0,vI 0,vI 0]) z z z z) ?_;rintro _ az ⟨hz,aA⟩;have he:=aA.one;refine Wn<|Wm z<|R z (lN (vs:=[Str.v x2.path,vI x2.rule,vI x2.start,vI x2.end_]) e_c b_6 z z fid<|hz.row 0 4 z) ?_
  have a7:=lt_ s9.s sa.s;obtain ⟨_,aB,ai⟩:=bdS ah;refine E z (d_N call35 z z<|W_w3s aB (zt' a5<|lt_ (lt_ a7 hd.s) he.s) hn ho hp hq p2c0_0 ((((ab.e s9).c sa<|(e_ hw) _ a1).e hd).c he<|(e_ (or0 (f_ lr) (p_<|zt' a5 a7):∀k∈[wh.z],¬B k)) _ a1) a1) ?_;rintro _ O ⟨sg,rfl⟩;refine Wn ?_;obtain ⟨aC,a6,ak⟩:=bdS ai;refine Wt (λa w=>∃(xi:List k_),xi=aC/\∃aj nk cl Sc,Sat 24 [(1,.func (.func 35) #[] #[(.pointer<|some ⟨Y,a0,none⟩)]),(5,sl aj nk cl),(9,sl A0 N0 C0),(10,vI (x1.length:Int)),(11,vI ((km:Nat):Int))] a/\Cg G O w/\a_ w Sc (sl aj nk cl) xi/\Sc.Nodup/\(∀k∈Sc,k∈G∨O.z<=k)) ?_ ?_
  .refine Wc z (λhcr=>?_)<|λhcr=>?_
   .refine Wg<|Rm z<|R z (lN (vs:=[Str.v x2.path,vI x2.rule,vI x2.start,vI x2.end_]) e_c b_6 z z fid<|(hz.e sg).row 0 4 z)<|E z (fS [(.tmp 19)] c_K z z z (b_l z) (lb z)<|lb z) ?_
    rintro _ a8 ⟨rfl,ht⟩;have hu:=ht.below;have aX:=b_U ht<|e_k (x:=x2) hn ho hp hq
    obtain ⟨aD,aE,al⟩:=bdS<|ifT a6 hcr;refine E z (b_W (α:=k_) c_K aE z z ((((V.e hd).c he<|ds<|mnr<|a_.lt V).e sg).e hu) hb (ht.blk:Blk a8 O.z [Str.v x2.path,vI x2.rule,vI x2.start,vI x2.end_]) (e_k (x:=x2) hn ho hp hq) an_ U_) ?_;rintro _ aF ⟨a9,aG,aH,aI,rfl,aJ,aK,aL,aM⟩;refine Ra z<|Wl ?_
    exact λ_ q=>⟨aD,som al,aG,aH,aI,a9,q.k<|s5 z z z z z,(cM (j_ (cr G O) hu:Cg G O a8) aJ (io sr):Cg G O aF),aK,aL,(or2 aM (io sr) an_ (l_ hu.s):∀k∈a9,k∈G∨O.z<=k)⟩
   exact a_5<|λ_ q=>⟨W,som<|ifF a6 hcr,I,J,L,G,q.k<|s5 z z z z z,cr G O,((V.e hd).c he<|ds<|mnr<|a_.lt V).e sg,hb,io sr⟩
  rintro aN aO ⟨xi,rfl,aj,nk,cl,Sc,_,aP,aQ,aR,aS⟩;revert aN;refine Wo<|Wg<|R z (inc_ hkv (lt_ (repS.len a4) B_) z z)<|Rm z<|Wl ?_
  have aa:∀k∈G,k∈[w0.z]∨H.z<=k:=or1 hf (io sr)<|l_ lr;exact λ_ q=>⟨xi,(som ak).symm,⟨aj,nk,cl,Sc,q.k<|s5 z z z z z,(cM (j_ (cM (j_ (cM (cr [w0.z] H) sa (io sr):Cg [w0.z] H wh) hd:Cg [w0.z] H wx) he (mor sa.s:∀k∈[wh.z],k∈[w0.z]∨H.z<=k):Cg [w0.z] H az) sg:Cg [w0.z] H O) aP aa:Cg [w0.z] H aO),aQ,aR,(or1 aS aa (l_<|lt_ (lt_ (lt_ sa.s hd.s) he.s) sg.s):∀k∈Sc,k∈[w0.z]∨H.z<=k)⟩⟩
 .rintro W _ aT ⟨I,J,L,G,am,aU,V,hb,hf⟩;refine Wu ?_ am;refine Ws<|Rl z z z<|Wn<|Wq<|Wc z (λhc=>(R_ hc).elim) (λ_=>?_)
  exact We<|λ_ q=>⟨rfl,⟨I,J,L,G,q.k<|s1 z,(cM (cr [w0.z] H) aU (io sr):Cg [w0.z] H aT),V,hb,(or1 hf (io sr) (l_ lr):∀k∈G,k∈[w0.z]∨H.z<=k)⟩⟩
 .rintro W aV _ rfl ⟨I,J,L,G,_,aW,V,hb,hf⟩;have an:=elL hms;revert aV;refine Wo<|Wm z<|Rw z ?_
  obtain rfl:=som an;exact Wr<|c_ hr z ⟨bM s9 aW<|f_ lr,I,J,L,G,z,V,hb,(or1 hf (f_ lr) (c_i s9.s):∀k∈G,w0.z<=k)⟩
 rintro _ _ _ _ rfl ⟨rfl,ao⟩;have ap:=elR hms;obtain rfl:=som ap;exact ⟨ao,z⟩
theorem W_w3u {x1:d_}{x2:Bt}{x3:Str}{res:(List k_)}(hm:i_9 n x1 x2 x3=some res)(a0:B<=w0.z)(hG:Gl w0 B)(V:repS w0 B (sl A0 N0 C0) x1.rules)(W:repS w0 B (sl A5 N5 C5) x2)(Y:x3.b.length<=LEN):i_ prog 20 [(.agg #[sl A0 N0 C0]),sl A5 N5 C5,Str.v x3] w0 (Q17 w0 B res):=by
 unfold i_9 at hm
 refine goG func20 z z z λfn hr=>Ws<|E z (fb z) ?_
 rintro _ I ⟨rfl,h6⟩;have h2:=h6.below;refine E z (fb z) ?_;rintro _ wd ⟨rfl,J⟩;have G:=J.below;have L:Blk wd I.z [Str.v x3]:=J.blk;refine Rw z<|Ws<|R z (lN (vs:=[sl A0 N0 C0]) w_ v_ z z fid<|((h6.blk:Blk I w0.z [sl A0 N0 C0]).e G).row 0 1 z)<|Rm z ?_
 have O:=(h2.ag B).e G;have h3:=lt_ h2.s G.s;obtain ⟨_,_,ee,hma⟩:=a_8 hm;refine E z (fc call33 z<|W_w3i ee (zt' a0 h3) ((hG.e h2).e G) (V.g O)<|W.g O) ?_;rintro _ wb ⟨s1,_,_,_,_,rfl,hf,_,_⟩;refine Rm z<|Re z z z<|Re z z z<|Ra z<|Rw z<|Wq<|Wm z<|R z (not_ z)<|Wx z (λH=>?_) (λH=>?_)
 .refine Ws<|E z (f0 (α:=k_) c_K) ?_
  rintro _ _ ⟨ah,ng,ci,rfl,sj,hk⟩;refine Rw z ?_
  obtain rfl:=som<|ifT hma H;exact Wr<|c_ hr z ⟨bup (bup (bup h2 G) s1) sj,ah,ng,ci,[wb.z],z,hk,a_I,m1<|lt_ h3 s1.s⟩
 refine Wk<|Wm z<|R z (i_x z) ?_
 obtain ⟨_,el,hmm⟩:=bdS<|ifF hma H;refine E z (fc call34 z<|W_w3t (B:=wb.z) el zr (a_.rep hf) Y ((L.e s1).row 0 1 z)<|zap' (Y_ s1.s) L.lt) ?_;rintro _ _ ⟨sn,ao,np,cq,Sr,rfl,ht,hu,hv⟩;refine Rw z ?_
 obtain rfl:=som hmm;exact Wr<|c_ hr z ⟨bup (bup (bup h2 G) s1) sn,ao,np,cq,Sr,z,ht,hu,n_ hv<|lt_ h3 s1.s⟩
theorem W_w3v {x1:Int}{x2:Int}{res:Bool}(hm:i_a x1 x2=some res)(I:B<=w0.z)(G:inI x1)(H:inI x2):i_ prog 168 [vI x1,vI x2] w0 (Q7 w0 B res):=by
 unfold i_a at hm
 refine goG func168 z z z λfn hr=>Ws<|Rw z<|Wm z<|Rm z<|Rl z z z<|Rw z ?_
 obtain rfl:=som hm;exact Wr<|c_ hr z ⟨br w0,z⟩
theorem W_w3w {x2:Int}{x3:List Int}{res:Int}(hm:k_0 x2 x3=some res)(W:B<=w0.z)(V:inI x2)(H:repS w0 B (sl A7 N7 C7) x3):i_ prog 167 [(.func (.func 168) #[] #[]),vI x2,sl A7 N7 C7] w0 (Q0 w0 B res):=by
 unfold k_0 at hm
 refine goG func167 z z z λfn hr=>Ws<|Rw z<|Wq<|Wm z<|R z (lnR x_ z H)<|Rm z<|Wn ?_
 obtain ⟨_,hub,J⟩:=bdS hm;refine Wf (σ:=Int) (ρ:=Int) (λ(k3:Nat)(x0:Int) a w=>Sat 22 [(0,.func (.func 168) #[] #[]),(1,vI x0),(9,sl A7 N7 C7),(10,vI (x3.length:Int)),(11,vI ((k3:Nat):Int))] a/\Below w0.z w0 w/\inI x0) (λ(x0:Int) a w=>Sat 22 [(1,vI x0)] a/\Below w0.z w0 w/\inI x0) (rQ prog fn<|Q0 w0 B) hub ?_ ?_ ?_ ?_ ?_
 .exact λ_ q=>⟨q.k<|s5 z z z z z,br w0,V⟩
 .rintro k3 x0 _ _ _ L ⟨hSc,s6,h1⟩ hmd;refine Wu ?_ hSc;refine Ws<|Rl z z z<|Wn<|Wq<|Wc z (λ_=>?_) (λhc=>(Q_ L hc).elim)
  refine Wk<|Wq<|Wb<|Ws ?_
  obtain ⟨xe,ef,hmg⟩:=bdS hmd;refine RX z (at_ (α:=Int) x_ z_3 z z z (H.e s6) ef) ?_;rintro _ ⟨_,_,_,rfl,hh,hi,_⟩;obtain ⟨rfl,O⟩:=T_ hi;refine R z (l0 g_3 z<|hh.at0 z)<|Rw z<|Wm z<|RM z z ?_
  obtain ⟨_,ej,hmk⟩:=bdS hmg;refine E z (d_N call168 z z<|W_w3v ej (zt' W s6.s) O h1) ?_;rintro _ G ⟨sm,rfl⟩;refine Wn ?_;obtain ⟨ul,hua,hmn⟩:=bdS hmk;refine Wt (λa w=>∃(x4:Int),x4=ul/\Sat 22 [(0,.func (.func 168) #[] #[]),(1,vI x4),(9,sl A7 N7 C7),(10,vI (x3.length:Int)),(11,vI ((k3:Nat):Int))] a/\Below G.z G w/\inI x4) ?_ ?_
  .refine Wc z (λI=>?_)<|λI=>?_
   .exact Wg<|Rm z<|Ra z<|Wl (λ_ q=>⟨xe,som<|ifT hua I,q.k<|s5 z z z z z,br G,O⟩)
   exact a_5<|λ_ q=>⟨x0,som<|ifF hua I,q.k<|s5 z z z z z,br G,h1⟩
  rintro ao _ ⟨x4,rfl,_,sp,hq⟩;revert ao;exact Wo<|Wg<|R z (inc_ L (lt_ (repS.len H) B_) z z)<|Rm z<|Wl (λ_ q=>⟨x4,(som hmn).symm,⟨q.k<|s5 z z z z z,bup (bup s6 sm) sp,hq⟩⟩)
 .rintro x0 _ _ ⟨hSr,ss,h1⟩;refine Wu ?_ hSr;refine Ws<|Rl z z z<|Wn<|Wq<|Wc z (λhc=>(R_ hc).elim) (λ_=>?_)
  exact We<|λ_ q=>⟨rfl,⟨q.k<|s1 z,ss,h1⟩⟩
 .rintro x0 au _ rfl ⟨_,st,h1⟩;have hmv:=elL J;revert au;refine Wo<|Wm z<|Rw z ?_
  obtain rfl:=som hmv;exact Wr<|c_ hr z ⟨st,z,h1⟩
 rintro _ _ _ _ rfl ⟨rfl,hqw⟩;have hmx:=elR J;obtain rfl:=som hmx;exact ⟨hqw,z⟩
theorem W_w1z {x1:Int}{x2:Int}{res:Int}(hm:g_v x1 x2=some res)(V:B<=w0.z)(I:inI x1)(J:inI x2):i_ prog 144 [vI x1,vI x2] w0 (Q0 w0 B res):=by
 unfold g_v at hm
 refine goG func144 z z z λfn hr=>Ws<|Rw z<|Wm z<|Rm z<|E z (fS [(.tmp 6)] l_E z z z (b_l z) (lb z)<|lb z) ?_
 rintro _ H ⟨rfl,G⟩;have h6:Blk H w0.z [vI x2]:=G.blk;obtain ⟨_,O,L⟩:=bdS hm;refine E z (fc call167 z<|W_w3w (B:=H.z) O zr I<|a_.rep<|b_U G<|d_2 J) ?_;rintro _ _ ⟨s4,rfl,h5⟩;refine Rw z ?_
 obtain rfl:=som L;exact Wr<|c_ hr z ⟨bup G.below s4,z,h5⟩
theorem W_w3x {x1:d_}{x2:Int}{x3:Val}{b3 o3:Nat}{res:Bool}(hm:i_o x1 x2 x3=some res)(a0:B<=w0.z)(a5:repS w0 B (sl A0 N0 C0) x1.rules)(aW:inI x2)(aX:inI x3.number)(ap:repS w0 B (sl A8 N8 C8) x3.bytes)(a7:repS w0 B (sl A9 N9 C9) x3.items)(hC3:L_ w0 b3 o3 [vI x3.number,sl A8 N8 C8,sl A9 N9 C9])(hC3b:B b3):i_ prog 128 [(.agg #[sl A0 N0 C0]),vI x2,(.pointer<|some ⟨b3,o3,none⟩)] w0 (Q7 w0 B res):=by
 unfold i_o at hm
 refine goG func128 z z z λfn hr=>Ws<|E z (fb z) ?_
 rintro _ G ⟨rfl,aK⟩;have H:=aK.below;have hh:Blk G w0.z [sl A0 N0 C0]:=aK.blk;refine Rw z<|Ws<|Rf z a_i z<|R z (l0 a_n z<|hh.at z)<|Rm z ?_
 obtain ⟨xc,bp,aY⟩:=bdS hm;have aL:=a5.e H;refine RX z (at_ (α:=b_) V_ m_ z z z aL bp) ?_;rintro _ ⟨W,Y,_,rfl,hb,bq,_⟩;obtain ⟨_,_,_,_,_,_,_,_,_,_,_,_,rfl,_,_,bt,_,_,_,hi⟩:=a_F bq;refine Rw z<|Ws<|RA z z<|Rw z<|Wq<|Wm z<|R z (J_ z)<|Rf z a_o z<|R z (l0 g_3 z<|hb.at (j:=1) z)<|Wn<|Wb<|Ws<|Rq z z z<|Rw z ?_
 obtain ⟨bu,aq,ar⟩:=bdS aY;refine Wt (λa w=>∃(xj:Int)(xd:Int)(xa:Int),Sum.inl (xj,xd,xa)=bu/\Sat 136 [(2,.pointer<|some ⟨b3,o3,none⟩),(7,.pointer<|some ⟨W,Y,none⟩),(8,vI xj),(9,vI xd),(10,vI xa)] a/\Below G.z G w/\inI xj/\inI xd/\inI xa) ?_ ?_
 .refine Wc z (λa8=>?_)<|λa8=>?_
  .refine Wg<|R z (lN (vs:=[sl A0 N0 C0]) w_ v_ z z fid<|hh.row 0 1 z)<|Rm z ?_
   obtain ⟨bv,bw,aZ⟩:=bdS<|ifT aq a8;refine E z (fc call143 z<|f_s bw (zt' a0 H.s) aL aW) ?_;rintro _ _ ⟨bx,rfl,bz⟩;exact Ra z<|Wl (λ_ q=>⟨bv,0,0,som aZ,q.k<|s5 z z z z z,bx,bz,ii z,ii z⟩)
  refine Ws<|Rq z z z<|Rw z ?_
  obtain ⟨bA,au,av⟩:=bdS<|ifF aq a8;refine Wt (λa w=>∃(xk:Int)(xl:Int)(xm:Int),Sum.inl (xk,xl,xm)=bA/\Sat 136 [(2,.pointer<|some ⟨b3,o3,none⟩),(7,.pointer<|some ⟨W,Y,none⟩),(8,vI xk),(9,vI xl),(10,vI xm)] a/\Below G.z G w/\inI xk/\inI xl/\inI xm) ?_ ?_
  .refine Wc z (λa9=>?_)<|λa9=>?_
   .have aw:=ifT au a9;refine Wq<|Wq (Wd (X:=noX) 0 (pl_ 10 []) mo (by kernel_rfl) λcQ sn _=>dM z z z<|dR z z (J_ z)<|dR z z (fd c_u z)<|dR z z (l0 X_ z<|((hC3.e H).e sn).at (j:=1) z)<|dR z z (lnR o_ z<|ap.g<|(H.ag B).e sn)<|dM z z z<|dR z z (J_ z)<|dR z z (fd a_H z) ?_)
    have aM:=hb.e sn;refine dR z z (l0 g_3 z<|aM.at (j:=2) z)<|dR z z (nq z z)<|pD<|Wo<|Wc z (λaa=>?_) (λaa=>?_)
    .refine Ws<|Rw z ?_
     obtain rfl:=som<|ifT aw aa;have b0:=elR av;obtain rfl:=som b0;have b1:=elR ar;obtain rfl:=som b1;exact Wr<|rtO<|c_ hr z ⟨bup H sn,z⟩
    exact Wk<|Wg<|Rm z<|R z (J_ z)<|Rf z a_H z<|R z (l0 g_3 z<|aM.at (j:=2) z)<|Ra z<|Wl (λ_ q=>⟨0,xc.size,0,som<|ifF aw aa,q.k<|s5 z z z z z,sn,ii z,bt,ii z⟩)
   refine Ws<|Rq z z z<|Rw z ?_
   obtain ⟨bB,ax,b2⟩:=bdS<|ifF au a9;refine Wt (λa w=>∃(xo:Int)(xp:Int)(xq:Int),(xo,xp,xq)=bB/\Sat 136 [(2,.pointer<|some ⟨b3,o3,none⟩),(7,.pointer<|some ⟨W,Y,none⟩),(8,vI xo),(9,vI xp),(10,vI xq)] a/\Below G.z G w/\inI xo/\inI xp/\inI xq) ?_ ?_
   .refine Wc z (λab=>?_)<|λab=>?_
    .refine Wd (X:=noX) 0 (pl_ 10 [7,8]) mo (by kernel_rfl) λcR se _=>dR z z (lN (vs:=[sl A0 N0 C0]) w_ v_ z z fid<|(hh.e se).row 0 1 z)<|dM z z z<|dR z z (J_ z)<|dR z z (fd P_ z)<|dR z z (l0 E_ z<|(hb.e se).at (j:=7) z) ?_
     obtain ⟨_,bC,b4⟩:=bdS<|ifT ax ab;refine dRX z z (at_ (α:=Int) x_ z_3 z z z (hi.e se) bC) ?_;rintro _ ⟨_,_,_,rfl,bD,bE,_⟩;obtain ⟨rfl,bF⟩:=T_ bE;refine dR z z (l0 g_3 z<|bD.at0 z) ?_;have aN:=lt_ H.s se.s;obtain ⟨_,bG,b5⟩:=bdS b4;refine dE z z (fc call143 z<|f_s bG (zt' a0 aN) (a5.g<|(H.ag B).e se) bF) (.inr λ_ _ h=>C_<|h.1) ?_;rintro _ _ ⟨aO,rfl,bH⟩;obtain ⟨bI,bJ,b6⟩:=bdS b5;refine dE z z (fc call144 z<|W_w1z bJ (zt' a0<|lt_ aN aO.s) (ii z) bH) (.inr λ_ _ h=>C_<|h.1) ?_;rintro _ _ ⟨bK,rfl,bL⟩;exact dQ z z z<|pD (λ_ q=>⟨0,bI,0,som b6,q.k<|s5 z z z z z,bup (bup se aO) bK,ii z,bL,ii z⟩)
    refine Ws<|Rq z z z<|Rw z ?_
    obtain ⟨bM,ay,b7⟩:=bdS<|ifF ax ab;refine Wt (λa w=>∃(xr:Int)(xs:Int)(xt:Int),(xr,xs,xt)=bM/\Sat 136 [(2,.pointer<|some ⟨b3,o3,none⟩),(7,.pointer<|some ⟨W,Y,none⟩),(8,vI xr),(9,vI xs),(10,vI xt)] a/\Below G.z G w/\inI xr/\inI xs/\inI xt) ?_ ?_
    .refine Wc z (λad=>?_)<|λad=>?_
     .exact Wg<|Ra z<|Wl (λ_ q=>⟨0,400,0,som<|ifT ay ad,q.k<|s5 z z z z z,br G,ii z,ii z,ii z⟩)
     refine Ws<|Rq z z z<|Rw z ?_
     obtain ⟨bN,az,b9⟩:=bdS<|ifF ay ad;refine Wt (λa w=>∃(xu:Int)(xv:Int),(xu,xv)=bN/\Sat 136 [(2,.pointer<|some ⟨b3,o3,none⟩),(7,.pointer<|some ⟨W,Y,none⟩),(8,vI xu),(9,vI 0),(10,vI xv)] a/\Below G.z G w/\inI xu/\inI xv) ?_ ?_
     .refine Wc z (λae=>?_)<|λae=>?_
      .refine Wd (X:=noX) 0 (pl_ 10 [7,8]) mo (by kernel_rfl) λcS sf _=>dR z z (lN (vs:=[sl A0 N0 C0]) w_ v_ z z fid<|(hh.e sf).row 0 1 z)<|dM z z z<|dR z z (J_ z)<|dR z z (fd P_ z)<|dR z z (l0 E_ z<|(hb.e sf).at (j:=7) z) ?_
       obtain ⟨_,bO,ba⟩:=bdS<|ifT az ae;refine dRX z z (at_ (α:=Int) x_ z_3 z z z (hi.e sf) bO) ?_;rintro _ ⟨_,_,_,rfl,bP,bQ,_⟩;obtain ⟨rfl,bR⟩:=T_ bQ;refine dR z z (l0 g_3 z<|bP.at0 z) ?_;have aP:=lt_ H.s sf.s;obtain ⟨_,bS,bb⟩:=bdS ba;refine dE z z (fc call143 z<|f_s bS (zt' a0 aP) (a5.g<|(H.ag B).e sf) bR) (.inr λ_ _ h=>C_<|h.1) ?_;rintro _ _ ⟨aQ,rfl,bT⟩;obtain ⟨bU,bV,bc⟩:=bdS bb;refine dE z z (fc call144 z<|W_w1z bV (zt' a0<|lt_ aP aQ.s) (ii z) bT) (.inr λ_ _ h=>C_<|h.1) ?_;rintro _ _ ⟨bW,rfl,bX⟩;exact dQ z z z<|pD (λ_ q=>⟨0,bU,som bc,q.k<|s5 z z z z z,bup (bup sf aQ) bW,ii z,bX⟩)
      refine Ws<|Rq z z z<|Rw z ?_
      obtain ⟨bY,aA,be⟩:=bdS<|ifF az ae;refine Wt (λa w=>∃(xw:Int)(xx:Int),(xw,xx)=bY/\Sat 136 [(2,.pointer<|some ⟨b3,o3,none⟩),(7,.pointer<|some ⟨W,Y,none⟩),(8,vI xw),(9,vI 0),(10,vI xx)] a/\Below G.z G w/\inI xw/\inI xx) ?_ ?_
      .refine Wc z (λaf=>?_)<|λaf=>?_
       .exact Wg<|Rm z<|R z (J_ z)<|Rf z P_ z<|R z (l0 E_ z<|hb.at (j:=7) z)<|R z (lnR x_ z hi)<|Ra z<|Wl (λ_ q=>⟨0,(xc.kids.length:Int),som<|ifT aA af,q.k<|s5 z z z z z,br G,ii z,b_T<|repS.len hi⟩)
       refine Ws<|Rq z z z<|Rw z ?_
       obtain ⟨bZ,aB,bf⟩:=bdS<|ifF aA af;refine Wt (λa w=>∃(xy:Int)(xz:Int),(xy,xz)=bZ/\Sat 136 [(2,.pointer<|some ⟨b3,o3,none⟩),(7,.pointer<|some ⟨W,Y,none⟩),(8,vI xy),(9,vI 0),(10,vI xz)] a/\Below G.z G w/\inI xy/\inI xz) ?_ ?_
       .refine Wc z (λah=>?_)<|λah=>?_
        .refine Wd (X:=noX) 0 (pl_ 10 [7]) mo (by kernel_rfl) λcT sg _=>dR z z (lN (vs:=[sl A0 N0 C0]) w_ v_ z z fid<|(hh.e sg).row 0 1 z)<|dM z z z<|dR z z (J_ z)<|dR z z (fd P_ z)<|dR z z (l0 E_ z<|(hb.e sg).at (j:=7) z) ?_
         obtain ⟨_,c0,bg⟩:=bdS<|ifT aB ah;refine dRX z z (at_ (α:=Int) x_ z_3 z z z (hi.e sg) c0) ?_;rintro _ ⟨_,_,_,rfl,c1,c2,_⟩;obtain ⟨rfl,c3⟩:=T_ c2;refine dR z z (l0 g_3 z<|c1.at0 z) ?_;obtain ⟨c4,c5,bh⟩:=bdS bg;refine dE z z (fc call143 z<|f_s c5 (zt' a0<|lt_ H.s sg.s) (a5.g<|(H.ag B).e sg) c3) (.inr λ_ _ h=>C_<|h.1) ?_;rintro _ _ ⟨c6,rfl,c7⟩;exact dQ z z z<|dQ z z z<|pD (λ_ q=>⟨c4,1,som bh,q.k<|s5 z z z z z,bup sg c6,c7,ii z⟩)
        refine Wq<|Ws<|Rq z z z<|Rw z ?_
        obtain ⟨c8,aC,bi⟩:=bdS<|ifF aB ah;refine Wt (λa w=>∃(al:Bool),al=c8/\Sat 136 [(2,.pointer<|some ⟨b3,o3,none⟩),(7,.pointer<|some ⟨W,Y,none⟩),(8,vI 0),(9,vI 0),(10,vI 0),(81,vB al)] a/\Below G.z G w) ?_ ?_
        .refine Wc z (λai=>?_)<|λai=>?_
         .exact a_5<|λ_ q=>⟨xc.kind==8,som<|ifT aC ai,q.k<|s6 z z z z z z,br G⟩
         exact Wg<|Rq z z z<|Ra z<|Wl (λ_ q=>⟨xc.kind==9,som<|ifF aC ai,q.k<|s6 z z z z z z,br G⟩)
        rintro c9 a6 ⟨al,rfl,_,ca⟩;revert c9;refine Wo ?_;obtain ⟨cb,aD,bj⟩:=bdS bi;refine Wt (λa w=>∃(a1:Int),a1=cb/\Sat 136 [(2,.pointer<|some ⟨b3,o3,none⟩),(7,.pointer<|some ⟨W,Y,none⟩),(8,vI 0),(9,vI 0),(10,vI a1)] a/\Below a6.z a6 w/\inI a1) ?_ ?_
        .refine Wc z (λaj=>?_)<|λaj=>?_
         .exact Wg<|Ra z<|Wl (λ_ q=>⟨1,som<|ifT aD aj,q.k<|s5 z z z z z,br a6,ii z⟩)
         exact a_5<|λ_ q=>⟨0,som<|ifF aD aj,q.k<|s5 z z z z z,br a6,ii z⟩
        rintro cc _ ⟨a1,rfl,_,cd,ce⟩;revert cc;exact λ_ q=>⟨0,a1,som bj,q.k<|s5 z z z z z,bup ca cd,ii z,ce⟩
       rintro cf _ ⟨xy,xz,rfl,_,cg,ch,ci⟩;revert cf;exact λ_ q=>⟨xy,xz,som<|a_P bf,q.k<|s5 z z z z z,cg,ch,ci⟩
      rintro cj _ ⟨xw,xx,rfl,_,ck,cl,cm⟩;revert cj;exact λ_ q=>⟨xw,xx,som<|a_P be,q.k<|s5 z z z z z,ck,cl,cm⟩
     rintro cn _ ⟨xu,xv,rfl,_,co,cp,cq⟩;revert cn;exact λ_ q=>⟨xu,0,xv,som<|a_P b9,q.k<|s5 z z z z z,co,cp,ii z,cq⟩
    rintro cr _ ⟨xr,xs,xt,rfl,_,ct,cu,cv,cw⟩;revert cr;exact λ_ q=>⟨xr,xs,xt,som<|b_V b7,q.k<|s5 z z z z z,ct,cu,cv,cw⟩
   rintro cx _ ⟨xo,xp,xq,rfl,_,cy,cz,cA,cB⟩;revert cx;exact λ_ q=>⟨xo,xp,xq,som<|b_V b2,q.k<|s5 z z z z z,cy,cz,cA,cB⟩
  rintro cC _ ⟨xk,xl,xm,rfl,_,cD,cE,cF,cG⟩;have bk:=elL av;revert cC;exact λ_ q=>⟨xk,xl,xm,som<|b_V bk,q.k<|s5 z z z z z,cD,cE,cF,cG⟩
 rintro cH a2 ⟨xj,xd,xa,rfl,_,s7,cI,_,_⟩;have bm:=elL ar;revert cH;refine Wo<|Wq<|Wq ?_
 obtain ⟨cJ,aE,aF⟩:=bdS<|b_V bm;refine Wt (λa w=>∃(am:Bool),am=cJ/\Sat 136 [(2,.pointer<|some ⟨b3,o3,none⟩),(8,vI xj),(9,vI xd),(10,vI xa),(111,vB am)] a/\Below a2.z a2 w) ?_ ?_
 .refine Wg<|Rm z<|R z (J_ z)<|Rf z a_o z ?_
  have an:=hb.e s7;refine R z (l0 g_3 z<|an.at (j:=1) z)<|Rq z z z<|Rm z ?_
  rcases bs (xc.kind==6) with O | O
  .iterate 5 refine Nh z O ?_
   exact R z (pT z O z)<|Rm z<|Nh z z<|Nh z z<|Nh z z<|Nh z z<|Nh z z<|R z (pT z z z)<|Rm z<|Rh z z (mv z)<|Rh z z (J_ z)<|Rh z z (fd a_y z)<|Rh z z (l0 a_E z<|((hC3.e H).e s7).at (j:=2) z)<|Rh z z (lnR a_N z<|a7.g<|(H.ag B).e s7)<|Rh z z (mv z)<|Rh z z (nq z z)<|R z (pT z z z)<|Wl (λ_ q=>⟨(x3.items.length:Int) != xa,som<|ifT aE O,q.k<|s5 z z z z z,br a2⟩)
  refine Rh z O (mv z)<|Rh z O (J_ z)<|Rh z O (fd a_o z)<|Rh z O (l0 g_3 z<|an.at (j:=1) z)<|Rh z O (eql z z)<|R z (pF z O z)<|Rm z ?_
  obtain ⟨aR,aG,aH⟩:=bdS<|ifF aE O;refine d_n 102 aR 6 ?_ ?_
  .rcases bs (xc.kind==7) with V | V
   .iterate 5 refine Nh z V ?_
    exact R z (pT z V z)<|WLq 6 (ifT aG V) z z z
   exact Rh z V (mv z)<|Rh z V (J_ z)<|Rh z V (fd a_o z)<|Rh z V (l0 g_3 z<|an.at (j:=1) z)<|Rh z V (eql z z)<|R z (pF z V z)<|WLq 6 (ifF aG V) z z z
  refine Rm z ?_
  rcases bs aR with I | I
  .exact Rh z I (mv z)<|Rh z I (J_ z)<|Rh z I (fd a_y z)<|Rh z I (l0 a_E z<|((hC3.e H).e s7).at (j:=2) z)<|Rh z I (lnR a_N z<|a7.g<|(H.ag B).e s7)<|Rh z I (mv z)<|Rh z I (nq z z)<|R z (pT z I z)<|Wl (λ_ q=>⟨(x3.items.length:Int) != xa,som<|ifT aH I,q.k<|s5 z z z z z,br a2⟩)
  iterate 7 refine Nh z I ?_
  exact R z (pF z I z)<|Wl (λ_ q=>⟨false,som<|ifF aH I,q.k<|s5 z z z z z,br a2⟩)
 rintro cK aS ⟨am,rfl,_,a3⟩;revert cK;refine Wo<|Wc z (λak=>?_) (λak=>?_)
 .refine Ws<|Rw z ?_
  obtain rfl:=som<|ifT aF ak;exact Wr<|c_ hr z ⟨bup (bup H s7) a3,z⟩
 refine Wk<|Wq ?_
 obtain ⟨cL,bn,bo⟩:=bdS<|ifF aF ak;refine Wt (λa w=>∃(ao:Bool),ao=cL/\Sat 136 [(6,vB ao)] a/\Below aS.z aS w) ?_ ?_
 .refine Wg<|Rm z<|R z (J_ z)<|Rf z b_u z ?_
  have aT:=((hC3.e H).e s7).e a3;refine R z (l0 g_3 z<|aT.at (j:=0) z)<|Rm z ?_
  obtain ⟨cM,cN,aI⟩:=bdS bn;refine E z (fc call120 z<|e_h cN (zt' a0<|lt_ (lt_ H.s s7.s) a3.s) aX (ii z) cI) ?_;rintro _ _ ⟨a4,rfl⟩;refine Rm z ?_
  rcases bs cM with J | J
  .have aJ:=ifT aI J;refine Rh z J (mv z)<|Rh z J (J_ z)<|Rh z J (fd c_u z) ?_
   have aU:=aT.e a4;refine Rh z J (l0 X_ z<|aU.at (j:=1) z) ?_;have aV:=(((H.ag B).e s7).e a3).e a4;refine Rh z J (lnR o_ z<|ap.g aV)<|Rh z J (mv z)<|Rh z J (b_N z z)<|R z (pT z J z)<|Rm z ?_
   rcases bs (decide<|(x3.bytes.length:Int)<=xd) with L | L
   .exact Rh z L (mv z)<|Rh z L (J_ z)<|Rh z L (fd a_y z)<|Rh z L (l0 a_E z<|aU.at (j:=2) z)<|Rh z L (lnR a_N z<|a7.g aV)<|Rh z L (mv z)<|Rh z L (b_N z z)<|R z (pT z L z)<|Ra z<|Wl (λ_ q=>⟨decide<|(x3.items.length:Int)<=xa,som<|ifT aJ L,q.k<|s1 z,a4⟩)
   iterate 7 refine Nh z L ?_
   exact R z (pF z L z)<|Ra z<|Wl (λ_ q=>⟨false,som<|ifF aJ L,q.k<|s1 z,a4⟩)
  iterate 7 refine Nh z J ?_
  exact R z (pF z J z)<|Rm z<|Nh z z<|Nh z z<|Nh z z<|Nh z z<|Nh z z<|Nh z z<|Nh z z<|R z (pF z z z)<|Ra z<|Wl (λ_ q=>⟨false,som<|ifF aI J,q.k<|s1 z,a4⟩)
 rintro cO _ ⟨ao,rfl,_,cP⟩;revert cO;refine Wo ?_;obtain rfl:=som bo;exact Wr<|c_ hr z ⟨bup (bup (bup H s7) a3) cP,z⟩
structure m_a (f:d_->Int->Val->Option Bool):Prop where
  run:∀{A0 A8 A9:Option Addr}{N0 C0 N8 C8 N9 C9 b3 o3:Nat}{B:Zone}{x1:d_}{x2:Int}{x3:Val}{res:Bool}{w0:World}(hm:f x1 x2 x3=some res)(hBw:B<=w0.z)(p1_0:repS w0 B (sl A0 N0 C0) x1.rules)(p2_0:inI x2)(p3_0:inI x3.number)(p3_1:repS w0 B (sl A8 N8 C8) x3.bytes)(p3_2:repS w0 B (sl A9 N9 C9) x3.items)(hC3:L_ w0 b3 o3 [vI x3.number,sl A8 N8 C8,sl A9 N9 C9])(hC3b:B b3),i_ prog 82 [(.agg #[sl A0 N0 C0]),vI x2,(.pointer<|some ⟨b3,o3,none⟩)] w0<|Q7 w0 B res
abbrev p_k (n:Nat):Prop:=m_a (f_u n).impl_validValue
theorem T_w0f (a6:p_k n):m_a (i_p n<|f_u n):=by
 constructor
 intro A0 A8 A9 N0 C0 N8 C8 N9 C9 b3 o3 B x1 x2 x3 res w0 hm L J V W Y H hC3 hC3b;unfold i_p at hm
 refine goG func82 z z z λfn hr=>Ws<|E z (fb z) ?_
 rintro _ ws ⟨rfl,hd⟩;have h1:=hd.below;have he:Blk ws w0.z [sl A0 N0 C0]:=hd.blk;refine Rw z<|Wq<|Ws<|R z (lN (vs:=[sl A0 N0 C0]) w_ v_ z z fid<|he.row 0 1 z)<|RM z z ?_
 have hf:=hC3.e h1;obtain ⟨_,et,hmg⟩:=bdS hm;refine E z (fc call128 z<|W_w3x et (zt' L h1.s) (J.e h1) V W (Y.e h1) (H.e h1) hf hC3b) ?_;rintro _ I ⟨s2,rfl⟩;refine R z (not_ z)<|Wx z (λO=>?_) (λO=>?_)
 .refine Ws<|Rw z ?_
  obtain rfl:=som<|ifT hmg O;exact Wr<|c_ hr z ⟨bup h1 s2,z⟩
 refine Wk<|Wq<|Wm z<|R z (J_ z)<|Rf z a_y z ?_
 have hh:=hf.e s2;refine R z (l0 a_E z<|hh.at (j:=2) z) ?_;have hi:=(h1.ag B).e s2;refine R z (lnR a_N z<|H.g hi)<|Rm z<|Wn ?_
 obtain ⟨_,huu,hmj⟩:=bdS<|ifF hmg O;refine Wf (σ:=Unit) (ρ:=Bool) (λ(k9:Nat)(_:Unit) a w=>Sat 42 [(1,vI x2),(2,.pointer<|some ⟨b3,o3,none⟩),(3,pt w0.z),(18,vI (x3.items.length:Int)),(19,vI ((k9:Nat):Int))] a/\Below I.z I w) (λ(_:Unit) a w=>Sat 42 [] a/\Below I.z I w) (rQ prog fn<|Q7 w0 B) huu ?_ ?_ ?_ ?_ ?_
 .exact λ_ q=>⟨q.k<|s5 z z z z z,br I⟩
 .rintro k9 _ _ _ _ hka ⟨hSv,s3⟩ hmw;refine Wu ?_ hSv;refine Ws<|Rl z z z<|Wn<|Wq<|Wc z (λ_=>?_) (λhc=>(Q_ hka hc).elim)
  refine Wk<|Wq<|Wb<|Wm z<|Rw z<|Ws ?_
  have hk:=(he.e s2).e s3;refine R z (lN (vs:=[sl A0 N0 C0]) w_ v_ z z fid<|hk.row 0 1 z)<|RM z z<|Rm z ?_
  have h6:=hi.e s3;have hl:=hh.e s3;have hn:=lt_ (lt_ h1.s s2.s) s3.s;obtain ⟨rx,ey,hmz⟩:=bdS hmw;refine E z (fc call84 z<|m_8 ey (zt' L hn) (J.g h6) V W (Y.g h6) (H.g h6) hl hC3b<|ic (Nat.le_of_lt hka)<|lt_ (repS.len H) B_) ?_;rintro _ wm ⟨s4,rfl,a7⟩;refine Rw z<|Wq ?_
  obtain ⟨a8,huo,hmp⟩:=bdS hmz;refine Wt (λa w=>∃(xb:Bool),xb=a8/\Sat 42 [(1,vI x2),(2,.pointer<|some ⟨b3,o3,none⟩),(3,pt w0.z),(18,vI (x3.items.length:Int)),(19,vI ((k9:Nat):Int)),(40,vB xb)] a/\Below wm.z wm w) ?_ ?_
  .refine Wd (X:=noX) 0 (pl_ 14 [11]) mo (by kernel_rfl) λap s7 _=>dM z z z<|dR z z (lss z z)<|dM z z z ?_
   rcases bs (decide<|rx<0) with G | G
   .iterate 8 refine dRn z z z G z ?_
    exact dEn z z z G z<|dRn z z z G z<|dR z z (pT z G z)<|pD (λ_ q=>⟨true,som<|ifT huo G,q.k<|s6 z z z z z z,s7⟩)
   refine dRg z z z G z (lN (vs:=[sl A0 N0 C0]) w_ v_ z z fid<|((hk.e s4).e s7).row 0 1 z)<|dRg z z z G z (mv z)<|dRg z z z G z (mv z)<|dRg z z z G z (J_ z)<|dRg z z z G z (fd a_y z)<|dRg z z z G z (l0 a_E z<|((hl.e s4).e s7).at (j:=2) z)<|dRg z z z G z (mv z) ?_
   obtain ⟨_,a9,a0⟩:=bdS<|ifF huo G;have hq:=(h6.e s4).e s7;refine b_v z z z G z (at_ (α:=Val) a_N h_ z z z (H.g hq) a9) ?_;rintro _ ⟨_,_,_,rfl,aa,ab,ad⟩;obtain ⟨_,_,_,_,_,_,rfl,ae,af,ah⟩:=i_b ab;obtain ⟨ai,aj,a1⟩:=bdS a0;refine dEg z z z G z (fc call82 z<|a6.run aj (zt' L<|lt_ (lt_ hn s4.s) s7.s) (J.g hq) a7 ae af ah aa ad) (.inr λ_ _ h=>C_<|h.1) ?_;rintro _ _ ⟨ak,rfl⟩;exact dRg z z z G z (not_ z)<|dR z z (pF z G z)<|pD (λ_ q=>⟨!ai,som a1,q.k<|s6 z z z z z z,bup s7 ak⟩)
  rintro al _ ⟨xb,rfl,_,sr⟩;revert al;refine Wo<|Wc z (λhcc=>?_) (λhcc=>?_)
  .exact Ws<|Rw z<|Wr<|rtO<|qL (som<|ifT hmp hcc).symm<|c_ hr z ⟨bup (bup (bup (bup h1 s2) s3) s4) sr,z⟩
  exact Wk<|Wg<|R z (inc_ hka (lt_ (repS.len H) B_) z z)<|Rm z<|Wl (λ_ q=>⟨(),(som<|ifF hmp hcc).symm,⟨q.k<|s5 z z z z z,bup (bup s3 s4) sr⟩⟩)
 .rintro _ _ _ ⟨a2,am⟩;refine Wu ?_ a2;refine Ws<|Rl z z z<|Wn<|Wq<|Wc z (λhc=>(R_ hc).elim) (λ_=>?_)
  exact We<|λ_ q=>⟨rfl,⟨q.k sn,am⟩⟩
 .rintro _ an _ rfl ⟨_,ao⟩;have a3:=elL hmj;revert an;refine Wo<|Ws<|Rw z ?_
  obtain rfl:=som a3;exact Wr<|c_ hr z ⟨bup (bup h1 s2) ao,z⟩
 rintro _ _ _ _ rfl ⟨rfl,a4⟩;have a5:=elR hmj;obtain rfl:=som a5;exact ⟨a4,z⟩
theorem A_w0f:∀n,p_k n
  | 0=>⟨λhm=>by intros;exact nomatch (show none=some _ from hm)⟩
  | n+1=>T_w0f<|A_w0f n
theorem W_w0f:m_a (f_u n).impl_validValue:=A_w0f n
theorem W_w3y {x1:d_}{x2:Int}{x3:Val}{res:Bool}(hm:i_q n x1 x2 x3=some res)(a1:B<=w0.z)(J:repS w0 B (sl A0 N0 C0) x1.rules)(L:inI x2)(W:inI x3.number)(Y:repS w0 B (sl A8 N8 C8) x3.bytes)(a0:repS w0 B (sl A9 N9 C9) x3.items):i_ prog 40 [(.agg #[sl A0 N0 C0]),vI x2,(.agg #[vI x3.number,sl A8 N8 C8,sl A9 N9 C9])] w0 (Q7 w0 B res):=by
 unfold i_q at hm
 refine goG func40 z z z λfn hr=>Ws<|E z (fb z) ?_
 rintro _ O ⟨rfl,V⟩;have h5:=V.below;refine E z (fb z) ?_;rintro _ H ⟨rfl,ha⟩;have h3:=ha.below;have hb:Blk H O.z [vI x3.number,sl A8 N8 C8,sl A9 N9 C9]:=ha.blk;refine Rw z<|Wq ?_
 obtain ⟨ug,huh,hmi⟩:=bdS hm;refine Wt (λa w=>∃(x6:Bool),x6=ug/\Sat 15 [(6,vB x6)] a/\Below H.z H w) ?_ ?_
 .refine Wg ?_;have hc:=(V.blk:Blk O w0.z [sl A0 N0 C0]).e h3;refine R z (lN (vs:=[sl A0 N0 C0]) w_ v_ z z fid<|hc.row 0 1 z)<|Rm z ?_
  have hd:=(h5.ag B).e h3;have h4:=zt' a1<|lt_ h5.s h3.s
  obtain ⟨rj,ek,hme⟩:=bdS huh;refine E z (fc call37 z<|k_b (B:=B) ek h4 (J.g hd) L) ?_;rintro _ _ ⟨s2,rfl⟩;refine Rm z ?_
  rcases bs rj with G | G
  .refine Rh z G (lN (vs:=[sl A0 N0 C0]) w_ v_ z z fid<|(hc.e s2).row 0 1 z)<|Rh z G (mv z) ?_
   have I:=hd.e s2;obtain ⟨rl,em,hmn⟩:=bdS<|ifT hme G;refine Eg z z G z (fc call82 z<|W_w0f.run (B:=H.z) em (Y_ s2.s) (repS.mono (J.g I) h4) L W (repS.mono (Y.g I) h4) (repS.mono (a0.g I) h4) ((hb.e s2).row 0 3 z) hb.lt) ?_;rintro _ _ ⟨so,rfl⟩;exact R z (pT z G z)<|Ra z<|Wl (λ_ q=>⟨rl,som hmn,q.k<|s1 z,bup s2 so⟩)
  iterate 3 refine Nh z G ?_
  exact R z (pF z G z)<|Ra z<|Wl (λ_ q=>⟨false,som<|ifF hme G,q.k<|s1 z,s2⟩)
 rintro ap _ ⟨x6,rfl,_,sq⟩;revert ap;refine Wo ?_;obtain rfl:=som hmi;exact Wr<|c_ hr z ⟨bup (bup h5 h3) sq,z⟩
def Q35 (w0:World)(B:Zone)(r:d_6)(v:Value)(w':World):Prop:=Bw w0 w'/\(λG=>∃H I J,(shV (sl H I J) G.1)=v/\repS w' w'.z (sl H I J) G.2) r
theorem W_w3z {x1:b_}{res:d_6}(hm:c_w x1=some res)(a1:B<=w0.z)(a2:x1.name.b.length<=LEN)(a3:inI x1.kind)(a4:inI x1.size)(a5:repS w0 B (sl AB NB CB) x1.bytes)(a0:repS w0 B (sl AA NA CA) x1.names)(a6:repS w0 B (sl AC NC CC) x1.tags)(a7:repS w0 B (sl AD ND CD) x1.kids):i_ prog 85 [(.agg #[Str.v x1.name,vI x1.kind,vI x1.size,vB x1.little,sl AB NB CB,sl AA NA CA,sl AC NC CC,sl AD ND CD])] w0 (Q35 w0 B res):=by
 unfold c_w at hm
 refine goG func85 z z z λfn hr=>Ws<|E z (fb z) ?_
 rintro _ wg ⟨rfl,Y⟩;have G:=Y.below;have h9:Blk wg w0.z (vR x1 AB NB CB AA NA CA AC NC CC AD ND CD):=Y.blk;refine Rw z<|Wq<|Ws<|Rf z a_o z<|R z (l0 g_3 z<|h9.at z)<|Wn<|Wb<|Ws<|Rq z z z<|Rw z<|Wc z (λH=>?_) (λH=>?_)
 .refine Ws<|R z (bP (parts:=[]) (cs:=[]) t_y z z)<|R z (d_u d_132 (λ_ h=>by cases h) z)<|Rw z ?_
  obtain rfl:=som<|ifT hm H;exact Wr<|rtO<|c_ hr z ⟨G,none,0,0,z,repS.mono (or_ onL an_)<|Y_ G.s⟩
 have hma:=ifF hm H;refine Ws<|Rq z z z<|Rw z<|Wc z (λI=>?_) (λI=>?_)
 .refine Ws<|R z (bP (parts:=[]) (cs:=[]) t_z z z)<|R z (d_u d_133 (λ_ h=>by cases h) z)<|Rw z ?_
  obtain rfl:=som<|ifT hma I;exact Wr<|rtO<|c_ hr z ⟨G,none,0,0,z,repS.mono (or_ onL an_)<|Y_ G.s⟩
 have hmb:=ifF hma I;refine Ws<|Rq z z z<|Rw z<|Wc z (λJ=>?_) (λJ=>?_)
 .refine Ws<|R z (bP (parts:=[]) (cs:=[]) t_A z z)<|R z (d_u d_134 (λ_ h=>by cases h) z)<|Rw z ?_
  obtain rfl:=som<|ifT hmb J;exact Wr<|rtO<|c_ hr z ⟨G,none,0,0,z,repS.mono (or_ onL an_)<|Y_ G.s⟩
 have hmc:=ifF hmb J;refine Ws<|Rq z z z<|Rw z<|Wc z (λL=>?_) (λL=>?_)
 .refine Ws<|Rf z b_R z<|R z (l0 a_t z<|h9.at z)<|R z (bP (parts:=[(0,.tmp 20)]) (cs:=[sl AA NA CA]) t_B z z)<|R z (d_u d_137 (λ_ h=>by cases h) z)<|Rw z ?_
  obtain rfl:=som<|ifT hmc L;exact Wr<|rtO<|c_ hr z ⟨G,AA,NA,CA,z,repS.mono (a0.e G)<|zt' a1 G.s⟩
 have hmd:=ifF hmc L;refine Ws<|Rq z z z<|Rw z<|Wc z (λO=>?_) (λO=>?_)
 .refine Ws<|R z (bP (parts:=[]) (cs:=[]) t_C z z)<|R z (d_u d_138 (λ_ h=>by cases h) z)<|Rw z ?_
  obtain rfl:=som<|ifT hmd O;exact Wr<|rtO<|c_ hr z ⟨G,none,0,0,z,repS.mono (or_ onL an_)<|Y_ G.s⟩
 have hme:=ifF hmd O;refine Ws<|Rq z z z<|Rw z<|Wc z (λV=>?_) (λV=>?_)
 .refine Ws<|R z (bP (parts:=[]) (cs:=[]) t_D z z)<|R z (d_u d_140 (λ_ h=>by cases h) z)<|Rw z ?_
  obtain rfl:=som<|ifT hme V;exact Wr<|rtO<|c_ hr z ⟨G,none,0,0,z,repS.mono (or_ onL an_)<|Y_ G.s⟩
 have hmf:=ifF hme V;refine Ws<|Rq z z z<|Rw z<|Wc z (λW=>?_) (λW=>?_)
 .refine Ws<|R z (bP (parts:=[]) (cs:=[]) t_E z z)<|R z (d_u d_141 (λ_ h=>by cases h) z)<|Rw z ?_
  obtain rfl:=som<|ifT hmf W;exact Wr<|rtO<|c_ hr z ⟨G,none,0,0,z,repS.mono (or_ onL an_)<|Y_ G.s⟩
 refine Wk<|Ws<|R z (bP (parts:=[]) (cs:=[]) t_F z z)<|R z (d_u d_185 (λ_ h=>by cases h) z)<|Rw z ?_
 obtain rfl:=som<|ifF hmf W;exact Wr<|c_ hr z ⟨G,none,0,0,z,repS.mono (or_ onL an_)<|Y_ G.s⟩
theorem W_w20 {x1:List Str}{x2:Str}{res:Str}(hm:g_C x1 x2=some res)(I:B<=w0.z)(G:repS w0 B (sl A0 N0 C0) x1)(H:x2.b.length<=LEN):i_ prog 87 [sl A0 N0 C0,Str.v x2] w0 (Q11 w0 B res):=by
 unfold g_C at hm
 refine goG func87 z z z λfn hr=>Ws<|Rw z<|Wm z<|Rm z ?_
 obtain ⟨_,L,J⟩:=bdS hm;refine E z (fc call130 z<|t_2 (B:=B) L I G H) ?_;rintro _ _ ⟨s2,rfl,h3⟩;refine Rw z ?_
 obtain rfl:=som J;exact Wr<|c_ hr z ⟨s2,z,h3⟩
theorem W_w40 {x1:Int}{x2:Str}{x3:Str}{x4:Str}{res:Str}(hm:k_k x1 x2 x3 x4=some res)(I:B<=w0.z)(hG:Gl w0 B)(H:inI x1)(a0:x2.b.length<=LEN)(a1:x3.b.length<=LEN)(a2:x4.b.length<=LEN):i_ prog 88 [vI x1,Str.v x2,Str.v x3,Str.v x4] w0 (Q11 w0 B res):=by
 unfold k_k at hm
 refine goG func88 z z z λfn hr=>Ws<|Rw z<|Wm z ?_
 obtain ⟨_,W,J⟩:=bdS hm;refine E z (fc call86 z<|m_7 (B:=B) W I hG H) ?_;rintro _ _ ⟨s3,rfl,_⟩;refine Rm z ?_;obtain ⟨_,Y,L⟩:=bdS J;refine R z (a_q z z Y)<|Rm z ?_
 obtain ⟨_,e6,O⟩:=bdS L;refine R z (a_q z z e6)<|Rm z ?_
 obtain ⟨_,G,V⟩:=bdS O;refine R z (a_q z z G)<|Rw z ?_
 obtain rfl:=som V;exact Wr<|c_ hr z ⟨s3,z,b_2 G⟩
theorem W_w41 {x1:Bt}{res:Str}(hm:i_r x1=some res)(a8:B<=w0.z)(L:repS w0 B (sl A0 N0 C0) x1):i_ prog 89 [sl A0 N0 C0] w0 (Q11 w0 B res):=by
 unfold i_r at hm
 refine goG func89 z z z λfn hr=>Ws<|Rw z<|Wm z<|R z (lnR o_ z L)<|R z (f_M z z) ?_
 obtain ⟨_,ep,hmq⟩:=bdS hm;refine E z (q_c (α:=UInt8) b_I ep z z) ?_;rintro _ G ⟨ar,ns,ct,rfl,sa,hu⟩;refine Rw z<|Wq<|Wm z<|R z (lnR o_ z<|L.e sa)<|Rm z<|Wn ?_
 obtain ⟨_,huv,hmh⟩:=bdS hmq;refine Wf (σ:=Bt) (ρ:=Str) (λ(ki:Nat)(x5:Bt) a w=>∃a2 I J H,Sat 28 [(3,sl a2 I J),(10,sl A0 N0 C0),(11,vI (x1.length:Int)),(12,vI ((ki:Nat):Int))] a/\Cg [w0.z] G w/\a_ w H (sl a2 I J) x5/\H.Nodup/\(∀k∈H,k∈[w0.z]∨G.z<=k)) (λ(x5:Bt) a w=>∃a2 I J H,Sat 28 [(3,sl a2 I J)] a/\Cg [w0.z] G w/\a_ w H (sl a2 I J) x5/\H.Nodup/\(∀k∈H,k∈[w0.z]∨G.z<=k)) (rQ prog fn<|Q11 w0 B) huv ?_ ?_ ?_ ?_ ?_
 .exact λ_ q=>⟨ar,ns,ct,[w0.z],q.k<|s4 z z z z,cr [w0.z] G,hu,a_I,io sr⟩
 .rintro ki x5 _ ww _ hkj ⟨a2,I,J,H,hSx,sb,h6,O,V⟩ hmy;refine Wu ?_ hSx;refine Ws<|Rl z z z<|Wn<|Wq<|Wc z (λ_=>?_) (λhc=>(Q_ hkj hc).elim)
  refine Wk<|Wq<|Wb<|Ws ?_
  obtain ⟨_,ez,Y⟩:=bdS hmy;refine RX z (at_ (α:=UInt8) o_ z_5 z z z (L.g<|(sa.ag B).c sb<|e_ (or0 (f_ lr) (p_ a8):∀k∈[w0.z],¬B k)) ez) ?_;rintro _ ⟨_,_,_,rfl,a9,aa,_⟩;obtain rfl:=u8 aa;refine R z (l0 g_5 z<|a9.at0 z)<|Ra z<|Wn (Wd (X:=noX) 256 (pl_ 10 [7,8]) mo (by kernel_rfl) λW sc _=>dM z z z<|dM z z z<|dR z z (q_o z z ⟨by decide,by decide⟩) ?_)
  obtain ⟨xd,ek,a0⟩:=bdS Y;refine dR z z (c_0 d_9 z z (a_p ek).1 (a_p ek).2.1)<|dM z z z<|dR z z (q_p (b:=(15:UInt8)) z z) ?_
  obtain ⟨xe,el,a1⟩:=bdS a0;refine dR z z (c_0 d_9 z z (a_p el).1 (a_p el).2.1)<|dE z z (fS [(.tmp 19),(.tmp 22)] b_I z z z (b_l z) (lb z)<|lb z) (.inr λ_ _ h=>C_<|h.2.below) ?_
  rintro _ wf ⟨rfl,hn⟩;have hg:=hn.below;obtain ⟨ab,ad,a3⟩:=bdS a1;refine dE z z (fN (α:=UInt8) b_I ad z z ((h6.e sc).e hg) O<|a_.rep (p_p (l:=[xd,xe]) (hn.blk:Blk wf W.z [vU (byteI xd),vU<|byteI xe]) z:a_ wf [W.z] (sl (some ⟨W.z,0,none⟩) 2 2) [xd,xe])) (.inl z) ?_;rintro _ ae ⟨Sm,af,ah,ai,rfl,aj,ak,al,am⟩;refine dQ z z z<|pD<|Wo<|Wg<|R z (inc_ hkj (lt_ (repS.len L) B_) z z)<|Rm z<|Wl ?_
  have ho:∀k∈H,k∈[w0.z]∨G.z<=k:=or1 V (io sr)<|l_ lr;exact λ_ q=>⟨ab,(som a3).symm,⟨af,ah,ai,Sm,q.k<|s4 z z z z,(cM (j_ (j_ (cM (cr [w0.z] G) sb (io sr):Cg [w0.z] G ww) sc:Cg [w0.z] G W) hg:Cg [w0.z] G wf) aj ho:Cg [w0.z] G ae),ak,al,(or1 am ho (l_<|lt_ (lt_ sb.s sc.s) hg.s):∀k∈Sm,k∈[w0.z]∨G.z<=k)⟩⟩
 .rintro x5 _ an ⟨a2,I,J,H,a4,ao,h6,O,V⟩;refine Wu ?_ a4;refine Ws<|Rl z z z<|Wn<|Wq<|Wc z (λhc=>(R_ hc).elim) (λ_=>?_)
  exact We<|λ_ q=>⟨rfl,⟨a2,I,J,H,q.k<|s1 z,(cM (cr [w0.z] G) ao (io sr):Cg [w0.z] G an),h6,O,(or1 V (io sr) (l_ lr):∀k∈H,k∈[w0.z]∨G.z<=k)⟩⟩
 .rintro x5 ap _ rfl ⟨a2,I,J,H,_,aq,h6,O,V⟩;have a5:=elL hmh;revert ap;refine Wo<|Wm z<|R z (k_x o_ d_9 d_5 z_5 z<|a_.rep h6)<|Rw z ?_
  obtain rfl:=som a5;exact Wr<|c_ hr z ⟨bM sa aq<|f_ lr,z,repS.len<|a_.rep h6⟩
 rintro _ _ _ _ rfl ⟨rfl,a6⟩;have a7:=elR hmh;obtain rfl:=som a7;exact ⟨a6,z⟩
structure m_b (f:d_->Int->Val->Option Str):Prop where
  run:∀{A0 A8 A9:Option Addr}{N0 C0 N8 C8 N9 C9 b3 o3:Nat}{B:Zone}{x1:d_}{x2:Int}{x3:Val}{res:Str}{w0:World}(hm:f x1 x2 x3=some res)(hBw:B<=w0.z)(hG:Gl w0 B)(p1_0:repS w0 B (sl A0 N0 C0) x1.rules)(p2_0:inI x2)(p3_0:inI x3.number)(p3_1:repS w0 B (sl A8 N8 C8) x3.bytes)(p3_2:repS w0 B (sl A9 N9 C9) x3.items)(hC3:L_ w0 b3 o3 [vI x3.number,sl A8 N8 C8,sl A9 N9 C9])(hC3b:B b3),i_ prog 41 [(.agg #[sl A0 N0 C0]),vI x2,(.pointer<|some ⟨b3,o3,none⟩)] w0<|Q11 w0 B res
structure m_c (f:Int->d_->Int->Val->Option Str):Prop where
  run:∀{A5 AK AL:Option Addr}{N5 C5 b2 o2 b3 o3 NK CK NL CL b4_0 o4_0 b4 o4:Nat}{B:Zone}{x1:Int}{x2:d_}{x3:Int}{x4:Val}{res:Str}{w0:World}(hm:f x1 x2 x3 x4=some res)(hBw:B<=w0.z)(hG:Gl w0 B)(p1_0:inI x1)(p2_0:repS w0 B (sl A5 N5 C5) x2.rules)(hC2:L_ w0 b2 o2 [sl A5 N5 C5])(hC2b:B b2)(p3_0:inI x3)(hC3:L_ w0 b3 o3 [vI x3])(hC3b:B b3)(p4_0_0:inI x4.number)(p4_0_1:repS w0 B (sl AK NK CK) x4.bytes)(p4_0_2:repS w0 B (sl AL NL CL) x4.items)(p4_0:L_ w0 b4_0 o4_0 [vI x4.number,sl AK NK CK,sl AL NL CL])(p4_0b:B b4_0)(hC4:L_ w0 b4 o4 [(.pointer<|some ⟨b4_0,o4_0,none⟩)])(hC4b:B b4),i_ prog 83 [vI x1,.pointer<|some ⟨b2,o2,none⟩,.pointer<|some ⟨b3,o3,none⟩,(.pointer<|some ⟨b4,o4,none⟩)] w0<|Q11 w0 B res
abbrev m_d (n:Nat):Prop:=m_b (a_W n).impl_valueText/\m_c (a_W n).impl_valueText_1
theorem T_w0a (ih:m_d n):m_b (b_1 n<|a_W n):=by
 obtain ⟨_,aj⟩:=ih
 constructor
 intro A0 A8 A9 N0 C0 N8 C8 N9 C9 b3 o3 B x1 x2 x3 res w0 hm O hG a2 a9 a0 a3 V hC3 hC3b;unfold b_1 at hm
 refine goG func41 z z z λfn hr=>Ws<|E z (fb z) ?_
 rintro _ ap ⟨rfl,bb⟩;have h4:=bb.below;have he:Blk ap w0.z [sl A0 N0 C0]:=bb.blk;refine E z (fb z) ?_;rintro _ ar ⟨rfl,bc⟩;have h2:=bc.below;have hf:Blk ar ap.z [vI x2]:=bc.blk;refine E z (fb z) ?_;rintro _ a4 ⟨rfl,be⟩;have h1:=be.below;have h5:Blk a4 ar.z [(.pointer<|some ⟨b3,o3,none⟩)]:=be.blk;refine Rw z<|Ws<|R z (i_x z)<|Rw z<|Wq<|Ws<|Rf z a_i z ?_
 have a5:=(he.e h2).e h1;refine R z (l0 a_n z<|a5.at z) ?_;have a6:=hf.e h1;refine R z (l0 g_3 z<|a6.at z) ?_;obtain ⟨cO,cP,c8⟩:=bdS hm;have a1:=((h4.ag B).e h2).e h1;refine RX z (at_ (α:=b_) V_ m_ z z z (a2.g a1) cP) ?_;rintro _ ⟨_,_,_,rfl,cQ,cR,_⟩;obtain ⟨cS,cT,cU,cV,cW,cX,cY,cZ,d0,d1,d2,d3,rfl,d4,d5,d6,d7,d8,d9,da⟩:=a_F cR;refine R z (lN (vs:=vR cO cS cT cU cV cW cX cY cZ d0 d1 d2 d3) H_ m_ z z fid cQ) ?_;have hj:=lt_ (lt_ h4.s h2.s) h1.s;have h3:=zt' O hj;obtain ⟨ry,db,b0⟩:=bdS c8;refine E z (fc call85 z<|W_w3z (B:=B) db h3 d4 d5 d6 d7 d8 d9 da) ?_;rintro _ wa ⟨G,bf,bg,bh,rfl,au⟩;refine Wn<|Wb<|Ws ?_
 rcases bs (ry.1==1) with aa | aa
 .refine R z (ta_132 z aa)<|Re z z z<|Re z z z<|Wx z (λ_=>?_) (λhc=>(b_D z hc).elim)
  refine Ws<|E z (fa t_L) ?_
  rintro _ dc ⟨rfl,bi⟩;have ak:=bi.below;refine E0 (fs0 (cur':=[]) z_132 z z (bi.blk:Blk dc wa.z []) z z z z) ?_;rintro _ _ ⟨_,dd⟩;have am:=dd.one;refine Wn<|Ws<|R z (l0 f_r z<|(((h5.e G).e ak).c am<|djs<|mm1 h5.lt G.s).at z)<|R z (J_ z)<|Rf z b_u z ?_
  have aD:=lt_ hj G.s;have bj:∀k∈[wa.z],¬B k:=or0 (f_ lr)<|p_<|zt' O aD;refine R z (l0 g_3 z<|((((((hC3.e h4).e h2).e h1).e G).e ak).c am<|(e_ bj) _ hC3b).at (j:=0) z) ?_;obtain ⟨_,de,c9⟩:=bdS<|ifT b0 aa;refine E z (fc call86 z<|m_7 de (zt' O<|lt_ (lt_ aD ak.s) am.s) ((((((hG.e h4).e h2).e h1).e G).e ak).c am<|e_ bj) a0) ?_;rintro _ _ ⟨df,rfl,dg⟩;refine Rw z ?_
  obtain rfl:=som c9;exact Wr<|rtO<|c_ hr z ⟨bup (bM (bup (bup (bup (bup h4 h2) h1) G) ak) am<|m1 aD) df,z,dg⟩
 have b1:=ifF b0 aa;refine R z (t_q z aa)<|Re z z z<|Re z z z<|Wx z (λhc=>(b_D hc z).elim) (λ_=>?_)
 refine Ws ?_
 rcases bs (ry.1==2) with ab | ab
 .refine R z (ta_133 z ab)<|Re z z z<|Re z z z<|Wx z (λ_=>?_) (λhc=>(b_D z hc).elim)
  refine Ws<|E z (fa t_M) ?_
  rintro _ dh ⟨rfl,bk⟩;refine E0 (fs0 (cur':=[]) z_133 z z (bk.blk:Blk dh wa.z []) z z z z) ?_;rintro _ _ ⟨_,di⟩;refine Wn<|Ws<|Rw z ?_
  obtain rfl:=som<|ifT b1 ab;exact Wr<|rtO<|c_ hr z ⟨bM (bup (bup (bup (bup h4 h2) h1) G) bk.below) di.one<|m1<|lt_ hj G.s,z,lb z⟩
 have b2:=ifF b1 ab;refine R z (t_r z ab)<|Re z z z<|Re z z z<|Wx z (λhc=>(b_D hc z).elim) (λ_=>?_)
 refine Ws ?_
 rcases bs (ry.1==5) with ad | ad
 .refine R z (ta_134 z ad)<|Re z z z<|Re z z z<|Wx z (λ_=>?_) (λhc=>(b_D z hc).elim)
  refine Ws<|E z (fa t_N) ?_
  rintro _ dj ⟨rfl,bm⟩;have hh:=bm.below;refine E0 (fs0 (cur':=[]) z_134 z z (bm.blk:Blk dj wa.z []) z z z z) ?_;rintro _ H ⟨_,dk⟩;have hi:=dk.one;refine Wn<|Ws<|E z (f0 (α:=Str) a_w) ?_
  rintro _ J ⟨dl,dm,dn,rfl,sz,dp⟩;refine Rw z<|Wq<|Ws ?_
  have bn:=(((h5.e G).e hh).c hi<|djs<|mm1 h5.lt G.s).e sz;refine R z (l0 f_r z<|bn.at z)<|R z (J_ z)<|Rf z a_y z ?_
  have av:=lt_ hj G.s;have aE:∀k∈[wa.z],¬B k:=or0 (f_ lr)<|p_<|zt' O av;have bo:=((((((hC3.e h4).e h2).e h1).e G).e hh).c hi<|(e_ aE) _ hC3b).e sz;refine R z (l0 a_E z<|bo.at (j:=2) z) ?_;have bp:=(((a1.e G).e hh).c hi<|e_ aE).e sz;refine R z (lnR a_N z<|V.g bp)<|Rm z<|Wn ?_
  obtain ⟨_,ca,b4⟩:=bdS<|ifT b2 ad;refine Wf (σ:=List Str) (ρ:=Str) (λ(bq:Nat)(a7:List Str) a w=>∃al nn co Sc,Sat 122 [(7,.func (.func 83) #[] #[pt w0.z,pt ap.z,pt ar.z]),(11,sl al nn co),(46,vI (x3.items.length:Int)),(47,vI ((bq:Nat):Int))] a/\Cg [H.z] J w/\a_ w Sc (sl al nn co) a7/\Sc.Nodup/\(∀k∈Sc,k∈[H.z]∨J.z<=k)) (λ(a7:List Str) a w=>∃al nn co Sc,Sat 122 [(11,sl al nn co)] a/\Cg [H.z] J w/\a_ w Sc (sl al nn co) a7/\Sc.Nodup/\(∀k∈Sc,k∈[H.z]∨J.z<=k)) (rQ prog fn<|Q11 w0 B) ca ?_ ?_ ?_ ?_ ?_
  .exact λ_ q=>⟨dl,dm,dn,[H.z],q.k<|s4 z z z z,cr [H.z] J,dp,a_I,io sr⟩
  .rintro bq a7 _ dq _ aA ⟨al,nn,co,Sc,cb,sp,an,aw,ax⟩ cc;refine Wu ?_ cb;refine Ws<|Rl z z z<|Wn<|Wq<|Wc z (λ_=>?_) (λhc=>(Q_ aA hc).elim)
   refine Wk<|Wq<|Wb<|Wm z<|Rw z<|Wg<|RM z z<|Rm z ?_
   have br:=lt_ h2.s h1.s;have bt:=lt_ br G.s;have aF:∀k∈[H.z],¬B k:=or0 (f_ lr)<|p_<|zt' O<|lt_ (lt_ av hh.s) hi.s;have aG:=bp.c sp<|e_ aF
   have bu:=lt_ h1.s G.s;have bv:=lt_ (lt_ G.s hh.s) hi.s;obtain ⟨dr,ds,cd⟩:=bdS cc;refine E z (d_N call83 z z<|aj.run (B:=a4.z) ds (Y_<|lt_ (lt_ bv sz.s) sp.s) (((((((((hG.e h4).e h2).e h1).e G).e hh).c hi<|e_ aE).e sz).c sp<|e_ aF).mono h3) (ic (Nat.le_of_lt aA)<|lt_ (repS.len V) B_) (repS.mono (a2.g aG) h3) ((((((a5.e G).e hh).c hi<|djs<|mm1 he.lt bt).e sz).c sp<|djs<|mm1 he.lt<|lt_ (lt_ bt hh.s) hi.s).row 0 1 z) (zap' (Y_ br) he.lt) a9 ((((((a6.e G).e hh).c hi<|djs<|mm1 hf.lt bu).e sz).c sp<|djs<|mm1 hf.lt<|lt_ (lt_ bu hh.s) hi.s).row 0 1 z) (zap' (Y_ h1.s) hf.lt) a0 (repS.mono (a3.g aG) h3) (repS.mono (V.g aG) h3) (bo.c sp<|(e_ aF) _ hC3b) (zap' h3 hC3b) ((bn.c sp<|djs<|mm1 h5.lt bv).row 0 1 z) h5.lt) ?_;rintro _ bw ⟨aH,rfl,bx⟩;refine E z (fS [(.tmp 53)] a_w z z z (b_l z) (lb z)<|lb z) ?_;rintro _ bz ⟨rfl,aI⟩;have aJ:=aI.below;have eJ:=b_U aI<|b_k bx
   obtain ⟨dt,du,ce⟩:=bdS cd;refine E z (b_W (α:=Str) a_w du z z ((an.e aH).e aJ) aw (aI.blk:Blk bz bw.z [Str.v dr]) (b_k bx) an_ U_) ?_;rintro _ dv ⟨bA,dw,dx,dy,rfl,dz,dA,dB,dC⟩;refine Rw z<|Wg<|R z (inc_ aA (lt_ (repS.len V) B_) z z)<|Rm z<|Wl ?_
   have bB:∀k∈Sc,k∈[H.z]∨J.z<=k:=or1 ax (io sr)<|l_ lr;exact λ_ q=>⟨dt,(som ce).symm,⟨dw,dx,dy,bA,q.k<|s4 z z z z,(cM (j_ (j_ (cM (cr [H.z] J) sp (io sr):Cg [H.z] J dq) aH:Cg [H.z] J bw) aJ:Cg [H.z] J bz) dz bB:Cg [H.z] J dv),dA,dB,(or2 dC bB an_ (l_<|lt_ (lt_ sp.s aH.s) aJ.s):∀k∈bA,k∈[H.z]∨J.z<=k)⟩⟩
  .rintro a7 _ dD ⟨al,nn,co,Sc,cf,dF,an,aw,ax⟩;refine Wu ?_ cf;refine Ws<|Rl z z z<|Wn<|Wq<|Wc z (λhc=>(R_ hc).elim) (λ_=>?_)
   exact We<|λ_ q=>⟨rfl,⟨al,nn,co,Sc,q.k<|s1 z,(cM (cr [H.z] J) dF (io sr):Cg [H.z] J dD),an,aw,(or1 ax (io sr) (l_ lr):∀k∈Sc,k∈[H.z]∨J.z<=k)⟩⟩
  .rintro a7 dG dH rfl ⟨al,nn,co,Sc,_,dI,an,aw,ax⟩;have cg:=elL b4;revert dG;refine Wo<|Wm z ?_
   obtain ⟨_,dJ,ch⟩:=bdS cg;refine E z (fc call87 z<|W_w20 (B:=dH.z) dJ zr (a_.rep an)<|lb z) ?_;rintro _ _ ⟨dK,rfl,_⟩;obtain ⟨_,dL,ci⟩:=bdS ch;refine R z (a_q z z dL) ?_;obtain ⟨_,bC,cj⟩:=bdS ci;refine R z (a_q z z bC)<|Rw z ?_
   obtain rfl:=som cj;exact Wr<|rtO<|c_ hr z ⟨bup (bM (bup (bM (bup (bup (bup (bup h4 h2) h1) G) hh) hi<|m1 av) sz) dI<|m1<|lt_ (lt_ av hh.s) hi.s) dK,z,b_2 bC⟩
  rintro _ _ _ _ rfl ⟨rfl,ck⟩;have cl:=elR b4;obtain rfl:=som cl;exact ⟨ck,z⟩
 have b5:=ifF b2 ad;refine R z (t_s z ad)<|Re z z z<|Re z z z<|Wx z (λhc=>(b_D hc z).elim) (λ_=>?_)
 refine Ws ?_
 rcases bs (ry.1==6) with ae | ae
 .refine R z (ta_137 z ae)<|Re z z z<|Re z z z<|Wx z (λ_=>?_) (λhc=>(b_D z hc).elim)
  refine Ws<|E z (fa t_O) ?_
  rintro _ dN ⟨rfl,bD⟩;have hb:=bD.below;refine E0 (fs0 (cur':=[sl bf bg bh]) z_137 z z (bD.blk:Blk dN wa.z [sN]) z z z z) ?_;rintro _ I ⟨dO,dP⟩;have hd:=dP.one;refine Wn<|Ws<|E z (f0 (α:=Str) a_w) ?_
  rintro _ L ⟨dS,dT,dU,rfl,sk,dV⟩;refine Rw z<|Wq<|Ws<|Rf z t_K z<|R z (l0 a_t z<|(dO.e sk).at z) ?_
  have bE:=((hb.ag<|bl wa.z).c hd<|lg<|f_ lr).e sk;refine R z (lnR D_ z<|au.g bE)<|Rm z<|Wn ?_
  obtain ⟨_,cm,b6⟩:=bdS<|ifT b5 ae;refine Wf (σ:=List Str) (ρ:=Str) (λ(bF:Nat)(a8:List Str) a w=>∃aq nr cs Sg,Sat 122 [(7,.func (.func 83) #[] #[pt w0.z,pt ap.z,pt ar.z]),(14,sl aq nr cs),(66,sl bf bg bh),(67,vI (ry.2.length:Int)),(68,vI ((bF:Nat):Int))] a/\Cg [I.z] L w/\a_ w Sg (sl aq nr cs) a8/\Sg.Nodup/\(∀k∈Sg,k∈[I.z]∨L.z<=k)) (λ(a8:List Str) a w=>∃aq nr cs Sg,Sat 122 [(14,sl aq nr cs)] a/\Cg [I.z] L w/\a_ w Sg (sl aq nr cs) a8/\Sg.Nodup/\(∀k∈Sg,k∈[I.z]∨L.z<=k)) (rQ prog fn<|Q11 w0 B) cm ?_ ?_ ?_ ?_ ?_
  .exact λ_ q=>⟨dS,dT,dU,[I.z],q.k<|s5 z z z z z,cr [I.z] L,dV,a_I,io sr⟩
  .rintro bF a8 _ dW _ aB ⟨aq,nr,cs,Sg,cn,sm,ao,ay,az⟩ cp;refine Wu ?_ cn;refine Ws<|Rl z z z<|Wn<|Wq<|Wc z (λ_=>?_) (λhc=>(Q_ aB hc).elim)
   refine Wk<|Wq<|Wb<|Wm z ?_
   obtain ⟨_,dX,cq⟩:=bdS cp;refine RX z (at_ (α:=Str) D_ z_9 z z z (au.g<|bE.c sm<|lg<|m1<|lt_ hb.s hd.s) dX) ?_;rintro _ ⟨_,_,_,rfl,dY,dZ,_⟩;obtain ⟨rfl,_⟩:=a_h dZ;refine R z (l0 g_9 z<|dY.at0 z)<|Ra z<|Rw z<|Wg<|RM z z ?_
   obtain ⟨_,e0,ct⟩:=bdS cq;refine R z (a_q z z e0)<|RM z z ?_
   have bG:=lt_ h2.s h1.s;have bH:=lt_ bG G.s;have bI:=lt_ hj G.s;have aK:∀k∈[wa.z],¬B k:=or0 (f_ lr)<|p_<|zt' O bI;have aL:∀k∈[I.z],¬B k:=or0 (f_ lr)<|p_<|zt' O<|lt_ (lt_ bI hb.s) hd.s;have aM:=((((a1.e G).e hb).c hd<|e_ aK).e sk).c sm<|e_ aL
   have bJ:=lt_ h1.s G.s;have bK:=lt_ (lt_ G.s hb.s) hd.s;obtain ⟨_,e1,cu⟩:=bdS ct;refine E z (d_N call83 z z<|aj.run (B:=a4.z) e1 (Y_<|lt_ (lt_ bK sk.s) sm.s) (((((((((hG.e h4).e h2).e h1).e G).e hb).c hd<|e_ aK).e sk).c sm<|e_ aL).mono h3) (ic (Nat.le_of_lt aB)<|lt_ (repS.len au) B_) (repS.mono (a2.g aM) h3) ((((((a5.e G).e hb).c hd<|djs<|mm1 he.lt bH).e sk).c sm<|djs<|mm1 he.lt<|lt_ (lt_ bH hb.s) hd.s).row 0 1 z) (zap' (Y_ bG) he.lt) a9 ((((((a6.e G).e hb).c hd<|djs<|mm1 hf.lt bJ).e sk).c sm<|djs<|mm1 hf.lt<|lt_ (lt_ bJ hb.s) hd.s).row 0 1 z) (zap' (Y_ h1.s) hf.lt) a0 (repS.mono (a3.g aM) h3) (repS.mono (V.g aM) h3) ((((((((hC3.e h4).e h2).e h1).e G).e hb).c hd<|(e_ aK) _ hC3b).e sk).c sm<|(e_ aL) _ hC3b) (zap' h3 hC3b) ((((((h5.e G).e hb).c hd<|djs<|mm1 h5.lt G.s).e sk).c sm<|djs<|mm1 h5.lt bK).row 0 1 z) h5.lt) ?_;rintro _ bL ⟨aN,rfl,_⟩;obtain ⟨e2,aO,cv⟩:=bdS cu;refine R z (a_q z z aO)<|E z (fS [(.tmp 79)] a_w z z z (b_l z) (lb z)<|lb z) ?_
   rintro _ bN ⟨rfl,aP⟩;have aQ:=aP.below;have eH:=b_U aP<|b_k<|b_2 aO
   obtain ⟨e3,e4,cw⟩:=bdS cv;refine E z (b_W (α:=Str) a_w e4 z z ((ao.e aN).e aQ) ay (aP.blk:Blk bN bL.z [Str.v e2]) (b_k<|b_2 aO) an_ U_) ?_;rintro _ e5 ⟨bO,e6,e7,e8,rfl,e9,ea,eb,ec⟩;refine Rw z<|Wg<|R z (inc_ aB (lt_ (repS.len au) B_) z z)<|Rm z<|Wl ?_
   have bP:∀k∈Sg,k∈[I.z]∨L.z<=k:=or1 az (io sr)<|l_ lr;exact λ_ q=>⟨e3,(som cw).symm,⟨e6,e7,e8,bO,q.k<|s5 z z z z z,(cM (j_ (j_ (cM (cr [I.z] L) sm (io sr):Cg [I.z] L dW) aN:Cg [I.z] L bL) aQ:Cg [I.z] L bN) e9 bP:Cg [I.z] L e5),ea,eb,(or2 ec bP an_ (l_<|lt_ (lt_ sm.s aN.s) aQ.s):∀k∈bO,k∈[I.z]∨L.z<=k)⟩⟩
  .rintro a8 _ ed ⟨aq,nr,cs,Sg,cx,ee,ao,ay,az⟩;refine Wu ?_ cx;refine Ws<|Rl z z z<|Wn<|Wq<|Wc z (λhc=>(R_ hc).elim) (λ_=>?_)
   exact We<|λ_ q=>⟨rfl,⟨aq,nr,cs,Sg,q.k<|s1 z,(cM (cr [I.z] L) ee (io sr):Cg [I.z] L ed),ao,ay,(or1 az (io sr) (l_ lr):∀k∈Sg,k∈[I.z]∨L.z<=k)⟩⟩
  .rintro a8 ef eg rfl ⟨aq,nr,cs,Sg,_,eh,ao,ay,az⟩;have cy:=elL b6;revert ef;refine Wo<|Wm z ?_
   obtain ⟨_,ei,cz⟩:=bdS cy;refine E z (fc call87 z<|W_w20 (B:=eg.z) ei zr (a_.rep ao)<|lb z) ?_;rintro _ _ ⟨ej,rfl,_⟩;obtain ⟨_,ek,cA⟩:=bdS cz;refine R z (a_q z z ek) ?_;obtain ⟨_,bQ,cB⟩:=bdS cA;refine R z (a_q z z bQ)<|Rw z ?_
   obtain rfl:=som cB;have bR:=lt_ hj G.s;exact Wr<|rtO<|c_ hr z ⟨bup (bM (bup (bM (bup (bup (bup (bup h4 h2) h1) G) hb) hd<|m1 bR) sk) eh<|m1<|lt_ (lt_ bR hb.s) hd.s) ej,z,b_2 bQ⟩
  rintro _ _ _ _ rfl ⟨rfl,cC⟩;have cD:=elR b6;obtain rfl:=som cD;exact ⟨cC,z⟩
 have b7:=ifF b5 ae;refine R z (t_t z ae)<|Re z z z<|Re z z z<|Wx z (λhc=>(b_D hc z).elim) (λ_=>?_)
 refine Ws ?_
 rcases bs (ry.1==7) with af | af
 .refine R z (ta_138 z af)<|Re z z z<|Re z z z<|Wx z (λ_=>?_) (λhc=>(b_D z hc).elim)
  refine Ws<|E z (fa t_P) ?_
  rintro _ em ⟨rfl,bS⟩;have ht:=bS.below;refine E0 (fs0 (cur':=[]) z_138 z z (bS.blk:Blk em wa.z []) z z z z) ?_;rintro _ _ ⟨_,en⟩;have hu:=en.one;refine Wn<|Wq (Wd (X:=noX) 0 (pl_ 8 [5,6]) mo (by kernel_rfl) λeI sv _=>?_)
  have bT:=(((h5.e G).e ht).c hu<|djs<|mm1 h5.lt G.s).e sv;refine dR z z (l0 f_r z<|bT.at z)<|dR z z (J_ z)<|dR z z (fd b_u z) ?_
  have aR:=lt_ hj G.s;have aS:∀k∈[wa.z],¬B k:=or0 (f_ lr)<|p_<|zt' O aR;have bU:=((((((hC3.e h4).e h2).e h1).e G).e ht).c hu<|(e_ aS) _ hC3b).e sv;refine dR z z (l0 g_3 z<|bU.at (j:=0) z)<|dM z z z ?_
  have bV:=lt_ h2.s h1.s;have aT:=(((a1.e G).e ht).c hu<|e_ aS).e sv;have bW:=((((((hG.e h4).e h2).e h1).e G).e ht).c hu<|e_ aS).e sv;obtain ⟨_,eo,cE⟩:=bdS<|ifT b7 af;refine dE z z (d_N call83 z z<|aj.run (B:=a4.z) eo (Y_<|lt_ (lt_ (lt_ G.s ht.s) hu.s) sv.s) (bW.mono h3) (ii z) (repS.mono (a2.g aT) h3) (((((a5.e G).e ht).c hu<|djs<|mm1 he.lt<|lt_ bV G.s).e sv).row 0 1 z) (zap' (Y_ bV) he.lt) a9 (((((a6.e G).e ht).c hu<|djs<|mm1 hf.lt<|lt_ h1.s G.s).e sv).row 0 1 z) (zap' (Y_ h1.s) hf.lt) a0 (repS.mono (a3.g aT) h3) (repS.mono (V.g aT) h3) bU (zap' h3 hC3b) (bT.row 0 1 z) h5.lt) (.inr λ_ _ h=>C_<|h.1) ?_;rintro _ _ ⟨aU,rfl,ep⟩;obtain ⟨_,er,cF⟩:=bdS cE;refine dE z z (fc call88 z<|W_w40 er (zt' O<|lt_ (lt_ (lt_ (lt_ aR ht.s) hu.s) sv.s) aU.s) (bW.e aU) a0 (lb z) ep<|lb z) (.inr λ_ _ h=>C_<|h.1) ?_;rintro _ _ ⟨es,rfl,eu⟩;refine dQ z z z<|pD<|Wo ?_
  obtain rfl:=som cF;exact Wr<|rtO<|c_ hr z ⟨bup (bup (bup (bM (bup (bup (bup (bup h4 h2) h1) G) ht) hu<|m1 aR) sv) aU) es,z,eu⟩
 have b8:=ifF b7 af;refine R z (t_u z af)<|Re z z z<|Re z z z<|Wx z (λhc=>(b_D hc z).elim) (λ_=>?_)
 refine Ws ?_
 rcases bs (ry.1==8) with ah | ah
 .have b9:=ifT b8 ah;refine R z (ta_140 z ah)<|Re z z z<|Re z z z<|Wx z (λ_=>?_) (λhc=>(b_D z hc).elim)
  refine Ws<|E z (fa t_Q) ?_
  rintro _ ew ⟨rfl,bX⟩;have hw:=bX.below;refine E0 (fs0 (cur':=[]) z_140 z z (bX.blk:Blk ew wa.z []) z z z z) ?_;rintro _ _ ⟨_,ex⟩;have hx:=ex.one;refine Wn<|Wq<|Ws ?_
  have bY:=((h5.e G).e hw).c hx<|djs<|mm1 h5.lt G.s
  refine R z (l0 f_r z<|bY.at z)<|R z (J_ z)<|Rf z a_y z ?_
  have aV:=lt_ hj G.s;have aW:∀k∈[wa.z],¬B k:=or0 (f_ lr)<|p_<|zt' O aV;have bZ:=(((((hC3.e h4).e h2).e h1).e G).e hw).c hx<|(e_ aW) _ hC3b
  refine R z (l0 a_E z<|bZ.at (j:=2) z) ?_;have aX:=((a1.e G).e hw).c hx<|e_ aW
  have c0:=V.g aX;refine R z (lnR a_N z c0)<|Rq z z z<|Wx z (λaC=>?_) (λaC=>?_)
  .refine Ws<|Rw z ?_
   obtain rfl:=som<|ifT b9 aC;exact Wr<|rtO<|c_ hr z ⟨bM (bup (bup (bup (bup h4 h2) h1) G) hw) hx<|m1 aV,z,lb z⟩
  refine Wk<|Wm z ?_
  have c1:=lt_ h2.s h1.s;obtain ⟨_,ey,cG⟩:=bdS<|ifF b9 aC;refine E z (d_N call83 z z<|aj.run (B:=a4.z) ey (Y_<|lt_ (lt_ G.s hw.s) hx.s) (((((((hG.e h4).e h2).e h1).e G).e hw).c hx<|e_ aW).mono h3) (ii z) (repS.mono (a2.g aX) h3) ((((a5.e G).e hw).c hx<|djs<|mm1 he.lt<|lt_ c1 G.s).row 0 1 z) (zap' (Y_ c1) he.lt) a9 ((((a6.e G).e hw).c hx<|djs<|mm1 hf.lt<|lt_ h1.s G.s).row 0 1 z) (zap' (Y_ h1.s) hf.lt) a0 (repS.mono (a3.g aX) h3) (repS.mono c0 h3) bZ (zap' h3 hC3b) (bY.row 0 1 z) h5.lt) ?_;rintro _ _ ⟨ez,rfl,_⟩;obtain ⟨_,c2,cH⟩:=bdS cG;refine R z (a_q z z c2)<|Rw z ?_
  obtain rfl:=som cH;exact Wr<|rtO<|c_ hr z ⟨bup (bM (bup (bup (bup (bup h4 h2) h1) G) hw) hx<|m1 aV) ez,z,b_2 c2⟩
 have ba:=ifF b8 ah;refine R z (t_v z ah)<|Re z z z<|Re z z z<|Wx z (λhc=>(b_D hc z).elim) (λ_=>?_)
 refine Ws ?_
 rcases bs (ry.1==9) with ai | ai
 .refine R z (ta_141 z ai)<|Re z z z<|Re z z z<|Wx z (λ_=>?_) (λhc=>(b_D z hc).elim)
  refine Ws<|E z (fa t_R) ?_
  rintro _ eA ⟨rfl,c3⟩;have W:=c3.below;refine E0 (fs0 (cur':=[]) z_141 z z (c3.blk:Blk eA wa.z []) z z z z) ?_;rintro _ _ ⟨_,eB⟩;have Y:=eB.one;refine Wn<|Wm z ?_
  have c4:=lt_ h2.s h1.s;have c5:=lt_ hj G.s;have aY:∀k∈[wa.z],¬B k:=or0 (f_ lr)<|p_<|zt' O c5;have aZ:=((a1.e G).e W).c Y<|e_ aY
  obtain ⟨_,eC,cI⟩:=bdS<|ifT ba ai;refine E z (d_N call83 z z<|aj.run (B:=a4.z) eC (Y_<|lt_ (lt_ G.s W.s) Y.s) (((((((hG.e h4).e h2).e h1).e G).e W).c Y<|e_ aY).mono h3) (ii z) (repS.mono (a2.g aZ) h3) ((((a5.e G).e W).c Y<|djs<|mm1 he.lt<|lt_ c4 G.s).row 0 1 z) (zap' (Y_ c4) he.lt) a9 ((((a6.e G).e W).c Y<|djs<|mm1 hf.lt<|lt_ h1.s G.s).row 0 1 z) (zap' (Y_ h1.s) hf.lt) a0 (repS.mono (a3.g aZ) h3) (repS.mono (V.g aZ) h3) ((((((hC3.e h4).e h2).e h1).e G).e W).c Y<|(e_ aY) _ hC3b) (zap' h3 hC3b) ((((h5.e G).e W).c Y<|djs<|mm1 h5.lt G.s).row 0 1 z) h5.lt) ?_;rintro _ _ ⟨eD,rfl,_⟩;obtain ⟨_,eE,cJ⟩:=bdS cI;refine R z (a_q z z eE) ?_;obtain ⟨_,c6,cK⟩:=bdS cJ;refine R z (a_q z z c6)<|Rw z ?_
  obtain rfl:=som cK;exact Wr<|rtO<|c_ hr z ⟨bup (bM (bup (bup (bup (bup h4 h2) h1) G) W) Y<|m1 c5) eD,z,b_2 c6⟩
 refine R z (t_w z ai)<|Re z z z<|Re z z z<|Wx z (λhc=>(b_D hc z).elim) (λ_=>?_)
 refine Wk<|Ws<|R z (l0 f_r z<|(h5.e G).at z)<|R z (J_ z)<|Rf z c_u z<|R z (l0 X_ z<|((((hC3.e h4).e h2).e h1).e G).at (j:=1) z) ?_
 obtain ⟨_,eF,cL⟩:=bdS<|ifF ba ai;refine E z (fc call89 z<|W_w41 eF (zt' O<|lt_ hj G.s)<|a3.g<|a1.e G) ?_;rintro _ _ ⟨eG,rfl,_⟩;obtain ⟨_,c7,cN⟩:=bdS cL;refine R z (a_q z z c7)<|Rw z ?_
 obtain rfl:=som cN;exact Wr<|c_ hr z ⟨bup (bup (bup (bup h4 h2) h1) G) eG,z,b_2 c7⟩
theorem T_w21 (ih:m_d n):m_c (i_s n<|a_W n):=by
 obtain ⟨V,_⟩:=ih
 constructor
 intro A5 AK AL N5 C5 b2 o2 b3 o3 NK CK NL CL b4_0 o4_0 b4 o4 B x1 x2 x3 x4 res w0 hm I hG J H hC2 hC2b L hC3 hC3b p4_0_0 p4_0_1 p4_0_2 O p4_0b hC4 hC4b;unfold i_s at hm
 refine goG func83 z z z λfn hr=>Ws<|Rw z<|Wq (Wd (X:=noX) 0 (.rd 0<|.rd 1<|.rd 2<|.rd 3<|.rd 4<|.rd 6<|.rd 7<|.rd 8<|.rd 9<|.rd 10<|.rd 11<|.ef 5<|.ef 12<|.rd 13 .done) mo (by kernel_rfl) λwl G _=>?_)
 have h2:=hC2.e G;refine dR z z (lN (vs:=[sl A5 N5 C5]) w_ v_ z z fid h2)<|dR z z (lN (vs:=[sl A5 N5 C5]) w_ v_ z z fid h2)<|dR z z (l0 g_3 z<|(hC3.e G).at0 z) ?_
 have h3:=hC4.e G;refine dR z z (l0 f_r z<|h3.at0 z)<|dM z z z<|dR z z (l0 f_r z<|h3.at0 z)<|dR z z (J_ z)<|dR z z (fd a_y z) ?_
 have h4:=O.e G;refine dR z z (l0 a_E z<|h4.at (j:=2) z)<|dM z z z ?_
 obtain ⟨_,Y,W⟩:=bdS hm;have h5:=p4_0_2.e G;refine dRX z z (at_ (α:=Val) a_N h_ z z z h5 Y) ?_;rintro _ ⟨_,_,_,rfl,h8,h9,ha⟩;obtain ⟨_,_,_,_,_,_,rfl,hb,hc,hd⟩:=i_b h9;obtain ⟨_,ee,hmf⟩:=bdS W;refine dE z z (fc call84 z<|m_8 ee (zt' I G.s) (H.e G) L p4_0_0 (p4_0_1.e G) h5 h4 p4_0b J) (.inr λ_ _ h=>C_<|h.1) ?_;rintro _ _ ⟨s1,rfl,hg⟩;obtain ⟨_,eh,hmi⟩:=bdS hmf;refine dE z z (fc call41 z<|V.run eh (zt' I<|lt_ G.s s1.s) ((hG.e G).e s1) (H.g<|(G.ag B).e s1) hg hb (hc.e s1) (hd.e s1) (h8.e s1) ha) (.inr λ_ _ h=>C_<|h.1) ?_;rintro _ _ ⟨sj,rfl,hk⟩;refine dQ z z z<|pD<|Wo ?_
 obtain rfl:=som hmi;exact Wr<|c_ hr z ⟨bup (bup G s1) sj,z,hk⟩
theorem k_g:∀n,m_d n
  | 0=>⟨⟨λhm=>by intros;exact nomatch (show none=some _ from hm)⟩,⟨λhm=>by intros;exact nomatch (show none=some _ from hm)⟩⟩
  | n+1=>⟨T_w0a<|k_g n,T_w21<|k_g n⟩
theorem W_w0a:m_b (a_W n).impl_valueText:=(k_g n).1
theorem W_w21:m_c (a_W n).impl_valueText_1:=(k_g n).2
theorem W_w42 {x1:d_}{x2:Int}{x3:Val}{res:Str}(hm:e_Y n x1 x2 x3=some res)(a0:B<=w0.z)(hG:Gl w0 B)(J:repS w0 B (sl A0 N0 C0) x1.rules)(L:inI x2)(O:inI x3.number)(V:repS w0 B (sl A8 N8 C8) x3.bytes)(W:repS w0 B (sl A9 N9 C9) x3.items):i_ prog 22 [(.agg #[sl A0 N0 C0]),vI x2,(.agg #[vI x3.number,sl A8 N8 C8,sl A9 N9 C9])] w0 (Q11 w0 B res):=by
 unfold e_Y at hm
 refine goG func22 z z z λfn hr=>Ws<|E z (fb z) ?_
 rintro _ Y ⟨rfl,h9⟩;have h2:=h9.below;refine E z (fb z) ?_;rintro _ wa ⟨rfl,hb⟩;have h1:=hb.below;have h5:Blk wa Y.z [vI x3.number,sl A8 N8 C8,sl A9 N9 C9]:=hb.blk;refine Rw z<|Wq<|Ws ?_
 have hc:=(h9.blk:Blk Y w0.z [sl A0 N0 C0]).e h1;refine R z (lN (vs:=[sl A0 N0 C0]) w_ v_ z z fid<|hc.row 0 1 z)<|Rm z<|R z (lN (vs:=[vI x3.number,sl A8 N8 C8,sl A9 N9 C9]) y_ h_ z z fid<|h5.row 0 3 z) ?_
 have h4:=(h2.ag B).e h1;have h3:=zt' a0<|lt_ h2.s h1.s
 obtain ⟨_,ef,hmd⟩:=bdS hm;refine E z (fc call40 z<|W_w3y (B:=B) ef h3 (J.g h4) L O (V.g h4)<|W.g h4) ?_;rintro _ _ ⟨G,rfl⟩;refine R z (not_ z)<|Wx z (λH=>?_) (λH=>?_)
 .refine Ws<|Rw z ?_
  obtain rfl:=som<|ifT hmd H;exact Wr<|c_ hr z ⟨bup (bup h2 h1) G,z,lb z⟩
 refine Wk<|Ws<|R z (lN (vs:=[sl A0 N0 C0]) w_ v_ z z fid<|(hc.e G).row 0 1 z)<|Rm z ?_
 have I:=h4.e G;obtain ⟨_,eg,hmh⟩:=bdS<|ifF hmd H;refine E z (fc call41 z<|W_w0a.run (B:=wa.z) eg (Y_ G.s) ((((hG.e h2).e h1).e G).mono h3) (repS.mono (J.g I) h3) L O (repS.mono (V.g I) h3) (repS.mono (W.g I) h3) ((h5.e G).row 0 3 z) h5.lt) ?_;rintro _ _ ⟨si,rfl,hj⟩;refine Rw z ?_
 obtain rfl:=som hmh;exact Wr<|c_ hr z ⟨bup (bup (bup h2 h1) G) si,z,hj⟩
theorem W_w22 {x1:d_}{x2:Bt}{x3:Str}{x4:Str}{res:(List Str)}(hm:g_7 n x1 x2 x3 x4=some res)(Y:B<=w0.z)(hG:Gl w0 B)(a0:repS w0 B (sl A0 N0 C0) x1.rules)(a8:repS w0 B (sl A5 N5 C5) x2)(aR:x3.b.length<=LEN)(bK:x4.b.length<=LEN):i_ prog 8 [(.agg #[sl A0 N0 C0]),sl A5 N5 C5,Str.v x3,Str.v x4] w0 (Q2 w0 B res):=by
 unfold g_7 at hm
 refine goG func8 z z z λfn hr=>Ws<|E z (fb z) ?_
 rintro _ G ⟨rfl,ad⟩;have hh:=ad.below;have ho:Blk G w0.z [sl A0 N0 C0]:=ad.blk;refine Rw z<|Ws<|E z (f0 (α:=Str) a_w) ?_
 rintro _ _ ⟨b5,b6,b7,rfl,si,ae⟩;refine Rw z<|Wq<|Ws ?_
 have af:=ho.e si;refine R z (lN (vs:=[sl A0 N0 C0]) w_ v_ z z fid<|af.row 0 1 z)<|RM z z ?_
 have hv:=(hh.ag B).e si;have ah:=(hG.e hh).e si;have hw:=lt_ hh.s si.s;obtain ⟨ai,b8,aS⟩:=bdS hm;refine E z (fc call20 z<|W_w3u b8 (zt' Y hw) ah (a0.g hv) (a8.g hv) aR) ?_;rintro _ I ⟨sf,aj,ak,al,_,rfl,hp,_,b9⟩;refine R z (lnR c_v z<|a_.rep hp)<|Rm z<|Wn ?_
 obtain ⟨_,aT,a9⟩:=bdS aS;refine Wf (σ:=List Str) (ρ:=List Str) (λ(kx:Nat)(xg:List Str) a w=>∃J L O H,Sat 50 [(1,sl A5 N5 C5),(3,Str.v x4),(4,pt w0.z),(9,sl J L O),(19,sl aj ak al),(20,vI (ai.length:Int)),(21,vI ((kx:Nat):Int))] a/\Cg [G.z] I w/\a_ w H (sl J L O) xg/\H.Nodup/\(∀k∈H,k∈[G.z]∨I.z<=k)) (λ(xg:List Str) a w=>∃J L O H,Sat 50 [(9,sl J L O)] a/\Cg [G.z] I w/\a_ w H (sl J L O) xg/\H.Nodup/\(∀k∈H,k∈[G.z]∨I.z<=k)) (rQ prog fn<|Q2 w0 B) aT ?_ ?_ ?_ ?_ ?_
 .exact λ_ q=>⟨b5,b6,b7,[G.z],q.k<|s7 z z z z z z z,cr [G.z] I,ae.e sf,a_I,io sr⟩
 .rintro kx xg _ wq _ aa ⟨J,L,O,H,aU,sc,hb,hj,hl⟩ aV;refine Wu ?_ aU;refine Ws<|Rl z z z<|Wn<|Wq<|Wc z (λ_=>?_) (λhc=>(Q_ aa hc).elim)
  refine Wk<|Wq<|Wb<|Ws ?_
  obtain ⟨xd,ba,aW⟩:=bdS aV;refine RX z (at_ (α:=k_) c_v b_6 z z z (or_ (hp.c sc<|a_M b9 (a_.lt ae) lr)<|a_.lt hp) ba) ?_;rintro _ ⟨_,_,_,rfl,bb,bc,_⟩;obtain ⟨rfl,am,an,be,_⟩:=f_x bc;refine R z (lN (vs:=[Str.v xd.path,vI xd.rule,vI xd.start,vI xd.end_]) e_c b_6 z z fid bb)<|E z (fa i_f) ?_
  rintro _ ao ⟨rfl,ap⟩;have V:=ap.below;have aq:Blk ao wq.z [(Str.v (⟨[]⟩:Str)),vI 0,vI 0,vI 0]:=ap.blk;refine E0 (fs0 (cur':=[Str.v xd.path,vI xd.rule,vI xd.start,vI xd.end_]) b_6 z z aq z z z z) ?_;rintro _ bf ⟨hy,bg⟩;have h4:=bg.one;refine Wn<|Ws ?_
  have ar:=lt_ (lt_ si.s sf.s) sc.s;have av:=(((af.e sf).c sc<|djs<|mmr ho.lt).e V).c h4<|djs<|mm1 ho.lt ar
  refine R z (lN (vs:=[sl A0 N0 C0]) w_ v_ z z fid<|av.row 0 1 z)<|Rf z k_4 z<|R z (l0 g_3 z<|hy.at z)<|Rm z<|Rf z p_6 z<|R z (l0 g_3 z<|hy.at z) ?_
  have aw:∀k∈[G.z],¬B k:=or0 (f_ lr)<|p_<|zt' Y hh.s;have ax:=lt_ (lt_ hw sf.s) sc.s;have ay:∀k∈[wq.z],¬B k:=or0 (f_ lr)<|p_<|zt' Y ax;have hz:=(((hv.e sf).c sc<|e_ aw).e V).c h4<|e_ ay
  have az:=(((ah.e sf).c sc<|e_ aw).e V).c h4<|e_ ay
  have aA:=lt_ (lt_ ax V.s) h4.s;obtain ⟨aB,_,_,bh,aX⟩:=N_ aW;refine E z (fc call21 z<|k_e bh (zt' Y aA) az (a0.g hz) an (a8.g hz) be) ?_;rintro _ wm ⟨s3,aC,aD,aE,_,aF,aG,aH,_,rfl,bi,a2,a3,_,_,_,_⟩;refine Rm z ?_
  iterate 3 refine Re z z z ?_
  refine E z (fa a_f) ?_;rintro _ aI ⟨rfl,aJ⟩;have W:=aJ.below;refine E0 (fs0 (cur':=[vI aB.number,sl aC aD aE,sl aF aG aH]) h_ z z (aJ.blk:Blk aI wm.z [vI 0,sN,sN]) z z z z) ?_;rintro _ bj ⟨bk,bm⟩;have ha:=bm.one;refine Ra z<|Rw z<|Ws<|R z (lN (vs:=[sl A0 N0 C0]) w_ v_ z z fid<|(((av.e s3).e W).c ha<|djs<|mm1 ho.lt<|lt_ (lt_ (lt_ ar V.s) h4.s) s3.s).row 0 1 z)<|Rf z k_4 z ?_
  have aK:=((hy.e s3).e W).c ha<|djs<|mm1 aq.lt<|lt_ h4.s s3.s
  refine R z (l0 g_3 z<|aK.at z)<|R z (lN (vs:=[vI aB.number,sl aC aD aE,sl aF aG aH]) y_ h_ z z fid<|bk.row 0 3 z) ?_
  have a4:=zt' Y<|lt_ aA s3.s
  have aL:∀k∈[wm.z],¬B k:=or0 (f_ lr)<|p_ a4;obtain ⟨_,bn,aY⟩:=bdS aX;refine E z (fc call22 z<|W_w42 (B:=wm.z) bn (Y_<|lt_ W.s ha.s) ((((az.e s3).e W).c ha<|e_ aL).mono a4) (repS.mono (a0.g<|((hz.e s3).e W).c ha<|e_ aL) a4) an bi (or_ ((a2.e W).c ha<|ds<|mnr<|a_.lt a2)<|a_.lt a2)<|or_ ((a3.e W).c ha<|ds<|mnr<|a_.lt a3)<|a_.lt a3) ?_;rintro _ we ⟨sn,rfl,_⟩;refine Rm z<|R z (a_K z z)<|Wn ?_
  obtain ⟨bo,ab,aZ⟩:=bdS aY;refine Wt (λa w=>∃(xr:List Str),xr=bo/\∃au ns ct Sk,Sat 50 [(1,sl A5 N5 C5),(3,Str.v x4),(4,pt w0.z),(9,sl au ns ct),(19,sl aj ak al),(20,vI (ai.length:Int)),(21,vI ((kx:Nat):Int))] a/\Cg H we w/\a_ w Sk (sl au ns ct) xr/\Sk.Nodup/\(∀k∈Sk,k∈H∨we.z<=k)) ?_ ?_
  .refine Wc z (λa1=>?_)<|λa1=>?_
   .refine Wg<|Rm z<|Rf z i_e z<|R z (l0 g_9 z<|(aK.e sn).at z)<|E z (fS [(.tmp 45)] a_w z z z (b_l z) (lb z)<|lb z) ?_
    rintro _ aM ⟨rfl,a6⟩;have a7:=a6.below;have bL:=b_U a6<|b_k am
    obtain ⟨bp,bq,b0⟩:=bdS<|ifT ab a1;refine E z (b_W (α:=Str) a_w bq z z (((((((hb.e V).c h4<|ds<|mnr<|a_.lt hb).e s3).e W).c ha<|ds<|mno (a_.lt hb)<|lt_ (lt_ V.s h4.s) s3.s).e sn).e a7) hj (a6.blk:Blk aM we.z [Str.v xd.path]) (b_k am) an_ U_) ?_;rintro _ br ⟨aN,bs,bt,bu,rfl,bv,bw,bx,bz⟩;refine Ra z<|Wl ?_
    exact λ_ q=>⟨bp,som b0,bs,bt,bu,aN,q.k<|s7 z z z z z z z,(cM (j_ (cr H we) a7:Cg H we aM) bv (io sr):Cg H we br),bw,bx,(or2 bz (io sr) an_ (l_ a7.s):∀k∈aN,k∈H∨we.z<=k)⟩
   exact a_5<|λ_ q=>⟨xg,som<|ifF ab a1,J,L,O,H,q.k<|s7 z z z z z z z,cr H we,(((((hb.e V).c h4<|ds<|mnr<|a_.lt hb).e s3).e W).c ha<|ds<|mno (a_.lt hb)<|lt_ (lt_ V.s h4.s) s3.s).e sn,hj,io sr⟩
  rintro bA bB ⟨xr,rfl,au,ns,ct,Sk,_,bC,bD,bE,bF⟩;revert bA;refine Wo<|Wg<|R z (inc_ aa (lt_ (a_.len hp) B_) z z)<|Rm z<|Wl ?_
  have aO:=lt_ (lt_ (lt_ sc.s V.s) h4.s) s3.s;have aP:∀k∈H,k∈[G.z]∨I.z<=k:=or1 hl (io sr)<|l_ lr;exact λ_ q=>⟨xr,(som aZ).symm,⟨au,ns,ct,Sk,q.k<|s7 z z z z z z z,(cM (j_ (cM (j_ (j_ (cM (j_ (cM (cr [G.z] I) sc (io sr):Cg [G.z] I wq) V:Cg [G.z] I ao) h4 (mor sc.s:∀k∈[wq.z],k∈[G.z]∨I.z<=k):Cg [G.z] I bf) s3:Cg [G.z] I wm) W:Cg [G.z] I aI) ha (mor aO:∀k∈[wm.z],k∈[G.z]∨I.z<=k):Cg [G.z] I bj) sn:Cg [G.z] I we) bC aP:Cg [G.z] I bB),bD,bE,(or1 bF aP (l_<|lt_ (lt_ (lt_ aO W.s) ha.s) sn.s):∀k∈Sk,k∈[G.z]∨I.z<=k)⟩⟩
 .rintro xg _ bG ⟨J,L,O,H,b1,bH,hb,hj,hl⟩;refine Wu ?_ b1;refine Ws<|Rl z z z<|Wn<|Wq<|Wc z (λhc=>(R_ hc).elim) (λ_=>?_)
  exact We<|λ_ q=>⟨rfl,⟨J,L,O,H,q.k<|s1 z,(cM (cr [G.z] I) bH (io sr):Cg [G.z] I bG),hb,hj,(or1 hl (io sr) (l_ lr):∀k∈H,k∈[G.z]∨I.z<=k)⟩⟩
 .rintro xg bI _ rfl ⟨J,L,O,H,_,bJ,hb,hj,hl⟩;have b2:=elL a9;revert bI;refine Wo<|Wm z<|Rw z ?_
  obtain rfl:=som b2;have aQ:=m1 hh.s;exact Wr<|c_ hr z ⟨bM (bup (bup hh si) sf) bJ aQ,J,L,O,H,z,hb,hj,c_6 hl aQ<|lt_ hw sf.s⟩
 rintro _ _ _ _ rfl ⟨rfl,b3⟩;have b4:=elR a9;obtain rfl:=som b4;exact ⟨b3,z⟩
theorem k_h {x1:List Str}{x2:List Str}{res:Bool}(hm:e_Q x1 x2=some res)(a0:B<=w0.z)(G:repS w0 B (sl A0 N0 C0) x1)(L:repS w0 B (sl A5 N5 C5) x2):i_ prog 9 [sl A0 N0 C0,sl A5 N5 C5] w0 (Q7 w0 B res):=by
 unfold e_Q at hm
 refine goG func9 z z z λfn hr=>Ws<|Rw z<|Wq<|Wm z<|R z (lnR D_ z G)<|Rm z<|R z (lnR D_ z L)<|R z (nq z z)<|Wx z (λI=>?_) (λI=>?_)
 .refine Ws<|Rw z ?_
  obtain rfl:=som<|ifT hm I;exact Wr<|c_ hr z ⟨br w0,z⟩
 refine Wk<|Wq<|Ws<|Rw z ?_
 obtain ⟨_,hua,O⟩:=bdS<|ifF hm I;refine Wf (σ:=Unit) (ρ:=Bool) (λ(k5:Nat)(_:Unit) a w=>Sat 26 [(0,sl A0 N0 C0),(1,sl A5 N5 C5),(5,vI ((k5:Nat):Int))] a/\Below w0.z w0 w) (λ(_:Unit) a w=>Sat 26 [] a/\Below w0.z w0 w) (rQ prog fn<|Q7 w0 B) hua ?_ ?_ ?_ ?_ ?_
 .exact λ_ q=>⟨q.k<|s3 z z z,br w0⟩
 .rintro k5 _ _ _ _ V ⟨hSb,H⟩ hmc;refine Wu ?_ hSb;refine Wq<|Wm z<|Rm z<|R z (lnR D_ z<|G.e H)<|Rl z z z<|Wx z (λ_=>?_) (λhc=>(Q_ V hc).elim)
  refine Wk<|Wq<|Wb<|Wq (Wd (X:=noX) 0 (pl_ 9 []) mo (by kernel_rfl) λwu s2 _=>dM z z z<|dM z z z ?_)
  obtain ⟨_,ed,hme⟩:=bdS hmc;have Y:=(H.ag B).e s2;refine dRX z z (at_ (α:=Str) D_ z_9 z z z (G.g Y) ed) ?_;rintro _ ⟨_,_,_,rfl,hf,hg,_⟩;obtain ⟨rfl,_⟩:=a_h hg;refine dR z z (l0 g_9 z<|hf.at0 z)<|dM z z z<|dM z z z ?_
  obtain ⟨_,eh,W⟩:=bdS hme;refine dRX z z (at_ (α:=Str) D_ z_9 z z z (L.g Y) eh) ?_;rintro _ ⟨_,_,_,rfl,hi,hj,_⟩;obtain ⟨rfl,_⟩:=a_h hj;refine dR z z (l0 g_9 z<|hi.at0 z)<|dR z z (d_U z z)<|pD<|Wo<|Wc z (λJ=>?_) (λJ=>?_)
  .exact Ws<|Rw z<|Wr<|rtO<|qL (som<|ifT W J).symm<|c_ hr z ⟨bup H s2,z⟩
  exact Wk<|Wg<|Rm z<|R z (inc_ V (lt_ (repS.len G) B_) z z)<|Ra z<|Wl (λ_ q=>⟨(),(som<|ifF W J).symm,⟨q.k<|s3 z z z,bup H s2⟩⟩)
 .rintro _ _ _ ⟨hSk,s9⟩;refine Wu ?_ hSk;refine Wq<|Wm z<|Rm z<|R z (lnR D_ z<|G.e s9)<|Rl z z z<|Wx z (λhc=>(R_ hc).elim) (λ_=>?_)
  exact We<|λ_ q=>⟨rfl,⟨q.k sn,s9⟩⟩
 .rintro _ al _ rfl ⟨_,sm⟩;have hmn:=elL O;revert al;refine Wo<|Ws<|Rw z ?_
  obtain rfl:=som hmn;exact Wr<|c_ hr z ⟨sm,z⟩
 rintro _ _ _ _ rfl ⟨rfl,hqo⟩;have hmp:=elR O;obtain rfl:=som hmp;exact ⟨hqo,z⟩
theorem W_w23 {x1:Bt}{x2:Bt}{res:Bool}(hm:g_r x1 x2=some res)(a0:B<=w0.z)(G:repS w0 B (sl A0 N0 C0) x1)(L:repS w0 B (sl A5 N5 C5) x2):i_ prog 11 [sl A0 N0 C0,sl A5 N5 C5] w0 (Q7 w0 B res):=by
 unfold g_r at hm
 refine goG func11 z z z λfn hr=>Ws<|Rw z<|Wq<|Wm z<|R z (lnR o_ z G)<|Rm z<|R z (lnR o_ z L)<|R z (nq z z)<|Wx z (λI=>?_) (λI=>?_)
 .refine Ws<|Rw z ?_
  obtain rfl:=som<|ifT hm I;exact Wr<|c_ hr z ⟨br w0,z⟩
 refine Wk<|Wq<|Ws<|Rw z ?_
 obtain ⟨_,hua,O⟩:=bdS<|ifF hm I;refine Wf (σ:=Unit) (ρ:=Bool) (λ(k5:Nat)(_:Unit) a w=>Sat 26 [(0,sl A0 N0 C0),(1,sl A5 N5 C5),(5,vI ((k5:Nat):Int))] a/\Below w0.z w0 w) (λ(_:Unit) a w=>Sat 26 [] a/\Below w0.z w0 w) (rQ prog fn<|Q7 w0 B) hua ?_ ?_ ?_ ?_ ?_
 .exact λ_ q=>⟨q.k<|s3 z z z,br w0⟩
 .rintro k5 _ _ _ _ V ⟨hSb,H⟩ hmc;refine Wu ?_ hSb;refine Wq<|Wm z<|Rm z<|R z (lnR o_ z<|G.e H)<|Rl z z z<|Wx z (λ_=>?_) (λhc=>(Q_ V hc).elim)
  refine Wk<|Wq<|Wb<|Wq (Wd (X:=noX) 0 (pl_ 9 []) mo (by kernel_rfl) λwu s2 _=>dM z z z<|dM z z z ?_)
  obtain ⟨_,ed,hme⟩:=bdS hmc;have Y:=(H.ag B).e s2;refine dRX z z (at_ (α:=UInt8) o_ z_5 z z z (G.g Y) ed) ?_;rintro _ ⟨_,_,_,rfl,hf,hg,_⟩;obtain rfl:=u8 hg;refine dR z z (l0 g_5 z<|hf.at0 z)<|dM z z z<|dM z z z ?_
  obtain ⟨_,eh,W⟩:=bdS hme;refine dRX z z (at_ (α:=UInt8) o_ z_5 z z z (L.g Y) eh) ?_;rintro _ ⟨_,_,_,rfl,hi,hj,_⟩;obtain rfl:=u8 hj;refine dR z z (l0 g_5 z<|hi.at0 z)<|dR z z (nq z z)<|pD<|Wo<|Wc z (λJ=>?_) (λJ=>?_)
  .exact Ws<|Rw z<|Wr<|rtO<|qL (som<|ifT W J).symm<|c_ hr z ⟨bup H s2,z⟩
  exact Wk<|Wg<|Rm z<|R z (inc_ V (lt_ (repS.len G) B_) z z)<|Ra z<|Wl (λ_ q=>⟨(),(som<|ifF W J).symm,⟨q.k<|s3 z z z,bup H s2⟩⟩)
 .rintro _ _ _ ⟨hSk,s9⟩;refine Wu ?_ hSk;refine Wq<|Wm z<|Rm z<|R z (lnR o_ z<|G.e s9)<|Rl z z z<|Wx z (λhc=>(R_ hc).elim) (λ_=>?_)
  exact We<|λ_ q=>⟨rfl,⟨q.k sn,s9⟩⟩
 .rintro _ al _ rfl ⟨_,sm⟩;have hmn:=elL O;revert al;refine Wo<|Ws<|Rw z ?_
  obtain rfl:=som hmn;exact Wr<|c_ hr z ⟨sm,z⟩
 rintro _ _ _ _ rfl ⟨rfl,hqo⟩;have hmp:=elR O;obtain rfl:=som hmp;exact ⟨hqo,z⟩
theorem W_w24 {x1:List Int}{x2:List Int}{res:Bool}(hm:g_s x1 x2=some res)(a0:B<=w0.z)(G:repS w0 B (sl A0 N0 C0) x1)(L:repS w0 B (sl A5 N5 C5) x2):i_ prog 90 [sl A0 N0 C0,sl A5 N5 C5] w0 (Q7 w0 B res):=by
 unfold g_s at hm
 refine goG func90 z z z λfn hr=>Ws<|Rw z<|Wq<|Wm z<|R z (lnR x_ z G)<|Rm z<|R z (lnR x_ z L)<|R z (nq z z)<|Wx z (λI=>?_) (λI=>?_)
 .refine Ws<|Rw z ?_
  obtain rfl:=som<|ifT hm I;exact Wr<|c_ hr z ⟨br w0,z⟩
 refine Wk<|Wq<|Ws<|Rw z ?_
 obtain ⟨_,hua,O⟩:=bdS<|ifF hm I;refine Wf (σ:=Unit) (ρ:=Bool) (λ(k5:Nat)(_:Unit) a w=>Sat 26 [(0,sl A0 N0 C0),(1,sl A5 N5 C5),(5,vI ((k5:Nat):Int))] a/\Below w0.z w0 w) (λ(_:Unit) a w=>Sat 26 [] a/\Below w0.z w0 w) (rQ prog fn<|Q7 w0 B) hua ?_ ?_ ?_ ?_ ?_
 .exact λ_ q=>⟨q.k<|s3 z z z,br w0⟩
 .rintro k5 _ _ _ _ V ⟨hSb,H⟩ hmc;refine Wu ?_ hSb;refine Wq<|Wm z<|Rm z<|R z (lnR x_ z<|G.e H)<|Rl z z z<|Wx z (λ_=>?_) (λhc=>(Q_ V hc).elim)
  refine Wk<|Wq<|Wb<|Wq (Wd (X:=noX) 0 (pl_ 9 []) mo (by kernel_rfl) λwu s2 _=>dM z z z<|dM z z z ?_)
  obtain ⟨_,ed,hme⟩:=bdS hmc;have Y:=(H.ag B).e s2;refine dRX z z (at_ (α:=Int) x_ z_3 z z z (G.g Y) ed) ?_;rintro _ ⟨_,_,_,rfl,hf,hg,_⟩;obtain ⟨rfl,_⟩:=T_ hg;refine dR z z (l0 g_3 z<|hf.at0 z)<|dM z z z<|dM z z z ?_
  obtain ⟨_,eh,W⟩:=bdS hme;refine dRX z z (at_ (α:=Int) x_ z_3 z z z (L.g Y) eh) ?_;rintro _ ⟨_,_,_,rfl,hi,hj,_⟩;obtain ⟨rfl,_⟩:=T_ hj;refine dR z z (l0 g_3 z<|hi.at0 z)<|dR z z (nq z z)<|pD<|Wo<|Wc z (λJ=>?_) (λJ=>?_)
  .exact Ws<|Rw z<|Wr<|rtO<|qL (som<|ifT W J).symm<|c_ hr z ⟨bup H s2,z⟩
  exact Wk<|Wg<|Rm z<|R z (inc_ V (lt_ (repS.len G) B_) z z)<|Ra z<|Wl (λ_ q=>⟨(),(som<|ifF W J).symm,⟨q.k<|s3 z z z,bup H s2⟩⟩)
 .rintro _ _ _ ⟨hSk,s9⟩;refine Wu ?_ hSk;refine Wq<|Wm z<|Rm z<|R z (lnR x_ z<|G.e s9)<|Rl z z z<|Wx z (λhc=>(R_ hc).elim) (λ_=>?_)
  exact We<|λ_ q=>⟨rfl,⟨q.k sn,s9⟩⟩
 .rintro _ al _ rfl ⟨_,sm⟩;have hmn:=elL O;revert al;refine Wo<|Ws<|Rw z ?_
  obtain rfl:=som hmn;exact Wr<|c_ hr z ⟨sm,z⟩
 rintro _ _ _ _ rfl ⟨rfl,hqo⟩;have hmp:=elR O;obtain rfl:=som hmp;exact ⟨hqo,z⟩
theorem W_w43 {x1:b_}{x2:b_}{res:Bool}(hm:h_R x1 x2=some res)(H:B<=w0.z)(aa:x1.name.b.length<=LEN)(ab:inI x1.kind)(ad:inI x1.size)(V:repS w0 B (sl AB NB CB) x1.bytes)(W:repS w0 B (sl AA NA CA) x1.names)(Y:repS w0 B (sl AC NC CC) x1.tags)(a0:repS w0 B (sl AD ND CD) x1.kids)(ae:x2.name.b.length<=LEN)(af:inI x2.kind)(ah:inI x2.size)(a1:repS w0 B (sl A2 N2 C2) x2.bytes)(a2:repS w0 B (sl A3 N3 C3) x2.names)(a3:repS w0 B (sl A1 N1 C1) x2.tags)(a4:repS w0 B (sl A4 N4 C4) x2.kids):i_ prog 42 [(.agg #[Str.v x1.name,vI x1.kind,vI x1.size,vB x1.little,sl AB NB CB,sl AA NA CA,sl AC NC CC,sl AD ND CD]),(.agg #[Str.v x2.name,vI x2.kind,vI x2.size,vB x2.little,sl A2 N2 C2,sl A3 N3 C3,sl A1 N1 C1,sl A4 N4 C4])] w0 (Q7 w0 B res):=by
 unfold h_R at hm
 refine goG func42 z z z λfn hr=>Ws<|E z (fb z) ?_
 rintro _ wi ⟨rfl,hj⟩;have h1:=hj.below;refine E z (fb z) ?_;rintro _ a5 ⟨rfl,hk⟩;have G:=hk.below;have h5:Blk a5 wi.z (vR x2 A2 N2 C2 A3 N3 C3 A1 N1 C1 A4 N4 C4):=hk.blk;refine Rw z<|Wq<|Ws<|Rf z d_J z ?_
 have h6:=(hj.blk:Blk wi w0.z (vR x1 AB NB CB AA NA CA AC NC CC AD ND CD)).e G;refine R z (l0 g_9 z<|h6.at z)<|Rf z d_J z<|R z (l0 g_9 z<|h5.at z)<|R z (d_U z z)<|Wx z (λI=>?_) (λI=>?_)
 .refine Ws<|Rw z ?_
  obtain rfl:=som<|ifT hm I;exact Wr<|c_ hr z ⟨bup h1 G,z⟩
 have hml:=ifF hm I;refine Wk<|Wq<|Ws<|Rf z a_o z<|R z (l0 g_3 z<|h6.at z)<|Rf z a_o z<|R z (l0 g_3 z<|h5.at z)<|R z (nq z z)<|Wx z (λJ=>?_) (λJ=>?_)
 .refine Ws<|Rw z ?_
  obtain rfl:=som<|ifT hml J;exact Wr<|c_ hr z ⟨bup h1 G,z⟩
 have hmm:=ifF hml J;refine Wk<|Wq<|Ws<|Rf z a_H z<|R z (l0 g_3 z<|h6.at z)<|Rf z a_H z<|R z (l0 g_3 z<|h5.at z)<|R z (nq z z)<|Wx z (λL=>?_) (λL=>?_)
 .refine Ws<|Rw z ?_
  obtain rfl:=som<|ifT hmm L;exact Wr<|c_ hr z ⟨bup h1 G,z⟩
 have hmn:=ifF hmm L;refine Wk<|Wq<|Ws<|Rf z d_k z<|R z (l0 g_4 z<|h6.at z)<|Rf z d_k z<|R z (l0 g_4 z<|h5.at z)<|R z (q_M d_4 z z)<|Wx z (λhca=>?_) (λhca=>?_)
 .refine Ws<|Rw z ?_
  obtain rfl:=som<|ifT hmn hca;exact Wr<|c_ hr z ⟨bup h1 G,z⟩
 refine Wk<|Wq<|Ws<|Rf z b_f z<|R z (l0 X_ z<|h6.at z)<|Rf z b_f z<|R z (l0 X_ z<|h5.at z) ?_
 have hb:=(h1.ag B).e G;have ho:=lt_ h1.s G.s;obtain ⟨_,a6,hmp⟩:=bdS<|ifF hmn hca;refine E z (fc call11 z<|W_w23 a6 (zt' H ho) (V.g hb)<|a1.g hb) ?_;rintro _ _ ⟨s2,rfl⟩;refine R z (not_ z)<|Wx z (λhcc=>?_) (λhcc=>?_)
 .refine Ws<|Rw z ?_
  obtain rfl:=som<|ifT hmp hcc;exact Wr<|c_ hr z ⟨bup (bup h1 G) s2,z⟩
 refine Wk<|Wq<|Ws<|Rf z b_R z ?_
 have hq:=h6.e s2;refine R z (l0 a_t z<|hq.at z)<|Rf z b_R z ?_
 have ht:=h5.e s2;refine R z (l0 a_t z<|ht.at z) ?_;have hd:=hb.e s2;have hu:=lt_ ho s2.s;obtain ⟨_,a7,hmr⟩:=bdS<|ifF hmp hcc;refine E z (fc call9 z<|k_h a7 (zt' H hu) (W.g hd)<|a2.g hd) ?_;rintro _ _ ⟨s3,rfl⟩;refine R z (not_ z)<|Wx z (λhce=>?_) (λhce=>?_)
 .refine Ws<|Rw z ?_
  obtain rfl:=som<|ifT hmr hce;exact Wr<|c_ hr z ⟨bup (bup (bup h1 G) s2) s3,z⟩
 refine Wk<|Wq<|Ws<|Rf z b_g z ?_
 have hv:=hq.e s3;refine R z (l0 E_ z<|hv.at z)<|Rf z b_g z ?_
 have hw:=ht.e s3;refine R z (l0 E_ z<|hw.at z) ?_;have hf:=hd.e s3;have hx:=lt_ hu s3.s;obtain ⟨_,a8,hms⟩:=bdS<|ifF hmr hce;refine E z (fc call90 z<|W_w24 a8 (zt' H hx) (Y.g hf)<|a3.g hf) ?_;rintro _ _ ⟨s4,rfl⟩;refine R z (not_ z)<|Wx z (λhcg=>?_) (λhcg=>?_)
 .refine Ws<|Rw z ?_
  obtain rfl:=som<|ifT hms hcg;exact Wr<|c_ hr z ⟨bup (bup (bup (bup h1 G) s2) s3) s4,z⟩
 refine Wk<|Wq<|Ws<|Rf z P_ z<|R z (l0 E_ z<|(hv.e s4).at z)<|Rf z P_ z<|R z (l0 E_ z<|(hw.e s4).at z) ?_
 have hy:=hf.e s4;obtain ⟨_,a9,hmz⟩:=bdS<|ifF hms hcg;refine E z (fc call90 z<|W_w24 a9 (zt' H<|lt_ hx s4.s) (a0.g hy)<|a4.g hy) ?_;rintro _ _ ⟨O,rfl⟩;refine R z (not_ z)<|Wx z (λhch=>?_) (λhch=>?_)
 .refine Ws<|Rw z ?_
  obtain rfl:=som<|ifT hmz hch;exact Wr<|c_ hr z ⟨bup (bup (bup (bup (bup h1 G) s2) s3) s4) O,z⟩
 refine Wk<|Ws<|Rw z ?_
 obtain rfl:=som<|ifF hmz hch;exact Wr<|c_ hr z ⟨bup (bup (bup (bup (bup h1 G) s2) s3) s4) O,z⟩
theorem W_w44 {x1:List b_}{x2:List b_}{res:Bool}(hm:j_U x1 x2=some res)(a5:B<=w0.z)(G:repS w0 B (sl A0 N0 C0) x1)(L:repS w0 B (sl A5 N5 C5) x2):i_ prog 23 [sl A0 N0 C0,sl A5 N5 C5] w0 (Q7 w0 B res):=by
 unfold j_U at hm
 refine goG func23 z z z λfn hr=>Ws<|Rw z<|Wq<|Wm z<|R z (lnR V_ z G)<|Rm z<|R z (lnR V_ z L)<|R z (nq z z)<|Wx z (λI=>?_) (λI=>?_)
 .refine Ws<|Rw z ?_
  obtain rfl:=som<|ifT hm I;exact Wr<|c_ hr z ⟨br w0,z⟩
 refine Wk<|Wq<|Ws<|Rw z ?_
 obtain ⟨_,hub,O⟩:=bdS<|ifF hm I;refine Wf (σ:=Unit) (ρ:=Bool) (λ(k5:Nat)(_:Unit) a w=>Sat 27 [(0,sl A0 N0 C0),(1,sl A5 N5 C5),(5,vI ((k5:Nat):Int))] a/\Below w0.z w0 w) (λ(_:Unit) a w=>Sat 27 [] a/\Below w0.z w0 w) (rQ prog fn<|Q7 w0 B) hub ?_ ?_ ?_ ?_ ?_
 .exact λ_ q=>⟨q.k<|s3 z z z,br w0⟩
 .rintro k5 _ _ _ _ V ⟨hSc,H⟩ hmd;refine Wu ?_ hSc;refine Wq<|Wm z<|Rm z<|R z (lnR V_ z<|G.e H)<|Rl z z z<|Wx z (λ_=>?_) (λhc=>(Q_ V hc).elim)
  refine Wk<|Wq<|Wb<|Wq (Wd (X:=noX) 0 (pl_ 10 [8]) mo (by kernel_rfl) λaG s1 _=>dM z z z<|dM z z z ?_)
  obtain ⟨xe,eg,hmf⟩:=bdS hmd;have Y:=(H.ag B).e s1;refine dRX z z (at_ (α:=b_) V_ m_ z z z (G.g Y) eg) ?_;rintro _ ⟨_,_,_,rfl,hh,hi,_⟩;obtain ⟨aj,nk,cl,am,nn,co,ap,nr,cq,au,ns,ct,rfl,hv,hw,hx,hy,hz,a6,a7⟩:=a_F hi;refine dR z z (lN (vs:=vR xe aj nk cl am nn co ap nr cq au ns ct) H_ m_ z z fid hh)<|dM z z z<|dM z z z ?_
  obtain ⟨a8,a9,a0⟩:=bdS hmf;refine dRX z z (at_ (α:=b_) V_ m_ z z z (L.g Y) a9) ?_;rintro _ ⟨_,_,_,rfl,aa,ab,_⟩;obtain ⟨ad,ae,af,ah,ai,ak,al,an,ao,aq,ar,av,rfl,aw,ax,ay,az,aA,aB,aC⟩:=a_F ab;refine dR z z (lN (vs:=vR a8 ad ae af ah ai ak al an ao aq ar av) H_ m_ z z fid aa) ?_;obtain ⟨_,aD,W⟩:=bdS a0;refine dE z z (fc call42 z<|W_w43 aD (zt' a5<|lt_ H.s s1.s) hv hw hx hy hz a6 a7 aw ax ay az aA aB aC) (.inr λ_ _ h=>C_<|h.1) ?_;rintro _ _ ⟨s9,rfl⟩;refine dR z z (not_ z)<|pD<|Wo<|Wc z (λJ=>?_) (λJ=>?_)
  .exact Ws<|Rw z<|Wr<|rtO<|qL (som<|ifT W J).symm<|c_ hr z ⟨bup (bup H s1) s9,z⟩
  exact Wk<|Wg<|Rm z<|R z (inc_ V (lt_ (repS.len G) B_) z z)<|Ra z<|Wl (λ_ q=>⟨(),(som<|ifF W J).symm,⟨q.k<|s3 z z z,bup (bup H s1) s9⟩⟩)
 .rintro _ _ _ ⟨a1,sa⟩;refine Wu ?_ a1;refine Wq<|Wm z<|Rm z<|R z (lnR V_ z<|G.e sa)<|Rl z z z<|Wx z (λhc=>(R_ hc).elim) (λ_=>?_)
  exact We<|λ_ q=>⟨rfl,⟨q.k sn,sa⟩⟩
 .rintro _ aE _ rfl ⟨_,aF⟩;have a2:=elL O;revert aE;refine Wo<|Ws<|Rw z ?_
  obtain rfl:=som a2;exact Wr<|c_ hr z ⟨aF,z⟩
 rintro _ _ _ _ rfl ⟨rfl,a3⟩;have a4:=elR O;obtain rfl:=som a4;exact ⟨a3,z⟩
theorem W_w45 {x1:d_}{x2:d_}{res:Bool}(hm:h_S x1 x2=some res)(V:B<=w0.z)(L:repS w0 B (sl A0 N0 C0) x1.rules)(O:repS w0 B (sl A5 N5 C5) x2.rules):i_ prog 10 [(.agg #[sl A0 N0 C0]),(.agg #[sl A5 N5 C5])] w0 (Q7 w0 B res):=by
 unfold h_S at hm
 refine goG func10 z z z λfn hr=>Ws<|E z (fb z) ?_
 rintro _ J ⟨rfl,h4⟩;have h1:=h4.below;refine E z (fb z) ?_;rintro _ wa ⟨rfl,h5⟩;have G:=h5.below;refine Rw z<|Wq<|Ws<|Rf z a_i z<|R z (l0 a_n z<|((h4.blk:Blk J w0.z [sl A0 N0 C0]).e G).at z)<|Rf z a_i z<|R z (l0 a_n z<|(h5.blk:Blk wa J.z [sl A5 N5 C5]).at z) ?_
 have h6:=(h1.ag B).e G;obtain ⟨_,ec,I⟩:=bdS hm;refine E z (fc call23 z<|W_w44 ec (zt' V<|lt_ h1.s G.s) (L.g h6)<|O.g h6) ?_;rintro _ _ ⟨s8,rfl⟩;refine R z (not_ z)<|Wx z (λH=>?_) (λH=>?_)
 .refine Ws<|Rw z ?_
  obtain rfl:=som<|ifT I H;exact Wr<|c_ hr z ⟨bup (bup h1 G) s8,z⟩
 refine Wk<|Ws<|Rw z ?_
 obtain rfl:=som<|ifF I H;exact Wr<|c_ hr z ⟨bup (bup h1 G) s8,z⟩
theorem m_e {x1:Int}{res:Str}(hm:d_i n x1=some res)(W:B<=w0.z)(V:inI x1):i_ prog 25 [vI x1] w0 (Q11 w0 B res):=by
 unfold d_i at hm
 refine goG func25 z z z λfn hr=>Ws<|Rw z<|Wq<|Wm z<|R z (b_N z z)<|Wx z (λG=>?_) (λG=>?_)
 .refine Ws<|Rw z ?_
  obtain rfl:=som<|ifT hm G;exact Wr<|c_ hr z ⟨br w0,z,lb z⟩
 refine Wk<|Ws<|Rw z<|Wq ?_
 obtain ⟨_,huc,I⟩:=bdS<|ifF hm G;refine c_k (σ:=Int×Str) (ρ:=Str) (λs a w=>un2 (λx0 x2=>Sat 20 [(0,vI x0),(3,Str.v x2)] a/\Below w0.z w0 w/\inI x0/\x2.b.length<=LEN) s) (λs a w=>un2 (λx0 x2=>Sat 20 [(3,Str.v x2)] a/\Below w0.z w0 w/\inI x0/\x2.b.length<=LEN) s) (rQ prog fn<|Q11 w0 B) huc ?_ ?_ ?_ ?_
 .exact λ_ q=>⟨q.k<|s2 z z,br w0,V,lb z⟩
 .rintro ⟨x0,x2⟩ _ wd _ ⟨hSe,s6,L,O⟩ hmf;have J:=a_P hmf;refine Wu ?_ hSe;refine Wq<|Wm z<|R z (a_b z z)<|Wx z (λH=>?_) (λH=>?_)
  .refine Wk<|Wb<|Wm z<|R z (f_N z z (by decide))<|R z (add_ z z)<|R z (k_t d_3 d_5 z)<|E z (fS [(.tmp 11)] b_I z z z (b_l z) (lb z)<|lb z) ?_
   rintro _ wg ⟨rfl,h4⟩;have ht:Blk wg wd.z [(vU<|byteI<|mkB<|g_ 48<|a_J x0 10)]:=h4.blk;refine R z (k_x o_ d_9 d_5 z_5 z<|a_.rep<|b_U h4 e_n)<|Rm z ?_
   obtain ⟨xh,ea,hmi⟩:=bdS<|ifT J H;exact R z (a_q z z ea)<|Rw z<|Wg<|Rm z<|R z (k_E z z (by decide))<|Ra z<|Wl (λ_ q=>⟨(c_l x0 10,xh),(som hmi).symm,⟨q.k<|s2 z z,bup s6 h4.below,m_z _ _,b_2 ea⟩⟩)
  exact We<|λ_ q=>b_M (som<|ifF J H).symm ⟨q.k<|s1 z,s6,L,O⟩
 .rintro ⟨x0,x2⟩ aj _ rfl ⟨_,sk,L,O⟩;have hml:=elL I;revert aj;refine Wo<|Wm z ?_
  obtain ⟨_,eb,hmn⟩:=bdS<|a_P hml;refine R z (a_q z z eb)<|Rw z ?_
  obtain rfl:=som hmn;exact Wr<|c_ hr z ⟨sk,z,b_2 eb⟩
 rintro _ _ _ _ rfl ⟨rfl,hqo⟩;have hmp:=elR I;obtain rfl:=som hmp;exact ⟨hqo,z⟩
def Q36 (w0:World)(B:Zone)(A0:Option Addr)(N0 C0:Nat)(S1_0:List Nat)(r:Int×Bt)(v:Value)(w':World):Prop:=Cg S1_0 w0 w'/\un2 (λG H=>∃S1,(vI G)=v/\inI G/\a_ w' S1 (sl A0 N0 C0) H/\S1.Nodup/\(∀k∈S1,k∈S1_0∨w0.z<=k)) r
theorem W_w25 {x1:Bt}{S1_0:List Nat}{x2:Int}{res:Int×Bt}(hm:e_R n x1 x2=some res)(Y:B<=w0.z)(J:a_ w0 S1_0 (sl A0 N0 C0) x1)(p1_0n:S1_0.Nodup)(p1_0g:∀k∈S1_0,¬B k)(L:inI x2):i_ prog 13 [sl A0 N0 C0,vI x2] w0 (Q36 w0 B A0 N0 C0 S1_0 res):=by
 unfold e_R at hm
 refine goG func13 z z z λfn hr=>Ws<|Rw z<|Wq<|Ws<|Rw z ?_
 obtain ⟨_,huh,hma⟩:=bdS hm;refine c_k (σ:=Bt×Int×Int) (ρ:=Int×Bt) (λs a w=>un3 (λx5 x3 x4=>∃(G:List Nat),Sat 20 [(0,sl A0 N0 C0),(1,vI x3),(5,vI x4)] a/\Cg S1_0 w0 w/\a_ w G (sl A0 N0 C0) x5/\G.Nodup/\(∀k∈G,k∈S1_0∨w0.z<=k)/\inI x3/\inI x4) s) (λs a w=>un3 (λx5 x3 x4=>∃(G:List Nat),Sat 20 [(0,sl A0 N0 C0),(1,vI x3)] a/\Cg S1_0 w0 w/\a_ w G (sl A0 N0 C0) x5/\G.Nodup/\(∀k∈G,k∈S1_0∨w0.z<=k)/\inI x3/\inI x4) s) (rQ prog fn<|Q36 w0 B A0 N0 C0 S1_0) huh ?_ ?_ ?_ ?_
 .exact λ_ q=>⟨S1_0,q.k<|s3 z z z,cr S1_0 w0,J,p1_0n,io sr,L,ii z⟩
 .rintro ⟨x5,x3,x4⟩ _ wb _ ⟨G,hSi,s7,h1,h2,h6,I,hc⟩ hmj;have hmd:=b_V hmj;refine Wu ?_ hSi;refine Wq<|Wm z<|Rm z<|R z (lnR o_ z<|a_.rep h1)<|Rl z z z<|Wx z (λH=>?_) (λH=>?_)
  .refine Wk<|Wq<|Wb<|Wm z<|RM z z<|R z (k_t d_3 d_5 z) ?_
   obtain ⟨xk,ee,hml⟩:=bdS<|ifT hmd H;refine RX z (b_8 (α:=UInt8) o_ z_5 z z h1 ee) ?_;rintro _ ⟨_,hn,rfl⟩;refine E0 (b_9 (α:=UInt8) z_5 z hn z z z ee h1 h2 e_n an_ U_) ?_;rintro _ wm ⟨Sf,so,hp,hq,ht⟩;refine Wn<|Wg<|Rm z<|R z (add_ z z)<|Rw z<|Wg<|Rm z<|R z (add_ z z)<|Ra z<|Wl ?_
   have hg:∀k∈G,k∈S1_0∨w0.z<=k:=or1 h6 (io sr)<|l_ lr;exact λ_ q=>⟨(xk,g_ x3 1,g_ x4 1),(som hml).symm,⟨Sf,q.k<|s3 z z z,(cM (cM (cr S1_0 w0) s7 (io sr):Cg S1_0 w0 wb) so hg:Cg S1_0 w0 wm),hp,hq,(or2 ht hg an_ (l_ s7.s):∀k∈Sf,k∈S1_0∨w0.z<=k),iA _ _,iA _ _⟩⟩
  exact We<|λ_ q=>b_M (som<|ifF hmd H).symm ⟨G,q.k<|s2 z z,(cM (cr S1_0 w0) s7 (io sr):Cg S1_0 w0 wb),h1,h2,(or1 h6 (io sr) (l_ lr):∀k∈G,k∈S1_0∨w0.z<=k),I,hc⟩
 .rintro ⟨x5,x3,x4⟩ ar ws rfl ⟨G,_,sz,h1,h2,h6,I,hc⟩;have O:=elL hma;revert ar;refine Wo<|Wm z<|Rw z ?_
  obtain rfl:=som<|b_V O;exact Wr<|c_ hr z ⟨(cM (cr S1_0 w0) sz (io sr):Cg S1_0 w0 ws),G,z,I,h1,h2,(or1 h6 (io sr) (l_ lr):∀k∈G,k∈S1_0∨w0.z<=k)⟩
 rintro _ _ _ _ rfl ⟨rfl,V⟩;have W:=elR hma;obtain rfl:=som W;exact ⟨V,z⟩
def Q37 (w0:World)(B:Zone)(A0:Option Addr)(N0 C0:Nat)(S1_0:List Nat)(r:Int×(List Str))(v:Value)(w':World):Prop:=Cg S1_0 w0 w'/\un2 (λG H=>∃S1,(vI G)=v/\inI G/\a_ w' S1 (sl A0 N0 C0) H/\S1.Nodup/\(∀k∈S1,k∈S1_0∨w0.z<=k)) r
theorem W_w26 {x1:List Str}{S1_0:List Nat}{x2:Int}{res:Int×(List Str)}(hm:e_S n x1 x2=some res)(a0:B<=w0.z)(L:a_ w0 S1_0 (sl A0 N0 C0) x1)(p1_0n:S1_0.Nodup)(p1_0g:∀k∈S1_0,¬B k)(O:inI x2):i_ prog 14 [sl A0 N0 C0,vI x2] w0 (Q37 w0 B A0 N0 C0 S1_0 res):=by
 unfold e_S at hm
 refine goG func14 z z z λfn hr=>Ws<|Rw z<|Wq<|Ws<|Rw z ?_
 obtain ⟨_,huj,hmb⟩:=bdS hm;refine c_k (σ:=(List Str)×Int×Int) (ρ:=Int×(List Str)) (λs a w=>un3 (λx5 x3 x4=>∃(G:List Nat),Sat 20 [(0,sl A0 N0 C0),(1,vI x3),(5,vI x4)] a/\Cg S1_0 w0 w/\a_ w G (sl A0 N0 C0) x5/\G.Nodup/\(∀k∈G,k∈S1_0∨w0.z<=k)/\inI x3/\inI x4) s) (λs a w=>un3 (λx5 x3 x4=>∃(G:List Nat),Sat 20 [(0,sl A0 N0 C0),(1,vI x3)] a/\Cg S1_0 w0 w/\a_ w G (sl A0 N0 C0) x5/\G.Nodup/\(∀k∈G,k∈S1_0∨w0.z<=k)/\inI x3/\inI x4) s) (rQ prog fn<|Q37 w0 B A0 N0 C0 S1_0) huj ?_ ?_ ?_ ?_
 .exact λ_ q=>⟨S1_0,q.k<|s3 z z z,cr S1_0 w0,L,p1_0n,io sr,O,ii z⟩
 .rintro ⟨x5,x3,x4⟩ _ wc _ ⟨G,hSk,s6,h1,h2,H,I,hd⟩ hml;have hme:=b_V hml;refine Wu ?_ hSk;refine Wq<|Wm z<|Rm z<|R z (lnR D_ z<|a_.rep h1)<|Rl z z z<|Wx z (λJ=>?_) (λJ=>?_)
  .refine Wk<|Wq<|Wb<|Wm z<|RM z z ?_
   obtain ⟨_,em,hmn⟩:=bdS<|ifT hme J;refine E z (fc call25 z<|m_e em (zt' a0 s6.s) I) ?_;rintro _ wo ⟨sa,rfl,hp⟩;obtain ⟨xq,ef,hmr⟩:=bdS hmn;have hg:=h1.e sa;refine RX z (b_8 (α:=Str) D_ z_9 z z hg ef) ?_;rintro _ ⟨_,ht,rfl⟩;refine E0 (b_9 (α:=Str) z_9 z ht z z z ef hg h2 (b_k hp) an_ U_) ?_;rintro _ ws ⟨Sh,su,hv,hw,hx⟩;refine Wn<|Wg<|Rm z<|R z (add_ z z)<|Rw z<|Wg<|Rm z<|R z (add_ z z)<|Ra z<|Wl ?_
   have hi:∀k∈G,k∈S1_0∨w0.z<=k:=or1 H (io sr)<|l_ lr;exact λ_ q=>⟨(xq,g_ x3 1,g_ x4 1),(som hmr).symm,⟨Sh,q.k<|s3 z z z,(cM (j_ (cM (cr S1_0 w0) s6 (io sr):Cg S1_0 w0 wc) sa:Cg S1_0 w0 wo) su hi:Cg S1_0 w0 ws),hv,hw,(or2 hx hi an_ (l_<|lt_ s6.s sa.s):∀k∈Sh,k∈S1_0∨w0.z<=k),iA _ _,iA _ _⟩⟩
  exact We<|λ_ q=>b_M (som<|ifF hme J).symm ⟨G,q.k<|s2 z z,(cM (cr S1_0 w0) s6 (io sr):Cg S1_0 w0 wc),h1,h2,(or1 H (io sr) (l_ lr):∀k∈G,k∈S1_0∨w0.z<=k),I,hd⟩
 .rintro ⟨x5,x3,x4⟩ a1 a2 rfl ⟨G,_,a3,h1,h2,H,I,hd⟩;have V:=elL hmb;revert a1;refine Wo<|Wm z<|Rw z ?_
  obtain rfl:=som<|b_V V;exact Wr<|c_ hr z ⟨(cM (cr S1_0 w0) a3 (io sr):Cg S1_0 w0 a2),G,z,I,h1,h2,(or1 H (io sr) (l_ lr):∀k∈G,k∈S1_0∨w0.z<=k)⟩
 rintro _ _ _ _ rfl ⟨rfl,W⟩;have Y:=elR hmb;obtain rfl:=som Y;exact ⟨W,z⟩
def Q38 (w0:World)(B:Zone)(A0:Option Addr)(N0 C0:Nat)(S1_0:List Nat)(r:Int×(List Int))(v:Value)(w':World):Prop:=Cg S1_0 w0 w'/\un2 (λG H=>∃S1,(vI G)=v/\inI G/\a_ w' S1 (sl A0 N0 C0) H/\S1.Nodup/\(∀k∈S1,k∈S1_0∨w0.z<=k)) r
theorem W_w27 {x1:List Int}{S1_0:List Nat}{x2:Int}{res:Int×(List Int)}(hm:d_H n x1 x2=some res)(Y:B<=w0.z)(J:a_ w0 S1_0 (sl A0 N0 C0) x1)(p1_0n:S1_0.Nodup)(p1_0g:∀k∈S1_0,¬B k)(L:inI x2):i_ prog 43 [sl A0 N0 C0,vI x2] w0 (Q38 w0 B A0 N0 C0 S1_0 res):=by
 unfold d_H at hm
 refine goG func43 z z z λfn hr=>Ws<|Rw z<|Wq<|Ws<|Rw z ?_
 obtain ⟨_,huh,hma⟩:=bdS hm;refine c_k (σ:=(List Int)×Int×Int) (ρ:=Int×(List Int)) (λs a w=>un3 (λx5 x3 x4=>∃(G:List Nat),Sat 19 [(0,sl A0 N0 C0),(1,vI x3),(5,vI x4)] a/\Cg S1_0 w0 w/\a_ w G (sl A0 N0 C0) x5/\G.Nodup/\(∀k∈G,k∈S1_0∨w0.z<=k)/\inI x3/\inI x4) s) (λs a w=>un3 (λx5 x3 x4=>∃(G:List Nat),Sat 19 [(0,sl A0 N0 C0),(1,vI x3)] a/\Cg S1_0 w0 w/\a_ w G (sl A0 N0 C0) x5/\G.Nodup/\(∀k∈G,k∈S1_0∨w0.z<=k)/\inI x3/\inI x4) s) (rQ prog fn<|Q38 w0 B A0 N0 C0 S1_0) huh ?_ ?_ ?_ ?_
 .exact λ_ q=>⟨S1_0,q.k<|s3 z z z,cr S1_0 w0,J,p1_0n,io sr,L,ii z⟩
 .rintro ⟨x5,x3,x4⟩ _ wb _ ⟨G,hSi,s8,h1,h2,h6,H,hc⟩ hmj;have hmd:=b_V hmj;refine Wu ?_ hSi;refine Wq<|Wm z<|Rm z<|R z (lnR x_ z<|a_.rep h1)<|Rl z z z<|Wx z (λI=>?_) (λI=>?_)
  .refine Wk<|Wq<|Wb<|Wm z<|RM z z ?_
   obtain ⟨xk,ee,hml⟩:=bdS<|ifT hmd I;refine RX z (b_8 (α:=Int) x_ z_3 z z h1 ee) ?_;rintro _ ⟨_,hn,rfl⟩;refine E0 (b_9 (α:=Int) z_3 z hn z z z ee h1 h2 (d_2 H) an_ U_) ?_;rintro _ wm ⟨Sf,so,hp,hq,ht⟩;refine Wn<|Wg<|Rm z<|R z (add_ z z)<|Rw z<|Wg<|Rm z<|R z (add_ z z)<|Ra z<|Wl ?_
   have hg:∀k∈G,k∈S1_0∨w0.z<=k:=or1 h6 (io sr)<|l_ lr;exact λ_ q=>⟨(xk,g_ x3 1,g_ x4 1),(som hml).symm,⟨Sf,q.k<|s3 z z z,(cM (cM (cr S1_0 w0) s8 (io sr):Cg S1_0 w0 wb) so hg:Cg S1_0 w0 wm),hp,hq,(or2 ht hg an_ (l_ s8.s):∀k∈Sf,k∈S1_0∨w0.z<=k),iA _ _,iA _ _⟩⟩
  exact We<|λ_ q=>b_M (som<|ifF hmd I).symm ⟨G,q.k<|s2 z z,(cM (cr S1_0 w0) s8 (io sr):Cg S1_0 w0 wb),h1,h2,(or1 h6 (io sr) (l_ lr):∀k∈G,k∈S1_0∨w0.z<=k),H,hc⟩
 .rintro ⟨x5,x3,x4⟩ ar ws rfl ⟨G,_,sz,h1,h2,h6,H,hc⟩;have O:=elL hma;revert ar;refine Wo<|Wm z<|Rw z ?_
  obtain rfl:=som<|b_V O;exact Wr<|c_ hr z ⟨(cM (cr S1_0 w0) sz (io sr):Cg S1_0 w0 ws),G,z,H,h1,h2,(or1 h6 (io sr) (l_ lr):∀k∈G,k∈S1_0∨w0.z<=k)⟩
 rintro _ _ _ _ rfl ⟨rfl,V⟩;have W:=elR hma;obtain rfl:=som W;exact ⟨V,z⟩
def Q39 (w0:World)(B:Zone)(A0:Option Addr)(N0 C0:Nat)(S1_0:List Nat)(r:Int×(List b_))(v:Value)(w':World):Prop:=Cg S1_0 w0 w'/\un2 (λG H=>∃S1,(vI G)=v/\inI G/\a_ w' S1 (sl A0 N0 C0) H/\S1.Nodup/\(∀k∈S1,k∈S1_0∨w0.z<=k)) r
theorem W_w46 {x1:List b_}{S1_0:List Nat}{x2:Int}{res:Int×(List b_)}(hm:h_T n x1 x2=some res)(L:B<=w0.z)(bH:a_ w0 S1_0 (sl A0 N0 C0) x1)(p1_0n:S1_0.Nodup)(p1_0g:∀k∈S1_0,¬B k)(bI:inI x2):i_ prog 24 [sl A0 N0 C0,vI x2] w0 (Q39 w0 B A0 N0 C0 S1_0 res):=by
 unfold h_T at hm
 refine goG func24 z z z λfn hr=>Ws<|Rw z<|Wq<|Ws<|Rw z ?_
 obtain ⟨_,bJ,ao⟩:=bdS hm;refine c_k (σ:=(List b_)×Int×Int) (ρ:=Int×(List b_)) (λs a w=>un3 (λxi xa J=>∃(G:List Nat),Sat 72 [(0,sl A0 N0 C0),(1,vI xa),(5,vI J)] a/\Cg S1_0 w0 w/\a_ w G (sl A0 N0 C0) xi/\G.Nodup/\(∀k∈G,k∈S1_0∨w0.z<=k)/\inI xa/\inI J) s) (λs a w=>un3 (λxi xa J=>∃(G:List Nat),Sat 72 [(0,sl A0 N0 C0),(1,vI xa)] a/\Cg S1_0 w0 w/\a_ w G (sl A0 N0 C0) xi/\G.Nodup/\(∀k∈G,k∈S1_0∨w0.z<=k)/\inI xa/\inI J) s) (rQ prog fn<|Q39 w0 B A0 N0 C0 S1_0) bJ ?_ ?_ ?_ ?_
 .exact λ_ q=>⟨S1_0,q.k<|s3 z z z,cr S1_0 w0,bH,p1_0n,io sr,bI,ii z⟩
 .rintro ⟨xi,xa,J⟩ _ aq _ ⟨G,bK,st,hj,hu,hl,hv,ar⟩ bL;have ap:=b_V bL;refine Wu ?_ bK;refine Wq<|Wm z<|Rm z<|R z (lnR V_ z<|a_.rep hj)<|Rl z z z<|Wx z (λad=>?_) (λad=>?_)
  .refine Wk<|Wq<|Wb<|Wm z<|RM z z ?_
   obtain ⟨c6,c7,bM⟩:=bdS<|ifT ap ad;refine E z (fc call25 z<|m_e c7 (zt' L st.s) hv) ?_;rintro _ c8 ⟨ae,rfl,c9⟩;obtain ⟨xb,au,bN⟩:=bdS bM;have av:=hj.e ae;refine RX z (d_S (α:=b_) V_ m_ z z av au) ?_;rintro _ ⟨_,ca,rfl⟩;refine Rf z d_J z ?_;obtain ⟨_,cb,bO⟩:=bdS bN;refine E0 (g_K (α:=b_) (v':=(⟨c6,xb.kind,xb.size,xb.little,xb.bytes,xb.names,xb.tags,xb.kids⟩:b_)) z_9 z ca z z z z au cb av hu (lb z)<|λ_ _ _ h=>p_L h c9) ?_;rintro _ cc ⟨aw,ax,ay,cd,az⟩;refine Wn<|Wm z<|R z (add_ z z)<|Rw z<|Wm z<|RM z z ?_
   obtain ⟨xc,aA,bP⟩:=bdS bO;refine RX z (d_S (α:=b_) V_ m_ z z ay aA) ?_;rintro _ ⟨_,ce,rfl⟩;refine Rf z a_o z ?_;obtain ⟨_,cf,bQ⟩:=bdS bP;refine E0 (g_K (α:=b_) (v':=(⟨xc.name,g_ xa 1,xc.size,xc.little,xc.bytes,xc.names,xc.tags,xc.kids⟩:b_)) z_3 z ce z z z z aA cf ay cd (lb z) (λ_ _ _ h=>p_M h<|iA _ _)) ?_;rintro _ cg ⟨aB,aC,aD,ch,aE⟩;refine Wn<|Wm z<|R z (add_ z z)<|Rw z<|Wm z<|RM z z ?_
   obtain ⟨xd,aF,bR⟩:=bdS bQ;refine RX z (d_S (α:=b_) V_ m_ z z aD aF) ?_;rintro _ ⟨_,ci,rfl⟩;refine Rf z a_H z ?_;obtain ⟨_,cj,bS⟩:=bdS bR;refine E0 (g_K (α:=b_) (v':=(⟨xd.name,xd.kind,g_ (g_ xa 1) 1,xd.little,xd.bytes,xd.names,xd.tags,xd.kids⟩:b_)) z_3 z ci z z z z aF cj aD ch (lb z) (λ_ _ _ h=>p_N h<|iA _ _)) ?_;rintro _ ck ⟨aG,aH,aI,cl,aJ⟩;refine Wn<|Wm z<|R z (add_ z z)<|Rw z<|Wm z<|RM z z<|R z (f_N z z (by decide))<|Rq z z z ?_
   obtain ⟨xe,aK,bT⟩:=bdS bS;refine RX z (d_S (α:=b_) V_ m_ z z aI aK) ?_;rintro _ ⟨_,cm,rfl⟩;refine Rf z d_k z ?_;obtain ⟨cn,co,bU⟩:=bdS bT;refine E0 (g_K (α:=b_) (v':=(⟨xe.name,xe.kind,xe.size,(a_J (g_ (g_ (g_ xa 1) 1) 1) 3)==0,xe.bytes,xe.names,xe.tags,xe.kids⟩:b_)) z_4 z cm z z z z aK co aI cl (lb z)<|λ_ _ _ h=>p_O h) ?_;rintro _ ww ⟨aL,aM,aN,cp,aO⟩;refine Wn<|Wm z<|R z (add_ z z)<|Rw z<|Wm z<|Rm z ?_
   obtain ⟨x3,aP,bV⟩:=bdS bU;refine RX z (d_S (α:=b_) V_ m_ z z aN aP) ?_;rintro _ ⟨_,cq,rfl⟩;obtain ⟨_,_,ct,cu,h1,aQ,_,cv⟩:=i_Y cq aN cp aP;obtain ⟨_,_,_,_,_,_,_,_,_,_,_,_,Sk,Sx,Sy,Sz,rfl,rfl,cw,cx,cy,cz,aR,aS,aT⟩:=e_j cu;refine Rf z b_f z<|R z (l0 X_ z<|ct.at (j:=4) z)<|Rm z ?_
   have af:=lt_ st.s ae.s;have ah:=lt_ af ax.s;have ai:=lt_ ah aC.s;have aj:=lt_ ai aH.s;have O:=lt_ aj aM.s;have ak:=zt' L O;have aU:∀k∈aL,¬B k:=or1 aO (or1 aJ (or1 aE (or1 az (or1 hl p1_0g (p_ L):∀k∈G,¬B k) (p_<|zt' L af):∀k∈aw,¬B k) (p_<|zt' L ah):∀k∈aB,¬B k) (p_<|zt' L ai):∀k∈aG,¬B k)<|p_<|zt' L aj;have cA:∀k∈Sk,¬B k:=or1 (λk hk=>.inl<|aQ k<|List.mem_append_left _ hk) aU<|p_ ak;obtain ⟨_,aV,cB,bW⟩:=a_8 bV;refine E z (fc call13 z<|W_w25 (B:=B) cB ak cz (nl_ h1) cA<|iA _ _) ?_;rintro _ wm ⟨sf,aW,rfl,cC,cD,cE,V⟩;obtain ⟨aX,aY,cF,aZ⟩:=cv _ _ _ (cM (cr (Sk++(Sx++(Sy++Sz))) ww) sf (io<|a_z sr):Chg (· ∈ (Sk++(Sx++(Sy++Sz)))) ww wm) (d_o (x:=(⟨x3.name,x3.kind,x3.size,x3.little,aV,x3.names,x3.tags,x3.kids⟩:b_)) (S1:=aW) (S2:=Sx) (S3:=Sy) (S4:=Sz) cw cx cy cD (aR.c sf<|ds<|nmL<|nj h1) (aS.c sf<|ds<|nmL<|nmR<|nj h1)<|aT.c sf<|ds<|nmR<|nmR<|nj h1) (na_ cE (na_ (nl_<|nr_ h1) (na_ (nl_<|nr_<|nr_ h1) (nr_<|nr_<|nr_ h1)<|nj<|nr_<|nr_ h1)<|nmA (nmL<|nj<|nr_ h1)<|nmR<|nj<|nr_ h1)<|nmA (c_E V (nmL<|nj h1) (a_.lt aR) lr)<|nmA (c_E V (nmL<|nmR<|nj h1) (a_.lt aS) lr)<|c_E V (nmR<|nmR<|nj h1) (a_.lt aT) lr)<|aa_ (or1 V (io<|a_z sr) (l_ lr):∀k∈aW,k∈(Sk++(Sx++(Sy++Sz)))∨ww.z<=k)<|aa_ (io<|a_0<|a_z sr)<|aa_ (io<|a_0<|a_0<|a_z sr)<|io<|a_0<|a_0<|a_0 sr;refine Rw z<|Wm z<|Rm z ?_
   obtain ⟨x4,b0,bX⟩:=bdS bW;refine RX z (d_S (α:=b_) V_ m_ z z aY b0) ?_;rintro _ ⟨_,cG,rfl⟩;obtain ⟨_,_,cH,cI,h2,b1,_,cJ⟩:=i_Y cG aY cF b0;obtain ⟨_,_,_,_,_,_,_,_,_,_,_,_,W,Sn,Y,a0,rfl,rfl,cK,cL,cN,b2,cO,b3,b4⟩:=e_j cI;refine Rf z b_R z<|R z (l0 a_t z<|cH.at (j:=5) z)<|Rm z ?_
   have a1:=lt_ O sf.s;have al:=zt' L a1;have b5:∀k∈aX,¬B k:=or1 aZ aU<|p_ ak;have cP:∀k∈Sn,¬B k:=or1 (λk hk=>.inl<|(λk hk=>b1 k<|List.mem_append_right _ hk) k<|List.mem_append_left _ hk) b5<|p_ al;obtain ⟨_,b6,cQ,bY⟩:=a_8 bX;refine E z (fc call14 z<|W_w26 (B:=B) cQ al cO (nl_<|nr_ h2) cP cC) ?_;rintro _ wo ⟨sg,b7,rfl,cR,cS,cT,a2⟩;obtain ⟨b8,b9,cU,ba⟩:=cJ _ _ _ (cM (cr (W++(Sn++(Y++a0))) wm) sg (io<|a_0<|a_z sr):Chg (· ∈ (W++(Sn++(Y++a0)))) wm wo) (d_o (x:=(⟨x4.name,x4.kind,x4.size,x4.little,x4.bytes,b6,x4.tags,x4.kids⟩:b_)) (S1:=W) (S2:=b7) (S3:=Y) (S4:=a0) cK cL cN (b2.c sg<|nmL<|nj h2) cS (b3.c sg<|ds<|nmL<|nj<|nr_ h2)<|b4.c sg<|ds<|nmR<|nj<|nr_ h2) (na_ (nl_ h2) (na_ cT (na_ (nl_<|nr_<|nr_ h2) (nr_<|nr_<|nr_ h2)<|nj<|nr_<|nr_ h2)<|nmA (c_E a2 (nmL<|nj<|nr_ h2) (a_.lt b3) lr)<|c_E a2 (nmR<|nj<|nr_ h2) (a_.lt b4) lr)<|nmA (ds<|c_E a2 (ds<|nmL<|nj h2) (a_.lt b2) lr)<|nmA (nmL<|nmR<|nj h2)<|nmR<|nmR<|nj h2)<|aa_ (io<|a_z sr)<|aa_ (or1 a2 (io<|a_0<|a_z sr) (l_ lr):∀k∈b7,k∈(W++(Sn++(Y++a0)))∨wm.z<=k)<|aa_ (io<|a_0<|a_0<|a_z sr)<|io<|a_0<|a_0<|a_0 sr;refine Rw z<|Wm z<|Rm z ?_
   obtain ⟨x5,bb,bZ⟩:=bdS bY;refine RX z (d_S (α:=b_) V_ m_ z z b9 bb) ?_;rintro _ ⟨_,cV,rfl⟩;obtain ⟨_,_,cW,cX,H,bc,_,cY⟩:=i_Y cV b9 cU bb;obtain ⟨_,_,_,_,_,_,_,_,_,_,_,_,a3,a4,Sp,a5,rfl,rfl,cZ,d0,d1,be,bf,d2,bg⟩:=e_j cX;refine Rf z b_g z<|R z (l0 E_ z<|cW.at (j:=6) z)<|Rm z ?_
   have a6:=lt_ a1 sg.s;have am:=zt' L a6;have bh:∀k∈b8,¬B k:=or1 ba b5<|p_ al;have d3:∀k∈Sp,¬B k:=or1 (λk hk=>.inl<|(λk hk=>(λk hk=>bc k<|List.mem_append_right _ hk) k<|List.mem_append_right _ hk) k<|List.mem_append_left _ hk) bh<|p_ am;obtain ⟨_,bi,d4,c0⟩:=a_8 bZ;refine E z (fc call43 z<|W_w27 (B:=B) d4 am d2 (nl_<|nr_<|nr_ H) d3 cR) ?_;rintro _ wq ⟨sh,bj,rfl,d5,d6,d7,a7⟩;obtain ⟨bk,bm,d8,bn⟩:=cY _ _ _ (cM (cr (a3++(a4++(Sp++a5))) wo) sh (io<|a_0<|a_0<|a_z sr):Chg (· ∈ (a3++(a4++(Sp++a5)))) wo wq) (d_o (x:=(⟨x5.name,x5.kind,x5.size,x5.little,x5.bytes,x5.names,bi,x5.kids⟩:b_)) (S1:=a3) (S2:=a4) (S3:=bj) (S4:=a5) cZ d0 d1 (be.c sh<|nmL<|nmR<|nj H) (bf.c sh<|nmL<|nj<|nr_ H) d6<|bg.c sh<|ds<|nj<|nr_<|nr_ H) (na_ (nl_ H) (na_ (nl_<|nr_ H) (na_ d7 (nr_<|nr_<|nr_ H)<|c_E a7 (nj<|nr_<|nr_ H) (a_.lt bg) lr)<|nmA (ds<|c_E a7 (ds<|nmL<|nj<|nr_ H) (a_.lt bf) lr)<|nmR<|nj<|nr_ H)<|nmA (nmL<|nj H)<|nmA (ds<|c_E a7 (ds<|nmL<|nmR<|nj H) (a_.lt be) lr)<|nmR<|nmR<|nj H)<|aa_ (io<|a_z sr)<|aa_ (io<|a_0<|a_z sr)<|aa_ (or1 a7 (io<|a_0<|a_0<|a_z sr) (l_ lr):∀k∈bj,k∈(a3++(a4++(Sp++a5)))∨wo.z<=k)<|io<|a_0<|a_0<|a_0 sr;refine Rw z<|Wg<|RM z z ?_
   obtain ⟨x6,bo,c1⟩:=bdS c0;refine RX z (d_S (α:=b_) V_ m_ z z bm bo) ?_;rintro _ ⟨_,d9,rfl⟩;obtain ⟨_,_,da,db,I,bp,_,dc⟩:=i_Y d9 bm d8 bo;obtain ⟨_,_,_,_,_,_,_,_,_,_,_,_,a8,a9,aa,Sr,rfl,rfl,dd,de,df,bq,br,bs,dg⟩:=e_j db;refine Rf z P_ z<|R z (l0 E_ z<|da.at (j:=7) z)<|Rm z ?_
   have an:=lt_ a6 sh.s;have bt:=zt' L an;have dh:∀k∈Sr,¬B k:=or1 (λk hk=>.inl<|(λk hk=>(λk hk=>(λk hk=>bp k<|List.mem_append_right _ hk) k<|List.mem_append_right _ hk) k<|List.mem_append_right _ hk) k hk) (or1 bn bh (p_ am):∀k∈bk,¬B k)<|p_ bt;obtain ⟨di,bu,dj,c2⟩:=a_8 c1;refine E z (fc call43 z<|W_w27 (B:=B) dj bt dg (nr_<|nr_<|nr_ I) dh d5) ?_;rintro _ bv ⟨ss,bw,rfl,dk,dl,dm,ab⟩;obtain ⟨bx,dn,dp,dq⟩:=dc _ _ _ (cM (cr (a8++(a9++(aa++Sr))) wq) ss (io<|a_0<|a_0<|a_0 sr):Chg (· ∈ (a8++(a9++(aa++Sr)))) wq bv) (d_o (x:=(⟨x6.name,x6.kind,x6.size,x6.little,x6.bytes,x6.names,x6.tags,bu⟩:b_)) (S1:=a8) (S2:=a9) (S3:=aa) (S4:=bw) dd de df (bq.c ss<|nmR<|nmR<|nj I) (br.c ss<|nmR<|nj<|nr_ I) (bs.c ss<|nj<|nr_<|nr_ I) dl) (na_ (nl_ I) (na_ (nl_<|nr_ I) (na_ (nl_<|nr_<|nr_ I) dm<|ds<|c_E ab (ds<|nj<|nr_<|nr_ I) (a_.lt bs) lr)<|nmA (nmL<|nj<|nr_ I)<|ds<|c_E ab (ds<|nmR<|nj<|nr_ I) (a_.lt br) lr)<|nmA (nmL<|nj I)<|nmA (nmL<|nmR<|nj I)<|ds<|c_E ab (ds<|nmR<|nmR<|nj I) (a_.lt bq) lr)<|aa_ (io<|a_z sr)<|aa_ (io<|a_0<|a_z sr)<|aa_ (io<|a_0<|a_0<|a_z sr) (or1 ab (io<|a_0<|a_0<|a_0 sr) (l_ lr):∀k∈bw,k∈(a8++(a9++(aa++Sr)))∨wq.z<=k);refine Rw z<|Wg<|Rm z<|R z (add_ z z)<|Ra z<|Wl ?_
   have bz:∀k∈G,k∈S1_0∨w0.z<=k:=or1 hl (io sr)<|l_ lr;have bA:∀k∈aw,k∈S1_0∨w0.z<=k:=or1 az bz<|l_ af;have bB:∀k∈aB,k∈S1_0∨w0.z<=k:=or1 aE bA<|l_ ah;have bC:∀k∈aG,k∈S1_0∨w0.z<=k:=or1 aJ bB<|l_ ai;have bD:∀k∈aL,k∈S1_0∨w0.z<=k:=or1 aO bC<|l_ aj;have bE:∀k∈aX,k∈S1_0∨w0.z<=k:=or1 aZ bD<|l_ O;have bF:∀k∈b8,k∈S1_0∨w0.z<=k:=or1 ba bE<|l_ a1;have bG:∀k∈bk,k∈S1_0∨w0.z<=k:=or1 bn bF<|l_ a6;have dr:∀k∈Sk,k∈S1_0∨w0.z<=k:=or1 (λk hk=>.inl<|aQ k<|List.mem_append_left _ hk) bD<|l_ O;have dt:∀k∈Sn,k∈S1_0∨w0.z<=k:=or1 (λk hk=>.inl<|(λk hk=>b1 k<|List.mem_append_right _ hk) k<|List.mem_append_left _ hk) bE<|l_ a1;have du:∀k∈Sp,k∈S1_0∨w0.z<=k:=or1 (λk hk=>.inl<|(λk hk=>(λk hk=>bc k<|List.mem_append_right _ hk) k<|List.mem_append_right _ hk) k<|List.mem_append_left _ hk) bF<|l_ a6;have dv:∀k∈Sr,k∈S1_0∨w0.z<=k:=or1 (λk hk=>.inl<|(λk hk=>(λk hk=>(λk hk=>bp k<|List.mem_append_right _ hk) k<|List.mem_append_right _ hk) k<|List.mem_append_right _ hk) k hk) bG<|l_ an;exact λ_ q=>⟨((((cn.set (J).toNat (⟨x3.name,x3.kind,x3.size,x3.little,aV,x3.names,x3.tags,x3.kids⟩:b_)).set (J).toNat (⟨x4.name,x4.kind,x4.size,x4.little,x4.bytes,b6,x4.tags,x4.kids⟩:b_)).set (J).toNat (⟨x5.name,x5.kind,x5.size,x5.little,x5.bytes,x5.names,bi,x5.kids⟩:b_)).set (J).toNat (⟨x6.name,x6.kind,x6.size,x6.little,x6.bytes,x6.names,x6.tags,bu⟩:b_),di,g_ J 1),(som c2).symm,⟨bx,q.k<|s3 z z z,(cM (cM (cM (cM (cM (cM (cM (cM (j_ (cM (cr S1_0 w0) st (io sr):Cg S1_0 w0 aq) ae:Cg S1_0 w0 c8) ax bz:Cg S1_0 w0 cc) aC bA:Cg S1_0 w0 cg) aH bB:Cg S1_0 w0 ck) aM bC:Cg S1_0 w0 ww) sf dr:Cg S1_0 w0 wm) sg dt:Cg S1_0 w0 wo) sh du:Cg S1_0 w0 wq) ss dv:Cg S1_0 w0 bv),dn,dp,(or1 dq bG (l_ an):∀k∈bx,k∈S1_0∨w0.z<=k),dk,iA _ _⟩⟩
  exact We<|λ_ q=>b_M (som<|ifF ap ad).symm ⟨G,q.k<|s2 z z,(cM (cr S1_0 w0) st (io sr):Cg S1_0 w0 aq),hj,hu,(or1 hl (io sr) (l_ lr):∀k∈G,k∈S1_0∨w0.z<=k),hv,ar⟩
 .rintro ⟨xi,xa,J⟩ dw dx rfl ⟨G,_,dy,hj,hu,hl,hv,ar⟩;have c3:=elL ao;revert dw;refine Wo<|Wm z<|Rw z ?_
  obtain rfl:=som<|b_V c3;exact Wr<|c_ hr z ⟨(cM (cr S1_0 w0) dy (io sr):Cg S1_0 w0 dx),G,z,hv,hj,hu,(or1 hl (io sr) (l_ lr):∀k∈G,k∈S1_0∨w0.z<=k)⟩
 rintro _ _ _ _ rfl ⟨rfl,c4⟩;have c5:=elR ao;obtain rfl:=som c5;exact ⟨c4,z⟩
theorem W_w47 {x1:d_}{S1_0:List Nat}{x2:Int}{res:Int×(List b_)}(hm:h_U n x1 x2=some res)(L:B<=w0.z)(I:a_ w0 S1_0 (sl A0 N0 C0) x1.rules)(p1_0n:S1_0.Nodup)(p1_0g:∀k∈S1_0,¬B k)(J:inI x2):i_ prog 12 [(.agg #[sl A0 N0 C0]),vI x2] w0 (Q39 w0 B A0 N0 C0 S1_0 res):=by
 unfold h_U at hm
 refine goG func12 z z z λfn hr=>Ws<|E z (fb z) ?_
 rintro _ H ⟨rfl,h2⟩;have G:=h2.below;refine Rw z<|Ws<|Rf z a_i z<|R z (l0 a_n z<|(h2.blk:Blk H w0.z [sl A0 N0 C0]).at z)<|Rm z ?_
 obtain ⟨_,_,V,O⟩:=a_8 hm;refine E z (fc call24 z<|W_w46 V (zt' L G.s) (I.e G) p1_0n p1_0g J) ?_;rintro _ W ⟨s8,S3,rfl,Y,ha,hb,hc⟩;refine Rw z<|Wm z<|Rw z ?_
 obtain rfl:=som O;exact Wr<|c_ hr z ⟨(cM (j_ (cr S1_0 w0) G:Cg S1_0 w0 H) s8 (io sr):Cg S1_0 w0 W),S3,z,Y,ha,hb,(or1 hc (io sr) (l_ G.s):∀k∈S3,k∈S1_0∨w0.z<=k)⟩
end Go.Vw
