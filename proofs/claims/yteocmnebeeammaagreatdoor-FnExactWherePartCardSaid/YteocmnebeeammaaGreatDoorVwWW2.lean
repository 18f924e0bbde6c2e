
import Derived.Test.YteocmnebeeammaaGreatDoorVwWW1
set_option linter.unusedVariables false
namespace Go.Vw
open Go.RowKit Dat Go.Proofs
open Go.Proofs.Tryz
open Go.Vw renaming a_g->Wq,a_B->Wg,WC.of_KC->Wo,a_j->Wl,c_8->Wc,c_M->Wr,f_K->Wu,i_M->pT,i_N->pF,g_P->fd,b_x->l1,j_3->lN,b_3->mv,c_O->asg,f_E->lnR,f_3->lss,g_S->eql,g_Q->ext_,i_P->bP,g_R->add_,f_D->inc_,d_t->not_,f_F->at_,e_m->fc,a_R->fs,e_l->fb,d_q->fa,i_G->sr,i_K->cr,i_L->cM,c_j->bM,i_z->iS,i_y->iA,g_F->br,a_X->oA,i_C->bs,ltge->lg,inor->io,f_O->nq,j_4->lnT,j_5->sb_,i_E->ar_,i_D->al_,i_F->ds,j_M->m1,i_I->nr_,i_H->nl_,g_H->aa_,all_nil->an_,d_l->Wb,g_G->u8,i_w->pD,f_v->We,i_A->Wt,f_y->fS,f_q->or_,j_1->Wf,i_U->qL,i_v->Wd,i_Q->fN,g_I->na_,i_J->nj,e_o->f0,i_O->rX,i_R->tl_,i_S->ic
variable {A0:Option Addr}{N0 C0:Nat}{B:Zone}{w0:World}{AB:Option Addr}{AA:Option Addr}{AC:Option Addr}{AD:Option Addr}{NB CB:Nat}{NA CA:Nat}{NC CC:Nat}{ND CD:Nat}{A2:Option Addr}{A3:Option Addr}{A1:Option Addr}{A4:Option Addr}{N2 C2:Nat}{N3 C3:Nat}{N1 C1:Nat}{N4 C4:Nat}{A7:Option Addr}{N7 C7:Nat}{A5:Option Addr}{N5 C5:Nat}{n:Nat}{A8:Option Addr}{A9:Option Addr}{N8 C8:Nat}{N9 C9:Nat}{A6:Option Addr}{N6 C6:Nat}
theorem W_w1g {x1:d_}{x2:Bt}{x3:Str}{res:k_×Bool}(hm:e_H n x1 x2 x3=some res)(J:B<=w0.z)(L:repS w0 B (sl A0 N0 C0) x1.rules)(O:repS w0 B (sl A5 N5 C5) x2)(V:x3.b.length<=LEN):i_ prog 29 [(.agg #[sl A0 N0 C0]),sl A5 N5 C5,Str.v x3] w0 (Q19 w0 B res):=by
 unfold e_H at hm
 refine goG func29 z z z λfn hr=>Ws<|E z (fb z) ?_
 rintro _ wg ⟨rfl,hy⟩;have h3:=hy.below;have hz:Blk wg w0.z [sl A0 N0 C0]:=hy.blk;refine E z (fa i_f) ?_;rintro _ wm ⟨rfl,a5⟩;have h6:=a5.below;have hd:Blk wm wg.z [(Str.v (⟨[]⟩:Str)),vI 0,vI 0,vI 0]:=a5.blk;refine Rw z<|Wm z ?_
 have hn:=lt_ h3.s h6.s;obtain ⟨_,av,aw,aj⟩:=a_8 hm;refine E z (fc call51 z<|W_w1f aw (zt' J hn) V) ?_;rintro _ wh ⟨G,a6,a7,a8,rfl,hj⟩;refine Rm z<|Re z z z<|Re z z z<|Ra z<|Rw z<|Wq<|Wq ?_
 obtain ⟨ax,W,Y⟩:=bdS aj;refine Wt (λa w=>∃(xo:Bool),xo=ax/\Sat 80 [(1,sl A5 N5 C5),(2,Str.v x3),(3,pt w0.z),(6,pt wg.z),(8,sl a6 a7 a8),(35,vB xo)] a/\Below wh.z wh w) ?_ ?_
 .refine Wg<|Rm z<|R z (not_ z)<|Rm z ?_
  rcases bs (!av) with H | H
  .iterate 3 refine Nh z H ?_
   exact R z (pT z H z)<|Rm z<|Nh z z<|Nh z z<|Nh z z<|R z (pT z z z)<|Wl (λ_ q=>⟨true,som<|ifT W H,q.k<|s6 z z z z z z,br wh⟩)
  refine Rh z H (lN (vs:=[sl A0 N0 C0]) w_ v_ z z fid<|((hz.e h6).e G).row 0 1 z) ?_;have a9:=((h3.ag B).e h6).e G;obtain ⟨ay,az,a0⟩:=bdS<|ifF W H;refine Eg z z H z (fc call53 z<|W_w14 az (zt' J<|lt_ hn G.s)<|L.g a9) ?_;rintro _ _ ⟨sp,rfl⟩;refine Rh z H (not_ z)<|R z (pF z H z)<|Rm z ?_
  rcases bs (!ay) with I | I
  .iterate 3 refine Nh z I ?_
   exact R z (pT z I z)<|Wl (λ_ q=>⟨true,som<|ifT a0 I,q.k<|s6 z z z z z z,sp⟩)
  exact Rh z I (mv z)<|Rh z I (lnR o_ z<|O.g<|a9.e sp)<|Rh z I (a_b z z)<|R z (pF z I z)<|Wl (λ_ q=>⟨decide<|400<(x2.length:Int),som<|ifF a0 I,q.k<|s6 z z z z z z,sp⟩)
 rintro aA _ ⟨xo,rfl,_,s2⟩;revert aA;refine Wo<|Wc z (λhcq=>?_) (λhcq=>?_)
 .refine Ws<|R z (bP (parts:=[]) (cs:=[(Str.v (⟨[]⟩:Str)),vI 0,vI 0,vI 0]) g_x z z)<|E0 (fs0 (cur':=[(Str.v (⟨[]⟩:Str)),vI 0,vI 0,vI 0]) b_6 z z ((hd.e G).e s2) z z z z) ?_
  rintro _ _ ⟨aB,aC⟩;refine Rw z ?_
  obtain rfl:=som<|ifT Y hcq;exact Wr<|a_9 hr (s_ e_c b_6 z aB z) z ⟨bM (bup (bup (bup h3 h6) G) s2) aC.one<|m1 h3.s,z,lb z,ii z,ii z,ii z⟩
 refine Wk<|Ws ?_
 have ht:=((hz.e h6).e G).e s2;refine R z (lN (vs:=[sl A0 N0 C0]) w_ v_ z z fid<|ht.row 0 1 z) ?_;have hu:=(((h3.ag B).e h6).e G).e s2;have hv:=lt_ (lt_ hn G.s) s2.s;obtain ⟨_,aD,ak⟩:=bdS<|ifF Y hcq;refine E z (fc call49 z<|k_9 aD (zt' J hv)<|L.g hu) ?_;rintro _ wi ⟨s1,rfl,aE⟩;refine Rw z<|Ws<|Rw z<|Wq<|Ws<|Rw z ?_
 obtain ⟨_,al,a1⟩:=bdS ak;refine Wf (σ:=Int×Int) (ρ:=k_×Bool) (λ(aa:Nat) s a w=>un2 (λx4 x5=>Sat 80 [(1,sl A5 N5 C5),(2,Str.v x3),(3,pt w0.z),(6,pt wg.z),(8,sl a6 a7 a8),(10,vI x4),(11,vI x5),(12,vI ((aa:Nat):Int))] a/\Below wi.z wi w/\inI x4/\inI x5) s) (λs a w=>un2 (λx4 x5=>Sat 80 [(1,sl A5 N5 C5),(2,Str.v x3),(3,pt w0.z),(6,pt wg.z),(10,vI x4),(11,vI x5)] a/\Below wi.z wi w/\inI x4/\inI x5) s) (rQ prog fn<|Q19 w0 B) al ?_ ?_ ?_ ?_ ?_
 .exact λ_ q=>⟨q.k<|s8 z z z z z z z z,br wi,aE,ii z⟩
 .rintro aa ⟨x4,x5⟩ _ _ _ a2 ⟨am,sb,he,hf⟩ an;refine Wu ?_ am;refine Wq<|Wm z<|Rm z ?_
  have ab:=((s2.ag<|zn B wm.z wh.z).e s1).e sb;refine R z (lnR D_ z<|hj.g ab)<|Rl z z z<|Wx z (λ_=>?_) (λhc=>(Q_ a2 hc).elim)
  refine Wk<|Wq<|Wb<|Wq (Wd (X:=noX) 0 (pl_ 16 [8]) mo (by kernel_rfl) λb7 sc _=>dR z z (lN (vs:=[sl A0 N0 C0]) w_ v_ z z fid<|(((ht.e s1).e sb).e sc).row 0 1 z) ?_)
  iterate 5 refine dM z z z ?_
  obtain ⟨_,aF,ao⟩:=bdS<|a_P an;refine dRX z z (at_ (α:=Str) D_ z_9 z z z (hj.g<|ab.e sc) aF) ?_;rintro _ ⟨_,_,_,rfl,aG,aH,_⟩;obtain ⟨rfl,aI⟩:=a_h aH;refine dR z z (l0 g_9 z<|aG.at0 z) ?_;have ad:=((hu.e s1).e sb).e sc;obtain ⟨aJ,aK,_,aL,a3⟩:=N_ ao;refine dE z z (fc call54 z<|W_w2y aL (zt' J<|lt_ (lt_ (lt_ hv s1.s) sb.s) sc.s) (L.g ad) he (O.g ad) hf aI) (.inr λ_ _ h=>C_<|h.1) ?_;rintro _ _ ⟨sr,rfl,aM,aN⟩;refine dM z z z ?_
  iterate 3 refine dR z z (ext_ z z) ?_
  iterate 3 refine dQ z z z ?_
  refine pD<|Wo<|Wq<|Wm z<|R z (not_ z)<|Wx z (λhcs=>?_) (λhcs=>?_)
  .refine Ws<|R z (bP (parts:=[]) (cs:=[(Str.v (⟨[]⟩:Str)),vI 0,vI 0,vI 0]) g_x z z)<|E0 (fs0 (cur':=[(Str.v (⟨[]⟩:Str)),vI 0,vI 0,vI 0]) b_6 z z ((((((hd.e G).e s2).e s1).e sb).e sc).e sr) z z z z) ?_
   rintro _ _ ⟨aO,aP⟩;exact Rw z<|Wr<|rtO<|qL (som<|ifT a3 hcs).symm<|a_9 hr (s_ e_c b_6 z aO z) z ⟨bM (bup (bup (bup (bup (bup (bup (bup h3 h6) G) s2) s1) sb) sc) sr) aP.one<|m1 h3.s,z,lb z,ii z,ii z,ii z⟩
  exact Wk<|Wm z<|Rw z<|Wg<|Rm z<|Rw z<|Wg<|Rm z<|R z (inc_ a2 (lt_ (repS.len hj) B_) z z)<|Ra z<|Wl (λ_ q=>⟨(aJ,aK),(som<|ifF a3 hcs).symm,⟨q.k<|s8 z z z z z z z z,bup (bup sb sc) sr,aM,aN⟩⟩)
 .rintro ⟨x4,x5⟩ _ _ ⟨ap,ae,he,hf⟩;refine Wu ?_ ap;refine Wq<|Wm z<|Rm z<|R z (lnR D_ z<|hj.g<|((s2.ag<|zn B wm.z wh.z).e s1).e ae)<|Rl z z z<|Wx z (λhc=>(R_ hc).elim) (λ_=>?_)
  exact We<|λ_ q=>⟨rfl,⟨q.k<|s6 z z z z z z,ae,he,hf⟩⟩
 .rintro ⟨x4,x5⟩ aQ _ rfl ⟨_,s9,he,hf⟩;have aq:=elL a1;revert aQ;refine Wo<|Ws<|R z (lN (vs:=[sl A0 N0 C0]) w_ v_ z z fid<|((ht.e s1).e s9).row 0 1 z)<|RM z z<|Rm z ?_
  have af:=(hu.e s1).e s9;have hw:=lt_ (lt_ hv s1.s) s9.s;obtain ⟨aR,ah,_,aS,a4⟩:=N_<|a_P aq;refine E z (fc call55 z<|i_j.run aS (zt' J hw) (L.g af) he (O.g af) hf) ?_;rintro _ aT ⟨sa,aU,aV,aW,_,aX,aY,aZ,_,rfl,_,_,_,b0,_,_,_⟩;refine Rm z ?_
  iterate 3 refine Re z z z ?_
  refine E z (fa a_f) ?_;rintro _ b1 ⟨rfl,ai⟩;have hk:=ai.below;refine E0 (fs0 (cur':=[vI aR.number,sl aU aV aW,sl aX aY aZ]) h_ z z (ai.blk:Blk b1 aT.z [vI 0,sN,sN]) z z z z) ?_;rintro _ _ ⟨_,b2⟩;have hl:=b2.one;refine Ra z<|Rw z<|Wq<|Wm z<|R z (nq z z)<|Wx z (λhcx=>?_) (λhcx=>?_)
  .refine Ws<|R z (bP (parts:=[]) (cs:=[(Str.v (⟨[]⟩:Str)),vI 0,vI 0,vI 0]) g_x z z) ?_
   refine E0 (fs0 (cur':=[(Str.v (⟨[]⟩:Str)),vI 0,vI 0,vI 0]) b_6 z z (((((((hd.e G).e s2).e s1).e s9).e sa).e hk).c hl<|djs<|mm1 hd.lt<|lt_ (lt_ (lt_ (lt_ G.s s2.s) s1.s) s9.s) sa.s) z z z z) ?_;rintro _ _ ⟨b3,b4⟩;refine Rw z ?_
   obtain rfl:=som<|ifT a4 hcx;exact Wr<|a_9 hr (s_ e_c b_6 z b3 z) z ⟨bM (bM (bup (bup (bup (bup (bup (bup (bup h3 h6) G) s2) s1) s9) sa) hk) hl<|m1<|lt_ hw sa.s) b4.one<|m1 h3.s,z,lb z,ii z,ii z,ii z⟩
  refine Wk<|Wm z<|RM z z<|Rm z<|R z (bP (parts:=[(0,.tmp 75),(1,.tmp 76),(2,.tmp 77),(3,.tmp 78)]) (cs:=[Str.v x3,vI x4,vI x5,vI ah]) g_x z z) ?_
  refine E0 (fs0 (cur':=[Str.v x3,vI x4,vI x5,vI ah]) b_6 z z (((((((hd.e G).e s2).e s1).e s9).e sa).e hk).c hl<|djs<|mm1 hd.lt<|lt_ (lt_ (lt_ (lt_ G.s s2.s) s1.s) s9.s) sa.s) z z z z) ?_;rintro _ _ ⟨b5,b6⟩;refine Rw z ?_
  obtain rfl:=som<|ifF a4 hcx;exact Wr<|a_9 hr (s_ e_c b_6 z b5 z) z ⟨bM (bM (bup (bup (bup (bup (bup (bup (bup h3 h6) G) s2) s1) s9) sa) hk) hl<|m1<|lt_ hw sa.s) b6.one<|m1 h3.s,z,V,he,hf,b0⟩
 rintro _ _ _ _ rfl ⟨rfl,ar⟩;have au:=elR a1;obtain rfl:=som au;exact ⟨ar,z⟩
def Q20 (w0:World)(B:Zone)(r:Val×Bool)(v:Value)(w':World):Prop:=Bw w0 w'/\un2 (λG V=>∃H I J S1 a2 L O S2,v = .tuple #[(.agg #[vI G.number,sl H I J,sl a2 L O]),vB V]/\inI G.number/\a_ w' S1 (sl H I J) G.bytes/\a_ w' S2 (sl a2 L O) G.items/\(S1++S2).Nodup/\(∀k∈(S1++S2),w0.z<=k)) r
theorem W_w2z {x1:d_}{x2:Bt}{x3:Str}{res:Val×Bool}(hm:h_V n x1 x2 x3=some res)(L:B<=w0.z)(O:repS w0 B (sl A0 N0 C0) x1.rules)(V:repS w0 B (sl A5 N5 C5) x2)(a1:x3.b.length<=LEN):i_ prog 30 [(.agg #[sl A0 N0 C0]),sl A5 N5 C5,Str.v x3] w0 (Q20 w0 B res):=by
 unfold h_V at hm
 refine goG func30 z z z λfn hr=>Ws<|E z (fb z) ?_
 rintro _ wq ⟨rfl,ht⟩;have h4:=ht.below;have hu:Blk wq w0.z [sl A0 N0 C0]:=ht.blk;refine E z (fa a_f) ?_;rintro _ a3 ⟨rfl,hv⟩;have h5:=hv.below;have h3:Blk a3 wq.z [vI 0,sN,sN]:=hv.blk;refine Rw z<|Ws ?_
 have hw:=hu.e h5;refine R z (lN (vs:=[sl A0 N0 C0]) w_ v_ z z fid<|hw.row 0 1 z)<|RM z z ?_
 have hi:=(h4.ag B).e h5;have hj:=lt_ h4.s h5.s;obtain ⟨H,_,a4,hmr⟩:=a_8 hm;refine E z (fc call29 z<|W_w1g a4 (zt' L hj) (O.g hi) (V.g hi) a1) ?_;rintro _ ws ⟨G,rfl,_,a5,a6,_⟩;refine Rm z<|Re z z z<|Re z z z<|E z (fa i_f) ?_
 rintro _ a7 ⟨rfl,hx⟩;have h1:=hx.below;refine E0 (fs0 (cur':=[Str.v H.path,vI H.rule,vI H.start,vI H.end_]) b_6 z z (hx.blk:Blk a7 ws.z [(Str.v (⟨[]⟩:Str)),vI 0,vI 0,vI 0]) z z z z) ?_;rintro _ _ ⟨hy,a8⟩;have h2:=a8.one;refine Rw z<|Wq<|Wm z<|R z (not_ z)<|Wx z (λhck=>?_) (λhck=>?_)
 .refine Ws<|R z (bP (parts:=[]) (cs:=[vI 0,sN,sN]) a_4 z z)<|E0 (fs0 (cur':=[vI 0,sN,sN]) h_ z z (((h3.e G).e h1).c h2<|djs<|mm1 h3.lt G.s) z z z z) ?_
  rintro _ _ ⟨aa,ab⟩;refine Rw z ?_
  obtain rfl:=som<|ifT hmr hck;exact Wr<|a_9 hr (s_ y_ h_ z aa z) z ⟨bM (bM (bup (bup (bup h4 h5) G) h1) h2<|m1<|lt_ hj G.s) ab.one<|m1 h4.s,none,0,0,[],none,0,0,[],z,ii z,onL,onL,nd0,al0⟩
 refine Wk<|Ws<|R z (lN (vs:=[sl A0 N0 C0]) w_ v_ z z fid<|(((hw.e G).e h1).c h2<|djs<|mm1 hu.lt<|lt_ h5.s G.s).row 0 1 z)<|Rf z k_4 z<|R z (l0 g_3 z<|hy.at z)<|Rm z<|Rf z p_6 z<|R z (l0 g_3 z<|hy.at z) ?_
 have hl:=lt_ hj G.s;have hz:=((hi.e G).e h1).c h2<|e_ (or0 (f_ lr) (p_<|zt' L hl):∀k∈[ws.z],¬B k)
 have I:=lt_ (lt_ hl h1.s) h2.s;obtain ⟨rm,_,_,ad,a2⟩:=N_<|ifF hmr hck;refine E z (fc call55 z<|i_j.run ad (zt' L I) (O.g hz) a5 (V.g hz) a6) ?_;rintro _ ae ⟨s8,J,na,cb,af,ac,nd,ce,ah,rfl,ai,W,Y,_,_,hn,hf⟩;refine Rm z ?_
 iterate 3 refine Re z z z ?_
 refine E z (fa a_f) ?_;rintro _ aj ⟨rfl,a0⟩;have hg:=a0.below;refine E0 (fs0 (cur':=[vI rm.number,sl J na cb,sl ac nd ce]) h_ z z (a0.blk:Blk aj ae.z [vI 0,sN,sN]) z z z z) ?_;rintro _ _ ⟨ak,al⟩;have hh:=al.one;refine Ra z<|Rw z<|Ws<|R z (lN (vs:=[vI rm.number,sl J na cb,sl ac nd ce]) y_ h_ z z fid<|ak.row 0 3 z) ?_
 have ho:=lt_ (lt_ G.s h1.s) h2.s;refine E0 (fs0 (cur':=[vI rm.number,sl J na cb,sl ac nd ce]) h_ z z ((((((h3.e G).e h1).c h2<|djs<|mm1 h3.lt G.s).e s8).e hg).c hh<|djs<|mm1 h3.lt<|lt_ ho s8.s) z z z z) ?_;rintro _ _ ⟨am,an⟩;have hp:=an.one;refine Rw z ?_
 obtain rfl:=som a2;exact Wr<|a_9 hr (s_ y_ h_ z am z) z ⟨bM (bM (bup (bup (bM (bup (bup (bup h4 h5) G) h1) h2<|m1 hl) s8) hg) hh<|m1<|lt_ I s8.s) hp<|m1 h4.s,J,na,cb,af,ac,nd,ce,ah,z,ai,((W.e hg).c hh<|ds<|mnr<|a_.lt W).c hp<|t_ (al_ hf) h3.lt ho,((Y.e hg).c hh<|ds<|mnr<|a_.lt Y).c hp<|t_ (ar_ hf) h3.lt ho,na_ (nl_ hn) (nr_ hn)<|nj hn,aa_ (n_ (al_ hf) I)<|n_ (ar_ hf) I⟩
theorem W_w1h {x1:Int}{x2:Int}{res:Int}(hm:g_u x1 x2=some res)(J:B<=w0.z)(H:inI x1)(I:inI x2):i_ prog 154 [vI x1,vI x2] w0 (Q0 w0 B res):=by
 unfold g_u at hm
 refine goG func154 z z z λfn hr=>Ws<|Rw z<|Wq<|Wm z<|Rm z<|Rl z z z<|Wx z (λG=>?_) (λG=>?_)
 .refine Wm z<|Rw z ?_
  obtain rfl:=som<|ifT hm G;exact Wr<|c_ hr z ⟨br w0,z,I⟩
 refine Wk<|Wm z<|Rw z ?_
 obtain rfl:=som<|ifF hm G;exact Wr<|c_ hr z ⟨br w0,z,H⟩
theorem W_w30 {x1:d_}{x2:b_}{x3:Val}{res:Bool}(hm:h_7 x1 x2 x3=some res)(a0:B<=w0.z)(aq:repS w0 B (sl A0 N0 C0) x1.rules)(bg:x2.name.b.length<=LEN)(bh:inI x2.kind)(ar:inI x2.size)(bi:repS w0 B (sl A2 N2 C2) x2.bytes)(bj:repS w0 B (sl A3 N3 C3) x2.names)(bk:repS w0 B (sl A1 N1 C1) x2.tags)(a1:repS w0 B (sl A4 N4 C4) x2.kids)(au:inI x3.number)(W:repS w0 B (sl A8 N8 C8) x3.bytes)(Y:repS w0 B (sl A9 N9 C9) x3.items):i_ prog 136 [(.agg #[sl A0 N0 C0]),.agg #[Str.v x2.name,vI x2.kind,vI x2.size,vB x2.little,sl A2 N2 C2,sl A3 N3 C3,sl A1 N1 C1,sl A4 N4 C4],(.agg #[vI x3.number,sl A8 N8 C8,sl A9 N9 C9])] w0 (Q7 w0 B res):=by
 unfold h_7 at hm
 refine goG func136 z z z λfn hr=>Ws<|E z (fb z) ?_
 rintro _ aX ⟨rfl,aY⟩;have h3:=aY.below;have aZ:Blk aX w0.z [sl A0 N0 C0]:=aY.blk;refine E z (fb z) ?_;rintro _ b0 ⟨rfl,b1⟩;have h2:=b1.below;refine E z (fb z) ?_;rintro _ G ⟨rfl,b2⟩;have H:=b2.below;have h4:Blk G b0.z [vI x3.number,sl A8 N8 C8,sl A9 N9 C9]:=b2.blk;refine Rw z<|Wq<|Ws<|Rf z a_o z ?_
 have ht:=(b1.blk:Blk b0 aX.z (vR x2 A2 N2 C2 A3 N3 C3 A1 N1 C1 A4 N4 C4)).e H;refine R z (l0 g_3 z<|ht.at z)<|Wn<|Wb<|Ws<|Rq z z z<|Rw z<|Wc z (λa2=>?_) (λa2=>?_)
 .refine Wq ?_;obtain ⟨bH,bm,bn⟩:=bdS<|ifT hm a2;refine Wt (λa w=>∃(ab:Bool),ab=bH/\Sat 202 [(6,vB ab)] a/\Below G.z G w) ?_ ?_
  .refine Wd (X:=noX) 0 (pl_ 20 [4,6]) mo (by kernel_rfl) λcz sr _=>dR z z (fd b_u z) ?_
   have b3:=h4.e sr;refine dR z z (l0 g_3 z<|b3.at z)<|dR z z (fd a_H z)<|dR z z (l0 g_3 z<|(ht.e sr).at z) ?_
   have b4:=lt_ (lt_ (lt_ h3.s h2.s) H.s) sr.s;obtain ⟨_,bI,bo⟩:=bdS bm;refine dE z z (fc call153 z<|W_w13 bI (zt' a0 b4) ar) (.inr λ_ _ h=>C_<|h.1) ?_;rintro _ _ ⟨ss,rfl,_⟩;refine dR z z (sb_ z z) ?_;obtain ⟨bJ,bK,av⟩:=bdS bo;refine dE z z (fc call99 z<|b_K bK (zt' a0<|lt_ b4 ss.s) au (ii z)<|iS _ _) (.inr λ_ _ h=>C_<|h.1) ?_;rintro _ _ ⟨sv,rfl⟩;refine dM z z z ?_
   rcases bs bJ with hca | hca
   .have aw:=ifT av hca;refine dRg z z z hca z (fd c_u z) ?_;have b5:=(b3.e ss).e sv;refine dRg z z z hca z (l0 X_ z<|b5.at z) ?_;have b6:=(((((h3.ag B).e h2).e H).e sr).e ss).e sv;refine dRg z z z hca z (lnR o_ z<|W.g b6)<|dRg z z z hca z (eql z z)<|dR z z (pT z hca z)<|dM z z z ?_
    rcases bs ((x3.bytes.length:Int)==0) with hcb | hcb
    .exact dRg z z z hcb z (fd a_y z)<|dRg z z z hcb z (l0 a_E z<|b5.at z)<|dRg z z z hcb z (lnR a_N z<|Y.g b6)<|dRg z z z hcb z (eql z z)<|dR z z (pT z hcb z)<|dQ z z z<|pD (λ_ q=>⟨(x3.items.length:Int)==0,som<|ifT aw hcb,q.k<|s1 z,bup (bup sr ss) sv⟩)
    iterate 4 refine dRn z z z hcb z ?_
    exact dR z z (pF z hcb z)<|dQ z z z<|pD (λ_ q=>⟨false,som<|ifF aw hcb,q.k<|s1 z,bup (bup sr ss) sv⟩)
   iterate 4 refine dRn z z z hca z ?_
   refine dR z z (pF z hca z)<|dM z z z ?_
   iterate 4 refine dRn z z z z z ?_
   exact dR z z (pF z z z)<|dQ z z z<|pD (λ_ q=>⟨false,som<|ifF av hca,q.k<|s1 z,bup (bup sr ss) sv⟩)
  rintro bL _ ⟨ab,rfl,_,bM⟩;revert bL;refine Wo ?_;obtain rfl:=som bn;exact Wr<|rtO<|c_ hr z ⟨bup (bup (bup h3 h2) H) bM,z⟩
 have ax:=ifF hm a2;refine Ws<|Rq z z z<|Rw z<|Wc z (λa3=>?_) (λa3=>?_)
 .refine Wq ?_;obtain ⟨bN,ay,bp⟩:=bdS<|ifT ax a3;refine Wt (λa w=>∃(ad:Bool),ad=bN/\Sat 202 [(6,vB ad)] a/\Below G.z G w) ?_ ?_
  .refine Wg<|Rf z b_u z<|R z (l0 g_3 z<|h4.at z)<|Rq z z z<|Rm z ?_
   rcases bs (x3.number==0) with hcc | hcc
   .have az:=ifT ay hcc;refine Rh z hcc (fd c_u z)<|Rh z hcc (l0 X_ z<|h4.at z) ?_
    have b7:=((h3.ag B).e h2).e H;refine Rh z hcc (lnR o_ z<|W.g b7)<|Rh z hcc (eql z z)<|R z (pT z hcc z)<|Rm z ?_
    rcases bs ((x3.bytes.length:Int)==0) with hcd | hcd
    .exact Rh z hcd (fd a_y z)<|Rh z hcd (l0 a_E z<|h4.at z)<|Rh z hcd (lnR a_N z<|Y.g b7)<|Rh z hcd (eql z z)<|R z (pT z hcd z)<|Ra z<|Wl (λ_ q=>⟨(x3.items.length:Int)==0,som<|ifT az hcd,q.k<|s1 z,br G⟩)
    iterate 4 refine Nh z hcd ?_
    exact R z (pF z hcd z)<|Ra z<|Wl (λ_ q=>⟨false,som<|ifF az hcd,q.k<|s1 z,br G⟩)
   iterate 4 refine Nh z hcc ?_
   exact R z (pF z hcc z)<|Rm z<|Nh z z<|Nh z z<|Nh z z<|Nh z z<|R z (pF z z z)<|Ra z<|Wl (λ_ q=>⟨false,som<|ifF ay hcc,q.k<|s1 z,br G⟩)
  rintro bO _ ⟨ad,rfl,_,bP⟩;revert bO;refine Wo ?_;obtain rfl:=som bp;exact Wr<|rtO<|c_ hr z ⟨bup (bup (bup h3 h2) H) bP,z⟩
 have aA:=ifF ax a3;refine Ws<|Rq z z z<|Rw z<|Wc z (λa4=>?_) (λa4=>?_)
 .refine Wq ?_;obtain ⟨bQ,aB,bq⟩:=bdS<|ifT aA a4;refine Wt (λa w=>∃(ae:Bool),ae=bQ/\Sat 202 [(6,vB ae)] a/\Below G.z G w) ?_ ?_
  .refine Wg<|Rf z b_u z<|R z (l0 g_3 z<|h4.at z)<|Rq z z z<|Rm z ?_
   rcases bs (x3.number==0) with O | O
   .have aC:=ifT aB O;refine Rh z O (fd c_u z)<|Rh z O (l0 X_ z<|h4.at z) ?_
    have b8:=((h3.ag B).e h2).e H;refine Rh z O (lnR o_ z<|W.g b8)<|Rh z O (fd a_H z)<|Rh z O (l0 g_3 z<|ht.at z)<|Rh z O (eql z z)<|R z (pT z O z)<|Rm z ?_
    rcases bs ((x3.bytes.length:Int)==x2.size) with hce | hce
    .exact Rh z hce (fd a_y z)<|Rh z hce (l0 a_E z<|h4.at z)<|Rh z hce (lnR a_N z<|Y.g b8)<|Rh z hce (eql z z)<|R z (pT z hce z)<|Ra z<|Wl (λ_ q=>⟨(x3.items.length:Int)==0,som<|ifT aC hce,q.k<|s1 z,br G⟩)
    iterate 4 refine Nh z hce ?_
    exact R z (pF z hce z)<|Ra z<|Wl (λ_ q=>⟨false,som<|ifF aC hce,q.k<|s1 z,br G⟩)
   iterate 6 refine Nh z O ?_
   exact R z (pF z O z)<|Rm z<|Nh z z<|Nh z z<|Nh z z<|Nh z z<|R z (pF z z z)<|Ra z<|Wl (λ_ q=>⟨false,som<|ifF aB O,q.k<|s1 z,br G⟩)
  rintro bR _ ⟨ae,rfl,_,bS⟩;revert bR;refine Wo ?_;obtain rfl:=som bq;exact Wr<|rtO<|c_ hr z ⟨bup (bup (bup h3 h2) H) bS,z⟩
 have aD:=ifF aA a4;refine Ws<|Rq z z z<|Rw z<|Wc z (λa5=>?_) (λa5=>?_)
 .refine Wq ?_;obtain ⟨bT,aE,bt⟩:=bdS<|ifT aD a5;refine Wt (λa w=>∃(af:Bool),af=bT/\Sat 202 [(6,vB af)] a/\Below G.z G w) ?_ ?_
  .refine Wd (X:=noX) 0 (pl_ 23 [12,13]) mo (by kernel_rfl) λcA sp _=>dR z z (fd b_u z) ?_
   have ah:=h4.e sp;refine dR z z (l0 g_3 z<|ah.at z)<|dR z z (eql z z)<|dM z z z ?_
   rcases bs (x3.number==0) with I | I
   .refine dRg z z z I z (fd c_u z)<|dRg z z z I z (l0 X_ z<|ah.at z) ?_
    have hx:=(((h3.ag B).e h2).e H).e sp;refine dRg z z z I z (lnR o_ z<|W.g hx)<|dRg z z z I z (lN (vs:=[sl A0 N0 C0]) w_ v_ z z fid<|(((aZ.e h2).e H).e sp).row 0 1 z)<|dRg z z z I z (fd P_ z)<|dRg z z z I z (l0 E_ z<|(ht.e sp).at z) ?_
    obtain ⟨_,bU,bu⟩:=bdS<|ifT aE I;refine b_v z z z I z (at_ (α:=Int) x_ z_3 z z z (a1.g hx) bU) ?_;rintro _ ⟨_,_,_,rfl,bV,bW,_⟩;obtain ⟨rfl,bX⟩:=T_ bW;refine dRg z z z I z (l0 g_3 z<|bV.at0 z) ?_;have b9:=lt_ (lt_ (lt_ h3.s h2.s) H.s) sp.s;obtain ⟨_,bY,bv⟩:=bdS bu;refine dEg z z z I z (fc call150 z<|i_h bY (zt' a0 b9) (aq.g hx) bX) (.inr λ_ _ h=>C_<|h.1) ?_;rintro _ _ ⟨sw,rfl,bZ⟩;obtain ⟨c0,c1,aF⟩:=bdS bv;refine dEg z z z I z (fc call154 z<|W_w1h c1 (zt' a0<|lt_ b9 sw.s) (ii z) bZ) (.inr λ_ _ h=>C_<|h.1) ?_;rintro _ _ ⟨sy,rfl,_⟩;refine dRg z z z I z (b_N z z)<|dR z z (pT z I z)<|dM z z z ?_
    rcases bs (decide<|(x3.bytes.length:Int)<=c0) with hcf | hcf
    .exact dRg z z z hcf z (fd a_y z)<|dRg z z z hcf z (l0 a_E z<|((ah.e sw).e sy).at z)<|dRg z z z hcf z (lnR a_N z<|Y.g<|(hx.e sw).e sy)<|dRg z z z hcf z (eql z z)<|dR z z (pT z hcf z)<|dQ z z z<|pD (λ_ q=>⟨(x3.items.length:Int)==0,som<|ifT aF hcf,q.k<|s1 z,bup (bup sp sw) sy⟩)
    iterate 4 refine dRn z z z hcf z ?_
    exact dR z z (pF z hcf z)<|dQ z z z<|pD (λ_ q=>⟨false,som<|ifF aF hcf,q.k<|s1 z,bup (bup sp sw) sy⟩)
   iterate 8 refine dRn z z z I z ?_
   refine dEn z z z I z<|dEn z z z I z<|dRn z z z I z<|dR z z (pF z I z)<|dM z z z ?_
   iterate 4 refine dRn z z z z z ?_
   exact dR z z (pF z z z)<|dQ z z z<|pD (λ_ q=>⟨false,som<|ifF aE I,q.k<|s1 z,sp⟩)
  rintro c2 _ ⟨af,rfl,_,c3⟩;revert c2;refine Wo ?_;obtain rfl:=som bt;exact Wr<|rtO<|c_ hr z ⟨bup (bup (bup h3 h2) H) c3,z⟩
 have aG:=ifF aD a5;refine Ws<|Rq z z z<|Rw z<|Wc z (λa6=>?_) (λa6=>?_)
 .refine Wq ?_;obtain ⟨c4,aH,bw⟩:=bdS<|ifT aG a6;refine Wt (λa w=>∃(ai:Bool),ai=c4/\Sat 202 [(6,vB ai)] a/\Below G.z G w) ?_ ?_
  .refine Wg<|Rf z b_u z<|R z (l0 g_3 z<|h4.at z)<|Rq z z z<|Rm z ?_
   rcases bs (x3.number==0) with hcg | hcg
   .have aI:=ifT aH hcg;refine Rh z hcg (fd c_u z)<|Rh z hcg (l0 X_ z<|h4.at z) ?_
    have ba:=((h3.ag B).e h2).e H;refine Rh z hcg (lnR o_ z<|W.g ba)<|Rh z hcg (b_N z z)<|R z (pT z hcg z)<|Rm z ?_
    rcases bs (decide<|(x3.bytes.length:Int)<=400) with hch | hch
    .exact Rh z hch (fd a_y z)<|Rh z hch (l0 a_E z<|h4.at z)<|Rh z hch (lnR a_N z<|Y.g ba)<|Rh z hch (eql z z)<|R z (pT z hch z)<|Ra z<|Wl (λ_ q=>⟨(x3.items.length:Int)==0,som<|ifT aI hch,q.k<|s1 z,br G⟩)
    iterate 4 refine Nh z hch ?_
    exact R z (pF z hch z)<|Ra z<|Wl (λ_ q=>⟨false,som<|ifF aI hch,q.k<|s1 z,br G⟩)
   iterate 4 refine Nh z hcg ?_
   exact R z (pF z hcg z)<|Rm z<|Nh z z<|Nh z z<|Nh z z<|Nh z z<|R z (pF z z z)<|Ra z<|Wl (λ_ q=>⟨false,som<|ifF aH hcg,q.k<|s1 z,br G⟩)
  rintro c5 _ ⟨ai,rfl,_,c6⟩;revert c5;refine Wo ?_;obtain rfl:=som bw;exact Wr<|rtO<|c_ hr z ⟨bup (bup (bup h3 h2) H) c6,z⟩
 have aJ:=ifF aG a6;refine Ws<|Rq z z z<|Rw z<|Wc z (λa7=>?_) (λa7=>?_)
 .refine Wq ?_;obtain ⟨c7,aK,bx⟩:=bdS<|ifT aJ a7;refine Wt (λa w=>∃(aj:Bool),aj=c7/\Sat 202 [(6,vB aj)] a/\Below G.z G w) ?_ ?_
  .refine Wd (X:=noX) 0 (pl_ 23 [18,19]) mo (by kernel_rfl) λcB sq _=>dR z z (fd b_u z) ?_
   have ak:=h4.e sq;refine dR z z (l0 g_3 z<|ak.at z)<|dR z z (eql z z)<|dM z z z ?_
   rcases bs (x3.number==0) with hci | hci
   .have aL:=ifT aK hci;refine dRg z z z hci z (fd c_u z)<|dRg z z z hci z (l0 X_ z<|ak.at z) ?_
    have hz:=(((h3.ag B).e h2).e H).e sq;refine dRg z z z hci z (lnR o_ z<|W.g hz)<|dRg z z z hci z (eql z z)<|dR z z (pT z hci z)<|dM z z z ?_
    rcases bs ((x3.bytes.length:Int)==0) with J | J
    .refine dRg z z z J z (fd a_y z)<|dRg z z z J z (l0 a_E z<|ak.at z)<|dRg z z z J z (lnR a_N z<|Y.g hz)<|dRg z z z J z (lN (vs:=[sl A0 N0 C0]) w_ v_ z z fid<|(((aZ.e h2).e H).e sq).row 0 1 z)<|dRg z z z J z (fd P_ z)<|dRg z z z J z (l0 E_ z<|(ht.e sq).at z) ?_
     obtain ⟨_,c8,bz⟩:=bdS<|ifT aL J;refine b_v z z z J z (at_ (α:=Int) x_ z_3 z z z (a1.g hz) c8) ?_;rintro _ ⟨_,_,_,rfl,c9,ca,_⟩;obtain ⟨rfl,cb⟩:=T_ ca;refine dRg z z z J z (l0 g_3 z<|c9.at0 z) ?_;have bb:=lt_ (lt_ (lt_ h3.s h2.s) H.s) sq.s;obtain ⟨_,cc,bA⟩:=bdS bz;refine dEg z z z J z (fc call150 z<|i_h cc (zt' a0 bb) (aq.g hz) cb) (.inr λ_ _ h=>C_<|h.1) ?_;rintro _ _ ⟨bc,rfl,cd⟩;obtain ⟨ce,cf,bB⟩:=bdS bA;refine dEg z z z J z (fc call154 z<|W_w1h cf (zt' a0<|lt_ bb bc.s) (ii z) cd) (.inr λ_ _ h=>C_<|h.1) ?_;rintro _ _ ⟨cg,rfl,_⟩;exact dRg z z z J z (b_N z z)<|dR z z (pT z J z)<|dQ z z z<|pD (λ_ q=>⟨decide<|(x3.items.length:Int)<=ce,som bB,q.k<|s1 z,bup (bup sq bc) cg⟩)
    iterate 8 refine dRn z z z J z ?_
    exact dEn z z z J z<|dEn z z z J z<|dRn z z z J z<|dR z z (pF z J z)<|dQ z z z<|pD (λ_ q=>⟨false,som<|ifF aL J,q.k<|s1 z,sq⟩)
   iterate 4 refine dRn z z z hci z ?_
   refine dR z z (pF z hci z)<|dM z z z ?_
   iterate 8 refine dRn z z z z z ?_
   exact dEn z z z z z<|dEn z z z z z<|dRn z z z z z<|dR z z (pF z z z)<|dQ z z z<|pD (λ_ q=>⟨false,som<|ifF aK hci,q.k<|s1 z,sq⟩)
  rintro ch _ ⟨aj,rfl,_,ci⟩;revert ch;refine Wo ?_;obtain rfl:=som bx;exact Wr<|rtO<|c_ hr z ⟨bup (bup (bup h3 h2) H) ci,z⟩
 have aM:=ifF aJ a7;refine Ws<|Rq z z z<|Rw z<|Wc z (λa8=>?_) (λa8=>?_)
 .refine Wq ?_;obtain ⟨cj,aN,bC⟩:=bdS<|ifT aM a8;refine Wt (λa w=>∃(al:Bool),al=cj/\Sat 202 [(6,vB al)] a/\Below G.z G w) ?_ ?_
  .refine Wg<|Rf z b_u z<|R z (l0 g_3 z<|h4.at z)<|Rq z z z<|Rm z ?_
   rcases bs (x3.number==0) with hcj | hcj
   .have aO:=ifT aN hcj;refine Rh z hcj (fd c_u z)<|Rh z hcj (l0 X_ z<|h4.at z) ?_
    have am:=((h3.ag B).e h2).e H;refine Rh z hcj (lnR o_ z<|W.g am)<|Rh z hcj (eql z z)<|R z (pT z hcj z)<|Rm z ?_
    rcases bs ((x3.bytes.length:Int)==0) with L | L
    .exact Rh z L (fd a_y z)<|Rh z L (l0 a_E z<|h4.at z)<|Rh z L (lnR a_N z<|Y.g am)<|Rh z L (fd P_ z)<|Rh z L (l0 E_ z<|ht.at z)<|Rh z L (lnR x_ z<|a1.g am)<|Rh z L (eql z z)<|R z (pT z L z)<|Ra z<|Wl (λ_ q=>⟨(x3.items.length:Int)==(x2.kids.length:Int),som<|ifT aO L,q.k<|s1 z,br G⟩)
    iterate 7 refine Nh z L ?_
    exact R z (pF z L z)<|Ra z<|Wl (λ_ q=>⟨false,som<|ifF aO L,q.k<|s1 z,br G⟩)
   iterate 4 refine Nh z hcj ?_
   exact R z (pF z hcj z)<|Rm z<|Nh z z<|Nh z z<|Nh z z<|Nh z z<|Nh z z<|Nh z z<|Nh z z<|R z (pF z z z)<|Ra z<|Wl (λ_ q=>⟨false,som<|ifF aN hcj,q.k<|s1 z,br G⟩)
  rintro ck _ ⟨al,rfl,_,cl⟩;revert ck;refine Wo ?_;obtain rfl:=som bC;exact Wr<|rtO<|c_ hr z ⟨bup (bup (bup h3 h2) H) cl,z⟩
 have aP:=ifF aM a8;refine Ws<|Rq z z z<|Rw z<|Wc z (λa9=>?_) (λa9=>?_)
 .refine Wq ?_;obtain ⟨cm,aQ,bD⟩:=bdS<|ifT aP a9;refine Wt (λa w=>∃(an:Bool),an=cm/\Sat 202 [(6,vB an)] a/\Below G.z G w) ?_ ?_
  .refine Wg<|Rf z c_u z<|R z (l0 X_ z<|h4.at z) ?_
   have hu:=((h3.ag B).e h2).e H;refine R z (lnR o_ z<|W.g hu)<|Rq z z z<|Rm z ?_
   rcases bs ((x3.bytes.length:Int)==0) with hck | hck
   .have aR:=ifT aQ hck;refine Rh z hck (fd a_y z)<|Rh z hck (l0 a_E z<|h4.at z)<|Rh z hck (lnR a_N z<|Y.g hu)<|Rh z hck (eql z z)<|R z (pT z hck z)<|Rm z ?_
    rcases bs ((x3.items.length:Int)==1) with V | V
    .refine Rh z V (lN (vs:=vR x2 A2 N2 C2 A3 N3 C3 A1 N1 C1 A4 N4 C4) H_ m_ z z fid<|ht.row 0 8 z)<|Rh z V (fd b_u z)<|Rh z V (l0 g_3 z<|h4.at z) ?_
     obtain ⟨cn,co,bE⟩:=bdS<|ifT aR V;refine Eg z z V z (fc call93 z<|e_g co (zt' a0<|lt_ (lt_ h3.s h2.s) H.s) bg bh ar (bi.g hu) (bj.g hu) (bk.g hu) (a1.g hu) au<|ii z) ?_;rintro _ _ ⟨cp,rfl,_⟩;exact Rh z V (c_d z z)<|R z (pT z V z)<|Ra z<|Wl (λ_ q=>⟨decide<|0<=cn,som bE,q.k<|s1 z,cp⟩)
    iterate 5 refine Nh z V ?_
    exact R z (pF z V z)<|Ra z<|Wl (λ_ q=>⟨false,som<|ifF aR V,q.k<|s1 z,br G⟩)
   iterate 4 refine Nh z hck ?_
   exact R z (pF z hck z)<|Rm z<|Nh z z<|Nh z z<|Nh z z<|Nh z z<|Nh z z<|R z (pF z z z)<|Ra z<|Wl (λ_ q=>⟨false,som<|ifF aQ hck,q.k<|s1 z,br G⟩)
  rintro cq _ ⟨an,rfl,_,cr⟩;revert cq;refine Wo ?_;obtain rfl:=som bD;exact Wr<|rtO<|c_ hr z ⟨bup (bup (bup h3 h2) H) cr,z⟩
 have aS:=ifF aP a9;refine Ws<|Rq z z z<|Rw z<|Wc z (λaa=>?_) (λaa=>?_)
 .refine Wq ?_;obtain ⟨ct,aT,bF⟩:=bdS<|ifT aS aa;refine Wt (λa w=>∃(ao:Bool),ao=ct/\Sat 202 [(6,vB ao)] a/\Below G.z G w) ?_ ?_
  .refine Wg<|Rf z b_u z<|R z (l0 g_3 z<|h4.at z)<|Rq z z z<|Rm z ?_
   rcases bs (x3.number==0) with hcl | hcl
   .have aU:=ifT aT hcl;refine Rh z hcl (fd c_u z)<|Rh z hcl (l0 X_ z<|h4.at z) ?_
    have be:=((h3.ag B).e h2).e H;refine Rh z hcl (lnR o_ z<|W.g be)<|Rh z hcl (eql z z)<|R z (pT z hcl z)<|Rm z ?_
    rcases bs ((x3.bytes.length:Int)==0) with hcm | hcm
    .exact Rh z hcm (fd a_y z)<|Rh z hcm (l0 a_E z<|h4.at z)<|Rh z hcm (lnR a_N z<|Y.g be)<|Rh z hcm (b_N z z)<|R z (pT z hcm z)<|Ra z<|Wl (λ_ q=>⟨decide<|(x3.items.length:Int)<=1,som<|ifT aU hcm,q.k<|s1 z,br G⟩)
    iterate 4 refine Nh z hcm ?_
    exact R z (pF z hcm z)<|Ra z<|Wl (λ_ q=>⟨false,som<|ifF aU hcm,q.k<|s1 z,br G⟩)
   iterate 4 refine Nh z hcl ?_
   exact R z (pF z hcl z)<|Rm z<|Nh z z<|Nh z z<|Nh z z<|Nh z z<|R z (pF z z z)<|Ra z<|Wl (λ_ q=>⟨false,som<|ifF aT hcl,q.k<|s1 z,br G⟩)
  rintro cu _ ⟨ao,rfl,_,cv⟩;revert cu;refine Wo ?_;obtain rfl:=som bF;exact Wr<|rtO<|c_ hr z ⟨bup (bup (bup h3 h2) H) cv,z⟩
 refine Wk<|Wq ?_
 obtain ⟨cw,aV,bG⟩:=bdS<|ifF aS aa;refine Wt (λa w=>∃(ap:Bool),ap=cw/\Sat 202 [(6,vB ap)] a/\Below G.z G w) ?_ ?_
 .refine Wg<|Rf z b_u z<|R z (l0 g_3 z<|h4.at z)<|Rq z z z<|Rm z ?_
  rcases bs (x3.number==0) with hcn | hcn
  .have aW:=ifT aV hcn;refine Rh z hcn (fd c_u z)<|Rh z hcn (l0 X_ z<|h4.at z) ?_
   have bf:=((h3.ag B).e h2).e H;refine Rh z hcn (lnR o_ z<|W.g bf)<|Rh z hcn (eql z z)<|R z (pT z hcn z)<|Rm z ?_
   rcases bs ((x3.bytes.length:Int)==0) with hco | hco
   .exact Rh z hco (fd a_y z)<|Rh z hco (l0 a_E z<|h4.at z)<|Rh z hco (lnR a_N z<|Y.g bf)<|Rh z hco (eql z z)<|R z (pT z hco z)<|Ra z<|Wl (λ_ q=>⟨(x3.items.length:Int)==1,som<|ifT aW hco,q.k<|s1 z,br G⟩)
   iterate 4 refine Nh z hco ?_
   exact R z (pF z hco z)<|Ra z<|Wl (λ_ q=>⟨false,som<|ifF aW hco,q.k<|s1 z,br G⟩)
  iterate 4 refine Nh z hcn ?_
  exact R z (pF z hcn z)<|Rm z<|Nh z z<|Nh z z<|Nh z z<|Nh z z<|R z (pF z z z)<|Ra z<|Wl (λ_ q=>⟨false,som<|ifF aV hcn,q.k<|s1 z,br G⟩)
 rintro cx _ ⟨ap,rfl,_,cy⟩;revert cx;refine Wo ?_;obtain rfl:=som bG;exact Wr<|c_ hr z ⟨bup (bup (bup h3 h2) H) cy,z⟩
structure l_P (f:d_->Int->Val->Option Bool):Prop where
  run:∀{A0 A8 A9:Option Addr}{N0 C0 N8 C8 N9 C9:Nat}{B:Zone}{x1:d_}{x2:Int}{x3:Val}{res:Bool}{w0:World}(hm:f x1 x2 x3=some res)(hBw:B<=w0.z)(p1_0:repS w0 B (sl A0 N0 C0) x1.rules)(p2_0:inI x2)(p3_0:inI x3.number)(p3_1:repS w0 B (sl A8 N8 C8) x3.bytes)(p3_2:repS w0 B (sl A9 N9 C9) x3.items),i_ prog 109 [(.agg #[sl A0 N0 C0]),vI x2,(.agg #[vI x3.number,sl A8 N8 C8,sl A9 N9 C9])] w0<|Q7 w0 B res
abbrev p_g (n:Nat):Prop:=l_P (f_c n).spec_l9Valid
theorem T_w0d (aH:p_g n):l_P (h_8 n<|f_c n):=by
 constructor
 intro A0 A8 A9 N0 C0 N8 C8 N9 C9 B x1 x2 x3 res w0 hm O V b6 W aw H;unfold h_8 at hm
 refine goG func109 z z z λfn hr=>Ws<|E z (fb z) ?_
 rintro _ wr ⟨rfl,hx⟩;have I:=hx.below;have hy:Blk wr w0.z [sl A0 N0 C0]:=hx.blk;refine E z (fb z) ?_;rintro _ wc ⟨rfl,hz⟩;have h4:=hz.below;have a2:Blk wc wr.z [vI x3.number,sl A8 N8 C8,sl A9 N9 C9]:=hz.blk;refine Rw z<|Ws<|Rf z a_i z ?_
 have a3:=hy.e h4;refine R z (l0 a_n z<|a3.at z)<|Rm z ?_
 obtain ⟨xd,aI,ax⟩:=bdS hm;have a4:=(I.ag B).e h4;refine RX z (at_ (α:=b_) V_ m_ z z z (V.g a4) aI) ?_;rintro _ ⟨_,_,_,rfl,aJ,aK,_⟩;obtain ⟨ae,nf,cg,ah,ni,cj,ak,nl,cm,an,no,cp,rfl,a5,a6,a7,a8,a9,aa,ab⟩:=a_F aK;refine R z (lN (vs:=vR xd ae nf cg ah ni cj ak nl cm an no cp) H_ m_ z z fid aJ)<|E z (fa b_S) ?_
 rintro _ aL ⟨rfl,ad⟩;have h1:=ad.below;refine E0 (fs0 (cur':=vR xd ae nf cg ah ni cj ak nl cm an no cp) m_ z z (ad.blk:Blk aL wc.z [(Str.v (⟨[]⟩:Str)),vI 0,vI 0,vB false,sN,sN,sN,sN]) z z z z) ?_;rintro _ _ ⟨af,aM⟩;have h2:=aM.one;refine Wn<|Wq<|Ws ?_
 have ai:=(a3.e h1).c h2<|djs<|mm1 hy.lt h4.s
 refine R z (lN (vs:=[sl A0 N0 C0]) w_ v_ z z fid<|ai.row 0 1 z)<|R z (lN (vs:=vR xd ae nf cg ah ni cj ak nl cm an no cp) H_ m_ z z fid<|af.row 0 8 z) ?_
 have ht:=(a2.e h1).c h2<|djs<|mmr a2.lt
 refine R z (lN (vs:=[vI x3.number,sl A8 N8 C8,sl A9 N9 C9]) y_ h_ z z fid<|ht.row 0 3 z) ?_;have J:=lt_ I.s h4.s;have aj:∀k∈[wc.z],¬B k:=or0 (f_ lr)<|p_<|zt' O J;have L:=(a4.e h1).c h2<|e_ aj
 have ha:=(h1.ag B).c h2<|e_ aj
 have al:=lt_ (lt_ J h1.s) h2.s;obtain ⟨_,aN,Y⟩:=bdS ax;refine E z (fc call136 z<|W_w30 aN (zt' O al) (V.g L) a5 a6 a7 (a8.g ha) (a9.g ha) (aa.g ha) (ab.g ha) W (aw.g L)<|H.g L) ?_;rintro _ wb ⟨G,rfl⟩;refine R z (not_ z)<|Wx z (λhcs=>?_) (λhcs=>?_)
 .refine Ws<|Rw z ?_
  obtain rfl:=som<|ifT Y hcs;exact Wr<|c_ hr z ⟨bup (bM (bup (bup I h4) h1) h2<|m1 J) G,z⟩
 refine Wk<|Wq<|Ws<|Rw z ?_
 obtain ⟨_,ay,a0⟩:=bdS<|ifF Y hcs;refine Wf (σ:=Unit) (ρ:=Bool) (λ(am:Nat)(_:Unit) a w=>Sat 39 [(3,pt w0.z),(5,pt wr.z),(7,pt wc.z),(8,vI ((am:Nat):Int))] a/\Below wb.z wb w) (λ(_:Unit) a w=>Sat 39 [] a/\Below wb.z wb w) (rQ prog fn<|Q7 w0 B) ay ?_ ?_ ?_ ?_ ?_
 .exact λ_ q=>⟨q.k<|s4 z z z z,br wb⟩
 .rintro am _ _ _ _ hku ⟨az,s3⟩ aA;refine Wu ?_ az;refine Wq<|Wm z<|Rf z a_y z ?_
  have ao:=(ht.e G).e s3;refine R z (l0 a_E z<|ao.at z) ?_;have ap:=(L.e G).e s3;refine R z (lnR a_N z<|H.g ap)<|Rl z z z<|Wx z (λ_=>?_) (λhc=>(Q_ hku hc).elim)
  refine Wk<|Wq<|Wb<|Wq (Wd (X:=noX) 0 (.rd 0<|.rd 1<|.rd 2<|.rd 3<|.rd 4<|.rd 6<|.rd 7<|.rd 8<|.rd 9<|.rd 10<|.ef 5<|.ef 11<|.rd 12 .done) mo (by kernel_rfl) λb7 s5 _=>dR z z (lN (vs:=[sl A0 N0 C0]) w_ v_ z z fid<|(((ai.e G).e s3).e s5).row 0 1 z)<|dR z z (lN (vs:=vR xd ae nf cg ah ni cj ak nl cm an no cp) H_ m_ z z fid<|(((af.e G).e s3).e s5).row 0 8 z)<|dR z z (fd b_u z) ?_)
  have aq:=ao.e s5;refine dR z z (l0 g_3 z<|aq.at z)<|dM z z z<|dR z z (fd a_y z)<|dR z z (l0 a_E z<|aq.at z)<|dM z z z ?_
  obtain ⟨aO,aP,aB⟩:=bdS aA;have ar:=ap.e s5;refine dRX z z (at_ (α:=Val) a_N h_ z z z (H.g ar) aP) ?_;rintro _ ⟨_,_,_,rfl,aQ,aR,_⟩;obtain ⟨aS,aT,aU,aV,aW,aX,rfl,aY,aZ,b0⟩:=i_b aR;refine dR z z (lN (vs:=[vI aO.number,sl aS aT aU,sl aV aW aX]) y_ h_ z z fid aQ) ?_;have hq:=((ha.e G).e s3).e s5;have au:=lt_ (lt_ (lt_ al G.s) s3.s) s5.s;obtain ⟨_,b1,aC⟩:=bdS aB;refine dE z z (fc call93 z<|e_g b1 (zt' O au) a5 a6 a7 (a8.g hq) (a9.g hq) (aa.g hq) (ab.g hq) W<|ic (Nat.le_of_lt hku)<|lt_ (repS.len H) B_) (.inr λ_ _ h=>C_<|h.1) ?_;rintro _ _ ⟨s6,rfl,b2⟩;obtain ⟨_,b3,a1⟩:=bdS aC;refine dE z z (fc call109 z<|aH.run b3 (zt' O<|lt_ au s6.s) (V.g<|ar.e s6) b2 aY (aZ.e s6)<|b0.e s6) (.inr λ_ _ h=>C_<|h.1) ?_;rintro _ _ ⟨av,rfl⟩;refine dR z z (not_ z)<|pD<|Wo<|Wc z (λhcv=>?_) (λhcv=>?_)
  .exact Ws<|Rw z<|Wr<|rtO<|qL (som<|ifT a1 hcv).symm<|c_ hr z ⟨bup (bup (bup (bup (bup (bM (bup (bup I h4) h1) h2<|m1 J) G) s3) s5) s6) av,z⟩
  exact Wk<|Wg<|Rm z<|R z (inc_ hku (lt_ (repS.len H) B_) z z)<|Ra z<|Wl (λ_ q=>⟨(),(som<|ifF a1 hcv).symm,⟨q.k<|s4 z z z z,bup (bup (bup s3 s5) s6) av⟩⟩)
 .rintro _ _ _ ⟨aD,sw⟩;refine Wu ?_ aD;refine Wq<|Wm z<|Rf z a_y z<|R z (l0 a_E z<|((ht.e G).e sw).at z)<|R z (lnR a_N z<|H.g<|(L.e G).e sw)<|Rl z z z<|Wx z (λhc=>(R_ hc).elim) (λ_=>?_)
  exact We<|λ_ q=>⟨rfl,⟨q.k sn,sw⟩⟩
 .rintro _ b4 _ rfl ⟨_,b5⟩;have aE:=elL a0;revert b4;refine Wo<|Ws<|Rw z ?_
  obtain rfl:=som aE;exact Wr<|c_ hr z ⟨bup (bup (bM (bup (bup I h4) h1) h2<|m1 J) G) b5,z⟩
 rintro _ _ _ _ rfl ⟨rfl,aF⟩;have aG:=elR a0;obtain rfl:=som aG;exact ⟨aF,z⟩
theorem A_w0d:∀n,p_g n
  | 0=>⟨λhm=>by intros;exact nomatch (show none=some _ from hm)⟩
  | n+1=>T_w0d<|A_w0d n
theorem W_w0d:l_P (f_c n).spec_l9Valid:=A_w0d n
theorem W_w31 {x1:d_}{x2:Int}{x3:Val}{res:Bool}(hm:h_9 n x1 x2 x3=some res)(L:B<=w0.z)(I:repS w0 B (sl A0 N0 C0) x1.rules)(J:inI x2)(Y:inI x3.number)(a0:repS w0 B (sl A8 N8 C8) x3.bytes)(a1:repS w0 B (sl A9 N9 C9) x3.items):i_ prog 56 [(.agg #[sl A0 N0 C0]),vI x2,(.agg #[vI x3.number,sl A8 N8 C8,sl A9 N9 C9])] w0 (Q7 w0 B res):=by
 unfold h_9 at hm
 refine goG func56 z z z λfn hr=>Ws<|E z (fb z) ?_
 rintro _ O ⟨rfl,V⟩;have h3:=V.below;refine E z (fb z) ?_;rintro _ H ⟨rfl,W⟩;have h1:=W.below;refine Rw z<|Wq ?_
 obtain ⟨ug,huh,hmi⟩:=bdS hm;refine Wt (λa w=>∃(x5:Bool),x5=ug/\Sat 16 [(6,vB x5)] a/\Below H.z H w) ?_ ?_
 .refine Wg ?_;have ha:=(V.blk:Blk O w0.z [sl A0 N0 C0]).e h1;refine R z (lN (vs:=[sl A0 N0 C0]) w_ v_ z z fid<|ha.row 0 1 z)<|Rm z ?_
  have hb:=(h3.ag B).e h1;have hc:=lt_ h3.s h1.s;obtain ⟨rj,ek,hmd⟩:=bdS huh;refine E z (fc call108 z<|W_w15 ek (zt' L hc) (I.g hb) J) ?_;rintro _ _ ⟨s2,rfl⟩;refine Rm z ?_
  rcases bs rj with G | G
  .refine Rh z G (lN (vs:=[sl A0 N0 C0]) w_ v_ z z fid<|(ha.e s2).row 0 1 z)<|Rh z G (mv z)<|Rh z G (lN (vs:=[vI x3.number,sl A8 N8 C8,sl A9 N9 C9]) y_ h_ z z fid<|((W.blk:Blk H O.z [vI x3.number,sl A8 N8 C8,sl A9 N9 C9]).e s2).row 0 3 z) ?_
   have h6:=hb.e s2;obtain ⟨rl,em,hmn⟩:=bdS<|ifT hmd G;refine Eg z z G z (fc call109 z<|W_w0d.run em (zt' L<|lt_ hc s2.s) (I.g h6) J Y (a0.g h6)<|a1.g h6) ?_;rintro _ _ ⟨so,rfl⟩;exact R z (pT z G z)<|Ra z<|Wl (λ_ q=>⟨rl,som hmn,q.k<|s1 z,bup s2 so⟩)
  iterate 4 refine Nh z G ?_
  exact R z (pF z G z)<|Ra z<|Wl (λ_ q=>⟨false,som<|ifF hmd G,q.k<|s1 z,s2⟩)
 rintro ap _ ⟨x5,rfl,_,sq⟩;revert ap;refine Wo ?_;obtain rfl:=som hmi;exact Wr<|c_ hr z ⟨bup (bup h3 h1) sq,z⟩
theorem W_w32 {x1:Int}{x2:Str}{x3:Str}{x4:Str}{res:Str}(hm:k_i n x1 x2 x3 x4=some res)(I:B<=w0.z)(H:inI x1)(a0:x2.b.length<=LEN)(a1:x3.b.length<=LEN)(a2:x4.b.length<=LEN):i_ prog 112 [vI x1,Str.v x2,Str.v x3,Str.v x4] w0 (Q11 w0 B res):=by
 unfold k_i at hm
 refine goG func112 z z z λfn hr=>Ws<|Rw z<|Wm z ?_
 obtain ⟨_,W,J⟩:=bdS hm;refine E z (fc call111 z<|i_k (B:=B) W I H) ?_;rintro _ _ ⟨s3,rfl,_⟩;refine Rm z ?_;obtain ⟨_,Y,L⟩:=bdS J;refine R z (a_q z z Y)<|Rm z ?_
 obtain ⟨_,e6,O⟩:=bdS L;refine R z (a_q z z e6)<|Rm z ?_
 obtain ⟨_,G,V⟩:=bdS O;refine R z (a_q z z G)<|Rw z ?_
 obtain rfl:=som V;exact Wr<|c_ hr z ⟨s3,z,b_2 G⟩
theorem W_w33 {x1:Bt}{res:Str}(hm:i_m x1=some res)(O:B<=w0.z)(G:repS w0 B (sl A0 N0 C0) x1):i_ prog 113 [sl A0 N0 C0] w0 (Q11 w0 B res):=by
 unfold i_m at hm
 refine goG func113 z z z λfn hr=>Ws<|Rw z<|Ws<|Rw z<|Ws<|Rw z<|Wq<|Ws<|Rw z ?_
 obtain ⟨_,L,H⟩:=bdS hm;refine Wf (σ:=Str) (ρ:=Str) (λ(k4:Nat)(x0:Str) a w=>Sat 40 [(0,sl A0 N0 C0),(3,Str.v (⟨[48,49,50,51,52,53,54,55,56,57,97,98,99,100,101,102]⟩:Str)),(4,Str.v x0),(5,vI ((k4:Nat):Int))] a/\Below w0.z w0 w/\x0.b.length<=LEN) (λ(x0:Str) a w=>Sat 40 [(4,Str.v x0)] a/\Below w0.z w0 w/\x0.b.length<=LEN) (rQ prog fn<|Q11 w0 B) L ?_ ?_ ?_ ?_ ?_
 .exact λ_ q=>⟨q.k<|s4 z z z z,br w0,lb z⟩
 .rintro k4 x0 _ _ _ I ⟨hSa,s6,h1⟩ hmb;refine Wu ?_ hSa;refine Wq<|Wm z<|Rm z ?_
  have h2:=G.e s6;refine R z (lnR o_ z h2)<|Rl z z z<|Wx z (λ_=>?_) (λhc=>(Q_ I hc).elim)
  refine Wk<|Wq<|Wb<|Wm z<|Rm z ?_
  obtain ⟨_,ec,hmd⟩:=bdS hmb;refine RX z (at_ (α:=UInt8) o_ z_5 z z z h2 ec) ?_;rintro _ ⟨_,_,_,rfl,he,hf,_⟩;obtain rfl:=u8 hf;refine R z (l0 g_5 z<|he.at0 z)<|R z (c_h d_5 d_3 z)<|R z (k_E z z (by decide))<|Rw z<|Wm z<|Rm z ?_
  obtain ⟨_,eg,hmh⟩:=bdS hmd;refine RX z (at_ (α:=UInt8) o_ z_5 z z z h2 eg) ?_;rintro _ ⟨_,_,_,rfl,hi,hj,_⟩;obtain rfl:=u8 hj;refine R z (l0 g_5 z<|hi.at0 z)<|R z (c_h d_5 d_3 z)<|R z (f_N z z (by decide))<|Ra z<|Wn (Wd (X:=noX) 0 (pl_ 14 []) mo (by kernel_rfl) λV sk _=>?_)
  iterate 4 refine dM z z z ?_
  refine dR z z (add_ z z) ?_;obtain ⟨_,el,hmm⟩:=bdS hmh;refine dR z z (g_N d_9 z z z (lb z) el) ?_;obtain ⟨_,en,hmo⟩:=bdS hmm;refine dR z z (a_q z z en) ?_
  iterate 3 refine dM z z z ?_
  refine dR z z (add_ z z) ?_;obtain ⟨_,ep,hmq⟩:=bdS hmo;refine dR z z (g_N d_9 z z z (lb z) ep) ?_;obtain ⟨xr,J,hms⟩:=bdS hmq;exact dR z z (a_q z z J)<|dQ z z z<|pD<|Wo<|Wg<|Rm z<|R z (inc_ I (lt_ (repS.len G) B_) z z)<|Ra z<|Wl (λ_ q=>⟨xr,(som hms).symm,⟨q.k<|s4 z z z z,bup s6 sk,b_2 J⟩⟩)
 .rintro x0 _ _ ⟨hSt,s8,h1⟩;refine Wu ?_ hSt;refine Wq<|Wm z<|Rm z<|R z (lnR o_ z<|G.e s8)<|Rl z z z<|Wx z (λhc=>(R_ hc).elim) (λ_=>?_)
  exact We<|λ_ q=>⟨rfl,⟨q.k<|s1 z,s8,h1⟩⟩
 .rintro x0 au _ rfl ⟨_,sv,h1⟩;have hmw:=elL H;revert au;refine Wo<|Wm z<|Rw z ?_
  obtain rfl:=som hmw;exact Wr<|c_ hr z ⟨sv,z,h1⟩
 rintro _ _ _ _ rfl ⟨rfl,hqx⟩;have hmy:=elR H;obtain rfl:=som hmy;exact ⟨hqx,z⟩
structure l_Q (f:d_->Int->Val->Option Str):Prop where
  run:∀{A0 A8 A9:Option Addr}{N0 C0 N8 C8 N9 C9:Nat}{B:Zone}{x1:d_}{x2:Int}{x3:Val}{res:Str}{w0:World}(hm:f x1 x2 x3=some res)(hBw:B<=w0.z)(p1_0:repS w0 B (sl A0 N0 C0) x1.rules)(p2_0:inI x2)(p3_0:inI x3.number)(p3_1:repS w0 B (sl A8 N8 C8) x3.bytes)(p3_2:repS w0 B (sl A9 N9 C9) x3.items),i_ prog 57 [(.agg #[sl A0 N0 C0]),vI x2,(.agg #[vI x3.number,sl A8 N8 C8,sl A9 N9 C9])] w0<|Q11 w0 B res
structure l_R (f:d_->b_->Val->Option Str):Prop where
  run:∀{A0 A2 A3 A1 A4 A8 A9:Option Addr}{N0 C0 N2 C2 N3 C3 N1 C1 N4 C4 N8 C8 N9 C9:Nat}{B:Zone}{x1:d_}{x2:b_}{x3:Val}{res:Str}{w0:World}(hm:f x1 x2 x3=some res)(hBw:B<=w0.z)(p1_0:repS w0 B (sl A0 N0 C0) x1.rules)(p2_0:x2.name.b.length<=LEN)(p2_1:inI x2.kind)(p2_2:inI x2.size)(p2_4:repS w0 B (sl A2 N2 C2) x2.bytes)(p2_5:repS w0 B (sl A3 N3 C3) x2.names)(p2_6:repS w0 B (sl A1 N1 C1) x2.tags)(p2_7:repS w0 B (sl A4 N4 C4) x2.kids)(p3_0:inI x3.number)(p3_1:repS w0 B (sl A8 N8 C8) x3.bytes)(p3_2:repS w0 B (sl A9 N9 C9) x3.items),i_ prog 110 [(.agg #[sl A0 N0 C0]),.agg #[Str.v x2.name,vI x2.kind,vI x2.size,vB x2.little,sl A2 N2 C2,sl A3 N3 C3,sl A1 N1 C1,sl A4 N4 C4],(.agg #[vI x3.number,sl A8 N8 C8,sl A9 N9 C9])] w0<|Q11 w0 B res
abbrev l_S (n:Nat):Prop:=l_Q (b_o n).spec_l10Text/\l_R (b_o n).spec_l10List
theorem T_w08 (ih:l_S n):l_Q (b_0 n<|b_o n):=by
 obtain ⟨_,aC⟩:=ih
 constructor
 intro A0 A8 A9 N0 C0 N8 C8 N9 C9 B x1 x2 x3 res w0 hm H V b2 O W Y;unfold b_0 at hm
 refine goG func57 z z z λfn hr=>Ws<|E z (fb z) ?_
 rintro _ ww ⟨rfl,hx⟩;have h4:=hx.below;have hy:Blk ww w0.z [sl A0 N0 C0]:=hx.blk;refine E z (fb z) ?_;rintro _ wa ⟨rfl,hz⟩;have h3:=hz.below;have a8:Blk wa ww.z [vI x3.number,sl A8 N8 C8,sl A9 N9 C9]:=hz.blk;refine Rw z<|Ws<|Rf z a_i z ?_
 have a9:=hy.e h3;refine R z (l0 a_n z<|a9.at z)<|Rm z ?_
 obtain ⟨xb,aD,ao⟩:=bdS hm;have aa:=(h4.ag B).e h3;refine RX z (at_ (α:=b_) V_ m_ z z z (V.g aa) aD) ?_;rintro _ ⟨_,_,_,rfl,aE,aF,_⟩;obtain ⟨ac,nd,ce,af,ng,ch,ai,nj,ck,al,nm,cn,rfl,aG,aH,aI,aJ,aK,aL,aM⟩:=a_F aF;refine R z (lN (vs:=vR xb ac nd ce af ng ch ai nj ck al nm cn) H_ m_ z z fid aE)<|E z (fa b_S) ?_
 rintro _ aN ⟨rfl,ab⟩;have h1:=ab.below;refine E0 (fs0 (cur':=vR xb ac nd ce af ng ch ai nj ck al nm cn) m_ z z (ab.blk:Blk aN wa.z [(Str.v (⟨[]⟩:Str)),vI 0,vI 0,vB false,sN,sN,sN,sN]) z z z z) ?_;rintro _ _ ⟨ad,aO⟩;have h2:=aO.one;refine Wn<|Ws<|R z (lN (vs:=[sl A0 N0 C0]) w_ v_ z z fid<|((a9.e h1).c h2<|djs<|mm1 hy.lt h3.s).row 0 1 z)<|R z (lN (vs:=vR xb ac nd ce af ng ch ai nj ck al nm cn) H_ m_ z z fid<|ad.row 0 8 z) ?_
 have h6:=(a8.e h1).c h2<|djs<|mmr a8.lt
 refine R z (lN (vs:=[vI x3.number,sl A8 N8 C8,sl A9 N9 C9]) y_ h_ z z fid<|h6.row 0 3 z) ?_;have h5:=lt_ h4.s h3.s;have ae:∀k∈[wa.z],¬B k:=or0 (f_ lr)<|p_<|zt' H h5;have I:=(aa.e h1).c h2<|e_ ae
 have J:=(h1.ag B).c h2<|e_ ae
 have L:=lt_ (lt_ h5 h1.s) h2.s;obtain ⟨_,aP,a0⟩:=bdS ao;refine E z (fc call110 z<|aC.run aP (zt' H L) (V.g I) aG aH aI (aJ.g J) (aK.g J) (aL.g J) (aM.g J) O (W.g I)<|Y.g I) ?_;rintro _ _ ⟨G,rfl,aQ⟩;refine Rw z<|Wq<|Ws<|Rf z a_o z<|R z (l0 g_3 z<|(ad.e G).at z)<|Wn<|Wb<|Ws<|Rq z z z<|Rw z<|Wc z (λhco=>?_) (λhco=>?_)
 .refine Ws<|Rf z b_u z<|R z (l0 g_3 z<|(h6.e G).at z) ?_
  obtain ⟨_,aR,ap⟩:=bdS<|ifT a0 hco;refine E z (fc call111 z<|i_k aR (zt' H<|lt_ L G.s) O) ?_;rintro _ _ ⟨aS,rfl,aT⟩;refine Rw z ?_
  obtain rfl:=som ap;exact Wr<|rtO<|c_ hr z ⟨bup (bup (bM (bup (bup h4 h3) h1) h2<|m1 h5) G) aS,z,aT⟩
 have a1:=ifF a0 hco;refine Ws<|Rq z z z<|Rw z<|Wc z (λhcp=>?_) (λhcp=>?_)
 .refine Ws<|Rw z ?_
  obtain rfl:=som<|ifT a1 hcp;exact Wr<|rtO<|c_ hr z ⟨bup (bM (bup (bup h4 h3) h1) h2<|m1 h5) G,z,lb z⟩
 have a2:=ifF a1 hcp;refine Ws<|Rq z z z<|Rw z<|Wc z (λhcq=>?_) (λhcq=>?_)
 .refine Wm z ?_
  obtain ⟨_,aU,aq⟩:=bdS<|ifT a2 hcq;refine R z (a_q z z aU) ?_;obtain ⟨_,ah,ar⟩:=bdS aq;refine R z (a_q z z ah)<|Rw z ?_
  obtain rfl:=som ar;exact Wr<|rtO<|c_ hr z ⟨bup (bM (bup (bup h4 h3) h1) h2<|m1 h5) G,z,b_2 ah⟩
 have a3:=ifF a2 hcq;refine Ws<|Rq z z z<|Rw z<|Wc z (λhcr=>?_) (λhcr=>?_)
 .refine Wm z ?_
  obtain ⟨_,aV,au⟩:=bdS<|ifT a3 hcr;refine R z (a_q z z aV) ?_;obtain ⟨_,aj,av⟩:=bdS au;refine R z (a_q z z aj)<|Rw z ?_
  obtain rfl:=som av;exact Wr<|rtO<|c_ hr z ⟨bup (bM (bup (bup h4 h3) h1) h2<|m1 h5) G,z,b_2 aj⟩
 have a4:=ifF a3 hcr;refine Ws<|Rq z z z<|Rw z<|Wc z (λhcs=>?_) (λhcs=>?_)
 .refine Ws<|Rf z b_u z<|R z (l0 g_3 z<|(h6.e G).at z)<|Rm z ?_
  obtain ⟨_,aW,aw⟩:=bdS<|ifT a4 hcs;refine E z (fc call112 z<|W_w32 aW (zt' H<|lt_ L G.s) O (lb z) aQ<|lb z) ?_;rintro _ _ ⟨aX,rfl,aY⟩;refine Rw z ?_
  obtain rfl:=som aw;exact Wr<|rtO<|c_ hr z ⟨bup (bup (bM (bup (bup h4 h3) h1) h2<|m1 h5) G) aX,z,aY⟩
 have a5:=ifF a4 hcs;refine Ws<|Rq z z z<|Rw z<|Wc z (λhct=>?_) (λhct=>?_)
 .have a6:=ifT a5 hct;refine Wq<|Ws<|Rf z a_y z<|R z (l0 a_E z<|(h6.e G).at z)<|R z (lnR a_N z<|Y.g<|I.e G)<|Rq z z z<|Wx z (λhcu=>?_) (λhcu=>?_)
  .refine Ws<|Rw z ?_
   obtain rfl:=som<|ifT a6 hcu;exact Wr<|rtO<|c_ hr z ⟨bup (bM (bup (bup h4 h3) h1) h2<|m1 h5) G,z,lb z⟩
  refine Wk<|Wm z ?_
  obtain ⟨_,ak,ax⟩:=bdS<|ifF a6 hcu;refine R z (a_q z z ak)<|Rw z ?_
  obtain rfl:=som ax;exact Wr<|rtO<|c_ hr z ⟨bup (bM (bup (bup h4 h3) h1) h2<|m1 h5) G,z,b_2 ak⟩
 have a7:=ifF a5 hct;refine Ws<|Rq z z z<|Rw z<|Wc z (λhcv=>?_) (λhcv=>?_)
 .refine Wm z ?_
  obtain ⟨_,aZ,ay⟩:=bdS<|ifT a7 hcv;refine R z (a_q z z aZ) ?_;obtain ⟨_,am,az⟩:=bdS ay;refine R z (a_q z z am)<|Rw z ?_
  obtain rfl:=som az;exact Wr<|rtO<|c_ hr z ⟨bup (bM (bup (bup h4 h3) h1) h2<|m1 h5) G,z,b_2 am⟩
 refine Wk<|Ws<|Rf z c_u z<|R z (l0 X_ z<|(h6.e G).at z) ?_
 obtain ⟨_,b0,aA⟩:=bdS<|ifF a7 hcv;refine E z (fc call113 z<|W_w33 b0 (zt' H<|lt_ L G.s)<|W.g<|I.e G) ?_;rintro _ _ ⟨b1,rfl,_⟩;obtain ⟨_,an,aB⟩:=bdS aA;refine R z (a_q z z an)<|Rw z ?_
 obtain rfl:=som aB;exact Wr<|c_ hr z ⟨bup (bup (bM (bup (bup h4 h3) h1) h2<|m1 h5) G) b1,z,b_2 an⟩
theorem T_w1i (ih:l_S n):l_R (i_n n<|b_o n):=by
 obtain ⟨aq,_⟩:=ih
 constructor
 intro A0 A2 A3 A1 A4 A8 A9 N0 C0 N2 C2 N3 C3 N1 C1 N4 C4 N8 C8 N9 C9 B x1 x2 x3 res w0 hm O Y a0 a1 a2 a3 L a4 a5 a6 aY H;unfold i_n at hm
 refine goG func110 z z z λfn hr=>Ws<|E z (fb z) ?_
 rintro _ I ⟨rfl,hp⟩;have he:=hp.below;refine E z (fb z) ?_;rintro _ J ⟨rfl,hq⟩;have ha:=hq.below;refine E z (fb z) ?_;rintro _ G ⟨rfl,ht⟩;have h3:=ht.below;have hu:Blk G J.z [vI x3.number,sl A8 N8 C8,sl A9 N9 C9]:=ht.blk;refine Rw z<|Ws<|Rw z<|Wq<|Ws<|Rw z ?_
 obtain ⟨_,a7,hmr⟩:=bdS hm;refine Wf (σ:=Str) (ρ:=Str) (λ(kf:Nat)(x0:Str) a w=>Sat 46 [(3,pt w0.z),(4,pt I.z),(5,pt J.z),(7,Str.v x0),(8,vI ((kf:Nat):Int))] a/\Below G.z G w/\x0.b.length<=LEN) (λ(x0:Str) a w=>Sat 46 [(7,Str.v x0)] a/\Below G.z G w/\x0.b.length<=LEN) (rQ prog fn<|Q11 w0 B) a7 ?_ ?_ ?_ ?_ ?_
 .exact λ_ q=>⟨q.k<|s5 z z z z z,br G,lb z⟩
 .rintro kf x0 _ wg _ hkj ⟨a8,s4,hb⟩ a9;refine Wu ?_ a8;refine Wq<|Wm z<|Rf z a_y z ?_
  have hv:=hu.e s4;refine R z (l0 a_E z<|hv.at z) ?_;have hk:=(((he.ag B).e ha).e h3).e s4;refine R z (lnR a_N z<|H.g hk)<|Rl z z z<|Wx z (λ_=>?_) (λhc=>(Q_ hkj hc).elim)
  refine Wk<|Wq<|Wb<|Wq<|Wm z<|R z (a_b z z)<|Wn ?_
  obtain ⟨ar,hus,aa⟩:=bdS a9;refine Wt (λa w=>∃(xc:Str),xc=ar/\Sat 46 [(3,pt w0.z),(4,pt I.z),(5,pt J.z),(7,Str.v xc),(8,vI ((kf:Nat):Int))] a/\Below wg.z wg w/\xc.b.length<=LEN) ?_ ?_
  .refine Wc z (λhcl=>?_)<|λhcl=>?_
   .refine Wg<|Rm z ?_
    obtain ⟨au,ew,ab⟩:=bdS<|ifT hus hcl;exact R z (a_q z z ew)<|Ra z<|Wl (λ_ q=>⟨au,som ab,q.k<|s5 z z z z z,br wg,b_2 ew⟩)
   exact a_5<|λ_ q=>⟨x0,som<|ifF hus hcl,q.k<|s5 z z z z z,br wg,hb⟩
  rintro av wh ⟨xc,rfl,_,s2,aw⟩;revert av;refine Wo<|Wq<|Ws<|Rf z a_o z ?_
  have hn:=(((hq.blk:Blk J I.z (vR x2 A2 N2 C2 A3 N3 C3 A1 N1 C1 A4 N4 C4)).e h3).e s4).e s2;refine R z (l0 g_3 z<|hn.at z)<|Rq z z z<|Wn ?_
  obtain ⟨ax,hux,ad⟩:=bdS aa;refine Wt (λa w=>∃(xi:Str),xi=ax/\Sat 46 [(3,pt w0.z),(4,pt I.z),(5,pt J.z),(7,Str.v xi),(8,vI ((kf:Nat):Int))] a/\Below wh.z wh w/\xi.b.length<=LEN) ?_ ?_
  .refine Wc z (λhcm=>?_)<|λhcm=>?_
   .refine Wg<|Rm z<|Rf z b_R z<|R z (l0 a_t z<|hn.at z)<|Rm z ?_
    obtain ⟨_,ay,ae⟩:=bdS<|ifT hux hcm;refine RX z (at_ (α:=Str) D_ z_9 z z z (L.g<|hk.e s2) ay) ?_;rintro _ ⟨_,_,_,rfl,az,aA,_⟩;obtain ⟨rfl,_⟩:=a_h aA;refine R z (l0 g_9 z<|az.at0 z) ?_;obtain ⟨_,aB,af⟩:=bdS ae;refine R z (a_q z z aB) ?_;obtain ⟨aC,ey,ah⟩:=bdS af;exact R z (a_q z z ey)<|Ra z<|Wl (λ_ q=>⟨aC,som ah,q.k<|s5 z z z z z,br wh,b_2 ey⟩)
   exact a_5<|λ_ q=>⟨xc,som<|ifF hux hcm,q.k<|s5 z z z z z,br wh,aw⟩
  rintro aD _ ⟨xi,rfl,_,s6,_⟩;revert aD;refine Wo (Wd (X:=noX) 0 (.rd 0<|.rd 1<|.rd 2<|.rd 3<|.rd 4<|.rd 5<|.rd 7<|.rd 8<|.rd 9<|.rd 10<|.rd 11<|.ef 6<|.ef 12<|.rd 13<|.rd 14 .done) mo (by kernel_rfl) λaZ s7 _=>dM z z z<|dR z z (lN (vs:=[sl A0 N0 C0]) w_ v_ z z fid<|(((((((hp.blk:Blk I w0.z [sl A0 N0 C0]).e ha).e h3).e s4).e s2).e s6).e s7).row 0 1 z)<|dR z z (lN (vs:=vR x2 A2 N2 C2 A3 N3 C3 A1 N1 C1 A4 N4 C4) H_ m_ z z fid<|((hn.e s6).e s7).row 0 8 z)<|dR z z (fd b_u z) ?_);have hz:=((hv.e s2).e s6).e s7;refine dR z z (l0 g_3 z<|hz.at z)<|dM z z z<|dR z z (fd a_y z)<|dR z z (l0 a_E z<|hz.at z)<|dM z z z ?_
  obtain ⟨aE,aF,ai⟩:=bdS ad;have h5:=((hk.e s2).e s6).e s7;refine dRX z z (at_ (α:=Val) a_N h_ z z z (H.g h5) aF) ?_;rintro _ ⟨_,_,_,rfl,aG,aH,_⟩;obtain ⟨aI,aJ,aK,aL,aM,aN,rfl,aO,aP,aQ⟩:=i_b aH;refine dR z z (lN (vs:=[vI aE.number,sl aI aJ aK,sl aL aM aN]) y_ h_ z z fid aG) ?_;have V:=lt_ (lt_ (lt_ (lt_ (lt_ (lt_ he.s ha.s) h3.s) s4.s) s2.s) s6.s) s7.s;obtain ⟨_,aR,aj⟩:=bdS ai;refine dE z z (fc call93 z<|e_g aR (zt' O V) a0 a1 a2 (a3.g h5) (L.g h5) (a4.g h5) (a5.g h5) a6<|ic (Nat.le_of_lt hkj)<|lt_ (repS.len H) B_) (.inr λ_ _ h=>C_<|h.1) ?_;rintro _ _ ⟨sd,rfl,aS⟩;obtain ⟨_,aT,ak⟩:=bdS aj;refine dE z z (fc call57 z<|aq.run aT (zt' O<|lt_ V sd.s) (Y.g<|h5.e sd) aS aO (aP.e sd)<|aQ.e sd) (.inr λ_ _ h=>C_<|h.1) ?_;rintro _ _ ⟨aU,rfl,_⟩;obtain ⟨aV,W,al⟩:=bdS ak;exact dR z z (a_q z z W)<|dQ z z z<|pD<|Wo<|Wg<|Rm z<|R z (inc_ hkj (lt_ (repS.len H) B_) z z)<|Ra z<|Wl (λ_ q=>⟨aV,(som al).symm,⟨q.k<|s5 z z z z z,bup (bup (bup (bup (bup s4 s2) s6) s7) sd) aU,b_2 W⟩⟩)
 .rintro x0 _ _ ⟨am,so,hb⟩;refine Wu ?_ am;refine Wq<|Wm z<|Rf z a_y z<|R z (l0 a_E z<|(hu.e so).at z)<|R z (lnR a_N z<|H.g<|(((he.ag B).e ha).e h3).e so)<|Rl z z z<|Wx z (λhc=>(R_ hc).elim) (λ_=>?_)
  exact We<|λ_ q=>⟨rfl,⟨q.k<|s1 z,so,hb⟩⟩
 .rintro x0 aW _ rfl ⟨_,aX,hb⟩;have an:=elL hmr;revert aW;refine Wo<|Wm z<|Rw z ?_
  obtain rfl:=som an;exact Wr<|c_ hr z ⟨bup (bup (bup he ha) h3) aX,z,hb⟩
 rintro _ _ _ _ rfl ⟨rfl,ao⟩;have ap:=elR hmr;obtain rfl:=som ap;exact ⟨ao,z⟩
theorem k_a:∀n,l_S n
  | 0=>⟨⟨λhm=>by intros;exact nomatch (show none=some _ from hm)⟩,⟨λhm=>by intros;exact nomatch (show none=some _ from hm)⟩⟩
  | n+1=>⟨T_w08<|k_a n,T_w1i<|k_a n⟩
theorem W_w08:l_Q (b_o n).spec_l10Text:=(k_a n).1
theorem W_w1i:l_R (b_o n).spec_l10List:=(k_a n).2
theorem W_w34 {x1:d_}{x2:Int}{x3:Val}{res:Str}(hm:g_B n x1 x2 x3=some res)(W:B<=w0.z)(I:repS w0 B (sl A0 N0 C0) x1.rules)(J:inI x2)(L:inI x3.number)(O:repS w0 B (sl A8 N8 C8) x3.bytes)(V:repS w0 B (sl A9 N9 C9) x3.items):i_ prog 31 [(.agg #[sl A0 N0 C0]),vI x2,(.agg #[vI x3.number,sl A8 N8 C8,sl A9 N9 C9])] w0 (Q11 w0 B res):=by
 unfold g_B at hm
 refine goG func31 z z z λfn hr=>Ws<|E z (fb z) ?_
 rintro _ Y ⟨rfl,h7⟩;have h2:=h7.below;refine E z (fb z) ?_;rintro _ we ⟨rfl,h8⟩;have h1:=h8.below;have h9:Blk we Y.z [vI x3.number,sl A8 N8 C8,sl A9 N9 C9]:=h8.blk;refine Rw z<|Wq<|Ws ?_
 have ha:=(h7.blk:Blk Y w0.z [sl A0 N0 C0]).e h1;refine R z (lN (vs:=[sl A0 N0 C0]) w_ v_ z z fid<|ha.row 0 1 z)<|Rm z<|R z (lN (vs:=[vI x3.number,sl A8 N8 C8,sl A9 N9 C9]) y_ h_ z z fid<|h9.row 0 3 z) ?_
 have h3:=(h2.ag B).e h1;have hb:=lt_ h2.s h1.s;obtain ⟨_,ef,hmc⟩:=bdS hm;refine E z (fc call56 z<|W_w31 ef (zt' W hb) (I.g h3) J L (O.g h3)<|V.g h3) ?_;rintro _ _ ⟨G,rfl⟩;refine R z (not_ z)<|Wx z (λH=>?_) (λH=>?_)
 .refine Ws<|Rw z ?_
  obtain rfl:=som<|ifT hmc H;exact Wr<|c_ hr z ⟨bup (bup h2 h1) G,z,lb z⟩
 refine Wk<|Ws<|R z (lN (vs:=[sl A0 N0 C0]) w_ v_ z z fid<|(ha.e G).row 0 1 z)<|Rm z<|R z (lN (vs:=[vI x3.number,sl A8 N8 C8,sl A9 N9 C9]) y_ h_ z z fid<|(h9.e G).row 0 3 z) ?_
 have h5:=h3.e G;obtain ⟨_,eg,hmh⟩:=bdS<|ifF hmc H;refine E z (fc call57 z<|W_w08.run eg (zt' W<|lt_ hb G.s) (I.g h5) J L (O.g h5)<|V.g h5) ?_;rintro _ _ ⟨si,rfl,hj⟩;refine Rw z ?_
 obtain rfl:=som hmh;exact Wr<|c_ hr z ⟨bup (bup (bup h2 h1) G) si,z,hj⟩
theorem W_w35 {x1:d_}{x2:Bt}{x3:Str}{res:Str}(hm:e_X n x1 x2 x3=some res)(H:B<=w0.z)(L:repS w0 B (sl A0 N0 C0) x1.rules)(V:repS w0 B (sl A5 N5 C5) x2)(W:x3.b.length<=LEN):i_ prog 18 [(.agg #[sl A0 N0 C0]),sl A5 N5 C5,Str.v x3] w0 (Q11 w0 B res):=by
 unfold e_X at hm
 refine goG func18 z z z λfn hr=>Ws<|E z (fb z) ?_
 rintro _ ww ⟨rfl,hf⟩;have G:=hf.below;have I:Blk ww w0.z [sl A0 N0 C0]:=hf.blk;refine Rw z<|Ws<|R z (lN (vs:=[sl A0 N0 C0]) w_ v_ z z fid<|I.row 0 1 z)<|RM z z ?_
 obtain ⟨J,_,ex,hmg⟩:=a_8 hm;refine E z (fc call29 z<|W_w1g ex (zt' H G.s) (L.e G) (V.e G) W) ?_;rintro _ wh ⟨s1,rfl,_,hy,_,_⟩;refine Rm z<|Re z z z<|Re z z z<|E z (fa i_f) ?_
 rintro _ wz ⟨rfl,hi⟩;have h6:=hi.below;have hj:Blk wz wh.z [(Str.v (⟨[]⟩:Str)),vI 0,vI 0,vI 0]:=hi.blk;refine E0 (fs0 (cur':=[Str.v J.path,vI J.rule,vI J.start,vI J.end_]) b_6 z z hj z z z z) ?_;rintro _ _ ⟨a1,a2⟩;have h2:=a2.one;refine Rw z<|Wq<|Wm z<|R z (not_ z)<|Wx z (λO=>?_) (λO=>?_)
 .refine Ws<|Rw z ?_
  obtain rfl:=som<|ifT hmg O;exact Wr<|c_ hr z ⟨bM (bup (bup G s1) h6) h2<|m1<|lt_ G.s s1.s,z,lb z⟩
 refine Wk<|Ws ?_
 have hk:=((I.e s1).e h6).c h2<|djs<|mm1 I.lt s1.s
 refine R z (lN (vs:=[sl A0 N0 C0]) w_ v_ z z fid<|hk.row 0 1 z)<|RM z z ?_
 have ha:=lt_ G.s s1.s;have hb:=(((G.ag B).e s1).e h6).c h2<|e_ (or0 (f_ lr) (p_<|zt' H ha):∀k∈[wh.z],¬B k)
 have hl:=lt_ (lt_ ha h6.s) h2.s;obtain ⟨rm,_,a3,Y⟩:=a_8<|ifF hmg O;refine E z (fc call30 z<|W_w2z a3 (zt' H hl) (L.g hb) (V.g hb) W) ?_;rintro _ wc ⟨s3,an,no,cp,_,aq,nr,cs,_,rfl,a4,hd,he,_,_⟩;refine Rm z<|Re z z z<|Re z z z<|E z (fa a_f) ?_
 rintro _ a5 ⟨rfl,ht⟩;have h4:=ht.below;refine E0 (fs0 (cur':=[vI rm.number,sl an no cp,sl aq nr cs]) h_ z z (ht.blk:Blk a5 wc.z [vI 0,sN,sN]) z z z z) ?_;rintro _ _ ⟨a6,a7⟩;have h5:=a7.one;refine Rw z<|Ws<|R z (lN (vs:=[sl A0 N0 C0]) w_ v_ z z fid<|(((hk.e s3).e h4).c h5<|djs<|mm1 I.lt<|lt_ (lt_ (lt_ s1.s h6.s) h2.s) s3.s).row 0 1 z)<|Rf z k_4 z<|R z (l0 g_3 z<|(((a1.e s3).e h4).c h5<|djs<|mm1 hj.lt<|lt_ h2.s s3.s).at z)<|R z (lN (vs:=[vI rm.number,sl an no cp,sl aq nr cs]) y_ h_ z z fid<|a6.row 0 3 z) ?_
 have hu:=lt_ hl s3.s;have hv:=zt' H hu;obtain ⟨_,a8,a0⟩:=bdS Y;refine E z (fc call31 z<|W_w34 (B:=wc.z) a8 (Y_<|lt_ h4.s h5.s) (repS.mono (L.g<|((hb.e s3).e h4).c h5<|e_ (or0 (f_ lr) (p_ hv):∀k∈[wc.z],¬B k)) hv) hy a4 (or_ ((hd.e h4).c h5<|ds<|mnr<|a_.lt hd)<|a_.lt hd)<|or_ ((he.e h4).c h5<|ds<|mnr<|a_.lt he)<|a_.lt he) ?_;rintro _ _ ⟨a9,rfl,aa⟩;refine Rw z ?_
 obtain rfl:=som a0;exact Wr<|c_ hr z ⟨bup (bM (bup (bup (bM (bup (bup G s1) h6) h2<|m1 ha) s3) h4) h5<|m1 hu) a9,z,aa⟩
theorem W_w36 {x1:d_}{x2:Bt}{x3:Str}{x4:Str}{res:(List Str)}(hm:h_a n x1 x2 x3 x4=some res)(a0:B<=w0.z)(a1:repS w0 B (sl A0 N0 C0) x1.rules)(a2:repS w0 B (sl A5 N5 C5) x2)(aj:x3.b.length<=LEN)(ba:x4.b.length<=LEN):i_ prog 5 [(.agg #[sl A0 N0 C0]),sl A5 N5 C5,Str.v x3,Str.v x4] w0 (Q2 w0 B res):=by
 unfold h_a at hm
 refine goG func5 z z z λfn hr=>Ws<|E z (fb z) ?_
 rintro _ H ⟨rfl,hv⟩;have hf:=hv.below;have hw:Blk H w0.z [sl A0 N0 C0]:=hv.blk;refine Rw z<|Ws<|E z (f0 (α:=Str) a_w) ?_
 rintro _ _ ⟨aB,aC,aD,rfl,si,hn⟩;refine Rw z<|Ws ?_
 have hx:=hw.e si;refine R z (lN (vs:=[sl A0 N0 C0]) w_ v_ z z fid<|hx.row 0 1 z)<|RM z z ?_
 have ho:=(hf.ag B).e si;have hp:=lt_ hf.s si.s;obtain ⟨_,aE,al⟩:=bdS hm;refine E z (fc call17 z<|W_w2w aE (zt' a0 hp) (a1.g ho) (a2.g ho) aj) ?_;rintro _ I ⟨sa,ay,ns,cz,_,rfl,W,_,a7⟩;refine Rw z<|Wq<|Ws<|Rw z ?_
 obtain ⟨_,am,a4⟩:=bdS al;refine Wf (σ:=List Str) (ρ:=List Str) (λ(kq:Nat)(Y:List Str) a w=>∃J L O G,Sat 42 [(1,sl A5 N5 C5),(3,Str.v x4),(4,pt w0.z),(9,sl J L O),(10,sl ay ns cz),(11,vI ((kq:Nat):Int))] a/\Cg [H.z] I w/\a_ w G (sl J L O) Y/\G.Nodup/\(∀k∈G,k∈[H.z]∨I.z<=k)) (λ(Y:List Str) a w=>∃J L O G,Sat 42 [(9,sl J L O)] a/\Cg [H.z] I w/\a_ w G (sl J L O) Y/\G.Nodup/\(∀k∈G,k∈[H.z]∨I.z<=k)) (rQ prog fn<|Q2 w0 B) am ?_ ?_ ?_ ?_ ?_
 .exact λ_ q=>⟨aB,aC,aD,[H.z],q.k<|s6 z z z z z z,cr [H.z] I,hn.e sa,a_I,io sr⟩
 .rintro kq Y _ aF _ a5 ⟨J,L,O,G,an,sb,hd,he,hg⟩ ao;refine Wu ?_ an;refine Wq<|Wm z<|Rm z ?_
  have a8:=W.c sb<|a_M a7 (a_.lt hn) lr
  refine R z (lnR c_v z<|or_ a8<|a_.lt W)<|Rl z z z<|Wx z (λ_=>?_) (λhc=>(Q_ a5 hc).elim)
  refine Wk<|Wq<|Wb<|Wq (Wd (X:=noX) 0 (.rd 0<|.rd 1<|.rd 2<|.rd 3<|.rd 4<|.rd 5<|.rd 6<|.rd 8<|.ef 7<|.rd 9 .done) mo (by kernel_rfl) λaG s7 _=>dR z z (lN (vs:=[sl A0 N0 C0]) w_ v_ z z fid<|(((hx.e sa).c sb<|djs<|mmr hw.lt).e s7).row 0 1 z) ?_)
  iterate 3 refine dM z z z ?_
  obtain ⟨_,aH,ap⟩:=bdS ao;have a9:=a8.e s7;refine dRX z z (at_ (α:=k_) c_v b_6 z z z (or_ a9<|a_.lt W) aH) ?_;rintro _ ⟨_,_,_,rfl,aI,aJ,_⟩;obtain ⟨rfl,aK,_,_,_⟩:=f_x aJ;refine dR z z (fd i_e z)<|dR z z (l0 g_9 z<|aI.at (j:=0) z)<|dM z z z ?_
  have aa:=((ho.e sa).c sb<|e_ (or0 (f_ lr) (p_<|zt' a0 hf.s):∀k∈[H.z],¬B k)).e s7;obtain ⟨_,aL,aq⟩:=bdS ap;refine dE z z (fc call18 z<|W_w35 aL (zt' a0<|lt_ (lt_ (lt_ hp sa.s) sb.s) s7.s) (a1.g aa) (a2.g aa) aK) (.inr λ_ _ h=>C_<|h.1) ?_;rintro _ V ⟨sh,rfl,_⟩;refine dR z z (a_K z z)<|pD<|Wo ?_
  obtain ⟨aM,a6,ar⟩:=bdS aq;refine Wt (λa w=>∃(xj:List Str),xj=aM/\∃ak nl cm Sc,Sat 42 [(1,sl A5 N5 C5),(3,Str.v x4),(4,pt w0.z),(9,sl ak nl cm),(10,sl ay ns cz),(11,vI ((kq:Nat):Int))] a/\Cg G V w/\a_ w Sc (sl ak nl cm) xj/\Sc.Nodup/\(∀k∈Sc,k∈G∨V.z<=k)) ?_ ?_
  .refine Wc z (λhcr=>?_)<|λhcr=>?_
   .refine Wg<|RM z z<|Rm z ?_
    obtain ⟨aN,aO,au⟩:=bdS<|ifT a6 hcr;refine RX z (at_ (α:=k_) c_v b_6 z z z (or_ (a9.e sh)<|a_.lt W) aO) ?_;rintro _ ⟨_,_,_,rfl,aP,aQ,_⟩;obtain ⟨rfl,ab,_,_,_⟩:=f_x aQ;refine Rf z i_e z<|R z (l0 g_9 z<|aP.at (j:=0) z)<|E z (fS [(.tmp 38)] a_w z z z (b_l z) (lb z)<|lb z) ?_
    rintro _ ad ⟨rfl,ht⟩;have hu:=ht.below;have bb:=b_U ht<|b_k ab
    obtain ⟨aR,aS,av⟩:=bdS au;refine E z (b_W (α:=Str) a_w aS z z (((hd.e s7).e sh).e hu) he (ht.blk:Blk ad V.z [Str.v aN.path]) (b_k ab) an_ U_) ?_;rintro _ aT ⟨ae,aU,aV,aW,rfl,aX,aY,aZ,b0⟩;refine Ra z<|Wl ?_
    exact λ_ q=>⟨aR,som av,aU,aV,aW,ae,q.k<|s6 z z z z z z,(cM (j_ (cr G V) hu:Cg G V ad) aX (io sr):Cg G V aT),aY,aZ,(or2 b0 (io sr) an_ (l_ hu.s):∀k∈ae,k∈G∨V.z<=k)⟩
   exact a_5<|λ_ q=>⟨Y,som<|ifF a6 hcr,J,L,O,G,q.k<|s6 z z z z z z,cr G V,(hd.e s7).e sh,he,io sr⟩
  rintro b1 b2 ⟨xj,rfl,ak,nl,cm,Sc,_,b3,b4,b5,b6⟩;revert b1;refine Wo<|Wg<|Rm z<|R z (inc_ a5 (lt_ (a_.len W) B_) z z)<|Ra z<|Wl ?_
  have af:∀k∈G,k∈[H.z]∨I.z<=k:=or1 hg (io sr)<|l_ lr;exact λ_ q=>⟨xj,(som ar).symm,⟨ak,nl,cm,Sc,q.k<|s6 z z z z z z,(cM (j_ (j_ (cM (cr [H.z] I) sb (io sr):Cg [H.z] I aF) s7:Cg [H.z] I aG) sh:Cg [H.z] I V) b3 af:Cg [H.z] I b2),b4,b5,(or1 b6 af (l_<|lt_ (lt_ sb.s s7.s) sh.s):∀k∈Sc,k∈[H.z]∨I.z<=k)⟩⟩
 .rintro Y _ b7 ⟨J,L,O,G,aw,ah,hd,he,hg⟩;refine Wu ?_ aw;refine Wq<|Wm z<|Rm z<|R z (lnR c_v z<|or_ (W.c ah<|a_M a7 (a_.lt hn) lr)<|a_.lt W)<|Rl z z z<|Wx z (λhc=>(R_ hc).elim) (λ_=>?_)
  exact We<|λ_ q=>⟨rfl,⟨J,L,O,G,q.k<|s1 z,(cM (cr [H.z] I) ah (io sr):Cg [H.z] I b7),hd,he,(or1 hg (io sr) (l_ lr):∀k∈G,k∈[H.z]∨I.z<=k)⟩⟩
 .rintro Y b8 _ rfl ⟨J,L,O,G,_,b9,hd,he,hg⟩;have ax:=elL a4;revert b8;refine Wo<|Wm z<|Rw z ?_
  obtain rfl:=som ax;have ai:=m1 hf.s;exact Wr<|c_ hr z ⟨bM (bup (bup hf si) sa) b9 ai,J,L,O,G,z,hd,he,c_6 hg ai<|lt_ hp sa.s⟩
 rintro _ _ _ _ rfl ⟨rfl,az⟩;have aA:=elR a4;obtain rfl:=som aA;exact ⟨az,z⟩
theorem l_T {x1:d_}{res:Int}(hm:f_j x1=some res)(J:B<=w0.z)(H:repS w0 B (sl A0 N0 C0) x1.rules):i_ prog 62 [(.agg #[sl A0 N0 C0])] w0 (Q0 w0 B res):=by
 unfold f_j at hm
 refine goG func62 z z z λfn hr=>Ws<|E z (fb z) ?_
 rintro _ I ⟨rfl,G⟩;have h1:=G.below;refine Rw z<|Ws<|Rf z a_i z<|R z (l0 a_n z<|(G.blk:Blk I w0.z [sl A0 N0 C0]).at z)<|R z (lnR V_ z<|H.e h1)<|R z (sb_ z z)<|Rw z ?_
 obtain rfl:=som hm;exact Wr<|c_ hr z ⟨h1,z,iS _ _⟩
theorem e_h {x1:Int}{x2:Int}{x3:Int}{res:Bool}(hm:c_t x1 x2 x3=some res)(Y:B<=w0.z)(O:inI x1)(V:inI x2)(W:inI x3):i_ prog 120 [vI x1,vI x2,vI x3] w0 (Q7 w0 B res):=by
 unfold c_t at hm
 refine goG func120 z z z λfn hr=>Ws<|Rw z<|Wq ?_
 obtain ⟨J,H,I⟩:=bdS hm;refine Wt (λa w=>∃(x4:Bool),x4=J/\Sat 15 [(6,vB x4)] a/\Below w0.z w0 w) ?_ ?_
 .refine Wg<|RM z z<|R z (b_N z z)<|Rm z ?_
  rcases bs (decide<|x2<=x1) with G | G
  .exact Rh z G (mv z)<|Rh z G (mv z)<|Rh z G (b_N z z)<|R z (pT z G z)<|Ra z<|Wl (λ_ q=>⟨decide<|x1<=x3,som<|ifT H G,q.k<|s1 z,br w0⟩)
  iterate 3 refine Nh z G ?_
  exact R z (pF z G z)<|Ra z<|Wl (λ_ q=>⟨false,som<|ifF H G,q.k<|s1 z,br w0⟩)
 rintro L _ ⟨x4,rfl,_,s6⟩;revert L;refine Wo ?_;obtain rfl:=som I;exact Wr<|c_ hr z ⟨s6,z⟩
theorem l_U {x1:d_}{x2:Int}{res:Bool}(hm:e_L x1 x2=some res)(Y:B<=w0.z)(J:repS w0 B (sl A0 N0 C0) x1.rules)(W:inI x2):i_ prog 67 [(.agg #[sl A0 N0 C0]),vI x2] w0 (Q7 w0 B res):=by
 unfold e_L at hm
 refine goG func67 z z z λfn hr=>Ws<|E z (fb z) ?_
 rintro _ H ⟨rfl,h2⟩;have h4:=h2.below;refine Rw z<|Wq ?_
 obtain ⟨O,I,L⟩:=bdS hm;refine Wt (λa w=>∃(x3:Bool),x3=O/\Sat 14 [(4,vB x3)] a/\Below H.z H w) ?_ ?_
 .refine Wg<|Rm z<|R z (c_d z z)<|Rm z ?_
  rcases bs (decide<|0<=x2) with G | G
  .exact Rh z G (mv z)<|Rh z G (fd a_i z)<|Rh z G (l0 a_n z<|(h2.blk:Blk H w0.z [sl A0 N0 C0]).at z)<|Rh z G (lnR V_ z<|J.e h4)<|Rh z G (lss z z)<|R z (pT z G z)<|Ra z<|Wl (λ_ q=>⟨decide<|x2<(x1.rules.length:Int),som<|ifT I G,q.k<|s1 z,br H⟩)
  iterate 5 refine Nh z G ?_
  exact R z (pF z G z)<|Ra z<|Wl (λ_ q=>⟨false,som<|ifF I G,q.k<|s1 z,br H⟩)
 rintro V _ ⟨x3,rfl,_,sa⟩;revert V;refine Wo ?_;obtain rfl:=som L;exact Wr<|c_ hr z ⟨bup h4 sa,z⟩
theorem l_V {x1:Str}{res:Bool}(hm:e_J n x1=some res)(ap:B<=w0.z)(ao:x1.b.length<=LEN):i_ prog 139 [Str.v x1] w0 (Q7 w0 B res):=by
 unfold e_J at hm
 refine goG func139 z z z λfn hr=>Ws<|Rw z<|Wq<|Wq ?_
 obtain ⟨a8,huo,hmp⟩:=bdS hm;refine Wt (λa w=>∃(xg:Bool),xg=a8/\Sat 43 [(0,Str.v x1),(14,vB xg)] a/\Below w0.z w0 w) ?_ ?_
 .refine Wg<|Rm z<|R z (lnT d_9 z)<|Rl z z z<|Rm z ?_
  rcases bs (decide<|(x1.b.length:Int)<1) with J | J
  .iterate 3 refine Nh z J ?_
   exact R z (pT z J z)<|Wl (λ_ q=>⟨true,som<|ifT huo J,q.k<|s2 z z,br w0⟩)
  exact Rh z J (mv z)<|Rh z J (lnT d_9 z)<|Rh z J (a_b z z)<|R z (pF z J z)<|Wl (λ_ q=>⟨decide<|12<(x1.b.length:Int),som<|ifF huo J,q.k<|s2 z z,br w0⟩)
 rintro a9 G ⟨xg,rfl,_,s9⟩;revert a9;refine Wo<|Wc z (λhch=>?_) (λhch=>?_)
 .refine Ws<|Rw z ?_
  obtain rfl:=som<|ifT hmp hch;exact Wr<|c_ hr z ⟨s9,z⟩
 refine Wk<|Wq<|Wm z<|E z (q_j d_9 z) ?_
 rintro _ I ⟨rfl,sq,aa⟩;refine Wn ?_;obtain ⟨_,a1,hmr⟩:=bdS<|ifF hmp hch;refine c_k (σ:=Nat) (ρ:=Bool) (λ(x0:Nat) a w=>Sat 43 [(16,pt G.z)] a/\Cg [G.z] I w/\b_w w G.z x1 x0) (λ(x0:Nat) a w=>Sat 43 [] a/\Cg [G.z] I w/\b_w w G.z x1 x0) (rQ prog fn<|Q7 w0 B) a1 ?_ ?_ ?_ ?_
 .exact λ_ q=>⟨q.k<|s1 z,cr [G.z] I,aa⟩
 .rintro x0 _ ws _ ⟨a2,si,he⟩ hmt;refine Wu ?_ a2;refine Ws ?_
  rcases bs (decide<|x0<x1.b.length) with hca | hca
  .refine E z (q_k z he<|of_decide_eq_true hca) ?_;rintro _ wb ⟨rfl,ab,su⟩;refine Re z z z<|Wn<|Wq<|Wc z (λ_=>?_) (λhc=>(b_D z hc).elim)
   refine Wk<|Wb<|Ws<|Re z z z<|Re z z z<|Ra z<|Rw z<|Wq ?_
   obtain ⟨ad,huv,a3⟩:=bdS<|ifT hmt hca;refine Wt (λa w=>∃(xc:Bool),xc=ad/\Sat 43 [(3,vI (x0:Int)),(4,.int .i32<|(dec x1 x0).1),(5,vB xc),(16,pt G.z)] a/\Below wb.z wb w) ?_ ?_
   .refine Wg<|Rm z<|R z (c_d z z)<|Rm z ?_
    rcases bs (decide<|97<=((dec x1 x0).1)) with L | L
    .exact Rh z L (mv z)<|Rh z L (b_N z z)<|R z (pT z L z)<|Ra z<|Wl (λ_ q=>⟨decide<|((dec x1 x0).1)<=122,som<|ifT huv L,q.k<|s4 z z z z,br wb⟩)
    exact Nh z L<|Nh z L<|R z (pF z L z)<|Ra z<|Wl (λ_ q=>⟨false,som<|ifF huv L,q.k<|s4 z z z z,br wb⟩)
   rintro ae wd ⟨xc,rfl,_,sj⟩;revert ae;refine Wo<|Wq ?_
   obtain ⟨af,huw,a4⟩:=bdS a3;refine Wt (λa w=>∃(xf:Bool),xf=af/\Sat 43 [(3,vI (x0:Int)),(5,vB xc),(6,vB xf),(16,pt G.z)] a/\Below wd.z wd w) ?_ ?_
   .refine Wg<|Rm z<|R z (c_d z z)<|Rm z ?_
    rcases bs (decide<|48<=((dec x1 x0).1)) with O | O
    .exact Rh z O (mv z)<|Rh z O (b_N z z)<|R z (pT z O z)<|Ra z<|Wl (λ_ q=>⟨decide<|((dec x1 x0).1)<=57,som<|ifT huw O,q.k<|s4 z z z z,br wd⟩)
    exact Nh z O<|Nh z O<|R z (pF z O z)<|Ra z<|Wl (λ_ q=>⟨false,som<|ifF huw O,q.k<|s4 z z z z,br wd⟩)
   rintro ah W ⟨xf,rfl,_,sk⟩;revert ah;refine Wo<|Wq ?_
   obtain ⟨ai,hux,hmy⟩:=bdS a4;refine Wt (λa w=>∃(xl:Bool),xl=ai/\Sat 43 [(16,pt G.z),(42,vB xl)] a/\Below W.z W w) ?_ ?_
   .refine Wg<|Rm z<|R z (not_ z)<|Rm z ?_
    rcases bs (!xc) with H | H
    .have hmz:=ifT hux H;refine Rh z H (mv z)<|Rh z H (not_ z)<|Rh z H (mv z) ?_
     rcases bs (!xf) with V | V
     .exact Nh z V<|Nh z V<|Rh z H (pT z V z)<|R z (pT z H z)<|Wl (λ_ q=>⟨true,som<|ifT hmz V,q.k<|s2 z z,br W⟩)
     exact Rh z V (mv z)<|Rh z V (eql z z)<|Rh z H (pF z V z)<|R z (pT z H z)<|Wl (λ_ q=>⟨(x0:Int)==0,som<|ifF hmz V,q.k<|s2 z z,br W⟩)
    iterate 3 refine Nh z H ?_
    exact Nv z<|Nv z<|Nh z H<|R z (pF z H z)<|Wl (λ_ q=>⟨false,som<|ifF hux H,q.k<|s2 z z,br W⟩)
   rintro aj ak ⟨xl,rfl,_,sm⟩;revert aj;refine Wo<|Wc z (λhcn=>?_) (λhcn=>?_)
   .refine Ws<|Rw z ?_
    have Y:=m1 s9.s;exact Wr<|rtO<|qL (som<|ifT hmy hcn).symm<|c_ hr z ⟨bup (bup (bup (bM (bM (bup s9 sq) si Y) su Y) sj) sk) sm,z⟩
   refine a_5 ?_;exact λ_ q=>⟨x0+(dec x1 x0).2,(som<|ifF hmy hcn).symm,⟨q.k<|s1 z,(j_ (j_ (j_ (cM (cM (cr [G.z] I) si (io sr):Cg [G.z] I ws) su (io sr):Cg [G.z] I wb) sj:Cg [G.z] I wd) sk:Cg [G.z] I W) sm:Cg [G.z] I ak),((ab.e sj).e sk).e sm⟩⟩
  refine E z (q_l z he<|of_decide_eq_false hca) ?_;rintro _ al ⟨rfl,a0⟩;refine Re z z z<|Wn<|Wq<|Wc z (λhc=>(b_D hc z).elim) (λ_=>?_)
  exact We<|λ_ q=>b_M (som<|ifF hmt hca).symm ⟨q.k sn,(j_ (cM (cr [G.z] I) si (io sr):Cg [G.z] I ws) a0:Cg [G.z] I al),he.e a0⟩
 .rintro x0 am _ rfl ⟨_,an,he⟩;have a5:=elL hmr;revert am;refine Wo<|Ws<|Rw z ?_
  obtain rfl:=som a5;exact Wr<|c_ hr z ⟨bM (bup s9 sq) an<|m1 s9.s,z⟩
 rintro _ _ _ _ rfl ⟨rfl,a6⟩;have a7:=elR hmr;obtain rfl:=som a7;exact ⟨a6,z⟩
theorem e_i {x1:b_}{x2:Bool}{x3:Bool}{x4:Bool}{x5:Bool}{x6:Int}{res:Bool}(hm:c_J x1 x2 x3 x4 x5 x6=some res)(a8:B<=w0.z)(a4:x1.name.b.length<=LEN)(a5:inI x1.kind)(a6:inI x1.size)(a0:repS w0 B (sl AB NB CB) x1.bytes)(a1:repS w0 B (sl AA NA CA) x1.names)(a2:repS w0 B (sl AC NC CC) x1.tags)(a3:repS w0 B (sl AD ND CD) x1.kids)(a7:inI x6):i_ prog 164 [(.agg #[Str.v x1.name,vI x1.kind,vI x1.size,vB x1.little,sl AB NB CB,sl AA NA CA,sl AC NC CC,sl AD ND CD]),vB x2,vB x3,vB x4,vB x5,vI x6] w0 (Q7 w0 B res):=by
 unfold c_J at hm
 refine goG func164 z z z λfn hr=>Ws<|E z (fb z) ?_
 rintro _ w9 ⟨rfl,hd⟩;have ha:=hd.below;have hb:Blk w9 w0.z (vR x1 AB NB CB AA NA CA AC NC CC AD ND CD):=hd.blk;refine Rw z<|Wq ?_
 obtain ⟨ur,hus,hmt⟩:=bdS hm;refine Wt (λa w=>∃(xc:Bool),xc=ur/\Sat 57 [(12,vB xc)] a/\Below w9.z w9 w) ?_ ?_
 .refine Wg<|RM z z ?_
  obtain ⟨ue,huf,hmu⟩:=bdS hus;refine d_n 18 ue 4 ?_ ?_
  .rcases bs x2 with Y | Y
   .iterate 3 refine Nh z Y ?_
    exact R z (pT z Y z)<|WLq 4 (ifT huf Y) z z z
   exact Rh z Y (fd a_H z)<|Rh z Y (l0 g_3 z<|hb.at z)<|Rh z Y (eql z z)<|R z (pF z Y z)<|WLq 4 (ifF huf Y) z z z
  refine Rm z ?_;obtain ⟨ug,huh,hmv⟩:=bdS hmu;refine d_n 27 ug 8 ?_ ?_
  .rcases bs ue with G | G
   .have hmi:=ifT huh G;refine Rh z G (mv z)<|Rh z G (mv z) ?_
    rcases bs x3 with O | O
    .iterate 4 refine Nh z O ?_
     exact Rh z G (pT z O z)<|R z (pT z G z)<|WLq 8 (ifT hmi O) z z z
    exact Rh z O (fd b_f z)<|Rh z O (l0 X_ z<|hb.at z)<|Rh z O (lnR o_ z<|a0.e ha)<|Rh z O (eql z z)<|Rh z G (pF z O z)<|R z (pT z G z)<|WLq 8 (ifF hmi O) z z z
   exact Nh z G<|Nh z G<|Nv z<|Nv z<|Nv z<|Nv z<|Nh z G<|R z (pF z G z)<|WLq 8 (ifF huh G) z z z
  refine Rm z ?_;obtain ⟨uj,huk,hmw⟩:=bdS hmv;refine d_n 36 uj 8 ?_ ?_
  .rcases bs ug with H | H
   .have hml:=ifT huk H;refine Rh z H (mv z)<|Rh z H (mv z) ?_
    rcases bs x4 with V | V
    .iterate 4 refine Nh z V ?_
     exact Rh z H (pT z V z)<|R z (pT z H z)<|WLq 8 (ifT hml V) z z z
    exact Rh z V (fd b_R z)<|Rh z V (l0 a_t z<|hb.at z)<|Rh z V (lnR D_ z<|a1.e ha)<|Rh z V (eql z z)<|Rh z H (pF z V z)<|R z (pT z H z)<|WLq 8 (ifF hml V) z z z
   exact Nh z H<|Nh z H<|Nv z<|Nv z<|Nv z<|Nv z<|Nh z H<|R z (pF z H z)<|WLq 8 (ifF huk H) z z z
  refine Rm z ?_;obtain ⟨um,hun,hmo⟩:=bdS hmw;refine d_n 45 um 8 ?_ ?_
  .rcases bs uj with I | I
   .have hmp:=ifT hun I;refine Rh z I (mv z)<|Rh z I (mv z) ?_
    rcases bs x5 with W | W
    .iterate 4 refine Nh z W ?_
     exact Rh z I (pT z W z)<|R z (pT z I z)<|WLq 8 (ifT hmp W) z z z
    exact Rh z W (fd b_g z)<|Rh z W (l0 E_ z<|hb.at z)<|Rh z W (lnR x_ z<|a2.e ha)<|Rh z W (eql z z)<|Rh z I (pF z W z)<|R z (pT z I z)<|WLq 8 (ifF hmp W) z z z
   exact Nh z I<|Nh z I<|Nv z<|Nv z<|Nv z<|Nv z<|Nh z I<|R z (pF z I z)<|WLq 8 (ifF hun I) z z z
  refine Rm z ?_
  rcases bs um with J | J
  .have hmq:=ifT hmo J;refine Rh z J (mv z)<|Rh z J (lss z z)<|Rh z J (mv z) ?_
   rcases bs (decide<|x6<0) with L | L
   .iterate 5 refine Nh z L ?_
    exact Rh z J (pT z L z)<|R z (pT z J z)<|Ra z<|Wl (λ_ q=>⟨true,som<|ifT hmq L,q.k<|s1 z,br w9⟩)
   exact Rh z L (fd P_ z)<|Rh z L (l0 E_ z<|hb.at z)<|Rh z L (lnR x_ z<|a3.e ha)<|Rh z L (mv z)<|Rh z L (eql z z)<|Rh z J (pF z L z)<|R z (pT z J z)<|Ra z<|Wl (λ_ q=>⟨(x1.kids.length:Int)==x6,som<|ifF hmq L,q.k<|s1 z,br w9⟩)
  iterate 3 refine Nh z J ?_
  exact Nv z<|Nv z<|Nv z<|Nv z<|Nv z<|Nh z J<|R z (pF z J z)<|Ra z<|Wl (λ_ q=>⟨false,som<|ifF hmo J,q.k<|s1 z,br w9⟩)
 rintro ax _ ⟨xc,rfl,_,sy⟩;revert ax;refine Wo ?_;obtain rfl:=som hmt;exact Wr<|c_ hr z ⟨bup ha sy,z⟩
theorem f_s {x1:d_}{x2:Int}{res:Int}(hm:d_h x1 x2=some res)(V:B<=w0.z)(I:repS w0 B (sl A0 N0 C0) x1.rules)(Y:inI x2):i_ prog 143 [(.agg #[sl A0 N0 C0]),vI x2] w0 (Q0 w0 B res):=by
 unfold d_h at hm
 refine goG func143 z z z λfn hr=>Ws<|E z (fb z) ?_
 rintro _ L ⟨rfl,W⟩;have h2:=W.below;have h6:Blk L w0.z [sl A0 N0 C0]:=W.blk;refine Rw z<|Wq<|Wq ?_
 obtain ⟨uf,hug,hma⟩:=bdS hm;refine Wt (λa w=>∃(O:Bool),O=uf/\Sat 37 [(1,vI x2),(2,pt w0.z),(27,vB O)] a/\Below L.z L w) ?_ ?_
 .refine Wg<|R z (lN (vs:=[sl A0 N0 C0]) w_ v_ z z fid<|h6.row 0 1 z)<|Rm z ?_
  obtain ⟨rh,ei,hmb⟩:=bdS hug;refine E z (fc call67 z<|l_U ei (zt' V h2.s) (I.e h2) Y) ?_;rintro _ _ ⟨s4,rfl⟩;refine R z (not_ z)<|Rm z ?_
  rcases bs (!rh) with H | H
  .iterate 7 refine Nh z H ?_
   exact R z (pT z H z)<|Rm z<|Nh z z<|Nh z z<|Nh z z<|Nh z z<|Nh z z<|Nh z z<|Nh z z<|Nh z z<|R z (pT z z z)<|Wl (λ_ q=>⟨true,som<|ifT hmb H,q.k<|s3 z z z,s4⟩)
  refine Rh z H (fd a_i z) ?_;have hc:=h6.e s4;refine Rh z H (l0 a_n z<|hc.at z)<|Rh z H (mv z) ?_
  obtain ⟨xj,ek,hmd⟩:=bdS<|ifF hmb H;have he:=I.g<|(h2.ag B).e s4
  refine RXg z z H z (at_ (α:=b_) V_ m_ z z z he ek) ?_;rintro _ ⟨_,_,_,rfl,hl,hn,_⟩;obtain ⟨_,_,_,_,_,_,_,_,_,_,_,_,rfl,_,_,_,_,_,_,_⟩:=a_F hn;refine Rh z H (fd a_o z)<|Rh z H (l0 g_3 z<|hl.at (j:=1) z)<|Rh z H (nq z z)<|R z (pF z H z)<|Rm z ?_
  rcases bs (xj.kind != 1) with G | G
  .iterate 8 refine Nh z G ?_
   exact R z (pT z G z)<|Wl (λ_ q=>⟨true,som<|ifT hmd G,q.k<|s3 z z z,s4⟩)
  refine Rh z G (fd a_i z)<|Rh z G (l0 a_n z<|hc.at z)<|Rh z G (mv z) ?_
  obtain ⟨_,em,hmo⟩:=bdS<|ifF hmd G;refine RXg z z G z (at_ (α:=b_) V_ m_ z z z he em) ?_;rintro _ ⟨_,_,_,rfl,hp,hq,_⟩;obtain ⟨_,_,_,_,_,_,_,_,_,_,_,_,rfl,_,_,ht,_,_,_,_⟩:=a_F hq;refine Rh z G (fd a_H z)<|Rh z G (l0 g_3 z<|hp.at (j:=2) z) ?_
  obtain ⟨rr,es,hmu⟩:=bdS hmo;refine Eg z z G z (fc call120 z<|e_h es (zt' V<|lt_ h2.s s4.s) ht (ii z)<|ii z) ?_;rintro _ _ ⟨sv,rfl⟩;exact Rh z G (not_ z)<|R z (pF z G z)<|Wl (λ_ q=>⟨!rr,som hmu,q.k<|s3 z z z,bup s4 sv⟩)
 rintro aw _ ⟨O,rfl,_,s5⟩;revert aw;refine Wo<|Wc z (λJ=>?_) (λJ=>?_)
 .refine Ws<|Rw z ?_
  obtain rfl:=som<|ifT hma J;exact Wr<|c_ hr z ⟨bup h2 s5,z,ii z⟩
 refine Wk<|Ws<|Rf z a_i z<|R z (l0 a_n z<|(h6.e s5).at z)<|Rm z ?_
 obtain ⟨_,ex,hmy⟩:=bdS<|ifF hma J;refine RX z (at_ (α:=b_) V_ m_ z z z (I.g<|(h2.ag B).e s5) ex) ?_;rintro _ ⟨_,_,_,rfl,hz,a1,_⟩;obtain ⟨_,_,_,_,_,_,_,_,_,_,_,_,rfl,_,_,_,_,_,_,_⟩:=a_F a1;refine Rf z a_H z<|R z (l0 g_3 z<|hz.at (j:=2) z)<|R z (f_M z z) ?_
 obtain ⟨_,a2,a0⟩:=bdS hmy;refine R z (j_6 z z<|nnS a2)<|R z (sb_ z z)<|Rw z ?_
 obtain rfl:=som a0;exact Wr<|c_ hr z ⟨bup h2 s5,z,iS _ _⟩
theorem W_w37 {x1:List Str}{x2:Str}{res:Bool}(hm:f_i x1 x2=some res)(a1:B<=w0.z)(G:repS w0 B (sl A0 N0 C0) x1)(a0:x2.b.length<=LEN):i_ prog 173 [sl A0 N0 C0,Str.v x2] w0 (Q7 w0 B res):=by
 unfold f_i at hm
 refine goG func173 z z z λfn hr=>Ws<|Rw z<|Wq<|Wm z<|R z (lnR D_ z G)<|Rm z<|Wn ?_
 obtain ⟨_,V,J⟩:=bdS hm;refine Wf (σ:=Unit) (ρ:=Bool) (λ(k3:Nat)(_:Unit) a w=>Sat 17 [(1,Str.v x2),(7,sl A0 N0 C0),(8,vI (x1.length:Int)),(9,vI ((k3:Nat):Int))] a/\Below w0.z w0 w) (λ(_:Unit) a w=>Sat 17 [] a/\Below w0.z w0 w) (rQ prog fn<|Q7 w0 B) V ?_ ?_ ?_ ?_ ?_
 .exact λ_ q=>⟨q.k<|s4 z z z z,br w0⟩
 .rintro k3 _ _ _ _ L ⟨W,I⟩ Y;refine Wu ?_ W;refine Ws<|Rl z z z<|Wn<|Wq<|Wc z (λ_=>?_) (λhc=>(Q_ L hc).elim)
  refine Wk<|Wq<|Wb<|Ws ?_
  obtain ⟨_,e9,O⟩:=bdS Y;refine RX z (at_ (α:=Str) D_ z_9 z z z (G.e I) e9) ?_;rintro _ ⟨_,_,_,rfl,ha,hb,_⟩;obtain ⟨rfl,_⟩:=a_h hb;refine R z (l0 g_9 z<|ha.at0 z)<|Rw z<|Wm z<|Rm z<|R z (a_K z z)<|Wx z (λH=>?_) (λH=>?_)
  .exact Ws<|Rw z<|Wr<|rtO<|qL (som<|ifT O H).symm<|c_ hr z ⟨I,z⟩
  exact Wk<|Wg<|R z (inc_ L (lt_ (repS.len G) B_) z z)<|Rm z<|Wl (λ_ q=>⟨(),(som<|ifF O H).symm,⟨q.k<|s4 z z z z,I⟩⟩)
 .rintro _ _ _ ⟨hSc,sd⟩;refine Wu ?_ hSc;refine Ws<|Rl z z z<|Wn<|Wq<|Wc z (λhc=>(R_ hc).elim) (λ_=>?_)
  exact We<|λ_ q=>⟨rfl,⟨q.k sn,sd⟩⟩
 .rintro _ ae _ rfl ⟨_,sf⟩;have hmg:=elL J;revert ae;refine Wo<|Ws<|Rw z ?_
  obtain rfl:=som hmg;exact Wr<|c_ hr z ⟨sf,z⟩
 rintro _ _ _ _ rfl ⟨rfl,hqh⟩;have hmi:=elR J;obtain rfl:=som hmi;exact ⟨hqh,z⟩
theorem W_w38 {x1:b_}{res:Bool}(hm:h_z n x1=some res)(O:B<=w0.z)(Y:x1.name.b.length<=LEN)(a0:inI x1.kind)(a1:inI x1.size)(a2:repS w0 B (sl AB NB CB) x1.bytes)(J:repS w0 B (sl AA NA CA) x1.names)(a3:repS w0 B (sl AC NC CC) x1.tags)(W:repS w0 B (sl AD ND CD) x1.kids):i_ prog 165 [(.agg #[Str.v x1.name,vI x1.kind,vI x1.size,vB x1.little,sl AB NB CB,sl AA NA CA,sl AC NC CC,sl AD ND CD])] w0 (Q7 w0 B res):=by
 unfold h_z at hm
 refine goG func165 z z z λfn hr=>Ws<|E z (fb z) ?_
 rintro _ V ⟨rfl,hi⟩;have h1:=hi.below;have ha:Blk V w0.z (vR x1 AB NB CB AA NA CA AC NC CC AD ND CD):=hi.blk;refine Rw z<|Wq<|Wq ?_
 obtain ⟨uy,huz,hmj⟩:=bdS hm;refine Wt (λa w=>∃(xb:Bool),xb=uy/\Sat 44 [(1,pt w0.z),(23,vB xb)] a/\Below V.z V w) ?_ ?_
 .refine Wg<|R z (lN (vs:=vR x1 AB NB CB AA NA CA AC NC CC AD ND CD) H_ m_ z z fid<|ha.row 0 8 z) ?_
  obtain ⟨ai,aj,hmk⟩:=bdS huz;refine E z (fc call164 z<|e_i aj (zt' O h1.s) Y a0 a1 (a2.e h1) (J.e h1) (a3.e h1) (W.e h1)<|ii z) ?_;rintro _ _ ⟨s6,rfl⟩;refine R z (not_ z)<|Rm z ?_
  rcases bs (!ai) with G | G
  .iterate 7 refine Nh z G ?_
   exact R z (pT z G z)<|Rm z<|Nh z z<|Nh z z<|Nh z z<|Nh z z<|Nh z z<|R z (pT z z z)<|Wl (λ_ q=>⟨true,som<|ifT hmk G,q.k<|s2 z z,s6⟩)
  have hml:=ifF hmk G;refine Rh z G (fd P_ z) ?_;have hd:=ha.e s6;refine Rh z G (l0 E_ z<|hd.at z) ?_;have hn:=(h1.ag B).e s6;have he:=W.g hn;refine Rh z G (lnR x_ z he)<|Rh z G (fd b_R z)<|Rh z G (l0 a_t z<|hd.at z)<|Rh z G (lnR D_ z<|J.g hn)<|Rh z G (nq z z)<|R z (pF z G z)<|Rm z ?_
  rcases bs ((x1.kids.length:Int) != (x1.names.length:Int)) with I | I
  .iterate 5 refine Nh z I ?_
   exact R z (pT z I z)<|Wl (λ_ q=>⟨true,som<|ifT hml I,q.k<|s2 z z,s6⟩)
  refine Rh z I (fd P_ z)<|Rh z I (l0 E_ z<|hd.at z)<|Rh z I (lnR x_ z he) ?_
  obtain ⟨ak,al,a4⟩:=bdS<|ifF hml I;refine Eg z z I z (fc call120 z<|e_h al (zt' O<|lt_ h1.s s6.s) (b_T<|repS.len he) (ii z)<|ii z) ?_;rintro _ _ ⟨am,rfl⟩;exact Rh z I (not_ z)<|R z (pF z I z)<|Wl (λ_ q=>⟨!ak,som a4,q.k<|s2 z z,bup s6 am⟩)
 rintro an L ⟨xb,rfl,_,s7⟩;revert an;refine Wo<|Wc z (λhcc=>?_) (λhcc=>?_)
 .refine Ws<|Rw z ?_
  obtain rfl:=som<|ifT hmj hcc;exact Wr<|c_ hr z ⟨bup h1 s7,z⟩
 refine Wk<|Wq<|Ws<|Rf z b_R z ?_
 have ho:=ha.e s7;refine R z (l0 a_t z<|ho.at z) ?_;have hp:=(h1.ag B).e s7;refine R z (lnR D_ z<|J.g hp)<|Rm z<|Wn ?_
 obtain ⟨_,a5,hmm⟩:=bdS<|ifF hmj hcc;refine Wf (σ:=Unit) (ρ:=Bool) (λ(kf:Nat)(_:Unit) a w=>Sat 44 [(1,pt w0.z),(25,sl AA NA CA),(26,vI (x1.names.length:Int)),(27,vI ((kf:Nat):Int))] a/\Below L.z L w) (λ(_:Unit) a w=>Sat 44 [] a/\Below L.z L w) (rQ prog fn<|Q7 w0 B) a5 ?_ ?_ ?_ ?_ ?_
 .exact λ_ q=>⟨q.k<|s4 z z z z,br L⟩
 .rintro kf _ _ wq _ hkr ⟨a6,s8⟩ a7;refine Wu ?_ a6;refine Ws<|Rl z z z<|Wn<|Wq<|Wc z (λ_=>?_) (λhc=>(Q_ hkr hc).elim)
  refine Wk<|Wq<|Wb<|Wm z ?_
  obtain ⟨_,ao,a8⟩:=bdS a7;have ht:=hp.e s8;refine RX z (at_ (α:=Str) D_ z_9 z z z (J.g ht) ao) ?_;rintro _ ⟨_,_,_,rfl,ap,aq,_⟩;obtain ⟨rfl,hu⟩:=a_h aq;refine R z (l0 g_9 z<|ap.at0 z)<|Ra z<|Rw z<|Wq ?_
  obtain ⟨ar,a9,hms⟩:=bdS a8;refine Wt (λa w=>∃(xg:Bool),xg=ar/\Sat 44 [(1,pt w0.z),(25,sl AA NA CA),(26,vI (x1.names.length:Int)),(27,vI ((kf:Nat):Int)),(42,vB xg)] a/\Below wq.z wq w) ?_ ?_
  .refine Wg<|Rm z ?_
   have hv:=lt_ (lt_ h1.s s7.s) s8.s;obtain ⟨au,av,hmw⟩:=bdS a9;refine E z (fc call139 z<|l_V av (zt' O hv) hu) ?_;rintro _ _ ⟨s9,rfl⟩;refine R z (not_ z)<|Rm z ?_
   rcases bs (!au) with H | H
   .iterate 6 refine Nh z H ?_
    exact R z (pT z H z)<|Wl (λ_ q=>⟨true,som<|ifT hmw H,q.k<|s5 z z z z z,s9⟩)
   refine Rh z H (fd b_R z)<|Rh z H (l0 a_t z<|((ho.e s8).e s9).at z)<|Rh z H (mv z) ?_
   obtain ⟨_,aw,aa⟩:=bdS<|ifF hmw H;refine RXg z z H z (rX D_ z_9 z z (J.g<|ht.e s9) z z aw) ?_;rintro _ ⟨_,_,_,rfl,ax⟩;refine Rh z H (mv z) ?_;obtain ⟨ay,az,ab⟩:=bdS aa;refine Eg z z H z (fc call173 z<|W_w37 az (zt' O<|lt_ hv s9.s) ax hu) ?_;rintro _ _ ⟨aA,rfl⟩;exact R z (pF z H z)<|Wl (λ_ q=>⟨ay,som ab,q.k<|s5 z z z z z,bup s9 aA⟩)
  rintro aB _ ⟨xg,rfl,_,sx⟩;revert aB;refine Wo<|Wc z (λhch=>?_) (λhch=>?_)
  .exact Ws<|Rw z<|Wr<|rtO<|qL (som<|ifT hms hch).symm<|c_ hr z ⟨bup (bup (bup h1 s7) s8) sx,z⟩
  exact Wk<|Wg<|R z (inc_ hkr (lt_ (repS.len J) B_) z z)<|Rm z<|Wl (λ_ q=>⟨(),(som<|ifF hms hch).symm,⟨q.k<|s4 z z z z,bup s8 sx⟩⟩)
 .rintro _ _ _ ⟨ad,aC⟩;refine Wu ?_ ad;refine Ws<|Rl z z z<|Wn<|Wq<|Wc z (λhc=>(R_ hc).elim) (λ_=>?_)
  exact We<|λ_ q=>⟨rfl,⟨q.k sn,aC⟩⟩
 .rintro _ aD _ rfl ⟨_,aE⟩;have ae:=elL hmm;revert aD;refine Wo<|Ws<|Rw z ?_
  obtain rfl:=som ae;exact Wr<|c_ hr z ⟨bup (bup h1 s7) aE,z⟩
 rintro _ _ _ _ rfl ⟨rfl,af⟩;have ah:=elR hmm;obtain rfl:=som ah;exact ⟨af,z⟩
theorem W_w39 {x1:d_}{x2:b_}{res:Bool}(hm:h_A x1 x2=some res)(O:B<=w0.z)(a4:repS w0 B (sl A0 N0 C0) x1.rules)(a5:x2.name.b.length<=LEN)(a6:inI x2.kind)(a7:inI x2.size)(a8:repS w0 B (sl A2 N2 C2) x2.bytes)(a9:repS w0 B (sl A3 N3 C3) x2.names)(J:repS w0 B (sl A1 N1 C1) x2.tags)(V:repS w0 B (sl A4 N4 C4) x2.kids):i_ prog 166 [(.agg #[sl A0 N0 C0]),(.agg #[Str.v x2.name,vI x2.kind,vI x2.size,vB x2.little,sl A2 N2 C2,sl A3 N3 C3,sl A1 N1 C1,sl A4 N4 C4])] w0 (Q7 w0 B res):=by
 unfold h_A at hm
 refine goG func166 z z z λfn hr=>Ws<|E z (fb z) ?_
 rintro _ L ⟨rfl,hn⟩;have h4:=hn.below;refine E z (fb z) ?_;rintro _ wg ⟨rfl,ho⟩;have h3:=ho.below;have he:Blk wg L.z (vR x2 A2 N2 C2 A3 N3 C3 A1 N1 C1 A4 N4 C4):=ho.blk;refine Rw z<|Wq<|Wq ?_
 obtain ⟨aq,aa,hmp⟩:=bdS hm;refine Wt (λa w=>∃(xh:Bool),xh=aq/\Sat 57 [(2,pt w0.z),(3,pt L.z),(21,vB xh)] a/\Below wg.z wg w) ?_ ?_
 .refine Wg<|R z (lN (vs:=vR x2 A2 N2 C2 A3 N3 C3 A1 N1 C1 A4 N4 C4) H_ m_ z z fid<|he.row 0 8 z)<|Rf z b_g z<|R z (l0 E_ z<|he.at z) ?_
  have h6:=(h4.ag B).e h3;have hq:=J.g h6;refine R z (lnR x_ z hq)<|R z (add_ z z) ?_
  have ht:=lt_ h4.s h3.s;obtain ⟨ar,au,hmr⟩:=bdS aa;refine E z (fc call164 z<|e_i au (zt' O ht) a5 a6 a7 (a8.g h6) (a9.g h6) hq (V.g h6)<|iA _ _) ?_;rintro _ _ ⟨s9,rfl⟩;refine R z (not_ z)<|Rm z ?_
  rcases bs (!ar) with I | I
  .iterate 5 refine Nh z I ?_
   exact R z (pT z I z)<|Wl (λ_ q=>⟨true,som<|ifT hmr I,q.k<|s3 z z z,s9⟩)
  refine Rh z I (fd b_g z)<|Rh z I (l0 E_ z<|(he.e s9).at z) ?_
  have hu:=J.g<|h6.e s9
  refine Rh z I (lnR x_ z hu) ?_;obtain ⟨av,aw,ab⟩:=bdS<|ifF hmr I;refine Eg z z I z (fc call120 z<|e_h aw (zt' O<|lt_ ht s9.s) (b_T<|repS.len hu) (ii z)<|ii z) ?_;rintro _ _ ⟨ax,rfl⟩;exact Rh z I (not_ z)<|R z (pF z I z)<|Wl (λ_ q=>⟨!av,som ab,q.k<|s3 z z z,bup s9 ax⟩)
 rintro ay _ ⟨xh,rfl,_,s7⟩;revert ay;refine Wo<|Wc z (λhci=>?_) (λhci=>?_)
 .refine Ws<|Rw z ?_
  obtain rfl:=som<|ifT hmp hci;exact Wr<|c_ hr z ⟨bup (bup h4 h3) s7,z⟩
 refine Wk<|Wq (Wd (X:=noX) 0 (pl_ 7 [5]) mo (by kernel_rfl) λaV s8 _=>dR z z (lN (vs:=[sl A0 N0 C0]) w_ v_ z z fid<|((((hn.blk:Blk L w0.z [sl A0 N0 C0]).e h3).e s7).e s8).row 0 1 z)<|dR z z (fd P_ z) ?_)
 have hv:=(he.e s7).e s8;refine dR z z (l0 E_ z<|hv.at z) ?_;obtain ⟨_,az,ad⟩:=bdS<|ifF hmp hci;have hj:=(((h4.ag B).e h3).e s7).e s8;refine dRX z z (at_ (α:=Int) x_ z_3 z z z (V.g hj) az) ?_;rintro _ ⟨_,_,_,rfl,aA,aB,_⟩;obtain ⟨rfl,aC⟩:=T_ aB;refine dR z z (l0 g_3 z<|aA.at0 z) ?_;have hw:=lt_ (lt_ (lt_ h4.s h3.s) s7.s) s8.s;obtain ⟨rk,aD,ae⟩:=bdS ad;refine dE z z (fc call143 z<|f_s aD (zt' O hw) (a4.g hj) aC) (.inr λ_ _ h=>C_<|h.1) ?_;rintro _ wa ⟨sb,rfl,aE⟩;refine dQ z z z<|pD<|Wo<|Wq<|Ws<|Rf z b_g z ?_
 have hx:=hv.e sb;refine R z (l0 E_ z<|hx.at z) ?_;have hy:=hj.e sb;refine R z (lnR x_ z<|J.g hy)<|Rm z<|Wn ?_
 obtain ⟨_,af,hms⟩:=bdS ae;refine Wf (σ:=Unit) (ρ:=Bool) (λ(kf:Nat)(_:Unit) a w=>Sat 57 [(3,pt L.z),(5,vI rk),(29,sl A1 N1 C1),(30,vI (x2.tags.length:Int)),(31,vI ((kf:Nat):Int))] a/\Below wa.z wa w) (λ(_:Unit) a w=>Sat 57 [(5,vI rk)] a/\Below wa.z wa w) (rQ prog fn<|Q7 w0 B) af ?_ ?_ ?_ ?_ ?_
 .exact λ_ q=>⟨q.k<|s5 z z z z z,br wa⟩
 .rintro kf _ _ wz _ W ⟨ah,sc⟩ ai;refine Wu ?_ ah;refine Ws<|Rl z z z<|Wn<|Wq<|Wc z (λ_=>?_) (λhc=>(Q_ W hc).elim)
  refine Wk<|Wq<|Wb<|Wm z ?_
  obtain ⟨aF,aG,aj⟩:=bdS ai;have a2:=hy.e sc;refine RX z (at_ (α:=Int) x_ z_3 z z z (J.g a2) aG) ?_;rintro _ ⟨_,_,_,rfl,aH,aI,_⟩;obtain ⟨rfl,aJ⟩:=T_ aI;refine R z (l0 g_3 z<|aH.at0 z)<|Ra z<|Rw z<|Wq ?_
  obtain ⟨aK,ak,Y⟩:=bdS aj;refine Wt (λa w=>∃(xl:Bool),xl=aK/\Sat 57 [(3,pt L.z),(5,vI rk),(29,sl A1 N1 C1),(30,vI (x2.tags.length:Int)),(31,vI ((kf:Nat):Int)),(53,vB xl)] a/\Below wz.z wz w) ?_ ?_
  .refine Wg<|RM z z ?_
   obtain ⟨aL,aM,a0⟩:=bdS ak;refine E z (fc call120 z<|e_h aM (zt' O<|lt_ (lt_ hw sb.s) sc.s) aJ (ii z) aE) ?_;rintro _ _ ⟨sd,rfl⟩;refine R z (not_ z)<|Rm z ?_
   rcases bs (!aL) with H | H
   .iterate 3 refine Nh z H ?_
    exact Nv z<|Nv z<|Nv z<|Nv z<|Nv z<|Nv z<|Nv z<|Nv z<|Nh z H<|R z (pT z H z)<|Wl (λ_ q=>⟨true,som<|ifT a0 H,q.k<|s6 z z z z z z,sd⟩)
   have a1:=ifF a0 H;refine Rh z H (mv z)<|Rh z H (a_b z z)<|Rh z H (mv z) ?_
   rcases bs (decide<|0<((kf:Nat):Int)) with G | G
   .refine Rh z G (fd b_g z)<|Rh z G (l0 E_ z<|((hx.e sc).e sd).at z)<|Rh z G (mv z)<|Rh z G (sb_ z z) ?_
    obtain ⟨aN,aO,al⟩:=bdS<|ifT a1 G;refine RXg z z G z (at_ (α:=Int) x_ z_3 z z z (J.g<|a2.e sd) aO) ?_;rintro _ ⟨_,_,_,rfl,aP,aQ,_⟩;obtain ⟨rfl,_⟩:=T_ aQ;exact Rh z G (l0 g_3 z<|aP.at0 z)<|Rh z G (mv z)<|Rh z G (c_d z z)<|Rh z H (pT z G z)<|R z (pF z H z)<|Wl (λ_ q=>⟨decide<|aF<=aN,som al,q.k<|s6 z z z z z z,sd⟩)
   iterate 8 refine Nh z G ?_
   exact Rh z H (pF z G z)<|R z (pF z H z)<|Wl (λ_ q=>⟨false,som<|ifF a1 G,q.k<|s6 z z z z z z,sd⟩)
  rintro aR _ ⟨xl,rfl,_,a3⟩;revert aR;refine Wo<|Wc z (λhcm=>?_) (λhcm=>?_)
  .exact Ws<|Rw z<|Wr<|rtO<|qL (som<|ifT Y hcm).symm<|c_ hr z ⟨bup (bup (bup (bup (bup (bup h4 h3) s7) s8) sb) sc) a3,z⟩
  exact Wk<|Wg<|R z (inc_ W (lt_ (repS.len J) B_) z z)<|Rm z<|Wl (λ_ q=>⟨(),(som<|ifF Y hcm).symm,⟨q.k<|s5 z z z z z,bup sc a3⟩⟩)
 .rintro _ _ _ ⟨am,aS⟩;refine Wu ?_ am;refine Ws<|Rl z z z<|Wn<|Wq<|Wc z (λhc=>(R_ hc).elim) (λ_=>?_)
  exact We<|λ_ q=>⟨rfl,⟨q.k<|s1 z,aS⟩⟩
 .rintro _ aT _ rfl ⟨_,aU⟩;have an:=elL hms;revert aT;refine Wo<|Wm z<|R z (a_b z z)<|Rw z ?_
  obtain rfl:=som an;exact Wr<|c_ hr z ⟨bup (bup (bup (bup (bup h4 h3) s7) s8) sb) aU,z⟩
 rintro _ _ _ _ rfl ⟨rfl,ao⟩;have ap:=elR hms;obtain rfl:=som ap;exact ⟨ao,z⟩
theorem W_w3a {x1:d_}{x2:b_}{res:Bool}(hm:h_B n x1 x2=some res)(L:B<=w0.z)(a7:repS w0 B (sl A0 N0 C0) x1.rules)(a3:x2.name.b.length<=LEN)(a4:inI x2.kind)(V:inI x2.size)(W:repS w0 B (sl A2 N2 C2) x2.bytes)(a5:repS w0 B (sl A3 N3 C3) x2.names)(a6:repS w0 B (sl A1 N1 C1) x2.tags)(Y:repS w0 B (sl A4 N4 C4) x2.kids):i_ prog 142 [(.agg #[sl A0 N0 C0]),(.agg #[Str.v x2.name,vI x2.kind,vI x2.size,vB x2.little,sl A2 N2 C2,sl A3 N3 C3,sl A1 N1 C1,sl A4 N4 C4])] w0 (Q7 w0 B res):=by
 unfold h_B at hm
 refine goG func142 z z z λfn hr=>Ws<|E z (fb z) ?_
 rintro _ ww ⟨rfl,aJ⟩;have h1:=aJ.below;have hx:Blk ww w0.z [sl A0 N0 C0]:=aJ.blk;refine E z (fb z) ?_;rintro _ J ⟨rfl,aK⟩;have G:=aK.below;have h6:Blk J ww.z (vR x2 A2 N2 C2 A3 N3 C3 A1 N1 C1 A4 N4 C4):=aK.blk;refine Rw z<|Wq<|Ws<|Rf z a_o z<|R z (l0 g_3 z<|h6.at z)<|Wn<|Wb<|Ws<|Rq z z z<|Rw z<|Wc z (λhcy=>?_) (λhcy=>?_)
 .refine Wq ?_;obtain ⟨bp,b1,b2⟩:=bdS<|ifT hm hcy;refine Wt (λa w=>∃(xz:Bool),xz=bp/\Sat 102 [(4,vB xz)] a/\Below J.z J w) ?_ ?_
  .refine Wg<|R z (lN (vs:=vR x2 A2 N2 C2 A3 N3 C3 A1 N1 C1 A4 N4 C4) H_ m_ z z fid<|h6.row 0 8 z) ?_
   have hq:=(h1.ag B).e G;have aL:=lt_ h1.s G.s;obtain ⟨bq,bt,ap⟩:=bdS b1;refine E z (fc call164 z<|e_i bt (zt' L aL) a3 a4 V (W.g hq) (a5.g hq) (a6.g hq) (Y.g hq)<|ii z) ?_;rintro _ _ ⟨se,rfl⟩;refine Rm z ?_
   rcases bs bq with hca | hca
   .refine Rh z hca (fd a_H z) ?_;have aM:=h6.e se;refine Rh z hca (l0 g_3 z<|aM.at z) ?_;obtain ⟨bu,bv,aq⟩:=bdS<|ifT ap hca;refine Eg z z hca z (fc call120 z<|e_h bv (zt' L<|lt_ aL se.s) V (ii z)<|ii z) ?_;rintro _ _ ⟨sr,rfl⟩;refine R z (pT z hca z)<|Rm z ?_
    rcases bs bu with O | O
    .have ar:=ifT aq O;refine Rh z O (fd d_k z) ?_;have aN:=aM.e sr;refine Rh z O (l0 g_4 z<|aN.at z)<|Rh z O (not_ z)<|Rh z O (mv z) ?_
     rcases bs (!x2.little) with hcb | hcb
     .iterate 3 refine Nh z hcb ?_
      exact Rh z O (pT z hcb z)<|R z (pT z O z)<|Ra z<|Wl (λ_ q=>⟨true,som<|ifT ar hcb,q.k<|s1 z,bup se sr⟩)
     exact Rh z hcb (fd a_H z)<|Rh z hcb (l0 g_3 z<|aN.at z)<|Rh z hcb (a_b z z)<|Rh z O (pF z hcb z)<|R z (pT z O z)<|Ra z<|Wl (λ_ q=>⟨decide<|1<x2.size,som<|ifF ar hcb,q.k<|s1 z,bup se sr⟩)
    iterate 4 refine Nh z O ?_
    exact Nv z<|Nv z<|Nv z<|Nh z O<|R z (pF z O z)<|Ra z<|Wl (λ_ q=>⟨false,som<|ifF aq O,q.k<|s1 z,bup se sr⟩)
   iterate 3 refine Nh z hca ?_
   exact R z (pF z hca z)<|Rm z<|Nh z z<|Nh z z<|Nh z z<|Nh z z<|Nv z<|Nv z<|Nv z<|Nh z z<|R z (pF z z z)<|Ra z<|Wl (λ_ q=>⟨false,som<|ifF ap hca,q.k<|s1 z,se⟩)
  rintro bw _ ⟨xz,rfl,_,bx⟩;revert bw;refine Wo ?_;obtain rfl:=som b2;exact Wr<|rtO<|c_ hr z ⟨bup (bup h1 G) bx,z⟩
 have au:=ifF hm hcy;refine Ws<|Rq z z z<|Rw z<|Wc z (λa8=>?_) (λa8=>?_)
 .refine Wq ?_;obtain ⟨bz,b3,b4⟩:=bdS<|ifT au a8;refine Wt (λa w=>∃(aj:Bool),aj=bz/\Sat 102 [(4,vB aj)] a/\Below J.z J w) ?_ ?_
  .refine Wg<|R z (lN (vs:=vR x2 A2 N2 C2 A3 N3 C3 A1 N1 C1 A4 N4 C4) H_ m_ z z fid<|h6.row 0 8 z) ?_
   have hj:=(h1.ag B).e G;have aO:=lt_ h1.s G.s;obtain ⟨bA,bB,av⟩:=bdS b3;refine E z (fc call164 z<|e_i bB (zt' L aO) a3 a4 V (W.g hj) (a5.g hj) (a6.g hj) (Y.g hj)<|ii z) ?_;rintro _ _ ⟨sk,rfl⟩;refine Rm z ?_
   rcases bs bA with a1 | a1
   .refine Rh z a1 (fd b_f z)<|Rh z a1 (l0 X_ z<|(h6.e sk).at z) ?_
    have aP:=W.g<|hj.e sk
    refine Rh z a1 (lnR o_ z aP) ?_;obtain ⟨bC,bD,b5⟩:=bdS<|ifT av a1;refine Eg z z a1 z (fc call120 z<|e_h bD (zt' L<|lt_ aO sk.s) (b_T<|repS.len aP) (ii z)<|ii z) ?_;rintro _ _ ⟨bE,rfl⟩;exact R z (pT z a1 z)<|Ra z<|Wl (λ_ q=>⟨bC,som b5,q.k<|s1 z,bup sk bE⟩)
   iterate 4 refine Nh z a1 ?_
   exact R z (pF z a1 z)<|Ra z<|Wl (λ_ q=>⟨false,som<|ifF av a1,q.k<|s1 z,sk⟩)
  rintro bF _ ⟨aj,rfl,_,bG⟩;revert bF;refine Wo ?_;obtain rfl:=som b4;exact Wr<|rtO<|c_ hr z ⟨bup (bup h1 G) bG,z⟩
 have aw:=ifF au a8;refine Ws<|Rq z z z<|Rw z<|Wc z (λa9=>?_) (λa9=>?_)
 .refine Wq ?_;obtain ⟨bH,b6,b7⟩:=bdS<|ifT aw a9;refine Wt (λa w=>∃(ak:Bool),ak=bH/\Sat 102 [(4,vB ak)] a/\Below J.z J w) ?_ ?_
  .refine Wg<|R z (lN (vs:=vR x2 A2 N2 C2 A3 N3 C3 A1 N1 C1 A4 N4 C4) H_ m_ z z fid<|h6.row 0 8 z) ?_
   have ht:=(h1.ag B).e G;have aQ:=lt_ h1.s G.s;obtain ⟨bI,bJ,ax⟩:=bdS b6;refine E z (fc call164 z<|e_i bJ (zt' L aQ) a3 a4 V (W.g ht) (a5.g ht) (a6.g ht) (Y.g ht)<|ii z) ?_;rintro _ _ ⟨ss,rfl⟩;refine Rm z ?_
   rcases bs bI with hcc | hcc
   .refine Rh z hcc (fd a_H z)<|Rh z hcc (l0 g_3 z<|(h6.e ss).at z) ?_
    obtain ⟨bK,bL,b8⟩:=bdS<|ifT ax hcc;refine Eg z z hcc z (fc call120 z<|e_h bL (zt' L<|lt_ aQ ss.s) V (ii z)<|ii z) ?_;rintro _ _ ⟨bM,rfl⟩;exact R z (pT z hcc z)<|Ra z<|Wl (λ_ q=>⟨bK,som b8,q.k<|s1 z,bup ss bM⟩)
   iterate 3 refine Nh z hcc ?_
   exact R z (pF z hcc z)<|Ra z<|Wl (λ_ q=>⟨false,som<|ifF ax hcc,q.k<|s1 z,ss⟩)
  rintro bN _ ⟨ak,rfl,_,bO⟩;revert bN;refine Wo ?_;obtain rfl:=som b7;exact Wr<|rtO<|c_ hr z ⟨bup (bup h1 G) bO,z⟩
 have ay:=ifF aw a9;refine Ws<|Rq z z z<|Rw z<|Wc z (λaa=>?_) (λaa=>?_)
 .refine Wq ?_;obtain ⟨bP,b9,ba⟩:=bdS<|ifT ay aa;refine Wt (λa w=>∃(al:Bool),al=bP/\Sat 102 [(4,vB al)] a/\Below J.z J w) ?_ ?_
  .refine Wd (X:=noX) 0 (pl_ 12 [1,8]) mo (by kernel_rfl) λcv sf _=>?_
   have aR:=h6.e sf;refine dR z z (lN (vs:=vR x2 A2 N2 C2 A3 N3 C3 A1 N1 C1 A4 N4 C4) H_ m_ z z fid<|aR.row 0 8 z) ?_;have hl:=((h1.ag B).e G).e sf;have aS:=lt_ (lt_ h1.s G.s) sf.s;obtain ⟨bQ,bR,az⟩:=bdS b9;refine dE z z (fc call164 z<|e_i bR (zt' L aS) a3 a4 V (W.g hl) (a5.g hl) (a6.g hl) (Y.g hl)<|ii z) (.inr λ_ _ h=>C_<|h.1) ?_;rintro _ _ ⟨sg,rfl⟩;refine dM z z z ?_
   rcases bs bQ with H | H
   .refine dRg z z z H z (lN (vs:=[sl A0 N0 C0]) w_ v_ z z fid<|(((hx.e G).e sf).e sg).row 0 1 z)<|dRg z z z H z (fd P_ z)<|dRg z z z H z (l0 E_ z<|(aR.e sg).at z) ?_
    obtain ⟨_,bS,bb⟩:=bdS<|ifT az H;have aT:=hl.e sg;refine b_v z z z H z (at_ (α:=Int) x_ z_3 z z z (Y.g aT) bS) ?_;rintro _ ⟨_,_,_,rfl,bT,bU,_⟩;obtain ⟨rfl,bV⟩:=T_ bU;refine dRg z z z H z (l0 g_3 z<|bT.at0 z) ?_;obtain ⟨bW,bX,bc⟩:=bdS bb;refine dEg z z z H z (fc call143 z<|f_s bX (zt' L<|lt_ aS sg.s) (a7.g aT) bV) (.inr λ_ _ h=>C_<|h.1) ?_;rintro _ _ ⟨bY,rfl,_⟩;exact dRg z z z H z (a_b z z)<|dR z z (pT z H z)<|dQ z z z<|pD (λ_ q=>⟨decide<|0<bW,som bc,q.k<|s1 z,bup (bup sf sg) bY⟩)
   iterate 5 refine dRn z z z H z ?_
   exact dEn z z z H z<|dRn z z z H z<|dR z z (pF z H z)<|dQ z z z<|pD (λ_ q=>⟨false,som<|ifF az H,q.k<|s1 z,bup sf sg⟩)
  rintro bZ _ ⟨al,rfl,_,c0⟩;revert bZ;refine Wo ?_;obtain rfl:=som ba;exact Wr<|rtO<|c_ hr z ⟨bup (bup h1 G) c0,z⟩
 have aA:=ifF ay aa;refine Ws<|Rq z z z<|Rw z<|Wc z (λab=>?_) (λab=>?_)
 .refine Wq ?_;obtain ⟨c1,be,bf⟩:=bdS<|ifT aA ab;refine Wt (λa w=>∃(am:Bool),am=c1/\Sat 102 [(4,vB am)] a/\Below J.z J w) ?_ ?_
  .refine Wd (X:=noX) 0 (pl_ 12 [1,8]) mo (by kernel_rfl) λcw sh _=>?_
   have aU:=h6.e sh;refine dR z z (lN (vs:=vR x2 A2 N2 C2 A3 N3 C3 A1 N1 C1 A4 N4 C4) H_ m_ z z fid<|aU.row 0 8 z) ?_;have hn:=((h1.ag B).e G).e sh;have aV:=lt_ (lt_ h1.s G.s) sh.s;obtain ⟨c2,c3,aB⟩:=bdS be;refine dE z z (fc call164 z<|e_i c3 (zt' L aV) a3 a4 V (W.g hn) (a5.g hn) (a6.g hn) (Y.g hn)<|ii z) (.inr λ_ _ h=>C_<|h.1) ?_;rintro _ _ ⟨si,rfl⟩;refine dM z z z ?_
   rcases bs c2 with I | I
   .refine dRg z z z I z (lN (vs:=[sl A0 N0 C0]) w_ v_ z z fid<|(((hx.e G).e sh).e si).row 0 1 z)<|dRg z z z I z (fd P_ z)<|dRg z z z I z (l0 E_ z<|(aU.e si).at z) ?_
    obtain ⟨_,c4,bg⟩:=bdS<|ifT aB I;have aW:=hn.e si;refine b_v z z z I z (at_ (α:=Int) x_ z_3 z z z (Y.g aW) c4) ?_;rintro _ ⟨_,_,_,rfl,c5,c6,_⟩;obtain ⟨rfl,c7⟩:=T_ c6;refine dRg z z z I z (l0 g_3 z<|c5.at0 z) ?_;obtain ⟨c8,c9,bh⟩:=bdS bg;refine dEg z z z I z (fc call143 z<|f_s c9 (zt' L<|lt_ aV si.s) (a7.g aW) c7) (.inr λ_ _ h=>C_<|h.1) ?_;rintro _ _ ⟨ca,rfl,_⟩;exact dRg z z z I z (a_b z z)<|dR z z (pT z I z)<|dQ z z z<|pD (λ_ q=>⟨decide<|0<c8,som bh,q.k<|s1 z,bup (bup sh si) ca⟩)
   iterate 5 refine dRn z z z I z ?_
   exact dEn z z z I z<|dRn z z z I z<|dR z z (pF z I z)<|dQ z z z<|pD (λ_ q=>⟨false,som<|ifF aB I,q.k<|s1 z,bup sh si⟩)
  rintro cb _ ⟨am,rfl,_,cc⟩;revert cb;refine Wo ?_;obtain rfl:=som bf;exact Wr<|rtO<|c_ hr z ⟨bup (bup h1 G) cc,z⟩
 have aC:=ifF aA ab;refine Ws<|Rq z z z<|Rw z<|Wc z (λad=>?_) (λad=>?_)
 .refine Ws<|R z (lN (vs:=vR x2 A2 N2 C2 A3 N3 C3 A1 N1 C1 A4 N4 C4) H_ m_ z z fid<|h6.row 0 8 z) ?_
  have hu:=(h1.ag B).e G;obtain ⟨_,cd,bi⟩:=bdS<|ifT aC ad;refine E z (fc call165 z<|W_w38 cd (zt' L<|lt_ h1.s G.s) a3 a4 V (W.g hu) (a5.g hu) (a6.g hu)<|Y.g hu) ?_;rintro _ _ ⟨ce,rfl⟩;refine Rw z ?_
  obtain rfl:=som bi;exact Wr<|rtO<|c_ hr z ⟨bup (bup h1 G) ce,z⟩
 have aD:=ifF aC ad;refine Ws<|Rq z z z<|Rw z<|Wc z (λae=>?_) (λae=>?_)
 .refine Ws<|R z (lN (vs:=[sl A0 N0 C0]) w_ v_ z z fid<|(hx.e G).row 0 1 z)<|R z (lN (vs:=vR x2 A2 N2 C2 A3 N3 C3 A1 N1 C1 A4 N4 C4) H_ m_ z z fid<|h6.row 0 8 z) ?_
  have ho:=(h1.ag B).e G;obtain ⟨_,cf,bj⟩:=bdS<|ifT aD ae;refine E z (fc call166 z<|W_w39 cf (zt' L<|lt_ h1.s G.s) (a7.g ho) a3 a4 V (W.g ho) (a5.g ho) (a6.g ho)<|Y.g ho) ?_;rintro _ _ ⟨cg,rfl⟩;refine Rw z ?_
  obtain rfl:=som bj;exact Wr<|rtO<|c_ hr z ⟨bup (bup h1 G) cg,z⟩
 refine Wq<|Ws<|Rq z z z<|Rw z ?_
 obtain ⟨ch,aE,aF⟩:=bdS<|ifF aD ae;refine Wt (λa w=>∃(an:Bool),an=ch/\Sat 102 [(3,pt ww.z),(6,vI x2.kind),(80,vB an)] a/\Below J.z J w) ?_ ?_
 .refine Wc z (λaf=>?_)<|λaf=>?_
  .exact a_5<|λ_ q=>⟨x2.kind==8,som<|ifT aE af,q.k<|s3 z z z,br J⟩
  exact Wg<|Rq z z z<|Ra z<|Wl (λ_ q=>⟨x2.kind==9,som<|ifF aE af,q.k<|s3 z z z,br J⟩)
 rintro ci aX ⟨an,rfl,_,sd⟩;revert ci;refine Wo<|Wc z (λah=>?_) (λah=>?_)
 .refine Ws<|R z (lN (vs:=vR x2 A2 N2 C2 A3 N3 C3 A1 N1 C1 A4 N4 C4) H_ m_ z z fid<|(h6.e sd).row 0 8 z) ?_
  have hv:=((h1.ag B).e G).e sd;obtain ⟨_,cj,bk⟩:=bdS<|ifT aF ah;refine E z (fc call164 z<|e_i cj (zt' L<|lt_ (lt_ h1.s G.s) sd.s) a3 a4 V (W.g hv) (a5.g hv) (a6.g hv) (Y.g hv)<|ii z) ?_;rintro _ _ ⟨ck,rfl⟩;refine Rw z ?_
  obtain rfl:=som bk;exact Wr<|rtO<|c_ hr z ⟨bup (bup (bup h1 G) sd) ck,z⟩
 have aG:=ifF aF ah;refine Ws<|Rq z z z<|Rw z<|Wc z (λai=>?_) (λai=>?_)
 .refine Wq ?_;obtain ⟨cl,bm,bn⟩:=bdS<|ifT aG ai;refine Wt (λa w=>∃(ao:Bool),ao=cl/\Sat 102 [(4,vB ao)] a/\Below aX.z aX w) ?_ ?_
  .refine Wg ?_;have aY:=h6.e sd;refine R z (lN (vs:=vR x2 A2 N2 C2 A3 N3 C3 A1 N1 C1 A4 N4 C4) H_ m_ z z fid<|aY.row 0 8 z) ?_;have hp:=((h1.ag B).e G).e sd;obtain ⟨cm,cn,aH⟩:=bdS bm;refine E z (fc call164 z<|e_i cn (zt' L<|lt_ (lt_ h1.s G.s) sd.s) a3 a4 V (W.g hp) (a5.g hp) (a6.g hp) (Y.g hp)<|ii z) ?_;rintro _ _ ⟨sm,rfl⟩;refine Rm z ?_
   rcases bs cm with a2 | a2
   .have aI:=ifT aH a2;refine Rh z a2 (fd b_f z) ?_;have aZ:=aY.e sm;refine Rh z a2 (l0 X_ z<|aZ.at z) ?_;have b0:=W.g<|hp.e sm
    refine Rh z a2 (lnR o_ z b0)<|Rh z a2 (eql z z)<|R z (pT z a2 z)<|Rm z ?_
    rcases bs ((x2.bytes.length:Int)==1) with a0 | a0
    .refine Rh z a0 (fd b_f z)<|Rh z a0 (l0 X_ z<|aZ.at z) ?_
     obtain ⟨co,cp,bo⟩:=bdS<|ifT aI a0;refine RXg z z a0 z (at_ (α:=UInt8) o_ z_5 z z z b0 cp) ?_;rintro _ ⟨_,_,_,rfl,cq,cr,_⟩;obtain rfl:=u8 cr;exact Rh z a0 (l0 g_5 z<|cq.at0 z)<|Rh z a0 (nq z z)<|R z (pT z a0 z)<|Ra z<|Wl (λ_ q=>⟨(byteI co) != (byteI (92:UInt8)),som bo,q.k<|s1 z,sm⟩)
    iterate 5 refine Nh z a0 ?_
    exact R z (pF z a0 z)<|Ra z<|Wl (λ_ q=>⟨false,som<|ifF aI a0,q.k<|s1 z,sm⟩)
   iterate 4 refine Nh z a2 ?_
   exact R z (pF z a2 z)<|Rm z<|Nh z z<|Nh z z<|Nh z z<|Nh z z<|Nh z z<|R z (pF z z z)<|Ra z<|Wl (λ_ q=>⟨false,som<|ifF aH a2,q.k<|s1 z,sm⟩)
  rintro ct _ ⟨ao,rfl,_,cu⟩;revert ct;refine Wo ?_;obtain rfl:=som bn;exact Wr<|rtO<|c_ hr z ⟨bup (bup (bup h1 G) sd) cu,z⟩
 refine Wk<|Ws<|Rw z ?_
 obtain rfl:=som<|ifF aG ai;exact Wr<|c_ hr z ⟨bup (bup h1 G) sd,z⟩
theorem W_w3b {x1:d_}{x2:Int}{res:Bool}(hm:h_C n x1 x2=some res)(V:B<=w0.z)(O:repS w0 B (sl A0 N0 C0) x1.rules)(aU:inI x2):i_ prog 121 [(.agg #[sl A0 N0 C0]),vI x2] w0 (Q7 w0 B res):=by
 unfold h_C at hm
 refine goG func121 z z z λfn hr=>Ws<|E z (fb z) ?_
 rintro _ bf ⟨rfl,am⟩;have h2:=am.below;have ho:Blk bf w0.z [sl A0 N0 C0]:=am.blk;refine Rw z<|Wq<|Ws<|R z (lN (vs:=[sl A0 N0 C0]) w_ v_ z z fid<|ho.row 0 1 z)<|Rm z ?_
 obtain ⟨_,bg,a8⟩:=bdS hm;refine E z (fc call67 z<|l_U bg (zt' V h2.s) (O.e h2) aU) ?_;rintro _ J ⟨s5,rfl⟩;refine R z (not_ z)<|Wx z (λhcp=>?_) (λhcp=>?_)
 .refine Ws<|Rw z ?_
  obtain rfl:=som<|ifT a8 hcp;exact Wr<|c_ hr z ⟨bup h2 s5,z⟩
 refine Wk<|Ws<|Rf z a_i z ?_
 have an:=ho.e s5;refine R z (l0 a_n z<|an.at z)<|Rm z ?_
 obtain ⟨L,bh,aV⟩:=bdS<|ifF a8 hcp;have ao:=(h2.ag B).e s5;refine RX z (at_ (α:=b_) V_ m_ z z z (O.g ao) bh) ?_;rintro _ ⟨_,_,_,rfl,bi,bj,_⟩;obtain ⟨aq,nr,cs,au,nt,cv,aw,nx,cy,ae,nf,cg,rfl,ap,bk,bm,bn,bo,bp,hj⟩:=a_F bj;refine R z (lN (vs:=vR L aq nr cs au nt cv aw nx cy ae nf cg) H_ m_ z z fid bi)<|E z (fa b_S) ?_
 rintro _ bq ⟨rfl,ar⟩;have h4:=ar.below;have av:Blk bq J.z [(Str.v (⟨[]⟩:Str)),vI 0,vI 0,vB false,sN,sN,sN,sN]:=ar.blk;refine E0 (fs0 (cur':=vR L aq nr cs au nt cv aw nx cy ae nf cg) m_ z z av z z z z) ?_;rintro _ ax ⟨hk,bt⟩;have h3:=bt.one;refine Wn<|Wq<|Wq ?_
 obtain ⟨bu,aW,a9⟩:=bdS aV;refine Wt (λa w=>∃(xz:Bool),xz=bu/\Sat 65 [(1,vI x2),(2,pt w0.z),(5,pt J.z),(31,vB xz)] a/\Below ax.z ax w) ?_ ?_
 .refine Wg<|Rf z d_J z<|R z (l0 g_9 z<|hk.at z) ?_
  obtain ⟨bv,bw,aa⟩:=bdS aW;refine E z (fc call139 z<|l_V bw (zt' V<|lt_ (lt_ (lt_ h2.s s5.s) h4.s) h3.s) ap) ?_;rintro _ _ ⟨sm,rfl⟩;refine R z (not_ z)<|Rm z ?_
  rcases bs (!bv) with G | G
  .iterate 3 refine Nh z G ?_
   exact Nv z<|Nv z<|Nv z<|Nh z G<|R z (pT z G z)<|Wl (λ_ q=>⟨true,som<|ifT aa G,q.k<|s4 z z z z,sm⟩)
  have ab:=ifF aa G;refine Rh z G (fd d_k z) ?_;have ay:=hk.e sm;refine Rh z G (l0 g_4 z<|ay.at z)<|Rh z G (mv z) ?_
  rcases bs L.little with H | H
  .exact Rh z H (fd a_o z)<|Rh z H (l0 g_3 z<|ay.at z)<|Rh z H (nq z z)<|Rh z G (pT z H z)<|R z (pF z G z)<|Wl (λ_ q=>⟨L.kind != 1,som<|ifT ab H,q.k<|s4 z z z z,sm⟩)
  iterate 3 refine Nh z H ?_
  exact Rh z G (pF z H z)<|R z (pF z G z)<|Wl (λ_ q=>⟨false,som<|ifF ab H,q.k<|s4 z z z z,sm⟩)
 rintro bx wh ⟨xz,rfl,_,s1⟩;revert bx;refine Wo<|Wc z (λW=>?_) (λW=>?_)
 .refine Ws<|Rw z ?_
  obtain rfl:=som<|ifT a9 W;exact Wr<|c_ hr z ⟨bup (bM (bup (bup h2 s5) h4) h3<|m1<|lt_ h2.s s5.s) s1,z⟩
 refine Wk<|Wq<|Ws<|Rf z a_i z ?_
 have az:=((an.e h4).c h3<|djs<|mm1 ho.lt s5.s).e s1;refine R z (l0 a_n z<|az.at z)<|Rm z ?_
 obtain ⟨bz,bA,aX⟩:=bdS<|ifF a9 W;have hd:=lt_ h2.s s5.s;have aA:∀k∈[J.z],¬B k:=or0 (f_ lr)<|p_<|zt' V hd;have aB:=((ao.e h4).c h3<|e_ aA).e s1;refine RX z (rX V_ m_ z z (O.g aB) z z bA) ?_;rintro _ ⟨bB,bC,bD,rfl,a1⟩;refine R z (lnR V_ z a1)<|Rm z<|Wn ?_
 obtain ⟨_,aY,ad⟩:=bdS aX;refine Wf (σ:=Unit) (ρ:=Bool) (λ(aC:Nat)(_:Unit) a w=>Sat 65 [(1,vI x2),(2,pt w0.z),(5,pt J.z),(35,sl bB bC bD),(36,vI (bz.length:Int)),(37,vI ((aC:Nat):Int))] a/\Below wh.z wh w) (λ(_:Unit) a w=>Sat 65 [(1,vI x2),(2,pt w0.z),(5,pt J.z)] a/\Below wh.z wh w) (rQ prog fn<|Q7 w0 B) aY ?_ ?_ ?_ ?_ ?_
 .exact λ_ q=>⟨q.k<|s6 z z z z z z,br wh⟩
 .rintro aC _ _ bE _ af ⟨aZ,sa⟩ b0;refine Wu ?_ aZ;refine Ws<|Rl z z z<|Wn<|Wq<|Wc z (λ_=>?_) (λhc=>(Q_ af hc).elim)
  refine Wk<|Wq<|Wb<|Ws ?_
  obtain ⟨aD,bF,ah⟩:=bdS b0;refine RX z (at_ (α:=b_) V_ m_ z z z (a1.e sa) bF) ?_;rintro _ ⟨_,_,_,rfl,bG,bH,_⟩;obtain ⟨aE,aF,aG,aH,aI,aJ,aK,aL,aM,aN,aO,aP,rfl,_,_,_,_,_,_,_⟩:=a_F bH;refine R z (lN (vs:=vR aD aE aF aG aH aI aJ aK aL aM aN aO aP) H_ m_ z z fid bG)<|E z (fa b_S) ?_
  rintro _ bI ⟨rfl,aQ⟩;have a2:=aQ.below;refine E0 (fs0 (cur':=vR aD aE aF aG aH aI aJ aK aL aM aN aO aP) m_ z z (aQ.blk:Blk bI bE.z [(Str.v (⟨[]⟩:Str)),vI 0,vI 0,vB false,sN,sN,sN,sN]) z z z z) ?_;rintro _ _ ⟨bJ,bK⟩;have a3:=bK.one;refine Wn<|Ws<|Rf z d_J z<|R z (l0 g_9 z<|bJ.at z)<|Rf z d_J z<|R z (l0 g_9 z<|((((hk.e s1).e sa).e a2).c a3<|djs<|mm1 av.lt<|lt_ (lt_ h3.s s1.s) sa.s).at z)<|R z (a_K z z)<|Wx z (λY=>?_) (λY=>?_)
  .exact Ws<|Rw z<|Wr<|rtO<|qL (som<|ifT ah Y).symm<|c_ hr z ⟨bM (bup (bup (bup (bM (bup (bup h2 s5) h4) h3<|m1 hd) s1) sa) a2) a3<|m1<|lt_ (lt_ (lt_ (lt_ hd h4.s) h3.s) s1.s) sa.s,z⟩
  exact Wk<|Wg<|R z (inc_ af (lt_ (repS.len a1) B_) z z)<|Rm z<|Wl (λ_ q=>⟨(),(som<|ifF ah Y).symm,⟨q.k<|s6 z z z z z z,bM (bup sa a2) a3<|m1 sa.s⟩⟩)
 .rintro _ _ _ ⟨b1,bL⟩;refine Wu ?_ b1;refine Ws<|Rl z z z<|Wn<|Wq<|Wc z (λhc=>(R_ hc).elim) (λ_=>?_)
  exact We<|λ_ q=>⟨rfl,⟨q.k<|s3 z z z,bL⟩⟩
 .rintro _ bN wi rfl ⟨_,sb⟩;have b2:=elL ad;revert bN;refine Wo<|Wq<|Ws<|Rf z P_ z ?_
  have aR:=(hk.e s1).e sb;refine R z (l0 E_ z<|aR.at z) ?_;have a4:=(((h4.ag B).c h3<|e_ aA).e s1).e sb;refine R z (lnR x_ z<|hj.g a4)<|Rm z<|Wn ?_
  obtain ⟨_,b3,ai⟩:=bdS b2;refine Wf (σ:=Unit) (ρ:=Bool) (λ(a5:Nat)(_:Unit) a w=>Sat 65 [(1,vI x2),(2,pt w0.z),(5,pt J.z),(48,sl ae nf cg),(49,vI (L.kids.length:Int)),(50,vI ((a5:Nat):Int))] a/\Below wi.z wi w) (λ(_:Unit) a w=>Sat 65 [(2,pt w0.z),(5,pt J.z)] a/\Below wi.z wi w) (rQ prog fn<|Q7 w0 B) b3 ?_ ?_ ?_ ?_ ?_
  .exact λ_ q=>⟨q.k<|s6 z z z z z z,br wi⟩
  .rintro a5 _ _ wl _ aj ⟨b4,a6⟩ b5;refine Wu ?_ b4;refine Ws<|Rl z z z<|Wn<|Wq<|Wc z (λ_=>?_) (λhc=>(Q_ aj hc).elim)
   refine Wk<|Wq<|Wb<|Ws ?_
   obtain ⟨aS,bO,b6⟩:=bdS b5;refine RX z (at_ (α:=Int) x_ z_3 z z z (hj.g<|a4.e a6) bO) ?_;rintro _ ⟨_,_,_,rfl,bP,bQ,_⟩;obtain ⟨rfl,_⟩:=T_ bQ;refine R z (l0 g_3 z<|bP.at0 z)<|Rw z<|Wq ?_
   obtain ⟨bR,ak,al⟩:=bdS b6;refine Wt (λa w=>∃(a7:Bool),a7=bR/\Sat 65 [(1,vI x2),(2,pt w0.z),(5,pt J.z),(48,sl ae nf cg),(49,vI (L.kids.length:Int)),(50,vI ((a5:Nat):Int)),(60,vB a7)] a/\Below wl.z wl w) ?_ ?_
   .refine Wg<|Rm z<|Rl z z z<|Rm z ?_
    rcases bs (decide<|aS<0) with I | I
    .iterate 3 refine Nh z I ?_
     exact R z (pT z I z)<|Wl (λ_ q=>⟨true,som<|ifT ak I,q.k<|s7 z z z z z z z,br wl⟩)
    exact Rh z I (mv z)<|Rh z I (mv z)<|Rh z I (c_d z z)<|R z (pF z I z)<|Wl (λ_ q=>⟨decide<|x2<=aS,som<|ifF ak I,q.k<|s7 z z z z z z z,br wl⟩)
   rintro bS _ ⟨a7,rfl,_,aT⟩;revert bS;refine Wo<|Wc z (λa0=>?_) (λa0=>?_)
   .exact Ws<|Rw z<|Wr<|rtO<|qL (som<|ifT al a0).symm<|c_ hr z ⟨bup (bup (bup (bup (bM (bup (bup h2 s5) h4) h3<|m1 hd) s1) sb) a6) aT,z⟩
   exact Wk<|Wg<|R z (inc_ aj (lt_ (repS.len hj) B_) z z)<|Rm z<|Wl (λ_ q=>⟨(),(som<|ifF al a0).symm,⟨q.k<|s6 z z z z z z,bup a6 aT⟩⟩)
  .rintro _ _ _ ⟨b7,bT⟩;refine Wu ?_ b7;refine Ws<|Rl z z z<|Wn<|Wq<|Wc z (λhc=>(R_ hc).elim) (λ_=>?_)
   exact We<|λ_ q=>⟨rfl,⟨q.k<|s2 z z,bT⟩⟩
  .rintro _ bU _ rfl ⟨_,sc⟩;have b8:=elL ai;revert bU;refine Wo<|Ws<|R z (lN (vs:=[sl A0 N0 C0]) w_ v_ z z fid<|((az.e sb).e sc).row 0 1 z)<|R z (lN (vs:=vR L aq nr cs au nt cv aw nx cy ae nf cg) H_ m_ z z fid<|(aR.e sc).row 0 8 z) ?_
   have hn:=a4.e sc;obtain ⟨_,bV,b9⟩:=bdS b8;refine E z (fc call142 z<|W_w3a bV (zt' V<|lt_ (lt_ (lt_ (lt_ (lt_ hd h4.s) h3.s) s1.s) sb.s) sc.s) (O.g<|(aB.e sb).e sc) ap bk bm (bn.g hn) (bo.g hn) (bp.g hn)<|hj.g hn) ?_;rintro _ _ ⟨bW,rfl⟩;refine Rw z ?_
   obtain rfl:=som b9;exact Wr<|c_ hr z ⟨bup (bup (bup (bup (bM (bup (bup h2 s5) h4) h3<|m1 hd) s1) sb) sc) bW,z⟩
  rintro _ _ _ _ rfl ⟨rfl,ba⟩;have bb:=elR ai;obtain rfl:=som bb;exact ⟨ba,z⟩
 rintro _ _ _ _ rfl ⟨rfl,bc⟩;have be:=elR ad;obtain rfl:=som be;exact ⟨bc,z⟩
theorem W_w3c {x1:d_}{res:Bool}(hm:g_l n x1=some res)(V:B<=w0.z)(H:repS w0 B (sl A0 N0 C0) x1.rules):i_ prog 66 [(.agg #[sl A0 N0 C0])] w0 (Q7 w0 B res):=by
 unfold g_l at hm
 refine goG func66 z z z λfn hr=>Ws<|E z (fb z) ?_
 rintro _ wh ⟨rfl,W⟩;have G:=W.below;have Y:Blk wh w0.z [sl A0 N0 C0]:=W.blk;refine Rw z<|Wq<|Ws<|Rf z a_i z<|R z (l0 a_n z<|Y.at z) ?_
 have h9:=H.e G;refine R z (lnR V_ z h9) ?_;obtain ⟨_,ei,hma⟩:=bdS hm;refine E z (fc call120 z<|e_h ei (zt' V G.s) (b_T<|repS.len h9) (ii z)<|ii z) ?_;rintro _ I ⟨s1,rfl⟩;refine R z (not_ z)<|Wx z (λJ=>?_) (λJ=>?_)
 .refine Ws<|Rw z ?_
  obtain rfl:=som<|ifT hma J;exact Wr<|c_ hr z ⟨bup G s1,z⟩
 refine Wk<|Wq<|Ws<|Rf z a_i z ?_
 have hb:=Y.e s1;refine R z (l0 a_n z<|hb.at z) ?_;have hd:=(G.ag B).e s1;refine R z (lnR V_ z<|H.g hd)<|Rm z<|Wn ?_
 obtain ⟨_,huj,hmc⟩:=bdS<|ifF hma J;refine Wf (σ:=Unit) (ρ:=Bool) (λ(ke:Nat)(_:Unit) a w=>Sat 20 [(1,pt w0.z),(11,vI (x1.rules.length:Int)),(12,vI ((ke:Nat):Int))] a/\Below I.z I w) (λ(_:Unit) a w=>Sat 20 [] a/\Below I.z I w) (rQ prog fn<|Q7 w0 B) huj ?_ ?_ ?_ ?_ ?_
 .exact λ_ q=>⟨q.k<|s3 z z z,br I⟩
 .rintro ke _ _ _ _ L ⟨hSk,s4⟩ hml;refine Wu ?_ hSk;refine Ws<|Rl z z z<|Wn<|Wq<|Wc z (λ_=>?_) (λhc=>(Q_ L hc).elim)
  refine Wk<|Wq<|Wb<|Wm z<|Rw z<|Ws<|R z (lN (vs:=[sl A0 N0 C0]) w_ v_ z z fid<|(hb.e s4).row 0 1 z)<|Rm z ?_
  obtain ⟨_,em,hmf⟩:=bdS hml;refine E z (fc call121 z<|W_w3b em (zt' V<|lt_ (lt_ G.s s1.s) s4.s) (H.g<|hd.e s4)<|ic (Nat.le_of_lt L)<|lt_ (repS.len H) B_) ?_;rintro _ _ ⟨sg,rfl⟩;refine R z (not_ z)<|Wx z (λO=>?_) (λO=>?_)
  .exact Ws<|Rw z<|Wr<|rtO<|qL (som<|ifT hmf O).symm<|c_ hr z ⟨bup (bup (bup G s1) s4) sg,z⟩
  exact Wk<|Wg<|R z (inc_ L (lt_ (repS.len H) B_) z z)<|Rm z<|Wl (λ_ q=>⟨(),(som<|ifF hmf O).symm,⟨q.k<|s3 z z z,bup s4 sg⟩⟩)
 .rintro _ _ _ ⟨hSn,so⟩;refine Wu ?_ hSn;refine Ws<|Rl z z z<|Wn<|Wq<|Wc z (λhc=>(R_ hc).elim) (λ_=>?_)
  exact We<|λ_ q=>⟨rfl,⟨q.k sn,so⟩⟩
 .rintro _ ap _ rfl ⟨_,sq⟩;have hmr:=elL hmc;revert ap;refine Wo<|Ws<|Rw z ?_
  obtain rfl:=som hmr;exact Wr<|c_ hr z ⟨bup (bup G s1) sq,z⟩
 rintro _ _ _ _ rfl ⟨rfl,hqs⟩;have hmt:=elR hmc;obtain rfl:=som hmt;exact ⟨hqs,z⟩
theorem k_b {x1:d_}{x2:Int}{res:Bool}(hm:e_M n x1 x2=some res)(J:B<=w0.z)(I:repS w0 B (sl A0 N0 C0) x1.rules)(O:inI x2):i_ prog 37 [(.agg #[sl A0 N0 C0]),vI x2] w0 (Q7 w0 B res):=by
 unfold e_M at hm
 refine goG func37 z z z λfn hr=>Ws<|E z (fb z) ?_
 rintro _ H ⟨rfl,h5⟩;have h1:=h5.below;have h6:Blk H w0.z [sl A0 N0 C0]:=h5.blk;refine Rw z<|Wq ?_
 obtain ⟨u8,V,hma⟩:=bdS hm;refine Wt (λa w=>∃(x4:Bool),x4=u8/\Sat 12 [(4,vB x4)] a/\Below H.z H w) ?_ ?_
 .refine Wg<|R z (lN (vs:=[sl A0 N0 C0]) w_ v_ z z fid<|h6.row 0 1 z) ?_
  obtain ⟨rb,ec,L⟩:=bdS V;refine E z (fc call66 z<|W_w3c ec (zt' J h1.s)<|I.e h1) ?_;rintro _ _ ⟨s2,rfl⟩;refine Rm z ?_
  rcases bs rb with G | G
  .refine Rh z G (lN (vs:=[sl A0 N0 C0]) w_ v_ z z fid<|(h6.e s2).row 0 1 z)<|Rh z G (mv z) ?_
   obtain ⟨rd,ee,hmf⟩:=bdS<|ifT L G;refine Eg z z G z (fc call67 z<|l_U ee (zt' J<|lt_ h1.s s2.s) (I.g<|(h1.ag B).e s2) O) ?_;rintro _ _ ⟨sg,rfl⟩;exact R z (pT z G z)<|Ra z<|Wl (λ_ q=>⟨rd,som hmf,q.k<|s1 z,bup s2 sg⟩)
  iterate 3 refine Nh z G ?_
  exact R z (pF z G z)<|Ra z<|Wl (λ_ q=>⟨false,som<|ifF L G,q.k<|s1 z,s2⟩)
 rintro ah _ ⟨x4,rfl,_,si⟩;revert ah;refine Wo ?_;obtain rfl:=som hma;exact Wr<|c_ hr z ⟨bup h1 si,z⟩
def Q21 (w0:World)(B:Zone)(r:(Option<|Int×Int))(v:Value)(w':World):Prop:=Bw w0 w'/\(λG=>∃(v1:Value)(S1:List Nat),v1=v/\a_C 80 w' S1 v1 G/\(∀k∈S1,w0.z<=k)) r
theorem e_W {x1:Int}{x2:Int}{res:(Option<|Int×Int)}(hm:c_7 x1 x2=some res)(L:B<=w0.z)(H:inI x1)(I:inI x2):i_ prog 77 [vI x1,vI x2] w0 (Q21 w0 B res):=by
 unfold c_7 at hm
 refine goG func77 z z z λfn hr=>Ws<|Rw z<|Wm z<|Rm z<|R z (bP (parts:=[(0,.tmp 5),(1,.tmp 6)]) (cs:=[vI x1,vI x2]) t_I z z)<|E z (fb z) ?_
 rintro _ J ⟨rfl,G⟩;refine R z (d_u d_80 (λ_ h=>by cases h) z)<|Rw z ?_
 obtain rfl:=som hm;exact Wr<|c_ hr z ⟨G.below,.iface 80<|pt w0.z,[w0.z],z,q_g (G.blk:Blk J w0.z [vI x1,vI x2]) H I z,f_ lr⟩
def Q22 (w0:World)(B:Zone)(r:Bt×(Option<|Int×Int))(v:Value)(w':World):Prop:=Bw w0 w'/\un2 (λJ L=>∃(G:Option Addr)(H I:Nat)(v2:Value)(S2:List Nat),v = .tuple #[sl G H I,v2]/\repS w' w'.z (sl G H I) J/\a_C 80 w' S2 v2 L/\(∀k∈S2,w0.z<=k)) r
theorem k_c {x1:a_u}{b1 o1:Nat}{x2:Int}{x3:Int}{res:Bt×(Option<|Int×Int)}(hm:e_O x1 x2 x3=some res)(I:B<=w0.z)(a0:repS w0 B (sl A0 N0 C0) x1.d.rules)(H:repS w0 B (sl A6 N6 C6) x1.b)(hC1:L_ w0 b1 o1 [sl A0 N0 C0,sl A6 N6 C6])(hC1b:B b1)(J:inI x2)(a1:inI x3):i_ prog 122 [(.pointer<|some ⟨b1,o1,none⟩),vI x2,vI x3] w0 (Q22 w0 B res):=by
 unfold e_O at hm
 refine goG func122 z z z λfn hr=>Ws<|Ra z<|Rw z<|Wq<|Wm z<|Rm z<|R z (J_ z)<|Rf z g_y z<|R z (l0 X_ z<|hC1.at (j:=1) z)<|R z (lnR o_ z H)<|Rm z<|R z (sb_ z z)<|R z (a_b z z)<|Wx z (λG=>?_) (λG=>?_)
 .refine Wm z ?_
  obtain ⟨_,V,L⟩:=bdS<|ifT hm G;refine E z (fc call77 z<|e_W (B:=B) V I J<|ii z) ?_;rintro _ _ ⟨s1,v4,W,rfl,h6,Y⟩;refine Ra z<|Rw z ?_
  obtain rfl:=som L;exact Wr<|a_9 hr z z ⟨s1,none,0,0,v4,W,z,repS.mono (or_ onL an_)<|Y_ s1.s,h6,Y⟩
 refine Wk<|Wm z<|R z (J_ z)<|Rf z g_y z<|R z (l0 X_ z<|hC1.at (j:=1) z)<|RM z z<|Rm z<|R z (add_ z z) ?_
 obtain ⟨_,e8,O⟩:=bdS<|ifF hm G;refine RX z (rX o_ z_5 z z H z z e8) ?_;rintro _ ⟨aa,nb,cc,rfl,hd⟩;refine Ra z<|Rw z ?_
 obtain rfl:=som O;exact Wr<|a_9 hr z z ⟨br w0,aa,nb,cc,.nilIface,([]:List Nat),z,repS.mono hd I,e_p,an_⟩
theorem W_w1j {x1:Bt}{x2:Bool}{res:Int}(hm:f_k x1 x2=some res)(W:B<=w0.z)(G:repS w0 B (sl A0 N0 C0) x1):i_ prog 123 [sl A0 N0 C0,vB x2] w0 (Q0 w0 B res):=by
 unfold f_k at hm
 refine goG func123 z z z λfn hr=>Ws<|Rw z<|Wq<|Wm z<|R z (lnR o_ z G)<|R z (a_b z z)<|Wx z (λI=>?_) (λI=>?_)
 .refine Ws<|Rw z ?_
  obtain rfl:=som<|ifT hm I;exact Wr<|c_ hr z ⟨br w0,z,ii z⟩
 refine Wk<|Ws<|Rw z<|Wq<|Wm z<|R z (lnR o_ z G)<|Rm z<|Wn ?_
 obtain ⟨_,huc,L⟩:=bdS<|ifF hm I;refine Wf (σ:=Int) (ρ:=Int) (λ(k5:Nat)(x0:Int) a w=>Sat 38 [(0,sl A0 N0 C0),(1,vB x2),(5,vI x0),(11,vI (x1.length:Int)),(12,vI ((k5:Nat):Int))] a/\Below w0.z w0 w/\inI x0) (λ(x0:Int) a w=>Sat 38 [(5,vI x0)] a/\Below w0.z w0 w/\inI x0) (rQ prog fn<|Q0 w0 B) huc ?_ ?_ ?_ ?_ ?_
 .exact λ_ q=>⟨q.k<|s5 z z z z z,br w0,ii z⟩
 .rintro k5 x0 _ H _ O ⟨hSd,s6,h2⟩ hme;refine Wu ?_ hSd;refine Ws<|Rl z z z<|Wn<|Wq<|Wc z (λ_=>?_) (λhc=>(Q_ O hc).elim)
  refine Wk<|Wq<|Wb<|Wm z<|Rw z<|Wm z<|Wn ?_
  obtain ⟨uf,hua,hmg⟩:=bdS hme;refine Wt (λa w=>∃(x3:Int),x3=uf/\Sat 38 [(0,sl A0 N0 C0),(1,vB x2),(5,vI x3),(11,vI (x1.length:Int)),(12,vI ((k5:Nat):Int))] a/\Below H.z H w/\inI x3) ?_ ?_
  .refine Wc z (λJ=>?_)<|λJ=>?_
   .refine Wg<|Rm z<|R z (j_6 z z (by decide))<|RM z z ?_
    have hb:=G.e s6;refine R z (lnR o_ z hb)<|R z (sb_ z z)<|Rm z<|R z (sb_ z z) ?_
    obtain ⟨xh,ei,hmj⟩:=bdS<|ifT hua J;refine RX z (at_ (α:=UInt8) o_ z_5 z z z hb ei) ?_;rintro _ ⟨_,_,_,rfl,hk,hl,_⟩;obtain rfl:=u8 hl;exact R z (l0 g_5 z<|hk.at0 z)<|R z (c_h d_5 d_3 z)<|R z (rd_or z z)<|Ra z<|Wl (λ_ q=>⟨c_c .i64 (· ||| ·) (b_Z .i64 x0 8)<|byteI xh,som hmj,q.k<|s5 z z z z z,br H,m_D _ _ _⟩)
   refine Wg<|Rm z<|R z (j_6 z z (by decide))<|RM z z ?_
   obtain ⟨xm,en,hmo⟩:=bdS<|ifF hua J;refine RX z (at_ (α:=UInt8) o_ z_5 z z z (G.e s6) en) ?_;rintro _ ⟨_,_,_,rfl,hp,hq,_⟩;obtain rfl:=u8 hq;exact R z (l0 g_5 z<|hp.at0 z)<|R z (c_h d_5 d_3 z)<|R z (rd_or z z)<|Ra z<|Wl (λ_ q=>⟨c_c .i64 (· ||| ·) (b_Z .i64 x0 8)<|byteI xm,som hmo,q.k<|s5 z z z z z,br H,m_D _ _ _⟩)
  rintro ar _ ⟨x3,rfl,_,ss,ht⟩;revert ar;exact Wo<|Wg<|R z (inc_ O (lt_ (repS.len G) B_) z z)<|Rm z<|Wl (λ_ q=>⟨x3,(som hmg).symm,⟨q.k<|s5 z z z z z,bup s6 ss,ht⟩⟩)
 .rintro x0 _ _ ⟨hSu,sv,h2⟩;refine Wu ?_ hSu;refine Ws<|Rl z z z<|Wn<|Wq<|Wc z (λhc=>(R_ hc).elim) (λ_=>?_)
  exact We<|λ_ q=>⟨rfl,⟨q.k<|s1 z,sv,h2⟩⟩
 .rintro x0 aw _ rfl ⟨_,sx,h2⟩;have hmy:=elL L;revert aw;refine Wo<|Wm z<|Rw z ?_
  obtain rfl:=som hmy;exact Wr<|c_ hr z ⟨sx,z,h2⟩
 rintro _ _ _ _ rfl ⟨rfl,hqz⟩;have V:=elR L;obtain rfl:=som V;exact ⟨hqz,z⟩
def Q23 (w0:World)(B:Zone)(r:Int×Int×(Option<|Int×Int))(v:Value)(w':World):Prop:=Bw w0 w'/\un3 (λG H I=>∃(v1:Value)(S1:List Nat),v = .tuple #[vI G,vI H,v1]/\inI G/\inI H/\a_C 80 w' S1 v1 I/\(∀k∈S1,w0.z<=k)) r
theorem k_d {x1:a_u}{b1 o1:Nat}{x2:Int}{x3:Int}{res:Int×Int×(Option<|Int×Int)}(hm:e_P x1 x2 x3=some res)(L:B<=w0.z)(I:repS w0 B (sl A0 N0 C0) x1.d.rules)(a0:repS w0 B (sl A6 N6 C6) x1.b)(hC1:L_ w0 b1 o1 [sl A0 N0 C0,sl A6 N6 C6])(hC1b:B b1)(ab:inI x2)(J:inI x3):i_ prog 68 [(.pointer<|some ⟨b1,o1,none⟩),vI x2,vI x3] w0 (Q23 w0 B res):=by
 unfold e_P at hm
 refine goG func68 z z z λfn hr=>Ws<|RA z z<|Rw z<|Wm z<|R z (J_ z)<|Rf z p_c z<|Rf z a_i z<|R z (l0 a_n z<|hC1.at (j:=0) z)<|Rm z ?_
 obtain ⟨x5,eq,hmr⟩:=bdS hm;refine RX z (at_ (α:=b_) V_ m_ z z z I eq) ?_;rintro _ ⟨_,_,_,rfl,ht,hu,_⟩;obtain ⟨O,V,W,Y,na,cb,ac,nd,ce,af,ng,ch,rfl,_,_,hv,_,_,_,_⟩:=a_F hu;refine R z (lN (vs:=vR x5 O V W Y na cb ac nd ce af ng ch) H_ m_ z z fid ht)<|E z (fa b_S) ?_
 rintro _ ws ⟨rfl,hi⟩;have G:=hi.below;refine E0 (fs0 (cur':=vR x5 O V W Y na cb ac nd ce af ng ch) m_ z z (hi.blk:Blk ws w0.z [(Str.v (⟨[]⟩:Str)),vI 0,vI 0,vB false,sN,sN,sN,sN]) z z z z) ?_;rintro _ _ ⟨hj,sx⟩;have h1:=sx.one;refine Wn<|Wm z<|Rm z<|Rf z a_H z<|R z (l0 g_3 z<|hj.at z) ?_
 have hk:∀k∈[w0.z],¬B k:=or0 (f_ lr)<|p_ L;have hl:=(G.ag B).c h1<|e_ hk
 have hn:=lt_ G.s h1.s;obtain ⟨_,_,ey,hmm⟩:=a_8 hmr;refine E z (fc call122 z<|k_c ey (zt' L hn) (I.g hl) (a0.g hl) ((hC1.e G).c h1<|(e_ hk) _ hC1b) hC1b J hv) ?_;rintro _ wz ⟨s3,_,_,_,a2,a3,rfl,a4,ho,a5⟩;refine Rm z<|Re z z z<|Re z z z<|Ra z<|Rw z<|Wq<|Wm z<|R z (d_R e_e z z ho)<|Wx z (λH=>?_) (λH=>?_)
 .refine Wm z<|Rm z<|RA z z<|Rw z ?_
  obtain rfl:=som<|ifT hmm H;exact Wr<|A_ hr z z z ⟨bup (bM G h1<|f_ lr) s3,a2,a3,z,ii z,J,ho,n_ a5 hn⟩
 refine Wk<|Wq (Wd (X:=noX) 0 (.rd 0<|.rd 1<|.rd 2<|.rd 4<|.rd 5<|.rd 6<|.rd 7<|.ef 3<|.rd 8<|.rd 9<|.rd 10 .done) mo (by kernel_rfl) λad s2 _=>dM z z z<|dR z z (fd d_k z) ?_)
 have hp:=(hj.e s3).e s2;refine dR z z (l0 g_4 z<|hp.at z)<|dM z z z<|dR z z (fd a_H z)<|dR z z (l0 g_3 z<|hp.at z)<|dR z z (add_ z z) ?_
 obtain ⟨_,a7,a1⟩:=bdS<|ifF hmm H;refine dE z z (fc call123 z<|W_w1j (B:=wz.z) a7 (Y_ s2.s)<|a4.e s2) (.inr λ_ _ h=>C_<|h.1) ?_;rintro _ _ ⟨a8,rfl,aa⟩
 iterate 3 refine dQ z z z ?_
 refine pD<|Wo ?_
 obtain rfl:=som a1;exact Wr<|A_ hr z z z ⟨bup (bup (bup (bM G h1<|f_ lr) s3) s2) a8,.nilIface,([]:List Nat),z,aa,iA _ _,e_p,an_⟩
def Q24 (w0:World)(B:Zone)(r:Int×(Option<|Int×Int))(v:Value)(w':World):Prop:=Bw w0 w'/\un2 (λG H=>∃(v1:Value)(S1:List Nat),v = .tuple #[vI G,v1]/\inI G/\a_C 80 w' S1 v1 H/\(∀k∈S1,w0.z<=k)) r
theorem W_w3d {x1:a_u}{b1 o1:Nat}{x2:b_}{x3:Int}{res:Int×(Option<|Int×Int)}(hm:h_J x1 x2 x3=some res)(V:B<=w0.z)(ad:repS w0 B (sl A0 N0 C0) x1.d.rules)(a0:repS w0 B (sl A6 N6 C6) x1.b)(hC1:L_ w0 b1 o1 [sl A0 N0 C0,sl A6 N6 C6])(hC1b:B b1)(ae:x2.name.b.length<=LEN)(af:inI x2.kind)(ah:inI x2.size)(I:repS w0 B (sl A2 N2 C2) x2.bytes)(ai:repS w0 B (sl A3 N3 C3) x2.names)(aj:repS w0 B (sl A1 N1 C1) x2.tags)(ak:repS w0 B (sl A4 N4 C4) x2.kids)(J:inI x3):i_ prog 69 [(.pointer<|some ⟨b1,o1,none⟩),.agg #[Str.v x2.name,vI x2.kind,vI x2.size,vB x2.little,sl A2 N2 C2,sl A3 N3 C3,sl A1 N1 C1,sl A4 N4 C4],vI x3] w0 (Q24 w0 B res):=by
 unfold h_J at hm
 refine goG func69 z z z λfn hr=>Ws<|E z (fb z) ?_
 rintro _ H ⟨rfl,h6⟩;have G:=h6.below;have Y:Blk H w0.z (vR x2 A2 N2 C2 A3 N3 C3 A1 N1 C1 A4 N4 C4):=h6.blk;refine Ra z<|Rw z<|Wq<|Ws<|Rf z b_f z<|R z (l0 X_ z<|Y.at z)<|R z (lnR o_ z<|I.e G)<|Rm z<|Wn ?_
 obtain ⟨_,hui,W⟩:=bdS hm;refine Wf (σ:=Unit) (ρ:=Int×(Option<|Int×Int)) (λ(k9:Nat)(_:Unit) a w=>Sat 52 [(0,.pointer<|some ⟨b1,o1,none⟩),(2,vI x3),(4,pt w0.z),(11,sl A2 N2 C2),(12,vI (x2.bytes.length:Int)),(13,vI ((k9:Nat):Int))] a/\Below H.z H w) (λ(_:Unit) a w=>Sat 52 [(2,vI x3),(4,pt w0.z)] a/\Below H.z H w) (rQ prog fn<|Q24 w0 B) hui ?_ ?_ ?_ ?_ ?_
 .exact λ_ q=>⟨q.k<|s6 z z z z z z,br H⟩
 .rintro k9 _ _ _ _ hka ⟨hSj,s1⟩ hmk;refine Wu ?_ hSj;refine Ws<|Rl z z z<|Wn<|Wq<|Wc z (λ_=>?_) (λhc=>(Q_ hka hc).elim)
  refine Wk<|Wq<|Wb<|Wm z ?_
  obtain ⟨_,el,hmb⟩:=bdS hmk;have hd:=(G.ag B).e s1;refine RX z (at_ (α:=UInt8) o_ z_5 z z z (I.g hd) el) ?_;rintro _ ⟨_,_,_,rfl,hn,ho,_⟩;obtain rfl:=u8 ho;refine R z (l0 g_5 z<|hn.at0 z)<|Ra z<|Rw z<|Wq<|Wm z<|Rm z<|R z (add_ z z)<|Rm z<|R z (J_ z)<|Rf z g_y z ?_
  have he:=(hC1.e G).e s1;refine R z (l0 X_ z<|he.at (j:=1) z) ?_;have hf:=a0.g hd;refine R z (lnR o_ z hf)<|R z (c_d z z)<|Wx z (λL=>?_) (λL=>?_)
  .refine Wm z<|Rm z ?_
   have hg:=lt_ G.s s1.s;obtain ⟨_,em,hmp⟩:=bdS<|ifT hmb L;refine E z (fc call77 z<|e_W em (zt' V hg) J<|ii z) ?_;rintro _ _ ⟨sq,vr,Ss,rfl,ht,hu⟩;exact Ra z<|Rw z<|Wr<|rtO<|qL (som hmp).symm<|a_9 hr z z ⟨bup (bup G s1) sq,vr,Ss,z,J,ht,n_ hu hg⟩
  refine Wk<|Wm z<|R z (J_ z)<|Rf z g_y z<|R z (l0 X_ z<|he.at (j:=1) z)<|RM z z<|R z (add_ z z) ?_
  obtain ⟨_,ev,hmc⟩:=bdS<|ifF hmb L;refine RX z (at_ (α:=UInt8) o_ z_5 z z z hf ev) ?_;rintro _ ⟨_,_,_,rfl,hw,hx,_⟩;obtain rfl:=u8 hx;refine R z (l0 g_5 z<|hw.at0 z)<|Rm z<|R z (nq z z)<|Wx z (λO=>?_) (λO=>?_)
  .refine Wm z<|RM z z<|R z (add_ z z) ?_
   have hh:=lt_ G.s s1.s;obtain ⟨_,ey,hmz⟩:=bdS<|ifT hmc O;refine E z (fc call77 z<|e_W ey (zt' V hh) (iA _ _)<|ii z) ?_;rintro _ _ ⟨a5,a6,a7,rfl,a8,a9⟩;exact Ra z<|Rw z<|Wr<|rtO<|qL (som hmz).symm<|a_9 hr z z ⟨bup (bup G s1) a5,a6,a7,z,J,a8,n_ a9 hh⟩
  exact Wk<|Wg<|R z (inc_ hka (lt_ (repS.len I) B_) z z)<|Rm z<|Wl (λ_ q=>⟨(),(som<|ifF hmc O).symm,⟨q.k<|s6 z z z z z z,s1⟩⟩)
 .rintro _ _ _ ⟨a1,aa⟩;refine Wu ?_ a1;refine Ws<|Rl z z z<|Wn<|Wq<|Wc z (λhc=>(R_ hc).elim) (λ_=>?_)
  exact We<|λ_ q=>⟨rfl,⟨q.k<|s2 z z,aa⟩⟩
 .rintro _ ab _ rfl ⟨_,s5⟩;have a2:=elL W;revert ab;refine Wo<|Wm z<|Rf z b_f z<|R z (l0 X_ z<|(Y.e s5).at z)<|R z (lnR o_ z<|I.g<|(G.ag B).e s5)<|R z (add_ z z)<|Ra z<|Rw z ?_
  obtain rfl:=som a2;exact Wr<|a_9 hr z z ⟨bup G s5,.nilIface,([]:List Nat),z,iA _ _,e_p,an_⟩
 rintro _ _ _ _ rfl ⟨rfl,a3⟩;have a4:=elR W;obtain rfl:=som a4;exact ⟨a3,z⟩
def Q25 (w0:World)(B:Zone)(r:Val×Int×(Option<|Int×Int))(v:Value)(w':World):Prop:=Bw w0 w'/\un3 (λG H W=>∃(I:Option Addr)(J L:Nat)(S1:List Nat)(a2:Option Addr)(O V:Nat)(S2:List Nat)(v3:Value)(S3:List Nat),v = .tuple #[(.agg #[vI G.number,sl I J L,sl a2 O V]),vI H,v3]/\inI G.number/\a_ w' S1 (sl I J L) G.bytes/\a_ w' S2 (sl a2 O V) G.items/\inI H/\a_C 80 w' S3 v3 W/\(∀k∈S3,w0.z<=k)/\(S1++S2).Nodup/\(∀k∈(S1++S2),w0.z<=k)) r
theorem W_w1k {x1:a_u}{b1 o1:Nat}{x2:Int}{x3:Int}{res:Val×Int×(Option<|Int×Int)}(hm:g_q x1 x2 x3=some res)(a2:B<=w0.z)(Y:repS w0 B (sl A0 N0 C0) x1.d.rules)(a0:repS w0 B (sl A6 N6 C6) x1.b)(hC1:L_ w0 b1 o1 [sl A0 N0 C0,sl A6 N6 C6])(hC1b:B b1)(O:inI x2)(a1:inI x3):i_ prog 70 [(.pointer<|some ⟨b1,o1,none⟩),vI x2,vI x3] w0 (Q25 w0 B res):=by
 unfold g_q at hm
 refine goG func70 z z z λfn hr=>Ws<|E z (fa a_f) ?_
 rintro _ wk ⟨rfl,W⟩;have G:=W.below;have h2:Blk wk w0.z [vI 0,sN,sN]:=W.blk;refine Ra z<|Rw z<|Wm z<|RM z z ?_
 obtain ⟨_,_,el,V⟩:=a_8 hm;refine E z (fc call122 z<|k_c el (zt' a2 G.s) (Y.e G) (a0.e G) (hC1.e G) hC1b O a1) ?_;rintro _ _ ⟨s1,_,_,_,vm,Sn,rfl,ho,ha,hb⟩;refine Rm z<|Re z z z<|Re z z z<|Ra z<|Rw z<|Wq<|Wm z<|R z (d_R e_e z z ha)<|Wx z (λH=>?_) (λH=>?_)
 .refine Ws<|R z (bP (parts:=[]) (cs:=[vI 0,sN,sN]) a_4 z z)<|RM z z<|E0 (fs0 (cur':=[vI 0,sN,sN]) h_ z z (h2.e s1) z z z z) ?_
  rintro _ _ ⟨hp,sq⟩;have hc:=sq.one;refine Ra z<|Rw z ?_
  obtain rfl:=som<|ifT V H;exact Wr<|A_ hr (s_ y_ h_ z hp z) z z ⟨bM (bup G s1) hc<|f_ lr,none,0,0,[],none,0,0,[],vm,Sn,z,ii z,onL,onL,O,ha.c hc<|t_ hb h2.lt lr,n_ hb G.s,nd0,al0⟩
 refine Wk<|Ws<|E z (f0 (α:=UInt8) b_I) ?_
 rintro _ _ ⟨_,_,_,rfl,s3,ht⟩;refine Rm z ?_;obtain ⟨_,er,hms⟩:=bdS<|ifF V H;refine E z (fN (α:=UInt8) b_I er z z ht a_I<|ho.e s3) ?_;rintro _ _ ⟨Sd,I,J,L,rfl,se,hu,hv,hf⟩;refine R z (bP (parts:=[(1,.tmp 25)]) (cs:=[vI 0,sl I J L,sN]) a_4 z z)<|RM z z<|R z (add_ z z) ?_
 have hg:=mm1 h2.lt s1.s;refine E0 (fs0 (cur':=[vI 0,sl I J L,sN]) h_ z z (((h2.e s1).e s3).c se<|djs hg) z z z z) ?_;rintro _ _ ⟨hw,sx⟩;have hh:=sx.one;refine Ra z<|Rw z ?_
 obtain rfl:=som hms;have hi:=lt_ G.s s1.s;have hj:=m1 hi;exact Wr<|A_ hr (s_ y_ h_ z hw z) z z ⟨bM (bM (bup (bup G s1) s3) se hj) hh<|f_ lr,I,J,L,Sd,none,0,0,[],.nilIface,([]:List Nat),z,ii z,hu.c hh (or1 hf hg (a_T (f_ h2.lt)<|lt_ s1.s s3.s):∀k∈Sd,k∉[w0.z]),onL,iA _ _,e_p,an_,na_ hv U_<|nmN _,aa_ (c_6 hf hj<|lt_ hi s3.s) an_⟩
theorem W_w1l {x1:Bt}{res:Int}(hm:g_m x1=some res)(W:B<=w0.z)(G:repS w0 B (sl A0 N0 C0) x1):i_ prog 124 [sl A0 N0 C0] w0 (Q0 w0 B res):=by
 unfold g_m at hm
 refine goG func124 z z z λfn hr=>Ws<|Rw z<|Ws<|Rw z<|Wq<|Wm z<|R z (lnR o_ z G)<|Rm z<|Wn ?_
 obtain ⟨_,J,H⟩:=bdS hm;refine Wf (σ:=Int) (ρ:=Int) (λ(k3:Nat)(x0:Int) a w=>Sat 19 [(3,vI x0),(6,sl A0 N0 C0),(7,vI (x1.length:Int)),(8,vI ((k3:Nat):Int))] a/\Below w0.z w0 w/\inI x0) (λ(x0:Int) a w=>Sat 19 [(3,vI x0)] a/\Below w0.z w0 w/\inI x0) (rQ prog fn<|Q0 w0 B) J ?_ ?_ ?_ ?_ ?_
 .exact λ_ q=>⟨q.k<|s4 z z z z,br w0,ii z⟩
 .rintro k3 x0 _ _ _ I ⟨L,s5,h1⟩ O;refine Wu ?_ L;refine Ws<|Rl z z z<|Wn<|Wq<|Wc z (λ_=>?_) (λhc=>(Q_ I hc).elim)
  refine Wk<|Wq<|Wb<|Ws ?_
  obtain ⟨V,ea,hmb⟩:=bdS O;refine RX z (at_ (α:=UInt8) o_ z_5 z z z (G.e s5) ea) ?_;rintro _ ⟨_,_,_,rfl,hd,he,_⟩;obtain rfl:=u8 he;exact R z (l0 g_5 z<|hd.at0 z)<|Rw z<|Wg<|RM z z<|R z (c_h d_5 d_3 z)<|R z (add_ z z)<|Rw z<|Wg<|R z (inc_ I (lt_ (repS.len G) B_) z z)<|Rm z<|Wl (λ_ q=>⟨g_ x0<|byteI V,(som hmb).symm,⟨q.k<|s4 z z z z,s5,iA _ _⟩⟩)
 .rintro x0 _ _ ⟨hSc,sf,h1⟩;refine Wu ?_ hSc;refine Ws<|Rl z z z<|Wn<|Wq<|Wc z (λhc=>(R_ hc).elim) (λ_=>?_)
  exact We<|λ_ q=>⟨rfl,⟨q.k<|s1 z,sf,h1⟩⟩
 .rintro x0 ag _ rfl ⟨_,sh,h1⟩;have hmi:=elL H;revert ag;refine Wo<|Wm z<|R z (f_N z z (by decide))<|Rw z ?_
  obtain rfl:=som hmi;exact Wr<|c_ hr z ⟨sh,z,k_r h1⟩
 rintro _ _ _ _ rfl ⟨rfl,hqj⟩;have hmk:=elR H;obtain rfl:=som hmk;exact ⟨hqj,z⟩
theorem W_w1m {x1:Bt}{x2:Int}{x3:UInt8}{res:Bt×Int×Bool}(hm:g_n n x1 x2 x3=some res)(aq:B<=w0.z)(Y:repS w0 B (sl A0 N0 C0) x1)(a0:inI x2):i_ prog 76 [sl A0 N0 C0,vI x2,vU<|byteI x3] w0 (Q10 w0 B res):=by
 unfold g_n at hm
 refine goG func76 z z z λfn hr=>Ws<|RA z z<|Rw z<|Ws<|E z (f0 (α:=UInt8) b_I) ?_
 rintro _ wg ⟨aj,nk,cl,rfl,s8,hv⟩;refine Rw z<|Wq<|Wq ?_
 obtain ⟨ar,huw,hmx⟩:=bdS hm;refine Wt (λa w=>∃(xm:Bool),xm=ar/\Sat 58 [(0,sl A0 N0 C0),(1,vI x2),(2,vU<|byteI x3),(9,sl aj nk cl),(19,vB xm)] a/\Below wg.z wg w) ?_ ?_
 .refine Wg<|Rm z<|Rl z z z<|Rm z ?_
  rcases bs (decide<|x2<0) with I | I
  .iterate 4 refine Nh z I ?_
   exact R z (pT z I z)<|Wl (λ_ q=>⟨true,som<|ifT huw I,q.k<|s5 z z z z z,br wg⟩)
  exact Rh z I (mv z)<|Rh z I (mv z)<|Rh z I (lnR o_ z<|Y.e s8)<|Rh z I (a_b z z)<|R z (pF z I z)<|Wl (λ_ q=>⟨decide<|(x1.length:Int)<x2,som<|ifF huw I,q.k<|s5 z z z z z,br wg⟩)
 rintro au G ⟨xm,rfl,_,s6⟩;revert au;refine Wo<|Wc z (λhcn=>?_) (λhcn=>?_)
 .refine Wm z<|Rm z<|RA z z<|Rw z ?_
  obtain rfl:=som<|ifT hmx hcn;exact Wr<|A_ hr z z z ⟨bup s8 s6,aj,nk,cl,[w0.z],z,hv.e s6,a0,a_I,f_ lr⟩
 refine Wk<|Wq<|Wm z<|Rw z ?_
 obtain ⟨_,ad,hmy⟩:=bdS<|ifF hmx hcn;refine c_k (σ:=Bt×Int) (ρ:=Bt×Int×Bool) (λs a w=>un2 (λxb V=>∃J L O H,Sat 58 [(0,sl A0 N0 C0),(1,vI x2),(2,vU<|byteI x3),(9,sl J L O),(10,vI V)] a/\Cg [w0.z] G w/\a_ w H (sl J L O) xb/\H.Nodup/\(∀k∈H,k∈[w0.z]∨G.z<=k)/\inI V) s) (λs a w=>un2 (λxb V=>∃J L O H,Sat 58 [(1,vI x2)] a/\Cg [w0.z] G w/\a_ w H (sl J L O) xb/\H.Nodup/\(∀k∈H,k∈[w0.z]∨G.z<=k)/\inI V) s) (rQ prog fn<|Q10 w0 B) ad ?_ ?_ ?_ ?_
 .exact λ_ q=>⟨aj,nk,cl,[w0.z],q.k<|s5 z z z z z,cr [w0.z] G,hv.e s6,a_I,io sr,a0⟩
 .rintro ⟨xb,V⟩ _ W _ ⟨J,L,O,H,ae,sa,hc,hd,he,ho⟩ af;have hmz:=a_P af;refine Wu ?_ ae;refine Wq<|Wm z<|Rm z ?_
  have a6:=((s8.ag B).e s6).c sa<|e_ (or0 (f_ lr) (p_ aq):∀k∈[w0.z],¬B k)
  have hh:=Y.g a6;refine R z (lnR o_ z hh)<|Rl z z z<|Wx z (λhcp=>?_) (λhcp=>?_)
  .refine Wk<|Wq<|Wb<|Wq<|Wm z<|Rm z ?_
   obtain ⟨_,av,a1⟩:=bdS<|ifT hmz hcp;refine RX z (at_ (α:=UInt8) o_ z_5 z z z hh av) ?_;rintro _ ⟨_,_,_,rfl,aw,ax,_⟩;obtain rfl:=u8 ax;refine R z (l0 g_5 z<|aw.at0 z)<|Rm z<|Rq z z z<|Wx z (λhcq=>?_) (λhcq=>?_)
   .refine Wm z<|Rm z<|R z (add_ z z)<|RA z z<|Rw z ?_
    exact Wr<|rtO<|qL (som<|ifT a1 hcq).symm<|A_ hr z z z ⟨bM (bup s8 s6) sa<|f_ lr,J,L,O,H,z,hc,iA _ _,hd,(or1 he (f_ lr) (c_i<|lt_ s8.s s6.s):∀k∈H,w0.z<=k)⟩
   refine Wk<|Wq<|Wm z<|Rm z ?_
   obtain ⟨_,ay,ah⟩:=bdS<|ifF a1 hcq;refine RX z (at_ (α:=UInt8) o_ z_5 z z z hh ay) ?_;rintro _ ⟨_,_,_,rfl,az,aA,_⟩;obtain rfl:=u8 aA;refine R z (l0 g_5 z<|az.at0 z)<|Rq z z z<|Wn ?_
   obtain ⟨aB,a2,a4⟩:=bdS ah;refine Wt (λa w=>∃(xf:Int),Sum.inl xf=aB/\Sat 58 [(0,sl A0 N0 C0),(1,vI x2),(2,vU<|byteI x3),(9,sl J L O),(10,vI xf)] a/\Below W.z W w/\inI xf) ?_ ?_
   .refine Wc z (λhcr=>?_)<|λhcr=>?_
    .have a5:=ifT a2 hcr;refine Wm z<|R z (add_ z z)<|Rw z<|Wm z<|Rm z<|R z (lnR o_ z hh)<|Rq z z z<|Wx z (λhcs=>?_) (λhcs=>?_)
     .obtain rfl:=som<|ifT a5 hcs;have ai:=elR a4;exact We<|exO z (λ_ q=>b_M (som ai).symm ⟨J,L,O,H,q.k<|s1 z,(cM (cr [w0.z] G) sa (io sr):Cg [w0.z] G W),hc,hd,(or1 he (io sr) (l_ lr):∀k∈H,k∈[w0.z]∨G.z<=k),iA _ _⟩)
     exact a_5<|λ_ q=>⟨g_ V 1,som<|ifF a5 hcs,q.k<|s5 z z z z z,br W,iA _ _⟩
    exact a_5<|λ_ q=>⟨V,som<|ifF a2 hcr,q.k<|s5 z z z z z,br W,ho⟩
   rintro aC a7 ⟨xf,rfl,_,si,_⟩;have ak:=elL a4;revert aC;refine Wo<|Wg<|RM z z<|Rm z ?_
   obtain ⟨aD,aE,al⟩:=bdS ak;refine RX z (at_ (α:=UInt8) o_ z_5 z z z (Y.g<|a6.e si) aE) ?_;rintro _ ⟨_,_,_,rfl,aF,aG,_⟩;obtain rfl:=u8 aG;refine R z (l0 g_5 z<|aF.at0 z)<|E z (fS [(.tmp 53)] b_I z z z (b_l z) (lb z)<|lb z) ?_
   rintro _ a8 ⟨rfl,ht⟩;have hu:=ht.below;have aY:=b_U ht e_n;obtain ⟨aH,aI,am⟩:=bdS al;refine E z (b_W (α:=UInt8) b_I aI z z ((hc.e si).e hu) hd (ht.blk:Blk a8 a7.z [vU (byteI aD)]) e_n an_ U_) ?_;rintro _ aJ ⟨a9,aK,aL,aM,rfl,aN,aO,aP,aQ⟩;refine Rw z<|Wg<|Rm z<|R z (add_ z z)<|Ra z<|Wl ?_
   have aa:∀k∈H,k∈[w0.z]∨G.z<=k:=or1 he (io sr)<|l_ lr;exact λ_ q=>⟨(aH,g_ xf 1),(som am).symm,⟨aK,aL,aM,a9,q.k<|s5 z z z z z,(cM (j_ (j_ (cM (cr [w0.z] G) sa (io sr):Cg [w0.z] G W) si:Cg [w0.z] G a7) hu:Cg [w0.z] G a8) aN aa:Cg [w0.z] G aJ),aO,aP,(or2 aQ aa an_ (l_<|lt_ (lt_ sa.s si.s) hu.s):∀k∈a9,k∈[w0.z]∨G.z<=k),iA _ _⟩⟩
  exact We<|λ_ q=>b_M (som<|ifF hmz hcp).symm ⟨J,L,O,H,q.k<|s1 z,(cM (cr [w0.z] G) sa (io sr):Cg [w0.z] G W),hc,hd,(or1 he (io sr) (l_ lr):∀k∈H,k∈[w0.z]∨G.z<=k),ho⟩
 .rintro ⟨xb,V⟩ aR aS rfl ⟨J,L,O,H,_,ab,hc,hd,he,ho⟩;have an:=elL hmy;revert aR;refine Wo<|Ws<|E z (f0 (α:=UInt8) b_I) ?_
  rintro _ _ ⟨aT,aU,aV,rfl,aW,aX⟩;refine Rm z<|RA z z<|Rw z ?_
  obtain rfl:=som<|a_P an;exact Wr<|A_ hr z z z ⟨bup (bM (bup s8 s6) ab<|f_ lr) aW,aT,aU,aV,[aS.z],z,aX,a0,a_I,m1<|lt_ (lt_ s8.s s6.s) ab.s⟩
 rintro _ _ _ _ rfl ⟨rfl,ao⟩;have ap:=elR hmy;obtain rfl:=som ap;exact ⟨ao,z⟩
def Q26 (w0:World)(B:Zone)(S2_1:List Nat)(S2_2:List Nat)(r:Val×Int×(Option<|Int×Int))(v:Value)(w':World):Prop:=Chg (· ∈ (S2_1++S2_2)) w0 w'/\un3 (λG H W=>∃(I:Option Addr)(J L:Nat)(S1:List Nat)(a2:Option Addr)(O V:Nat)(S2:List Nat)(v3:Value)(S3:List Nat),v = .tuple #[(.agg #[vI G.number,sl I J L,sl a2 O V]),vI H,v3]/\inI G.number/\a_ w' S1 (sl I J L) G.bytes/\a_ w' S2 (sl a2 O V) G.items/\inI H/\a_C 80 w' S3 v3 W/\(∀k∈S3,w0.z<=k)/\(S1++S2).Nodup/\(∀k∈(S1++S2),k∈(S2_1++S2_2)∨w0.z<=k)) r
structure l_W (f:a_u->Int->Int->Option (Val×Int×(Option<|Int×Int))):Prop where
  run:∀{A0 A6:Option Addr}{N0 C0 N6 C6 b1 o1:Nat}{B:Zone}{x1:a_u}{x2:Int}{x3:Int}{res:Val×Int×(Option<|Int×Int)}{w0:World}(hm:f x1 x2 x3=some res)(hBw:B<=w0.z)(p1_0:repS w0 B (sl A0 N0 C0) x1.d.rules)(p1_1:repS w0 B (sl A6 N6 C6) x1.b)(hC1:L_ w0 b1 o1 [sl A0 N0 C0,sl A6 N6 C6])(hC1b:B b1)(p2_0:inI x2)(p3_0:inI x3),i_ prog 38 [(.pointer<|some ⟨b1,o1,none⟩),vI x2,vI x3] w0<|Q25 w0 B res
structure l_X (f:a_u->b_->Int->Option (Val×Int×(Option<|Int×Int))):Prop where
  run:∀{A0 A6 A2 A3 A1 A4:Option Addr}{N0 C0 N6 C6 b1 o1 N2 C2 N3 C3 N1 C1 N4 C4:Nat}{B:Zone}{x1:a_u}{x2:b_}{x3:Int}{res:Val×Int×(Option<|Int×Int)}{w0:World}(hm:f x1 x2 x3=some res)(hBw:B<=w0.z)(p1_0:repS w0 B (sl A0 N0 C0) x1.d.rules)(p1_1:repS w0 B (sl A6 N6 C6) x1.b)(hC1:L_ w0 b1 o1 [sl A0 N0 C0,sl A6 N6 C6])(hC1b:B b1)(p2_0:x2.name.b.length<=LEN)(p2_1:inI x2.kind)(p2_2:inI x2.size)(p2_4:repS w0 B (sl A2 N2 C2) x2.bytes)(p2_5:repS w0 B (sl A3 N3 C3) x2.names)(p2_6:repS w0 B (sl A1 N1 C1) x2.tags)(p2_7:repS w0 B (sl A4 N4 C4) x2.kids)(p3_0:inI x3),i_ prog 71 [(.pointer<|some ⟨b1,o1,none⟩),.agg #[Str.v x2.name,vI x2.kind,vI x2.size,vB x2.little,sl A2 N2 C2,sl A3 N3 C3,sl A1 N1 C1,sl A4 N4 C4],vI x3] w0<|Q25 w0 B res
structure l_Y (f:a_u->Val->(List Int)->Int->Option (Val×Int×(Option<|Int×Int))):Prop where
  run:∀{A0 A6 AE AH A7:Option Addr}{N0 C0 N6 C6 b1 o1 NE CE NH CH N7 C7:Nat}{S2_1 S2_2:List Nat}{B:Zone}{x1:a_u}{x2:Val}{x3:List Int}{x4:Int}{res:Val×Int×(Option<|Int×Int)}{w0:World}(hm:f x1 x2 x3 x4=some res)(hBw:B<=w0.z)(p1_0:repS w0 B (sl A0 N0 C0) x1.d.rules)(p1_1:repS w0 B (sl A6 N6 C6) x1.b)(hC1:L_ w0 b1 o1 [sl A0 N0 C0,sl A6 N6 C6])(hC1b:B b1)(p2_0:inI x2.number)(p2_1:a_ w0 S2_1 (sl AE NE CE) x2.bytes)(p2_1n:S2_1.Nodup)(p2_1g:∀k∈S2_1,¬B k)(p2_2:a_ w0 S2_2 (sl AH NH CH) x2.items)(p2_2n:S2_2.Nodup)(p2_2g:∀k∈S2_2,¬B k)(p2_2d1:∀k∈S2_2,k∉S2_1)(p3_0:repS w0 B (sl A7 N7 C7) x3)(p4_0:inI x4),i_ prog 72 [(.pointer<|some ⟨b1,o1,none⟩),.agg #[vI x2.number,sl AE NE CE,sl AH NH CH],sl A7 N7 C7,vI x4] w0<|Q26 w0 B S2_1 S2_2 res
structure l_Z (f:a_u->b_->Int->Option (Val×Int×(Option<|Int×Int))):Prop where
  run:∀{A0 A6 A2 A3 A1 A4:Option Addr}{N0 C0 N6 C6 b1 o1 N2 C2 N3 C3 N1 C1 N4 C4:Nat}{B:Zone}{x1:a_u}{x2:b_}{x3:Int}{res:Val×Int×(Option<|Int×Int)}{w0:World}(hm:f x1 x2 x3=some res)(hBw:B<=w0.z)(p1_0:repS w0 B (sl A0 N0 C0) x1.d.rules)(p1_1:repS w0 B (sl A6 N6 C6) x1.b)(hC1:L_ w0 b1 o1 [sl A0 N0 C0,sl A6 N6 C6])(hC1b:B b1)(p2_0:x2.name.b.length<=LEN)(p2_1:inI x2.kind)(p2_2:inI x2.size)(p2_4:repS w0 B (sl A2 N2 C2) x2.bytes)(p2_5:repS w0 B (sl A3 N3 C3) x2.names)(p2_6:repS w0 B (sl A1 N1 C1) x2.tags)(p2_7:repS w0 B (sl A4 N4 C4) x2.kids)(p3_0:inI x3),i_ prog 73 [(.pointer<|some ⟨b1,o1,none⟩),.agg #[Str.v x2.name,vI x2.kind,vI x2.size,vB x2.little,sl A2 N2 C2,sl A3 N3 C3,sl A1 N1 C1,sl A4 N4 C4],vI x3] w0<|Q25 w0 B res
structure m_0 (f:a_u->b_->Int->Option (Val×Int×(Option<|Int×Int))):Prop where
  run:∀{A0 A6 A2 A3 A1 A4:Option Addr}{N0 C0 N6 C6 b1 o1 N2 C2 N3 C3 N1 C1 N4 C4:Nat}{B:Zone}{x1:a_u}{x2:b_}{x3:Int}{res:Val×Int×(Option<|Int×Int)}{w0:World}(hm:f x1 x2 x3=some res)(hBw:B<=w0.z)(p1_0:repS w0 B (sl A0 N0 C0) x1.d.rules)(p1_1:repS w0 B (sl A6 N6 C6) x1.b)(hC1:L_ w0 b1 o1 [sl A0 N0 C0,sl A6 N6 C6])(hC1b:B b1)(p2_0:x2.name.b.length<=LEN)(p2_1:inI x2.kind)(p2_2:inI x2.size)(p2_4:repS w0 B (sl A2 N2 C2) x2.bytes)(p2_5:repS w0 B (sl A3 N3 C3) x2.names)(p2_6:repS w0 B (sl A1 N1 C1) x2.tags)(p2_7:repS w0 B (sl A4 N4 C4) x2.kids)(p3_0:inI x3),i_ prog 74 [(.pointer<|some ⟨b1,o1,none⟩),.agg #[Str.v x2.name,vI x2.kind,vI x2.size,vB x2.little,sl A2 N2 C2,sl A3 N3 C3,sl A1 N1 C1,sl A4 N4 C4],vI x3] w0<|Q25 w0 B res
structure m_1 (f:a_u->b_->Int->Option (Val×Int×(Option<|Int×Int))):Prop where
  run:∀{A0 A6 A2 A3 A1 A4:Option Addr}{N0 C0 N6 C6 b1 o1 N2 C2 N3 C3 N1 C1 N4 C4:Nat}{B:Zone}{x1:a_u}{x2:b_}{x3:Int}{res:Val×Int×(Option<|Int×Int)}{w0:World}(hm:f x1 x2 x3=some res)(hBw:B<=w0.z)(p1_0:repS w0 B (sl A0 N0 C0) x1.d.rules)(p1_1:repS w0 B (sl A6 N6 C6) x1.b)(hC1:L_ w0 b1 o1 [sl A0 N0 C0,sl A6 N6 C6])(hC1b:B b1)(p2_0:x2.name.b.length<=LEN)(p2_1:inI x2.kind)(p2_2:inI x2.size)(p2_4:repS w0 B (sl A2 N2 C2) x2.bytes)(p2_5:repS w0 B (sl A3 N3 C3) x2.names)(p2_6:repS w0 B (sl A1 N1 C1) x2.tags)(p2_7:repS w0 B (sl A4 N4 C4) x2.kids)(p3_0:inI x3),i_ prog 75 [(.pointer<|some ⟨b1,o1,none⟩),.agg #[Str.v x2.name,vI x2.kind,vI x2.size,vB x2.little,sl A2 N2 C2,sl A3 N3 C3,sl A1 N1 C1,sl A4 N4 C4],vI x3] w0<|Q25 w0 B res
abbrev f_t (n:Nat):Prop:=l_W (a_d n).impl_fileReader_value/\l_X (a_d n).impl_fileReader_array/\l_Y (a_d n).impl_fileReader_items/\l_Z (a_d n).impl_fileReader_choice/\m_0 (a_d n).impl_fileReader_option/\m_1 (a_d n).impl_fileReader_checked
theorem T_w02 (ih:f_t n):l_W (h_K n<|a_d n):=by
 obtain ⟨_,d5,d6,d7,d8,d9⟩:=ih
 constructor
 intro A0 A6 N0 C0 N6 C6 b1 o1 B x1 x2 x3 res w0 hm H L O hC1 hC1b cS I;unfold h_K at hm
 refine goG func38 z z z λfn hr=>Ws<|E z (fa a_f) ?_
 rintro _ J ⟨rfl,bh⟩;have h2:=bh.below;have h3:Blk J w0.z [vI 0,sN,sN]:=bh.blk;refine Ra z<|Rw z<|Wm z<|R z (J_ z)<|Rf z p_c z<|Rf z a_i z ?_
 have h5:=hC1.e h2;refine R z (l0 a_n z<|h5.at (j:=0) z)<|Rm z ?_
 obtain ⟨W,da,b5⟩:=bdS hm;refine RX z (at_ (α:=b_) V_ m_ z z z (L.e h2) da) ?_;rintro _ ⟨_,_,_,rfl,db,dc,_⟩;obtain ⟨aa,nb,cc,ad,ne,cf,ah,ng,ci,aj,nk,cl,rfl,hq,ht,ho,hp,hu,hv,hn⟩:=a_F dc;refine R z (lN (vs:=vR W aa nb cc ad ne cf ah ng ci aj nk cl) H_ m_ z z fid db)<|E z (fa b_S) ?_
 rintro _ dd ⟨rfl,bi⟩;have G:=bi.below;refine E0 (fs0 (cur':=vR W aa nb cc ad ne cf ah ng ci aj nk cl) m_ z z (bi.blk:Blk dd J.z [(Str.v (⟨[]⟩:Str)),vI 0,vI 0,vB false,sN,sN,sN,sN]) z z z z) ?_;rintro _ _ ⟨V,de⟩;have h1:=de.one;refine Wn<|Wq<|Ws<|Rf z a_o z<|R z (l0 g_3 z<|V.at z)<|Wn<|Wb<|Ws<|Rq z z z<|Rw z<|Wc z (λhcr=>?_) (λhcr=>?_)
 .refine Wm z<|RM z z ?_
  have bj:∀k∈[J.z],¬B k:=or0 (f_ lr)<|p_<|zt' H h2.s;have bk:=((h2.ag B).e G).c h1<|e_ bj
  have bm:=lt_ (lt_ h2.s G.s) h1.s;obtain ⟨bn,_,_,df,cT⟩:=N_<|ifT b5 hcr;refine E z (fc call68 z<|k_d df (zt' H bm) (L.g bk) (O.g bk) ((h5.e G).c h1<|(e_ bj) _ hC1b) hC1b cS I) ?_;rintro _ _ ⟨bo,dg,dh,rfl,di,dj,dk,bp⟩;refine Rm z ?_
  iterate 3 refine Re z z z ?_
  refine RA z z<|Rw z<|Wm z<|R z (bP (parts:=[(0,.tmp 41)]) (cs:=[vI bn,sN,sN]) a_4 z z)<|RM z z<|E0 (fs0 (cur':=[vI bn,sN,sN]) h_ z z (((h3.e G).c h1<|djs<|mmr h3.lt).e bo) z z z z) ?_
  rintro _ _ ⟨dl,dm⟩;have bq:=dm.one;refine Ra z<|Rw z ?_
  obtain rfl:=som cT;exact Wr<|rtO<|A_ hr (s_ y_ h_ z dl z) z z ⟨bM (bup (bM (bup h2 G) h1<|m1 h2.s) bo) bq<|f_ lr,none,0,0,[],none,0,0,[],dg,dh,z,di,onL,onL,dj,dk.c bq<|t_ bp h3.lt<|lt_ G.s h1.s,n_ bp bm,nd0,al0⟩
 have b6:=ifF b5 hcr;refine Ws<|Rq z z z<|Rw z<|Wc z (λhcs=>?_) (λhcs=>?_)
 .refine Wm z<|R z (lN (vs:=vR W aa nb cc ad ne cf ah ng ci aj nk cl) H_ m_ z z fid<|V.row 0 8 z)<|Rm z ?_
  have aC:∀k∈[J.z],¬B k:=or0 (f_ lr)<|p_<|zt' H h2.s;have br:=((h2.ag B).e G).c h1<|e_ aC
  have hw:=(G.ag B).c h1<|e_ aC
  have bs:=lt_ (lt_ h2.s G.s) h1.s;obtain ⟨_,_,dn,cU⟩:=a_8<|ifT b6 hcs;refine E z (fc call69 z<|W_w3d dn (zt' H bs) (L.g br) (O.g br) ((h5.e G).c h1<|(e_ aC) _ hC1b) hC1b hq ht ho (hp.g hw) (hu.g hw) (hv.g hw) (hn.g hw) I) ?_;rintro _ _ ⟨bt,dp,dq,rfl,dr,ds,bu⟩;refine Rm z<|Re z z z<|Re z z z<|Ra z<|Rw z<|Ws<|R z (bP (parts:=[]) (cs:=[vI 0,sN,sN]) a_4 z z)<|RM z z<|E0 (fs0 (cur':=[vI 0,sN,sN]) h_ z z (((h3.e G).c h1<|djs<|mmr h3.lt).e bt) z z z z) ?_
  rintro _ _ ⟨dt,du⟩;have bv:=du.one;refine Ra z<|Rw z ?_
  obtain rfl:=som cU;exact Wr<|rtO<|A_ hr (s_ y_ h_ z dt z) z z ⟨bM (bup (bM (bup h2 G) h1<|m1 h2.s) bt) bv<|f_ lr,none,0,0,[],none,0,0,[],dp,dq,z,ii z,onL,onL,dr,ds.c bv<|t_ bu h3.lt<|lt_ G.s h1.s,n_ bu bs,nd0,al0⟩
 have b7:=ifF b6 hcs;refine Ws<|Rq z z z<|Rw z<|Wc z (λar=>?_) (λar=>?_)
 .refine Wm z<|Rm z<|Rf z a_H z<|R z (l0 g_3 z<|V.at z) ?_
  have bw:∀k∈[J.z],¬B k:=or0 (f_ lr)<|p_<|zt' H h2.s;have bx:=((h2.ag B).e G).c h1<|e_ bw
  have hx:=lt_ (lt_ h2.s G.s) h1.s;obtain ⟨dv,_,_,dw,cV⟩:=N_<|ifT b7 ar;refine E z (fc call70 z<|W_w1k dw (zt' H hx) (L.g bx) (O.g bx) ((h5.e G).c h1<|(e_ bw) _ hC1b) hC1b I ho) ?_;rintro _ _ ⟨bz,bA,bB,bC,dx,bD,bE,bF,dy,dz,dA,rfl,dB,dC,dD,dF,dG,bG,aD,hy⟩
  iterate 3 refine Re z z z ?_
  refine E0 (fs0 (cur':=[vI dv.number,sl bA bB bC,sl bD bE bF]) h_ z z (((h3.e G).c h1<|djs<|mmr h3.lt).e bz) z z z z) ?_;rintro _ _ ⟨dH,dI⟩;have hz:=dI.one;refine Ra z<|Rw z ?_
  obtain rfl:=som cV;have aE:=lt_ G.s h1.s;exact Wr<|rtO<|A_ hr (s_ y_ h_ z dH z) z z ⟨bM (bup (bM (bup h2 G) h1<|m1 h2.s) bz) hz<|f_ lr,bA,bB,bC,dx,bD,bE,bF,dy,dz,dA,z,dB,dC.c hz<|t_ (al_ hy) h3.lt aE,dD.c hz<|t_ (ar_ hy) h3.lt aE,dF,dG.c hz<|t_ bG h3.lt aE,n_ bG hx,na_ (nl_ aD) (nr_ aD)<|nj aD,aa_ (n_ (al_ hy) hx)<|n_ (ar_ hy) hx⟩
 have b8:=ifF b7 ar;refine Ws<|Rq z z z<|Rw z<|Wc z (λau=>?_) (λau=>?_)
 .refine Wm z<|Rf z P_ z<|R z (l0 E_ z<|V.at z) ?_
  obtain ⟨_,dJ,cW⟩:=bdS<|ifT b8 au;have aF:∀k∈[J.z],¬B k:=or0 (f_ lr)<|p_<|zt' H h2.s;refine RX z (at_ (α:=Int) x_ z_3 z z z (hn.g<|(G.ag B).c h1<|e_ aF) dJ) ?_;rintro _ ⟨_,_,_,rfl,dK,dL,_⟩;obtain ⟨rfl,dN⟩:=T_ dL;refine R z (l0 g_3 z<|dK.at0 z)<|Rm z ?_
  have bH:=(h5.e G).c h1<|(e_ aF) _ hC1b
  have aG:=((h2.ag B).e G).c h1<|e_ aF
  have aH:=lt_ (lt_ h2.s G.s) h1.s;obtain ⟨_,_,_,dO,b9⟩:=N_ cW;refine E z (fc call68 z<|k_d dO (zt' H aH) (L.g aG) (O.g aG) bH hC1b dN I) ?_;rintro _ _ ⟨s8,dP,dS,rfl,dT,dU,bI,bJ⟩;refine Rm z ?_
  iterate 3 refine Re z z z ?_
  refine RA z z<|Rw z<|Wq<|Wm z<|R z (d_R e_e z z bI)<|Wx z (λav=>?_) (λav=>?_)
  .refine Ws<|R z (bP (parts:=[]) (cs:=[vI 0,sN,sN]) a_4 z z)<|RM z z<|E0 (fs0 (cur':=[vI 0,sN,sN]) h_ z z (((h3.e G).c h1<|djs<|mmr h3.lt).e s8) z z z z) ?_
   rintro _ _ ⟨dV,dW⟩;have bK:=dW.one;refine Ra z<|Rw z ?_
   obtain rfl:=som<|ifT b9 av;exact Wr<|rtO<|A_ hr (s_ y_ h_ z dV z) z z ⟨bM (bup (bM (bup h2 G) h1<|m1 h2.s) s8) bK<|f_ lr,none,0,0,[],none,0,0,[],dP,dS,z,ii z,onL,onL,I,bI.c bK<|t_ bJ h3.lt<|lt_ G.s h1.s,n_ bJ aH,nd0,al0⟩
  refine Wk<|Wm z<|RM z z ?_
  have bL:=aG.e s8;have Y:=lt_ aH s8.s;obtain ⟨dX,_,_,dY,cX⟩:=N_<|ifF b9 av;refine E z (fc call70 z<|W_w1k dY (zt' H Y) (L.g bL) (O.g bL) (bH.e s8) hC1b dU dT) ?_;rintro _ _ ⟨bN,bO,bQ,bR,dZ,bS,bT,bU,e0,e1,e2,rfl,e3,e4,e5,e6,e7,bV,aI,a0⟩
  iterate 3 refine Re z z z ?_
  refine E0 (fs0 (cur':=[vI dX.number,sl bO bQ bR,sl bS bT bU]) h_ z z ((((h3.e G).c h1<|djs<|mmr h3.lt).e s8).e bN) z z z z) ?_;rintro _ _ ⟨e8,e9⟩;have a1:=e9.one;refine Ra z<|Rw z ?_
  obtain rfl:=som cX;have aJ:=lt_ (lt_ G.s h1.s) s8.s;exact Wr<|rtO<|A_ hr (s_ y_ h_ z e8 z) z z ⟨bM (bup (bup (bM (bup h2 G) h1<|m1 h2.s) s8) bN) a1<|f_ lr,bO,bQ,bR,dZ,bS,bT,bU,e0,e1,e2,z,e3,e4.c a1<|t_ (al_ a0) h3.lt aJ,e5.c a1<|t_ (ar_ a0) h3.lt aJ,e6,e7.c a1<|t_ bV h3.lt aJ,n_ bV Y,na_ (nl_ aI) (nr_ aI)<|nj aI,aa_ (n_ (al_ a0) Y)<|n_ (ar_ a0) Y⟩
 have ba:=ifF b8 au;refine Ws<|Rq z z z<|Rw z<|Wc z (λaw=>?_) (λaw=>?_)
 .refine Wm z<|R z (lN (vs:=vR W aa nb cc ad ne cf ah ng ci aj nk cl) H_ m_ z z fid<|V.row 0 8 z)<|Rm z ?_
  have aK:∀k∈[J.z],¬B k:=or0 (f_ lr)<|p_<|zt' H h2.s;have bW:=((h2.ag B).e G).c h1<|e_ aK
  have a2:=(G.ag B).c h1<|e_ aK
  have a3:=lt_ (lt_ h2.s G.s) h1.s;obtain ⟨ea,_,_,eb,cY⟩:=N_<|ifT ba aw;refine E z (fc call71 z<|d5.run eb (zt' H a3) (L.g bW) (O.g bW) ((h5.e G).c h1<|(e_ aK) _ hC1b) hC1b hq ht ho (hp.g a2) (hu.g a2) (hv.g a2) (hn.g a2) I) ?_;rintro _ _ ⟨bX,bY,bZ,c0,ec,c1,c2,c3,ed,ee,ef,rfl,eg,eh,ei,ej,ek,c4,aL,a4⟩
  iterate 3 refine Re z z z ?_
  refine E0 (fs0 (cur':=[vI ea.number,sl bY bZ c0,sl c1 c2 c3]) h_ z z (((h3.e G).c h1<|djs<|mmr h3.lt).e bX) z z z z) ?_;rintro _ _ ⟨em,en⟩;have a5:=en.one;refine Ra z<|Rw z ?_
  obtain rfl:=som cY;have aM:=lt_ G.s h1.s;exact Wr<|rtO<|A_ hr (s_ y_ h_ z em z) z z ⟨bM (bup (bM (bup h2 G) h1<|m1 h2.s) bX) a5<|f_ lr,bY,bZ,c0,ec,c1,c2,c3,ed,ee,ef,z,eg,eh.c a5<|t_ (al_ a4) h3.lt aM,ei.c a5<|t_ (ar_ a4) h3.lt aM,ej,ek.c a5<|t_ c4 h3.lt aM,n_ c4 a3,na_ (nl_ aL) (nr_ aL)<|nj aL,aa_ (n_ (al_ a4) a3)<|n_ (ar_ a4) a3⟩
 have bb:=ifF ba aw;refine Ws<|Rq z z z<|Rw z<|Wc z (λax=>?_) (λax=>?_)
 .refine Wm z<|R z (bP (parts:=[]) (cs:=[vI 0,sN,sN]) a_4 z z)<|Rf z P_ z<|R z (l0 E_ z<|V.at z)<|Rm z ?_
  have aN:∀k∈[J.z],¬B k:=or0 (f_ lr)<|p_<|zt' H h2.s;have c5:=((h2.ag B).e G).c h1<|e_ aN
  have a6:=lt_ (lt_ h2.s G.s) h1.s;obtain ⟨eo,_,_,ep,cZ⟩:=N_<|ifT bb ax;refine E z (fc call72 z<|d6.run (B:=B) (x2:=(⟨0,([]:Bt),([]:List Val)⟩:Val)) ep (zt' H a6) (L.g c5) (O.g c5) ((h5.e G).c h1<|(e_ aN) _ hC1b) hC1b (ii z) onL U_ an_ onL U_ an_ an_ (hn.g<|(G.ag B).c h1<|e_ aN) I) ?_;rintro _ _ ⟨c6,c7,c8,c9,ca,cb,cd,ce,cg,er,es,rfl,eu,ew,ex,ey,ez,ch,aO,a7⟩
  iterate 3 refine Re z z z ?_
  refine E0 (fs0 (cur':=[vI eo.number,sl c7 c8 c9,sl cb cd ce]) h_ z z (((h3.e G).c h1<|djs<|mmr h3.lt).c c6<|atp<|nmA (nmN _)<|nmN _) z z z z) ?_;rintro _ _ ⟨eA,eB⟩;have a8:=eB.one;refine Ra z<|Rw z ?_
  obtain rfl:=som cZ;have aP:=lt_ G.s h1.s;exact Wr<|rtO<|A_ hr (s_ y_ h_ z eA z) z z ⟨bM (bM (bM (bup h2 G) h1<|m1 h2.s) c6 al0) a8<|f_ lr,c7,c8,c9,ca,cb,cd,ce,cg,er,es,z,eu,ew.c a8 (or1 (al_ a7) al0 (a_T (f_ h3.lt) aP):∀k∈ca,k∉[w0.z]),ex.c a8 (or1 (ar_ a7) al0 (a_T (f_ h3.lt) aP):∀k∈cg,k∉[w0.z]),ey,ez.c a8<|t_ ch h3.lt aP,n_ ch a6,na_ (nl_ aO) (nr_ aO)<|nj aO,aa_ (c_6 (al_ a7) al0 a6)<|c_6 (ar_ a7) al0 a6⟩
 have bc:=ifF bb ax;refine Ws<|Rq z z z<|Rw z<|Wc z (λay=>?_) (λay=>?_)
 .refine Wm z<|R z (lN (vs:=vR W aa nb cc ad ne cf ah ng ci aj nk cl) H_ m_ z z fid<|V.row 0 8 z)<|Rm z ?_
  have aQ:∀k∈[J.z],¬B k:=or0 (f_ lr)<|p_<|zt' H h2.s;have cj:=((h2.ag B).e G).c h1<|e_ aQ
  have a9:=(G.ag B).c h1<|e_ aQ
  have ab:=lt_ (lt_ h2.s G.s) h1.s;obtain ⟨eC,_,_,eD,d0⟩:=N_<|ifT bc ay;refine E z (fc call73 z<|d7.run eD (zt' H ab) (L.g cj) (O.g cj) ((h5.e G).c h1<|(e_ aQ) _ hC1b) hC1b hq ht ho (hp.g a9) (hu.g a9) (hv.g a9) (hn.g a9) I) ?_;rintro _ _ ⟨ck,cm,cn,co,eE,cp,cq,cr,eF,eG,eH,rfl,eI,eJ,eK,eL,eM,ct,aR,ae⟩
  iterate 3 refine Re z z z ?_
  refine E0 (fs0 (cur':=[vI eC.number,sl cm cn co,sl cp cq cr]) h_ z z (((h3.e G).c h1<|djs<|mmr h3.lt).e ck) z z z z) ?_;rintro _ _ ⟨eN,eO⟩;have af:=eO.one;refine Ra z<|Rw z ?_
  obtain rfl:=som d0;have aS:=lt_ G.s h1.s;exact Wr<|rtO<|A_ hr (s_ y_ h_ z eN z) z z ⟨bM (bup (bM (bup h2 G) h1<|m1 h2.s) ck) af<|f_ lr,cm,cn,co,eE,cp,cq,cr,eF,eG,eH,z,eI,eJ.c af<|t_ (al_ ae) h3.lt aS,eK.c af<|t_ (ar_ ae) h3.lt aS,eL,eM.c af<|t_ ct h3.lt aS,n_ ct ab,na_ (nl_ aR) (nr_ aR)<|nj aR,aa_ (n_ (al_ ae) ab)<|n_ (ar_ ae) ab⟩
 have be:=ifF bc ay;refine Ws<|Rq z z z<|Rw z<|Wc z (λaz=>?_) (λaz=>?_)
 .refine Wm z<|R z (lN (vs:=vR W aa nb cc ad ne cf ah ng ci aj nk cl) H_ m_ z z fid<|V.row 0 8 z)<|Rm z ?_
  have aT:∀k∈[J.z],¬B k:=or0 (f_ lr)<|p_<|zt' H h2.s;have cu:=((h2.ag B).e G).c h1<|e_ aT
  have ai:=(G.ag B).c h1<|e_ aT
  have ak:=lt_ (lt_ h2.s G.s) h1.s;obtain ⟨eP,_,_,eQ,d1⟩:=N_<|ifT be az;refine E z (fc call74 z<|d8.run eQ (zt' H ak) (L.g cu) (O.g cu) ((h5.e G).c h1<|(e_ aT) _ hC1b) hC1b hq ht ho (hp.g ai) (hu.g ai) (hv.g ai) (hn.g ai) I) ?_;rintro _ _ ⟨cv,cw,cx,cy,eR,cz,cA,cB,eS,eT,eU,rfl,eV,eW,eX,eY,eZ,cC,aU,al⟩
  iterate 3 refine Re z z z ?_
  refine E0 (fs0 (cur':=[vI eP.number,sl cw cx cy,sl cz cA cB]) h_ z z (((h3.e G).c h1<|djs<|mmr h3.lt).e cv) z z z z) ?_;rintro _ _ ⟨f0,f1⟩;have am:=f1.one;refine Ra z<|Rw z ?_
  obtain rfl:=som d1;have aV:=lt_ G.s h1.s;exact Wr<|rtO<|A_ hr (s_ y_ h_ z f0 z) z z ⟨bM (bup (bM (bup h2 G) h1<|m1 h2.s) cv) am<|f_ lr,cw,cx,cy,eR,cz,cA,cB,eS,eT,eU,z,eV,eW.c am<|t_ (al_ al) h3.lt aV,eX.c am<|t_ (ar_ al) h3.lt aV,eY,eZ.c am<|t_ cC h3.lt aV,n_ cC ak,na_ (nl_ aU) (nr_ aU)<|nj aU,aa_ (n_ (al_ al) ak)<|n_ (ar_ al) ak⟩
 have bf:=ifF be az;refine Ws<|Rq z z z<|Rw z<|Wc z (λaA=>?_) (λaA=>?_)
 .refine Wm z<|R z (lN (vs:=vR W aa nb cc ad ne cf ah ng ci aj nk cl) H_ m_ z z fid<|V.row 0 8 z)<|Rm z ?_
  have aW:∀k∈[J.z],¬B k:=or0 (f_ lr)<|p_<|zt' H h2.s;have cD:=((h2.ag B).e G).c h1<|e_ aW
  have an:=(G.ag B).c h1<|e_ aW
  have ao:=lt_ (lt_ h2.s G.s) h1.s;obtain ⟨f2,_,_,f3,d2⟩:=N_<|ifT bf aA;refine E z (fc call75 z<|d9.run f3 (zt' H ao) (L.g cD) (O.g cD) ((h5.e G).c h1<|(e_ aW) _ hC1b) hC1b hq ht ho (hp.g an) (hu.g an) (hv.g an) (hn.g an) I) ?_;rintro _ _ ⟨cE,cF,cG,cH,f4,cI,cJ,cK,f5,f6,f7,rfl,f8,f9,fb,fe,ff,cL,aX,ap⟩
  iterate 3 refine Re z z z ?_
  refine E0 (fs0 (cur':=[vI f2.number,sl cF cG cH,sl cI cJ cK]) h_ z z (((h3.e G).c h1<|djs<|mmr h3.lt).e cE) z z z z) ?_;rintro _ _ ⟨fg,fh⟩;have aq:=fh.one;refine Ra z<|Rw z ?_
  obtain rfl:=som d2;have aY:=lt_ G.s h1.s;exact Wr<|rtO<|A_ hr (s_ y_ h_ z fg z) z z ⟨bM (bup (bM (bup h2 G) h1<|m1 h2.s) cE) aq<|f_ lr,cF,cG,cH,f4,cI,cJ,cK,f5,f6,f7,z,f8,f9.c aq<|t_ (al_ ap) h3.lt aY,fb.c aq<|t_ (ar_ ap) h3.lt aY,fe,ff.c aq<|t_ cL h3.lt aY,n_ cL ao,na_ (nl_ aX) (nr_ aX)<|nj aX,aa_ (n_ (al_ ap) ao)<|n_ (ar_ ap) ao⟩
 refine Wk<|Wq (Wd (X:=noX) 0 (pl_ 17 [9]) mo (by kernel_rfl) λfz s6 _=>dM z z z<|dR z z (J_ z)<|dR z z (fd g_y z) ?_)
 have aZ:∀k∈[J.z],¬B k:=or0 (f_ lr)<|p_<|zt' H h2.s;refine dR z z (l0 X_ z<|(((h5.e G).c h1<|(e_ aZ) _ hC1b).e s6).at (j:=1) z)<|dM z z z<|dR z z (fd b_f z)<|dR z z (l0 X_ z<|(V.e s6).at z) ?_
 obtain ⟨_,fi,d3⟩:=bdS<|ifF bf aA;refine dRX z z (at_ (α:=UInt8) o_ z_5 z z z (hp.g<|((G.ag B).c h1<|e_ aZ).e s6) fi) ?_;rintro _ ⟨_,_,_,rfl,fj,fk,_⟩;obtain rfl:=u8 fk;refine dR z z (l0 g_5 z<|fj.at0 z) ?_;have b0:=lt_ (lt_ (lt_ h2.s G.s) h1.s) s6.s;obtain ⟨_,_,_,fl,bg⟩:=N_ d3;refine dE z z (fc call76 z<|W_w1m fl (zt' H b0) (O.g<|(((h2.ag B).e G).c h1<|e_ aZ).e s6) I) (.inr λ_ _ h=>C_<|h.1) ?_;rintro _ _ ⟨sm,b2,b3,b4,fm,rfl,fo,fp,fq,cM⟩;refine dM z z z ?_
 iterate 3 refine dR z z (ext_ z z) ?_
 iterate 3 refine dQ z z z ?_
 refine pD<|Wo<|Wq<|Wm z<|R z (not_ z)<|Wx z (λaB=>?_) (λaB=>?_)
 .refine Ws<|R z (bP (parts:=[]) (cs:=[vI 0,sN,sN]) a_4 z z)<|RM z z ?_
  have cN:=lt_ b0 sm.s;obtain ⟨_,fr,d4⟩:=bdS<|ifT bg aB;refine E z (fc call77 z<|e_W fr (zt' H cN) I<|ii z) ?_;rintro _ _ ⟨cO,fs,ft,rfl,fu,cP⟩;refine E0 (fs0 (cur':=[vI 0,sN,sN]) h_ z z (((((h3.e G).c h1<|djs<|mmr h3.lt).e s6).e sm).e cO) z z z z) ?_;rintro _ _ ⟨fv,fw⟩;have cQ:=fw.one;refine Ra z<|Rw z ?_
  obtain rfl:=som d4;exact Wr<|A_ hr (s_ y_ h_ z fv z) z z ⟨bM (bup (bup (bup (bM (bup h2 G) h1<|m1 h2.s) s6) sm) cO) cQ<|f_ lr,none,0,0,[],none,0,0,[],fs,ft,z,ii z,onL,onL,I,fu.c cQ<|t_ cP h3.lt<|lt_ (lt_ (lt_ G.s h1.s) s6.s) sm.s,n_ cP cN,nd0,al0⟩
 refine Wk<|Wm z<|R z (bP (parts:=[(1,.tmp 159)]) (cs:=[vI 0,sl b2 b3 b4,sN]) a_4 z z)<|Rm z<|E0 (fs0 (cur':=[vI 0,sl b2 b3 b4,sN]) h_ z z ((((h3.e G).c h1<|djs<|mmr h3.lt).e s6).e sm) z z z z) ?_
 rintro _ _ ⟨fx,fy⟩;have cR:=fy.one;refine Ra z<|Rw z ?_
 obtain rfl:=som<|ifF bg aB;exact Wr<|A_ hr (s_ y_ h_ z fx z) z z ⟨bM (bup (bup (bM (bup h2 G) h1<|m1 h2.s) s6) sm) cR<|f_ lr,b2,b3,b4,fm,none,0,0,[],.nilIface,([]:List Nat),z,ii z,fo.c cR<|t_ cM h3.lt<|lt_ (lt_ G.s h1.s) s6.s,onL,fp,e_p,an_,na_ fq U_<|nmN _,aa_ (n_ cM b0) an_⟩
theorem T_w1n (ih:f_t n):l_X (h_L n<|a_d n):=by
 obtain ⟨_,_,aJ,_,_,_⟩:=ih
 constructor
 intro A0 A6 A2 A3 A1 A4 N0 C0 N6 C6 b1 o1 N2 C2 N3 C3 N1 C1 N4 C4 B x1 x2 x3 res w0 hm O W Y hC1 hC1b bx bz bA bB bC bD a0 V;unfold h_L at hm
 refine goG func71 z z z λfn hr=>Ws<|E z (fb z) ?_
 rintro _ J ⟨rfl,hw⟩;have h4:=hw.below;have hx:Blk J w0.z (vR x2 A2 N2 C2 A3 N3 C3 A1 N1 C1 A4 N4 C4):=hw.blk;refine E z (fa a_f) ?_;rintro _ aK ⟨rfl,hy⟩;have h6:=hy.below;have h5:Blk aK J.z [vI 0,sN,sN]:=hy.blk;refine Ra z<|Rw z<|Wm z<|Rf z P_ z ?_
 have hz:=hx.e h6;refine R z (l0 E_ z<|hz.at z) ?_;obtain ⟨_,aL,aw⟩:=bdS hm;have hd:=(h4.ag B).e h6;refine RX z (at_ (α:=Int) x_ z_3 z z z (a0.g hd) aL) ?_;rintro _ ⟨_,_,_,rfl,aM,aN,_⟩;obtain ⟨rfl,aO⟩:=T_ aN;refine R z (l0 g_3 z<|aM.at0 z)<|Rm z ?_
 have a4:=(hC1.e h4).e h6;have he:=lt_ h4.s h6.s;obtain ⟨_,rr,_,aP,hms⟩:=N_ aw;refine E z (fc call68 z<|k_d aP (zt' O he) (W.g hd) (Y.g hd) a4 hC1b aO V) ?_;rintro _ H ⟨G,aQ,aR,rfl,_,aS,a5,a6⟩;refine Rm z ?_
 iterate 3 refine Re z z z ?_
 refine RA z z<|Rw z<|Wq<|Wm z<|R z (d_R e_e z z a5)<|Wx z (λhcm=>?_) (λhcm=>?_)
 .refine Ws<|R z (bP (parts:=[]) (cs:=[vI 0,sN,sN]) a_4 z z)<|RM z z<|E0 (fs0 (cur':=[vI 0,sN,sN]) h_ z z (h5.e G) z z z z) ?_
  rintro _ _ ⟨aT,aU⟩;have a7:=aU.one;refine Ra z<|Rw z ?_
  obtain rfl:=som<|ifT hms hcm;exact Wr<|A_ hr (s_ y_ h_ z aT z) z z ⟨bM (bup (bup h4 h6) G) a7<|m1 h4.s,none,0,0,[],none,0,0,[],aQ,aR,z,ii z,onL,onL,V,a5.c a7<|t_ a6 h5.lt lr,n_ a6 he,nd0,al0⟩
 have a1:=ifF hms hcm;refine Wk<|Wq<|Wm z<|R z (a_b z z)<|Wx z (λhco=>?_) (λhco=>?_)
 .refine Ws<|R z (bP (parts:=[]) (cs:=[vI 0,sN,sN]) a_4 z z)<|RM z z ?_
  have a8:=lt_ he G.s;obtain ⟨_,aV,ax⟩:=bdS<|ifT a1 hco;refine E z (fc call77 z<|e_W aV (zt' O a8) V<|ii z) ?_;rintro _ _ ⟨a9,aW,aX,rfl,aY,aa⟩;refine E0 (fs0 (cur':=[vI 0,sN,sN]) h_ z z ((h5.e G).e a9) z z z z) ?_;rintro _ _ ⟨aZ,b0⟩;have ab:=b0.one;refine Ra z<|Rw z ?_
  obtain rfl:=som ax;exact Wr<|A_ hr (s_ y_ h_ z aZ z) z z ⟨bM (bup (bup (bup h4 h6) G) a9) ab<|m1 h4.s,none,0,0,[],none,0,0,[],aW,aX,z,ii z,onL,onL,V,aY.c ab<|t_ aa h5.lt G.s,n_ aa a8,nd0,al0⟩
 refine Wk<|Wm z ?_
 obtain ⟨b2,b3,ay⟩:=bdS<|ifF a1 hco;refine E z (d_P (α:=Int) l_E (λ_=>d_2<|ii z) b3 z z) ?_;rintro _ I ⟨ac,nf,cg,rfl,s8,hp⟩;refine Rw z<|Wq<|Wm z<|R z (lnR x_ z<|a_.rep hp)<|Rm z<|Wn ?_
 obtain ⟨_,az,a2⟩:=bdS ay;refine Wf (σ:=List Int) (ρ:=Val×Int×(Option<|Int×Int)) (λ(ad:Nat)(L:List Int) a w=>∃(S3:List Nat),Sat 59 [(0,.pointer<|some ⟨b1,o1,none⟩),(4,pt w0.z),(6,pt J.z),(10,vI rr),(12,sl ac nf cg),(39,vI (b2.length:Int)),(40,vI ((ad:Nat):Int))] a/\Cg [H.z] I w/\a_ w S3 (sl ac nf cg) L/\S3.Nodup/\(∀k∈S3,k∈[H.z]∨I.z<=k)) (λ(L:List Int) a w=>∃(S3:List Nat),Sat 59 [(0,.pointer<|some ⟨b1,o1,none⟩),(6,pt J.z),(10,vI rr),(12,sl ac nf cg)] a/\Cg [H.z] I w/\a_ w S3 (sl ac nf cg) L/\S3.Nodup/\(∀k∈S3,k∈[H.z]∨I.z<=k)) (rQ prog fn<|Q25 w0 B) az ?_ ?_ ?_ ?_ ?_
 .exact λ_ q=>⟨[H.z],q.k<|s7 z z z z z z z,cr [H.z] I,hp,a_I,io sr⟩
 .rintro ad L _ b4 _ a3 ⟨S3,aA,sh,ha,hi,hj⟩ aB;refine Wu ?_ aA;refine Ws<|Rl z z z<|Wn<|Wq<|Wc z (λ_=>?_) (λhc=>(Q_ a3 hc).elim)
  refine Wk<|Wq<|Wb<|Wm z<|Rw z<|Wg<|RM z z<|Rf z P_ z<|R z (l0 E_ z<|(((hz.e G).e s8).c sh<|djs<|mm1 hx.lt<|lt_ h6.s G.s).at z) ?_
  obtain ⟨_,b5,aC⟩:=bdS aB;refine RX z (at_ (α:=Int) x_ z_3 z z z (a0.g<|((hd.e G).e s8).c sh<|e_ (or0 (f_ lr) (p_<|zt' O<|lt_ he G.s):∀k∈[H.z],¬B k)) b5) ?_;rintro _ ⟨_,_,_,rfl,b6,b7,_⟩;obtain ⟨rfl,b8⟩:=T_ b7;refine R z (l0 g_3 z<|b6.at0 z) ?_;obtain ⟨b9,ae,aD⟩:=bdS aC;refine RX z (b_8 (α:=Int) x_ z_3 z z ha ae) ?_;rintro _ ⟨_,ba,rfl⟩;refine E0 (b_9 (α:=Int) z_3 z ba z z z ae ha hi (d_2 b8) an_ U_) ?_;rintro _ bb ⟨af,bc,be,bf,bg⟩;refine Wn<|Wg<|R z (inc_ a3 (lt_ (a_.len hp) B_) z z)<|Rm z<|Wl ?_
  have ah:∀k∈S3,k∈[H.z]∨I.z<=k:=or1 hj (io sr)<|l_ lr;exact λ_ q=>⟨b9,(som aD).symm,⟨af,q.k<|s7 z z z z z z z,(cM (cM (cr [H.z] I) sh (io sr):Cg [H.z] I b4) bc ah:Cg [H.z] I bb),be,bf,(or2 bg ah an_ (l_ sh.s):∀k∈af,k∈[H.z]∨I.z<=k)⟩⟩
 .rintro L _ bh ⟨S3,aE,bi,ha,hi,hj⟩;refine Wu ?_ aE;refine Ws<|Rl z z z<|Wn<|Wq<|Wc z (λhc=>(R_ hc).elim) (λ_=>?_)
  exact We<|λ_ q=>⟨rfl,⟨S3,q.k<|s4 z z z z,(cM (cr [H.z] I) bi (io sr):Cg [H.z] I bh),ha,hi,(or1 hj (io sr) (l_ lr):∀k∈S3,k∈[H.z]∨I.z<=k)⟩⟩
 .rintro L bj bk rfl ⟨S3,_,sb,ha,hi,hj⟩;have aF:=elL a2;revert bj;refine Wo<|Wm z<|R z (bP (parts:=[]) (cs:=[vI 0,sN,sN]) a_4 z z)<|RM z z ?_
  have hq:=lt_ he G.s;have ai:∀k∈[H.z],¬B k:=or0 (f_ lr)<|p_<|zt' O hq;have aj:=((hd.e G).e s8).c sb<|e_ ai
  have hk:=lt_ (lt_ hq s8.s) sb.s;have ht:=zt' O hk;obtain ⟨bm,_,_,bn,aG⟩:=N_ aF;refine E z (fc call72 z<|aJ.run (B:=bk.z) (x2:=(⟨0,([]:Bt),([]:List Val)⟩:Val)) bn zr (repS.mono (W.g aj) ht) (repS.mono (Y.g aj) ht) (((a4.e G).e s8).c sb<|(e_ ai) _ hC1b) (zap' ht hC1b) (ii z) onL U_ (nbl an_) onL U_ (nbl an_) an_ (a_.rep ha) aS) ?_;rintro _ _ ⟨ak,al,am,an,ao,ap,aq,ar,au,bo,bp,rfl,bq,br,bs,bt,bu,av,hu,hl⟩
  iterate 3 refine Re z z z ?_
  refine E0 (fs0 (cur':=[vI bm.number,sl al am an,sl ap aq ar]) h_ z z ((((h5.e G).e s8).c sb<|djs<|mm1 h5.lt G.s).c ak<|atp<|nmA (nmN _)<|nmN _) z z z z) ?_;rintro _ _ ⟨bv,bw⟩;have hn:=bw.one;refine Ra z<|Rw z ?_
  obtain rfl:=som aG;have hv:=lt_ (lt_ G.s s8.s) sb.s;exact Wr<|A_ hr (s_ y_ h_ z bv z) z z ⟨bM (bM (bM (bup (bup (bup h4 h6) G) s8) sb<|m1 hq) ak al0) hn<|m1 h4.s,al,am,an,ao,ap,aq,ar,au,bo,bp,z,bq,br.c hn (or1 (al_ hl) al0 (a_T (f_ h5.lt) hv):∀k∈ao,k∉[J.z]),bs.c hn (or1 (ar_ hl) al0 (a_T (f_ h5.lt) hv):∀k∈au,k∉[J.z]),bt,bu.c hn<|t_ av h5.lt hv,n_ av hk,na_ (nl_ hu) (nr_ hu)<|nj hu,aa_ (c_6 (al_ hl) al0 hk)<|c_6 (ar_ hl) al0 hk⟩
 rintro _ _ _ _ rfl ⟨rfl,aH⟩;have aI:=elR a2;obtain rfl:=som aI;exact ⟨aH,z⟩
theorem T_w1o (ih:f_t n):l_Y (h_M n<|a_d n):=by
 obtain ⟨aY,_,_,_,_,_⟩:=ih
 constructor
 intro A0 A6 AE AH A7 N0 C0 N6 C6 b1 o1 NE CE NH CH N7 C7 S2_1 S2_2 B x1 x2 x3 x4 res w0 hm ae aL aM hC1 hC1b aN Y p2_1n p2_1g a0 p2_2n p2_2g p2_2d1 a1 aO;unfold h_M at hm
 refine goG func72 z z z λfn hr=>Ws<|E z (fb z) ?_
 rintro _ wb ⟨rfl,af⟩;have h2:=af.below;have he:Blk wb w0.z [vI x2.number,sl AE NE CE,sl AH NH CH]:=af.blk;refine E z (fa a_f) ?_;rintro _ G ⟨rfl,ah⟩;have W:=ah.below;have hk:Blk G wb.z [vI 0,sN,sN]:=ah.blk;refine Ra z<|Rw z<|Wq<|Wm z ?_
 have ai:=(h2.ag B).e W;refine R z (lnR x_ z<|a1.g ai)<|Rm z<|Wn ?_
 obtain ⟨_,aP,aa⟩:=bdS hm;refine Wf (σ:=Int×(List Val)) (ρ:=Val×Int×(Option<|Int×Int)) (λ(aj:Nat) s a w=>un2 (λxc xh=>∃I J L H,Sat 45 [(0,.pointer<|some ⟨b1,o1,none⟩),(3,vI xc),(5,pt w0.z),(8,pt wb.z),(16,sl A7 N7 C7),(17,vI (x3.length:Int)),(18,vI ((aj:Nat):Int))] a/\Chg (· ∈ (S2_2++[w0.z])) G w/\inI xc/\a_ w H (sl I J L) xh/\H.Nodup/\(∀k∈H,k∈S2_2∨G.z<=k)/\Blk w w0.z [vI x2.number,sl AE NE CE,sl I J L]) s) (λs a w=>un2 (λxc xh=>∃I J L H,Sat 45 [(3,vI xc),(5,pt w0.z),(8,pt wb.z)] a/\Chg (· ∈ (S2_2++[w0.z])) G w/\inI xc/\a_ w H (sl I J L) xh/\H.Nodup/\(∀k∈H,k∈S2_2∨G.z<=k)/\Blk w w0.z [vI x2.number,sl AE NE CE,sl I J L]) s) (rQ prog fn<|Q26 w0 B S2_1 S2_2) aP ?_ ?_ ?_ ?_ ?_
 .exact λ_ q=>⟨AH,NH,CH,S2_2,q.k<|s7 z z z z z z z,cr (S2_2++[w0.z]) G,aO,(a0.e h2).e W,p2_2n,io sr,he.e W⟩
 .rintro aj ⟨xc,xh⟩ _ ak _ ab ⟨I,J,L,H,aQ,s6,hi,hf,hl,hd,hn⟩ aR;refine Wu ?_ aQ;refine Ws<|Rl z z z<|Wn<|Wq<|Wc z (λ_=>?_) (λhc=>(Q_ ab hc).elim)
  refine Wk<|Wq<|Wb<|Ws ?_
  obtain ⟨_,aZ,aS⟩:=bdS<|a_P aR;have al:∀k∈[w0.z],¬B k:=or0 (f_ lr)<|p_ ae;have ht:=ai.c s6<|nmA (e_ p2_2g)<|e_ al
  refine RX z (at_ (α:=Int) x_ z_3 z z z (a1.g ht) aZ) ?_;rintro _ ⟨_,_,_,rfl,b0,b2,_⟩;obtain ⟨rfl,b3⟩:=T_ b2;refine R z (l0 g_3 z<|b0.at0 z)<|Rw z<|Wm z<|RM z z ?_
  have hu:=lt_ (lt_ h2.s W.s) s6.s;obtain ⟨ro,b4,_,b5,ad⟩:=N_ aS;refine E z (fc call38 z<|aY.run b5 (zt' ae hu) (aL.g ht) (aM.g ht) (((hC1.e h2).e W).c s6<|(nmA (e_ p2_2g)<|e_ al) _ hC1b) hC1b b3 hi) ?_;rintro _ wm ⟨sa,ar,ns,cv,am,aw,nx,cy,an,b6,b7,rfl,b8,hp,hq,b9,ao,ap,hz,hj⟩;refine Rm z ?_
  iterate 3 refine Re z z z ?_
  refine E z (fa a_f) ?_;rintro _ a4 ⟨rfl,aq⟩;have O:=aq.below;refine E0 (fs0 (cur':=[vI ro.number,sl ar ns cv,sl aw nx cy]) h_ z z (aq.blk:Blk a4 wm.z [vI 0,sN,sN]) z z z z) ?_;rintro _ a5 ⟨ba,bb⟩;have V:=bb.one;refine Ra z<|Rw z<|Wq<|Wm z ?_
  have au:=(ao.e O).c V<|ds<|mnr<|a_C.lt ao
  refine R z (d_R e_e z z au)<|Wx z (λa2=>?_) (λa2=>?_)
  .refine Ws<|R z (bP (parts:=[]) (cs:=[vI 0,sN,sN]) a_4 z z)<|RM z z ?_
   refine E0 (fs0 (cur':=[vI 0,sN,sN]) h_ z z ((((hk.c s6<|atp<|nmA (mno (a_.lt a0) h2.s)<|mmr he.lt).e sa).e O).c V<|djs<|mm1 hk.lt<|lt_ s6.s sa.s) z z z z) ?_;rintro _ bc ⟨be,bf⟩;have av:=bf.one;refine Ra z<|Rw z ?_
   exact Wr<|rtO<|qL (som<|ifT ad a2).symm<|A_ hr (s_ y_ h_ z be z) z z ⟨(cM (cM (j_ (j_ (cM (j_ (j_ (cr (S2_1++S2_2) w0) h2:Chg (· ∈ (S2_1++S2_2)) w0 wb) W:Chg (· ∈ (S2_1++S2_2)) w0 G) s6 (aa_ (io<|a_0 sr) (mor lr:∀k∈[w0.z],k∈(S2_1++S2_2)∨w0.z<=k)):Chg (· ∈ (S2_1++S2_2)) w0 ak) sa:Chg (· ∈ (S2_1++S2_2)) w0 wm) O:Chg (· ∈ (S2_1++S2_2)) w0 a4) V (mor (lt_ hu sa.s):∀k∈[wm.z],k∈(S2_1++S2_2)∨w0.z<=k):Chg (· ∈ (S2_1++S2_2)) w0 a5) av (mor h2.s:∀k∈[wb.z],k∈(S2_1++S2_2)∨w0.z<=k):Chg (· ∈ (S2_1++S2_2)) w0 bc),none,0,0,[],none,0,0,[],b6,b7,z,ii z,onL,onL,hi,au.c av<|t_ ap hk.lt s6.s,n_ ap hu,nd0,al0⟩
  refine Wk<|Ws<|Rf z a_y z ?_
  have a6:=lt_ W.s s6.s;have ax:=lt_ a6 sa.s;have ay:=((hn.e sa).e O).c V<|djs<|mm1 he.lt ax
  refine R z (l0 a_E z<|ay.at z)<|R z (lN (vs:=[vI ro.number,sl ar ns cv,sl aw nx cy]) y_ h_ z z fid<|ba.row 0 3 z)<|E z (fS [(.tmp 37)] k_2 z z z (b_l z) (lb z)<|lb z) ?_
  rintro _ az ⟨rfl,aA⟩;have hg:=aA.below;have bw:=(hp.e O).c V<|ds<|mnr<|a_.lt hp
  have bx:=(hq.e O).c V<|ds<|mnr<|a_.lt hq
  obtain ⟨bg,bh,aT⟩:=bdS<|ifF ad a2;refine E z (b_W (α:=Val) k_2 bh z z ((((hf.e sa).e O).c V<|ds<|mno (a_.lt hf) sa.s).e hg) hl (aA.blk:Blk az a5.z [vI ro.number,sl ar ns cv,sl aw nx cy]) (p_1 (x:=ro) (S1:=am) (S2:=an) b8 (((hp.e O).c V<|ds<|mnr<|a_.lt hp).e hg)<|((hq.e O).c V<|ds<|mnr<|a_.lt hq).e hg) (aa_ (a_M (al_ hj) (a_.lt hf) lr)<|a_M (ar_ hj) (a_.lt hf) lr)<|na_ (nl_ hz) (nr_ hz)<|nj hz) ?_;rintro _ bi ⟨a7,aB,aC,aD,rfl,aE,bj,bk,aF⟩;refine Rf z a_y z ?_;have aG:∀k∈H,k∉[w0.z]:=or1 hd (ds<|mnr<|a_.lt a0)<|a_T (f_ he.lt) W.s;refine E0 (fs0 (cur':=[vI x2.number,sl AE NE CE,sl aB aC aD]) z_48 z z ((ay.e hg).c aE<|djs aG) z z z z) ?_;rintro _ bm ⟨bn,bo⟩;have aH:=bo.one;refine Wn<|Wg<|Rm z<|Rw z<|Wg<|R z (inc_ ab (lt_ (repS.len a1) B_) z z)<|Rm z<|Wl ?_
  have aI:=lt_ s6.s sa.s;exact λ_ q=>⟨(b4,bg),(som aT).symm,⟨aB,aC,aD,a7,q.k<|s7 z z z z z z z,(cM (cM (j_ (cM (j_ (j_ (cM (cr (S2_2++[w0.z]) G) s6 (aa_ (io<|a_z sr)<|io<|a_0 sr):Chg (· ∈ (S2_2++[w0.z])) G ak) sa:Chg (· ∈ (S2_2++[w0.z])) G wm) O:Chg (· ∈ (S2_2++[w0.z])) G a4) V (mor aI:∀k∈[wm.z],k∈(S2_2++[w0.z])∨G.z<=k):Chg (· ∈ (S2_2++[w0.z])) G a5) hg:Chg (· ∈ (S2_2++[w0.z])) G az) aE (or1 hd (io<|a_z sr) (l_ lr):∀k∈H,k∈(S2_2++[w0.z])∨G.z<=k):Chg (· ∈ (S2_2++[w0.z])) G bi) aH (io<|a_0 sr):Chg (· ∈ (S2_2++[w0.z])) G bm),b9,bj.c aH (or2 aF aG (aa_ (t_ (al_ hj) he.lt a6)<|t_ (ar_ hj) he.lt a6) (a_T (f_ he.lt)<|lt_ (lt_ (lt_ ax O.s) V.s) hg.s):∀k∈a7,k∉[w0.z]),bk,(or2 aF (or1 hd (io sr) (l_ lr):∀k∈H,k∈S2_2∨G.z<=k) (aa_ (or0 (al_ hj) (l_ s6.s):∀k∈am,k∈S2_2∨G.z<=k) (or0 (ar_ hj) (l_ s6.s):∀k∈an,k∈S2_2∨G.z<=k)) (l_<|lt_ (lt_ (lt_ aI O.s) V.s) hg.s):∀k∈a7,k∈S2_2∨G.z<=k),bn⟩⟩
 .rintro ⟨xc,xh⟩ _ bp ⟨I,J,L,H,aU,bq,hi,hf,hl,hd,hn⟩;refine Wu ?_ aU;refine Ws<|Rl z z z<|Wn<|Wq<|Wc z (λhc=>(R_ hc).elim) (λ_=>?_)
  exact We<|λ_ q=>⟨rfl,⟨I,J,L,H,q.k<|s3 z z z,(cM (cr (S2_2++[w0.z]) G) bq (aa_ (io<|a_z sr)<|io<|a_0 sr):Chg (· ∈ (S2_2++[w0.z])) G bp),hi,hf,hl,(or1 hd (io sr) (l_ lr):∀k∈H,k∈S2_2∨G.z<=k),hn⟩⟩
 .rintro ⟨xc,xh⟩ br bs rfl ⟨I,J,L,H,_,a8,hi,hf,hl,hd,hn⟩;have aV:=elL aa;revert br;refine Wo<|Ws<|R z (lN (vs:=[vI x2.number,sl AE NE CE,sl I J L]) y_ h_ z z fid<|hn.row 0 3 z)<|Rm z ?_
  have aJ:=mno (a_.lt a0) h2.s;refine E0 (fs0 (cur':=[vI x2.number,sl AE NE CE,sl I J L]) h_ z z (hk.c a8<|atp<|nmA aJ<|mmr he.lt) z z z z) ?_;rintro _ bt ⟨bu,bv⟩;have a9:=bv.one;refine Ra z<|Rw z ?_
  obtain rfl:=som<|a_P aV;have aK:=lt_ h2.s W.s;exact Wr<|A_ hr (s_ y_ h_ z bu z) z z ⟨(cM (cM (j_ (j_ (cr (S2_1++S2_2) w0) h2:Chg (· ∈ (S2_1++S2_2)) w0 wb) W:Chg (· ∈ (S2_1++S2_2)) w0 G) a8 (aa_ (io<|a_0 sr) (mor lr:∀k∈[w0.z],k∈(S2_1++S2_2)∨w0.z<=k)):Chg (· ∈ (S2_1++S2_2)) w0 bs) a9 (mor h2.s:∀k∈[wb.z],k∈(S2_1++S2_2)∨w0.z<=k):Chg (· ∈ (S2_1++S2_2)) w0 bt),AE,NE,CE,S2_1,I,J,L,H,.nilIface,([]:List Nat),z,aN,(((Y.e h2).e W).c a8<|nmA (ds p2_2d1)<|ds<|mnr<|a_.lt Y).c a9<|ds<|mno (a_.lt Y) h2.s,hf.c a9 (or1 hd (ds aJ) (a_T (f_ hk.lt) lr):∀k∈H,k∉[wb.z]),hi,e_p,an_,na_ p2_1n hl<|ds<|c_E hd p2_2d1 (a_.lt Y) aK,aa_ (io<|a_z sr) (or1 hd (io<|a_0 sr) (l_ aK):∀k∈H,k∈(S2_1++S2_2)∨w0.z<=k)⟩
 rintro _ _ _ _ rfl ⟨rfl,aW⟩;have aX:=elR aa;obtain rfl:=som aX;exact ⟨aW,z⟩
theorem T_w1p (ih:f_t n):l_Z (h_N n<|a_d n):=by
 obtain ⟨_,_,ar,_,_,_⟩:=ih
 constructor
 intro A0 A6 A2 A3 A1 A4 N0 C0 N6 C6 b1 o1 N2 C2 N3 C3 N1 C1 N4 C4 B x1 x2 x3 res w0 hm Y a0 a1 hC1 hC1b b7 b8 b9 ba bb J a2 L;unfold h_N at hm
 refine goG func73 z z z λfn hr=>Ws<|E z (fb z) ?_
 rintro _ H ⟨rfl,hk⟩;have h1:=hk.below;refine E z (fa a_f) ?_;rintro _ au ⟨rfl,hl⟩;have h4:=hl.below;have h2:Blk au H.z [vI 0,sN,sN]:=hl.blk;refine Ra z<|Rw z<|Wm z<|Rf z P_ z ?_
 have hn:=(hk.blk:Blk H w0.z (vR x2 A2 N2 C2 A3 N3 C3 A1 N1 C1 A4 N4 C4)).e h4;refine R z (l0 E_ z<|hn.at z) ?_;obtain ⟨_,av,af⟩:=bdS hm;have O:=(h1.ag B).e h4;refine RX z (at_ (α:=Int) x_ z_3 z z z (a2.g O) av) ?_;rintro _ ⟨_,_,_,rfl,aw,ax,_⟩;obtain ⟨rfl,az⟩:=T_ ax;refine R z (l0 g_3 z<|aw.at0 z)<|Rm z ?_
 have ho:=(hC1.e h1).e h4;have V:=lt_ h1.s h4.s;obtain ⟨re,aA,_,aB,hmm⟩:=N_ af;refine E z (fc call68 z<|k_d aB (zt' Y V) (a0.g O) (a1.g O) ho hC1b az L) ?_;rintro _ I ⟨G,aC,aD,rfl,aE,aF,hp,hq⟩;refine Rm z ?_
 iterate 3 refine Re z z z ?_
 refine RA z z<|Rw z<|Wq<|Wm z<|R z (d_R e_e z z hp)<|Wx z (λhcf=>?_) (λhcf=>?_)
 .refine Ws<|R z (bP (parts:=[]) (cs:=[vI 0,sN,sN]) a_4 z z)<|RM z z<|E0 (fs0 (cur':=[vI 0,sN,sN]) h_ z z (h2.e G) z z z z) ?_
  rintro _ _ ⟨aG,aH⟩;have ht:=aH.one;refine Ra z<|Rw z ?_
  obtain rfl:=som<|ifT hmm hcf;exact Wr<|A_ hr (s_ y_ h_ z aG z) z z ⟨bM (bup (bup h1 h4) G) ht<|m1 h1.s,none,0,0,[],none,0,0,[],aC,aD,z,ii z,onL,onL,L,hp.c ht<|t_ hq h2.lt lr,n_ hq V,nd0,al0⟩
 refine Wk<|Wq<|Ws<|Rf z b_g z ?_
 have hu:=hn.e G;refine R z (l0 E_ z<|hu.at z) ?_;have hv:=O.e G;refine R z (lnR x_ z<|J.g hv)<|Rm z<|Wn ?_
 obtain ⟨_,ah,hmr⟩:=bdS<|ifF hmm hcf;refine Wf (σ:=Unit) (ρ:=Val×Int×(Option<|Int×Int)) (λ(ks:Nat)(_:Unit) a w=>Sat 61 [(0,.pointer<|some ⟨b1,o1,none⟩),(2,vI x3),(4,pt w0.z),(6,pt H.z),(9,vI re),(10,vI aA),(31,sl A1 N1 C1),(32,vI (x2.tags.length:Int)),(33,vI ((ks:Nat):Int))] a/\Below I.z I w) (λ(_:Unit) a w=>Sat 61 [(2,vI x3),(6,pt H.z)] a/\Below I.z I w) (rQ prog fn<|Q25 w0 B) ah ?_ ?_ ?_ ?_ ?_
 .exact λ_ q=>⟨q.k<|s9 z z z z z z z z z,br I⟩
 .rintro ks _ _ _ _ hkg ⟨ai,s3⟩ aj;refine Wu ?_ ai;refine Ws<|Rl z z z<|Wn<|Wq<|Wc z (λ_=>?_) (λhc=>(Q_ hkg hc).elim)
  refine Wk<|Wq<|Wb<|Wm z ?_
  obtain ⟨_,aI,hmw⟩:=bdS aj;have W:=hv.e s3;refine RX z (at_ (α:=Int) x_ z_3 z z z (J.g W) aI) ?_;rintro _ ⟨_,_,_,rfl,aJ,aK,_⟩;obtain ⟨rfl,_⟩:=T_ aK;refine R z (l0 g_3 z<|aJ.at0 z)<|Ra z<|Rw z<|Wm z<|Rm z<|Rq z z z<|Wx z (λhch=>?_) (λhch=>?_)
  .refine Wm z<|Rm z<|R z (bP (parts:=[(0,.tmp 42)]) (cs:=[vI re,sN,sN]) a_4 z z)<|Rf z P_ z<|R z (l0 E_ z<|(hu.e s3).at z)<|Rm z<|R z (inc_ hkg (lt_ (repS.len J) B_) z z)<|Rm z<|R z (add_ z z) ?_
   obtain ⟨_,aL,ak⟩:=bdS<|ifT hmw hch;refine RX z (rX x_ z_3 z z (a2.g W) z z aL) ?_;rintro _ ⟨_,_,_,rfl,aM⟩;refine Rm z ?_;have ha:=lt_ (lt_ V G.s) s3.s;obtain ⟨aN,_,_,aO,al⟩:=N_ ak;refine E z (fc call72 z<|ar.run (B:=B) (x2:=(⟨re,([]:Bt),([]:List Val)⟩:Val)) aO (zt' Y ha) (a0.g W) (a1.g W) ((ho.e G).e s3) hC1b aE onL U_ an_ onL U_ an_ an_ aM aF) ?_;rintro _ _ ⟨sx,ay,nz,a3,a4,a5,a6,a7,a8,aP,aQ,rfl,aR,aS,aT,aU,aV,a9,hi,hb⟩
   iterate 3 refine Re z z z ?_
   refine E0 (fs0 (cur':=[vI aN.number,sl ay nz a3,sl a5 a6 a7]) h_ z z (((h2.e G).e s3).c sx<|atp<|nmA (nmN _)<|nmN _) z z z z) ?_;rintro _ _ ⟨aW,aX⟩;have hd:=aX.one;refine Ra z<|Rw z ?_
   have hj:=lt_ G.s s3.s;exact Wr<|rtO<|qL (som al).symm<|A_ hr (s_ y_ h_ z aW z) z z ⟨bM (bM (bup (bup (bup h1 h4) G) s3) sx al0) hd<|m1 h1.s,ay,nz,a3,a4,a5,a6,a7,a8,aP,aQ,z,aR,aS.c hd (or1 (al_ hb) al0 (a_T (f_ h2.lt) hj):∀k∈a4,k∉[H.z]),aT.c hd (or1 (ar_ hb) al0 (a_T (f_ h2.lt) hj):∀k∈a8,k∉[H.z]),aU,aV.c hd<|t_ a9 h2.lt hj,n_ a9 ha,na_ (nl_ hi) (nr_ hi)<|nj hi,aa_ (c_6 (al_ hb) al0 ha)<|c_6 (ar_ hb) al0 ha⟩
  exact Wk<|Wg<|R z (inc_ hkg (lt_ (repS.len J) B_) z z)<|Rm z<|Wl (λ_ q=>⟨(),(som<|ifF hmw hch).symm,⟨q.k<|s9 z z z z z z z z z,s3⟩⟩)
 .rintro _ _ _ ⟨am,aY⟩;refine Wu ?_ am;refine Ws<|Rl z z z<|Wn<|Wq<|Wc z (λhc=>(R_ hc).elim) (λ_=>?_)
  exact We<|λ_ q=>⟨rfl,⟨q.k<|s2 z z,aY⟩⟩
 .rintro _ aZ _ rfl ⟨_,sc⟩;have an:=elL hmr;revert aZ;refine Wo<|Ws<|R z (bP (parts:=[]) (cs:=[vI 0,sN,sN]) a_4 z z)<|RM z z ?_
  have aa:=lt_ (lt_ V G.s) sc.s;obtain ⟨_,b0,ao⟩:=bdS an;refine E z (fc call77 z<|e_W b0 (zt' Y aa) L<|ii z) ?_;rintro _ _ ⟨ab,b2,b3,rfl,b4,ad⟩;refine E0 (fs0 (cur':=[vI 0,sN,sN]) h_ z z (((h2.e G).e sc).e ab) z z z z) ?_;rintro _ _ ⟨b5,b6⟩;have ae:=b6.one;refine Ra z<|Rw z ?_
  obtain rfl:=som ao;exact Wr<|A_ hr (s_ y_ h_ z b5 z) z z ⟨bM (bup (bup (bup (bup h1 h4) G) sc) ab) ae<|m1 h1.s,none,0,0,[],none,0,0,[],b2,b3,z,ii z,onL,onL,L,b4.c ae<|t_ ad h2.lt<|lt_ G.s sc.s,n_ ad aa,nd0,al0⟩
 rintro _ _ _ _ rfl ⟨rfl,ap⟩;have aq:=elR hmr;obtain rfl:=som aq;exact ⟨ap,z⟩
theorem T_w1q (ih:f_t n):m_0 (h_O n<|a_d n):=by
 obtain ⟨_,_,a6,_,_,_⟩:=ih
 constructor
 intro A0 A6 A2 A3 A1 A4 N0 C0 N6 C6 b1 o1 N2 C2 N3 C3 N1 C1 N4 C4 B x1 x2 x3 res w0 hm O W Y hC1 hC1b aI aJ aK aL aM aN a3 H;unfold h_O at hm
 refine goG func74 z z z λfn hr=>Ws<|E z (fb z) ?_
 rintro _ I ⟨rfl,hf⟩;have h1:=hf.below;refine E z (fa a_f) ?_;rintro _ a7 ⟨rfl,hg⟩;have h3:=hg.below;have h2:Blk a7 I.z [vI 0,sN,sN]:=hg.blk;refine Ra z<|Rw z<|Wm z<|Rm z ?_
 have hh:=(hC1.e h1).e h3;have V:=(h1.ag B).e h3;have h5:=lt_ h1.s h3.s;obtain ⟨_,_,a8,hmi⟩:=a_8 hm;refine E z (fc call122 z<|k_c a8 (zt' O h5) (W.g V) (Y.g V) hh hC1b H<|ii z) ?_;rintro _ _ ⟨G,_,_,_,a9,aa,rfl,hj,hk,hl⟩;refine Rm z<|Re z z z<|Re z z z<|Ra z<|Rw z<|Wq<|Wb<|Wm z<|R z (d_R e_e z z hk)<|Rw z<|Wc z (λhca=>?_) (λhca=>?_)
 .refine Ws<|R z (bP (parts:=[]) (cs:=[vI 0,sN,sN]) a_4 z z)<|RM z z<|E0 (fs0 (cur':=[vI 0,sN,sN]) h_ z z (h2.e G) z z z z) ?_
  rintro _ _ ⟨ab,ad⟩;have hn:=ad.one;refine Ra z<|Rw z ?_
  obtain rfl:=som<|ifT hmi hca;exact Wr<|rtO<|A_ hr (s_ y_ h_ z ab z) z z ⟨bM (bup (bup h1 h3) G) hn<|m1 h1.s,none,0,0,[],none,0,0,[],a9,aa,z,ii z,onL,onL,H,hk.c hn<|t_ hl h2.lt lr,n_ hl h5,nd0,al0⟩
 refine Wm z ?_
 obtain ⟨_,ae,hmm⟩:=bdS<|ifF hmi hca;refine RX z (at_ (α:=UInt8) o_ z_5 z z z hj ae) ?_;rintro _ ⟨_,_,_,rfl,af,ah,_⟩;obtain rfl:=u8 ah;refine R z (l0 g_5 z<|af.at0 z)<|R z (a_b z z)<|Rw z<|Wc z (λhcb=>?_) (λhcb=>?_)
 .refine Ws<|R z (bP (parts:=[]) (cs:=[vI 0,sN,sN]) a_4 z z)<|RM z z ?_
  have ho:=lt_ h5 G.s;obtain ⟨_,ai,a4⟩:=bdS<|ifT hmm hcb;refine E z (fc call77 z<|e_W ai (zt' O ho) H<|ii z) ?_;rintro _ _ ⟨sp,aj,ak,rfl,al,hq⟩;refine E0 (fs0 (cur':=[vI 0,sN,sN]) h_ z z ((h2.e G).e sp) z z z z) ?_;rintro _ _ ⟨am,an⟩;have ht:=an.one;refine Ra z<|Rw z ?_
  obtain rfl:=som a4;exact Wr<|rtO<|A_ hr (s_ y_ h_ z am z) z z ⟨bM (bup (bup (bup h1 h3) G) sp) ht<|m1 h1.s,none,0,0,[],none,0,0,[],aj,ak,z,ii z,onL,onL,H,al.c ht<|t_ hq h2.lt G.s,n_ hq ho,nd0,al0⟩
 refine Wm z ?_
 obtain ⟨_,ao,hmr⟩:=bdS<|ifF hmm hcb;refine RX z (at_ (α:=UInt8) o_ z_5 z z z hj ao) ?_;rintro _ ⟨_,_,_,rfl,ap,aq,_⟩;obtain rfl:=u8 aq;refine R z (l0 g_5 z<|ap.at0 z)<|Rq z z z<|Rw z<|Wc z (λhcc=>?_) (λhcc=>?_)
 .refine Ws<|R z (bP (parts:=[]) (cs:=[vI 0,sN,sN]) a_4 z z)<|Rm z<|R z (add_ z z)<|E0 (fs0 (cur':=[vI 0,sN,sN]) h_ z z (h2.e G) z z z z) ?_
  rintro _ _ ⟨ar,av⟩;refine Ra z<|Rw z ?_
  obtain rfl:=som<|ifT hmr hcc;exact Wr<|rtO<|A_ hr (s_ y_ h_ z ar z) z z ⟨bM (bup (bup h1 h3) G) av.one<|m1 h1.s,none,0,0,[],none,0,0,[],.nilIface,([]:List Nat),z,ii z,onL,onL,iA _ _,e_p,an_,nd0,al0⟩
 refine Wk<|Wm z<|R z (bP (parts:=[]) (cs:=[vI 0,sN,sN]) a_4 z z)<|Rf z P_ z<|R z (l0 E_ z<|(((hf.blk:Blk I w0.z (vR x2 A2 N2 C2 A3 N3 C3 A1 N1 C1 A4 N4 C4)).e h3).e G).at z)<|Rm z<|R z (add_ z z) ?_
 have hd:=V.e G;have h6:=lt_ h5 G.s;obtain ⟨aw,_,_,ax,a5⟩:=N_<|ifF hmr hcc;refine E z (fc call72 z<|a6.run (B:=B) (x2:=(⟨0,([]:Bt),([]:List Val)⟩:Val)) ax (zt' O h6) (W.g hd) (Y.g hd) (hh.e G) hC1b (ii z) onL U_ an_ onL U_ an_ an_ (a3.g hd)<|iA _ _) ?_;rintro _ _ ⟨ss,au,nv,cw,Sx,ay,nz,a0,a1,az,aA,rfl,aB,aC,aD,aE,aF,a2,he,J⟩
 iterate 3 refine Re z z z ?_
 refine E0 (fs0 (cur':=[vI aw.number,sl au nv cw,sl ay nz a0]) h_ z z ((h2.e G).c ss<|atp<|nmA (nmN _)<|nmN _) z z z z) ?_;rintro _ _ ⟨aG,aH⟩;have L:=aH.one;refine Ra z<|Rw z ?_
 obtain rfl:=som a5;exact Wr<|A_ hr (s_ y_ h_ z aG z) z z ⟨bM (bM (bup (bup h1 h3) G) ss al0) L<|m1 h1.s,au,nv,cw,Sx,ay,nz,a0,a1,az,aA,z,aB,aC.c L (or1 (al_ J) al0 (a_T (f_ h2.lt) G.s):∀k∈Sx,k∉[I.z]),aD.c L (or1 (ar_ J) al0 (a_T (f_ h2.lt) G.s):∀k∈a1,k∉[I.z]),aE,aF.c L<|t_ a2 h2.lt G.s,n_ a2 h6,na_ (nl_ he) (nr_ he)<|nj he,aa_ (c_6 (al_ J) al0 h6)<|c_6 (ar_ J) al0 h6⟩
theorem T_w1r (ih:f_t n):m_1 (h_P n<|a_d n):=by
 obtain ⟨_,_,ap,_,_,_⟩:=ih
 constructor
 intro A0 A6 A2 A3 A1 A4 N0 C0 N6 C6 b1 o1 N2 C2 N3 C3 N1 C1 N4 C4 B x1 x2 x3 res w0 hm J V O hC1 hC1b aW aX aY aZ b0 b2 al L;unfold h_P at hm
 refine goG func75 z z z λfn hr=>Ws<|E z (fb z) ?_
 rintro _ wb ⟨rfl,hu⟩;have h6:=hu.below;refine E z (fa a_f) ?_;rintro _ aq ⟨rfl,hv⟩;have H:=hv.below;have h3:Blk aq wb.z [vI 0,sN,sN]:=hv.blk;refine Ra z<|Rw z<|Wm z<|R z (bP (parts:=[]) (cs:=[vI 0,sN,sN]) a_4 z z)<|Rf z P_ z<|R z (l0 E_ z<|((hu.blk:Blk wb w0.z (vR x2 A2 N2 C2 A3 N3 C3 A1 N1 C1 A4 N4 C4)).e H).at z)<|Rm z ?_
 have hw:=(hC1.e h6).e H;have hc:=(h6.ag B).e H;have I:=lt_ h6.s H.s;obtain ⟨rk,_,_,ar,hmr⟩:=N_ hm;refine E z (fc call72 z<|ap.run (B:=B) (x2:=(⟨0,([]:Bt),([]:List Val)⟩:Val)) ar (zt' J I) (V.g hc) (O.g hc) hw hC1b (ii z) onL U_ an_ onL U_ an_ an_ (al.g hc) L) ?_;rintro _ ws ⟨G,ad,ne,cf,Sx,ah,ng,ci,Sy,au,av,rfl,aw,hz,a0,a1,a2,a3,hl,hj⟩;refine Rm z ?_
 iterate 3 refine Re z z z ?_
 refine E z (fa a_f) ?_;rintro _ ax ⟨rfl,a4⟩;have h1:=a4.below;refine E0 (fs0 (cur':=[vI rk.number,sl ad ne cf,sl ah ng ci]) h_ z z (a4.blk:Blk ax ws.z [vI 0,sN,sN]) z z z z) ?_;rintro _ _ ⟨ay,az⟩;have h2:=az.one;refine Ra z<|Rw z<|Wq<|Wm z ?_
 have a5:=(a2.e h1).c h2<|ds<|mnr<|a_C.lt a2
 refine R z (d_R e_e z z a5)<|Wx z (λhcm=>?_) (λhcm=>?_)
 .refine Ws<|R z (bP (parts:=[]) (cs:=[vI 0,sN,sN]) a_4 z z)<|RM z z<|E0 (fs0 (cur':=[vI 0,sN,sN]) h_ z z (((h3.c G<|atp<|nmA (nmN _)<|nmN _).e h1).c h2<|djs<|mm1 h3.lt G.s) z z z z) ?_
  rintro _ _ ⟨aA,aB⟩;have a6:=aB.one;refine Ra z<|Rw z ?_
  obtain rfl:=som<|ifT hmr hcm;exact Wr<|A_ hr (s_ y_ h_ z aA z) z z ⟨bM (bM (bup (bM (bup h6 H) G al0) h1) h2<|m1<|lt_ I G.s) a6<|m1 h6.s,none,0,0,[],none,0,0,[],au,av,z,ii z,onL,onL,L,a5.c a6<|t_ a3 h3.lt lr,n_ a3 I,nd0,al0⟩
 refine Wk<|Wm z<|Rm z ?_
 have ha:=lt_ I G.s;have a7:∀k∈[ws.z],¬B k:=or0 (f_ lr)<|p_<|zt' J ha;have a8:=((hw.c G<|(nmA (e_ an_)<|e_ an_) _ hC1b).e h1).c h2<|(e_ a7) _ hC1b
 have hn:=((hc.c G<|nmA (e_ an_)<|e_ an_).e h1).c h2<|e_ a7
 have ho:=lt_ (lt_ ha h1.s) h2.s;obtain ⟨_,_,aC,W⟩:=a_8<|ifF hmr hcm;refine E z (fc call122 z<|k_c aC (zt' J ho) (V.g hn) (O.g hn) a8 hC1b a1<|ii z) ?_;rintro _ _ ⟨s4,_,_,_,aD,aE,rfl,aF,a9,aa⟩;refine Rm z<|Re z z z<|Re z z z<|Ra z<|Rw z<|Wq<|Wm z<|R z (d_R e_e z z a9)<|Wx z (λhcp=>?_) (λhcp=>?_)
 .refine Ws<|R z (bP (parts:=[]) (cs:=[vI 0,sN,sN]) a_4 z z)<|RM z z<|E0 (fs0 (cur':=[vI 0,sN,sN]) h_ z z ((((h3.c G<|atp<|nmA (nmN _)<|nmN _).e h1).c h2<|djs<|mm1 h3.lt G.s).e s4) z z z z) ?_
  rintro _ _ ⟨aG,aH⟩;have ab:=aH.one;refine Ra z<|Rw z ?_
  obtain rfl:=som<|ifT W hcp;exact Wr<|A_ hr (s_ y_ h_ z aG z) z z ⟨bM (bup (bM (bup (bM (bup h6 H) G al0) h1) h2<|m1 ha) s4) ab<|m1 h6.s,none,0,0,[],none,0,0,[],aD,aE,z,ii z,onL,onL,L,a9.c ab<|t_ aa h3.lt<|lt_ (lt_ G.s h1.s) h2.s,n_ aa ho,nd0,al0⟩
 refine Wk<|Wq<|Wq (Wd (X:=noX) 0 (pl_ 13 [11]) mo (by kernel_rfl) λb3 s5 _=>dM z z z ?_)
 obtain ⟨_,aI,am⟩:=bdS<|ifF W hcp;refine dRX z z (at_ (α:=UInt8) o_ z_5 z z z (aF.e s5) aI) ?_;rintro _ ⟨_,_,_,rfl,aJ,aK,_⟩;obtain rfl:=u8 aK;refine dR z z (l0 g_5 z<|aJ.at0 z)<|dR z z (c_h d_5 d_3 z)<|dM z z z<|dR z z (J_ z)<|dR z z (fd g_y z)<|dR z z (l0 X_ z<|((a8.e s4).e s5).at (j:=1) z)<|dM z z z<|dM z z z ?_
 obtain ⟨_,aL,an⟩:=bdS am;refine dRX z z (rX o_ z_5 z z (O.g<|(hn.e s4).e s5) z z aL) ?_;rintro _ ⟨_,_,_,rfl,aM⟩;have ae:=lt_ (lt_ ho s4.s) s5.s;obtain ⟨_,aN,Y⟩:=bdS an;refine dE z z (fc call124 z<|W_w1l aN (zt' J ae) aM) (.inr λ_ _ h=>C_<|h.1) ?_;rintro _ _ ⟨s7,rfl,_⟩;refine dR z z (nq z z)<|pD<|Wo<|Wc z (λhcq=>?_) (λhcq=>?_)
 .refine Ws<|R z (bP (parts:=[]) (cs:=[vI 0,sN,sN]) a_4 z z)<|RM z z ?_
  have af:=lt_ ae s7.s;obtain ⟨_,aO,ao⟩:=bdS<|ifT Y hcq;refine E z (fc call77 z<|e_W aO (zt' J af) a1<|ii z) ?_;rintro _ _ ⟨ai,aP,aQ,rfl,aR,aj⟩;refine E0 (fs0 (cur':=[vI 0,sN,sN]) h_ z z (((((((h3.c G<|atp<|nmA (nmN _)<|nmN _).e h1).c h2<|djs<|mm1 h3.lt G.s).e s4).e s5).e s7).e ai) z z z z) ?_;rintro _ _ ⟨aS,aT⟩;have ak:=aT.one;refine Ra z<|Rw z ?_
  obtain rfl:=som ao;exact Wr<|A_ hr (s_ y_ h_ z aS z) z z ⟨bM (bup (bup (bup (bup (bM (bup (bM (bup h6 H) G al0) h1) h2<|m1 ha) s4) s5) s7) ai) ak<|m1 h6.s,none,0,0,[],none,0,0,[],aP,aQ,z,ii z,onL,onL,L,aR.c ak<|t_ aj h3.lt<|lt_ (lt_ (lt_ (lt_ (lt_ G.s h1.s) h2.s) s4.s) s5.s) s7.s,n_ aj af,nd0,al0⟩
 refine Wk<|Ws<|R z (lN (vs:=[vI rk.number,sl ad ne cf,sl ah ng ci]) y_ h_ z z fid<|(((ay.e s4).e s5).e s7).row 0 3 z)<|Rm z<|R z (add_ z z)<|E0 (fs0 (cur':=[vI rk.number,sl ad ne cf,sl ah ng ci]) h_ z z ((((((h3.c G<|atp<|nmA (nmN _)<|nmN _).e h1).c h2<|djs<|mm1 h3.lt G.s).e s4).e s5).e s7) z z z z) ?_
 rintro _ _ ⟨aU,aV⟩;have ht:=aV.one;refine Ra z<|Rw z ?_
 obtain rfl:=som<|ifF Y hcq;exact Wr<|A_ hr (s_ y_ h_ z aU z) z z ⟨bM (bup (bup (bup (bM (bup (bM (bup h6 H) G al0) h1) h2<|m1 ha) s4) s5) s7) ht<|m1 h6.s,ad,ne,cf,Sx,ah,ng,ci,Sy,.nilIface,([]:List Nat),z,aw,(((((hz.e h1).c h2<|ds<|mnr<|a_.lt hz).e s4).e s5).e s7).c ht (or1 (al_ hj) al0 (a_T (f_ h3.lt) lr):∀k∈Sx,k∉[wb.z]),(((((a0.e h1).c h2<|ds<|mnr<|a_.lt a0).e s4).e s5).e s7).c ht (or1 (ar_ hj) al0 (a_T (f_ h3.lt) lr):∀k∈Sy,k∉[wb.z]),iA _ _,e_p,an_,na_ (nl_ hl) (nr_ hl)<|nj hl,aa_ (c_6 (al_ hj) al0 I)<|c_6 (ar_ hj) al0 I⟩
theorem d_1:∀n,f_t n
  | 0=>⟨⟨λhm=>by intros;exact nomatch (show none=some _ from hm)⟩,⟨λhm=>by intros;exact nomatch (show none=some _ from hm)⟩,⟨λhm=>by intros;exact nomatch (show none=some _ from hm)⟩,⟨λhm=>by intros;exact nomatch (show none=some _ from hm)⟩,⟨λhm=>by intros;exact nomatch (show none=some _ from hm)⟩,⟨λhm=>by intros;exact nomatch (show none=some _ from hm)⟩⟩
  | n+1=>⟨T_w02<|d_1 n,T_w1n<|d_1 n,T_w1o<|d_1 n,T_w1p<|d_1 n,T_w1q<|d_1 n,T_w1r<|d_1 n⟩
theorem W_w02:l_W (a_d n).impl_fileReader_value:=(d_1 n).1
theorem W_w1n:l_X (a_d n).impl_fileReader_array:=(d_1 n).2.1
theorem W_w1o:l_Y (a_d n).impl_fileReader_items:=(d_1 n).2.2.1
theorem W_w1p:l_Z (a_d n).impl_fileReader_choice:=(d_1 n).2.2.2.1
theorem W_w1q:m_0 (a_d n).impl_fileReader_option:=(d_1 n).2.2.2.2.1
theorem W_w1r:m_1 (a_d n).impl_fileReader_checked:=(d_1 n).2.2.2.2.2
theorem k_e {x1:d_}{x2:Int}{x3:Bt}{x4:Int}{res:Val×Int×Int}(hm:e_a n x1 x2 x3 x4=some res)(O:B<=w0.z)(hG:Gl w0 B)(V:repS w0 B (sl A0 N0 C0) x1.rules)(W:inI x2)(Y:repS w0 B (sl A7 N7 C7) x3)(aB:inI x4):i_ prog 21 [(.agg #[sl A0 N0 C0]),vI x2,sl A7 N7 C7,vI x4] w0 (Q9 w0 B res):=by
 unfold e_a at hm
 refine goG func21 z z z λfn hr=>Ws<|E z (fb z) ?_
 rintro _ wc ⟨rfl,a5⟩;have h1:=a5.below;have a6:Blk wc w0.z [sl A0 N0 C0]:=a5.blk;refine E z (fa a_f) ?_;rintro _ wp ⟨rfl,a7⟩;have h4:=a7.below;have h5:Blk wp wc.z [vI 0,sN,sN]:=a7.blk;refine Ra z<|Rw z<|Wq<|Wq ?_
 obtain ⟨aE,aC,a0⟩:=bdS hm;refine Wt (λa w=>∃(xq:Bool),xq=aE/\Sat 62 [(1,vI x2),(2,sl A7 N7 C7),(3,vI x4),(4,pt w0.z),(8,pt wc.z),(34,vB xq)] a/\Below wp.z wp w) ?_ ?_
 .refine Wg<|R z (lN (vs:=[sl A0 N0 C0]) w_ v_ z z fid<|(a6.e h4).row 0 1 z)<|Rm z ?_
  have a8:=(h1.ag B).e h4;obtain ⟨aF,aG,a1⟩:=bdS aC;refine E z (fc call37 z<|k_b aG (zt' O<|lt_ h1.s h4.s) (V.g a8) W) ?_;rintro _ _ ⟨sd,rfl⟩;refine R z (not_ z)<|Rm z ?_
  rcases bs (!aF) with J | J
  .exact Nh z J<|Nh z J<|R z (pT z J z)<|Rm z<|Nh z z<|Nh z z<|Nh z z<|Nh z z<|R z (pT z z z)<|Rm z<|Nh z z<|Nh z z<|Nh z z<|R z (pT z z z)<|Wl (λ_ q=>⟨true,som<|ifT a1 J,q.k<|s6 z z z z z z,sd⟩)
  have a2:=ifF a1 J;refine Rh z J (mv z)<|Rh z J (lss z z)<|R z (pF z J z)<|Rm z ?_
  rcases bs (decide<|x4<0) with H | H
  .iterate 4 refine Nh z H ?_
   exact R z (pT z H z)<|Rm z<|Nh z z<|Nh z z<|Nh z z<|R z (pT z z z)<|Wl (λ_ q=>⟨true,som<|ifT a2 H,q.k<|s6 z z z z z z,sd⟩)
  have a3:=ifF a2 H;refine Rh z H (mv z)<|Rh z H (mv z) ?_
  have a9:=Y.g<|a8.e sd
  refine Rh z H (lnR o_ z a9)<|Rh z H (a_b z z)<|R z (pF z H z)<|Rm z ?_
  rcases bs (decide<|(x3.length:Int)<x4) with L | L
  .iterate 3 refine Nh z L ?_
   exact R z (pT z L z)<|Wl (λ_ q=>⟨true,som<|ifT a3 L,q.k<|s6 z z z z z z,sd⟩)
  exact Rh z L (mv z)<|Rh z L (lnR o_ z a9)<|Rh z L (a_b z z)<|R z (pF z L z)<|Wl (λ_ q=>⟨decide<|400<(x3.length:Int),som<|ifF a3 L,q.k<|s6 z z z z z z,sd⟩)
 rintro aH aI ⟨xq,rfl,_,G⟩;revert aH;refine Wo<|Wc z (λhcr=>?_) (λhcr=>?_)
 .refine Ws<|R z (bP (parts:=[]) (cs:=[vI 0,sN,sN]) a_4 z z)<|E0 (fs0 (cur':=[vI 0,sN,sN]) h_ z z (h5.e G) z z z z) ?_
  rintro _ _ ⟨aJ,aK⟩;refine Ra z<|Rw z ?_
  obtain rfl:=som<|ifT a0 hcr;exact Wr<|A_ hr (s_ y_ h_ z aJ z) z z ⟨bM (bup (bup h1 h4) G) aK.one<|m1 h1.s,none,0,0,[],none,0,0,[],z,ii z,onL,onL,ii z,ii z,nd0,al0⟩
 refine Wk<|Ws<|R z (lN (vs:=[sl A0 N0 C0]) w_ v_ z z fid<|((a6.e h4).e G).row 0 1 z)<|Rm z<|R z (bP (parts:=[(0,.tmp 36),(1,.tmp 37)]) (cs:=[sl A0 N0 C0,sl A7 N7 C7]) t_H z z)<|E z (fb z) ?_
 rintro _ aa ⟨rfl,ab⟩;have ha:=ab.below;have ad:Blk aa aI.z [sl A0 N0 C0,sl A7 N7 C7]:=ab.blk;refine Rw z<|Wm z<|RM z z ?_
 have ae:=(((h1.ag B).e h4).e G).e ha;have he:=lt_ (lt_ (lt_ h1.s h4.s) G.s) ha.s;have af:=zt' O he;obtain ⟨rs,_,aL,aM,a4⟩:=N_<|ifF a0 hcr;refine E z (fc call38 z<|W_w02.run (B:=aa.z) aM zr (repS.mono (V.g ae) af) (repS.mono (Y.g ae) af) (ad.row 0 2 z) ad.lt W aB) ?_;rintro _ ai ⟨sb,ah,ng,ci,aN,aj,nk,cl,aO,_,_,rfl,aP,ak,al,aQ,ht,aR,hu,hn⟩;refine Rm z ?_
 iterate 3 refine Re z z z ?_
 refine E z (fa a_f) ?_;rintro _ aS ⟨rfl,am⟩;have h2:=am.below;refine E0 (fs0 (cur':=[vI rs.number,sl ah ng ci,sl aj nk cl]) h_ z z (am.blk:Blk aS ai.z [vI 0,sN,sN]) z z z z) ?_;rintro _ an ⟨aT,aU⟩;have h3:=aU.one;refine Ra z<|Rw z<|Ws<|E z (fa t_S) ?_
 rintro _ aV ⟨rfl,ao⟩;have I:=ao.below;have ap:Blk aV an.z [(.pointer none)]:=ao.blk;refine Wn<|Wq<|Wm z<|R z (d_u d_82 (λ_ h=>by cases h) z) ?_
 have aq:=((ht.e h2).c h3<|ds<|mnr<|a_C.lt ht).e I
 rcases bs (aL.isSome) with hcm | hcm
 .obtain ⟨_,_,aW,aD⟩:=a_8<|ifT a4 hcm;have hv:=lt_ he sb.s;refine E z (fc call39 z<|t_p ((((((((hG.e h1).e h4).e G).e ha).e sb).e h2).c h3<|e_ (or0 (f_ lr) (p_<|zt' O hv):∀k∈[ai.z],¬B k)).e I) aq aW ap) ?_;rintro _ _ ⟨ar,rfl,aX,aY,aZ,au,b0,b1⟩;have hw:=aX.one;refine Wx z (λ_=>?_) (λhc=>(b_D z hc).elim)
  refine Wq<|Wd (X:=(· ∈ [wc.z])) 0 (pl_ 12 [9]) mo (by kernel_rfl) λb6 so _=>dR z z (bP (parts:=[]) (cs:=[vI 0,sN,sN]) a_4 z z) ?_;have av:=aY.e so;have aw:=lt_ G.s ha.s;have ax:=lt_ aw sb.s;have ay:=lt_ (lt_ ax h2.s) h3.s;have hx:=mm1 h5.lt ay;refine dR z z (l1 g_80 z (atp hx)<|av.at z)<|dR z z (J_ z)<|dR z z (fd f_84_0 z) ?_
  have az:=(aZ.c hw<|atp (or1 (f_<|.inl au) (ds<|mno (a_C.lt ht)<|lt_ h2.s h3.s) (a_T (f_ ap.lt) lr):∀k∈[ar],k∉[an.z])).e so;have aA:∀k∈[ar],k∉[wc.z]:=or1 (f_<|.inl au) (t_ aR h5.lt aw)<|a_T (f_ h5.lt)<|lt_ ay I.s;refine dR z z (l1 g_3 z (atp aA)<|az.at z)<|dR z z (l1 g_80 z (atp hx)<|av.at z)<|dR z z (J_ z)<|dR z z (fd f_84_1 z)<|dR z z (l1 g_3 z (atp aA)<|az.at z)<|dE0 z (fs0 (cur':=[vI 0,sN,sN]) h_ z z ((((((((h5.e G).e ha).e sb).e h2).c h3<|djs<|mm1 h5.lt ax).e I).c hw<|djs hx).e so) z z z z) (.inr λ_ _ h=>chgIn (List.mem_singleton.2 z) h.2) ?_
  rintro _ _ ⟨b2,b3⟩;refine dQ z z z<|dQ z z z<|pD<|Wo ?_
  obtain rfl:=som aD;exact Wr<|A_ hr (s_ y_ h_ z b2 z) z z ⟨bM (bup (bM (bup (bM (bup (bup (bup (bup (bup h1 h4) G) ha) sb) h2) h3<|m1 hv) I) hw<|m1<|lt_ (lt_ hv h2.s) h3.s) so) b3.one<|m1 h1.s,none,0,0,[],none,0,0,[],z,ii z,onL,onL,b0,b1,nd0,al0⟩
 refine E z (fc call39 z<|t_o aq hcm) ?_;rintro _ _ ⟨rfl,sf⟩;refine Wx z (λhc=>(b_D hc z).elim) (λ_=>?_)
 refine Wk<|Ws<|R z (lN (vs:=[vI rs.number,sl ah ng ci,sl aj nk cl]) y_ h_ z z fid<|((aT.e I).e sf).row 0 3 z)<|Rm z ?_
 have hy:=lt_ G.s ha.s;refine E0 (fs0 (cur':=[vI rs.number,sl ah ng ci,sl aj nk cl]) h_ z z (((((((h5.e G).e ha).e sb).e h2).c h3<|djs<|mm1 h5.lt<|lt_ hy sb.s).e I).e sf) z z z z) ?_;rintro _ _ ⟨b4,b5⟩;have hz:=b5.one;refine Ra z<|Rw z ?_
 obtain rfl:=som<|ifF a4 hcm;exact Wr<|A_ hr (s_ y_ h_ z b4 z) z z ⟨bM (bup (bup (bM (bup (bup (bup (bup (bup h1 h4) G) ha) sb) h2) h3<|m1<|lt_ he sb.s) I) sf) hz<|m1 h1.s,ah,ng,ci,aN,aj,nk,cl,aO,z,aP,((((ak.e h2).c h3<|ds<|mnr<|a_.lt ak).e I).e sf).c hz<|t_ (al_ hn) h5.lt hy,((((al.e h2).c h3<|ds<|mnr<|a_.lt al).e I).e sf).c hz<|t_ (ar_ hn) h5.lt hy,aQ,ii z,na_ (nl_ hu) (nr_ hu)<|nj hu,aa_ (n_ (al_ hn) he)<|n_ (ar_ hn) he⟩
theorem W_w3e {x1:d_}{x2:Bt}{res:Val×Int×Int}(hm:h_Q n x1 x2=some res)(W:B<=w0.z)(hG:Gl w0 B)(V:repS w0 B (sl A0 N0 C0) x1.rules)(Y:repS w0 B (sl A5 N5 C5) x2):i_ prog 60 [(.agg #[sl A0 N0 C0]),sl A5 N5 C5] w0 (Q9 w0 B res):=by
 unfold h_Q at hm
 refine goG func60 z z z λfn hr=>Ws<|E z (fb z) ?_
 rintro _ wn ⟨rfl,ao⟩;have h2:=ao.below;have hv:Blk wn w0.z [sl A0 N0 C0]:=ao.blk;refine E z (fa a_f) ?_;rintro _ I ⟨rfl,ap⟩;have h1:=ap.below;have ho:Blk I wn.z [vI 0,sN,sN]:=ap.blk;refine Ra z<|Rw z<|Wq ?_
 obtain ⟨bn,ak,bh⟩:=bdS hm;refine Wt (λa w=>∃(xb:Int)(xw:Bt)(xx:List Val)(xc:Int)(xd:Int),(xb,xw,xx,xc,xd)=bn/\∃ae nf cg J ah ni cj L O,Sat 32 [(1,sl A5 N5 C5),(4,pt wn.z),(7,pt O),(8,vI xc),(9,vI xd)] a/\Below I.z I w/\inI xb/\a_ w J (sl ae nf cg) xw/\J.Nodup/\(∀k∈J,I.z<=k)/\a_ w L (sl ah ni cj) xx/\L.Nodup/\(∀k∈L,I.z<=k)/\(∀k∈L,k∉J)/\inI xc/\inI xd/\Blk w O [vI xb,sl ae nf cg,sl ah ni cj]/\I.z<=O/\(∀k∈J,k∉[O])/\(∀k∈L,k∉[O])) ?_ ?_
 .refine Wd (X:=λk=>k∈([]:List Nat)∨I.z<=k) 0 (.rd 0<|.rd 1<|.rd 3<|.br 2 (.br 4 (.rd 5<|.rd 6<|.rd 7<|.rd 8<|.ef 9<|.ef 10<|.rd 11<|.rd 12 .done) 9<|.ef 4<|.rd 5<|.rd 6<|.rd 7<|.rd 8<|.ef 10<|.rd 11<|.rd 12 .done) 9<|.ef 2<|.ef 4<|.rd 5<|.rd 6<|.rd 7<|.rd 8<|.ef 10<|.rd 11<|.rd 12 .done) mo (by kernel_rfl) λaq G _=>?_
  have ar:=(hv.e h1).e G;refine dR z z (lN (vs:=[sl A0 N0 C0]) w_ v_ z z (f_I nm0<|Nat.lt_of_lt_of_le hv.lt h1.s)<|ar.row 0 1 z)<|dR z z (lN (vs:=[sl A0 N0 C0]) w_ v_ z z (f_I nm0<|Nat.lt_of_lt_of_le hv.lt h1.s)<|ar.row 0 1 z)<|dM z z z<|f_w ?_ ?_
  .have hy:=((h2.ag B).e h1).e G;have hz:=lt_ (lt_ h2.s h1.s) G.s;obtain ⟨_,bo,al⟩:=bdS ak;refine dE z z (fc call62 z<|l_T bo (zt' W hz)<|V.g hy) (.inr λ_ _ h=>C_<|h.1) ?_;rintro _ au ⟨s3,rfl,av⟩;refine f_w ?_ ?_
   .have aw:=hy.e s3;obtain ⟨rp,bp,bq,bt,bi⟩:=N_ al;refine dE z z (fc call21 z<|k_e bt (zt' W<|lt_ hz s3.s) ((((hG.e h2).e h1).e G).e s3) (V.g aw) av (Y.g aw)<|ii z) (.inr λ_ _ h=>C_<|h.1) ?_;rintro _ ax ⟨ay,az,aA,aB,bu,aC,aD,aE,bv,rfl,bw,aF,aG,bx,bz,a1,aH⟩;refine dM z z z ?_
    iterate 3 refine dR z z (ext_ z z) ?_
    refine dE z z (fa a_f) (.inr λ_ _ h=>C_<|h.2.below) ?_;rintro _ bA ⟨rfl,aI⟩;have a2:=aI.below;have a3:=lt_ G.s s3.s;have a4:=m1<|lt_ a3 ay.s
    refine dE0 z (fs0 (cur':=[vI rp.number,sl az aA aB,sl aC aD aE]) h_ z z (aI.blk:Blk bA ax.z [vI 0,sN,sN]) z z z z) (.inr λ_ _ h=>d_Q (atp a4) h.2) ?_;rintro _ _ ⟨bB,bC⟩;have a5:=bC.one;refine dQ z z z<|dQ z z z<|pD ?_
    have aJ:=mnr<|a_.lt aF
    have aK:=mnr<|a_.lt aG
    exact λ_ q=>⟨rp.number,rp.bytes,rp.items,bp,bq,som bi,az,aA,aB,bu,aC,aD,aE,bv,ax.z,q.k<|s5 z z z z z,bM (bup (bup (bup G s3) ay) a2) a5 a4,bw,(aF.e a2).c a5<|ds aJ,nl_ a1,n_ (al_ aH) a3,(aG.e a2).c a5<|ds aK,nr_ a1,n_ (ar_ aH) a3,ds<|nj a1,bx,bz,bB,atp a4,ds aJ,ds aK⟩
   refine dE z z (fa a_f) (.inr λ_ _ h=>C_<|h.2.below) ?_;rintro _ bD ⟨rfl,aL⟩;have hk:=aL.below;have a6:Blk bD au.z [vI 0,sN,sN]:=aL.blk;have aM:=(hy.e s3).e hk;obtain ⟨rq,bE,bF,bG,bj⟩:=N_ al;refine dE z z (fc call21 z<|k_e bG (zt' W<|lt_ (lt_ hz s3.s) hk.s) (((((hG.e h2).e h1).e G).e s3).e hk) (V.g aM) av (Y.g aM)<|ii z) (.inr λ_ _ h=>C_<|h.1) ?_;rintro _ _ ⟨aN,aO,aP,aQ,bH,aR,aS,aT,bI,rfl,bJ,bK,bL,bN,bO,a7,ht⟩;refine dM z z z ?_
   iterate 3 refine dR z z (ext_ z z) ?_
   have aU:=lt_ G.s s3.s;have a8:=m1 aU;refine dE0 z (fs0 (cur':=[vI rq.number,sl aO aP aQ,sl aR aS aT]) h_ z z (a6.e aN) z z z z) (.inr λ_ _ h=>d_Q (atp a8) h.2) ?_;rintro _ _ ⟨bQ,bR⟩;have a9:=bR.one;refine dQ z z z<|dQ z z z<|pD ?_
   have aV:=t_ (al_ ht) a6.lt lr;have aW:=lt_ aU hk.s;have aX:=t_ (ar_ ht) a6.lt lr;exact λ_ q=>⟨rq.number,rq.bytes,rq.items,bE,bF,som bj,aO,aP,aQ,bH,aR,aS,aT,bI,au.z,q.k<|s5 z z z z z,bM (bup (bup (bup G s3) hk) aN) a9 a8,bJ,bK.c a9 aV,nl_ a7,n_ (al_ ht) aW,bL.c a9 aX,nr_ a7,n_ (ar_ ht) aW,ds<|nj a7,bN,bO,bQ,atp a8,aV,aX⟩
  refine dE z z (fa a_f) (.inr λ_ _ h=>C_<|h.2.below) ?_;rintro _ bS ⟨rfl,aY⟩;have hl:=aY.below;have aa:Blk bS aq.z [vI 0,sN,sN]:=aY.blk;have aZ:=(((h2.ag B).e h1).e G).e hl;have b0:=lt_ (lt_ (lt_ h2.s h1.s) G.s) hl.s;obtain ⟨_,bT,bk⟩:=bdS ak;refine dE z z (fc call62 z<|l_T bT (zt' W b0)<|V.g aZ) (.inr λ_ _ h=>C_<|h.1) ?_;rintro _ _ ⟨s6,rfl,bU⟩;have b1:=aZ.e s6;obtain ⟨rr,bV,bW,bX,bm⟩:=N_ bk;refine dE z z (fc call21 z<|k_e bX (zt' W<|lt_ b0 s6.s) (((((hG.e h2).e h1).e G).e hl).e s6) (V.g b1) bU (Y.g b1)<|ii z) (.inr λ_ _ h=>C_<|h.1) ?_;rintro _ _ ⟨b2,b3,b4,b5,bY,b6,b7,b8,bZ,rfl,c0,c1,c2,c3,c4,ab,hu⟩;refine dM z z z ?_
  iterate 3 refine dR z z (ext_ z z) ?_
  have ad:=m1 G.s;refine dE0 z (fs0 (cur':=[vI rr.number,sl b3 b4 b5,sl b6 b7 b8]) h_ z z ((aa.e s6).e b2) z z z z) (.inr λ_ _ h=>d_Q (atp ad) h.2) ?_;rintro _ _ ⟨c5,c6⟩;have af:=c6.one;refine dQ z z z<|dQ z z z<|pD ?_
  have b9:=t_ (al_ hu) aa.lt s6.s;have ba:=lt_ (lt_ G.s hl.s) s6.s;have bb:=t_ (ar_ hu) aa.lt s6.s;exact λ_ q=>⟨rr.number,rr.bytes,rr.items,bV,bW,som bm,b3,b4,b5,bY,b6,b7,b8,bZ,aq.z,q.k<|s5 z z z z z,bM (bup (bup (bup G hl) s6) b2) af ad,c0,c1.c af b9,nl_ ab,n_ (al_ hu) ba,c2.c af bb,nr_ ab,n_ (ar_ hu) ba,ds<|nj ab,c3,c4,c5,atp ad,b9,bb⟩
 rintro c7 ws ⟨xb,xw,xx,xc,xd,rfl,ae,nf,cg,J,ah,ni,cj,L,O,_,sm,c8,c9,ca,bc,cb,cc,be,cd,bf,ce,cf,_,_,_⟩;revert c7;refine Wo<|Wq<|Wq ?_
 obtain ⟨ch,am,an⟩:=bdS<|un5S bh;refine Wt (λa w=>∃(ai:Bool),ai=ch/\Sat 32 [(4,pt wn.z),(7,pt O),(8,vI xc),(9,vI xd),(26,vB ai)] a/\Below ws.z ws w) ?_ ?_
 .refine Wg<|Rm z<|Rq z z z<|Rm z ?_
  rcases bs (xd==0) with H | H
  .exact Rh z H (mv z)<|Rh z H (mv z)<|Rh z H (lnR o_ z<|Y.g<|((h2.ag B).e h1).e sm)<|Rh z H (lss z z)<|R z (pT z H z)<|Wl (λ_ q=>⟨decide<|xc<(x2.length:Int),som<|ifT am H,q.k<|s5 z z z z z,br ws⟩)
  iterate 4 refine Nh z H ?_
  exact R z (pF z H z)<|Wl (λ_ q=>⟨false,som<|ifF am H,q.k<|s5 z z z z z,br ws⟩)
 rintro ci _ ⟨ai,rfl,_,sa⟩;revert ci;refine Wo<|Wc z (λa0=>?_) (λa0=>?_)
 .refine Ws<|R z (bP (parts:=[]) (cs:=[vI 0,sN,sN]) a_4 z z)<|Rm z<|E0 (fs0 (cur':=[vI 0,sN,sN]) h_ z z ((ho.e sm).e sa) z z z z) ?_
  rintro _ _ ⟨ck,cl⟩;refine Ra z<|Rw z ?_
  obtain rfl:=som<|ifT an a0;exact Wr<|A_ hr (s_ y_ h_ z ck z) z z ⟨bM (bup (bup (bup h2 h1) sm) sa) cl.one<|m1 h2.s,none,0,0,[],none,0,0,[],z,ii z,onL,onL,bf,ii z,nd0,al0⟩
 refine Wk<|Ws<|R z (lN (vs:=[vI xb,sl ae nf cg,sl ah ni cj]) y_ h_ z z fid<|(cf.e sa).row 0 3 z)<|RM z z<|E0 (fs0 (cur':=[vI xb,sl ae nf cg,sl ah ni cj]) h_ z z ((ho.e sm).e sa) z z z z) ?_
 rintro _ _ ⟨cm,cn⟩;have aj:=cn.one;refine Ra z<|Rw z ?_
 obtain rfl:=som<|ifF an a0;have bg:=lt_ h2.s h1.s;exact Wr<|A_ hr (s_ y_ h_ z cm z) z z ⟨bM (bup (bup (bup h2 h1) sm) sa) aj<|m1 h2.s,ae,nf,cg,J,ah,ni,cj,L,z,c8,(c9.e sa).c aj<|t_ bc ho.lt lr,(cb.e sa).c aj<|t_ be ho.lt lr,bf,ce,na_ ca cc<|ds cd,aa_ (n_ bc bg)<|n_ be bg⟩
def Q27 (w0:World)(B:Zone)(r:S_)(v:Value)(w':World):Prop:=Bw w0 w'/\(λG=>(.agg #[vI G.at_,vI G.code])=v/\inI G.at_/\inI G.code) r
theorem i_l {x1:a_3}{b1 o1:Nat}{x2:Int}{x3:Int}{res:S_}(hm:e_8 x1 x2 x3=some res)(a0:B<=w0.z)(V:repS w0 B (sl A0 N0 C0) x1.d.rules)(I:repS w0 B (sl A6 N6 C6) x1.b)(W:inI x1.applied)(hC1:L_ w0 b1 o1 [sl A0 N0 C0,sl A6 N6 C6,vI x1.applied])(hC1b:B b1)(J:inI x2)(Y:inI x3):i_ prog 157 [(.pointer<|some ⟨b1,o1,none⟩),vI x2,vI x3] w0 (Q27 w0 B res):=by
 unfold e_8 at hm
 refine goG func157 z z z λfn hr=>Ws<|E z (fa b_J) ?_
 rintro _ L ⟨rfl,h2⟩;have G:=h2.below;have h3:Blk L w0.z [vI 0,vI 0]:=h2.blk;refine Wn<|Wq<|Wm z<|Rm z<|R z (J_ z)<|Rf z e_d z<|R z (l0 X_ z<|(hC1.e G).at (j:=1) z)<|R z (lnR o_ z<|I.e G)<|Rm z<|R z (sb_ z z)<|R z (a_b z z)<|Wx z (λH=>?_) (λH=>?_)
 .refine Wm z<|R z (bP (parts:=[(0,.tmp 16),(1,.const<|.int .i64 1)]) (cs:=[vI x2,vI 1]) d_0 z z)<|E0 (fs0 (cur':=[vI x2,vI 1]) F_ z z h3 z z z z) ?_
  rintro _ _ ⟨h5,s6⟩;refine Wn ?_;obtain rfl:=som<|ifT hm H;exact Wr<|c_ hr (s_ a_m F_ z h5 z) ⟨bM G s6.one<|f_ lr,z,J,ii z⟩
 refine Wk<|Wm z<|Rm z<|R z (add_ z z)<|R z (bP (parts:=[(0,.tmp 20),(1,.const<|.int .i64 0)]) (cs:=[vI (g_ x2 x3),vI 0]) d_0 z z)<|E0 (fs0 (cur':=[vI (g_ x2 x3),vI 0]) F_ z z h3 z z z z) ?_
 rintro _ _ ⟨O,s8⟩;refine Wn ?_;obtain rfl:=som<|ifF hm H;exact Wr<|c_ hr (s_ a_m F_ z O z) ⟨bM G s8.one<|f_ lr,z,iA _ _,ii z⟩
def Q28 (w0:World)(g1:Nat)(B:Zone)(A0:Option Addr)(N0 C0:Nat)(A6:Option Addr)(N6 C6:Nat)(x1:a_3)(r:Int×S_×Int)(v:Value)(w':World):Prop:=Cg [g1] w0 w'/\un3 (λH G I=>v = .tuple #[vI H,(.agg #[vI G.at_,vI G.code])]/\inI H/\inI G.at_/\inI G.code/\inI I/\Blk w' g1 [sl A0 N0 C0,sl A6 N6 C6,vI I]) r
theorem k_f {x1:a_3}{g1:Nat}{x2:Int}{x3:Int}{res:Int×S_×Int}(hm:e_N x1 x2 x3=some res)(hB1:Blk w0 g1 [sl A0 N0 C0,sl A6 N6 C6,vI x1.applied])(L:B<=w0.z)(hBg:¬B g1)(O:repS w0 B (sl A0 N0 C0) x1.d.rules)(V:repS w0 B (sl A6 N6 C6) x1.b)(aP:inI x1.applied)(aQ:inI x2)(al:inI x3):i_ prog 155 [pt g1,vI x2,vI x3] w0 (Q28 w0 g1 B A0 N0 C0 A6 N6 C6 x1 res):=by
 unfold e_N at hm
 refine goG func155 z z z λfn hr=>Ws<|Ra z<|E z (fa b_J) ?_
 rintro _ wf ⟨rfl,ho⟩;have hb:=ho.below;have I:Blk wf w0.z [vI 0,vI 0]:=ho.blk;refine Wn<|Wm z<|R z (J_ z)<|Rf z k_3 z ?_
 have hp:=hB1.e hb;refine R z (l0 g_3 z<|hp.at z)<|R z (add_ z z)<|R z (J_ z)<|Rf z k_3 z<|E0 (fs0 (cur':=[sl A0 N0 C0,sl A6 N6 C6,vI<|g_ x1.applied 1]) z_3 z z hp z z z z) ?_
 rintro _ J ⟨hq,ap⟩;have h1:=ap.one;refine Wn<|Wm z<|R z (J_ z)<|Rf z p_4 z<|Rf z a_i z<|R z (l0 a_n z<|hq.at z)<|Rm z ?_
 obtain ⟨xr,aq,am⟩:=bdS hm;have ht:=(hb.ag B).c h1<|e_<|f_ hBg
 refine RX z (at_ (α:=b_) V_ m_ z z z (O.g ht) aq) ?_;rintro _ ⟨_,_,_,rfl,ar,av,_⟩;obtain ⟨au,ns,cv,aw,nx,cy,az,Y,a0,a1,a2,a3,rfl,_,_,ax,_,_,_,_⟩:=a_F av;refine R z (lN (vs:=vR xr au ns cv aw nx cy az Y a0 a1 a2 a3) H_ m_ z z fid ar)<|E z (fa b_S) ?_
 rintro _ wg ⟨rfl,a4⟩;have h4:=a4.below;have a5:Blk wg J.z [(Str.v (⟨[]⟩:Str)),vI 0,vI 0,vB false,sN,sN,sN,sN]:=a4.blk;refine E0 (fs0 (cur':=vR xr au ns cv aw nx cy az Y a0 a1 a2 a3) m_ z z a5 z z z z) ?_;rintro _ a6 ⟨a7,ay⟩;have h2:=ay.one;refine Wn<|Wm z<|Rm z<|Rf z a_H z<|R z (l0 g_3 z<|a7.at z) ?_
 have hc:=lt_ hb.s h1.s;have hh:=(hq.e h4).c h2<|djs<|mm1 (Blk.lt hB1) hc
 have hi:=(ht.e h4).c h2<|e_ (or0 (f_ lr) (p_<|zt' L hc):∀k∈[J.z],¬B k)
 have hj:=lt_ (lt_ hc h4.s) h2.s;obtain ⟨H,aA,W⟩:=bdS am;refine E z (fc call157 z<|i_l (B:=w0.z) aA (Y_ hj) (repS.mono (O.g hi) L) (repS.mono (V.g hi) L) (iA _ _) (hh.row 0 3 z) (Blk.lt hB1) al ax) ?_;rintro _ wa ⟨G,rfl,a8,a9⟩;refine E z (fa b_J) ?_;rintro _ wk ⟨rfl,aa⟩;have h5:=aa.below;refine E0 (fs0 (cur':=[vI H.at_,vI H.code]) F_ z z (aa.blk:Blk wk wa.z [vI 0,vI 0]) z z z z) ?_;rintro _ ab ⟨hl,aB⟩;have h6:=aB.one;refine Wn<|Wq<|Ws<|Rf z d_I z<|R z (l0 g_3 z<|hl.at z)<|R z (nq z z)<|Wx z (λhcm=>?_) (λhcm=>?_)
 .refine Wq (Wd (X:=noX) 4 (pl_ 3 [2]) mo (by kernel_rfl) λaC sd _=>dR z z (lN (vs:=[vI H.at_,vI H.code]) a_m F_ z z fid<|(hl.e sd).row 0 2 z)<|dQ z z z ?_);have ad:=mmr<|Blk.lt hB1
  refine dE0 z (fs0 (cur':=[vI H.at_,vI H.code]) F_ z z (((((((I.c h1<|atp ad).e h4).c h2<|djs<|mm1 I.lt h1.s).e G).e h5).c h6<|djs<|mm1 I.lt<|lt_ (lt_ (lt_ h1.s h4.s) h2.s) G.s).e sd) z z z z) (.inl z) ?_;rintro _ aD ⟨aE,aF⟩;have ae:=aF.one;refine pD<|Wo ?_
  obtain rfl:=som<|ifT W hcm;have af:=lt_ hj G.s;exact Wr<|a_9 hr z (s_ a_m F_ z aE z) ⟨(cM (j_ (cM (j_ (j_ (cM (j_ (cM (j_ (cr [g1] w0) hb:Cg [g1] w0 wf) h1 (io sr):Cg [g1] w0 J) h4:Cg [g1] w0 wg) h2 (mor hc:∀k∈[J.z],k∈[g1]∨w0.z<=k):Cg [g1] w0 a6) G:Cg [g1] w0 wa) h5:Cg [g1] w0 wk) h6 (mor af:∀k∈[wa.z],k∈[g1]∨w0.z<=k):Cg [g1] w0 ab) sd:Cg [g1] w0 aC) ae (mor lr:∀k∈[w0.z],k∈[g1]∨w0.z<=k):Cg [g1] w0 aD),z,ii z,a8,a9,iA _ _,((((hh.e G).e h5).c h6<|djs<|mm1 (Blk.lt hB1) af).e sd).c ae<|djs ad⟩
 refine Wk<|Wq (Wd (X:=noX) 8192 (.rd 0<|.rd 1<|.rd 2<|.rd 3<|.rd 4<|.rd 5<|.rd 6<|.rd 7<|.rd 8<|.rd 9<|.rd 11<|.ef 10<|.rd 12<|.ef 13 .done) mo (by kernel_rfl) λaG s7 _=>dM z z z<|dR z z (J_ z)<|dR z z (fd e_d z) ?_)
 have he:=lt_ hj G.s;have ah:=(((hh.e G).e h5).c h6<|djs<|mm1 (Blk.lt hB1) he).e s7;refine dR z z (l0 X_ z<|ah.at z)<|dM z z z<|dR z z (fd d_j z) ?_
 have ai:=hl.e s7;refine dR z z (l0 g_3 z<|ai.at z) ?_;obtain ⟨_,aH,an⟩:=bdS<|ifF W hcm;refine dRX z z (rX o_ z_5 z z (V.g<|(((hi.e G).e h5).c h6<|e_ (or0 (f_ lr) (p_<|zt' L he):∀k∈[wa.z],¬B k)).e s7) z z aH) ?_;rintro _ ⟨_,_,_,rfl,aI⟩;refine dR z z (fd d_k z)<|dR z z (l0 g_4 z<|((((a7.e G).e h5).c h6<|djs<|mm1 a5.lt<|lt_ h2.s G.s).e s7).at z)<|dR z z (lN (vs:=[vI H.at_,vI H.code]) a_m F_ z z fid<|ai.row 0 2 z) ?_
 obtain ⟨_,aJ,ao⟩:=bdS an;refine dE z z (fc call123 z<|W_w1j aJ (zt' L<|lt_ (lt_ (lt_ he h5.s) h6.s) s7.s) aI) (.inr λ_ _ h=>C_<|h.1) ?_;rintro _ aK ⟨sn,rfl,aL⟩;refine dQ z z z ?_;have aj:=mmr<|Blk.lt hB1
 refine dE0 z (fs0 (cur':=[vI H.at_,vI H.code]) F_ z z ((((((((I.c h1<|atp aj).e h4).c h2<|djs<|mm1 I.lt h1.s).e G).e h5).c h6<|djs<|mm1 I.lt<|lt_ (lt_ (lt_ h1.s h4.s) h2.s) G.s).e s7).e sn) z z z z) (.inl z) ?_;rintro _ aM ⟨aN,aO⟩;have ak:=aO.one;refine pD<|Wo ?_
 obtain rfl:=som ao;exact Wr<|a_9 hr z (s_ a_m F_ z aN z) ⟨(cM (j_ (j_ (cM (j_ (j_ (cM (j_ (cM (j_ (cr [g1] w0) hb:Cg [g1] w0 wf) h1 (io sr):Cg [g1] w0 J) h4:Cg [g1] w0 wg) h2 (mor hc:∀k∈[J.z],k∈[g1]∨w0.z<=k):Cg [g1] w0 a6) G:Cg [g1] w0 wa) h5:Cg [g1] w0 wk) h6 (mor he:∀k∈[wa.z],k∈[g1]∨w0.z<=k):Cg [g1] w0 ab) s7:Cg [g1] w0 aG) sn:Cg [g1] w0 aK) ak (mor lr:∀k∈[w0.z],k∈[g1]∨w0.z<=k):Cg [g1] w0 aM),z,aL,a8,a9,iA _ _,(ah.e sn).c ak<|djs aj⟩
theorem W_w3f {x1:a_3}{b1 o1:Nat}{x2:b_}{x3:Int}{res:S_}(hm:h_D x1 x2 x3=some res)(ah:B<=w0.z)(a7:repS w0 B (sl A0 N0 C0) x1.d.rules)(W:repS w0 B (sl A6 N6 C6) x1.b)(a8:inI x1.applied)(hC1:L_ w0 b1 o1 [sl A0 N0 C0,sl A6 N6 C6,vI x1.applied])(hC1b:B b1)(a9:x2.name.b.length<=LEN)(aa:inI x2.kind)(ab:inI x2.size)(I:repS w0 B (sl A2 N2 C2) x2.bytes)(ad:repS w0 B (sl A3 N3 C3) x2.names)(ae:repS w0 B (sl A1 N1 C1) x2.tags)(af:repS w0 B (sl A4 N4 C4) x2.kids)(Y:inI x3):i_ prog 156 [(.pointer<|some ⟨b1,o1,none⟩),.agg #[Str.v x2.name,vI x2.kind,vI x2.size,vB x2.little,sl A2 N2 C2,sl A3 N3 C3,sl A1 N1 C1,sl A4 N4 C4],vI x3] w0 (Q27 w0 B res):=by
 unfold h_D at hm
 refine goG func156 z z z λfn hr=>Ws<|E z (fb z) ?_
 rintro _ J ⟨rfl,hb⟩;have G:=hb.below;refine E z (fa b_J) ?_;rintro _ H ⟨rfl,hd⟩;have h3:=hd.below;have O:Blk H J.z [vI 0,vI 0]:=hd.blk;refine Wn<|Wq<|Ws<|Rf z b_f z ?_
 have he:=(hb.blk:Blk J w0.z (vR x2 A2 N2 C2 A3 N3 C3 A1 N1 C1 A4 N4 C4)).e h3;refine R z (l0 X_ z<|he.at z) ?_;have V:=(G.ag B).e h3;refine R z (lnR o_ z<|I.g V)<|Rm z<|Wn ?_
 obtain ⟨_,hum,hmc⟩:=bdS hm;refine Wf (σ:=Unit) (ρ:=S_) (λ(k5:Nat)(_:Unit) a w=>Sat 50 [(0,.pointer<|some ⟨b1,o1,none⟩),(2,vI x3),(4,pt w0.z),(6,pt J.z),(10,sl A2 N2 C2),(11,vI (x2.bytes.length:Int)),(12,vI ((k5:Nat):Int))] a/\Below H.z H w) (λ(_:Unit) a w=>Sat 50 [(2,vI x3),(4,pt w0.z),(6,pt J.z)] a/\Below H.z H w) (rQ prog fn<|Q27 w0 B) hum ?_ ?_ ?_ ?_ ?_
 .exact λ_ q=>⟨q.k<|s7 z z z z z z z,br H⟩
 .rintro k5 _ _ _ _ hkf ⟨hSn,s1⟩ hmo;refine Wu ?_ hSn;refine Ws<|Rl z z z<|Wn<|Wq<|Wc z (λ_=>?_) (λhc=>(Q_ hkf hc).elim)
  refine Wk<|Wq<|Wb<|Wm z ?_
  obtain ⟨_,ep,hmg⟩:=bdS hmo;have hh:=V.e s1;refine RX z (at_ (α:=UInt8) o_ z_5 z z z (I.g hh) ep) ?_;rintro _ ⟨_,_,_,rfl,hq,ht,_⟩;obtain rfl:=u8 ht;refine R z (l0 g_5 z<|hq.at0 z)<|Ra z<|Rw z<|Wq<|Wm z<|Rm z<|R z (add_ z z)<|Rm z<|R z (J_ z)<|Rf z e_d z ?_
  have hi:=((hC1.e G).e h3).e s1;refine R z (l0 X_ z<|hi.at (j:=1) z) ?_;have hj:=W.g hh;refine R z (lnR o_ z hj)<|Rq z z z<|Wx z (λL=>?_) (λL=>?_)
  .refine Wm z<|R z (bP (parts:=[(0,.tmp 26),(1,.const<|.int .i64 1)]) (cs:=[vI x3,vI 1]) d_0 z z)<|E0 (fs0 (cur':=[vI x3,vI 1]) F_ z z (O.e s1) z z z z) ?_
   rintro _ _ ⟨hu,sr⟩;exact Wn<|Wr<|rtO<|qL (som<|ifT hmg L).symm<|c_ hr (s_ a_m F_ z hu z) ⟨bM (bup (bup G h3) s1) sr.one<|m1 G.s,z,Y,ii z⟩
  refine Wk<|Wm z<|R z (J_ z)<|Rf z e_d z<|R z (l0 X_ z<|hi.at (j:=1) z)<|RM z z<|R z (add_ z z) ?_
  obtain ⟨_,es,hmk⟩:=bdS<|ifF hmg L;refine RX z (at_ (α:=UInt8) o_ z_5 z z z hj es) ?_;rintro _ ⟨_,_,_,rfl,hv,hw,_⟩;obtain rfl:=u8 hw;refine R z (l0 g_5 z<|hv.at0 z)<|Rm z<|R z (nq z z)<|Wx z (λhca=>?_) (λhca=>?_)
  .refine Wm z<|Rm z<|R z (add_ z z)<|R z (bP (parts:=[(0,.tmp 41),(1,.const<|.int .i64 2)]) (cs:=[(vI<|g_ x3 ((k5:Nat):Int)),vI 2]) d_0 z z)<|E0 (fs0 (cur':=[(vI<|g_ x3 ((k5:Nat):Int)),vI 2]) F_ z z (O.e s1) z z z z) ?_
   rintro _ _ ⟨hx,sy⟩;exact Wn<|Wr<|rtO<|qL (som<|ifT hmk hca).symm<|c_ hr (s_ a_m F_ z hx z) ⟨bM (bup (bup G h3) s1) sy.one<|m1 G.s,z,iA _ _,ii z⟩
  exact Wk<|Wg<|R z (inc_ hkf (lt_ (repS.len I) B_) z z)<|Rm z<|Wl (λ_ q=>⟨(),(som<|ifF hmk hca).symm,⟨q.k<|s7 z z z z z z z,s1⟩⟩)
 .rintro _ _ _ ⟨hSz,a3⟩;refine Wu ?_ hSz;refine Ws<|Rl z z z<|Wn<|Wq<|Wc z (λhc=>(R_ hc).elim) (λ_=>?_)
  exact We<|λ_ q=>⟨rfl,⟨q.k<|s3 z z z,a3⟩⟩
 .rintro _ a4 _ rfl ⟨_,s6⟩;have a0:=elL hmc;revert a4;refine Wo<|Wm z<|Rf z b_f z<|R z (l0 X_ z<|(he.e s6).at z)<|R z (lnR o_ z<|I.g<|V.e s6)<|R z (add_ z z)<|R z (bP (parts:=[(0,.tmp 48),(1,.const<|.int .i64 0)]) (cs:=[(vI<|g_ x3 (x2.bytes.length:Int)),vI 0]) d_0 z z)<|E0 (fs0 (cur':=[(vI<|g_ x3 (x2.bytes.length:Int)),vI 0]) F_ z z (O.e s6) z z z z) ?_
  rintro _ _ ⟨a5,a6⟩;refine Wn ?_;obtain rfl:=som a0;exact Wr<|c_ hr (s_ a_m F_ z a5 z) ⟨bM (bup (bup G h3) s6) a6.one<|m1 G.s,z,iA _ _,ii z⟩
 rintro _ _ _ _ rfl ⟨rfl,a1⟩;have a2:=elR hmc;obtain rfl:=som a2;exact ⟨a1,z⟩
def Q29 (w0:World)(g1:Nat)(B:Zone)(A0:Option Addr)(N0 C0:Nat)(A6:Option Addr)(N6 C6:Nat)(x1:a_3)(r:S_×Int)(v:Value)(w':World):Prop:=Cg [g1] w0 w'/\un2 (λG H=>(.agg #[vI G.at_,vI G.code])=v/\inI G.at_/\inI G.code/\inI H/\Blk w' g1 [sl A0 N0 C0,sl A6 N6 C6,vI H]) r
structure m_2 (f:a_3->Int->Int->Option (S_×Int)):Prop where
  run:∀{A0 A6:Option Addr}{N0 C0 N6 C6 g1:Nat}{B:Zone}{x1:a_3}{x2:Int}{x3:Int}{res:S_×Int}{w0:World}(hm:f x1 x2 x3=some res)(hB1:Blk w0 g1 [sl A0 N0 C0,sl A6 N6 C6,vI x1.applied])(hBw:B<=w0.z)(hBg:¬B g1)(p1_0:repS w0 B (sl A0 N0 C0) x1.d.rules)(p1_1:repS w0 B (sl A6 N6 C6) x1.b)(p1_2:inI x1.applied)(p2_0:inI x2)(p3_0:inI x3),i_ prog 137 [pt g1,vI x2,vI x3] w0<|Q29 w0 g1 B A0 N0 C0 A6 N6 C6 x1 res
structure m_3 (f:a_3->b_->Int->Option (S_×Int)):Prop where
  run:∀{A0 A6 A2 A3 A1 A4:Option Addr}{N0 C0 N6 C6 g1 N2 C2 N3 C3 N1 C1 N4 C4:Nat}{B:Zone}{x1:a_3}{x2:b_}{x3:Int}{res:S_×Int}{w0:World}(hm:f x1 x2 x3=some res)(hB1:Blk w0 g1 [sl A0 N0 C0,sl A6 N6 C6,vI x1.applied])(hBw:B<=w0.z)(hBg:¬B g1)(p1_0:repS w0 B (sl A0 N0 C0) x1.d.rules)(p1_1:repS w0 B (sl A6 N6 C6) x1.b)(p1_2:inI x1.applied)(p2_0:x2.name.b.length<=LEN)(p2_1:inI x2.kind)(p2_2:inI x2.size)(p2_4:repS w0 B (sl A2 N2 C2) x2.bytes)(p2_5:repS w0 B (sl A3 N3 C3) x2.names)(p2_6:repS w0 B (sl A1 N1 C1) x2.tags)(p2_7:repS w0 B (sl A4 N4 C4) x2.kids)(p3_0:inI x3),i_ prog 158 [pt g1,.agg #[Str.v x2.name,vI x2.kind,vI x2.size,vB x2.little,sl A2 N2 C2,sl A3 N3 C3,sl A1 N1 C1,sl A4 N4 C4],vI x3] w0<|Q29 w0 g1 B A0 N0 C0 A6 N6 C6 x1 res
structure m_4 (f:a_3->b_->Int->Option (S_×Int)):Prop where
  run:∀{A0 A6 A2 A3 A1 A4:Option Addr}{N0 C0 N6 C6 g1 N2 C2 N3 C3 N1 C1 N4 C4:Nat}{B:Zone}{x1:a_3}{x2:b_}{x3:Int}{res:S_×Int}{w0:World}(hm:f x1 x2 x3=some res)(hB1:Blk w0 g1 [sl A0 N0 C0,sl A6 N6 C6,vI x1.applied])(hBw:B<=w0.z)(hBg:¬B g1)(p1_0:repS w0 B (sl A0 N0 C0) x1.d.rules)(p1_1:repS w0 B (sl A6 N6 C6) x1.b)(p1_2:inI x1.applied)(p2_0:x2.name.b.length<=LEN)(p2_1:inI x2.kind)(p2_2:inI x2.size)(p2_4:repS w0 B (sl A2 N2 C2) x2.bytes)(p2_5:repS w0 B (sl A3 N3 C3) x2.names)(p2_6:repS w0 B (sl A1 N1 C1) x2.tags)(p2_7:repS w0 B (sl A4 N4 C4) x2.kids)(p3_0:inI x3),i_ prog 159 [pt g1,.agg #[Str.v x2.name,vI x2.kind,vI x2.size,vB x2.little,sl A2 N2 C2,sl A3 N3 C3,sl A1 N1 C1,sl A4 N4 C4],vI x3] w0<|Q29 w0 g1 B A0 N0 C0 A6 N6 C6 x1 res
structure m_5 (f:a_3->b_->Int->Option (S_×Int)):Prop where
  run:∀{A0 A6 A2 A3 A1 A4:Option Addr}{N0 C0 N6 C6 g1 N2 C2 N3 C3 N1 C1 N4 C4:Nat}{B:Zone}{x1:a_3}{x2:b_}{x3:Int}{res:S_×Int}{w0:World}(hm:f x1 x2 x3=some res)(hB1:Blk w0 g1 [sl A0 N0 C0,sl A6 N6 C6,vI x1.applied])(hBw:B<=w0.z)(hBg:¬B g1)(p1_0:repS w0 B (sl A0 N0 C0) x1.d.rules)(p1_1:repS w0 B (sl A6 N6 C6) x1.b)(p1_2:inI x1.applied)(p2_0:x2.name.b.length<=LEN)(p2_1:inI x2.kind)(p2_2:inI x2.size)(p2_4:repS w0 B (sl A2 N2 C2) x2.bytes)(p2_5:repS w0 B (sl A3 N3 C3) x2.names)(p2_6:repS w0 B (sl A1 N1 C1) x2.tags)(p2_7:repS w0 B (sl A4 N4 C4) x2.kids)(p3_0:inI x3),i_ prog 160 [pt g1,.agg #[Str.v x2.name,vI x2.kind,vI x2.size,vB x2.little,sl A2 N2 C2,sl A3 N3 C3,sl A1 N1 C1,sl A4 N4 C4],vI x3] w0<|Q29 w0 g1 B A0 N0 C0 A6 N6 C6 x1 res
structure m_6 (f:a_3->b_->Int->Option (S_×Int)):Prop where
  run:∀{A0 A6 A2 A3 A1 A4:Option Addr}{N0 C0 N6 C6 g1 N2 C2 N3 C3 N1 C1 N4 C4:Nat}{B:Zone}{x1:a_3}{x2:b_}{x3:Int}{res:S_×Int}{w0:World}(hm:f x1 x2 x3=some res)(hB1:Blk w0 g1 [sl A0 N0 C0,sl A6 N6 C6,vI x1.applied])(hBw:B<=w0.z)(hBg:¬B g1)(p1_0:repS w0 B (sl A0 N0 C0) x1.d.rules)(p1_1:repS w0 B (sl A6 N6 C6) x1.b)(p1_2:inI x1.applied)(p2_0:x2.name.b.length<=LEN)(p2_1:inI x2.kind)(p2_2:inI x2.size)(p2_4:repS w0 B (sl A2 N2 C2) x2.bytes)(p2_5:repS w0 B (sl A3 N3 C3) x2.names)(p2_6:repS w0 B (sl A1 N1 C1) x2.tags)(p2_7:repS w0 B (sl A4 N4 C4) x2.kids)(p3_0:inI x3),i_ prog 161 [pt g1,.agg #[Str.v x2.name,vI x2.kind,vI x2.size,vB x2.little,sl A2 N2 C2,sl A3 N3 C3,sl A1 N1 C1,sl A4 N4 C4],vI x3] w0<|Q29 w0 g1 B A0 N0 C0 A6 N6 C6 x1 res
abbrev g_A (n:Nat):Prop:=m_2 (a_x n).impl_checker_value/\m_3 (a_x n).impl_checker_array/\m_4 (a_x n).impl_checker_choice/\m_5 (a_x n).impl_checker_option/\m_6 (a_x n).impl_checker_checked
theorem T_w03 (ih:g_A n):m_2 (h_E n<|a_x n):=by
 obtain ⟨dN,dO,dP,dS,dT⟩:=ih
 constructor
 intro A0 A6 N0 C0 N6 C6 g1 B x1 x2 x3 res w0 hm hB1 J hBg W Y cT cU a0;unfold h_E at hm
 refine goG func137 z z z λfn hr=>Ws<|E z (fa b_J) ?_
 rintro _ H ⟨rfl,bo⟩;have h1:=bo.below;have h6:Blk H w0.z [vI 0,vI 0]:=bo.blk;refine Wn<|Wm z<|R z (J_ z)<|Rf z p_4 z<|Rf z a_i z ?_
 have aL:=hB1.e h1;refine R z (l0 a_n z<|aL.at z)<|Rm z ?_
 obtain ⟨xh,dU,b8⟩:=bdS hm;refine RX z (at_ (α:=b_) V_ m_ z z z (W.e h1) dU) ?_;rintro _ ⟨_,_,_,rfl,dV,dW,_⟩;obtain ⟨ao,np,cq,ar,ns,ct,au,nv,cw,ai,nj,ck,rfl,a7,a8,hz,a1,a9,aa,he⟩:=a_F dW;refine R z (lN (vs:=vR xh ao np cq ar ns ct au nv cw ai nj ck) H_ m_ z z fid dV)<|E z (fa b_S) ?_
 rintro _ O ⟨rfl,bp⟩;have h2:=bp.below;have bq:Blk O H.z [(Str.v (⟨[]⟩:Str)),vI 0,vI 0,vB false,sN,sN,sN,sN]:=bp.blk;refine E0 (fs0 (cur':=vR xh ao np cq ar ns ct au nv cw ai nj ck) m_ z z bq z z z z) ?_;rintro _ V ⟨br,dX⟩;have G:=dX.one;refine Wn<|Wq<|Ws<|Rf z a_o z<|R z (l0 g_3 z<|br.at z)<|Rq z z z<|Wx z (λaz=>?_) (λaz=>?_)
 .refine Wm z<|RM z z ?_
  have bs:=((h1.ag B).e h2).c G<|e_ (or0 (f_ lr) (p_<|zt' J h1.s):∀k∈[H.z],¬B k)
  have bt:=lt_ (lt_ h1.s h2.s) G.s;obtain ⟨_,a2,_,dY,cV⟩:=N_<|ifT b8 az;refine E z (fc call155 z<|k_f (B:=B) dY ((aL.e h2).c G<|djs<|mm1 (Blk.lt hB1) h1.s) (zt' J bt) hBg (W.g bs) (Y.g bs) cT cU a0) ?_;rintro _ aM ⟨aj,rfl,_,dZ,e0,e1,e2⟩;refine Rm z<|Re z z z<|Re z z z<|E z (fa b_J) ?_
  rintro _ bu ⟨rfl,bv⟩;have aN:=bv.below;refine Ra z<|E0 (fs0 (cur':=[vI a2.at_,vI a2.code]) F_ z z (bv.blk:Blk bu aM.z [vI 0,vI 0]) z z z z) ?_
  rintro _ e3 ⟨e4,e5⟩;have aO:=e5.one;refine Wn<|Ws<|R z (lN (vs:=[vI a2.at_,vI a2.code]) a_m F_ z z fid<|e4.row 0 2 z) ?_
  have bw:=mmr<|Blk.lt hB1
  refine E0 (fs0 (cur':=[vI a2.at_,vI a2.code]) F_ z z (((((h6.e h2).c G<|djs<|mmr h6.lt).c aj<|atp bw).e aN).c aO<|djs<|mm1 h6.lt<|lt_ (lt_ h2.s G.s) aj.s) z z z z) ?_;rintro _ e6 ⟨e7,e8⟩;have bx:=e8.one;refine Wn ?_;obtain rfl:=som cV;have bz:=lt_ bt aj.s;exact Wr<|c_ hr (s_ a_m F_ z e7 z) ⟨(cM (cM (j_ (cM (cM (j_ (j_ (cr [g1] w0) h1:Cg [g1] w0 H) h2:Cg [g1] w0 O) G (mor h1.s:∀k∈[H.z],k∈[g1]∨w0.z<=k):Cg [g1] w0 V) aj (io sr):Cg [g1] w0 aM) aN:Cg [g1] w0 bu) aO (mor bz:∀k∈[aM.z],k∈[g1]∨w0.z<=k):Cg [g1] w0 e3) bx (mor lr:∀k∈[w0.z],k∈[g1]∨w0.z<=k):Cg [g1] w0 e6),z,dZ,e0,e1,((e2.e aN).c aO<|djs<|mm1 (Blk.lt hB1) bz).c bx<|djs bw⟩
 have b9:=ifF b8 az;refine Wk<|Wm z<|R z (J_ z)<|Rf z k_3 z ?_
 have bA:=mm1 (Blk.lt hB1) h1.s;have bB:=(aL.e h2).c G<|djs bA
 refine R z (l0 g_3 z<|bB.at z)<|R z (add_ z z)<|R z (J_ z)<|Rf z k_3 z<|E0 (fs0 (cur':=[sl A0 N0 C0,sl A6 N6 C6,vI<|g_ x1.applied 1]) z_3 z z bB z z z z) ?_
 rintro _ I ⟨ha,e9⟩;have h3:=e9.one;refine Wn<|Wq<|Ws<|Rf z a_o z ?_
 have hb:=br.c h3<|atp bA
 refine R z (l0 g_3 z<|hb.at z)<|Wn<|Wb<|Ws<|Rq z z z<|Rw z<|Wc z (λaA=>?_) (λaA=>?_)
 .refine Wm z<|R z (lN (vs:=vR xh ao np cq ar ns ct au nv cw ai nj ck) H_ m_ z z fid<|hb.row 0 8 z)<|Rm z ?_
  have bC:∀k∈[H.z],¬B k:=or0 (f_ lr)<|p_<|zt' J h1.s;have bD:=(((h1.ag B).e h2).c G<|e_ bC).c h3<|e_<|f_ hBg
  have ak:=((h2.ag B).c G<|e_ bC).c h3<|e_<|f_ hBg
  obtain ⟨bE,ea,cW⟩:=bdS<|ifT b9 aA;refine E z (fc call156 z<|W_w3f (B:=w0.z) ea (Y_<|lt_ (lt_ (lt_ h1.s h2.s) G.s) h3.s) (repS.mono (W.g bD) J) (repS.mono (Y.g bD) J) (iA _ _) (ha.row 0 3 z) (Blk.lt hB1) a7 a8 hz (repS.mono (a1.g ak) J) (repS.mono (a9.g ak) J) (repS.mono (aa.g ak) J) (repS.mono (he.g ak) J) a0) ?_;rintro _ eb ⟨aP,rfl,ec,ed⟩;have bF:=mmr<|Blk.lt hB1
  refine E0 (fs0 (cur':=[vI bE.at_,vI bE.code]) F_ z z ((((h6.e h2).c G<|djs<|mmr h6.lt).c h3<|atp bF).e aP) z z z z) ?_;rintro _ ee ⟨ef,eg⟩;have bG:=eg.one;refine Wn ?_;obtain rfl:=som cW;exact Wr<|rtO<|c_ hr (s_ a_m F_ z ef z) ⟨(cM (j_ (cM (cM (j_ (j_ (cr [g1] w0) h1:Cg [g1] w0 H) h2:Cg [g1] w0 O) G (mor h1.s:∀k∈[H.z],k∈[g1]∨w0.z<=k):Cg [g1] w0 V) h3 (io sr):Cg [g1] w0 I) aP:Cg [g1] w0 eb) bG (mor lr:∀k∈[w0.z],k∈[g1]∨w0.z<=k):Cg [g1] w0 ee),z,ec,ed,iA _ _,(ha.e aP).c bG<|djs bF⟩
 have ba:=ifF b9 aA;refine Ws<|Rq z z z<|Rw z<|Wc z (λaB=>?_) (λaB=>?_)
 .refine Wm z<|Rm z<|Rf z a_H z<|R z (l0 g_3 z<|hb.at z) ?_
  have bH:=(((h1.ag B).e h2).c G<|e_ (or0 (f_ lr) (p_<|zt' J h1.s):∀k∈[H.z],¬B k)).c h3<|e_<|f_ hBg
  obtain ⟨bI,eh,cX⟩:=bdS<|ifT ba aB;refine E z (fc call157 z<|i_l (B:=w0.z) eh (Y_<|lt_ (lt_ (lt_ h1.s h2.s) G.s) h3.s) (repS.mono (W.g bH) J) (repS.mono (Y.g bH) J) (iA _ _) (ha.row 0 3 z) (Blk.lt hB1) a0 hz) ?_;rintro _ ei ⟨aQ,rfl,ej,ek⟩;have bJ:=mmr<|Blk.lt hB1
  refine E0 (fs0 (cur':=[vI bI.at_,vI bI.code]) F_ z z ((((h6.e h2).c G<|djs<|mmr h6.lt).c h3<|atp bJ).e aQ) z z z z) ?_;rintro _ em ⟨en,eo⟩;have bK:=eo.one;refine Wn ?_;obtain rfl:=som cX;exact Wr<|rtO<|c_ hr (s_ a_m F_ z en z) ⟨(cM (j_ (cM (cM (j_ (j_ (cr [g1] w0) h1:Cg [g1] w0 H) h2:Cg [g1] w0 O) G (mor h1.s:∀k∈[H.z],k∈[g1]∨w0.z<=k):Cg [g1] w0 V) h3 (io sr):Cg [g1] w0 I) aQ:Cg [g1] w0 ei) bK (mor lr:∀k∈[w0.z],k∈[g1]∨w0.z<=k):Cg [g1] w0 em),z,ej,ek,iA _ _,(ha.e aQ).c bK<|djs bJ⟩
 have bb:=ifF ba aB;refine Ws<|Rq z z z<|Rw z<|Wc z (λaC=>?_) (λaC=>?_)
 .refine Wm z<|Rf z P_ z<|R z (l0 E_ z<|hb.at z) ?_
  obtain ⟨_,ep,cY⟩:=bdS<|ifT bb aC;have bL:∀k∈[H.z],¬B k:=or0 (f_ lr)<|p_<|zt' J h1.s;refine RX z (at_ (α:=Int) x_ z_3 z z z (he.g<|((h2.ag B).c G<|e_ bL).c h3<|e_<|f_ hBg) ep) ?_;rintro _ ⟨_,_,_,rfl,er,es,_⟩;obtain ⟨rfl,eu⟩:=T_ es;refine R z (l0 g_3 z<|er.at0 z)<|Rm z ?_
  have aR:=(((h1.ag B).e h2).c G<|e_ bL).c h3<|e_<|f_ hBg
  have aS:=lt_ (lt_ (lt_ h1.s h2.s) G.s) h3.s;obtain ⟨_,a3,_,ew,bc⟩:=N_ cY;refine E z (fc call155 z<|k_f (B:=B) ew ha (zt' J aS) hBg (W.g aR) (Y.g aR) (iA _ _) eu a0) ?_;rintro _ a4 ⟨sf,rfl,ex,bM,ey,aT,bN⟩;refine Rm z<|Re z z z<|Re z z z<|E z (fa b_J) ?_
  rintro _ aU ⟨rfl,bO⟩;have hl:=bO.below;refine Ra z<|E0 (fs0 (cur':=[vI a3.at_,vI a3.code]) F_ z z (bO.blk:Blk aU a4.z [vI 0,vI 0]) z z z z) ?_
  rintro _ bQ ⟨aV,ez⟩;have hn:=ez.one;refine Wn<|Wq<|Ws<|Rf z d_I z<|R z (l0 g_3 z<|aV.at z)<|R z (nq z z)<|Wx z (λaD=>?_) (λaD=>?_)
  .refine Ws<|R z (lN (vs:=[vI a3.at_,vI a3.code]) a_m F_ z z fid<|aV.row 0 2 z) ?_
   have aW:=mmr<|Blk.lt hB1
   refine E0 (fs0 (cur':=[vI a3.at_,vI a3.code]) F_ z z ((((((h6.e h2).c G<|djs<|mmr h6.lt).c h3<|atp aW).c sf<|atp aW).e hl).c hn<|djs<|mm1 h6.lt<|lt_ (lt_ (lt_ h2.s G.s) h3.s) sf.s) z z z z) ?_;rintro _ eA ⟨eB,eC⟩;have bR:=eC.one;refine Wn ?_;obtain rfl:=som<|ifT bc aD;have bS:=lt_ aS sf.s;exact Wr<|rtO<|c_ hr (s_ a_m F_ z eB z) ⟨(cM (cM (j_ (cM (cM (cM (j_ (j_ (cr [g1] w0) h1:Cg [g1] w0 H) h2:Cg [g1] w0 O) G (mor h1.s:∀k∈[H.z],k∈[g1]∨w0.z<=k):Cg [g1] w0 V) h3 (io sr):Cg [g1] w0 I) sf (io sr):Cg [g1] w0 a4) hl:Cg [g1] w0 aU) hn (mor bS:∀k∈[a4.z],k∈[g1]∨w0.z<=k):Cg [g1] w0 bQ) bR (mor lr:∀k∈[w0.z],k∈[g1]∨w0.z<=k):Cg [g1] w0 eA),z,bM,ey,aT,((bN.e hl).c hn<|djs<|mm1 (Blk.lt hB1) bS).c bR<|djs aW⟩
  refine Wk<|Wm z<|Rf z d_j z<|R z (l0 g_3 z<|aV.at z)<|Rm z ?_
  have al:=lt_ aS sf.s;have bT:=(bN.e hl).c hn<|djs<|mm1 (Blk.lt hB1) al
  have bU:=((aR.c sf<|e_<|f_ hBg).e hl).c hn<|e_ (or0 (f_ lr) (p_<|zt' J al):∀k∈[a4.z],¬B k)
  obtain ⟨bV,eD,cZ⟩:=bdS<|ifF bc aD;refine E z (fc call157 z<|i_l (B:=w0.z) eD (Y_<|lt_ (lt_ al hl.s) hn.s) (repS.mono (W.g bU) J) (repS.mono (Y.g bU) J) aT (bT.row 0 3 z) (Blk.lt hB1) bM ex) ?_;rintro _ eE ⟨aX,rfl,eF,eG⟩;have aY:=mmr<|Blk.lt hB1
  refine E0 (fs0 (cur':=[vI bV.at_,vI bV.code]) F_ z z (((((((h6.e h2).c G<|djs<|mmr h6.lt).c h3<|atp aY).c sf<|atp aY).e hl).c hn<|djs<|mm1 h6.lt<|lt_ (lt_ (lt_ h2.s G.s) h3.s) sf.s).e aX) z z z z) ?_;rintro _ eH ⟨eI,eJ⟩;have bW:=eJ.one;refine Wn ?_;obtain rfl:=som cZ;exact Wr<|rtO<|c_ hr (s_ a_m F_ z eI z) ⟨(cM (j_ (cM (j_ (cM (cM (cM (j_ (j_ (cr [g1] w0) h1:Cg [g1] w0 H) h2:Cg [g1] w0 O) G (mor h1.s:∀k∈[H.z],k∈[g1]∨w0.z<=k):Cg [g1] w0 V) h3 (io sr):Cg [g1] w0 I) sf (io sr):Cg [g1] w0 a4) hl:Cg [g1] w0 aU) hn (mor al:∀k∈[a4.z],k∈[g1]∨w0.z<=k):Cg [g1] w0 bQ) aX:Cg [g1] w0 eE) bW (mor lr:∀k∈[w0.z],k∈[g1]∨w0.z<=k):Cg [g1] w0 eH),z,eF,eG,aT,(bT.e aX).c bW<|djs aY⟩
 have be:=ifF bb aC;refine Ws<|Rq z z z<|Rw z<|Wc z (λaE=>?_) (λaE=>?_)
 .refine Wm z<|R z (lN (vs:=vR xh ao np cq ar ns ct au nv cw ai nj ck) H_ m_ z z fid<|hb.row 0 8 z)<|Rm z ?_
  have bX:∀k∈[H.z],¬B k:=or0 (f_ lr)<|p_<|zt' J h1.s;have bY:=(((h1.ag B).e h2).c G<|e_ bX).c h3<|e_<|f_ hBg
  have am:=((h2.ag B).c G<|e_ bX).c h3<|e_<|f_ hBg
  obtain ⟨bZ,_,eK,d0⟩:=a_8<|ifT be aE;refine E z (fc call158 z<|dO.run (B:=B) eK ha (zt' J<|lt_ (lt_ (lt_ h1.s h2.s) G.s) h3.s) hBg (W.g bY) (Y.g bY) (iA _ _) a7 a8 hz (a1.g am) (a9.g am) (aa.g am) (he.g am) a0) ?_;rintro _ eL ⟨c0,rfl,eM,eN,eO,eP⟩;have aZ:=mmr<|Blk.lt hB1
  refine E0 (fs0 (cur':=[vI bZ.at_,vI bZ.code]) F_ z z ((((h6.e h2).c G<|djs<|mmr h6.lt).c h3<|atp aZ).c c0<|atp aZ) z z z z) ?_;rintro _ eQ ⟨eR,eS⟩;have c1:=eS.one;refine Wn ?_;obtain rfl:=som d0;exact Wr<|rtO<|c_ hr (s_ a_m F_ z eR z) ⟨(cM (cM (cM (cM (j_ (j_ (cr [g1] w0) h1:Cg [g1] w0 H) h2:Cg [g1] w0 O) G (mor h1.s:∀k∈[H.z],k∈[g1]∨w0.z<=k):Cg [g1] w0 V) h3 (io sr):Cg [g1] w0 I) c0 (io sr):Cg [g1] w0 eL) c1 (mor lr:∀k∈[w0.z],k∈[g1]∨w0.z<=k):Cg [g1] w0 eQ),z,eM,eN,eO,eP.c c1<|djs aZ⟩
 have bf:=ifF be aE;refine Ws<|Rq z z z<|Rw z<|Wc z (λaF=>?_) (λaF=>?_)
 .refine Wm z<|R z (bP (parts:=[(0,.tmp 88),(1,.const<|.int .i64 0)]) (cs:=[vI x3,vI 0]) d_0 z z)<|E z (fa b_J) ?_
  rintro _ c2 ⟨rfl,c3⟩;have hx:=c3.below;refine E0 (fs0 (cur':=[vI x3,vI 0]) F_ z z (c3.blk:Blk c2 I.z [vI 0,vI 0]) z z z z) ?_;rintro _ L ⟨eT,eU⟩;have hy:=eU.one;refine Wn<|Wq<|Ws<|Rf z P_ z<|R z (l0 E_ z<|((hb.e hx).c hy<|djs<|mm1 bq.lt<|lt_ G.s h3.s).at z) ?_
  have c4:∀k∈[H.z],¬B k:=or0 (f_ lr)<|p_<|zt' J h1.s;have ab:=lt_ (lt_ (lt_ h1.s h2.s) G.s) h3.s;have an:∀k∈[I.z],¬B k:=or0 (f_ lr)<|p_<|zt' J ab;have c5:=((((h2.ag B).c G<|e_ c4).c h3<|e_<|f_ hBg).e hx).c hy<|e_ an
  refine R z (lnR x_ z<|he.g c5)<|Rm z<|Wn ?_
  obtain ⟨_,d1,bg⟩:=bdS<|ifT bf aF;refine Wf (σ:=Int×Int×Int) (ρ:=S_×Int) (λ(c6:Nat) s a w=>un3 (λxm xc xd=>Sat 145 [(0,pt g1),(6,pt w0.z),(12,pt I.z),(91,sl ai nj ck),(92,vI (xh.kids.length:Int)),(93,vI ((c6:Nat):Int))] a/\Chg (· ∈ ([g1]++[I.z])) L w/\inI xm/\inI xc/\inI xd/\Blk w g1 [sl A0 N0 C0,sl A6 N6 C6,vI xm]/\Blk w I.z [vI xc,vI xd]) s) (λs a w=>un3 (λxm xc xd=>Sat 145 [(6,pt w0.z),(12,pt I.z)] a/\Chg (· ∈ ([g1]++[I.z])) L w/\inI xm/\inI xc/\inI xd/\Blk w g1 [sl A0 N0 C0,sl A6 N6 C6,vI xm]/\Blk w I.z [vI xc,vI xd]) s) (rQ prog fn<|Q29 w0 g1 B A0 N0 C0 A6 N6 C6 x1) d1 ?_ ?_ ?_ ?_ ?_
  .exact λ_ q=>⟨q.k<|s6 z z z z z z,cr ([g1]++[I.z]) L,iA _ _,a0,ii z,(ha.e hx).c hy<|djs<|mm1 (Blk.lt hB1) ab,eT⟩
  .rintro c6 ⟨xm,xc,xd⟩ _ c7 _ bh ⟨d2,ad,ae,af,ap,ah,a5⟩ d3;refine Wu ?_ d2;refine Ws<|Rl z z z<|Wn<|Wq<|Wc z (λ_=>?_) (λhc=>(Q_ bh hc).elim)
   refine Wk<|Wq<|Wb<|Ws ?_
   obtain ⟨_,eV,d4⟩:=bdS<|b_V d3;refine RX z (at_ (α:=Int) x_ z_3 z z z (he.g<|c5.c ad<|nmA (e_<|f_ hBg)<|e_ an) eV) ?_;rintro _ ⟨_,_,_,rfl,eW,eX,_⟩;obtain ⟨rfl,eY⟩:=T_ eX;refine R z (l0 g_3 z<|eW.at0 z)<|Rw z<|Wm z<|Rm z<|Rf z d_j z<|R z (l0 g_3 z<|a5.at z) ?_
   have c8:=((((((h1.ag B).e h2).c G<|e_ c4).c h3<|e_<|f_ hBg).e hx).c hy<|e_ an).c ad<|nmA (e_<|f_ hBg)<|e_ an
   obtain ⟨aq,eZ,f0,bi⟩:=a_8 d4;refine E z (fc call137 z<|dN.run (B:=B) f0 ah (zt' J<|lt_ (lt_ (lt_ ab hx.s) hy.s) ad.s) hBg (W.g c8) (Y.g c8) ae eY af) ?_;rintro _ c9 ⟨b0,rfl,ca,cb,cc,cd⟩;have b1:=mm1 (Blk.lt hB1) ab;refine E0 (fs0 (cur':=[vI aq.at_,vI aq.code]) F_ z z (a5.c b0<|atp b1) z z z z) ?_;rintro _ ce ⟨b2,f1⟩;have av:=f1.one;refine Wn<|Ws<|Rf z d_I z<|R z (l0 g_3 z<|b2.at z)<|R z (nq z z)<|Wx z (λaG=>?_) (λaG=>?_)
   .have f2:Chg (· ∈ ([g1]++[I.z])) L c7:=cM (cr ([g1]++[I.z]) L) ad<|aa_ (io<|a_z sr)<|io<|a_0 sr;exact We<|exO z (λ_ q=>b_M (som<|ifT bi aG).symm ⟨q.k<|s2 z z,(cM (cM f2 b0 (io<|a_z sr):Chg (· ∈ ([g1]++[I.z])) L c9) av (io<|a_0 sr):Chg (· ∈ ([g1]++[I.z])) L ce),cc,ca,cb,cd.c av<|djs b1,b2⟩)
   refine Wk<|Wg<|R z (inc_ bh (lt_ (repS.len he) B_) z z)<|Rm z<|Wl ?_
   exact λ_ q=>⟨(eZ,aq.at_,aq.code),(som<|ifF bi aG).symm,⟨q.k<|s6 z z z z z z,(cM (cM (cM (cr ([g1]++[I.z]) L) ad (aa_ (io<|a_z sr)<|io<|a_0 sr):Chg (· ∈ ([g1]++[I.z])) L c7) b0 (io<|a_z sr):Chg (· ∈ ([g1]++[I.z])) L c9) av (io<|a_0 sr):Chg (· ∈ ([g1]++[I.z])) L ce),cc,ca,cb,cd.c av<|djs b1,b2⟩⟩
  .rintro ⟨xm,xc,xd⟩ _ f3 ⟨d5,f4,ae,af,ap,ah,a5⟩;refine Wu ?_ d5;refine Ws<|Rl z z z<|Wn<|Wq<|Wc z (λhc=>(R_ hc).elim) (λ_=>?_)
   exact We<|λ_ q=>⟨rfl,⟨q.k<|s2 z z,(cM (cr ([g1]++[I.z]) L) f4 (aa_ (io<|a_z sr)<|io<|a_0 sr):Chg (· ∈ ([g1]++[I.z])) L f3),ae,af,ap,ah,a5⟩⟩
  .rintro ⟨xm,xc,xd⟩ f5 f6 rfl ⟨_,cf,ae,af,ap,ah,a5⟩;have d6:=elL bg;revert f5;refine Wo<|Ws<|R z (lN (vs:=[vI xc,vI xd]) a_m F_ z z fid<|a5.row 0 2 z) ?_
   have b3:=mmr<|Blk.lt hB1
   have cg:=mm1 h6.lt<|lt_ (lt_ h2.s G.s) h3.s
   refine E0 (fs0 (cur':=[vI xc,vI xd]) F_ z z ((((((h6.e h2).c G<|djs<|mmr h6.lt).c h3<|atp b3).e hx).c hy<|djs cg).c cf<|atp<|nmA b3<|ds cg) z z z z) ?_;rintro _ f7 ⟨f8,f9⟩;have ch:=f9.one;refine Wn ?_;obtain rfl:=som<|b_V d6;have ci:∀k∈[I.z],k∈[g1]∨w0.z<=k:=mor ab;exact Wr<|rtO<|c_ hr (s_ a_m F_ z f8 z) ⟨(cM (cM (cM (j_ (cM (cM (j_ (j_ (cr [g1] w0) h1:Cg [g1] w0 H) h2:Cg [g1] w0 O) G (mor h1.s:∀k∈[H.z],k∈[g1]∨w0.z<=k):Cg [g1] w0 V) h3 (io sr):Cg [g1] w0 I) hx:Cg [g1] w0 c2) hy ci:Cg [g1] w0 L) cf (aa_ (io sr) ci):Cg [g1] w0 f6) ch (mor lr:∀k∈[w0.z],k∈[g1]∨w0.z<=k):Cg [g1] w0 f7),z,af,ap,ae,ah.c ch<|djs b3⟩
  rintro _ _ _ _ rfl ⟨rfl,cN⟩;have cO:=elR bg;obtain rfl:=som cO;exact ⟨cN,z⟩
 have bj:=ifF bf aF;refine Ws<|Rq z z z<|Rw z<|Wc z (λaH=>?_) (λaH=>?_)
 .refine Wm z<|R z (lN (vs:=vR xh ao np cq ar ns ct au nv cw ai nj ck) H_ m_ z z fid<|hb.row 0 8 z)<|Rm z ?_
  have cj:∀k∈[H.z],¬B k:=or0 (f_ lr)<|p_<|zt' J h1.s;have cl:=(((h1.ag B).e h2).c G<|e_ cj).c h3<|e_<|f_ hBg
  have aw:=((h2.ag B).c G<|e_ cj).c h3<|e_<|f_ hBg
  obtain ⟨cm,_,d7,cP⟩:=a_8<|ifT bj aH;refine E z (fc call159 z<|dP.run (B:=B) d7 ha (zt' J<|lt_ (lt_ (lt_ h1.s h2.s) G.s) h3.s) hBg (W.g cl) (Y.g cl) (iA _ _) a7 a8 hz (a1.g aw) (a9.g aw) (aa.g aw) (he.g aw) a0) ?_;rintro _ d8 ⟨cn,rfl,d9,da,db,dc⟩;have b4:=mmr<|Blk.lt hB1
  refine E0 (fs0 (cur':=[vI cm.at_,vI cm.code]) F_ z z ((((h6.e h2).c G<|djs<|mmr h6.lt).c h3<|atp b4).c cn<|atp b4) z z z z) ?_;rintro _ dd ⟨de,df⟩;have co:=df.one;refine Wn ?_;obtain rfl:=som cP;exact Wr<|rtO<|c_ hr (s_ a_m F_ z de z) ⟨(cM (cM (cM (cM (j_ (j_ (cr [g1] w0) h1:Cg [g1] w0 H) h2:Cg [g1] w0 O) G (mor h1.s:∀k∈[H.z],k∈[g1]∨w0.z<=k):Cg [g1] w0 V) h3 (io sr):Cg [g1] w0 I) cn (io sr):Cg [g1] w0 d8) co (mor lr:∀k∈[w0.z],k∈[g1]∨w0.z<=k):Cg [g1] w0 dd),z,d9,da,db,dc.c co<|djs b4⟩
 have bk:=ifF bj aH;refine Ws<|Rq z z z<|Rw z<|Wc z (λaI=>?_) (λaI=>?_)
 .refine Wm z<|R z (lN (vs:=vR xh ao np cq ar ns ct au nv cw ai nj ck) H_ m_ z z fid<|hb.row 0 8 z)<|Rm z ?_
  have cp:∀k∈[H.z],¬B k:=or0 (f_ lr)<|p_<|zt' J h1.s;have cu:=(((h1.ag B).e h2).c G<|e_ cp).c h3<|e_<|f_ hBg
  have ax:=((h2.ag B).c G<|e_ cp).c h3<|e_<|f_ hBg
  obtain ⟨cv,_,dg,cQ⟩:=a_8<|ifT bk aI;refine E z (fc call160 z<|dS.run (B:=B) dg ha (zt' J<|lt_ (lt_ (lt_ h1.s h2.s) G.s) h3.s) hBg (W.g cu) (Y.g cu) (iA _ _) a7 a8 hz (a1.g ax) (a9.g ax) (aa.g ax) (he.g ax) a0) ?_;rintro _ dh ⟨cx,rfl,di,dj,dk,dl⟩;have b5:=mmr<|Blk.lt hB1
  refine E0 (fs0 (cur':=[vI cv.at_,vI cv.code]) F_ z z ((((h6.e h2).c G<|djs<|mmr h6.lt).c h3<|atp b5).c cx<|atp b5) z z z z) ?_;rintro _ dm ⟨dn,dp⟩;have cy:=dp.one;refine Wn ?_;obtain rfl:=som cQ;exact Wr<|rtO<|c_ hr (s_ a_m F_ z dn z) ⟨(cM (cM (cM (cM (j_ (j_ (cr [g1] w0) h1:Cg [g1] w0 H) h2:Cg [g1] w0 O) G (mor h1.s:∀k∈[H.z],k∈[g1]∨w0.z<=k):Cg [g1] w0 V) h3 (io sr):Cg [g1] w0 I) cx (io sr):Cg [g1] w0 dh) cy (mor lr:∀k∈[w0.z],k∈[g1]∨w0.z<=k):Cg [g1] w0 dm),z,di,dj,dk,dl.c cy<|djs b5⟩
 have bm:=ifF bk aI;refine Ws<|Rq z z z<|Rw z<|Wc z (λaJ=>?_) (λaJ=>?_)
 .refine Wm z<|R z (lN (vs:=vR xh ao np cq ar ns ct au nv cw ai nj ck) H_ m_ z z fid<|hb.row 0 8 z)<|Rm z ?_
  have cz:∀k∈[H.z],¬B k:=or0 (f_ lr)<|p_<|zt' J h1.s;have cA:=(((h1.ag B).e h2).c G<|e_ cz).c h3<|e_<|f_ hBg
  have ay:=((h2.ag B).c G<|e_ cz).c h3<|e_<|f_ hBg
  obtain ⟨cB,_,dq,cR⟩:=a_8<|ifT bm aJ;refine E z (fc call161 z<|dT.run (B:=B) dq ha (zt' J<|lt_ (lt_ (lt_ h1.s h2.s) G.s) h3.s) hBg (W.g cA) (Y.g cA) (iA _ _) a7 a8 hz (a1.g ay) (a9.g ay) (aa.g ay) (he.g ay) a0) ?_;rintro _ dr ⟨cC,rfl,dt,du,dv,dw⟩;have b6:=mmr<|Blk.lt hB1
  refine E0 (fs0 (cur':=[vI cB.at_,vI cB.code]) F_ z z ((((h6.e h2).c G<|djs<|mmr h6.lt).c h3<|atp b6).c cC<|atp b6) z z z z) ?_;rintro _ dx ⟨dy,dz⟩;have cD:=dz.one;refine Wn ?_;obtain rfl:=som cR;exact Wr<|rtO<|c_ hr (s_ a_m F_ z dy z) ⟨(cM (cM (cM (cM (j_ (j_ (cr [g1] w0) h1:Cg [g1] w0 H) h2:Cg [g1] w0 O) G (mor h1.s:∀k∈[H.z],k∈[g1]∨w0.z<=k):Cg [g1] w0 V) h3 (io sr):Cg [g1] w0 I) cC (io sr):Cg [g1] w0 dr) cD (mor lr:∀k∈[w0.z],k∈[g1]∨w0.z<=k):Cg [g1] w0 dx),z,dt,du,dv,dw.c cD<|djs b6⟩
 refine Wk<|Wq (Wd (X:=noX) 0 (pl_ 17 [9]) mo (by kernel_rfl) λcE sg _=>dM z z z<|dR z z (J_ z)<|dR z z (fd e_d z) ?_)
 have b7:=ha.e sg;refine dR z z (l0 X_ z<|b7.at z)<|dM z z z<|dR z z (fd b_f z)<|dR z z (l0 X_ z<|(hb.e sg).at z) ?_
 obtain ⟨_,dA,cS⟩:=bdS<|ifF bm aJ;have cF:∀k∈[H.z],¬B k:=or0 (f_ lr)<|p_<|zt' J h1.s;refine dRX z z (at_ (α:=UInt8) o_ z_5 z z z (a1.g<|(((h2.ag B).c G<|e_ cF).c h3<|e_<|f_ hBg).e sg) dA) ?_;rintro _ ⟨_,_,_,rfl,dB,dC,_⟩;obtain rfl:=u8 dC;refine dR z z (l0 g_5 z<|dB.at0 z) ?_;obtain ⟨_,cG,_,dD,bn⟩:=N_ cS;refine dE z z (fc call76 z<|W_w1m dD (zt' J<|lt_ (lt_ (lt_ (lt_ h1.s h2.s) G.s) h3.s) sg.s) (Y.g<|((((h1.ag B).e h2).c G<|e_ cF).c h3<|e_<|f_ hBg).e sg) a0) (.inr λ_ _ h=>C_<|h.1) ?_;rintro _ cH ⟨a6,_,_,_,_,rfl,_,dF,_,_⟩;refine dM z z z ?_
 iterate 3 refine dR z z (ext_ z z) ?_
 iterate 3 refine dQ z z z ?_
 refine pD<|Wo<|Wq<|Wm z<|R z (not_ z)<|Wx z (λaK=>?_) (λaK=>?_)
 .refine Wm z<|R z (bP (parts:=[(0,.tmp 141),(1,.const<|.int .i64 1)]) (cs:=[vI x3,vI 1]) d_0 z z) ?_
  have cI:=mmr<|Blk.lt hB1
  refine E0 (fs0 (cur':=[vI x3,vI 1]) F_ z z (((((h6.e h2).c G<|djs<|mmr h6.lt).c h3<|atp cI).e sg).e a6) z z z z) ?_;rintro _ dG ⟨dH,dI⟩;have cJ:=dI.one;refine Wn ?_;obtain rfl:=som<|ifT bn aK;exact Wr<|c_ hr (s_ a_m F_ z dH z) ⟨(cM (j_ (j_ (cM (cM (j_ (j_ (cr [g1] w0) h1:Cg [g1] w0 H) h2:Cg [g1] w0 O) G (mor h1.s:∀k∈[H.z],k∈[g1]∨w0.z<=k):Cg [g1] w0 V) h3 (io sr):Cg [g1] w0 I) sg:Cg [g1] w0 cE) a6:Cg [g1] w0 cH) cJ (mor lr:∀k∈[w0.z],k∈[g1]∨w0.z<=k):Cg [g1] w0 dG),z,a0,ii z,iA _ _,(b7.e a6).c cJ<|djs cI⟩
 refine Wk<|Wm z<|R z (bP (parts:=[(0,.tmp 143),(1,.const<|.int .i64 0)]) (cs:=[vI cG,vI 0]) d_0 z z) ?_
 have cK:=mmr<|Blk.lt hB1
 refine E0 (fs0 (cur':=[vI cG,vI 0]) F_ z z (((((h6.e h2).c G<|djs<|mmr h6.lt).c h3<|atp cK).e sg).e a6) z z z z) ?_;rintro _ dJ ⟨dK,dL⟩;have cL:=dL.one;refine Wn ?_;obtain rfl:=som<|ifF bn aK;exact Wr<|c_ hr (s_ a_m F_ z dK z) ⟨(cM (j_ (j_ (cM (cM (j_ (j_ (cr [g1] w0) h1:Cg [g1] w0 H) h2:Cg [g1] w0 O) G (mor h1.s:∀k∈[H.z],k∈[g1]∨w0.z<=k):Cg [g1] w0 V) h3 (io sr):Cg [g1] w0 I) sg:Cg [g1] w0 cE) a6:Cg [g1] w0 cH) cL (mor lr:∀k∈[w0.z],k∈[g1]∨w0.z<=k):Cg [g1] w0 dJ),z,dF,ii z,iA _ _,(b7.e a6).c cL<|djs cK⟩
end Go.Vw
