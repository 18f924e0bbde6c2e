
import Derived.Test.YtgieiijmhcgmcaaGreatDoorVwJW2
set_option linter.unusedVariables false
namespace Go.Vw
open Go.RowKit Dat Go.Proofs
open Go.Proofs.Tryz
open Go.Vw renaming a_L->Wq,b_7->Wg,WC.of_KC->Wo,a_M->Wl,c_t->Wc,d_x->Wr,g_N->Wu,i_1->pT,i_2->pF,g_S->fd,c_3->l1,i_T->lN,b_y->mv,d_c->asg,g_q->lnR,f_8->lss,g_Y->eql,g_T->ext_,i_4->bP,g_U->add_,g_m->inc_,e_i->not_,g_r->at_,e_Q->fc,b_d->fs,e_P->fb,e_3->fa,h_V->sr,h_Z->cr,i_0->cM,c_Y->bM,h_L->iS,h_K->iA,h_N->br,b_t->oA,h_R->bs,ltge->lg,inor->io,g_Z->nq,i_V->lnT,i_W->sb_,h_T->ar_,h_S->al_,h_U->ds,j_v->m1,h_X->nr_,h_W->nl_,g_o->aa_,all_nil->an_,d_y->Wb,g_n->u8,h_E->pD,g_j->We,h_M->Wt,g_l->fS,e_M->or_,i_R->Wf,i_8->qL,h_D->Wd,i_5->fN,g_p->na_,h_Y->nj,e_U->f0,i_3->rX,i_6->tl_,i_7->ic
variable {A0:Option Addr}{N0 C0:Nat}{B:Zone}{w0:World}{A9:Option Addr}{A8:Option Addr}{AA:Option Addr}{AB:Option Addr}{N9 C9:Nat}{N8 C8:Nat}{NA CA:Nat}{NB CB:Nat}{A3:Option Addr}{A4:Option Addr}{A2:Option Addr}{A5:Option Addr}{N3 C3:Nat}{N4 C4:Nat}{N2 C2:Nat}{N5 C5:Nat}{A7:Option Addr}{N7 C7:Nat}{A6:Option Addr}{N6 C6:Nat}{n:Nat}{A1:Option Addr}{N1 C1:Nat}
theorem T_w1k (ih:d_F n):i_K (g_b n<|a_1 n):=by
 obtain ⟨_,_,ap,_,_,_⟩:=ih
 constructor
 intro A0 A1 A3 A4 A2 A5 N0 C0 N1 C1 b1 o1 N3 C3 N4 C4 N2 C2 N5 C5 B x1 x2 x3 res w0 hm J V O hC1 hC1b aW aX aY aZ b0 b2 al L;unfold g_b at hm
 refine goG func102 z z z fun fn hr=>Ws<|E z (fb z) ?_
 rintro _ wb ⟨rfl,hu⟩;have h6:=hu.below;refine E z (fa a_a) ?_;rintro _ aq ⟨rfl,hv⟩;have H:=hv.below;have h3:Blk aq wb.z [vI 0,sl none 0 0,sl none 0 0]:=hv.blk;refine Ra z<|Rw z<|Wm z<|R z (bP (parts:=[]) (cs:=[vI 0,sl none 0 0,sl none 0 0]) U_ z z)<|Rf z M_ z<|R z (l0 w_ z<|((hu.blk:Blk wb w0.z (vR x2 A3 N3 C3 A4 N4 C4 A2 N2 C2 A5 N5 C5)).e H).at z)<|Rm z ?_
 have hw:=(hC1.e h6).e H;have hc:=(h6.ag B).e H;have I:=lt_ h6.s H.s;obtain ⟨rk,_,_,ar,hmr⟩:=L_ hm;refine E z (fc call99 z<|ap.run (B:=B) (x2:=(⟨0,([]:List UInt8),([]:List Val)⟩:Val)) ar (zt' J I) (V.g hc) (O.g hc) hw hC1b (ii z) onL a_f an_ onL a_f an_ an_ (al.g hc) L) ?_;rintro _ ws ⟨G,ad,ne,cf,Sx,ah,ng,ci,Sy,au,av,rfl,aw,hz,a0,a1,a2,a3,hl,hj⟩;refine Rm z ?_
 iterate 3 refine Re z z z ?_
 refine E z (fa a_a) ?_;rintro _ ax ⟨rfl,a4⟩;have h1:=a4.below;refine E0 (fs0 (cur':=[vI rk.number,sl ad ne cf,sl ah ng ci]) i_ z z (a4.blk:Blk ax ws.z [vI 0,sl none 0 0,sl none 0 0]) z z z z) ?_;rintro _ _ ⟨ay,az⟩;have h2:=az.one;refine Ra z<|Rw z<|Wq<|Wm z ?_
 have a5:=(a2.e h1).c h2<|ds<|mnr<|a_m.lt a2
 refine R z (c_z c_C z z a5)<|Wx z (fun hcm=>?_) (fun hcm=>?_)
 ·refine Ws<|R z (bP (parts:=[]) (cs:=[vI 0,sl none 0 0,sl none 0 0]) U_ z z)<|RM z z<|E0 (fs0 (cur':=[vI 0,sl none 0 0,sl none 0 0]) i_ z z (((h3.c G<|atp<|nmA (nmN _)<|nmN _).e h1).c h2<|djs<|mm1 h3.lt G.s) z z z z) ?_
  rintro _ _ ⟨aA,aB⟩;have a6:=aB.one;refine Ra z<|Rw z ?_
  obtain rfl:=som<|ifT hmr hcm;exact Wr<|A_ hr (o_ z_ i_ z aA z) z z ⟨bM (bM (bup (bM (bup h6 H) G al0) h1) h2<|m1<|lt_ I G.s) a6<|m1 h6.s,none,0,0,[],none,0,0,[],au,av,z,ii z,onL,onL,L,a5.c a6<|p_ a3 h3.lt lr,k_ a3 I,nd0,al0⟩
 refine Wk<|Wm z<|Rm z ?_
 have ha:=lt_ I G.s;have a7:∀k∈[ws.z],¬B k:=or0 (f_ lr)<|m_<|zt' J ha;have a8:=((hw.c G<|(nmA (c_ an_)<|c_ an_) _ hC1b).e h1).c h2<|(c_ a7) _ hC1b
 have hn:=((hc.c G<|nmA (c_ an_)<|c_ an_).e h1).c h2<|c_ a7
 have ho:=lt_ (lt_ ha h1.s) h2.s;obtain ⟨_,_,aC,W⟩:=W_<|ifF hmr hcm;refine E z (fc call115 z<|g_F aC (zt' J ho) (V.g hn) (O.g hn) a8 hC1b a1<|ii z) ?_;rintro _ _ ⟨s4,_,_,_,aD,aE,rfl,aF,a9,aa⟩;refine Rm z<|Re z z z<|Re z z z<|Ra z<|Rw z<|Wq<|Wm z<|R z (c_z c_C z z a9)<|Wx z (fun hcp=>?_) (fun hcp=>?_)
 ·refine Ws<|R z (bP (parts:=[]) (cs:=[vI 0,sl none 0 0,sl none 0 0]) U_ z z)<|RM z z<|E0 (fs0 (cur':=[vI 0,sl none 0 0,sl none 0 0]) i_ z z ((((h3.c G<|atp<|nmA (nmN _)<|nmN _).e h1).c h2<|djs<|mm1 h3.lt G.s).e s4) z z z z) ?_
  rintro _ _ ⟨aG,aH⟩;have ab:=aH.one;refine Ra z<|Rw z ?_
  obtain rfl:=som<|ifT W hcp;exact Wr<|A_ hr (o_ z_ i_ z aG z) z z ⟨bM (bup (bM (bup (bM (bup h6 H) G al0) h1) h2<|m1 ha) s4) ab<|m1 h6.s,none,0,0,[],none,0,0,[],aD,aE,z,ii z,onL,onL,L,a9.c ab<|p_ aa h3.lt<|lt_ (lt_ G.s h1.s) h2.s,k_ aa ho,nd0,al0⟩
 refine Wk<|Wq<|Wq (Wd (X:=noX) 0 (pl_ 13 [11]) mo (by kernel_rfl) fun b3 s5 _=>dM z z z ?_)
 obtain ⟨_,aI,am⟩:=bdS<|ifF W hcp;refine dRX z z (at_ (α:=UInt8) l_ z_5 z z z (aF.e s5) aI) ?_;rintro _ ⟨_,_,_,rfl,aJ,aK,_⟩;obtain rfl:=u8 aK;refine dR z z (l0 g_5 z<|aJ.at0 z)<|dR z z (c_c d_5 d_3 z)<|dM z z z<|dR z z (I_ z)<|dR z z (fd e_a z)<|dR z z (l0 T_ z<|((a8.e s4).e s5).at (j:=1) z)<|dM z z z<|dM z z z ?_
 obtain ⟨_,aL,an⟩:=bdS am;refine dRX z z (rX l_ z_5 z z (O.g<|(hn.e s4).e s5) z z aL) ?_;rintro _ ⟨_,_,_,rfl,aM⟩;have ae:=lt_ (lt_ ho s4.s) s5.s;obtain ⟨_,aN,Y⟩:=bdS an;refine dE z z (fc call21 z<|i_v aN (zt' J ae) aM) (.inr fun _ _ h=>F_<|h.1) ?_;rintro _ _ ⟨s7,rfl,_⟩;refine dR z z (nq z z)<|pD<|Wo<|Wc z (fun hcq=>?_) (fun hcq=>?_)
 ·refine Ws<|R z (bP (parts:=[]) (cs:=[vI 0,sl none 0 0,sl none 0 0]) U_ z z)<|RM z z ?_
  have af:=lt_ ae s7.s;obtain ⟨_,aO,ao⟩:=bdS<|ifT Y hcq;refine E z (fc call103 z<|d_7 aO (zt' J af) a1<|ii z) ?_;rintro _ _ ⟨ai,aP,aQ,rfl,aR,aj⟩;refine E0 (fs0 (cur':=[vI 0,sl none 0 0,sl none 0 0]) i_ z z (((((((h3.c G<|atp<|nmA (nmN _)<|nmN _).e h1).c h2<|djs<|mm1 h3.lt G.s).e s4).e s5).e s7).e ai) z z z z) ?_;rintro _ _ ⟨aS,aT⟩;have ak:=aT.one;refine Ra z<|Rw z ?_
  obtain rfl:=som ao;exact Wr<|A_ hr (o_ z_ i_ z aS z) z z ⟨bM (bup (bup (bup (bup (bM (bup (bM (bup h6 H) G al0) h1) h2<|m1 ha) s4) s5) s7) ai) ak<|m1 h6.s,none,0,0,[],none,0,0,[],aP,aQ,z,ii z,onL,onL,L,aR.c ak<|p_ aj h3.lt<|lt_ (lt_ (lt_ (lt_ (lt_ G.s h1.s) h2.s) s4.s) s5.s) s7.s,k_ aj af,nd0,al0⟩
 refine Wk<|Ws<|R z (lN (vs:=[vI rk.number,sl ad ne cf,sl ah ng ci]) z_ i_ z z fid<|(((ay.e s4).e s5).e s7).row 0 3 z)<|Rm z<|R z (add_ z z)<|E0 (fs0 (cur':=[vI rk.number,sl ad ne cf,sl ah ng ci]) i_ z z ((((((h3.c G<|atp<|nmA (nmN _)<|nmN _).e h1).c h2<|djs<|mm1 h3.lt G.s).e s4).e s5).e s7) z z z z) ?_
 rintro _ _ ⟨aU,aV⟩;have ht:=aV.one;refine Ra z<|Rw z ?_
 obtain rfl:=som<|ifF Y hcq;exact Wr<|A_ hr (o_ z_ i_ z aU z) z z ⟨bM (bup (bup (bup (bM (bup (bM (bup h6 H) G al0) h1) h2<|m1 ha) s4) s5) s7) ht<|m1 h6.s,ad,ne,cf,Sx,ah,ng,ci,Sy,.nilIface,([]:List Nat),z,aw,(((((hz.e h1).c h2<|ds<|mnr<|b_.lt hz).e s4).e s5).e s7).c ht (or1 (al_ hj) al0 (a_x (f_ h3.lt) lr):∀k∈Sx,k∉[wb.z]),(((((a0.e h1).c h2<|ds<|mnr<|b_.lt a0).e s4).e s5).e s7).c ht (or1 (ar_ hj) al0 (a_x (f_ h3.lt) lr):∀k∈Sy,k∉[wb.z]),iA _ _,d_1,an_,na_ (nl_ hl) (nr_ hl)<|nj hl,aa_ (a_Q (al_ hj) al0 I)<|a_Q (ar_ hj) al0 I⟩
theorem b_R:∀n,d_F n
  | 0=>⟨⟨fun hm=>by intros;exact nomatch (show none=some _ from hm)⟩,⟨fun hm=>by intros;exact nomatch (show none=some _ from hm)⟩,⟨fun hm=>by intros;exact nomatch (show none=some _ from hm)⟩,⟨fun hm=>by intros;exact nomatch (show none=some _ from hm)⟩,⟨fun hm=>by intros;exact nomatch (show none=some _ from hm)⟩,⟨fun hm=>by intros;exact nomatch (show none=some _ from hm)⟩⟩
  | n+1=>⟨T_w00<|b_R n,T_w1g<|b_R n,T_w1h<|b_R n,T_w1i<|b_R n,T_w1j<|b_R n,T_w1k<|b_R n⟩
theorem W_w00:i_F (a_1 n).impl_fileReader_value:=(b_R n).1
theorem W_w1g:i_G (a_1 n).impl_fileReader_array:=(b_R n).2.1
theorem W_w1h:i_H (a_1 n).impl_fileReader_items:=(b_R n).2.2.1
theorem W_w1i:i_I (a_1 n).impl_fileReader_choice:=(b_R n).2.2.2.1
theorem W_w1j:i_J (a_1 n).impl_fileReader_option:=(b_R n).2.2.2.2.1
theorem W_w1k:i_K (a_1 n).impl_fileReader_checked:=(b_R n).2.2.2.2.2
theorem i_L {x1:g_}{x2:Int}{x3:List UInt8}{x4:Int}{res:Val×Int×Int}(hm:g_c n x1 x2 x3 x4=some res)(O:B<=w0.z)(hG:Gl w0 B)(V:repS w0 B (sl A0 N0 C0) x1.rules)(W:inI x2)(Y:repS w0 B (sl A7 N7 C7) x3)(aB:inI x4):j_ prog 55 [(.agg #[sl A0 N0 C0]),vI x2,sl A7 N7 C7,vI x4] w0 (Q9 w0 B res):=by
 unfold g_c at hm
 refine goG func55 z z z fun fn hr=>Ws<|E z (fb z) ?_
 rintro _ wc ⟨rfl,a5⟩;have h1:=a5.below;have a6:Blk wc w0.z [sl A0 N0 C0]:=a5.blk;refine E z (fa a_a) ?_;rintro _ wp ⟨rfl,a7⟩;have h4:=a7.below;have h5:Blk wp wc.z [vI 0,sl none 0 0,sl none 0 0]:=a7.blk;refine Ra z<|Rw z<|Wq<|Wq ?_
 obtain ⟨aE,aC,a0⟩:=bdS hm;refine Wt (fun a w=>∃(xq:Bool),xq=aE/\Sat 62 [(1,vI x2),(2,sl A7 N7 C7),(3,vI x4),(4,pt w0.z),(8,pt wc.z),(34,vB xq)] a/\Below wp.z wp w) ?_ ?_
 ·refine Wg<|R z (lN (vs:=[sl A0 N0 C0]) D_ C_ z z fid<|(a6.e h4).row 0 1 z)<|Rm z ?_
  have a8:=(h1.ag B).e h4;obtain ⟨aF,aG,a1⟩:=bdS aC;refine E z (fc call61 z<|i_u aG (zt' O<|lt_ h1.s h4.s) (V.g a8) W) ?_;rintro _ _ ⟨sd,rfl⟩;refine R z (not_ z)<|Rm z ?_
  rcases bs (!aF) with J | J
  ·exact Nh z J<|Nh z J<|R z (pT z J z)<|Rm z<|Nh z z<|Nh z z<|Nh z z<|Nh z z<|R z (pT z z z)<|Rm z<|Nh z z<|Nh z z<|Nh z z<|R z (pT z z z)<|Wl (fun _ q=>⟨true,som<|ifT a1 J,q.k<|s6 z z z z z z,sd⟩)
  have a2:=ifF a1 J;refine Rh z J (mv z)<|Rh z J (lss z z)<|R z (pF z J z)<|Rm z ?_
  rcases bs (decide<|x4<0) with H | H
  ·iterate 4 refine Nh z H ?_
   exact R z (pT z H z)<|Rm z<|Nh z z<|Nh z z<|Nh z z<|R z (pT z z z)<|Wl (fun _ q=>⟨true,som<|ifT a2 H,q.k<|s6 z z z z z z,sd⟩)
  have a3:=ifF a2 H;refine Rh z H (mv z)<|Rh z H (mv z) ?_
  have a9:=Y.g<|a8.e sd
  refine Rh z H (lnR l_ z a9)<|Rh z H (a_b z z)<|R z (pF z H z)<|Rm z ?_
  rcases bs (decide<|(x3.length:Int)<x4) with L | L
  ·iterate 3 refine Nh z L ?_
   exact R z (pT z L z)<|Wl (fun _ q=>⟨true,som<|ifT a3 L,q.k<|s6 z z z z z z,sd⟩)
  exact Rh z L (mv z)<|Rh z L (lnR l_ z a9)<|Rh z L (a_b z z)<|R z (pF z L z)<|Wl (fun _ q=>⟨decide<|400<(x3.length:Int),som<|ifF a3 L,q.k<|s6 z z z z z z,sd⟩)
 rintro aH aI ⟨xq,rfl,_,G⟩;revert aH;refine Wo<|Wc z (fun hcr=>?_) (fun hcr=>?_)
 ·refine Ws<|R z (bP (parts:=[]) (cs:=[vI 0,sl none 0 0,sl none 0 0]) U_ z z)<|E0 (fs0 (cur':=[vI 0,sl none 0 0,sl none 0 0]) i_ z z (h5.e G) z z z z) ?_
  rintro _ _ ⟨aJ,aK⟩;refine Ra z<|Rw z ?_
  obtain rfl:=som<|ifT a0 hcr;exact Wr<|A_ hr (o_ z_ i_ z aJ z) z z ⟨bM (bup (bup h1 h4) G) aK.one<|m1 h1.s,none,0,0,[],none,0,0,[],z,ii z,onL,onL,ii z,ii z,nd0,al0⟩
 refine Wk<|Ws<|R z (lN (vs:=[sl A0 N0 C0]) D_ C_ z z fid<|((a6.e h4).e G).row 0 1 z)<|Rm z<|R z (bP (parts:=[(0,.tmp 36),(1,.tmp 37)]) (cs:=[sl A0 N0 C0,sl A7 N7 C7]) n_k z z)<|E z (fb z) ?_
 rintro _ aa ⟨rfl,ab⟩;have ha:=ab.below;have ad:Blk aa aI.z [sl A0 N0 C0,sl A7 N7 C7]:=ab.blk;refine Rw z<|Wm z<|RM z z ?_
 have ae:=(((h1.ag B).e h4).e G).e ha;have he:=lt_ (lt_ (lt_ h1.s h4.s) G.s) ha.s;have af:=zt' O he;obtain ⟨rs,_,aL,aM,a4⟩:=L_<|ifF a0 hcr;refine E z (fc call71 z<|W_w00.run (B:=aa.z) aM zr (repS.mono (V.g ae) af) (repS.mono (Y.g ae) af) (ad.row 0 2 z) ad.lt W aB) ?_;rintro _ ai ⟨sb,ah,ng,ci,aN,aj,nk,cl,aO,_,_,rfl,aP,ak,al,aQ,ht,aR,hu,hn⟩;refine Rm z ?_
 iterate 3 refine Re z z z ?_
 refine E z (fa a_a) ?_;rintro _ aS ⟨rfl,am⟩;have h2:=am.below;refine E0 (fs0 (cur':=[vI rs.number,sl ah ng ci,sl aj nk cl]) i_ z z (am.blk:Blk aS ai.z [vI 0,sl none 0 0,sl none 0 0]) z z z z) ?_;rintro _ an ⟨aT,aU⟩;have h3:=aU.one;refine Ra z<|Rw z<|Ws<|E z (fa n_s) ?_
 rintro _ aV ⟨rfl,ao⟩;have I:=ao.below;have ap:Blk aV an.z [(.pointer none)]:=ao.blk;refine Wn<|Wq<|Wm z<|R z (k_h d_118 (fun _ h=>by cases h) z) ?_
 have aq:=((ht.e h2).c h3<|ds<|mnr<|a_m.lt ht).e I
 rcases bs (aL.isSome) with hcm | hcm
 ·obtain ⟨_,_,aW,aD⟩:=W_<|ifT a4 hcm;have hv:=lt_ he sb.s;refine E z (fc call72 z<|n_j ((((((((hG.e h1).e h4).e G).e ha).e sb).e h2).c h3<|c_ (or0 (f_ lr) (m_<|zt' O hv):∀k∈[ai.z],¬B k)).e I) aq aW ap) ?_;rintro _ _ ⟨ar,rfl,aX,aY,aZ,au,b0,b1⟩;have hw:=aX.one;refine Wx z (fun _=>?_) (fun hc=>(bcon z hc).elim)
  refine Wq<|Wd (X:=(· ∈ [wc.z])) 0 (pl_ 12 [9]) mo (by kernel_rfl) fun b6 so _=>dR z z (bP (parts:=[]) (cs:=[vI 0,sl none 0 0,sl none 0 0]) U_ z z) ?_;have av:=aY.e so;have aw:=lt_ G.s ha.s;have ax:=lt_ aw sb.s;have ay:=lt_ (lt_ ax h2.s) h3.s;have hx:=mm1 h5.lt ay;refine dR z z (l1 g_116 z (atp hx)<|av.at z)<|dR z z (I_ z)<|dR z z (fd n_q z) ?_
  have az:=(aZ.c hw<|atp (or1 (f_<|.inl au) (ds<|mno (a_m.lt ht)<|lt_ h2.s h3.s) (a_x (f_ ap.lt) lr):∀k∈[ar],k∉[an.z])).e so;have aA:∀k∈[ar],k∉[wc.z]:=or1 (f_<|.inl au) (p_ aR h5.lt aw)<|a_x (f_ h5.lt)<|lt_ ay I.s;refine dR z z (l1 g_3 z (atp aA)<|az.at z)<|dR z z (l1 g_116 z (atp hx)<|av.at z)<|dR z z (I_ z)<|dR z z (fd n_r z)<|dR z z (l1 g_3 z (atp aA)<|az.at z)<|dE0 z (fs0 (cur':=[vI 0,sl none 0 0,sl none 0 0]) i_ z z ((((((((h5.e G).e ha).e sb).e h2).c h3<|djs<|mm1 h5.lt ax).e I).c hw<|djs hx).e so) z z z z) (.inr fun _ _ h=>g_v (List.mem_singleton.2 z) h.2) ?_
  rintro _ _ ⟨b2,b3⟩;refine dQ z z z<|dQ z z z<|pD<|Wo ?_
  obtain rfl:=som aD;exact Wr<|A_ hr (o_ z_ i_ z b2 z) z z ⟨bM (bup (bM (bup (bM (bup (bup (bup (bup (bup h1 h4) G) ha) sb) h2) h3<|m1 hv) I) hw<|m1<|lt_ (lt_ hv h2.s) h3.s) so) b3.one<|m1 h1.s,none,0,0,[],none,0,0,[],z,ii z,onL,onL,b0,b1,nd0,al0⟩
 refine E z (fc call72 z<|n_i aq hcm) ?_;rintro _ _ ⟨rfl,sf⟩;refine Wx z (fun hc=>(bcon hc z).elim) (fun _=>?_)
 refine Wk<|Ws<|R z (lN (vs:=[vI rs.number,sl ah ng ci,sl aj nk cl]) z_ i_ z z fid<|((aT.e I).e sf).row 0 3 z)<|Rm z ?_
 have hy:=lt_ G.s ha.s;refine E0 (fs0 (cur':=[vI rs.number,sl ah ng ci,sl aj nk cl]) i_ z z (((((((h5.e G).e ha).e sb).e h2).c h3<|djs<|mm1 h5.lt<|lt_ hy sb.s).e I).e sf) z z z z) ?_;rintro _ _ ⟨b4,b5⟩;have hz:=b5.one;refine Ra z<|Rw z ?_
 obtain rfl:=som<|ifF a4 hcm;exact Wr<|A_ hr (o_ z_ i_ z b4 z) z z ⟨bM (bup (bup (bM (bup (bup (bup (bup (bup h1 h4) G) ha) sb) h2) h3<|m1<|lt_ he sb.s) I) sf) hz<|m1 h1.s,ah,ng,ci,aN,aj,nk,cl,aO,z,aP,((((ak.e h2).c h3<|ds<|mnr<|b_.lt ak).e I).e sf).c hz<|p_ (al_ hn) h5.lt hy,((((al.e h2).c h3<|ds<|mnr<|b_.lt al).e I).e sf).c hz<|p_ (ar_ hn) h5.lt hy,aQ,ii z,na_ (nl_ hu) (nr_ hu)<|nj hu,aa_ (k_ (al_ hn) he)<|k_ (ar_ hn) he⟩
theorem W_w31 {x1:g_}{x2:List UInt8}{res:Val×Int×Int}(hm:g_d n x1 x2=some res)(W:B<=w0.z)(hG:Gl w0 B)(V:repS w0 B (sl A0 N0 C0) x1.rules)(Y:repS w0 B (sl A6 N6 C6) x2):j_ prog 33 [(.agg #[sl A0 N0 C0]),sl A6 N6 C6] w0 (Q9 w0 B res):=by
 unfold g_d at hm
 refine goG func33 z z z fun fn hr=>Ws<|E z (fb z) ?_
 rintro _ wn ⟨rfl,ao⟩;have h2:=ao.below;have hv:Blk wn w0.z [sl A0 N0 C0]:=ao.blk;refine E z (fa a_a) ?_;rintro _ I ⟨rfl,ap⟩;have h1:=ap.below;have ho:Blk I wn.z [vI 0,sl none 0 0,sl none 0 0]:=ap.blk;refine Ra z<|Rw z<|Wq ?_
 obtain ⟨bn,ak,bh⟩:=bdS hm;refine Wt (fun a w=>∃(xb:Int)(xw:List UInt8)(xx:List Val)(xc:Int)(xd:Int),(xb,xw,xx,xc,xd)=bn/\∃ae nf cg J ah ni cj L O,Sat 32 [(1,sl A6 N6 C6),(4,pt wn.z),(7,pt O),(8,vI xc),(9,vI xd)] a/\Below I.z I w/\inI xb/\b_ w J (sl ae nf cg) xw/\J.Nodup/\(∀k∈J,I.z<=k)/\b_ w L (sl ah ni cj) xx/\L.Nodup/\(∀k∈L,I.z<=k)/\(∀k∈L,k∉J)/\inI xc/\inI xd/\Blk w O [vI xb,sl ae nf cg,sl ah ni cj]/\I.z<=O/\(∀k∈J,k∉[O])/\(∀k∈L,k∉[O])) ?_ ?_
 ·refine Wd (X:=fun k=>k∈([]:List Nat)∨I.z<=k) 0 (.rd 0<|.rd 1<|.rd 3<|.br 2 (.br 4 (.rd 5<|.rd 6<|.rd 7<|.rd 8<|.ef 9<|.ef 10<|.rd 11<|.rd 12 .done) 9<|.ef 4<|.rd 5<|.rd 6<|.rd 7<|.rd 8<|.ef 10<|.rd 11<|.rd 12 .done) 9<|.ef 2<|.ef 4<|.rd 5<|.rd 6<|.rd 7<|.rd 8<|.ef 10<|.rd 11<|.rd 12 .done) mo (by kernel_rfl) fun aq G _=>?_
  have ar:=(hv.e h1).e G;refine dR z z (lN (vs:=[sl A0 N0 C0]) D_ C_ z z (e_9 nm0<|Nat.lt_of_lt_of_le hv.lt h1.s)<|ar.row 0 1 z)<|dR z z (lN (vs:=[sl A0 N0 C0]) D_ C_ z z (e_9 nm0<|Nat.lt_of_lt_of_le hv.lt h1.s)<|ar.row 0 1 z)<|dM z z z<|d_z ?_ ?_
  ·have hy:=((h2.ag B).e h1).e G;have hz:=lt_ (lt_ h2.s h1.s) G.s;obtain ⟨_,bo,al⟩:=bdS ak;refine dE z z (fc call29 z<|e_c bo (zt' W hz)<|V.g hy) (.inr fun _ _ h=>F_<|h.1) ?_;rintro _ au ⟨s3,rfl,av⟩;refine d_z ?_ ?_
   ·have aw:=hy.e s3;obtain ⟨rp,bp,bq,bt,bi⟩:=L_ al;refine dE z z (fc call55 z<|i_L bt (zt' W<|lt_ hz s3.s) ((((hG.e h2).e h1).e G).e s3) (V.g aw) av (Y.g aw)<|ii z) (.inr fun _ _ h=>F_<|h.1) ?_;rintro _ ax ⟨ay,az,aA,aB,bu,aC,aD,aE,bv,rfl,bw,aF,aG,bx,bz,a1,aH⟩;refine dM z z z ?_
    iterate 3 refine dR z z (ext_ z z) ?_
    refine dE z z (fa a_a) (.inr fun _ _ h=>F_<|h.2.below) ?_;rintro _ bA ⟨rfl,aI⟩;have a2:=aI.below;have a3:=lt_ G.s s3.s;have a4:=m1<|lt_ a3 ay.s
    refine dE0 z (fs0 (cur':=[vI rp.number,sl az aA aB,sl aC aD aE]) i_ z z (aI.blk:Blk bA ax.z [vI 0,sl none 0 0,sl none 0 0]) z z z z) (.inr fun _ _ h=>c_y (atp a4) h.2) ?_;rintro _ _ ⟨bB,bC⟩;have a5:=bC.one;refine dQ z z z<|dQ z z z<|pD ?_
    have aJ:=mnr<|b_.lt aF
    have aK:=mnr<|b_.lt aG
    exact fun _ q=>⟨rp.number,rp.bytes,rp.items,bp,bq,som bi,az,aA,aB,bu,aC,aD,aE,bv,ax.z,q.k<|s5 z z z z z,bM (bup (bup (bup G s3) ay) a2) a5 a4,bw,(aF.e a2).c a5<|ds aJ,nl_ a1,k_ (al_ aH) a3,(aG.e a2).c a5<|ds aK,nr_ a1,k_ (ar_ aH) a3,ds<|nj a1,bx,bz,bB,atp a4,ds aJ,ds aK⟩
   refine dE z z (fa a_a) (.inr fun _ _ h=>F_<|h.2.below) ?_;rintro _ bD ⟨rfl,aL⟩;have hk:=aL.below;have a6:Blk bD au.z [vI 0,sl none 0 0,sl none 0 0]:=aL.blk;have aM:=(hy.e s3).e hk;obtain ⟨rq,bE,bF,bG,bj⟩:=L_ al;refine dE z z (fc call55 z<|i_L bG (zt' W<|lt_ (lt_ hz s3.s) hk.s) (((((hG.e h2).e h1).e G).e s3).e hk) (V.g aM) av (Y.g aM)<|ii z) (.inr fun _ _ h=>F_<|h.1) ?_;rintro _ _ ⟨aN,aO,aP,aQ,bH,aR,aS,aT,bI,rfl,bJ,bK,bL,bN,bO,a7,ht⟩;refine dM z z z ?_
   iterate 3 refine dR z z (ext_ z z) ?_
   have aU:=lt_ G.s s3.s;have a8:=m1 aU;refine dE0 z (fs0 (cur':=[vI rq.number,sl aO aP aQ,sl aR aS aT]) i_ z z (a6.e aN) z z z z) (.inr fun _ _ h=>c_y (atp a8) h.2) ?_;rintro _ _ ⟨bQ,bR⟩;have a9:=bR.one;refine dQ z z z<|dQ z z z<|pD ?_
   have aV:=p_ (al_ ht) a6.lt lr;have aW:=lt_ aU hk.s;have aX:=p_ (ar_ ht) a6.lt lr;exact fun _ q=>⟨rq.number,rq.bytes,rq.items,bE,bF,som bj,aO,aP,aQ,bH,aR,aS,aT,bI,au.z,q.k<|s5 z z z z z,bM (bup (bup (bup G s3) hk) aN) a9 a8,bJ,bK.c a9 aV,nl_ a7,k_ (al_ ht) aW,bL.c a9 aX,nr_ a7,k_ (ar_ ht) aW,ds<|nj a7,bN,bO,bQ,atp a8,aV,aX⟩
  refine dE z z (fa a_a) (.inr fun _ _ h=>F_<|h.2.below) ?_;rintro _ bS ⟨rfl,aY⟩;have hl:=aY.below;have aa:Blk bS aq.z [vI 0,sl none 0 0,sl none 0 0]:=aY.blk;have aZ:=(((h2.ag B).e h1).e G).e hl;have b0:=lt_ (lt_ (lt_ h2.s h1.s) G.s) hl.s;obtain ⟨_,bT,bk⟩:=bdS ak;refine dE z z (fc call29 z<|e_c bT (zt' W b0)<|V.g aZ) (.inr fun _ _ h=>F_<|h.1) ?_;rintro _ _ ⟨s6,rfl,bU⟩;have b1:=aZ.e s6;obtain ⟨rr,bV,bW,bX,bm⟩:=L_ bk;refine dE z z (fc call55 z<|i_L bX (zt' W<|lt_ b0 s6.s) (((((hG.e h2).e h1).e G).e hl).e s6) (V.g b1) bU (Y.g b1)<|ii z) (.inr fun _ _ h=>F_<|h.1) ?_;rintro _ _ ⟨b2,b3,b4,b5,bY,b6,b7,b8,bZ,rfl,c0,c1,c2,c3,c4,ab,hu⟩;refine dM z z z ?_
  iterate 3 refine dR z z (ext_ z z) ?_
  have ad:=m1 G.s;refine dE0 z (fs0 (cur':=[vI rr.number,sl b3 b4 b5,sl b6 b7 b8]) i_ z z ((aa.e s6).e b2) z z z z) (.inr fun _ _ h=>c_y (atp ad) h.2) ?_;rintro _ _ ⟨c5,c6⟩;have af:=c6.one;refine dQ z z z<|dQ z z z<|pD ?_
  have b9:=p_ (al_ hu) aa.lt s6.s;have ba:=lt_ (lt_ G.s hl.s) s6.s;have bb:=p_ (ar_ hu) aa.lt s6.s;exact fun _ q=>⟨rr.number,rr.bytes,rr.items,bV,bW,som bm,b3,b4,b5,bY,b6,b7,b8,bZ,aq.z,q.k<|s5 z z z z z,bM (bup (bup (bup G hl) s6) b2) af ad,c0,c1.c af b9,nl_ ab,k_ (al_ hu) ba,c2.c af bb,nr_ ab,k_ (ar_ hu) ba,ds<|nj ab,c3,c4,c5,atp ad,b9,bb⟩
 rintro c7 ws ⟨xb,xw,xx,xc,xd,rfl,ae,nf,cg,J,ah,ni,cj,L,O,_,sm,c8,c9,ca,bc,cb,cc,be,cd,bf,ce,cf,_,_,_⟩;revert c7;refine Wo<|Wq<|Wq ?_
 obtain ⟨ch,am,an⟩:=bdS<|un5S bh;refine Wt (fun a w=>∃(ai:Bool),ai=ch/\Sat 32 [(4,pt wn.z),(7,pt O),(8,vI xc),(9,vI xd),(26,vB ai)] a/\Below ws.z ws w) ?_ ?_
 ·refine Wg<|Rm z<|Rq z z z<|Rm z ?_
  rcases bs (xd==0) with H | H
  ·exact Rh z H (mv z)<|Rh z H (mv z)<|Rh z H (lnR l_ z<|Y.g<|((h2.ag B).e h1).e sm)<|Rh z H (lss z z)<|R z (pT z H z)<|Wl (fun _ q=>⟨decide<|xc<(x2.length:Int),som<|ifT am H,q.k<|s5 z z z z z,br ws⟩)
  iterate 4 refine Nh z H ?_
  exact R z (pF z H z)<|Wl (fun _ q=>⟨false,som<|ifF am H,q.k<|s5 z z z z z,br ws⟩)
 rintro ci _ ⟨ai,rfl,_,sa⟩;revert ci;refine Wo<|Wc z (fun a0=>?_) (fun a0=>?_)
 ·refine Ws<|R z (bP (parts:=[]) (cs:=[vI 0,sl none 0 0,sl none 0 0]) U_ z z)<|Rm z<|E0 (fs0 (cur':=[vI 0,sl none 0 0,sl none 0 0]) i_ z z ((ho.e sm).e sa) z z z z) ?_
  rintro _ _ ⟨ck,cl⟩;refine Ra z<|Rw z ?_
  obtain rfl:=som<|ifT an a0;exact Wr<|A_ hr (o_ z_ i_ z ck z) z z ⟨bM (bup (bup (bup h2 h1) sm) sa) cl.one<|m1 h2.s,none,0,0,[],none,0,0,[],z,ii z,onL,onL,bf,ii z,nd0,al0⟩
 refine Wk<|Ws<|R z (lN (vs:=[vI xb,sl ae nf cg,sl ah ni cj]) z_ i_ z z fid<|(cf.e sa).row 0 3 z)<|RM z z<|E0 (fs0 (cur':=[vI xb,sl ae nf cg,sl ah ni cj]) i_ z z ((ho.e sm).e sa) z z z z) ?_
 rintro _ _ ⟨cm,cn⟩;have aj:=cn.one;refine Ra z<|Rw z ?_
 obtain rfl:=som<|ifF an a0;have bg:=lt_ h2.s h1.s;exact Wr<|A_ hr (o_ z_ i_ z cm z) z z ⟨bM (bup (bup (bup h2 h1) sm) sa) aj<|m1 h2.s,ae,nf,cg,J,ah,ni,cj,L,z,c8,(c9.e sa).c aj<|p_ bc ho.lt lr,(cb.e sa).c aj<|p_ be ho.lt lr,bf,ce,na_ ca cc<|ds cd,aa_ (k_ bc bg)<|k_ be bg⟩
theorem W_w32 {x1:g_}{x2:List UInt8}{res:Bool}(hm:e_I n x1 x2=some res)(I:B<=w0.z)(hG:Gl w0 B)(G:repS w0 B (sl A0 N0 C0) x1.rules)(H:repS w0 B (sl A6 N6 C6) x2):j_ prog 22 [(.agg #[sl A0 N0 C0]),sl A6 N6 C6] w0 (Q7 w0 B res):=by
 unfold e_I at hm
 refine goG func22 z z z fun fn hr=>Ws<|E z (fb z) ?_
 rintro _ L ⟨rfl,h1⟩;have h:=h1.below;refine Rw z<|Ws<|R z (lN (vs:=[sl A0 N0 C0]) D_ C_ z z fid<|(h1.blk:Blk L w0.z [sl A0 N0 C0]).row 0 1 z)<|Rm z ?_
 obtain ⟨O,_,_,V,J⟩:=L_ hm;refine E z (fc call33 z<|W_w31 V (zt' I h.s) (hG.e h) (G.e h)<|H.e h) ?_;rintro _ W ⟨s2,aa,nb,cc,_,ad,ne,cf,_,rfl,_,_,_,_,_,_,_⟩;refine Rm z ?_
 iterate 3 refine Re z z z ?_
 refine E z (fa a_a) ?_;rintro _ wg ⟨rfl,h3⟩;refine E0 (fs0 (cur':=[vI O.number,sl aa nb cc,sl ad ne cf]) i_ z z (h3.blk:Blk wg W.z [vI 0,sl none 0 0,sl none 0 0]) z z z z) ?_;rintro _ _ ⟨_,si⟩;refine Ra z<|Rw z<|Wm z<|Rq z z z<|Rw z ?_
 obtain rfl:=som J;exact Wr<|e_ hr z ⟨bM (bup (bup h s2) h3.below) si.one<|m1<|lt_ h.s s2.s,z⟩
theorem W_w1l {x1:g_}{x2:List UInt8}{res:(List UInt8)×Bool}(hm:d_I n x1 x2=some res)(I:B<=w0.z)(hG:Gl w0 B)(J:repS w0 B (sl A0 N0 C0) x1.rules)(a2:repS w0 B (sl A6 N6 C6) x2):j_ prog 8 [(.agg #[sl A0 N0 C0]),sl A6 N6 C6] w0 (Q13 w0 B res):=by
 unfold d_I at hm
 refine goG func8 z z z fun fn hr=>Ws<|E z (fb z) ?_
 rintro _ wu ⟨rfl,a8⟩;have h4:=a8.below;have hb:Blk wu w0.z [sl A0 N0 C0]:=a8.blk;refine Ra z<|Rw z<|Ws<|E z (f0 (α:=UInt8) a_C) ?_
 rintro _ _ ⟨_,_,_,rfl,s7,aU⟩;refine Rm z ?_;obtain ⟨_,aV,aG⟩:=bdS hm;have hv:=(h4.ag B).e s7;refine E z (fN (α:=UInt8) a_C aV z z aU a_X<|a2.g hv) ?_;rintro _ H ⟨G,ad,ne,cf,rfl,s8,aW,aX,hg⟩;refine Rw z<|Wq<|Wm z<|Wn ?_
 obtain ⟨_,aH,a3⟩:=bdS aG;refine Wf (σ:=List UInt8) (ρ:=(List UInt8)×Bool) (fun (kw:Nat)(xh:List UInt8) a w=>∃(S2:List Nat),Sat 51 [(1,sl A6 N6 C6),(2,pt w0.z),(6,sl ad ne cf),(14,vI ((kw:Nat):Int))] a/\Chg (· ∈ G) H w/\b_ w S2 (sl ad ne cf) xh/\S2.Nodup/\(∀k∈S2,k∈G∨H.z<=k)) (fun (xh:List UInt8) a w=>∃(S2:List Nat),Sat 51 [(1,sl A6 N6 C6),(2,pt w0.z),(6,sl ad ne cf)] a/\Chg (· ∈ G) H w/\b_ w S2 (sl ad ne cf) xh/\S2.Nodup/\(∀k∈S2,k∈G∨H.z<=k)) (rQ prog fn<|Q13 w0 B) aH ?_ ?_ ?_ ?_ ?_
 ·exact fun _ q=>⟨G,q.k<|s4 z z z z,cr G H,aW,aX,io sr⟩
 ·rintro kw xh _ wl _ a4 ⟨S2,aI,s9,h3,hi,hj⟩ aJ;refine Wu ?_ aI;refine Ws<|Rl z z z<|Wn<|Wq<|Wc z (fun _=>?_) (fun hc=>(e_V a4 hc).elim)
  refine Wk<|Wq<|Wb<|Ws ?_
  have a9:=mmr hb.lt;have aa:=((hb.e s7).c s8<|djs a9).c s9<|djs (or1 hg a9 (a_x (f_ hb.lt) s7.s):∀k∈G,k∉[w0.z])
  refine R z (lN (vs:=[sl A0 N0 C0]) D_ C_ z z fid<|aa.row 0 1 z)<|Rm z ?_
  have hx:∀k∈[wu.z],¬B k:=or0 (f_ lr)<|m_<|zt' I h4.s;have ab:=lt_ h4.s s7.s;have ae:∀k∈G,¬B k:=or1 hg hx<|m_<|zt' I ab;have af:=(hv.c s8<|c_ hx).c s9<|c_ ae
  have ah:=lt_ (lt_ ab s8.s) s9.s;have hy:=zt' I ah;obtain ⟨rr,aY,a5⟩:=bdS aJ;refine E z (fc call19 z<|W_w2o (B:=wl.z) aY zr (((((hG.e h4).e s7).c s8<|c_ hx).c s9<|c_ ae).mono hy) (repS.mono (J.g af) hy)<|b_.rep h3) ?_;rintro _ wc ⟨s5,rfl,_,_,aZ,_⟩;refine E z (fa i_g) ?_;rintro _ wz ⟨rfl,ai⟩;have h6:=ai.below;refine E0 (fs0 (cur':=[vI rr.code,vI rr.position,Str.v rr.path,vI rr.rule]) z_46 z z (ai.blk:Blk wz wc.z [vI 0,vI 0,Str.v (⟨[]⟩:Str),vI 0]) z z z z) ?_;rintro _ aj ⟨W,b0⟩;have ha:=b0.one;refine Wn<|Wq<|Ws<|Rf z f_46_0 z<|R z (l0 g_3 z<|W.at z)<|R z (nq z z)<|Wx z (fun L=>?_) (fun L=>?_)
  ·have b1:∀k∈S2,k∈G∨H.z<=k:=or1 hj (io sr)<|x_ lr;exact We<|exO z (fun _ q=>b_u (som<|ifT a5 L).symm ⟨S2,q.k<|s3 z z z,(cM (d_ (d_ (cM (cr G H) s9 (io sr):Chg (· ∈ G) H wl) s5:Chg (· ∈ G) H wc) h6:Chg (· ∈ G) H wz) ha (mor (lt_ s9.s s5.s):∀k∈[wc.z],k∈G∨H.z<=k):Chg (· ∈ G) H aj),((h3.e s5).e h6).c ha<|ds<|mno (b_.lt h3) s5.s,hi,b1⟩)
  refine Wk<|Ws<|Rw z<|Wq<|Ws<|R z (lN (vs:=[sl A0 N0 C0]) D_ C_ z z fid<|(((aa.e s5).e h6).c ha<|djs<|mm1 hb.lt<|lt_ (lt_ (lt_ s7.s s8.s) s9.s) s5.s).row 0 1 z)<|Rm z<|Rf z j_T z<|R z (l0 g_9 z<|W.at z) ?_
  have ak:=((h3.e s5).e h6).c ha<|ds<|mno (b_.lt h3) s5.s
  have al:=lt_ (lt_ s5.s h6.s) ha.s;obtain ⟨b2,_,b3,aK⟩:=W_<|ifF a5 L;refine E z (fc call20 z<|W_w2z (B:=wl.z) b3 (a_E al) (repS.mono (J.g<|((af.e s5).e h6).c ha<|c_ (or0 (f_ lr) (m_<|zt' I<|lt_ ah s5.s):∀k∈[wc.z],¬B k)) hy) (or_ ak<|b_.lt h3) aZ) ?_;rintro _ wm ⟨sn,rfl,b4⟩;refine Rm z<|Re z z z<|Re z z z<|Ra z<|Rw z<|Wm z<|Wn ?_
  obtain ⟨b5,a6,aL⟩:=bdS aK;refine Wt (fun a w=>∃(xs:Int),xs=b5/\Sat 51 [(1,sl A6 N6 C6),(2,pt w0.z),(6,sl ad ne cf),(7,pt wc.z),(8,vI xs),(14,vI ((kw:Nat):Int))] a/\Below wm.z wm w/\inI xs) ?_ ?_
  ·refine Wc z (fun O=>?_)<|fun O=>?_
   ·exact Wg<|Rm z<|Ra z<|Wl (fun _ q=>⟨b2,som<|ifT a6 O,q.k<|s6 z z z z z z,br wm,b4⟩)
   exact a_q<|fun _ q=>⟨0,som<|ifF a6 O,q.k<|s6 z z z z z z,br wm,ii z⟩
  rintro b6 b7 ⟨xs,rfl,_,so,_⟩;revert b6;refine Wo (Wd (X:=noX) 2048 (pl_ 12 [8,11]) mo (by kernel_rfl) fun b8 sp _=>dM z z z<|dR z z (fd j_S z) ?_);have am:=((W.e sn).e so).e sp;refine dR z z (l0 g_3 z<|am.at z)<|dM z z z<|dM z z z<|dR z z (fd j_S z)<|dR z z (l0 g_3 z<|am.at z) ?_
  obtain ⟨_,b9,aM⟩:=bdS aL;have an:=((ak.e sn).e so).e sp;refine dRX z z (rX l_ z_5 z z (or_ an<|b_.lt h3) z z b9) ?_;rintro _ ⟨_,_,_,rfl,ba⟩;obtain ⟨_,bb,aN⟩:=bdS aM;refine dE z z (fc call21 z<|i_v (B:=wl.z) bb (a_E<|lt_ (lt_ (lt_ al sn.s) so.s) sp.s) ba) (.inr fun _ _ h=>F_<|h.1) ?_;rintro _ bc ⟨Y,rfl,_⟩;refine dR z z (e_6 d_3 d_5 z) ?_;obtain ⟨be,ao,aO⟩:=bdS aN;have ap:=an.e Y;refine dRX z z (b_P (α:=UInt8) l_ z_5 z z ap ao) ?_;rintro _ ⟨_,bf,rfl⟩;refine dE0 z (b_Q (α:=UInt8) z_5 z bf z z z ao ap hi c_d an_ a_f) (.inl z) ?_;rintro _ bg ⟨aq,bh,bi,bj,bk⟩;refine pD<|Wo<|Wg<|R z (inc_ a4 (tl_<|ii z) z z)<|Rm z<|Wl ?_
  have ar:=lt_ s9.s s5.s;have au:∀k∈S2,k∈G∨H.z<=k:=or1 hj (io sr)<|x_ lr;exact fun _ q=>⟨be,(som aO).symm,⟨aq,q.k<|s4 z z z z,(cM (d_ (d_ (d_ (d_ (cM (d_ (d_ (cM (cr G H) s9 (io sr):Chg (· ∈ G) H wl) s5:Chg (· ∈ G) H wc) h6:Chg (· ∈ G) H wz) ha (mor ar:∀k∈[wc.z],k∈G∨H.z<=k):Chg (· ∈ G) H aj) sn:Chg (· ∈ G) H wm) so:Chg (· ∈ G) H b7) sp:Chg (· ∈ G) H b8) Y:Chg (· ∈ G) H bc) bh au:Chg (· ∈ G) H bg),bi,bj,(or2 bk au an_ (x_<|lt_ (lt_ (lt_ (lt_ (lt_ (lt_ ar h6.s) ha.s) sn.s) so.s) sp.s) Y.s):∀k∈aq,k∈G∨H.z<=k)⟩⟩
 ·rintro xh _ bm ⟨S2,aP,bn,h3,hi,hj⟩;refine Wu ?_ aP;refine Ws<|Rl z z z<|Wn<|Wq<|Wc z (fun hc=>(e_W hc).elim) (fun _=>?_)
  exact We<|fun _ q=>⟨rfl,⟨S2,q.k<|s3 z z z,(cM (cr G H) bn (io sr):Chg (· ∈ G) H bm),h3,hi,(or1 hj (io sr) (x_ lr):∀k∈S2,k∈G∨H.z<=k)⟩⟩
 ·rintro xh bo bp rfl ⟨S2,_,sk,h3,hi,hj⟩;have aQ:=elL a3;revert bo;refine Wo<|Wq<|Ws ?_
  have av:=mmr hb.lt;refine R z (lN (vs:=[sl A0 N0 C0]) D_ C_ z z fid<|(((hb.e s7).c s8<|djs av).c sk<|djs (or1 hg av (a_x (f_ hb.lt) s7.s):∀k∈G,k∉[w0.z])).row 0 1 z)<|Rm z ?_
  have a0:∀k∈[wu.z],¬B k:=or0 (f_ lr)<|m_<|zt' I h4.s;have ht:=lt_ h4.s s7.s;have aw:∀k∈G,¬B k:=or1 hg a0<|m_<|zt' I ht;have ax:=(hv.c s8<|c_ a0).c sk<|c_ aw
  have ay:=lt_ ht s8.s;have az:=lt_ ay sk.s;have aA:=zt' I az;obtain ⟨_,bq,a7⟩:=bdS aQ;refine E z (fc call22 z<|W_w32 (B:=bp.z) bq zr (((((hG.e h4).e s7).c s8<|c_ a0).c sk<|c_ aw).mono aA) (repS.mono (J.g ax) aA)<|b_.rep h3) ?_;rintro _ _ ⟨sq,rfl⟩;refine Wx z (fun V=>?_) (fun V=>?_)
  ·refine Wm z<|Ra z<|Rw z ?_
   obtain rfl:=som<|ifT a7 V;have aB:=m1 h4.s;have aC:=a_Q hg aB ht;exact Wr<|a_o hr z z ⟨bup (bM (bM (bup h4 s7) s8 aB) sk aC) sq,ad,ne,cf,S2,z,h3.e sq,hi,a_Q hj aC ay⟩
  refine Wk<|Ws<|E z (f0 (α:=UInt8) a_C) ?_
  rintro _ _ ⟨_,_,_,rfl,a1,bs⟩;refine Rm z ?_;obtain ⟨_,bt,aR⟩:=bdS<|ifF a7 V;refine E z (fN (α:=UInt8) a_C bt z z bs a_X<|a2.g<|(ax.e sq).e a1) ?_;rintro _ _ ⟨bu,bv,bw,bx,rfl,bz,bA,bB,bC⟩;refine Ra z<|Rw z ?_
  obtain rfl:=som aR;have aD:=m1 h4.s;have aE:=lt_ az sq.s;have aF:=m1 aE;exact Wr<|a_o hr z z ⟨bM (bup (bup (bM (bM (bup h4 s7) s8 aD) sk<|a_Q hg aD ht) sq) a1) bz aF,bv,bw,bx,bu,z,bA,bB,a_Q bC aF<|lt_ aE a1.s⟩
 rintro _ _ _ _ rfl ⟨rfl,aS⟩;have aT:=elR a3;obtain rfl:=som aT;exact ⟨aS,z⟩
theorem f_3 {x1:List UInt8}{x2:List UInt8}{res:Bool}(hm:c_T x1 x2=some res)(Y:B<=w0.z)(h:repS w0 B (sl A0 N0 C0) x1)(J:repS w0 B (sl A6 N6 C6) x2):j_ prog 9 [sl A0 N0 C0,sl A6 N6 C6] w0 (Q7 w0 B res):=by
 unfold c_T at hm
 refine goG func9 z z z fun fn hr=>Ws<|Rw z<|Wq<|Wm z<|R z (lnR l_ z h)<|Rm z<|R z (lnR l_ z J)<|R z (nq z z)<|Wx z (fun H=>?_) (fun H=>?_)
 ·refine Ws<|Rw z ?_
  obtain rfl:=som<|ifT hm H;exact Wr<|e_ hr z ⟨br w0,z⟩
 refine Wk<|Wq<|Ws<|Rw z ?_
 obtain ⟨_,hua,L⟩:=bdS<|ifF hm H;refine Wf (σ:=Unit) (ρ:=Bool) (fun (k5:Nat)(_:Unit) a w=>Sat 26 [(0,sl A0 N0 C0),(1,sl A6 N6 C6),(5,vI ((k5:Nat):Int))] a/\Below w0.z w0 w) (fun (_:Unit) a w=>Sat 26 [] a/\Below w0.z w0 w) (rQ prog fn<|Q7 w0 B) hua ?_ ?_ ?_ ?_ ?_
 ·exact fun _ q=>⟨q.k<|s3 z z z,br w0⟩
 ·rintro k5 _ _ _ _ O ⟨hSb,G⟩ hmc;refine Wu ?_ hSb;refine Wq<|Wm z<|Rm z<|R z (lnR l_ z<|h.e G)<|Rl z z z<|Wx z (fun _=>?_) (fun hc=>(X_ O hc).elim)
  refine Wk<|Wq<|Wb<|Wq (Wd (X:=noX) 0 (pl_ 9 []) mo (by kernel_rfl) fun wu s2 _=>dM z z z<|dM z z z ?_)
  obtain ⟨_,ed,hme⟩:=bdS hmc;have W:=(G.ag B).e s2;refine dRX z z (at_ (α:=UInt8) l_ z_5 z z z (h.g W) ed) ?_;rintro _ ⟨_,_,_,rfl,hf,hg,_⟩;obtain rfl:=u8 hg;refine dR z z (l0 g_5 z<|hf.at0 z)<|dM z z z<|dM z z z ?_
  obtain ⟨_,eh,V⟩:=bdS hme;refine dRX z z (at_ (α:=UInt8) l_ z_5 z z z (J.g W) eh) ?_;rintro _ ⟨_,_,_,rfl,hi,hj,_⟩;obtain rfl:=u8 hj;refine dR z z (l0 g_5 z<|hi.at0 z)<|dR z z (nq z z)<|pD<|Wo<|Wc z (fun I=>?_) (fun I=>?_)
  ·exact Ws<|Rw z<|Wr<|rtO<|qL (som<|ifT V I).symm<|e_ hr z ⟨bup G s2,z⟩
  exact Wk<|Wg<|Rm z<|R z (inc_ O (lt_ (repS.len h) H_) z z)<|Ra z<|Wl (fun _ q=>⟨(),(som<|ifF V I).symm,⟨q.k<|s3 z z z,bup G s2⟩⟩)
 ·rintro _ _ _ ⟨hSk,s9⟩;refine Wu ?_ hSk;refine Wq<|Wm z<|Rm z<|R z (lnR l_ z<|h.e s9)<|Rl z z z<|Wx z (fun hc=>(Y_ hc).elim) (fun _=>?_)
  exact We<|fun _ q=>⟨rfl,⟨q.k sn,s9⟩⟩
 ·rintro _ al _ rfl ⟨_,sm⟩;have hmn:=elL L;revert al;refine Wo<|Ws<|Rw z ?_
  obtain rfl:=som hmn;exact Wr<|e_ hr z ⟨sm,z⟩
 rintro _ _ _ _ rfl ⟨rfl,hqo⟩;have hmp:=elR L;obtain rfl:=som hmp;exact ⟨hqo,z⟩
theorem W_w33 {x1:List Str}{x2:List Str}{res:Bool}(hm:g_e x1 x2=some res)(Y:B<=w0.z)(h:repS w0 B (sl A0 N0 C0) x1)(J:repS w0 B (sl A6 N6 C6) x2):j_ prog 56 [sl A0 N0 C0,sl A6 N6 C6] w0 (Q7 w0 B res):=by
 unfold g_e at hm
 refine goG func56 z z z fun fn hr=>Ws<|Rw z<|Wq<|Wm z<|R z (lnR a_0 z h)<|Rm z<|R z (lnR a_0 z J)<|R z (nq z z)<|Wx z (fun H=>?_) (fun H=>?_)
 ·refine Ws<|Rw z ?_
  obtain rfl:=som<|ifT hm H;exact Wr<|e_ hr z ⟨br w0,z⟩
 refine Wk<|Wq<|Ws<|Rw z ?_
 obtain ⟨_,hua,L⟩:=bdS<|ifF hm H;refine Wf (σ:=Unit) (ρ:=Bool) (fun (k5:Nat)(_:Unit) a w=>Sat 26 [(0,sl A0 N0 C0),(1,sl A6 N6 C6),(5,vI ((k5:Nat):Int))] a/\Below w0.z w0 w) (fun (_:Unit) a w=>Sat 26 [] a/\Below w0.z w0 w) (rQ prog fn<|Q7 w0 B) hua ?_ ?_ ?_ ?_ ?_
 ·exact fun _ q=>⟨q.k<|s3 z z z,br w0⟩
 ·rintro k5 _ _ _ _ O ⟨hSb,G⟩ hmc;refine Wu ?_ hSb;refine Wq<|Wm z<|Rm z<|R z (lnR a_0 z<|h.e G)<|Rl z z z<|Wx z (fun _=>?_) (fun hc=>(X_ O hc).elim)
  refine Wk<|Wq<|Wb<|Wq (Wd (X:=noX) 0 (pl_ 9 []) mo (by kernel_rfl) fun wu s2 _=>dM z z z<|dM z z z ?_)
  obtain ⟨_,ed,hme⟩:=bdS hmc;have W:=(G.ag B).e s2;refine dRX z z (at_ (α:=Str) a_0 z_9 z z z (h.g W) ed) ?_;rintro _ ⟨_,_,_,rfl,hf,hg,_⟩;obtain ⟨rfl,_⟩:=b_s hg;refine dR z z (l0 g_9 z<|hf.at0 z)<|dM z z z<|dM z z z ?_
  obtain ⟨_,eh,V⟩:=bdS hme;refine dRX z z (at_ (α:=Str) a_0 z_9 z z z (J.g W) eh) ?_;rintro _ ⟨_,_,_,rfl,hi,hj,_⟩;obtain ⟨rfl,_⟩:=b_s hj;refine dR z z (l0 g_9 z<|hi.at0 z)<|dR z z (k_f z z)<|pD<|Wo<|Wc z (fun I=>?_) (fun I=>?_)
  ·exact Ws<|Rw z<|Wr<|rtO<|qL (som<|ifT V I).symm<|e_ hr z ⟨bup G s2,z⟩
  exact Wk<|Wg<|Rm z<|R z (inc_ O (lt_ (repS.len h) H_) z z)<|Ra z<|Wl (fun _ q=>⟨(),(som<|ifF V I).symm,⟨q.k<|s3 z z z,bup G s2⟩⟩)
 ·rintro _ _ _ ⟨hSk,s9⟩;refine Wu ?_ hSk;refine Wq<|Wm z<|Rm z<|R z (lnR a_0 z<|h.e s9)<|Rl z z z<|Wx z (fun hc=>(Y_ hc).elim) (fun _=>?_)
  exact We<|fun _ q=>⟨rfl,⟨q.k sn,s9⟩⟩
 ·rintro _ al _ rfl ⟨_,sm⟩;have hmn:=elL L;revert al;refine Wo<|Ws<|Rw z ?_
  obtain rfl:=som hmn;exact Wr<|e_ hr z ⟨sm,z⟩
 rintro _ _ _ _ rfl ⟨rfl,hqo⟩;have hmp:=elR L;obtain rfl:=som hmp;exact ⟨hqo,z⟩
theorem W_w1m {x1:List Int}{x2:List Int}{res:Bool}(hm:e_J x1 x2=some res)(Y:B<=w0.z)(h:repS w0 B (sl A0 N0 C0) x1)(J:repS w0 B (sl A6 N6 C6) x2):j_ prog 57 [sl A0 N0 C0,sl A6 N6 C6] w0 (Q7 w0 B res):=by
 unfold e_J at hm
 refine goG func57 z z z fun fn hr=>Ws<|Rw z<|Wq<|Wm z<|R z (lnR r_ z h)<|Rm z<|R z (lnR r_ z J)<|R z (nq z z)<|Wx z (fun H=>?_) (fun H=>?_)
 ·refine Ws<|Rw z ?_
  obtain rfl:=som<|ifT hm H;exact Wr<|e_ hr z ⟨br w0,z⟩
 refine Wk<|Wq<|Ws<|Rw z ?_
 obtain ⟨_,hua,L⟩:=bdS<|ifF hm H;refine Wf (σ:=Unit) (ρ:=Bool) (fun (k5:Nat)(_:Unit) a w=>Sat 26 [(0,sl A0 N0 C0),(1,sl A6 N6 C6),(5,vI ((k5:Nat):Int))] a/\Below w0.z w0 w) (fun (_:Unit) a w=>Sat 26 [] a/\Below w0.z w0 w) (rQ prog fn<|Q7 w0 B) hua ?_ ?_ ?_ ?_ ?_
 ·exact fun _ q=>⟨q.k<|s3 z z z,br w0⟩
 ·rintro k5 _ _ _ _ O ⟨hSb,G⟩ hmc;refine Wu ?_ hSb;refine Wq<|Wm z<|Rm z<|R z (lnR r_ z<|h.e G)<|Rl z z z<|Wx z (fun _=>?_) (fun hc=>(X_ O hc).elim)
  refine Wk<|Wq<|Wb<|Wq (Wd (X:=noX) 0 (pl_ 9 []) mo (by kernel_rfl) fun wu s2 _=>dM z z z<|dM z z z ?_)
  obtain ⟨_,ed,hme⟩:=bdS hmc;have W:=(G.ag B).e s2;refine dRX z z (at_ (α:=Int) r_ z_3 z z z (h.g W) ed) ?_;rintro _ ⟨_,_,_,rfl,hf,hg,_⟩;obtain ⟨rfl,_⟩:=O_ hg;refine dR z z (l0 g_3 z<|hf.at0 z)<|dM z z z<|dM z z z ?_
  obtain ⟨_,eh,V⟩:=bdS hme;refine dRX z z (at_ (α:=Int) r_ z_3 z z z (J.g W) eh) ?_;rintro _ ⟨_,_,_,rfl,hi,hj,_⟩;obtain ⟨rfl,_⟩:=O_ hj;refine dR z z (l0 g_3 z<|hi.at0 z)<|dR z z (nq z z)<|pD<|Wo<|Wc z (fun I=>?_) (fun I=>?_)
  ·exact Ws<|Rw z<|Wr<|rtO<|qL (som<|ifT V I).symm<|e_ hr z ⟨bup G s2,z⟩
  exact Wk<|Wg<|Rm z<|R z (inc_ O (lt_ (repS.len h) H_) z z)<|Ra z<|Wl (fun _ q=>⟨(),(som<|ifF V I).symm,⟨q.k<|s3 z z z,bup G s2⟩⟩)
 ·rintro _ _ _ ⟨hSk,s9⟩;refine Wu ?_ hSk;refine Wq<|Wm z<|Rm z<|R z (lnR r_ z<|h.e s9)<|Rl z z z<|Wx z (fun hc=>(Y_ hc).elim) (fun _=>?_)
  exact We<|fun _ q=>⟨rfl,⟨q.k sn,s9⟩⟩
 ·rintro _ al _ rfl ⟨_,sm⟩;have hmn:=elL L;revert al;refine Wo<|Ws<|Rw z ?_
  obtain rfl:=som hmn;exact Wr<|e_ hr z ⟨sm,z⟩
 rintro _ _ _ _ rfl ⟨rfl,hqo⟩;have hmp:=elR L;obtain rfl:=som hmp;exact ⟨hqo,z⟩
theorem W_w34 {x1:a_}{x2:a_}{res:Bool}(hm:g_f x1 x2=some res)(G:B<=w0.z)(a9:x1.name.b.length<=LEN)(aa:inI x1.kind)(ab:inI x1.size)(O:repS w0 B (sl A9 N9 C9) x1.bytes)(V:repS w0 B (sl A8 N8 C8) x1.names)(W:repS w0 B (sl AA NA CA) x1.tags)(Y:repS w0 B (sl AB NB CB) x1.kids)(ad:x2.name.b.length<=LEN)(ae:inI x2.kind)(af:inI x2.size)(a0:repS w0 B (sl A3 N3 C3) x2.bytes)(a1:repS w0 B (sl A4 N4 C4) x2.names)(a2:repS w0 B (sl A2 N2 C2) x2.tags)(a3:repS w0 B (sl A5 N5 C5) x2.kids):j_ prog 34 [(.agg #[Str.v x1.name,vI x1.kind,vI x1.size,vB x1.little,sl A9 N9 C9,sl A8 N8 C8,sl AA NA CA,sl AB NB CB]),(.agg #[Str.v x2.name,vI x2.kind,vI x2.size,vB x2.little,sl A3 N3 C3,sl A4 N4 C4,sl A2 N2 C2,sl A5 N5 C5])] w0 (Q7 w0 B res):=by
 unfold g_f at hm
 refine goG func34 z z z fun fn hr=>Ws<|E z (fb z) ?_
 rintro _ wi ⟨rfl,hj⟩;have h1:=hj.below;refine E z (fb z) ?_;rintro _ a4 ⟨rfl,hk⟩;have h:=hk.below;have h5:Blk a4 wi.z (vR x2 A3 N3 C3 A4 N4 C4 A2 N2 C2 A5 N5 C5):=hk.blk;refine Rw z<|Wq<|Ws<|Rf z c_g z ?_
 have h6:=(hj.blk:Blk wi w0.z (vR x1 A9 N9 C9 A8 N8 C8 AA NA CA AB NB CB)).e h;refine R z (l0 g_9 z<|h6.at z)<|Rf z c_g z<|R z (l0 g_9 z<|h5.at z)<|R z (k_f z z)<|Wx z (fun H=>?_) (fun H=>?_)
 ·refine Ws<|Rw z ?_
  obtain rfl:=som<|ifT hm H;exact Wr<|e_ hr z ⟨bup h1 h,z⟩
 have hml:=ifF hm H;refine Wk<|Wq<|Ws<|Rf z a_s z<|R z (l0 g_3 z<|h6.at z)<|Rf z a_s z<|R z (l0 g_3 z<|h5.at z)<|R z (nq z z)<|Wx z (fun I=>?_) (fun I=>?_)
 ·refine Ws<|Rw z ?_
  obtain rfl:=som<|ifT hml I;exact Wr<|e_ hr z ⟨bup h1 h,z⟩
 have hmm:=ifF hml I;refine Wk<|Wq<|Ws<|Rf z a_z z<|R z (l0 g_3 z<|h6.at z)<|Rf z a_z z<|R z (l0 g_3 z<|h5.at z)<|R z (nq z z)<|Wx z (fun J=>?_) (fun J=>?_)
 ·refine Ws<|Rw z ?_
  obtain rfl:=som<|ifT hmm J;exact Wr<|e_ hr z ⟨bup h1 h,z⟩
 have hmn:=ifF hmm J;refine Wk<|Wq<|Ws<|Rf z b_D z<|R z (l0 g_4 z<|h6.at z)<|Rf z b_D z<|R z (l0 g_4 z<|h5.at z)<|R z (h_0 d_4 z z)<|Wx z (fun hca=>?_) (fun hca=>?_)
 ·refine Ws<|Rw z ?_
  obtain rfl:=som<|ifT hmn hca;exact Wr<|e_ hr z ⟨bup h1 h,z⟩
 refine Wk<|Wq<|Ws<|Rf z a_I z<|R z (l0 T_ z<|h6.at z)<|Rf z a_I z<|R z (l0 T_ z<|h5.at z) ?_
 have hb:=(h1.ag B).e h;have ho:=lt_ h1.s h.s;obtain ⟨_,a5,hmp⟩:=bdS<|ifF hmn hca;refine E z (fc call9 z<|f_3 a5 (zt' G ho) (O.g hb)<|a0.g hb) ?_;rintro _ _ ⟨s2,rfl⟩;refine R z (not_ z)<|Wx z (fun hcc=>?_) (fun hcc=>?_)
 ·refine Ws<|Rw z ?_
  obtain rfl:=som<|ifT hmp hcc;exact Wr<|e_ hr z ⟨bup (bup h1 h) s2,z⟩
 refine Wk<|Wq<|Ws<|Rf z b_m z ?_
 have hq:=h6.e s2;refine R z (l0 a_B z<|hq.at z)<|Rf z b_m z ?_
 have ht:=h5.e s2;refine R z (l0 a_B z<|ht.at z) ?_;have hd:=hb.e s2;have hu:=lt_ ho s2.s;obtain ⟨_,a6,hmr⟩:=bdS<|ifF hmp hcc;refine E z (fc call56 z<|W_w33 a6 (zt' G hu) (V.g hd)<|a1.g hd) ?_;rintro _ _ ⟨s3,rfl⟩;refine R z (not_ z)<|Wx z (fun hce=>?_) (fun hce=>?_)
 ·refine Ws<|Rw z ?_
  obtain rfl:=som<|ifT hmr hce;exact Wr<|e_ hr z ⟨bup (bup (bup h1 h) s2) s3,z⟩
 refine Wk<|Wq<|Ws<|Rf z a_D z ?_
 have hv:=hq.e s3;refine R z (l0 w_ z<|hv.at z)<|Rf z a_D z ?_
 have hw:=ht.e s3;refine R z (l0 w_ z<|hw.at z) ?_;have hf:=hd.e s3;have hx:=lt_ hu s3.s;obtain ⟨_,a7,hms⟩:=bdS<|ifF hmr hce;refine E z (fc call57 z<|W_w1m a7 (zt' G hx) (W.g hf)<|a2.g hf) ?_;rintro _ _ ⟨s4,rfl⟩;refine R z (not_ z)<|Wx z (fun hcg=>?_) (fun hcg=>?_)
 ·refine Ws<|Rw z ?_
  obtain rfl:=som<|ifT hms hcg;exact Wr<|e_ hr z ⟨bup (bup (bup (bup h1 h) s2) s3) s4,z⟩
 refine Wk<|Wq<|Ws<|Rf z M_ z<|R z (l0 w_ z<|(hv.e s4).at z)<|Rf z M_ z<|R z (l0 w_ z<|(hw.e s4).at z) ?_
 have hy:=hf.e s4;obtain ⟨_,a8,hmz⟩:=bdS<|ifF hms hcg;refine E z (fc call57 z<|W_w1m a8 (zt' G<|lt_ hx s4.s) (Y.g hy)<|a3.g hy) ?_;rintro _ _ ⟨L,rfl⟩;refine R z (not_ z)<|Wx z (fun hch=>?_) (fun hch=>?_)
 ·refine Ws<|Rw z ?_
  obtain rfl:=som<|ifT hmz hch;exact Wr<|e_ hr z ⟨bup (bup (bup (bup (bup h1 h) s2) s3) s4) L,z⟩
 refine Wk<|Ws<|Rw z ?_
 obtain rfl:=som<|ifF hmz hch;exact Wr<|e_ hr z ⟨bup (bup (bup (bup (bup h1 h) s2) s3) s4) L,z⟩
theorem W_w35 {x1:List a_}{x2:List a_}{res:Bool}(hm:h_y x1 x2=some res)(a5:B<=w0.z)(G:repS w0 B (sl A0 N0 C0) x1)(L:repS w0 B (sl A6 N6 C6) x2):j_ prog 23 [sl A0 N0 C0,sl A6 N6 C6] w0 (Q7 w0 B res):=by
 unfold h_y at hm
 refine goG func23 z z z fun fn hr=>Ws<|Rw z<|Wq<|Wm z<|R z (lnR Q_ z G)<|Rm z<|R z (lnR Q_ z L)<|R z (nq z z)<|Wx z (fun I=>?_) (fun I=>?_)
 ·refine Ws<|Rw z ?_
  obtain rfl:=som<|ifT hm I;exact Wr<|e_ hr z ⟨br w0,z⟩
 refine Wk<|Wq<|Ws<|Rw z ?_
 obtain ⟨_,hub,O⟩:=bdS<|ifF hm I;refine Wf (σ:=Unit) (ρ:=Bool) (fun (k5:Nat)(_:Unit) a w=>Sat 27 [(0,sl A0 N0 C0),(1,sl A6 N6 C6),(5,vI ((k5:Nat):Int))] a/\Below w0.z w0 w) (fun (_:Unit) a w=>Sat 27 [] a/\Below w0.z w0 w) (rQ prog fn<|Q7 w0 B) hub ?_ ?_ ?_ ?_ ?_
 ·exact fun _ q=>⟨q.k<|s3 z z z,br w0⟩
 ·rintro k5 _ _ _ _ V ⟨hSc,H⟩ hmd;refine Wu ?_ hSc;refine Wq<|Wm z<|Rm z<|R z (lnR Q_ z<|G.e H)<|Rl z z z<|Wx z (fun _=>?_) (fun hc=>(X_ V hc).elim)
  refine Wk<|Wq<|Wb<|Wq (Wd (X:=noX) 0 (pl_ 10 [8]) mo (by kernel_rfl) fun aG s1 _=>dM z z z<|dM z z z ?_)
  obtain ⟨xe,eg,hmf⟩:=bdS hmd;have Y:=(H.ag B).e s1;refine dRX z z (at_ (α:=a_) Q_ n_ z z z (G.g Y) eg) ?_;rintro _ ⟨_,_,_,rfl,hh,hi,_⟩;obtain ⟨aj,nk,cl,am,nn,co,ap,nr,cq,au,ns,ct,rfl,hv,hw,hx,hy,hz,a6,a7⟩:=a_y hi;refine dR z z (lN (vs:=vR xe aj nk cl am nn co ap nr cq au ns ct) G_ n_ z z fid hh)<|dM z z z<|dM z z z ?_
  obtain ⟨a8,a9,a0⟩:=bdS hmf;refine dRX z z (at_ (α:=a_) Q_ n_ z z z (L.g Y) a9) ?_;rintro _ ⟨_,_,_,rfl,aa,ab,_⟩;obtain ⟨ad,ae,af,ah,ai,ak,al,an,ao,aq,ar,av,rfl,aw,ax,ay,az,aA,aB,aC⟩:=a_y ab;refine dR z z (lN (vs:=vR a8 ad ae af ah ai ak al an ao aq ar av) G_ n_ z z fid aa) ?_;obtain ⟨_,aD,W⟩:=bdS a0;refine dE z z (fc call34 z<|W_w34 aD (zt' a5<|lt_ H.s s1.s) hv hw hx hy hz a6 a7 aw ax ay az aA aB aC) (.inr fun _ _ h=>F_<|h.1) ?_;rintro _ _ ⟨s9,rfl⟩;refine dR z z (not_ z)<|pD<|Wo<|Wc z (fun J=>?_) (fun J=>?_)
  ·exact Ws<|Rw z<|Wr<|rtO<|qL (som<|ifT W J).symm<|e_ hr z ⟨bup (bup H s1) s9,z⟩
  exact Wk<|Wg<|Rm z<|R z (inc_ V (lt_ (repS.len G) H_) z z)<|Ra z<|Wl (fun _ q=>⟨(),(som<|ifF W J).symm,⟨q.k<|s3 z z z,bup (bup H s1) s9⟩⟩)
 ·rintro _ _ _ ⟨a1,sa⟩;refine Wu ?_ a1;refine Wq<|Wm z<|Rm z<|R z (lnR Q_ z<|G.e sa)<|Rl z z z<|Wx z (fun hc=>(Y_ hc).elim) (fun _=>?_)
  exact We<|fun _ q=>⟨rfl,⟨q.k sn,sa⟩⟩
 ·rintro _ aE _ rfl ⟨_,aF⟩;have a2:=elL O;revert aE;refine Wo<|Ws<|Rw z ?_
  obtain rfl:=som a2;exact Wr<|e_ hr z ⟨aF,z⟩
 rintro _ _ _ _ rfl ⟨rfl,a3⟩;have a4:=elR O;obtain rfl:=som a4;exact ⟨a3,z⟩
theorem W_w36 {x1:g_}{x2:g_}{res:Bool}(hm:g_g x1 x2=some res)(O:B<=w0.z)(J:repS w0 B (sl A0 N0 C0) x1.rules)(L:repS w0 B (sl A6 N6 C6) x2.rules):j_ prog 10 [(.agg #[sl A0 N0 C0]),(.agg #[sl A6 N6 C6])] w0 (Q7 w0 B res):=by
 unfold g_g at hm
 refine goG func10 z z z fun fn hr=>Ws<|E z (fb z) ?_
 rintro _ I ⟨rfl,h4⟩;have h1:=h4.below;refine E z (fb z) ?_;rintro _ wa ⟨rfl,h5⟩;have h:=h5.below;refine Rw z<|Wq<|Ws<|Rf z a_9 z<|R z (l0 a_c z<|((h4.blk:Blk I w0.z [sl A0 N0 C0]).e h).at z)<|Rf z a_9 z<|R z (l0 a_c z<|(h5.blk:Blk wa I.z [sl A6 N6 C6]).at z) ?_
 have h6:=(h1.ag B).e h;obtain ⟨_,ec,H⟩:=bdS hm;refine E z (fc call23 z<|W_w35 ec (zt' O<|lt_ h1.s h.s) (J.g h6)<|L.g h6) ?_;rintro _ _ ⟨s8,rfl⟩;refine R z (not_ z)<|Wx z (fun G=>?_) (fun G=>?_)
 ·refine Ws<|Rw z ?_
  obtain rfl:=som<|ifT H G;exact Wr<|e_ hr z ⟨bup (bup h1 h) s8,z⟩
 refine Wk<|Ws<|Rw z ?_
 obtain rfl:=som<|ifF H G;exact Wr<|e_ hr z ⟨bup (bup h1 h) s8,z⟩
theorem W_w1n {x1:Int}{res:Str}(hm:c_U n x1=some res)(V:B<=w0.z)(O:inI x1):j_ prog 35 [vI x1] w0 (Q17 w0 B res):=by
 unfold c_U at hm
 refine goG func35 z z z fun fn hr=>Ws<|Rw z<|Wq<|Wm z<|R z (c_J z z)<|Wx z (fun h=>?_) (fun h=>?_)
 ·refine Ws<|Rw z ?_
  obtain rfl:=som<|ifT hm h;exact Wr<|e_ hr z ⟨br w0,z,lb z⟩
 refine Wk<|Ws<|Rw z<|Wq ?_
 obtain ⟨_,huc,H⟩:=bdS<|ifF hm h;refine c_F (σ:=Int×Str) (ρ:=Str) (fun s a w=>un2 (fun x0 x2=>Sat 20 [(0,vI x0),(3,Str.v x2)] a/\Below w0.z w0 w/\inI x0/\x2.b.length<=LEN) s) (fun s a w=>un2 (fun x0 x2=>Sat 20 [(3,Str.v x2)] a/\Below w0.z w0 w/\inI x0/\x2.b.length<=LEN) s) (rQ prog fn<|Q17 w0 B) huc ?_ ?_ ?_ ?_
 ·exact fun _ q=>⟨q.k<|s2 z z,br w0,O,lb z⟩
 ·rintro ⟨x0,x2⟩ _ wd _ ⟨hSe,s6,J,L⟩ hmf;have I:=a_H hmf;refine Wu ?_ hSe;refine Wq<|Wm z<|R z (a_b z z)<|Wx z (fun G=>?_) (fun G=>?_)
  ·refine Wk<|Wb<|Wm z<|R z (g_W z z (by decide))<|R z (add_ z z)<|R z (e_6 d_3 d_5 z)<|E z (fS [(.tmp 11)] a_C z z z (c_Z z) (lb z)<|lb z) ?_
   rintro _ wg ⟨rfl,h4⟩;have ht:Blk wg wd.z [(vU<|byteI<|mkB<|h_ 48<|b_8 x0 10)]:=h4.blk;refine R z (m_I l_ d_9 d_5 z_5 z<|b_.rep<|e_T h4 c_d)<|Rm z ?_
   obtain ⟨xh,ea,hmi⟩:=bdS<|ifT I G;exact R z (g_t z z ea)<|Rw z<|Wg<|Rm z<|R z (rd_quo z z (by decide))<|Ra z<|Wl (fun _ q=>⟨(d_b x0 10,xh),(som hmi).symm,⟨q.k<|s2 z z,bup s6 h4.below,m_o _ _,h_P ea⟩⟩)
  exact We<|fun _ q=>b_u (som<|ifF I G).symm ⟨q.k<|s1 z,s6,J,L⟩
 ·rintro ⟨x0,x2⟩ aj _ rfl ⟨_,sk,J,L⟩;have hml:=elL H;revert aj;refine Wo<|Wm z ?_
  obtain ⟨_,eb,hmn⟩:=bdS<|a_H hml;refine R z (g_t z z eb)<|Rw z ?_
  obtain rfl:=som hmn;exact Wr<|e_ hr z ⟨sk,z,h_P eb⟩
 rintro _ _ _ _ rfl ⟨rfl,hqo⟩;have hmp:=elR H;obtain rfl:=som hmp;exact ⟨hqo,z⟩
def Q33 (w0:World)(B:Zone)(A0:Option Addr)(N0 C0:Nat)(S1_0:List Nat)(r:Int×(List UInt8))(v:Value)(w':World):Prop:=Chg (· ∈ S1_0) w0 w'/\un2 (fun h G=>∃S1,(vI h)=v/\inI h/\b_ w' S1 (sl A0 N0 C0) G/\S1.Nodup/\(∀k∈S1,k∈S1_0∨w0.z<=k)) r
theorem i_M {x1:List UInt8}{S1_0:List Nat}{x2:Int}{res:Int×(List UInt8)}(hm:c_V n x1 x2=some res)(W:B<=w0.z)(I:b_ w0 S1_0 (sl A0 N0 C0) x1)(p1_0n:S1_0.Nodup)(p1_0g:∀k∈S1_0,¬B k)(J:inI x2):j_ prog 12 [sl A0 N0 C0,vI x2] w0 (Q33 w0 B A0 N0 C0 S1_0 res):=by
 unfold c_V at hm
 refine goG func12 z z z fun fn hr=>Ws<|Rw z<|Wq<|Ws<|Rw z ?_
 obtain ⟨_,huh,hma⟩:=bdS hm;refine c_F (σ:=(List UInt8)×Int×Int) (ρ:=Int×(List UInt8)) (fun s a w=>un3 (fun x5 x3 x4=>∃(h:List Nat),Sat 20 [(0,sl A0 N0 C0),(1,vI x3),(5,vI x4)] a/\Chg (· ∈ S1_0) w0 w/\b_ w h (sl A0 N0 C0) x5/\h.Nodup/\(∀k∈h,k∈S1_0∨w0.z<=k)/\inI x3/\inI x4) s) (fun s a w=>un3 (fun x5 x3 x4=>∃(h:List Nat),Sat 20 [(0,sl A0 N0 C0),(1,vI x3)] a/\Chg (· ∈ S1_0) w0 w/\b_ w h (sl A0 N0 C0) x5/\h.Nodup/\(∀k∈h,k∈S1_0∨w0.z<=k)/\inI x3/\inI x4) s) (rQ prog fn<|Q33 w0 B A0 N0 C0 S1_0) huh ?_ ?_ ?_ ?_
 ·exact fun _ q=>⟨S1_0,q.k<|s3 z z z,cr S1_0 w0,I,p1_0n,io sr,J,ii z⟩
 ·rintro ⟨x5,x3,x4⟩ _ wb _ ⟨h,hSi,s7,h1,h2,h6,H,hc⟩ hmj;have hmd:=b_C hmj;refine Wu ?_ hSi;refine Wq<|Wm z<|Rm z<|R z (lnR l_ z<|b_.rep h1)<|Rl z z z<|Wx z (fun G=>?_) (fun G=>?_)
  ·refine Wk<|Wq<|Wb<|Wm z<|RM z z<|R z (e_6 d_3 d_5 z) ?_
   obtain ⟨xk,ee,hml⟩:=bdS<|ifT hmd G;refine RX z (b_P (α:=UInt8) l_ z_5 z z h1 ee) ?_;rintro _ ⟨_,hn,rfl⟩;refine E0 (b_Q (α:=UInt8) z_5 z hn z z z ee h1 h2 c_d an_ a_f) ?_;rintro _ wm ⟨Sf,so,hp,hq,ht⟩;refine Wn<|Wg<|Rm z<|R z (add_ z z)<|Rw z<|Wg<|Rm z<|R z (add_ z z)<|Ra z<|Wl ?_
   have hg:∀k∈h,k∈S1_0∨w0.z<=k:=or1 h6 (io sr)<|x_ lr;exact fun _ q=>⟨(xk,h_ x3 1,h_ x4 1),(som hml).symm,⟨Sf,q.k<|s3 z z z,(cM (cM (cr S1_0 w0) s7 (io sr):Chg (· ∈ S1_0) w0 wb) so hg:Chg (· ∈ S1_0) w0 wm),hp,hq,(or2 ht hg an_ (x_ s7.s):∀k∈Sf,k∈S1_0∨w0.z<=k),iA _ _,iA _ _⟩⟩
  exact We<|fun _ q=>b_u (som<|ifF hmd G).symm ⟨h,q.k<|s2 z z,(cM (cr S1_0 w0) s7 (io sr):Chg (· ∈ S1_0) w0 wb),h1,h2,(or1 h6 (io sr) (x_ lr):∀k∈h,k∈S1_0∨w0.z<=k),H,hc⟩
 ·rintro ⟨x5,x3,x4⟩ ar ws rfl ⟨h,_,sz,h1,h2,h6,H,hc⟩;have L:=elL hma;revert ar;refine Wo<|Wm z<|Rw z ?_
  obtain rfl:=som<|b_C L;exact Wr<|e_ hr z ⟨(cM (cr S1_0 w0) sz (io sr):Chg (· ∈ S1_0) w0 ws),h,z,H,h1,h2,(or1 h6 (io sr) (x_ lr):∀k∈h,k∈S1_0∨w0.z<=k)⟩
 rintro _ _ _ _ rfl ⟨rfl,O⟩;have V:=elR hma;obtain rfl:=som V;exact ⟨O,z⟩
def Q34 (w0:World)(B:Zone)(A0:Option Addr)(N0 C0:Nat)(S1_0:List Nat)(r:Int×(List Str))(v:Value)(w':World):Prop:=Chg (· ∈ S1_0) w0 w'/\un2 (fun h G=>∃S1,(vI h)=v/\inI h/\b_ w' S1 (sl A0 N0 C0) G/\S1.Nodup/\(∀k∈S1,k∈S1_0∨w0.z<=k)) r
theorem W_w37 {x1:List Str}{S1_0:List Nat}{x2:Int}{res:Int×(List Str)}(hm:e_1 n x1 x2=some res)(Y:B<=w0.z)(J:b_ w0 S1_0 (sl A0 N0 C0) x1)(p1_0n:S1_0.Nodup)(p1_0g:∀k∈S1_0,¬B k)(L:inI x2):j_ prog 36 [sl A0 N0 C0,vI x2] w0 (Q34 w0 B A0 N0 C0 S1_0 res):=by
 unfold e_1 at hm
 refine goG func36 z z z fun fn hr=>Ws<|Rw z<|Wq<|Ws<|Rw z ?_
 obtain ⟨_,huj,hmb⟩:=bdS hm;refine c_F (σ:=(List Str)×Int×Int) (ρ:=Int×(List Str)) (fun s a w=>un3 (fun x5 x3 x4=>∃(h:List Nat),Sat 20 [(0,sl A0 N0 C0),(1,vI x3),(5,vI x4)] a/\Chg (· ∈ S1_0) w0 w/\b_ w h (sl A0 N0 C0) x5/\h.Nodup/\(∀k∈h,k∈S1_0∨w0.z<=k)/\inI x3/\inI x4) s) (fun s a w=>un3 (fun x5 x3 x4=>∃(h:List Nat),Sat 20 [(0,sl A0 N0 C0),(1,vI x3)] a/\Chg (· ∈ S1_0) w0 w/\b_ w h (sl A0 N0 C0) x5/\h.Nodup/\(∀k∈h,k∈S1_0∨w0.z<=k)/\inI x3/\inI x4) s) (rQ prog fn<|Q34 w0 B A0 N0 C0 S1_0) huj ?_ ?_ ?_ ?_
 ·exact fun _ q=>⟨S1_0,q.k<|s3 z z z,cr S1_0 w0,J,p1_0n,io sr,L,ii z⟩
 ·rintro ⟨x5,x3,x4⟩ _ wc _ ⟨h,hSk,s6,h1,h2,G,H,hd⟩ hml;have hme:=b_C hml;refine Wu ?_ hSk;refine Wq<|Wm z<|Rm z<|R z (lnR a_0 z<|b_.rep h1)<|Rl z z z<|Wx z (fun I=>?_) (fun I=>?_)
  ·refine Wk<|Wq<|Wb<|Wm z<|RM z z ?_
   obtain ⟨_,em,hmn⟩:=bdS<|ifT hme I;refine E z (fc call35 z<|W_w1n em (zt' Y s6.s) H) ?_;rintro _ wo ⟨sa,rfl,hp⟩;obtain ⟨xq,ef,hmr⟩:=bdS hmn;have hg:=h1.e sa;refine RX z (b_P (α:=Str) a_0 z_9 z z hg ef) ?_;rintro _ ⟨_,ht,rfl⟩;refine E0 (b_Q (α:=Str) z_9 z ht z z z ef hg h2 (c_x hp) an_ a_f) ?_;rintro _ ws ⟨Sh,su,hv,hw,hx⟩;refine Wn<|Wg<|Rm z<|R z (add_ z z)<|Rw z<|Wg<|Rm z<|R z (add_ z z)<|Ra z<|Wl ?_
   have hi:∀k∈h,k∈S1_0∨w0.z<=k:=or1 G (io sr)<|x_ lr;exact fun _ q=>⟨(xq,h_ x3 1,h_ x4 1),(som hmr).symm,⟨Sh,q.k<|s3 z z z,(cM (d_ (cM (cr S1_0 w0) s6 (io sr):Chg (· ∈ S1_0) w0 wc) sa:Chg (· ∈ S1_0) w0 wo) su hi:Chg (· ∈ S1_0) w0 ws),hv,hw,(or2 hx hi an_ (x_<|lt_ s6.s sa.s):∀k∈Sh,k∈S1_0∨w0.z<=k),iA _ _,iA _ _⟩⟩
  exact We<|fun _ q=>b_u (som<|ifF hme I).symm ⟨h,q.k<|s2 z z,(cM (cr S1_0 w0) s6 (io sr):Chg (· ∈ S1_0) w0 wc),h1,h2,(or1 G (io sr) (x_ lr):∀k∈h,k∈S1_0∨w0.z<=k),H,hd⟩
 ·rintro ⟨x5,x3,x4⟩ a0 a1 rfl ⟨h,_,a2,h1,h2,G,H,hd⟩;have O:=elL hmb;revert a0;refine Wo<|Wm z<|Rw z ?_
  obtain rfl:=som<|b_C O;exact Wr<|e_ hr z ⟨(cM (cr S1_0 w0) a2 (io sr):Chg (· ∈ S1_0) w0 a1),h,z,H,h1,h2,(or1 G (io sr) (x_ lr):∀k∈h,k∈S1_0∨w0.z<=k)⟩
 rintro _ _ _ _ rfl ⟨rfl,V⟩;have W:=elR hmb;obtain rfl:=som W;exact ⟨V,z⟩
def Q35 (w0:World)(B:Zone)(A0:Option Addr)(N0 C0:Nat)(S1_0:List Nat)(r:Int×(List Int))(v:Value)(w':World):Prop:=Chg (· ∈ S1_0) w0 w'/\un2 (fun h G=>∃S1,(vI h)=v/\inI h/\b_ w' S1 (sl A0 N0 C0) G/\S1.Nodup/\(∀k∈S1,k∈S1_0∨w0.z<=k)) r
theorem W_w1o {x1:List Int}{S1_0:List Nat}{x2:Int}{res:Int×(List Int)}(hm:c_s n x1 x2=some res)(W:B<=w0.z)(I:b_ w0 S1_0 (sl A0 N0 C0) x1)(p1_0n:S1_0.Nodup)(p1_0g:∀k∈S1_0,¬B k)(J:inI x2):j_ prog 37 [sl A0 N0 C0,vI x2] w0 (Q35 w0 B A0 N0 C0 S1_0 res):=by
 unfold c_s at hm
 refine goG func37 z z z fun fn hr=>Ws<|Rw z<|Wq<|Ws<|Rw z ?_
 obtain ⟨_,huh,hma⟩:=bdS hm;refine c_F (σ:=(List Int)×Int×Int) (ρ:=Int×(List Int)) (fun s a w=>un3 (fun x5 x3 x4=>∃(h:List Nat),Sat 19 [(0,sl A0 N0 C0),(1,vI x3),(5,vI x4)] a/\Chg (· ∈ S1_0) w0 w/\b_ w h (sl A0 N0 C0) x5/\h.Nodup/\(∀k∈h,k∈S1_0∨w0.z<=k)/\inI x3/\inI x4) s) (fun s a w=>un3 (fun x5 x3 x4=>∃(h:List Nat),Sat 19 [(0,sl A0 N0 C0),(1,vI x3)] a/\Chg (· ∈ S1_0) w0 w/\b_ w h (sl A0 N0 C0) x5/\h.Nodup/\(∀k∈h,k∈S1_0∨w0.z<=k)/\inI x3/\inI x4) s) (rQ prog fn<|Q35 w0 B A0 N0 C0 S1_0) huh ?_ ?_ ?_ ?_
 ·exact fun _ q=>⟨S1_0,q.k<|s3 z z z,cr S1_0 w0,I,p1_0n,io sr,J,ii z⟩
 ·rintro ⟨x5,x3,x4⟩ _ wb _ ⟨h,hSi,s8,h1,h2,h6,G,hc⟩ hmj;have hmd:=b_C hmj;refine Wu ?_ hSi;refine Wq<|Wm z<|Rm z<|R z (lnR r_ z<|b_.rep h1)<|Rl z z z<|Wx z (fun H=>?_) (fun H=>?_)
  ·refine Wk<|Wq<|Wb<|Wm z<|RM z z ?_
   obtain ⟨xk,ee,hml⟩:=bdS<|ifT hmd H;refine RX z (b_P (α:=Int) r_ z_3 z z h1 ee) ?_;rintro _ ⟨_,hn,rfl⟩;refine E0 (b_Q (α:=Int) z_3 z hn z z z ee h1 h2 (c_w G) an_ a_f) ?_;rintro _ wm ⟨Sf,so,hp,hq,ht⟩;refine Wn<|Wg<|Rm z<|R z (add_ z z)<|Rw z<|Wg<|Rm z<|R z (add_ z z)<|Ra z<|Wl ?_
   have hg:∀k∈h,k∈S1_0∨w0.z<=k:=or1 h6 (io sr)<|x_ lr;exact fun _ q=>⟨(xk,h_ x3 1,h_ x4 1),(som hml).symm,⟨Sf,q.k<|s3 z z z,(cM (cM (cr S1_0 w0) s8 (io sr):Chg (· ∈ S1_0) w0 wb) so hg:Chg (· ∈ S1_0) w0 wm),hp,hq,(or2 ht hg an_ (x_ s8.s):∀k∈Sf,k∈S1_0∨w0.z<=k),iA _ _,iA _ _⟩⟩
  exact We<|fun _ q=>b_u (som<|ifF hmd H).symm ⟨h,q.k<|s2 z z,(cM (cr S1_0 w0) s8 (io sr):Chg (· ∈ S1_0) w0 wb),h1,h2,(or1 h6 (io sr) (x_ lr):∀k∈h,k∈S1_0∨w0.z<=k),G,hc⟩
 ·rintro ⟨x5,x3,x4⟩ ar ws rfl ⟨h,_,sz,h1,h2,h6,G,hc⟩;have L:=elL hma;revert ar;refine Wo<|Wm z<|Rw z ?_
  obtain rfl:=som<|b_C L;exact Wr<|e_ hr z ⟨(cM (cr S1_0 w0) sz (io sr):Chg (· ∈ S1_0) w0 ws),h,z,G,h1,h2,(or1 h6 (io sr) (x_ lr):∀k∈h,k∈S1_0∨w0.z<=k)⟩
 rintro _ _ _ _ rfl ⟨rfl,O⟩;have V:=elR hma;obtain rfl:=som V;exact ⟨O,z⟩
def Q36 (w0:World)(B:Zone)(A0:Option Addr)(N0 C0:Nat)(S1_0:List Nat)(r:Int×(List a_))(v:Value)(w':World):Prop:=Chg (· ∈ S1_0) w0 w'/\un2 (fun h G=>∃S1,(vI h)=v/\inI h/\b_ w' S1 (sl A0 N0 C0) G/\S1.Nodup/\(∀k∈S1,k∈S1_0∨w0.z<=k)) r
theorem W_w38 {x1:List a_}{S1_0:List Nat}{x2:Int}{res:Int×(List a_)}(hm:g_h n x1 x2=some res)(L:B<=w0.z)(bH:b_ w0 S1_0 (sl A0 N0 C0) x1)(p1_0n:S1_0.Nodup)(p1_0g:∀k∈S1_0,¬B k)(bI:inI x2):j_ prog 24 [sl A0 N0 C0,vI x2] w0 (Q36 w0 B A0 N0 C0 S1_0 res):=by
 unfold g_h at hm
 refine goG func24 z z z fun fn hr=>Ws<|Rw z<|Wq<|Ws<|Rw z ?_
 obtain ⟨_,bJ,ao⟩:=bdS hm;refine c_F (σ:=(List a_)×Int×Int) (ρ:=Int×(List a_)) (fun s a w=>un3 (fun xi xa J=>∃(G:List Nat),Sat 72 [(0,sl A0 N0 C0),(1,vI xa),(5,vI J)] a/\Chg (· ∈ S1_0) w0 w/\b_ w G (sl A0 N0 C0) xi/\G.Nodup/\(∀k∈G,k∈S1_0∨w0.z<=k)/\inI xa/\inI J) s) (fun s a w=>un3 (fun xi xa J=>∃(G:List Nat),Sat 72 [(0,sl A0 N0 C0),(1,vI xa)] a/\Chg (· ∈ S1_0) w0 w/\b_ w G (sl A0 N0 C0) xi/\G.Nodup/\(∀k∈G,k∈S1_0∨w0.z<=k)/\inI xa/\inI J) s) (rQ prog fn<|Q36 w0 B A0 N0 C0 S1_0) bJ ?_ ?_ ?_ ?_
 ·exact fun _ q=>⟨S1_0,q.k<|s3 z z z,cr S1_0 w0,bH,p1_0n,io sr,bI,ii z⟩
 ·rintro ⟨xi,xa,J⟩ _ aq _ ⟨G,bK,st,hj,hu,hl,hv,ar⟩ bL;have ap:=b_C bL;refine Wu ?_ bK;refine Wq<|Wm z<|Rm z<|R z (lnR Q_ z<|b_.rep hj)<|Rl z z z<|Wx z (fun ad=>?_) (fun ad=>?_)
  ·refine Wk<|Wq<|Wb<|Wm z<|RM z z ?_
   obtain ⟨c6,c7,bM⟩:=bdS<|ifT ap ad;refine E z (fc call35 z<|W_w1n c7 (zt' L st.s) hv) ?_;rintro _ c8 ⟨ae,rfl,c9⟩;obtain ⟨xb,au,bN⟩:=bdS bM;have av:=hj.e ae;refine RX z (d_8 (α:=a_) Q_ n_ z z av au) ?_;rintro _ ⟨_,ca,rfl⟩;refine Rf z c_g z ?_;obtain ⟨_,cb,bO⟩:=bdS bN;refine E0 (g_K (α:=a_) (v':=(⟨c6,xb.kind,xb.size,xb.little,xb.bytes,xb.names,xb.tags,xb.kids⟩:a_)) z_9 z ca z z z z au cb av hu (lb z)<|fun _ _ _ h=>m_b h c9) ?_;rintro _ cc ⟨aw,ax,ay,cd,az⟩;refine Wn<|Wm z<|R z (add_ z z)<|Rw z<|Wm z<|RM z z ?_
   obtain ⟨xc,aA,bP⟩:=bdS bO;refine RX z (d_8 (α:=a_) Q_ n_ z z ay aA) ?_;rintro _ ⟨_,ce,rfl⟩;refine Rf z a_s z ?_;obtain ⟨_,cf,bQ⟩:=bdS bP;refine E0 (g_K (α:=a_) (v':=(⟨xc.name,h_ xa 1,xc.size,xc.little,xc.bytes,xc.names,xc.tags,xc.kids⟩:a_)) z_3 z ce z z z z aA cf ay cd (lb z) (fun _ _ _ h=>m_c h<|iA _ _)) ?_;rintro _ cg ⟨aB,aC,aD,ch,aE⟩;refine Wn<|Wm z<|R z (add_ z z)<|Rw z<|Wm z<|RM z z ?_
   obtain ⟨xd,aF,bR⟩:=bdS bQ;refine RX z (d_8 (α:=a_) Q_ n_ z z aD aF) ?_;rintro _ ⟨_,ci,rfl⟩;refine Rf z a_z z ?_;obtain ⟨_,cj,bS⟩:=bdS bR;refine E0 (g_K (α:=a_) (v':=(⟨xd.name,xd.kind,h_ (h_ xa 1) 1,xd.little,xd.bytes,xd.names,xd.tags,xd.kids⟩:a_)) z_3 z ci z z z z aF cj aD ch (lb z) (fun _ _ _ h=>m_d h<|iA _ _)) ?_;rintro _ ck ⟨aG,aH,aI,cl,aJ⟩;refine Wn<|Wm z<|R z (add_ z z)<|Rw z<|Wm z<|RM z z<|R z (g_W z z (by decide))<|Rq z z z ?_
   obtain ⟨xe,aK,bT⟩:=bdS bS;refine RX z (d_8 (α:=a_) Q_ n_ z z aI aK) ?_;rintro _ ⟨_,cm,rfl⟩;refine Rf z b_D z ?_;obtain ⟨cn,co,bU⟩:=bdS bT;refine E0 (g_K (α:=a_) (v':=(⟨xe.name,xe.kind,xe.size,(b_8 (h_ (h_ (h_ xa 1) 1) 1) 3)==0,xe.bytes,xe.names,xe.tags,xe.kids⟩:a_)) z_4 z cm z z z z aK co aI cl (lb z)<|fun _ _ _ h=>m_e h) ?_;rintro _ ww ⟨aL,aM,aN,cp,aO⟩;refine Wn<|Wm z<|R z (add_ z z)<|Rw z<|Wm z<|Rm z ?_
   obtain ⟨x3,aP,bV⟩:=bdS bU;refine RX z (d_8 (α:=a_) Q_ n_ z z aN aP) ?_;rintro _ ⟨_,cq,rfl⟩;obtain ⟨_,_,ct,cu,h1,aQ,_,cv⟩:=g_J cq aN cp aP;obtain ⟨_,_,_,_,_,_,_,_,_,_,_,_,Sk,Sx,Sy,Sz,rfl,rfl,cw,cx,cy,cz,aR,aS,aT⟩:=c_W cu;refine Rf z a_I z<|R z (l0 T_ z<|ct.at (j:=4) z)<|Rm z ?_
   have af:=lt_ st.s ae.s;have ah:=lt_ af ax.s;have ai:=lt_ ah aC.s;have aj:=lt_ ai aH.s;have O:=lt_ aj aM.s;have ak:=zt' L O;have aU:∀k∈aL,¬B k:=or1 aO (or1 aJ (or1 aE (or1 az (or1 hl p1_0g (m_ L):∀k∈G,¬B k) (m_<|zt' L af):∀k∈aw,¬B k) (m_<|zt' L ah):∀k∈aB,¬B k) (m_<|zt' L ai):∀k∈aG,¬B k)<|m_<|zt' L aj;have cA:∀k∈Sk,¬B k:=or1 (fun k hk=>.inl<|aQ k<|List.mem_append_left _ hk) aU<|m_ ak;obtain ⟨_,aV,cB,bW⟩:=W_ bV;refine E z (fc call12 z<|i_M (B:=B) cB ak cz (nl_ h1) cA<|iA _ _) ?_;rintro _ wm ⟨sf,aW,rfl,cC,cD,cE,V⟩;obtain ⟨aX,aY,cF,aZ⟩:=cv _ _ _ (cM (cr (Sk++(Sx++(Sy++Sz))) ww) sf (io<|a_u sr):Chg (· ∈ (Sk++(Sx++(Sy++Sz)))) ww wm) (c_b (x:=(⟨x3.name,x3.kind,x3.size,x3.little,aV,x3.names,x3.tags,x3.kids⟩:a_)) (S1:=aW) (S2:=Sx) (S3:=Sy) (S4:=Sz) cw cx cy cD (aR.c sf<|ds<|nmL<|nj h1) (aS.c sf<|ds<|nmL<|nmR<|nj h1)<|aT.c sf<|ds<|nmR<|nmR<|nj h1) (na_ cE (na_ (nl_<|nr_ h1) (na_ (nl_<|nr_<|nr_ h1) (nr_<|nr_<|nr_ h1)<|nj<|nr_<|nr_ h1)<|nmA (nmL<|nj<|nr_ h1)<|nmR<|nj<|nr_ h1)<|nmA (b_J V (nmL<|nj h1) (b_.lt aR) lr)<|nmA (b_J V (nmL<|nmR<|nj h1) (b_.lt aS) lr)<|b_J V (nmR<|nmR<|nj h1) (b_.lt aT) lr)<|aa_ (or1 V (io<|a_u sr) (x_ lr):∀k∈aW,k∈(Sk++(Sx++(Sy++Sz)))∨ww.z<=k)<|aa_ (io<|Z_<|a_u sr)<|aa_ (io<|Z_<|Z_<|a_u sr)<|io<|Z_<|Z_<|Z_ sr;refine Rw z<|Wm z<|Rm z ?_
   obtain ⟨x4,b0,bX⟩:=bdS bW;refine RX z (d_8 (α:=a_) Q_ n_ z z aY b0) ?_;rintro _ ⟨_,cG,rfl⟩;obtain ⟨_,_,cH,cI,h2,b1,_,cJ⟩:=g_J cG aY cF b0;obtain ⟨_,_,_,_,_,_,_,_,_,_,_,_,W,Sn,Y,a0,rfl,rfl,cK,cL,cN,b2,cO,b3,b4⟩:=c_W cI;refine Rf z b_m z<|R z (l0 a_B z<|cH.at (j:=5) z)<|Rm z ?_
   have a1:=lt_ O sf.s;have al:=zt' L a1;have b5:∀k∈aX,¬B k:=or1 aZ aU<|m_ ak;have cP:∀k∈Sn,¬B k:=or1 (fun k hk=>.inl<|(fun k hk=>b1 k<|List.mem_append_right _ hk) k<|List.mem_append_left _ hk) b5<|m_ al;obtain ⟨_,b6,cQ,bY⟩:=W_ bX;refine E z (fc call36 z<|W_w37 (B:=B) cQ al cO (nl_<|nr_ h2) cP cC) ?_;rintro _ wo ⟨sg,b7,rfl,cR,cS,cT,a2⟩;obtain ⟨b8,b9,cU,ba⟩:=cJ _ _ _ (cM (cr (W++(Sn++(Y++a0))) wm) sg (io<|Z_<|a_u sr):Chg (· ∈ (W++(Sn++(Y++a0)))) wm wo) (c_b (x:=(⟨x4.name,x4.kind,x4.size,x4.little,x4.bytes,b6,x4.tags,x4.kids⟩:a_)) (S1:=W) (S2:=b7) (S3:=Y) (S4:=a0) cK cL cN (b2.c sg<|nmL<|nj h2) cS (b3.c sg<|ds<|nmL<|nj<|nr_ h2)<|b4.c sg<|ds<|nmR<|nj<|nr_ h2) (na_ (nl_ h2) (na_ cT (na_ (nl_<|nr_<|nr_ h2) (nr_<|nr_<|nr_ h2)<|nj<|nr_<|nr_ h2)<|nmA (b_J a2 (nmL<|nj<|nr_ h2) (b_.lt b3) lr)<|b_J a2 (nmR<|nj<|nr_ h2) (b_.lt b4) lr)<|nmA (ds<|b_J a2 (ds<|nmL<|nj h2) (b_.lt b2) lr)<|nmA (nmL<|nmR<|nj h2)<|nmR<|nmR<|nj h2)<|aa_ (io<|a_u sr)<|aa_ (or1 a2 (io<|Z_<|a_u sr) (x_ lr):∀k∈b7,k∈(W++(Sn++(Y++a0)))∨wm.z<=k)<|aa_ (io<|Z_<|Z_<|a_u sr)<|io<|Z_<|Z_<|Z_ sr;refine Rw z<|Wm z<|Rm z ?_
   obtain ⟨x5,bb,bZ⟩:=bdS bY;refine RX z (d_8 (α:=a_) Q_ n_ z z b9 bb) ?_;rintro _ ⟨_,cV,rfl⟩;obtain ⟨_,_,cW,cX,H,bc,_,cY⟩:=g_J cV b9 cU bb;obtain ⟨_,_,_,_,_,_,_,_,_,_,_,_,a3,a4,Sp,a5,rfl,rfl,cZ,d0,d1,be,bf,d2,bg⟩:=c_W cX;refine Rf z a_D z<|R z (l0 w_ z<|cW.at (j:=6) z)<|Rm z ?_
   have a6:=lt_ a1 sg.s;have am:=zt' L a6;have bh:∀k∈b8,¬B k:=or1 ba b5<|m_ al;have d3:∀k∈Sp,¬B k:=or1 (fun k hk=>.inl<|(fun k hk=>(fun k hk=>bc k<|List.mem_append_right _ hk) k<|List.mem_append_right _ hk) k<|List.mem_append_left _ hk) bh<|m_ am;obtain ⟨_,bi,d4,c0⟩:=W_ bZ;refine E z (fc call37 z<|W_w1o (B:=B) d4 am d2 (nl_<|nr_<|nr_ H) d3 cR) ?_;rintro _ wq ⟨sh,bj,rfl,d5,d6,d7,a7⟩;obtain ⟨bk,bm,d8,bn⟩:=cY _ _ _ (cM (cr (a3++(a4++(Sp++a5))) wo) sh (io<|Z_<|Z_<|a_u sr):Chg (· ∈ (a3++(a4++(Sp++a5)))) wo wq) (c_b (x:=(⟨x5.name,x5.kind,x5.size,x5.little,x5.bytes,x5.names,bi,x5.kids⟩:a_)) (S1:=a3) (S2:=a4) (S3:=bj) (S4:=a5) cZ d0 d1 (be.c sh<|nmL<|nmR<|nj H) (bf.c sh<|nmL<|nj<|nr_ H) d6<|bg.c sh<|ds<|nj<|nr_<|nr_ H) (na_ (nl_ H) (na_ (nl_<|nr_ H) (na_ d7 (nr_<|nr_<|nr_ H)<|b_J a7 (nj<|nr_<|nr_ H) (b_.lt bg) lr)<|nmA (ds<|b_J a7 (ds<|nmL<|nj<|nr_ H) (b_.lt bf) lr)<|nmR<|nj<|nr_ H)<|nmA (nmL<|nj H)<|nmA (ds<|b_J a7 (ds<|nmL<|nmR<|nj H) (b_.lt be) lr)<|nmR<|nmR<|nj H)<|aa_ (io<|a_u sr)<|aa_ (io<|Z_<|a_u sr)<|aa_ (or1 a7 (io<|Z_<|Z_<|a_u sr) (x_ lr):∀k∈bj,k∈(a3++(a4++(Sp++a5)))∨wo.z<=k)<|io<|Z_<|Z_<|Z_ sr;refine Rw z<|Wg<|RM z z ?_
   obtain ⟨x6,bo,c1⟩:=bdS c0;refine RX z (d_8 (α:=a_) Q_ n_ z z bm bo) ?_;rintro _ ⟨_,d9,rfl⟩;obtain ⟨_,_,da,db,I,bp,_,dc⟩:=g_J d9 bm d8 bo;obtain ⟨_,_,_,_,_,_,_,_,_,_,_,_,a8,a9,aa,Sr,rfl,rfl,dd,de,df,bq,br,bs,dg⟩:=c_W db;refine Rf z M_ z<|R z (l0 w_ z<|da.at (j:=7) z)<|Rm z ?_
   have an:=lt_ a6 sh.s;have bt:=zt' L an;have dh:∀k∈Sr,¬B k:=or1 (fun k hk=>.inl<|(fun k hk=>(fun k hk=>(fun k hk=>bp k<|List.mem_append_right _ hk) k<|List.mem_append_right _ hk) k<|List.mem_append_right _ hk) k hk) (or1 bn bh (m_ am):∀k∈bk,¬B k)<|m_ bt;obtain ⟨di,bu,dj,c2⟩:=W_ c1;refine E z (fc call37 z<|W_w1o (B:=B) dj bt dg (nr_<|nr_<|nr_ I) dh d5) ?_;rintro _ bv ⟨ss,bw,rfl,dk,dl,dm,ab⟩;obtain ⟨bx,dn,dp,dq⟩:=dc _ _ _ (cM (cr (a8++(a9++(aa++Sr))) wq) ss (io<|Z_<|Z_<|Z_ sr):Chg (· ∈ (a8++(a9++(aa++Sr)))) wq bv) (c_b (x:=(⟨x6.name,x6.kind,x6.size,x6.little,x6.bytes,x6.names,x6.tags,bu⟩:a_)) (S1:=a8) (S2:=a9) (S3:=aa) (S4:=bw) dd de df (bq.c ss<|nmR<|nmR<|nj I) (br.c ss<|nmR<|nj<|nr_ I) (bs.c ss<|nj<|nr_<|nr_ I) dl) (na_ (nl_ I) (na_ (nl_<|nr_ I) (na_ (nl_<|nr_<|nr_ I) dm<|ds<|b_J ab (ds<|nj<|nr_<|nr_ I) (b_.lt bs) lr)<|nmA (nmL<|nj<|nr_ I)<|ds<|b_J ab (ds<|nmR<|nj<|nr_ I) (b_.lt br) lr)<|nmA (nmL<|nj I)<|nmA (nmL<|nmR<|nj I)<|ds<|b_J ab (ds<|nmR<|nmR<|nj I) (b_.lt bq) lr)<|aa_ (io<|a_u sr)<|aa_ (io<|Z_<|a_u sr)<|aa_ (io<|Z_<|Z_<|a_u sr) (or1 ab (io<|Z_<|Z_<|Z_ sr) (x_ lr):∀k∈bw,k∈(a8++(a9++(aa++Sr)))∨wq.z<=k);refine Rw z<|Wg<|Rm z<|R z (add_ z z)<|Ra z<|Wl ?_
   have bz:∀k∈G,k∈S1_0∨w0.z<=k:=or1 hl (io sr)<|x_ lr;have bA:∀k∈aw,k∈S1_0∨w0.z<=k:=or1 az bz<|x_ af;have bB:∀k∈aB,k∈S1_0∨w0.z<=k:=or1 aE bA<|x_ ah;have bC:∀k∈aG,k∈S1_0∨w0.z<=k:=or1 aJ bB<|x_ ai;have bD:∀k∈aL,k∈S1_0∨w0.z<=k:=or1 aO bC<|x_ aj;have bE:∀k∈aX,k∈S1_0∨w0.z<=k:=or1 aZ bD<|x_ O;have bF:∀k∈b8,k∈S1_0∨w0.z<=k:=or1 ba bE<|x_ a1;have bG:∀k∈bk,k∈S1_0∨w0.z<=k:=or1 bn bF<|x_ a6;have dr:∀k∈Sk,k∈S1_0∨w0.z<=k:=or1 (fun k hk=>.inl<|aQ k<|List.mem_append_left _ hk) bD<|x_ O;have dt:∀k∈Sn,k∈S1_0∨w0.z<=k:=or1 (fun k hk=>.inl<|(fun k hk=>b1 k<|List.mem_append_right _ hk) k<|List.mem_append_left _ hk) bE<|x_ a1;have du:∀k∈Sp,k∈S1_0∨w0.z<=k:=or1 (fun k hk=>.inl<|(fun k hk=>(fun k hk=>bc k<|List.mem_append_right _ hk) k<|List.mem_append_right _ hk) k<|List.mem_append_left _ hk) bF<|x_ a6;have dv:∀k∈Sr,k∈S1_0∨w0.z<=k:=or1 (fun k hk=>.inl<|(fun k hk=>(fun k hk=>(fun k hk=>bp k<|List.mem_append_right _ hk) k<|List.mem_append_right _ hk) k<|List.mem_append_right _ hk) k hk) bG<|x_ an;exact fun _ q=>⟨((((cn.set (J).toNat (⟨x3.name,x3.kind,x3.size,x3.little,aV,x3.names,x3.tags,x3.kids⟩:a_)).set (J).toNat (⟨x4.name,x4.kind,x4.size,x4.little,x4.bytes,b6,x4.tags,x4.kids⟩:a_)).set (J).toNat (⟨x5.name,x5.kind,x5.size,x5.little,x5.bytes,x5.names,bi,x5.kids⟩:a_)).set (J).toNat (⟨x6.name,x6.kind,x6.size,x6.little,x6.bytes,x6.names,x6.tags,bu⟩:a_),di,h_ J 1),(som c2).symm,⟨bx,q.k<|s3 z z z,(cM (cM (cM (cM (cM (cM (cM (cM (d_ (cM (cr S1_0 w0) st (io sr):Chg (· ∈ S1_0) w0 aq) ae:Chg (· ∈ S1_0) w0 c8) ax bz:Chg (· ∈ S1_0) w0 cc) aC bA:Chg (· ∈ S1_0) w0 cg) aH bB:Chg (· ∈ S1_0) w0 ck) aM bC:Chg (· ∈ S1_0) w0 ww) sf dr:Chg (· ∈ S1_0) w0 wm) sg dt:Chg (· ∈ S1_0) w0 wo) sh du:Chg (· ∈ S1_0) w0 wq) ss dv:Chg (· ∈ S1_0) w0 bv),dn,dp,(or1 dq bG (x_ an):∀k∈bx,k∈S1_0∨w0.z<=k),dk,iA _ _⟩⟩
  exact We<|fun _ q=>b_u (som<|ifF ap ad).symm ⟨G,q.k<|s2 z z,(cM (cr S1_0 w0) st (io sr):Chg (· ∈ S1_0) w0 aq),hj,hu,(or1 hl (io sr) (x_ lr):∀k∈G,k∈S1_0∨w0.z<=k),hv,ar⟩
 ·rintro ⟨xi,xa,J⟩ dw dx rfl ⟨G,_,dy,hj,hu,hl,hv,ar⟩;have c3:=elL ao;revert dw;refine Wo<|Wm z<|Rw z ?_
  obtain rfl:=som<|b_C c3;exact Wr<|e_ hr z ⟨(cM (cr S1_0 w0) dy (io sr):Chg (· ∈ S1_0) w0 dx),G,z,hv,hj,hu,(or1 hl (io sr) (x_ lr):∀k∈G,k∈S1_0∨w0.z<=k)⟩
 rintro _ _ _ _ rfl ⟨rfl,c4⟩;have c5:=elR ao;obtain rfl:=som c5;exact ⟨c4,z⟩
theorem W_w39 {x1:g_}{S1_0:List Nat}{x2:Int}{res:Int×(List a_)}(hm:g_i n x1 x2=some res)(J:B<=w0.z)(H:b_ w0 S1_0 (sl A0 N0 C0) x1.rules)(p1_0n:S1_0.Nodup)(p1_0g:∀k∈S1_0,¬B k)(I:inI x2):j_ prog 11 [(.agg #[sl A0 N0 C0]),vI x2] w0 (Q36 w0 B A0 N0 C0 S1_0 res):=by
 unfold g_i at hm
 refine goG func11 z z z fun fn hr=>Ws<|E z (fb z) ?_
 rintro _ G ⟨rfl,h2⟩;have h:=h2.below;refine Rw z<|Ws<|Rf z a_9 z<|R z (l0 a_c z<|(h2.blk:Blk G w0.z [sl A0 N0 C0]).at z)<|Rm z ?_
 obtain ⟨_,_,O,L⟩:=W_ hm;refine E z (fc call24 z<|W_w38 O (zt' J h.s) (H.e h) p1_0n p1_0g I) ?_;rintro _ V ⟨s8,S3,rfl,W,ha,hb,hc⟩;refine Rw z<|Wm z<|Rw z ?_
 obtain rfl:=som L;exact Wr<|e_ hr z ⟨(cM (d_ (cr S1_0 w0) h:Chg (· ∈ S1_0) w0 G) s8 (io sr):Chg (· ∈ S1_0) w0 V),S3,z,W,ha,hb,(or1 hc (io sr) (x_ h.s):∀k∈S3,k∈S1_0∨w0.z<=k)⟩
theorem W_w1p {x1:List UInt8}{x2:Int}{res:Int}(hm:e_K x1 x2=some res)(V:B<=w0.z)(h:repS w0 B (sl A0 N0 C0) x1)(O:inI x2):j_ prog 13 [sl A0 N0 C0,vI x2] w0 (Q0 w0 B res):=by
 unfold e_K at hm
 refine goG func13 z z z fun fn hr=>Ws<|Rw z<|Wq<|Ws<|Rw z ?_
 obtain ⟨_,hua,H⟩:=bdS hm;refine Wf (σ:=Int) (ρ:=Int) (fun (k5:Nat)(x0:Int) a w=>Sat 22 [(0,sl A0 N0 C0),(1,vI x0),(5,vI ((k5:Nat):Int))] a/\Below w0.z w0 w/\inI x0) (fun (x0:Int) a w=>Sat 22 [(1,vI x0)] a/\Below w0.z w0 w/\inI x0) (rQ prog fn<|Q0 w0 B) hua ?_ ?_ ?_ ?_ ?_
 ·exact fun _ q=>⟨q.k<|s3 z z z,br w0,O⟩
 ·rintro k5 x0 _ _ _ I ⟨hSb,s2,h1⟩ hmc;refine Wu ?_ hSb;refine Wq<|Wm z<|Rm z ?_
  have L:=h.e s2;refine R z (lnR l_ z L)<|Rl z z z<|Wx z (fun _=>?_) (fun hc=>(X_ I hc).elim)
  refine Wk<|Wq<|Wb<|Wq<|Wm z<|Rm z ?_
  obtain ⟨_,ed,J⟩:=bdS hmc;refine RX z (at_ (α:=UInt8) l_ z_5 z z z L ed) ?_;rintro _ ⟨_,_,_,rfl,he,hf,_⟩;obtain rfl:=u8 hf;refine R z (l0 g_5 z<|he.at0 z)<|Rm z<|R z (e_6 d_3 d_5 z)<|R z (nq z z)<|Wx z (fun G=>?_) (fun G=>?_)
  ·exact Ws<|Rw z<|Wr<|rtO<|qL (som<|ifT J G).symm<|e_ hr z ⟨s2,z,ii z⟩
  exact Wk<|Wg<|Rm z<|R z (add_ z z)<|Rw z<|Wg<|Rm z<|R z (inc_ I (lt_ (repS.len h) H_) z z)<|Ra z<|Wl (fun _ q=>⟨h_ x0 1,(som<|ifF J G).symm,⟨q.k<|s3 z z z,s2,iA _ _⟩⟩)
 ·rintro x0 _ _ ⟨hSg,s9,h1⟩;refine Wu ?_ hSg;refine Wq<|Wm z<|Rm z<|R z (lnR l_ z<|h.e s9)<|Rl z z z<|Wx z (fun hc=>(Y_ hc).elim) (fun _=>?_)
  exact We<|fun _ q=>⟨rfl,⟨q.k<|s1 z,s9,h1⟩⟩
 ·rintro x0 ah _ rfl ⟨_,si,h1⟩;have hmj:=elL H;revert ah;refine Wo<|Wm z<|Rw z ?_
  obtain rfl:=som hmj;exact Wr<|e_ hr z ⟨si,z,h1⟩
 rintro _ _ _ _ rfl ⟨rfl,hqk⟩;have hml:=elR H;obtain rfl:=som hml;exact ⟨hqk,z⟩
def n_C (w0:World)(B:Zone)(r:Bool)(v:Value)(w':World):Prop:=Bw w0 w'/\(fun h=>(vB h)=v) r
theorem n_D {x1:g_}{x2:List UInt8}{res:Bool}(hm:f_7 n x1 x2=some res)(I:B<=w0.z)(hG:Gl w0 B)(V:repS w0 B (sl A0 N0 C0) x1.rules)(W:repS w0 B (sl A6 N6 C6) x2):j_ prog 3 [(.agg #[sl A0 N0 C0]),sl A6 N6 C6] w0 (n_C w0 B res):=by
 unfold f_7 at hm
 refine goG func3 z z z fun fn hr=>Ws<|E z (fb z) ?_
 rintro _ bW ⟨rfl,aP⟩;have H:=aP.below;have L:Blk bW w0.z [sl A0 N0 C0]:=aP.blk;refine Rw z<|Wq<|Wm z<|R z (lnR l_ z<|W.e H)<|R z (a_b z z)<|Wx z (fun a7=>?_) (fun a7=>?_)
 ·refine Ws<|Rw z ?_
  obtain rfl:=som<|ifT hm a7;exact Wr<|e_ hr z ⟨H,z⟩
 refine Wk<|Ws<|Rw z<|Ws<|R z (lN (vs:=[sl A0 N0 C0]) g_24 z_24 z z fid<|L.row 0 1 z)<|Rm z ?_
 obtain ⟨_,bX,aB⟩:=bdS<|ifF hm a7;refine E z (fc call4 z<|W_w1u bX (zt' I H.s) (V.e H)<|ii z) ?_;rintro _ _ ⟨sf,rfl,_⟩;refine Rw z<|Wq<|Wm z<|Rl z z z<|Wx z (fun a8=>?_) (fun a8=>?_)
 ·refine Ws<|Rw z ?_
  obtain rfl:=som<|ifT aB a8;exact Wr<|e_ hr z ⟨bup H sf,z⟩
 refine Wk<|Ws ?_
 have aQ:=L.e sf;refine R z (lN (vs:=[sl A0 N0 C0]) g_24 z_24 z z fid<|aQ.row 0 1 z) ?_;have aR:=(H.ag B).e sf;have aS:=lt_ H.s sf.s;obtain ⟨_,bY,bF⟩:=bdS<|ifF aB a8;refine E z (fc call6 z<|g_B bY (zt' I aS)<|V.g aR) ?_;rintro _ _ ⟨sg,_,_,_,_,rfl,aT,_,_⟩;refine Rm z ?_;have aU:=aR.e sg;have aV:=lt_ aS sg.s;obtain ⟨_,bZ,bG⟩:=bdS bF;refine E z (fc call7 z<|f_0 bZ (zt' I aV)<|W.g aU) ?_;rintro _ c0 ⟨sd,_,_,_,_,rfl,c1,_,_⟩;obtain ⟨_,Y,c2,bH⟩:=W_ bG;refine E z (fc call5 z<|W_w2c (B:=c0.z) c2 zr (repS.mono (or_ (aT.e sd)<|b_.lt aT)<|a_E sd.s)<|b_.rep c1) ?_;rintro _ _ ⟨sh,aW,aX,aY,_,rfl,hi,_,_⟩;refine Rm z<|Re z z z<|Re z z z<|Ra z<|Rw z<|Ws ?_
 have aZ:=((aQ.e sg).e sd).e sh;refine R z (lN (vs:=[sl A0 N0 C0]) g_24 z_24 z z fid<|aZ.row 0 1 z) ?_;have b0:=(aU.e sd).e sh;have ht:=lt_ (lt_ aV sd.s) sh.s;have b1:=zt' I ht;obtain ⟨_,c3,bI⟩:=bdS bH;refine E z (fc call6 z<|g_B (B:=B) c3 b1<|V.g b0) ?_;rintro _ ak ⟨s2,a1,a2,a3,c4,rfl,J,c5,hq⟩;refine E z (fa i_f) ?_;rintro _ c6 ⟨rfl,b2⟩;have h3:=b2.below;refine E0 (fs0 (cur':=[sl a1 a2 a3]) C_ z z (b2.blk:Blk c6 ak.z [sl none 0 0]) z z z z) ?_;rintro _ _ ⟨c7,c8⟩;have h6:=c8.one;refine Wn<|Wm z ?_
 have hn:=lt_ ht s2.s;have b3:∀k∈[ak.z],¬B k:=or0 (f_ lr)<|m_<|zt' I hn;have b4:=((b0.e s2).e h3).c h6<|c_ b3
 have hu:=lt_ (lt_ hn h3.s) h6.s;have b5:=zt' I hu;obtain ⟨_,c9,bJ⟩:=bdS bI;refine E z (fc call7 z<|f_0 (B:=B) c9 b5<|W.g b4) ?_;rintro _ ca ⟨s4,cb,cc,cd,ce,rfl,a0,cf,ho⟩;refine Rw z<|Ws ?_
 have b6:=c7.e s4;refine R z (lN (vs:=[sl a1 a2 a3]) D_ C_ z z fid<|b6.row 0 1 z)<|Rm z ?_
 have b7:=((J.e h3).c h6<|ds<|mnr<|b_.lt J).e s4;have b8:=lt_ h3.s h6.s;have a4:=lt_ b8 s4.s;have b9:=((((((((hG.e H).e sf).e sg).e sd).e sh).e s2).e h3).c h6<|c_ b3).e s4;have hy:=lt_ hu s4.s;have ba:=zt' I hy;obtain ⟨_,al,cg,bK⟩:=W_ bJ;refine E z (fc call8 z<|W_w1l (B:=ca.z) cg zr (b9.mono ba) (repS.mono (or_ b7<|b_.lt J)<|a_E a4)<|b_.rep a0) ?_;rintro _ a5 ⟨G,am,an,ao,ch,rfl,a6,ci,hl⟩;refine Rm z<|Re z z z<|Re z z z<|Ra z<|Rw z<|Wq<|Wq ?_
 obtain ⟨cj,bL,aC⟩:=bdS bK;refine Wt (fun a w=>∃(ap:Bool),ap=cj/\Sat 117 [(1,sl A6 N6 C6),(2,pt w0.z),(6,sl aW aX aY),(7,vB Y),(8,pt ak.z),(9,sl cb cc cd),(10,sl am an ao),(11,vB al),(51,vB ap)] a/\Below a5.z a5 w) ?_ ?_
 ·refine Wg<|RM z z ?_
  obtain ⟨ck,cl,aD⟩:=bdS bL;refine E z (fc call9 z<|f_3 (B:=a5.z) cl zr (b_.rep a6)<|repS.mono (or_ (((((hi.e s2).e h3).c h6<|ds<|mno (b_.lt hi) s2.s).e s4).e G)<|b_.lt hi)<|a_E<|lt_ (lt_ (lt_ (lt_ s2.s h3.s) h6.s) s4.s) G.s) ?_;rintro _ _ ⟨bb,rfl⟩;refine R z (not_ z)<|Rm z ?_
  rcases bs (!ck) with hcv | hcv
  ·iterate 3 refine Nh z hcv ?_
   exact R z (pT z hcv z)<|Wl (fun _ q=>⟨true,som<|ifT aD hcv,q.k<|s9 z z z z z z z z z,bb⟩)
  exact Rh z hcv (mv z)<|Rh z hcv (mv z)<|Rh z hcv (h_0 d_4 z z)<|R z (pF z hcv z)<|Wl (fun _ q=>⟨al != Y,som<|ifF aD hcv,q.k<|s9 z z z z z z z z z,bb⟩)
 rintro cm _ ⟨ap,rfl,_,s1⟩;revert cm;refine Wo<|Wc z (fun a9=>?_) (fun a9=>?_)
 ·refine Ws<|Rw z ?_
  obtain rfl:=som<|ifT aC a9;exact Wr<|e_ hr z ⟨bup (bup (bup (bM (bup (bup (bup (bup (bup (bup H sf) sg) sd) sh) s2) h3) h6<|m1 hn) s4) G) s1,z⟩
 refine Wk<|Wq<|Wq (Wd (X:=noX) 0 (pl_ 5 [2,3]) mo (by kernel_rfl) fun cT s5 _=>?_)
 have bc:=((b6.e G).e s1).e s5;refine dR z z (lN (vs:=[sl a1 a2 a3]) D_ C_ z z fid<|bc.row 0 1 z) ?_;have be:=lt_ (lt_ (lt_ sf.s sg.s) sd.s) sh.s;have bf:=lt_ be s2.s;have bg:=((((((aZ.e s2).e h3).c h6<|djs<|mm1 L.lt bf).e s4).e G).e s1).e s5;refine dR z z (lN (vs:=[sl A0 N0 C0]) g_24 z_24 z z fid<|bg.row 0 1 z) ?_;have bh:=(((b4.e s4).e G).e s1).e s5;have bi:=lt_ (lt_ (lt_ hy G.s) s1.s) s5.s;obtain ⟨_,cn,bN⟩:=bdS<|ifF aC a9;refine dE z z (fc call6 z<|g_B cn (zt' I bi)<|V.g bh) (.inr fun _ _ h=>F_<|h.1) ?_;rintro _ co ⟨s7,_,_,_,_,rfl,cp,_,_⟩;have bj:=(((b7.e G).e s1).e s5).e s7;obtain ⟨_,cq,aE⟩:=bdS bN;refine dE z z (fc call10 z<|W_w36 (B:=co.z) cq zr (repS.mono (or_ bj<|b_.lt J)<|a_E<|lt_ (lt_ (lt_ (lt_ a4 G.s) s1.s) s5.s) s7.s)<|b_.rep cp) (.inr fun _ _ h=>F_<|h.1) ?_;rintro _ _ ⟨s8,rfl⟩;refine dR z z (not_ z)<|pD<|Wo<|Wc z (fun aa=>?_) (fun aa=>?_)
 ·refine Ws<|Rw z ?_
  obtain rfl:=som<|ifT aE aa;exact Wr<|e_ hr z ⟨bup (bup (bup (bup (bup (bup (bM (bup (bup (bup (bup (bup (bup H sf) sg) sd) sh) s2) h3) h6<|m1 hn) s4) G) s1) s5) s7) s8,z⟩
 refine Wk<|Wq<|Wm z<|Rm z ?_
 have bk:=(bh.e s7).e s8;have bm:=lt_ (lt_ bi s7.s) s8.s;obtain ⟨_,cr,bO⟩:=bdS<|ifF aE aa;refine E z (fc call7 z<|f_0 cr (zt' I bm)<|W.g bk) ?_;rintro _ ct ⟨sa,_,_,_,_,rfl,cu,_,_⟩;have bn:=(((((a0.e G).e s1).e s5).e s7).e s8).e sa;obtain ⟨_,cv,aF⟩:=bdS bO;refine E z (fc call9 z<|f_3 (B:=ct.z) cv zr (repS.mono (or_ bn<|b_.lt a0)<|a_E<|lt_ (lt_ (lt_ (lt_ (lt_ G.s s1.s) s5.s) s7.s) s8.s) sa.s)<|b_.rep cu) ?_;rintro _ _ ⟨sb,rfl⟩;refine R z (not_ z)<|Wx z (fun ab=>?_) (fun ab=>?_)
 ·refine Ws<|Rw z ?_
  obtain rfl:=som<|ifT aF ab;exact Wr<|e_ hr z ⟨bup (bup (bup (bup (bup (bup (bup (bup (bM (bup (bup (bup (bup (bup (bup H sf) sg) sd) sh) s2) h3) h6<|m1 hn) s4) G) s1) s5) s7) s8) sa) sb,z⟩
 refine Wk<|Ws<|Rw z<|Ws<|R z (lN (vs:=[sl a1 a2 a3]) D_ C_ z z fid<|((((bc.e s7).e s8).e sa).e sb).row 0 1 z)<|Rm z ?_
 have aq:∀k∈c4,¬B k:=or0 hq<|m_ b1;have bo:=lt_ (lt_ bm sa.s) sb.s;obtain ⟨_,_,cw,bP⟩:=W_<|ifF aF ab;refine E z (fc call11 z<|W_w39 cw (zt' I bo) (((bj.e s8).e sa).e sb) c5 aq<|ii z) ?_;rintro _ _ ⟨sc,_,rfl,cx,_,_,_⟩;refine Rw z<|Wm z<|Rm z ?_
 have ar:∀k∈ce,¬B k:=or0 ho<|m_ b5;have bp:=lt_ bo sc.s;obtain ⟨cy,_,cz,bQ⟩:=W_ bP;refine E z (fc call12 z<|i_M cz (zt' I bp) ((bn.e sb).c sc<|a_G ho (b_.lt J) b8) cf ar cx) ?_;rintro _ au ⟨se,_,rfl,_,_,_,_⟩;refine Rw z<|Wq<|Wq ?_
 obtain ⟨cA,aG,aH⟩:=bdS bQ;refine Wt (fun a w=>∃(av:Bool),av=cA/\Sat 117 [(1,sl A6 N6 C6),(2,pt w0.z),(6,sl aW aX aY),(7,vB Y),(10,sl am an ao),(80,vB av)] a/\Below au.z au w) ?_ ?_
 ·refine Wg<|Rm z<|Rl z z z<|Rm z ?_
  rcases bs (decide<|cy<0) with hcs | hcs
  ·iterate 4 refine Nh z hcs ?_
   exact R z (pT z hcs z)<|Rm z<|Nh z z<|Nh z z<|Nh z z<|R z (pT z z z)<|Wl (fun _ q=>⟨true,som<|ifT aG hcs,q.k<|s6 z z z z z z,br au⟩)
  refine Rh z hcs (mv z)<|Rh z hcs (mv z) ?_
  have bq:=lt_ (lt_ s2.s h3.s) h6.s;obtain ⟨cB,cC,aI⟩:=bdS<|ifF aG hcs;refine Eg z z hcs z (fc call9 z<|f_3 (B:=a5.z) cC (a_E<|lt_ (lt_ (lt_ (lt_ (lt_ (lt_ (lt_ s1.s s5.s) s7.s) s8.s) sa.s) sb.s) sc.s) se.s) (or_ ((((((((a6.e s1).e s5).e s7).e s8).e sa).e sb).c sc<|a_G hl (b_.lt J) a4).c se<|a_G hl (b_.lt a0) lr)<|b_.lt a6)<|repS.mono (or_ (((((((((((((hi.e s2).e h3).c h6<|ds<|mno (b_.lt hi) s2.s).e s4).e G).e s1).e s5).e s7).e s8).e sa).e sb).c sc<|ds<|a_G hq (b_.lt hi) lr).c se<|ds<|a_G ho (b_.lt hi) bq)<|b_.lt hi)<|a_E<|lt_ (lt_ bq s4.s) G.s) ?_;rintro _ _ ⟨bt,rfl⟩;refine Rh z hcs (not_ z)<|R z (pF z hcs z)<|Rm z ?_
  rcases bs (!cB) with hcw | hcw
  ·iterate 3 refine Nh z hcw ?_
   exact R z (pT z hcw z)<|Wl (fun _ q=>⟨true,som<|ifT aI hcw,q.k<|s6 z z z z z z,bt⟩)
  exact Rh z hcw (mv z)<|Rh z hcw (mv z)<|Rh z hcw (h_0 d_4 z z)<|R z (pF z hcw z)<|Wl (fun _ q=>⟨al != Y,som<|ifF aI hcw,q.k<|s6 z z z z z z,bt⟩)
 rintro cD _ ⟨av,rfl,_,sj⟩;revert cD;refine Wo<|Wc z (fun ad=>?_) (fun ad=>?_)
 ·refine Ws<|Rw z ?_
  obtain rfl:=som<|ifT aH ad;exact Wr<|e_ hr z ⟨bup (bM (bM (bup (bup (bup (bup (bup (bup (bup (bup (bM (bup (bup (bup (bup (bup (bup H sf) sg) sd) sh) s2) h3) h6<|m1 hn) s4) G) s1) s5) s7) s8) sa) sb) sc<|k_ hq ht) se<|k_ ho hu) sj,z⟩
 refine Wk<|Ws<|Rw z<|Wm z<|Rm z ?_
 have aw:∀k∈ch,¬B k:=or0 hl<|m_ ba;have bu:=lt_ (lt_ bp se.s) sj.s;obtain ⟨cE,_,cF,bR⟩:=W_<|ifF aH ad;refine E z (fc call12 z<|i_M cF (zt' I bu) (((((((((a6.e s1).e s5).e s7).e s8).e sa).e sb).c sc<|a_G hl (b_.lt J) a4).c se<|a_G hl (b_.lt a0) lr).e sj) ci aw<|ii z) ?_;rintro _ bv ⟨sm,_,rfl,_,ax,_,_⟩;refine Rw z<|Ws<|Rw z<|Wm z<|Rm z ?_
 obtain ⟨_,cG,aJ⟩:=bdS bR;refine E z (fc call13 z<|W_w1p (B:=bv.z) cG zr (b_.rep ax)<|ii z) ?_;rintro _ _ ⟨sk,rfl,_⟩;refine Rw z<|Wq<|Wm z<|Rl z z z<|Wx z (fun ae=>?_) (fun ae=>?_)
 ·refine Ws<|Rw z ?_
  obtain rfl:=som<|ifT aJ ae;exact Wr<|e_ hr z ⟨bup (bM (bup (bM (bM (bup (bup (bup (bup (bup (bup (bup (bup (bM (bup (bup (bup (bup (bup (bup H sf) sg) sd) sh) s2) h3) h6<|m1 hn) s4) G) s1) s5) s7) s8) sa) sb) sc<|k_ hq ht) se<|k_ ho hu) sj) sm<|k_ hl hy) sk,z⟩
 have aK:=ifF aJ ae;refine Wk<|Wq<|Wm z<|Rm z<|R z (nq z z)<|Wx z (fun af=>?_) (fun af=>?_)
 ·refine Ws<|Rw z ?_
  obtain rfl:=som<|ifT aK af;exact Wr<|e_ hr z ⟨bup (bM (bup (bM (bM (bup (bup (bup (bup (bup (bup (bup (bup (bM (bup (bup (bup (bup (bup (bup H sf) sg) sd) sh) s2) h3) h6<|m1 hn) s4) G) s1) s5) s7) s8) sa) sb) sc<|k_ hq ht) se<|k_ ho hu) sj) sm<|k_ hl hy) sk,z⟩
 refine Wk<|Ws ?_
 have bw:=lt_ (lt_ bf h3.s) h6.s;refine R z (lN (vs:=[sl A0 N0 C0]) g_24 z_24 z z fid<|(((((((((bg.e s7).e s8).e sa).e sb).c sc<|djs<|p_ hq L.lt be).c se<|djs<|p_ ho L.lt bw).e sj).c sm<|djs<|p_ hl L.lt<|lt_ bw s4.s).e sk).row 0 1 z) ?_;have bx:=((((((bk.e sa).e sb).c sc<|c_ aq).c se<|c_ ar).e sj).c sm<|c_ aw).e sk;have bz:=lt_ (lt_ bu sm.s) sk.s;obtain ⟨_,cH,bS⟩:=bdS<|ifF aK af;refine E z (fc call6 z<|g_B cH (zt' I bz)<|V.g bx) ?_;rintro _ _ ⟨sr,_,_,_,_,rfl,bA,_,_⟩;refine Rm z ?_;have bB:=lt_ bz sr.s;obtain ⟨_,cI,bT⟩:=bdS bS;refine E z (fc call7 z<|f_0 cI (zt' I bB)<|W.g<|bx.e sr) ?_;rintro _ cJ ⟨sp,_,_,_,_,rfl,cK,_,_⟩;obtain ⟨_,cL,cM,bU⟩:=W_ bT;refine E z (fc call8 z<|W_w1l (B:=cJ.z) cM zr (((((((((((((((b9.e G).e s1).e s5).e s7).e s8).e sa).e sb).c sc<|c_ aq).c se<|c_ ar).e sj).c sm<|c_ aw).e sk).e sr).e sp).mono<|zt' I<|lt_ bB sp.s) (repS.mono (or_ (bA.e sp)<|b_.lt bA)<|a_E sp.s)<|b_.rep cK) ?_;rintro _ ay ⟨sz,_,_,_,_,rfl,cN,_,_⟩;refine Rm z<|Re z z z<|Re z z z<|Ra z<|Rw z<|Wq<|Wq ?_
 obtain ⟨cO,bV,aL⟩:=bdS bU;refine Wt (fun a w=>∃(az:Bool),az=cO/\Sat 117 [(10,sl am an ao),(13,vI cE),(108,vB az)] a/\Below ay.z ay w) ?_ ?_
 ·refine Wg<|RM z z ?_
  have bC:=lt_ (lt_ s2.s h3.s) h6.s;have bD:=lt_ bC s4.s;obtain ⟨cP,cQ,aM⟩:=bdS bV;refine E z (fc call9 z<|f_3 (B:=ay.z) cQ zr (b_.rep cN)<|repS.mono (or_ (((((((((((((((((((hi.e s2).e h3).c h6<|ds<|mno (b_.lt hi) s2.s).e s4).e G).e s1).e s5).e s7).e s8).e sa).e sb).c sc<|ds<|a_G hq (b_.lt hi) lr).c se<|ds<|a_G ho (b_.lt hi) bC).e sj).c sm<|ds<|a_G hl (b_.lt hi) bD).e sk).e sr).e sp).e sz)<|b_.lt hi)<|a_E<|lt_ (lt_ (lt_ (lt_ (lt_ (lt_ (lt_ (lt_ (lt_ (lt_ (lt_ (lt_ (lt_ (lt_ (lt_ bD G.s) s1.s) s5.s) s7.s) s8.s) sa.s) sb.s) sc.s) se.s) sj.s) sm.s) sk.s) sr.s) sp.s) sz.s) ?_;rintro _ _ ⟨bE,rfl⟩;refine R z (not_ z)<|Rm z ?_
  rcases bs (!cP) with hcx | hcx
  ·iterate 3 refine Nh z hcx ?_
   exact R z (pT z hcx z)<|Wl (fun _ q=>⟨true,som<|ifT aM hcx,q.k<|s3 z z z,bE⟩)
  exact Rh z hcx (mv z)<|Rh z hcx (mv z)<|Rh z hcx (h_0 d_4 z z)<|R z (pF z hcx z)<|Wl (fun _ q=>⟨cL != Y,som<|ifF aM hcx,q.k<|s3 z z z,bE⟩)
 rintro cR _ ⟨az,rfl,_,O⟩;revert cR;refine Wo<|Wc z (fun ah=>?_) (fun ah=>?_)
 ·refine Ws<|Rw z ?_
  obtain rfl:=som<|ifT aL ah;exact Wr<|e_ hr z ⟨bup (bup (bup (bup (bup (bM (bup (bM (bM (bup (bup (bup (bup (bup (bup (bup (bup (bM (bup (bup (bup (bup (bup (bup H sf) sg) sd) sh) s2) h3) h6<|m1 hn) s4) G) s1) s5) s7) s8) sa) sb) sc<|k_ hq ht) se<|k_ ho hu) sj) sm<|k_ hl hy) sk) sr) sp) sz) O,z⟩
 refine Wk<|Ws<|Rw z<|Wm z<|Rm z ?_
 obtain ⟨_,cS,aN⟩:=bdS<|ifF aL ah;refine E z (fc call13 z<|W_w1p (B:=bv.z) cS (a_E<|lt_ (lt_ (lt_ (lt_ sk.s sr.s) sp.s) sz.s) O.s) (or_ (((((ax.e sk).e sr).e sp).e sz).e O)<|b_.lt ax)<|ii z) ?_;rintro _ _ ⟨aA,rfl,_⟩;refine Rw z<|Wq<|Wm z<|Rl z z z<|Wx z (fun ai=>?_) (fun ai=>?_)
 ·refine Ws<|Rw z ?_
  obtain rfl:=som<|ifT aN ai;exact Wr<|e_ hr z ⟨bup (bup (bup (bup (bup (bup (bM (bup (bM (bM (bup (bup (bup (bup (bup (bup (bup (bup (bM (bup (bup (bup (bup (bup (bup H sf) sg) sd) sh) s2) h3) h6<|m1 hn) s4) G) s1) s5) s7) s8) sa) sb) sc<|k_ hq ht) se<|k_ ho hu) sj) sm<|k_ hl hy) sk) sr) sp) sz) O) aA,z⟩
 have aO:=ifF aN ai;refine Wk<|Wq<|Wm z<|Rm z<|R z (nq z z)<|Wx z (fun aj=>?_) (fun aj=>?_)
 ·refine Ws<|Rw z ?_
  obtain rfl:=som<|ifT aO aj;exact Wr<|e_ hr z ⟨bup (bup (bup (bup (bup (bup (bM (bup (bM (bM (bup (bup (bup (bup (bup (bup (bup (bup (bM (bup (bup (bup (bup (bup (bup H sf) sg) sd) sh) s2) h3) h6<|m1 hn) s4) G) s1) s5) s7) s8) sa) sb) sc<|k_ hq ht) se<|k_ ho hu) sj) sm<|k_ hl hy) sk) sr) sp) sz) O) aA,z⟩
 refine Wk<|Ws<|Rw z ?_
 obtain rfl:=som<|ifF aO aj;exact Wr<|e_ hr z ⟨bup (bup (bup (bup (bup (bup (bM (bup (bM (bM (bup (bup (bup (bup (bup (bup (bup (bup (bM (bup (bup (bup (bup (bup (bup H sf) sg) sd) sh) s2) h3) h6<|m1 hn) s4) G) s1) s5) s7) s8) sa) sb) sc<|k_ hq ht) se<|k_ ho hu) sj) sm<|k_ hl hy) sk) sr) sp) sz) O) aA,z⟩
end Go.Vw
