
import Derived.Test.YteocmnebeeammaaGreatDoorVwWW3
set_option linter.unusedVariables false
namespace Go.Vw
open Go.RowKit Dat Go.Proofs
open Go.Proofs.Tryz
open Go.Vw renaming a_g->Wq,a_B->Wg,WC.of_KC->Wo,a_j->Wl,c_8->Wc,c_M->Wr,f_K->Wu,i_M->pT,i_N->pF,g_P->fd,b_x->l1,j_3->lN,b_3->mv,c_O->asg,f_E->lnR,f_3->lss,g_S->eql,g_Q->ext_,i_P->bP,g_R->add_,f_D->inc_,d_t->not_,f_F->at_,e_m->fc,a_R->fs,e_l->fb,d_q->fa,i_G->sr,i_K->cr,i_L->cM,c_j->bM,i_z->iS,i_y->iA,g_F->br,a_X->oA,i_C->bs,ltge->lg,inor->io,f_O->nq,j_4->lnT,j_5->sb_,i_E->ar_,i_D->al_,i_F->ds,j_M->m1,i_I->nr_,i_H->nl_,g_H->aa_,all_nil->an_,d_l->Wb,g_G->u8,i_w->pD,f_v->We,i_A->Wt,f_y->fS,f_q->or_,j_1->Wf,i_U->qL,i_v->Wd,i_Q->fN,g_I->na_,i_J->nj,e_o->f0,i_O->rX,i_R->tl_,i_S->ic
variable {A0:Option Addr}{N0 C0:Nat}{B:Zone}{w0:World}{AB:Option Addr}{AA:Option Addr}{AC:Option Addr}{AD:Option Addr}{NB CB:Nat}{NA CA:Nat}{NC CC:Nat}{ND CD:Nat}{A2:Option Addr}{A3:Option Addr}{A1:Option Addr}{A4:Option Addr}{N2 C2:Nat}{N3 C3:Nat}{N1 C1:Nat}{N4 C4:Nat}{A7:Option Addr}{N7 C7:Nat}{A5:Option Addr}{N5 C5:Nat}{n:Nat}{A8:Option Addr}{A9:Option Addr}{N8 C8:Nat}{N9 C9:Nat}{A6:Option Addr}{N6 C6:Nat}
theorem W_w28 {x1:List Str}{x2:Int}{res:Int}(hm:g_t n x1 x2=some res)(V:B<=w0.z)(G:repS w0 B (sl A0 N0 C0) x1)(O:inI x2):i_ prog 15 [sl A0 N0 C0,vI x2] w0 (Q0 w0 B res):=by
 unfold g_t at hm
 refine goG func15 z z z λfn hr=>Ws<|Rw z<|Wq<|Ws<|Rw z ?_
 obtain ⟨_,hub,I⟩:=bdS hm;refine Wf (σ:=Int) (ρ:=Int) (λ(k6:Nat)(x0:Int) a w=>Sat 22 [(0,sl A0 N0 C0),(1,vI x0),(5,vI ((k6:Nat):Int))] a/\Below w0.z w0 w/\inI x0) (λ(x0:Int) a w=>Sat 22 [(1,vI x0)] a/\Below w0.z w0 w/\inI x0) (rQ prog fn<|Q0 w0 B) hub ?_ ?_ ?_ ?_ ?_
 .exact λ_ q=>⟨q.k<|s3 z z z,br w0,O⟩
 .rintro k6 x0 _ _ _ J ⟨hSc,s2,h1⟩ hmd;refine Wu ?_ hSc;refine Wq<|Wm z<|Rm z<|R z (lnR D_ z<|G.e s2)<|Rl z z z<|Wx z (λ_=>?_) (λhc=>(Q_ J hc).elim)
  refine Wk<|Wq<|Wb<|Wq<|Wq (Wd (X:=noX) 0 (pl_ 7 [5]) mo (by kernel_rfl) λwt s4 _=>dM z z z<|dM z z z ?_)
  obtain ⟨_,ee,hmf⟩:=bdS hmd;refine dRX z z (at_ (α:=Str) D_ z_9 z z z (G.g<|(s2.ag B).e s4) ee) ?_;rintro _ ⟨_,_,_,rfl,hg,hh,_⟩;obtain ⟨rfl,_⟩:=a_h hh;refine dR z z (l0 g_9 z<|hg.at0 z)<|dM z z z ?_
  obtain ⟨_,ei,L⟩:=bdS hmf;refine dE z z (fc call25 z<|m_e ei (zt' V<|lt_ s2.s s4.s) h1) (.inr λ_ _ h=>C_<|h.1) ?_;rintro _ _ ⟨s9,rfl,_⟩;refine dR z z (d_U z z)<|pD<|Wo<|Wc z (λH=>?_) (λH=>?_)
  .exact Ws<|Rw z<|Wr<|rtO<|qL (som<|ifT L H).symm<|c_ hr z ⟨bup (bup s2 s4) s9,z,ii z⟩
  exact Wk<|Wg<|Rm z<|R z (add_ z z)<|Rw z<|Wg<|Rm z<|R z (inc_ J (lt_ (repS.len G) B_) z z)<|Ra z<|Wl (λ_ q=>⟨g_ x0 1,(som<|ifF L H).symm,⟨q.k<|s3 z z z,bup (bup s2 s4) s9,iA _ _⟩⟩)
 .rintro x0 _ _ ⟨hSj,sa,h1⟩;refine Wu ?_ hSj;refine Wq<|Wm z<|Rm z<|R z (lnR D_ z<|G.e sa)<|Rl z z z<|Wx z (λhc=>(R_ hc).elim) (λ_=>?_)
  exact We<|λ_ q=>⟨rfl,⟨q.k<|s1 z,sa,h1⟩⟩
 .rintro x0 ak _ rfl ⟨_,sm,h1⟩;have hml:=elL I;revert ak;refine Wo<|Wm z<|Rw z ?_
  obtain rfl:=som hml;exact Wr<|c_ hr z ⟨sm,z,h1⟩
 rintro _ _ _ _ rfl ⟨rfl,hqn⟩;have hmo:=elR I;obtain rfl:=som hmo;exact ⟨hqn,z⟩
def u_5 (w0:World)(B:Zone)(r:Bool)(v:Value)(w':World):Prop:=Bw w0 w'/\(λG=>(vB G)=v) r
theorem u_6 {x1:d_}{x2:Bt}{x3:Str}{x4:Str}{res:Bool}(hm:h_b n x1 x2 x3 x4=some res)(J:B<=w0.z)(hG:Gl w0 B)(L:repS w0 B (sl A0 N0 C0) x1.rules)(O:repS w0 B (sl A5 N5 C5) x2)(a3:x3.b.length<=LEN)(a4:x4.b.length<=LEN):i_ prog 3 [(.agg #[sl A0 N0 C0]),sl A5 N5 C5,Str.v x3,Str.v x4] w0 (u_5 w0 B res):=by
 unfold h_b at hm
 refine goG func3 z z z λfn hr=>Ws<|E z (fb z) ?_
 rintro _ bI ⟨rfl,aJ⟩;have H:=aJ.below;have hy:Blk bI w0.z [sl A0 N0 C0]:=aJ.blk;refine Rw z<|Wq<|Wm z<|R z (lnR o_ z<|O.e H)<|R z (a_b z z)<|Wx z (λa5=>?_) (λa5=>?_)
 .refine Ws<|Rw z ?_
  obtain rfl:=som<|ifT hm a5;exact Wr<|c_ hr z ⟨H,z⟩
 have aw:=ifF hm a5;refine Wk<|Wq<|Wm z<|R z (lnT d_9 z)<|R z (a_b z z)<|Wx z (λa6=>?_) (λa6=>?_)
 .refine Ws<|Rw z ?_
  obtain rfl:=som<|ifT aw a6;exact Wr<|c_ hr z ⟨H,z⟩
 have ax:=ifF aw a6;refine Wk<|Wq<|Wm z<|R z (lnT d_9 z)<|R z (a_b z z)<|Wx z (λa7=>?_) (λa7=>?_)
 .refine Ws<|Rw z ?_
  obtain rfl:=som<|ifT ax a7;exact Wr<|c_ hr z ⟨H,z⟩
 refine Wk<|Ws<|Rw z<|Ws<|R z (lN (vs:=[sl A0 N0 C0]) g_24 z_24 z z fid<|hy.row 0 1 z)<|Rm z ?_
 obtain ⟨_,bJ,ay⟩:=bdS<|ifF ax a7;refine E z (fc call4 z<|W_w2d bJ (zt' J H.s) (L.e H)<|ii z) ?_;rintro _ _ ⟨sf,rfl,_⟩;refine Rw z<|Wq<|Wm z<|Rl z z z<|Wx z (λa8=>?_) (λa8=>?_)
 .refine Ws<|Rw z ?_
  obtain rfl:=som<|ifT ay a8;exact Wr<|c_ hr z ⟨bup H sf,z⟩
 refine Wk<|Ws ?_
 have aK:=hy.e sf;refine R z (lN (vs:=[sl A0 N0 C0]) g_24 z_24 z z fid<|aK.row 0 1 z) ?_;have aL:=(H.ag B).e sf;have aM:=lt_ H.s sf.s;obtain ⟨_,bK,bq⟩:=bdS<|ifF ay a8;refine E z (fc call6 z<|k_8 bK (zt' J aM)<|L.g aL) ?_;rintro _ _ ⟨sg,_,_,_,_,rfl,aN,_,_⟩;refine Rm z ?_;have aO:=aL.e sg;have aP:=lt_ aM sg.s;obtain ⟨_,bL,bt⟩:=bdS bq;refine E z (fc call7 z<|i_g bL (zt' J aP)<|O.g aO) ?_;rintro _ bN ⟨sd,_,_,_,_,rfl,bO,_,_⟩;refine RM z z ?_
 obtain ⟨_,bP,bu⟩:=bdS bt;refine E z (fc call5 z<|W_w36 (B:=bN.z) bP zr (repS.mono (or_ (aN.e sd)<|a_.lt aN)<|Y_ sd.s) (a_.rep bO) a3 a4) ?_;rintro _ _ ⟨sh,bQ,bR,bS,_,rfl,ht,_,_⟩;refine Rw z<|Ws ?_
 have aQ:=((aK.e sg).e sd).e sh;refine R z (lN (vs:=[sl A0 N0 C0]) g_24 z_24 z z fid<|aQ.row 0 1 z) ?_;have aR:=(aO.e sd).e sh;have hu:=lt_ (lt_ aP sd.s) sh.s;have aS:=zt' J hu;obtain ⟨_,bT,bv⟩:=bdS bu;refine E z (fc call6 z<|k_8 (B:=B) bT aS<|L.g aR) ?_;rintro _ aT ⟨sb,W,Y,a0,bU,rfl,hx,bV,hp⟩;refine E z (fa l_F) ?_;rintro _ bW ⟨rfl,aU⟩;have I:=aU.below;refine E0 (fs0 (cur':=[sl W Y a0]) v_ z z (aU.blk:Blk bW aT.z [sN]) z z z z) ?_;rintro _ _ ⟨bX,bY⟩;have ha:=bY.one;refine Wn<|Wm z ?_
 have hl:=lt_ hu sb.s;have aV:∀k∈[aT.z],¬B k:=or0 (f_ lr)<|p_<|zt' J hl;have aW:=((aR.e sb).e I).c ha<|e_ aV
 have hv:=lt_ (lt_ hl I.s) ha.s;have aX:=zt' J hv;obtain ⟨_,bZ,bw⟩:=bdS bv;refine E z (fc call7 z<|i_g (B:=B) bZ aX<|O.g aW) ?_;rintro _ c0 ⟨s8,_,_,_,c1,rfl,V,c2,hn⟩;refine Rw z<|Ws ?_
 have aY:=bX.e s8;refine R z (lN (vs:=[sl W Y a0]) w_ v_ z z fid<|aY.row 0 1 z)<|RM z z<|Rm z ?_
 have aZ:=((hx.e I).c ha<|ds<|mnr<|a_.lt hx).e s8;have b0:=lt_ I.s ha.s;have a1:=lt_ b0 s8.s;have b1:=((((((((hG.e H).e sf).e sg).e sd).e sh).e sb).e I).c ha<|e_ aV).e s8;have hw:=lt_ hv s8.s;have b2:=zt' J hw;obtain ⟨_,c3,bx⟩:=bdS bw;refine E z (fc call8 z<|W_w22 (B:=c0.z) c3 zr (b1.mono b2) (repS.mono (or_ aZ<|a_.lt hx)<|Y_ a1) (a_.rep V) a3 a4) ?_;rintro _ b3 ⟨s5,c4,c5,c6,c7,rfl,a2,c8,hk⟩;refine Rw z<|Wq<|Wm z<|Rm z ?_
 have ak:=((((ht.e sb).e I).c ha<|ds<|mno (a_.lt ht) sb.s).e s8).e s5;have al:=lt_ (lt_ sb.s I.s) ha.s;have b4:=lt_ al s8.s;have am:=lt_ b4 s5.s;obtain ⟨_,c9,az⟩:=bdS bx;refine E z (fc call9 z<|k_h (B:=b3.z) c9 zr (a_.rep a2)<|repS.mono (or_ ak<|a_.lt ht)<|Y_ am) ?_;rintro _ _ ⟨G,rfl⟩;refine R z (not_ z)<|Wx z (λa9=>?_) (λa9=>?_)
 .refine Ws<|Rw z ?_
  obtain rfl:=som<|ifT az a9;exact Wr<|c_ hr z ⟨bup (bup (bup (bM (bup (bup (bup (bup (bup (bup H sf) sg) sd) sh) sb) I) ha<|m1 hl) s8) s5) G,z⟩
 refine Wk<|Wq<|Wq (Wd (X:=noX) 0 (pl_ 5 [2,3]) mo (by kernel_rfl) λcD s1 _=>?_)
 have b5:=((aY.e s5).e G).e s1;refine dR z z (lN (vs:=[sl W Y a0]) w_ v_ z z fid<|b5.row 0 1 z) ?_;have b6:=lt_ (lt_ (lt_ sf.s sg.s) sd.s) sh.s;have b7:=lt_ b6 sb.s;have b8:=((((((aQ.e sb).e I).c ha<|djs<|mm1 hy.lt b7).e s8).e s5).e G).e s1;refine dR z z (lN (vs:=[sl A0 N0 C0]) g_24 z_24 z z fid<|b8.row 0 1 z) ?_;have b9:=(((aW.e s8).e s5).e G).e s1;have ba:=lt_ (lt_ (lt_ hw s5.s) G.s) s1.s;obtain ⟨_,ca,bz⟩:=bdS<|ifF az a9;refine dE z z (fc call6 z<|k_8 ca (zt' J ba)<|L.g b9) (.inr λ_ _ h=>C_<|h.1) ?_;rintro _ cb ⟨s2,_,_,_,_,rfl,cc,_,_⟩;have bb:=(((aZ.e s5).e G).e s1).e s2;obtain ⟨_,cd,aA⟩:=bdS bz;refine dE z z (fc call10 z<|W_w45 (B:=cb.z) cd zr (repS.mono (or_ bb<|a_.lt hx)<|Y_<|lt_ (lt_ (lt_ (lt_ a1 s5.s) G.s) s1.s) s2.s)<|a_.rep cc) (.inr λ_ _ h=>C_<|h.1) ?_;rintro _ _ ⟨s3,rfl⟩;refine dR z z (not_ z)<|pD<|Wo<|Wc z (λaa=>?_) (λaa=>?_)
 .refine Ws<|Rw z ?_
  obtain rfl:=som<|ifT aA aa;exact Wr<|c_ hr z ⟨bup (bup (bup (bup (bup (bup (bM (bup (bup (bup (bup (bup (bup H sf) sg) sd) sh) sb) I) ha<|m1 hl) s8) s5) G) s1) s2) s3,z⟩
 refine Wk<|Wq<|Wm z<|Rm z ?_
 have bc:=(b9.e s2).e s3;have be:=lt_ (lt_ ba s2.s) s3.s;obtain ⟨_,ce,bA⟩:=bdS<|ifF aA aa;refine E z (fc call7 z<|i_g ce (zt' J be)<|O.g bc) ?_;rintro _ cf ⟨s4,_,_,_,_,rfl,cg,_,_⟩;have bf:=(((((V.e s5).e G).e s1).e s2).e s3).e s4;obtain ⟨_,ch,aB⟩:=bdS bA;refine E z (fc call11 z<|W_w23 (B:=cf.z) ch zr (repS.mono (or_ bf<|a_.lt V)<|Y_<|lt_ (lt_ (lt_ (lt_ (lt_ s5.s G.s) s1.s) s2.s) s3.s) s4.s)<|a_.rep cg) ?_;rintro _ _ ⟨s6,rfl⟩;refine R z (not_ z)<|Wx z (λab=>?_) (λab=>?_)
 .refine Ws<|Rw z ?_
  obtain rfl:=som<|ifT aB ab;exact Wr<|c_ hr z ⟨bup (bup (bup (bup (bup (bup (bup (bup (bM (bup (bup (bup (bup (bup (bup H sf) sg) sd) sh) sb) I) ha<|m1 hl) s8) s5) G) s1) s2) s3) s4) s6,z⟩
 refine Wk<|Ws<|Rw z<|Ws<|R z (lN (vs:=[sl W Y a0]) w_ v_ z z fid<|((((b5.e s2).e s3).e s4).e s6).row 0 1 z)<|Rm z ?_
 have an:∀k∈bU,¬B k:=or0 hp<|p_ aS;have bg:=lt_ (lt_ be s4.s) s6.s;obtain ⟨_,_,ci,bB⟩:=a_8<|ifF aB ab;refine E z (fc call12 z<|W_w47 ci (zt' J bg) (((bb.e s3).e s4).e s6) bV an<|ii z) ?_;rintro _ _ ⟨sc,_,rfl,cj,_,_,_⟩;refine Rw z<|Wm z<|Rm z ?_
 have ao:∀k∈c1,¬B k:=or0 hn<|p_ aX;have bh:=lt_ bg sc.s;obtain ⟨ck,_,cl,bC⟩:=a_8 bB;refine E z (fc call13 z<|W_w25 cl (zt' J bh) ((bf.e s6).c sc<|a_M hn (a_.lt hx) b0) c2 ao cj) ?_;rintro _ ap ⟨se,_,rfl,_,_,_,_⟩;refine Rw z<|Wq<|Wq ?_
 obtain ⟨cm,aC,aD⟩:=bdS bC;refine Wt (λa w=>∃(aq:Bool),aq=cm/\Sat 106 [(1,sl A5 N5 C5),(2,Str.v x3),(3,Str.v x4),(4,pt w0.z),(10,sl bQ bR bS),(13,sl c4 c5 c6),(75,vB aq)] a/\Below ap.z ap w) ?_ ?_
 .refine Wg<|Rm z<|Rl z z z<|Rm z ?_
  rcases bs (decide<|ck<0) with hcr | hcr
  .iterate 4 refine Nh z hcr ?_
   exact R z (pT z hcr z)<|Wl (λ_ q=>⟨true,som<|ifT aC hcr,q.k<|s7 z z z z z z z,br ap⟩)
  refine Rh z hcr (mv z)<|Rh z hcr (mv z) ?_
  obtain ⟨cn,co,bD⟩:=bdS<|ifF aC hcr;refine Eg z z hcr z (fc call9 z<|k_h (B:=b3.z) co (Y_<|lt_ (lt_ (lt_ (lt_ (lt_ (lt_ (lt_ G.s s1.s) s2.s) s3.s) s4.s) s6.s) sc.s) se.s) (or_ ((((((((a2.e G).e s1).e s2).e s3).e s4).e s6).c sc<|a_M hk (a_.lt hx) a1).c se<|a_M hk (a_.lt V) lr)<|a_.lt a2)<|repS.mono (or_ ((((((((ak.e G).e s1).e s2).e s3).e s4).e s6).c sc<|ds<|a_M hp (a_.lt ht) lr).c se<|ds<|a_M hn (a_.lt ht) al)<|a_.lt ht)<|Y_ am) ?_;rintro _ _ ⟨cp,rfl⟩;exact Rh z hcr (not_ z)<|R z (pF z hcr z)<|Wl (λ_ q=>⟨!cn,som bD,q.k<|s7 z z z z z z z,cp⟩)
 rintro cq _ ⟨aq,rfl,_,si⟩;revert cq;refine Wo<|Wc z (λad=>?_) (λad=>?_)
 .refine Ws<|Rw z ?_
  obtain rfl:=som<|ifT aD ad;exact Wr<|c_ hr z ⟨bup (bM (bM (bup (bup (bup (bup (bup (bup (bup (bup (bM (bup (bup (bup (bup (bup (bup H sf) sg) sd) sh) sb) I) ha<|m1 hl) s8) s5) G) s1) s2) s3) s4) s6) sc<|n_ hp hu) se<|n_ hn hv) si,z⟩
 refine Wk<|Ws<|Rw z<|Wm z<|Rm z ?_
 have ar:∀k∈c7,¬B k:=or0 hk<|p_ b2;have bi:=lt_ (lt_ bh se.s) si.s;obtain ⟨_,_,cr,bE⟩:=a_8<|ifF aD ad;refine E z (fc call14 z<|W_w26 cr (zt' J bi) (((((((((a2.e G).e s1).e s2).e s3).e s4).e s6).c sc<|a_M hk (a_.lt hx) a1).c se<|a_M hk (a_.lt V) lr).e si) c8 ar<|ii z) ?_;rintro _ bj ⟨sm,_,rfl,_,au,_,_⟩;refine Rw z<|Ws<|Rw z<|Wm z<|Rm z ?_
 obtain ⟨_,ct,aE⟩:=bdS bE;refine E z (fc call15 z<|W_w28 (B:=bj.z) ct zr (a_.rep au)<|ii z) ?_;rintro _ _ ⟨sj,rfl,_⟩;refine Rw z<|Wq<|Wm z<|Rl z z z<|Wx z (λae=>?_) (λae=>?_)
 .refine Ws<|Rw z ?_
  obtain rfl:=som<|ifT aE ae;exact Wr<|c_ hr z ⟨bup (bM (bup (bM (bM (bup (bup (bup (bup (bup (bup (bup (bup (bM (bup (bup (bup (bup (bup (bup H sf) sg) sd) sh) sb) I) ha<|m1 hl) s8) s5) G) s1) s2) s3) s4) s6) sc<|n_ hp hu) se<|n_ hn hv) si) sm<|n_ hk hw) sj,z⟩
 have aF:=ifF aE ae;refine Wk<|Wq<|Wm z<|Rm z<|R z (nq z z)<|Wx z (λaf=>?_) (λaf=>?_)
 .refine Ws<|Rw z ?_
  obtain rfl:=som<|ifT aF af;exact Wr<|c_ hr z ⟨bup (bM (bup (bM (bM (bup (bup (bup (bup (bup (bup (bup (bup (bM (bup (bup (bup (bup (bup (bup H sf) sg) sd) sh) sb) I) ha<|m1 hl) s8) s5) G) s1) s2) s3) s4) s6) sc<|n_ hp hu) se<|n_ hn hv) si) sm<|n_ hk hw) sj,z⟩
 refine Wk<|Ws ?_
 have bk:=lt_ (lt_ b7 I.s) ha.s;refine R z (lN (vs:=[sl A0 N0 C0]) g_24 z_24 z z fid<|(((((((((b8.e s2).e s3).e s4).e s6).c sc<|djs<|t_ hp hy.lt b6).c se<|djs<|t_ hn hy.lt bk).e si).c sm<|djs<|t_ hk hy.lt<|lt_ bk s8.s).e sj).row 0 1 z) ?_;have bm:=((((((bc.e s4).e s6).c sc<|e_ an).c se<|e_ ao).e si).c sm<|e_ ar).e sj;have bn:=lt_ (lt_ bi sm.s) sj.s;obtain ⟨_,cu,bF⟩:=bdS<|ifF aF af;refine E z (fc call6 z<|k_8 cu (zt' J bn)<|L.g bm) ?_;rintro _ _ ⟨sq,_,_,_,_,rfl,bo,_,_⟩;refine Rm z ?_;have bp:=lt_ bn sq.s;obtain ⟨_,cv,bG⟩:=bdS bF;refine E z (fc call7 z<|i_g cv (zt' J bp)<|O.g<|bm.e sq) ?_;rintro _ cw ⟨so,_,_,_,_,rfl,cx,_,_⟩;refine RM z z ?_
 obtain ⟨_,cy,bH⟩:=bdS bG;refine E z (fc call8 z<|W_w22 (B:=cw.z) cy zr (((((((((((((((b1.e s5).e G).e s1).e s2).e s3).e s4).e s6).c sc<|e_ an).c se<|e_ ao).e si).c sm<|e_ ar).e sj).e sq).e so).mono<|zt' J<|lt_ bp so.s) (repS.mono (or_ (bo.e so)<|a_.lt bo)<|Y_ so.s) (a_.rep cx) a3 a4) ?_;rintro _ cz ⟨ss,_,_,_,_,rfl,cA,_,_⟩;refine Rw z<|Wq<|Wm z<|Rm z ?_
 obtain ⟨_,cB,aG⟩:=bdS bH;refine E z (fc call9 z<|k_h (B:=cz.z) cB zr (a_.rep cA)<|repS.mono (or_ ((((((((((((((ak.e G).e s1).e s2).e s3).e s4).e s6).c sc<|ds<|a_M hp (a_.lt ht) lr).c se<|ds<|a_M hn (a_.lt ht) al).e si).c sm<|ds<|a_M hk (a_.lt ht) b4).e sj).e sq).e so).e ss)<|a_.lt ht)<|Y_<|lt_ (lt_ (lt_ (lt_ (lt_ (lt_ (lt_ (lt_ (lt_ (lt_ (lt_ (lt_ (lt_ (lt_ am G.s) s1.s) s2.s) s3.s) s4.s) s6.s) sc.s) se.s) si.s) sm.s) sj.s) sq.s) so.s) ss.s) ?_;rintro _ _ ⟨sz,rfl⟩;refine R z (not_ z)<|Wx z (λah=>?_) (λah=>?_)
 .refine Ws<|Rw z ?_
  obtain rfl:=som<|ifT aG ah;exact Wr<|c_ hr z ⟨bup (bup (bup (bup (bup (bM (bup (bM (bM (bup (bup (bup (bup (bup (bup (bup (bup (bM (bup (bup (bup (bup (bup (bup H sf) sg) sd) sh) sb) I) ha<|m1 hl) s8) s5) G) s1) s2) s3) s4) s6) sc<|n_ hp hu) se<|n_ hn hv) si) sm<|n_ hk hw) sj) sq) so) ss) sz,z⟩
 refine Wk<|Ws<|Rw z<|Wm z<|Rm z ?_
 obtain ⟨_,cC,aH⟩:=bdS<|ifF aG ah;refine E z (fc call15 z<|W_w28 (B:=bj.z) cC (Y_<|lt_ (lt_ (lt_ (lt_ sj.s sq.s) so.s) ss.s) sz.s) (or_ (((((au.e sj).e sq).e so).e ss).e sz)<|a_.lt au)<|ii z) ?_;rintro _ _ ⟨av,rfl,_⟩;refine Rw z<|Wq<|Wm z<|Rl z z z<|Wx z (λai=>?_) (λai=>?_)
 .refine Ws<|Rw z ?_
  obtain rfl:=som<|ifT aH ai;exact Wr<|c_ hr z ⟨bup (bup (bup (bup (bup (bup (bM (bup (bM (bM (bup (bup (bup (bup (bup (bup (bup (bup (bM (bup (bup (bup (bup (bup (bup H sf) sg) sd) sh) sb) I) ha<|m1 hl) s8) s5) G) s1) s2) s3) s4) s6) sc<|n_ hp hu) se<|n_ hn hv) si) sm<|n_ hk hw) sj) sq) so) ss) sz) av,z⟩
 have aI:=ifF aH ai;refine Wk<|Wq<|Wm z<|Rm z<|R z (nq z z)<|Wx z (λaj=>?_) (λaj=>?_)
 .refine Ws<|Rw z ?_
  obtain rfl:=som<|ifT aI aj;exact Wr<|c_ hr z ⟨bup (bup (bup (bup (bup (bup (bM (bup (bM (bM (bup (bup (bup (bup (bup (bup (bup (bup (bM (bup (bup (bup (bup (bup (bup H sf) sg) sd) sh) sb) I) ha<|m1 hl) s8) s5) G) s1) s2) s3) s4) s6) sc<|n_ hp hu) se<|n_ hn hv) si) sm<|n_ hk hw) sj) sq) so) ss) sz) av,z⟩
 refine Wk<|Ws<|Rw z ?_
 obtain rfl:=som<|ifF aI aj;exact Wr<|c_ hr z ⟨bup (bup (bup (bup (bup (bup (bM (bup (bM (bM (bup (bup (bup (bup (bup (bup (bup (bup (bM (bup (bup (bup (bup (bup (bup H sf) sg) sd) sh) sb) I) ha<|m1 hl) s8) s5) G) s1) s2) s3) s4) s6) sc<|n_ hp hu) se<|n_ hn hv) si) sm<|n_ hk hw) sj) sq) so) ss) sz) av,z⟩
end Go.Vw
