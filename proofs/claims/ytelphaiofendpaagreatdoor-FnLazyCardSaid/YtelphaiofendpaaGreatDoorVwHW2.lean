
import Derived.Test.YtelphaiofendpaaGreatDoorVwHW1
set_option linter.unusedVariables false
namespace Go.Vw
open Go.RowKit Dat Go.Proofs
open Go.Proofs.Tryz
open Go.Vw renaming b_g->Wq,b_J->Wg,WC.of_KC->Wo,b_h->Wl,d_e->Wc,e_8->Wr,g_Z->Wu,i_D->pT,i_E->pF,h_2->fd,c_J->l1,j_7->lN,c_h->mv,d_Q->asg,g_N->lnR,f_F->lss,h_5->eql,h_3->ext_,i_G->bP,h_4->add_,g_J->inc_,e_Y->not_,g_O->at_,f_o->fc,c_3->fs,f_n->fb,e_K->fa,i_x->sr,i_B->cr,i_C->cM,d_G->bM,i_q->iS,i_p->iA,g_I->br,c_c->oA,i_t->bs,ltge->lg,inor->io,h_6->nq,j_8->lnT,j_9->sb_,i_v->ar_,i_u->al_,i_w->ds,j_N->m1,i_z->nr_,i_y->nl_,g_L->aa_,d_F->an_,e_9->Wb,g_K->u8,i_m->pD,g_v->We,i_r->Wt,g_D->fS,g_r->or_,j_5->Wf,i_L->qL,i_l->Wd,i_H->fN,g_M->na_,i_A->nj,f_v->f0,i_F->rX,i_I->tl_,i_J->ic
variable {A0:Option Addr}{N0 C0:Nat}{B:Zone}{w0:World}{n:Nat}{A6:Option Addr}{N6 C6:Nat}{AB:Option Addr}{AA:Option Addr}{AC:Option Addr}{AD:Option Addr}{NB CB:Nat}{NA CA:Nat}{NC CC:Nat}{ND CD:Nat}{A2:Option Addr}{A3:Option Addr}{A1:Option Addr}{A5:Option Addr}{N2 C2:Nat}{N3 C3:Nat}{N1 C1:Nat}{N5 C5:Nat}{A7:Option Addr}{A8:Option Addr}{N7 C7:Nat}{N8 C8:Nat}{AE:Option Addr}{AF:Option Addr}{NE CE:Nat}{NF CF:Nat}{A9:Option Addr}{N9 C9:Nat}{A4:Option Addr}{N4 C4:Nat}
theorem T_w0h (ay:m_y n):k_m (h_n n<|f_5 n):=by
 constructor
 intro A0 N0 C0 B x1 x2 res w0 hm V a0 cX;unfold h_n at hm
 refine goG func77 z z z λfn hr=>Ws<|E z (fb z) ?_
 rintro _ wl ⟨rfl,az⟩;have h5:=az.below;have hx:Blk wl w0.z [sl A0 N0 C0]:=az.blk;refine E z (fa a_4) ?_;rintro _ wi ⟨rfl,aA⟩;have h6:=aA.below;have J:Blk wi wl.z [vI 0,sN,sN]:=aA.blk;refine Wn<|Ws<|Rf z a_3 z ?_
 have a5:=hx.e h6;refine R z (l0 a_8 z<|a5.at z)<|Rm z ?_
 obtain ⟨xr,bO,aq⟩:=bdS hm;have a6:=(h5.ag B).e h6;refine RX z (at_ (α:=g_) a_a o_ z z z (a0.g a6) bO) ?_;rintro _ ⟨_,_,_,rfl,bQ,bR,_⟩;obtain ⟨aB,aC,aD,aE,aF,aG,aH,aI,aJ,aK,aL,aM,rfl,_,_,_,_,_,bS,hp⟩:=a_D bR;refine R z (lN (vs:=vR xr aB aC aD aE aF aG aH aI aJ aK aL aM) L_ o_ z z fid bQ)<|E z (fa b_P) ?_
 rintro _ bT ⟨rfl,aN⟩;have h1:=aN.below;have a7:Blk bT wi.z [(Str.v (⟨[]⟩:Str)),vI 0,vI 0,vB false,sN,sN,sN,sN]:=aN.blk;refine E0 (fs0 (cur':=vR xr aB aC aD aE aF aG aH aI aJ aK aL aM) o_ z z a7 z z z z) ?_;rintro _ wq ⟨ht,bU⟩;have G:=bU.one;refine Wn<|Wq<|Ws<|Rf z a_u z<|R z (l0 g_3 z<|ht.at z)<|Wn<|Wb<|Ws<|Rq z z z<|Rw z<|Wc z (λa1=>?_) (λa1=>?_)
 .refine Ws<|Rf z a_F z<|R z (l0 g_3 z<|ht.at z) ?_
  obtain ⟨_,bV,bz⟩:=bdS<|ifT aq a1;refine E z (m_k (α:=UInt8) a_2 (λ_=>p_s) bV z z) ?_;rintro _ _ ⟨a8,a9,ab,rfl,aO,bW⟩;refine R z (bP (parts:=[(1,.tmp 19)]) (cs:=[vI 0,sl a8 a9 ab,sN]) Y_ z z)<|E0 (fs0 (cur':=[vI 0,sl a8 a9 ab,sN]) h_ z z (((J.e h1).c G<|djs<|mmr J.lt).e aO) z z z z) ?_
  rintro _ _ ⟨bX,bY⟩;have aP:=bY.one;refine Wn ?_;obtain rfl:=som bz;have aQ:=lt_ h5.s h6.s;exact Wr<|rtO<|e_ hr (s_ q_ h_ z bX z) ⟨bM (bup (bM (bup (bup h5 h6) h1) G<|m1 aQ) aO) aP<|m1 h5.s,a8,a9,ab,[wq.z],none,0,0,[],z,ii z,bW.c aP<|mm1 J.lt<|lt_ h1.s G.s,onL,na_ a_y G_<|nmN _,aa_ (m1<|lt_ (lt_ aQ h1.s) G.s) an_⟩
 have ar:=ifF aq a1;refine Ws<|Rq z z z<|Rw z<|Wc z (λa2=>?_) (λa2=>?_)
 .refine Wq<|Wd (X:=noX) 4096 (pl_ 13 [9,10,12]) mo (by kernel_rfl) λcY sf _=>dR z z (fd b_1 z) ?_;have aR:=ht.e sf;refine dR z z (l0 A_ z<|aR.at z) ?_;obtain ⟨aS,bZ,bA⟩:=bdS<|ifT ar a2;have ad:=lt_ h5.s h6.s;have aT:∀k∈[wi.z],¬B k:=or0 (c_ lr)<|k_<|zt' V ad;have aU:=((h1.ag B).c G<|b_ aT).e sf;refine dRX z z (at_ (α:=Int) v_ z_3 z z z (bS.g aU) bZ) ?_;rintro _ ⟨_,_,_,rfl,c0,c1,_⟩;obtain ⟨rfl,c2⟩:=O_ c1;refine dR z z (l0 g_3 z<|c0.at0 z)<|dR z z (lN (vs:=[sl A0 N0 C0]) t_ r_ z z fid<|(((a5.e h1).c G<|djs<|mm1 hx.lt h6.s).e sf).row 0 1 z)<|dR z z (fd J_ z)<|dR z z (l0 A_ z<|aR.at z) ?_
  obtain ⟨_,c3,bB⟩:=bdS bA;refine dRX z z (at_ (α:=Int) v_ z_3 z z z (hp.g aU) c3) ?_;rintro _ ⟨_,_,_,rfl,c4,c5,_⟩;obtain ⟨rfl,c6⟩:=O_ c5;refine dR z z (l0 g_3 z<|c4.at0 z) ?_;have hy:=lt_ (lt_ (lt_ ad h1.s) G.s) sf.s;obtain ⟨aV,c7,bC⟩:=bdS bB;refine dE z z (fc call77 z<|ay.run c7 (zt' V hy) (a0.g<|((a6.e h1).c G<|b_ aT).e sf) c6) (.inr λ_ _ h=>p_<|h.1) ?_;rintro _ wm ⟨sz,c8,c9,ca,ae,cb,cd,ce,af,rfl,cf,aW,aX,ah,W⟩;refine dE z z (fS [(.tmp 32)] c_4 z z z (a_e z) (lb z)<|lb z) (.inr λ_ _ h=>p_<|h.2.below) ?_;rintro _ cg ⟨rfl,ai⟩;have aY:=ai.below;have cZ:Blk cg wm.z [vI aV.number,sl c8 c9 ca,sl cb cd ce]:=ai.blk;refine dR z z (bP (parts:=[(0,.tmp 26),(2,.tmp 33)]) (cs:=[vI aS,sN,sl (some ⟨wm.z,0,none⟩) 1 1]) Y_ z z)<|dE0 z (fs0 (cur':=[vI aS,sN,sl (some ⟨wm.z,0,none⟩) 1 1]) h_ z z (((((J.e h1).c G<|djs<|mmr J.lt).e sf).e sz).e aY) z z z z) (.inl z) ?_
  rintro _ _ ⟨ch,ci⟩;have aZ:=ci.one;refine pD<|Wo ?_
  obtain rfl:=som bC;have aj:=lt_ (lt_ h1.s G.s) sf.s;exact Wr<|rtO<|e_ hr (s_ q_ h_ z ch z) ⟨bM (bup (bup (bup (bM (bup (bup h5 h6) h1) G<|m1 ad) sf) sz) aY) aZ<|m1 h5.s,none,0,0,[],some ⟨wm.z,0,none⟩,1,1,(wm.z::(ae++af)),z,c2,onL,(a_J ai<|d_C (x:=aV) (S1:=ae) (S2:=af) cf aW aX).c aZ (or1 e_j (aa_ (j_ (al_ W) J.lt aj)<|j_ (ar_ W) J.lt aj) (U_ (c_ J.lt)<|lt_ aj sz.s):∀k∈(wm.z::(ae++af)),k∉[wl.z]),na_ G_ (i_M (na_ (nl_ ah) (nr_ ah)<|nj ah)<|aa_ (a_.lt aW)<|a_.lt aX) an_,aa_ an_<|a_s e_j (aa_ (m_ (al_ W) hy)<|m_ (ar_ W) hy)<|lt_ hy sz.s⟩
 refine Wq<|Ws<|Rq z z z<|Rw z ?_
 obtain ⟨cj,au,av⟩:=bdS<|ifF ar a2;refine Wt (λa w=>∃(ak:Bool),ak=cj/\Sat 60 [(2,pt w0.z),(4,pt wl.z),(5,pt wi.z),(35,vB ak)] a/\Below wq.z wq w) ?_ ?_
 .refine Wc z (λa3=>?_)<|λa3=>?_
  .exact a_k<|λ_ q=>⟨xr.kind==6,som<|ifT au a3,q.k<|s4 z z z z,br wq⟩
  exact Wg<|Rq z z z<|Ra z<|Wl (λ_ q=>⟨xr.kind==9,som<|ifF au a3,q.k<|s4 z z z z,br wq⟩)
 rintro ck H ⟨ak,rfl,_,s3⟩;revert ck;refine Wo<|Wc z (λa4=>?_) (λa4=>?_)
 .refine Ws<|R z (bP (parts:=[]) (cs:=[vI 0,sN,sN]) Y_ z z)<|E z (fa a_4) ?_
  rintro _ cl ⟨rfl,b0⟩;have he:=b0.below;have hu:Blk cl H.z [vI 0,sN,sN]:=b0.blk;refine E0 (fs0 (cur':=[vI 0,sN,sN]) h_ z z hu z z z z) ?_;rintro _ I ⟨cm,cn⟩;have L:=cn.one;refine Wn<|Wq<|Ws<|Rw z ?_
  obtain ⟨_,bD,aw⟩:=bdS<|ifT av a4;refine Wf (σ:=List Val) (ρ:=Val) (λ(b1:Nat)(xn:List Val) a w=>∃aa nb cc O,Sat 60 [(2,pt w0.z),(4,pt wl.z),(5,pt wi.z),(6,pt H.z),(7,vI ((b1:Nat):Int))] a/\Cg [H.z] I w/\a_ w O (sl aa nb cc) xn/\O.Nodup/\(∀k∈O,I.z<=k)/\Blk w H.z [vI 0,sN,sl aa nb cc]) (λ(xn:List Val) a w=>∃aa nb cc O,Sat 60 [(4,pt wl.z),(6,pt H.z)] a/\Cg [H.z] I w/\a_ w O (sl aa nb cc) xn/\O.Nodup/\(∀k∈O,I.z<=k)/\Blk w H.z [vI 0,sN,sl aa nb cc]) (rQ prog fn<|Q12 w0 B) bD ?_ ?_ ?_ ?_ ?_
  .exact λ_ q=>⟨none,0,0,[],q.k<|s5 z z z z z,cr [H.z] I,onL,G_,an_,cm⟩
  .rintro b1 xn _ co _ ax ⟨aa,nb,cc,O,bE,sg,hj,hv,hh,hw⟩ bF;refine Wu ?_ bE;refine Wq<|Wm z<|Rf z J_ z ?_
   have b2:=mm1 a7.lt<|lt_ G.s s3.s
   have b3:=(((ht.e s3).e he).c L<|djs b2).c sg<|djs b2
   refine R z (l0 A_ z<|b3.at z) ?_;have b4:=lt_ h5.s h6.s;have b5:∀k∈[wi.z],¬B k:=or0 (c_ lr)<|k_<|zt' V b4;have b6:=lt_ (lt_ (lt_ b4 h1.s) G.s) s3.s;have Y:∀k∈[H.z],¬B k:=or0 (c_ lr)<|k_<|zt' V b6;have b7:=(((((h1.ag B).c G<|b_ b5).e s3).e he).c L<|b_ Y).c sg<|b_ Y
   refine R z (lnR v_ z<|hp.g b7)<|Rl z z z<|Wx z (λ_=>?_) (λhc=>(a_6 ax hc).elim)
   refine Wk<|Wq<|Wb (Wd (X:=noX) 5120 (pl_ 13 [8,9,10,12]) mo (by kernel_rfl) λcp sd _=>dR z z (fd V_ z) ?_)
   have b8:=hw.e sd;refine dR z z (l0 a_9 z<|b8.at z) ?_;have b9:=mm1 hx.lt<|lt_ (lt_ (lt_ h6.s h1.s) G.s) s3.s
   refine dR z z (lN (vs:=[sl A0 N0 C0]) t_ r_ z z fid<|(((((((a5.e h1).c G<|djs<|mm1 hx.lt h6.s).e s3).e he).c L<|djs b9).c sg<|djs b9).e sd).row 0 1 z)<|dR z z (fd J_ z)<|dR z z (l0 A_ z<|(b3.e sd).at z)<|dM z z z ?_
   obtain ⟨_,cq,bG⟩:=bdS bF;refine dRX z z (at_ (α:=Int) v_ z_3 z z z (hp.g<|b7.e sd) cq) ?_;rintro _ ⟨_,_,_,rfl,ct,cu,_⟩;obtain ⟨rfl,cv⟩:=O_ cu;refine dR z z (l0 g_3 z<|ct.at0 z) ?_;obtain ⟨ba,cw,bH⟩:=bdS bG;refine dE z z (fc call77 z<|ay.run cw (zt' V<|lt_ (lt_ (lt_ (lt_ b6 he.s) L.s) sg.s) sd.s) (a0.g<|((((((a6.e h1).c G<|b_ b5).e s3).e he).c L<|b_ Y).c sg<|b_ Y).e sd) cv) (.inr λ_ _ h=>p_<|h.1) ?_;rintro _ bb ⟨ss,cx,cy,cz,cA,cB,cC,cD,cE,rfl,cF,cG,cH,al,ho⟩;refine dE z z (fS [(.tmp 54)] c_4 z z z (a_e z) (lb z)<|lb z) (.inr λ_ _ h=>p_<|h.2.below) ?_;rintro _ bc ⟨rfl,be⟩;have hk:=be.below;obtain ⟨cI,cJ,bI⟩:=bdS bH;refine dE z z (a_X (α:=Val) c_4 cJ z z (((hj.e sd).e ss).e hk) hv (be.blk:Blk bc bb.z [vI ba.number,sl cx cy cz,sl cB cC cD]) (d_C (x:=ba) (S1:=cA) (S2:=cE) cF (cG.e hk)<|cH.e hk) (aa_ (b_H (al_ ho) (a_.lt hj) sd.s)<|b_H (ar_ ho) (a_.lt hj) sd.s)<|na_ (nl_ al) (nr_ al)<|nj al) (.inl z) ?_;rintro _ cK ⟨am,bf,bg,bh,rfl,bi,cL,cN,bj⟩;refine dR z z (fd V_ z) ?_;have bk:=j_ hh hu.lt L.s;refine dE0 z (fs0 (cur':=[vI 0,sN,sl bf bg bh]) d_K z z (((b8.e ss).e hk).c bi<|djs bk) z z z z) (.inl z) ?_;rintro _ cO ⟨cP,cQ⟩;have bm:=cQ.one;refine pD<|Wo<|Wg<|Rm z<|R z (inc_ ax (lt_ (repS.len hp) M_) z z)<|Ra z<|Wl ?_
   have an:=lt_ (lt_ L.s sg.s) sd.s;have ao:=lt_ sg.s sd.s;exact λ_ q=>⟨cI,(som bI).symm,⟨bf,bg,bh,am,q.k<|s5 z z z z z,(cM (cM (f_ (f_ (f_ (cM (cr [H.z] I) sg (io sr):Cg [H.z] I co) sd:Cg [H.z] I cp) ss:Cg [H.z] I bb) hk:Cg [H.z] I bc) bi (or0 hh (B_ lr):∀k∈O,k∈[H.z]∨I.z<=k):Cg [H.z] I cK) bm (io sr):Cg [H.z] I cO),cL.c bm (or2 bj bk (aa_ (j_ (al_ ho) hu.lt an)<|j_ (ar_ ho) hu.lt an) (U_ (c_ hu.lt)<|lt_ (lt_ an ss.s) hk.s):∀k∈am,k∉[H.z]),cN,(or2 bj hh (aa_ (m_ (al_ ho) ao)<|m_ (ar_ ho) ao) (b_o<|lt_ (lt_ ao ss.s) hk.s):∀k∈am,I.z<=k),cP⟩⟩
  .rintro xn _ cR ⟨aa,nb,cc,O,bJ,ap,hj,hv,hh,hw⟩;refine Wu ?_ bJ;refine Wq<|Wm z<|Rf z J_ z ?_
   have bn:=mm1 a7.lt<|lt_ G.s s3.s
   refine R z (l0 A_ z<|((((ht.e s3).e he).c L<|djs bn).c ap<|djs bn).at z) ?_;have bo:=lt_ h5.s h6.s;have bp:∀k∈[H.z],¬B k:=or0 (c_ lr)<|k_<|zt' V<|lt_ (lt_ (lt_ bo h1.s) G.s) s3.s;refine R z (lnR v_ z<|hp.g<|(((((h1.ag B).c G<|b_ (or0 (c_ lr) (k_<|zt' V bo):∀k∈[wi.z],¬B k)).e s3).e he).c L<|b_ bp).c ap<|b_ bp)<|Rl z z z<|Wx z (λhc=>(a_7 hc).elim) (λ_=>?_)
   exact We<|λ_ q=>⟨rfl,⟨aa,nb,cc,O,q.k<|s2 z z,(cM (cr [H.z] I) ap (io sr):Cg [H.z] I cR),hj,hv,hh,hw⟩⟩
  .rintro xn cS _ rfl ⟨aa,nb,cc,O,_,bq,hj,hv,hh,hw⟩;have bK:=elL aw;revert cS;refine Wo<|Ws<|R z (lN (vs:=[vI 0,sN,sl aa nb cc]) q_ h_ z z fid<|hw.row 0 3 z) ?_
   have bs:=lt_ (lt_ h1.s G.s) s3.s;have bt:=mm1 J.lt bs;refine E0 (fs0 (cur':=[vI 0,sN,sl aa nb cc]) h_ z z ((((((J.e h1).c G<|djs<|mmr J.lt).e s3).e he).c L<|djs bt).c bq<|djs bt) z z z z) ?_;rintro _ _ ⟨cT,cU⟩;have bu:=cU.one;refine Wn ?_;obtain rfl:=som bK;have bv:=lt_ h5.s h6.s;have bw:=lt_ (lt_ (lt_ bv h1.s) G.s) s3.s;have bx:=m1 bw;exact Wr<|rtO<|e_ hr (s_ q_ h_ z cT z) ⟨bM (bM (bM (bup (bup (bM (bup (bup h5 h6) h1) G<|m1 bv) s3) he) L bx) bq bx) bu<|m1 h5.s,none,0,0,[],aa,nb,cc,O,z,ii z,onL,hj.c bu<|j_ hh J.lt<|lt_ (lt_ bs he.s) L.s,na_ G_ hv an_,aa_ an_<|m_ hh<|lt_ (lt_ bw he.s) L.s⟩
  rintro _ _ _ _ rfl ⟨rfl,bL⟩;have bN:=elR aw;obtain rfl:=som bN;exact ⟨bL,z⟩
 refine Wk<|Ws<|R z (bP (parts:=[]) (cs:=[vI 0,sN,sN]) Y_ z z)<|E0 (fs0 (cur':=[vI 0,sN,sN]) h_ z z (((J.e h1).c G<|djs<|mmr J.lt).e s3) z z z z) ?_
 rintro _ _ ⟨cV,cW⟩;refine Wn ?_;obtain rfl:=som<|ifF av a4;exact Wr<|e_ hr (s_ q_ h_ z cV z) ⟨bM (bup (bM (bup (bup h5 h6) h1) G<|m1<|lt_ h5.s h6.s) s3) cW.one<|m1 h5.s,none,0,0,[],none,0,0,[],z,ii z,onL,onL,nd0,al0⟩
theorem A_w0h:∀n,m_y n
  | 0=>⟨λhm=>by intros;exact nomatch (show none=some _ from hm)⟩
  | n+1=>T_w0h<|A_w0h n
theorem W_w0h:k_m (f_5 n).spec_l9Default:=A_w0h n
theorem W_w2l {x1:d_}{x2:Int}{res:Val}(hm:j_I n x1 x2=some res)(V:B<=w0.z)(L:repS w0 B (sl A0 N0 C0) x1.rules)(O:inI x2):l_ prog 46 [(.agg #[sl A0 N0 C0]),vI x2] w0 (Q12 w0 B res):=by
 unfold j_I at hm
 refine goG func46 z z z λfn hr=>Ws<|E z (fb z) ?_
 rintro _ W ⟨rfl,ha⟩;have h1:=ha.below;refine E z (fa a_4) ?_;rintro _ wo ⟨rfl,hb⟩;have h2:=hb.below;have h3:Blk wo W.z [vI 0,sN,sN]:=hb.blk;refine Wn<|Wq<|Ws ?_
 have hc:=(ha.blk:Blk W w0.z [sl A0 N0 C0]).e h2;refine R z (lN (vs:=[sl A0 N0 C0]) t_ r_ z z fid<|hc.row 0 1 z)<|Rm z ?_
 have hd:=(h1.ag B).e h2;have he:=lt_ h1.s h2.s;obtain ⟨_,ep,hmf⟩:=bdS hm;refine E z (fc call49 z<|i_V ep (zt' V he) (L.g hd) O) ?_;rintro _ _ ⟨G,rfl⟩;refine R z (not_ z)<|Wx z (λH=>?_) (λH=>?_)
 .refine Ws<|R z (bP (parts:=[]) (cs:=[vI 0,sN,sN]) Y_ z z)<|E0 (fs0 (cur':=[vI 0,sN,sN]) h_ z z (h3.e G) z z z z) ?_
  rintro _ _ ⟨hq,sr⟩;refine Wn ?_;obtain rfl:=som<|ifT hmf H;exact Wr<|e_ hr (s_ q_ h_ z hq z) ⟨bM (bup (bup h1 h2) G) sr.one<|m1 h1.s,none,0,0,[],none,0,0,[],z,ii z,onL,onL,nd0,al0⟩
 refine Wk<|Ws<|R z (lN (vs:=[sl A0 N0 C0]) t_ r_ z z fid<|(hc.e G).row 0 1 z)<|Rm z ?_
 have h6:=lt_ he G.s;obtain ⟨rs,et,hmu⟩:=bdS<|ifF hmf H;refine E z (fc call77 z<|W_w0h.run et (zt' V h6) (L.g<|hd.e G) O) ?_;rintro _ _ ⟨sg,ah,ni,cj,Sv,ak,nl,cm,Sw,rfl,hx,hy,hz,I,h4⟩;refine E0 (fs0 (cur':=[vI rs.number,sl ah ni cj,sl ak nl cm]) h_ z z ((h3.e G).e sg) z z z z) ?_;rintro _ _ ⟨Y,a0⟩;have J:=a0.one;refine Wn ?_;obtain rfl:=som hmu;exact Wr<|e_ hr (s_ q_ h_ z Y z) ⟨bM (bup (bup (bup h1 h2) G) sg) J<|m1 h1.s,ah,ni,cj,Sv,ak,nl,cm,Sw,z,hx,hy.c J<|j_ (al_ h4) h3.lt G.s,hz.c J<|j_ (ar_ h4) h3.lt G.s,na_ (nl_ I) (nr_ I)<|nj I,aa_ (m_ (al_ h4) h6)<|m_ (ar_ h4) h6⟩
theorem W_w2m {x1:d_}{x2:g_}{x3:Val}{res:Bool}(hm:f_6 x1 x2 x3=some res)(a0:B<=w0.z)(aq:repS w0 B (sl A0 N0 C0) x1.rules)(bg:x2.name.b.length<=LEN)(bh:inI x2.kind)(ar:inI x2.size)(bi:repS w0 B (sl A2 N2 C2) x2.bytes)(bj:repS w0 B (sl A3 N3 C3) x2.names)(bk:repS w0 B (sl A1 N1 C1) x2.tags)(a1:repS w0 B (sl A5 N5 C5) x2.kids)(au:inI x3.number)(W:repS w0 B (sl A7 N7 C7) x3.bytes)(Y:repS w0 B (sl A8 N8 C8) x3.items):l_ prog 102 [(.agg #[sl A0 N0 C0]),.agg #[Str.v x2.name,vI x2.kind,vI x2.size,vB x2.little,sl A2 N2 C2,sl A3 N3 C3,sl A1 N1 C1,sl A5 N5 C5],(.agg #[vI x3.number,sl A7 N7 C7,sl A8 N8 C8])] w0 (Q0 w0 B res):=by
 unfold f_6 at hm
 refine goG func102 z z z λfn hr=>Ws<|E z (fb z) ?_
 rintro _ aX ⟨rfl,aY⟩;have h3:=aY.below;have aZ:Blk aX w0.z [sl A0 N0 C0]:=aY.blk;refine E z (fb z) ?_;rintro _ b0 ⟨rfl,b1⟩;have h2:=b1.below;refine E z (fb z) ?_;rintro _ G ⟨rfl,b2⟩;have H:=b2.below;have h4:Blk G b0.z [vI x3.number,sl A7 N7 C7,sl A8 N8 C8]:=b2.blk;refine Rw z<|Wq<|Ws<|Rf z a_u z ?_
 have ht:=(b1.blk:Blk b0 aX.z (vR x2 A2 N2 C2 A3 N3 C3 A1 N1 C1 A5 N5 C5)).e H;refine R z (l0 g_3 z<|ht.at z)<|Wn<|Wb<|Ws<|Rq z z z<|Rw z<|Wc z (λa2=>?_) (λa2=>?_)
 .refine Wq ?_;obtain ⟨bH,bm,bn⟩:=bdS<|ifT hm a2;refine Wt (λa w=>∃(ab:Bool),ab=bH/\Sat 202 [(6,vB ab)] a/\Below G.z G w) ?_ ?_
  .refine Wd (X:=noX) 0 (pl_ 20 [4,6]) mo (by kernel_rfl) λcz sr _=>dR z z (fd a_S z) ?_
   have b3:=h4.e sr;refine dR z z (l0 g_3 z<|b3.at z)<|dR z z (fd a_F z)<|dR z z (l0 g_3 z<|(ht.e sr).at z) ?_
   have b4:=lt_ (lt_ (lt_ h3.s h2.s) H.s) sr.s;obtain ⟨_,bI,bo⟩:=bdS bm;refine dE z z (fc call41 z<|i_T bI (zt' a0 b4) ar) (.inr λ_ _ h=>p_<|h.1) ?_;rintro _ _ ⟨ss,rfl,_⟩;refine dR z z (sb_ z z) ?_;obtain ⟨bJ,bK,av⟩:=bdS bo;refine dE z z (fc call50 z<|b_t bK (zt' a0<|lt_ b4 ss.s) au (ii z)<|iS _ _) (.inr λ_ _ h=>p_<|h.1) ?_;rintro _ _ ⟨sv,rfl⟩;refine dM z z z ?_
   rcases bs bJ with hca | hca
   .have aw:=ifT av hca;refine dRg z z z hca z (fd a_T z) ?_;have b5:=(b3.e ss).e sv;refine dRg z z z hca z (l0 R_ z<|b5.at z) ?_;have b6:=(((((h3.ag B).e h2).e H).e sr).e ss).e sv;refine dRg z z z hca z (lnR n_ z<|W.g b6)<|dRg z z z hca z (eql z z)<|dR z z (pT z hca z)<|dM z z z ?_
    rcases bs ((x3.bytes.length:Int)==0) with hcb | hcb
    .exact dRg z z z hcb z (fd V_ z)<|dRg z z z hcb z (l0 a_9 z<|b5.at z)<|dRg z z z hcb z (lnR a_i z<|Y.g b6)<|dRg z z z hcb z (eql z z)<|dR z z (pT z hcb z)<|dQ z z z<|pD (λ_ q=>⟨(x3.items.length:Int)==0,som<|ifT aw hcb,q.k<|s1 z,bup (bup sr ss) sv⟩)
    iterate 4 refine dRn z z z hcb z ?_
    exact dR z z (pF z hcb z)<|dQ z z z<|pD (λ_ q=>⟨false,som<|ifF aw hcb,q.k<|s1 z,bup (bup sr ss) sv⟩)
   iterate 4 refine dRn z z z hca z ?_
   refine dR z z (pF z hca z)<|dM z z z ?_
   iterate 4 refine dRn z z z z z ?_
   exact dR z z (pF z z z)<|dQ z z z<|pD (λ_ q=>⟨false,som<|ifF av hca,q.k<|s1 z,bup (bup sr ss) sv⟩)
  rintro bL _ ⟨ab,rfl,_,bM⟩;revert bL;refine Wo ?_;obtain rfl:=som bn;exact Wr<|rtO<|e_ hr z ⟨bup (bup (bup h3 h2) H) bM,z⟩
 have ax:=ifF hm a2;refine Ws<|Rq z z z<|Rw z<|Wc z (λa3=>?_) (λa3=>?_)
 .refine Wq ?_;obtain ⟨bN,ay,bp⟩:=bdS<|ifT ax a3;refine Wt (λa w=>∃(ad:Bool),ad=bN/\Sat 202 [(6,vB ad)] a/\Below G.z G w) ?_ ?_
  .refine Wg<|Rf z a_S z<|R z (l0 g_3 z<|h4.at z)<|Rq z z z<|Rm z ?_
   rcases bs (x3.number==0) with hcc | hcc
   .have az:=ifT ay hcc;refine Rh z hcc (fd a_T z)<|Rh z hcc (l0 R_ z<|h4.at z) ?_
    have b7:=((h3.ag B).e h2).e H;refine Rh z hcc (lnR n_ z<|W.g b7)<|Rh z hcc (eql z z)<|R z (pT z hcc z)<|Rm z ?_
    rcases bs ((x3.bytes.length:Int)==0) with hcd | hcd
    .exact Rh z hcd (fd V_ z)<|Rh z hcd (l0 a_9 z<|h4.at z)<|Rh z hcd (lnR a_i z<|Y.g b7)<|Rh z hcd (eql z z)<|R z (pT z hcd z)<|Ra z<|Wl (λ_ q=>⟨(x3.items.length:Int)==0,som<|ifT az hcd,q.k<|s1 z,br G⟩)
    iterate 4 refine Nh z hcd ?_
    exact R z (pF z hcd z)<|Ra z<|Wl (λ_ q=>⟨false,som<|ifF az hcd,q.k<|s1 z,br G⟩)
   iterate 4 refine Nh z hcc ?_
   exact R z (pF z hcc z)<|Rm z<|Nh z z<|Nh z z<|Nh z z<|Nh z z<|R z (pF z z z)<|Ra z<|Wl (λ_ q=>⟨false,som<|ifF ay hcc,q.k<|s1 z,br G⟩)
  rintro bO _ ⟨ad,rfl,_,bP⟩;revert bO;refine Wo ?_;obtain rfl:=som bp;exact Wr<|rtO<|e_ hr z ⟨bup (bup (bup h3 h2) H) bP,z⟩
 have aA:=ifF ax a3;refine Ws<|Rq z z z<|Rw z<|Wc z (λa4=>?_) (λa4=>?_)
 .refine Wq ?_;obtain ⟨bQ,aB,bq⟩:=bdS<|ifT aA a4;refine Wt (λa w=>∃(ae:Bool),ae=bQ/\Sat 202 [(6,vB ae)] a/\Below G.z G w) ?_ ?_
  .refine Wg<|Rf z a_S z<|R z (l0 g_3 z<|h4.at z)<|Rq z z z<|Rm z ?_
   rcases bs (x3.number==0) with O | O
   .have aC:=ifT aB O;refine Rh z O (fd a_T z)<|Rh z O (l0 R_ z<|h4.at z) ?_
    have b8:=((h3.ag B).e h2).e H;refine Rh z O (lnR n_ z<|W.g b8)<|Rh z O (fd a_F z)<|Rh z O (l0 g_3 z<|ht.at z)<|Rh z O (eql z z)<|R z (pT z O z)<|Rm z ?_
    rcases bs ((x3.bytes.length:Int)==x2.size) with hce | hce
    .exact Rh z hce (fd V_ z)<|Rh z hce (l0 a_9 z<|h4.at z)<|Rh z hce (lnR a_i z<|Y.g b8)<|Rh z hce (eql z z)<|R z (pT z hce z)<|Ra z<|Wl (λ_ q=>⟨(x3.items.length:Int)==0,som<|ifT aC hce,q.k<|s1 z,br G⟩)
    iterate 4 refine Nh z hce ?_
    exact R z (pF z hce z)<|Ra z<|Wl (λ_ q=>⟨false,som<|ifF aC hce,q.k<|s1 z,br G⟩)
   iterate 6 refine Nh z O ?_
   exact R z (pF z O z)<|Rm z<|Nh z z<|Nh z z<|Nh z z<|Nh z z<|R z (pF z z z)<|Ra z<|Wl (λ_ q=>⟨false,som<|ifF aB O,q.k<|s1 z,br G⟩)
  rintro bR _ ⟨ae,rfl,_,bS⟩;revert bR;refine Wo ?_;obtain rfl:=som bq;exact Wr<|rtO<|e_ hr z ⟨bup (bup (bup h3 h2) H) bS,z⟩
 have aD:=ifF aA a4;refine Ws<|Rq z z z<|Rw z<|Wc z (λa5=>?_) (λa5=>?_)
 .refine Wq ?_;obtain ⟨bT,aE,bt⟩:=bdS<|ifT aD a5;refine Wt (λa w=>∃(af:Bool),af=bT/\Sat 202 [(6,vB af)] a/\Below G.z G w) ?_ ?_
  .refine Wd (X:=noX) 0 (pl_ 23 [12,13]) mo (by kernel_rfl) λcA sp _=>dR z z (fd a_S z) ?_
   have ah:=h4.e sp;refine dR z z (l0 g_3 z<|ah.at z)<|dR z z (eql z z)<|dM z z z ?_
   rcases bs (x3.number==0) with I | I
   .refine dRg z z z I z (fd a_T z)<|dRg z z z I z (l0 R_ z<|ah.at z) ?_
    have hx:=(((h3.ag B).e h2).e H).e sp;refine dRg z z z I z (lnR n_ z<|W.g hx)<|dRg z z z I z (lN (vs:=[sl A0 N0 C0]) t_ r_ z z fid<|(((aZ.e h2).e H).e sp).row 0 1 z)<|dRg z z z I z (fd J_ z)<|dRg z z z I z (l0 A_ z<|(ht.e sp).at z) ?_
    obtain ⟨_,bU,bu⟩:=bdS<|ifT aE I;refine b_L z z z I z (at_ (α:=Int) v_ z_3 z z z (a1.g hx) bU) ?_;rintro _ ⟨_,_,_,rfl,bV,bW,_⟩;obtain ⟨rfl,bX⟩:=O_ bW;refine dRg z z z I z (l0 g_3 z<|bV.at0 z) ?_;have b9:=lt_ (lt_ (lt_ h3.s h2.s) H.s) sp.s;obtain ⟨_,bY,bv⟩:=bdS bu;refine dEg z z z I z (fc call141 z<|g_W bY (zt' a0 b9) (aq.g hx) bX) (.inr λ_ _ h=>p_<|h.1) ?_;rintro _ _ ⟨sw,rfl,bZ⟩;obtain ⟨c0,c1,aF⟩:=bdS bv;refine dEg z z z I z (fc call40 z<|g_V c1 (zt' a0<|lt_ b9 sw.s) (ii z) bZ) (.inr λ_ _ h=>p_<|h.1) ?_;rintro _ _ ⟨sy,rfl,_⟩;refine dRg z z z I z (c_5 z z)<|dR z z (pT z I z)<|dM z z z ?_
    rcases bs (decide<|(x3.bytes.length:Int)<=c0) with hcf | hcf
    .exact dRg z z z hcf z (fd V_ z)<|dRg z z z hcf z (l0 a_9 z<|((ah.e sw).e sy).at z)<|dRg z z z hcf z (lnR a_i z<|Y.g<|(hx.e sw).e sy)<|dRg z z z hcf z (eql z z)<|dR z z (pT z hcf z)<|dQ z z z<|pD (λ_ q=>⟨(x3.items.length:Int)==0,som<|ifT aF hcf,q.k<|s1 z,bup (bup sp sw) sy⟩)
    iterate 4 refine dRn z z z hcf z ?_
    exact dR z z (pF z hcf z)<|dQ z z z<|pD (λ_ q=>⟨false,som<|ifF aF hcf,q.k<|s1 z,bup (bup sp sw) sy⟩)
   iterate 8 refine dRn z z z I z ?_
   refine dEn z z z I z<|dEn z z z I z<|dRn z z z I z<|dR z z (pF z I z)<|dM z z z ?_
   iterate 4 refine dRn z z z z z ?_
   exact dR z z (pF z z z)<|dQ z z z<|pD (λ_ q=>⟨false,som<|ifF aE I,q.k<|s1 z,sp⟩)
  rintro c2 _ ⟨af,rfl,_,c3⟩;revert c2;refine Wo ?_;obtain rfl:=som bt;exact Wr<|rtO<|e_ hr z ⟨bup (bup (bup h3 h2) H) c3,z⟩
 have aG:=ifF aD a5;refine Ws<|Rq z z z<|Rw z<|Wc z (λa6=>?_) (λa6=>?_)
 .refine Wq ?_;obtain ⟨c4,aH,bw⟩:=bdS<|ifT aG a6;refine Wt (λa w=>∃(ai:Bool),ai=c4/\Sat 202 [(6,vB ai)] a/\Below G.z G w) ?_ ?_
  .refine Wg<|Rf z a_S z<|R z (l0 g_3 z<|h4.at z)<|Rq z z z<|Rm z ?_
   rcases bs (x3.number==0) with hcg | hcg
   .have aI:=ifT aH hcg;refine Rh z hcg (fd a_T z)<|Rh z hcg (l0 R_ z<|h4.at z) ?_
    have ba:=((h3.ag B).e h2).e H;refine Rh z hcg (lnR n_ z<|W.g ba)<|Rh z hcg (c_5 z z)<|R z (pT z hcg z)<|Rm z ?_
    rcases bs (decide<|(x3.bytes.length:Int)<=400) with hch | hch
    .exact Rh z hch (fd V_ z)<|Rh z hch (l0 a_9 z<|h4.at z)<|Rh z hch (lnR a_i z<|Y.g ba)<|Rh z hch (eql z z)<|R z (pT z hch z)<|Ra z<|Wl (λ_ q=>⟨(x3.items.length:Int)==0,som<|ifT aI hch,q.k<|s1 z,br G⟩)
    iterate 4 refine Nh z hch ?_
    exact R z (pF z hch z)<|Ra z<|Wl (λ_ q=>⟨false,som<|ifF aI hch,q.k<|s1 z,br G⟩)
   iterate 4 refine Nh z hcg ?_
   exact R z (pF z hcg z)<|Rm z<|Nh z z<|Nh z z<|Nh z z<|Nh z z<|R z (pF z z z)<|Ra z<|Wl (λ_ q=>⟨false,som<|ifF aH hcg,q.k<|s1 z,br G⟩)
  rintro c5 _ ⟨ai,rfl,_,c6⟩;revert c5;refine Wo ?_;obtain rfl:=som bw;exact Wr<|rtO<|e_ hr z ⟨bup (bup (bup h3 h2) H) c6,z⟩
 have aJ:=ifF aG a6;refine Ws<|Rq z z z<|Rw z<|Wc z (λa7=>?_) (λa7=>?_)
 .refine Wq ?_;obtain ⟨c7,aK,bx⟩:=bdS<|ifT aJ a7;refine Wt (λa w=>∃(aj:Bool),aj=c7/\Sat 202 [(6,vB aj)] a/\Below G.z G w) ?_ ?_
  .refine Wd (X:=noX) 0 (pl_ 23 [18,19]) mo (by kernel_rfl) λcB sq _=>dR z z (fd a_S z) ?_
   have ak:=h4.e sq;refine dR z z (l0 g_3 z<|ak.at z)<|dR z z (eql z z)<|dM z z z ?_
   rcases bs (x3.number==0) with hci | hci
   .have aL:=ifT aK hci;refine dRg z z z hci z (fd a_T z)<|dRg z z z hci z (l0 R_ z<|ak.at z) ?_
    have hz:=(((h3.ag B).e h2).e H).e sq;refine dRg z z z hci z (lnR n_ z<|W.g hz)<|dRg z z z hci z (eql z z)<|dR z z (pT z hci z)<|dM z z z ?_
    rcases bs ((x3.bytes.length:Int)==0) with J | J
    .refine dRg z z z J z (fd V_ z)<|dRg z z z J z (l0 a_9 z<|ak.at z)<|dRg z z z J z (lnR a_i z<|Y.g hz)<|dRg z z z J z (lN (vs:=[sl A0 N0 C0]) t_ r_ z z fid<|(((aZ.e h2).e H).e sq).row 0 1 z)<|dRg z z z J z (fd J_ z)<|dRg z z z J z (l0 A_ z<|(ht.e sq).at z) ?_
     obtain ⟨_,c8,bz⟩:=bdS<|ifT aL J;refine b_L z z z J z (at_ (α:=Int) v_ z_3 z z z (a1.g hz) c8) ?_;rintro _ ⟨_,_,_,rfl,c9,ca,_⟩;obtain ⟨rfl,cb⟩:=O_ ca;refine dRg z z z J z (l0 g_3 z<|c9.at0 z) ?_;have bb:=lt_ (lt_ (lt_ h3.s h2.s) H.s) sq.s;obtain ⟨_,cc,bA⟩:=bdS bz;refine dEg z z z J z (fc call141 z<|g_W cc (zt' a0 bb) (aq.g hz) cb) (.inr λ_ _ h=>p_<|h.1) ?_;rintro _ _ ⟨bc,rfl,cd⟩;obtain ⟨ce,cf,bB⟩:=bdS bA;refine dEg z z z J z (fc call40 z<|g_V cf (zt' a0<|lt_ bb bc.s) (ii z) cd) (.inr λ_ _ h=>p_<|h.1) ?_;rintro _ _ ⟨cg,rfl,_⟩;exact dRg z z z J z (c_5 z z)<|dR z z (pT z J z)<|dQ z z z<|pD (λ_ q=>⟨decide<|(x3.items.length:Int)<=ce,som bB,q.k<|s1 z,bup (bup sq bc) cg⟩)
    iterate 8 refine dRn z z z J z ?_
    exact dEn z z z J z<|dEn z z z J z<|dRn z z z J z<|dR z z (pF z J z)<|dQ z z z<|pD (λ_ q=>⟨false,som<|ifF aL J,q.k<|s1 z,sq⟩)
   iterate 4 refine dRn z z z hci z ?_
   refine dR z z (pF z hci z)<|dM z z z ?_
   iterate 8 refine dRn z z z z z ?_
   exact dEn z z z z z<|dEn z z z z z<|dRn z z z z z<|dR z z (pF z z z)<|dQ z z z<|pD (λ_ q=>⟨false,som<|ifF aK hci,q.k<|s1 z,sq⟩)
  rintro ch _ ⟨aj,rfl,_,ci⟩;revert ch;refine Wo ?_;obtain rfl:=som bx;exact Wr<|rtO<|e_ hr z ⟨bup (bup (bup h3 h2) H) ci,z⟩
 have aM:=ifF aJ a7;refine Ws<|Rq z z z<|Rw z<|Wc z (λa8=>?_) (λa8=>?_)
 .refine Wq ?_;obtain ⟨cj,aN,bC⟩:=bdS<|ifT aM a8;refine Wt (λa w=>∃(al:Bool),al=cj/\Sat 202 [(6,vB al)] a/\Below G.z G w) ?_ ?_
  .refine Wg<|Rf z a_S z<|R z (l0 g_3 z<|h4.at z)<|Rq z z z<|Rm z ?_
   rcases bs (x3.number==0) with hcj | hcj
   .have aO:=ifT aN hcj;refine Rh z hcj (fd a_T z)<|Rh z hcj (l0 R_ z<|h4.at z) ?_
    have am:=((h3.ag B).e h2).e H;refine Rh z hcj (lnR n_ z<|W.g am)<|Rh z hcj (eql z z)<|R z (pT z hcj z)<|Rm z ?_
    rcases bs ((x3.bytes.length:Int)==0) with L | L
    .exact Rh z L (fd V_ z)<|Rh z L (l0 a_9 z<|h4.at z)<|Rh z L (lnR a_i z<|Y.g am)<|Rh z L (fd J_ z)<|Rh z L (l0 A_ z<|ht.at z)<|Rh z L (lnR v_ z<|a1.g am)<|Rh z L (eql z z)<|R z (pT z L z)<|Ra z<|Wl (λ_ q=>⟨(x3.items.length:Int)==(x2.kids.length:Int),som<|ifT aO L,q.k<|s1 z,br G⟩)
    iterate 7 refine Nh z L ?_
    exact R z (pF z L z)<|Ra z<|Wl (λ_ q=>⟨false,som<|ifF aO L,q.k<|s1 z,br G⟩)
   iterate 4 refine Nh z hcj ?_
   exact R z (pF z hcj z)<|Rm z<|Nh z z<|Nh z z<|Nh z z<|Nh z z<|Nh z z<|Nh z z<|Nh z z<|R z (pF z z z)<|Ra z<|Wl (λ_ q=>⟨false,som<|ifF aN hcj,q.k<|s1 z,br G⟩)
  rintro ck _ ⟨al,rfl,_,cl⟩;revert ck;refine Wo ?_;obtain rfl:=som bC;exact Wr<|rtO<|e_ hr z ⟨bup (bup (bup h3 h2) H) cl,z⟩
 have aP:=ifF aM a8;refine Ws<|Rq z z z<|Rw z<|Wc z (λa9=>?_) (λa9=>?_)
 .refine Wq ?_;obtain ⟨cm,aQ,bD⟩:=bdS<|ifT aP a9;refine Wt (λa w=>∃(an:Bool),an=cm/\Sat 202 [(6,vB an)] a/\Below G.z G w) ?_ ?_
  .refine Wg<|Rf z a_T z<|R z (l0 R_ z<|h4.at z) ?_
   have hu:=((h3.ag B).e h2).e H;refine R z (lnR n_ z<|W.g hu)<|Rq z z z<|Rm z ?_
   rcases bs ((x3.bytes.length:Int)==0) with hck | hck
   .have aR:=ifT aQ hck;refine Rh z hck (fd V_ z)<|Rh z hck (l0 a_9 z<|h4.at z)<|Rh z hck (lnR a_i z<|Y.g hu)<|Rh z hck (eql z z)<|R z (pT z hck z)<|Rm z ?_
    rcases bs ((x3.items.length:Int)==1) with V | V
    .refine Rh z V (lN (vs:=vR x2 A2 N2 C2 A3 N3 C3 A1 N1 C1 A5 N5 C5) L_ o_ z z fid<|ht.row 0 8 z)<|Rh z V (fd a_S z)<|Rh z V (l0 g_3 z<|h4.at z) ?_
     obtain ⟨cn,co,bE⟩:=bdS<|ifT aR V;refine Eg z z V z (fc call31 z<|d_M co (zt' a0<|lt_ (lt_ h3.s h2.s) H.s) bg bh ar (bi.g hu) (bj.g hu) (bk.g hu) (a1.g hu) au<|ii z) ?_;rintro _ _ ⟨cp,rfl,_⟩;exact Rh z V (b_R z z)<|R z (pT z V z)<|Ra z<|Wl (λ_ q=>⟨decide<|0<=cn,som bE,q.k<|s1 z,cp⟩)
    iterate 5 refine Nh z V ?_
    exact R z (pF z V z)<|Ra z<|Wl (λ_ q=>⟨false,som<|ifF aR V,q.k<|s1 z,br G⟩)
   iterate 4 refine Nh z hck ?_
   exact R z (pF z hck z)<|Rm z<|Nh z z<|Nh z z<|Nh z z<|Nh z z<|Nh z z<|R z (pF z z z)<|Ra z<|Wl (λ_ q=>⟨false,som<|ifF aQ hck,q.k<|s1 z,br G⟩)
  rintro cq _ ⟨an,rfl,_,cr⟩;revert cq;refine Wo ?_;obtain rfl:=som bD;exact Wr<|rtO<|e_ hr z ⟨bup (bup (bup h3 h2) H) cr,z⟩
 have aS:=ifF aP a9;refine Ws<|Rq z z z<|Rw z<|Wc z (λaa=>?_) (λaa=>?_)
 .refine Wq ?_;obtain ⟨ct,aT,bF⟩:=bdS<|ifT aS aa;refine Wt (λa w=>∃(ao:Bool),ao=ct/\Sat 202 [(6,vB ao)] a/\Below G.z G w) ?_ ?_
  .refine Wg<|Rf z a_S z<|R z (l0 g_3 z<|h4.at z)<|Rq z z z<|Rm z ?_
   rcases bs (x3.number==0) with hcl | hcl
   .have aU:=ifT aT hcl;refine Rh z hcl (fd a_T z)<|Rh z hcl (l0 R_ z<|h4.at z) ?_
    have be:=((h3.ag B).e h2).e H;refine Rh z hcl (lnR n_ z<|W.g be)<|Rh z hcl (eql z z)<|R z (pT z hcl z)<|Rm z ?_
    rcases bs ((x3.bytes.length:Int)==0) with hcm | hcm
    .exact Rh z hcm (fd V_ z)<|Rh z hcm (l0 a_9 z<|h4.at z)<|Rh z hcm (lnR a_i z<|Y.g be)<|Rh z hcm (c_5 z z)<|R z (pT z hcm z)<|Ra z<|Wl (λ_ q=>⟨decide<|(x3.items.length:Int)<=1,som<|ifT aU hcm,q.k<|s1 z,br G⟩)
    iterate 4 refine Nh z hcm ?_
    exact R z (pF z hcm z)<|Ra z<|Wl (λ_ q=>⟨false,som<|ifF aU hcm,q.k<|s1 z,br G⟩)
   iterate 4 refine Nh z hcl ?_
   exact R z (pF z hcl z)<|Rm z<|Nh z z<|Nh z z<|Nh z z<|Nh z z<|R z (pF z z z)<|Ra z<|Wl (λ_ q=>⟨false,som<|ifF aT hcl,q.k<|s1 z,br G⟩)
  rintro cu _ ⟨ao,rfl,_,cv⟩;revert cu;refine Wo ?_;obtain rfl:=som bF;exact Wr<|rtO<|e_ hr z ⟨bup (bup (bup h3 h2) H) cv,z⟩
 refine Wk<|Wq ?_
 obtain ⟨cw,aV,bG⟩:=bdS<|ifF aS aa;refine Wt (λa w=>∃(ap:Bool),ap=cw/\Sat 202 [(6,vB ap)] a/\Below G.z G w) ?_ ?_
 .refine Wg<|Rf z a_S z<|R z (l0 g_3 z<|h4.at z)<|Rq z z z<|Rm z ?_
  rcases bs (x3.number==0) with hcn | hcn
  .have aW:=ifT aV hcn;refine Rh z hcn (fd a_T z)<|Rh z hcn (l0 R_ z<|h4.at z) ?_
   have bf:=((h3.ag B).e h2).e H;refine Rh z hcn (lnR n_ z<|W.g bf)<|Rh z hcn (eql z z)<|R z (pT z hcn z)<|Rm z ?_
   rcases bs ((x3.bytes.length:Int)==0) with hco | hco
   .exact Rh z hco (fd V_ z)<|Rh z hco (l0 a_9 z<|h4.at z)<|Rh z hco (lnR a_i z<|Y.g bf)<|Rh z hco (eql z z)<|R z (pT z hco z)<|Ra z<|Wl (λ_ q=>⟨(x3.items.length:Int)==1,som<|ifT aW hco,q.k<|s1 z,br G⟩)
   iterate 4 refine Nh z hco ?_
   exact R z (pF z hco z)<|Ra z<|Wl (λ_ q=>⟨false,som<|ifF aW hco,q.k<|s1 z,br G⟩)
  iterate 4 refine Nh z hcn ?_
  exact R z (pF z hcn z)<|Rm z<|Nh z z<|Nh z z<|Nh z z<|Nh z z<|R z (pF z z z)<|Ra z<|Wl (λ_ q=>⟨false,som<|ifF aV hcn,q.k<|s1 z,br G⟩)
 rintro cx _ ⟨ap,rfl,_,cy⟩;revert cx;refine Wo ?_;obtain rfl:=som bG;exact Wr<|e_ hr z ⟨bup (bup (bup h3 h2) H) cy,z⟩
structure k_n (f:d_->Int->Val->Option Bool):Prop where
  run:∀{A0 A7 A8:Option Addr}{N0 C0 N7 C7 N8 C8:Nat}{B:Zone}{x1:d_}{x2:Int}{x3:Val}{res:Bool}{w0:World}(hm:f x1 x2 x3=some res)(hBw:B<=w0.z)(p1_0:repS w0 B (sl A0 N0 C0) x1.rules)(p2_0:inI x2)(p3_0:inI x3.number)(p3_1:repS w0 B (sl A7 N7 C7) x3.bytes)(p3_2:repS w0 B (sl A8 N8 C8) x3.items),l_ prog 63 [(.agg #[sl A0 N0 C0]),vI x2,(.agg #[vI x3.number,sl A7 N7 C7,sl A8 N8 C8])] w0<|Q0 w0 B res
abbrev m_z (n:Nat):Prop:=k_n (d_x n).spec_l9Valid
theorem T_w0i (aH:m_z n):k_n (f_7 n<|d_x n):=by
 constructor
 intro A0 A7 A8 N0 C0 N7 C7 N8 C8 B x1 x2 x3 res w0 hm O V b6 W aw H;unfold f_7 at hm
 refine goG func63 z z z λfn hr=>Ws<|E z (fb z) ?_
 rintro _ wr ⟨rfl,hx⟩;have I:=hx.below;have hy:Blk wr w0.z [sl A0 N0 C0]:=hx.blk;refine E z (fb z) ?_;rintro _ wc ⟨rfl,hz⟩;have h4:=hz.below;have a2:Blk wc wr.z [vI x3.number,sl A7 N7 C7,sl A8 N8 C8]:=hz.blk;refine Rw z<|Ws<|Rf z a_3 z ?_
 have a3:=hy.e h4;refine R z (l0 a_8 z<|a3.at z)<|Rm z ?_
 obtain ⟨xd,aI,ax⟩:=bdS hm;have a4:=(I.ag B).e h4;refine RX z (at_ (α:=g_) a_a o_ z z z (V.g a4) aI) ?_;rintro _ ⟨_,_,_,rfl,aJ,aK,_⟩;obtain ⟨ae,nf,cg,ah,ni,cj,ak,nl,cm,an,no,cp,rfl,a5,a6,a7,a8,a9,aa,ab⟩:=a_D aK;refine R z (lN (vs:=vR xd ae nf cg ah ni cj ak nl cm an no cp) L_ o_ z z fid aJ)<|E z (fa b_P) ?_
 rintro _ aL ⟨rfl,ad⟩;have h1:=ad.below;refine E0 (fs0 (cur':=vR xd ae nf cg ah ni cj ak nl cm an no cp) o_ z z (ad.blk:Blk aL wc.z [(Str.v (⟨[]⟩:Str)),vI 0,vI 0,vB false,sN,sN,sN,sN]) z z z z) ?_;rintro _ _ ⟨af,aM⟩;have h2:=aM.one;refine Wn<|Wq<|Ws ?_
 have ai:=(a3.e h1).c h2<|djs<|mm1 hy.lt h4.s
 refine R z (lN (vs:=[sl A0 N0 C0]) t_ r_ z z fid<|ai.row 0 1 z)<|R z (lN (vs:=vR xd ae nf cg ah ni cj ak nl cm an no cp) L_ o_ z z fid<|af.row 0 8 z) ?_
 have ht:=(a2.e h1).c h2<|djs<|mmr a2.lt
 refine R z (lN (vs:=[vI x3.number,sl A7 N7 C7,sl A8 N8 C8]) q_ h_ z z fid<|ht.row 0 3 z) ?_;have J:=lt_ I.s h4.s;have aj:∀k∈[wc.z],¬B k:=or0 (c_ lr)<|k_<|zt' O J;have L:=(a4.e h1).c h2<|b_ aj
 have ha:=(h1.ag B).c h2<|b_ aj
 have al:=lt_ (lt_ J h1.s) h2.s;obtain ⟨_,aN,Y⟩:=bdS ax;refine E z (fc call102 z<|W_w2m aN (zt' O al) (V.g L) a5 a6 a7 (a8.g ha) (a9.g ha) (aa.g ha) (ab.g ha) W (aw.g L)<|H.g L) ?_;rintro _ wb ⟨G,rfl⟩;refine R z (not_ z)<|Wx z (λhcs=>?_) (λhcs=>?_)
 .refine Ws<|Rw z ?_
  obtain rfl:=som<|ifT Y hcs;exact Wr<|e_ hr z ⟨bup (bM (bup (bup I h4) h1) h2<|m1 J) G,z⟩
 refine Wk<|Wq<|Ws<|Rw z ?_
 obtain ⟨_,ay,a0⟩:=bdS<|ifF Y hcs;refine Wf (σ:=Unit) (ρ:=Bool) (λ(am:Nat)(_:Unit) a w=>Sat 39 [(3,pt w0.z),(5,pt wr.z),(7,pt wc.z),(8,vI ((am:Nat):Int))] a/\Below wb.z wb w) (λ(_:Unit) a w=>Sat 39 [] a/\Below wb.z wb w) (rQ prog fn<|Q0 w0 B) ay ?_ ?_ ?_ ?_ ?_
 .exact λ_ q=>⟨q.k<|s4 z z z z,br wb⟩
 .rintro am _ _ _ _ hku ⟨az,s3⟩ aA;refine Wu ?_ az;refine Wq<|Wm z<|Rf z V_ z ?_
  have ao:=(ht.e G).e s3;refine R z (l0 a_9 z<|ao.at z) ?_;have ap:=(L.e G).e s3;refine R z (lnR a_i z<|H.g ap)<|Rl z z z<|Wx z (λ_=>?_) (λhc=>(a_6 hku hc).elim)
  refine Wk<|Wq<|Wb<|Wq (Wd (X:=noX) 0 (.rd 0<|.rd 1<|.rd 2<|.rd 3<|.rd 4<|.rd 6<|.rd 7<|.rd 8<|.rd 9<|.rd 10<|.ef 5<|.ef 11<|.rd 12 .done) mo (by kernel_rfl) λb7 s5 _=>dR z z (lN (vs:=[sl A0 N0 C0]) t_ r_ z z fid<|(((ai.e G).e s3).e s5).row 0 1 z)<|dR z z (lN (vs:=vR xd ae nf cg ah ni cj ak nl cm an no cp) L_ o_ z z fid<|(((af.e G).e s3).e s5).row 0 8 z)<|dR z z (fd a_S z) ?_)
  have aq:=ao.e s5;refine dR z z (l0 g_3 z<|aq.at z)<|dM z z z<|dR z z (fd V_ z)<|dR z z (l0 a_9 z<|aq.at z)<|dM z z z ?_
  obtain ⟨aO,aP,aB⟩:=bdS aA;have ar:=ap.e s5;refine dRX z z (at_ (α:=Val) a_i h_ z z z (H.g ar) aP) ?_;rintro _ ⟨_,_,_,rfl,aQ,aR,_⟩;obtain ⟨aS,aT,aU,aV,aW,aX,rfl,aY,aZ,b0⟩:=e_7 aR;refine dR z z (lN (vs:=[vI aO.number,sl aS aT aU,sl aV aW aX]) q_ h_ z z fid aQ) ?_;have hq:=((ha.e G).e s3).e s5;have au:=lt_ (lt_ (lt_ al G.s) s3.s) s5.s;obtain ⟨_,b1,aC⟩:=bdS aB;refine dE z z (fc call31 z<|d_M b1 (zt' O au) a5 a6 a7 (a8.g hq) (a9.g hq) (aa.g hq) (ab.g hq) W<|ic (Nat.le_of_lt hku)<|lt_ (repS.len H) M_) (.inr λ_ _ h=>p_<|h.1) ?_;rintro _ _ ⟨s6,rfl,b2⟩;obtain ⟨_,b3,a1⟩:=bdS aC;refine dE z z (fc call63 z<|aH.run b3 (zt' O<|lt_ au s6.s) (V.g<|ar.e s6) b2 aY (aZ.e s6)<|b0.e s6) (.inr λ_ _ h=>p_<|h.1) ?_;rintro _ _ ⟨av,rfl⟩;refine dR z z (not_ z)<|pD<|Wo<|Wc z (λhcv=>?_) (λhcv=>?_)
  .exact Ws<|Rw z<|Wr<|rtO<|qL (som<|ifT a1 hcv).symm<|e_ hr z ⟨bup (bup (bup (bup (bup (bM (bup (bup I h4) h1) h2<|m1 J) G) s3) s5) s6) av,z⟩
  exact Wk<|Wg<|Rm z<|R z (inc_ hku (lt_ (repS.len H) M_) z z)<|Ra z<|Wl (λ_ q=>⟨(),(som<|ifF a1 hcv).symm,⟨q.k<|s4 z z z z,bup (bup (bup s3 s5) s6) av⟩⟩)
 .rintro _ _ _ ⟨aD,sw⟩;refine Wu ?_ aD;refine Wq<|Wm z<|Rf z V_ z<|R z (l0 a_9 z<|((ht.e G).e sw).at z)<|R z (lnR a_i z<|H.g<|(L.e G).e sw)<|Rl z z z<|Wx z (λhc=>(a_7 hc).elim) (λ_=>?_)
  exact We<|λ_ q=>⟨rfl,⟨q.k sn,sw⟩⟩
 .rintro _ b4 _ rfl ⟨_,b5⟩;have aE:=elL a0;revert b4;refine Wo<|Ws<|Rw z ?_
  obtain rfl:=som aE;exact Wr<|e_ hr z ⟨bup (bup (bM (bup (bup I h4) h1) h2<|m1 J) G) b5,z⟩
 rintro _ _ _ _ rfl ⟨rfl,aF⟩;have aG:=elR a0;obtain rfl:=som aG;exact ⟨aF,z⟩
theorem A_w0i:∀n,m_z n
  | 0=>⟨λhm=>by intros;exact nomatch (show none=some _ from hm)⟩
  | n+1=>T_w0i<|A_w0i n
theorem W_w0i:k_n (d_x n).spec_l9Valid:=A_w0i n
theorem k_o {x1:d_}{x2:Int}{x3:Val}{res:Bool}(hm:e_w n x1 x2 x3=some res)(L:B<=w0.z)(I:repS w0 B (sl A0 N0 C0) x1.rules)(J:inI x2)(Y:inI x3.number)(a0:repS w0 B (sl A7 N7 C7) x3.bytes)(a1:repS w0 B (sl A8 N8 C8) x3.items):l_ prog 29 [(.agg #[sl A0 N0 C0]),vI x2,(.agg #[vI x3.number,sl A7 N7 C7,sl A8 N8 C8])] w0 (Q0 w0 B res):=by
 unfold e_w at hm
 refine goG func29 z z z λfn hr=>Ws<|E z (fb z) ?_
 rintro _ O ⟨rfl,V⟩;have h3:=V.below;refine E z (fb z) ?_;rintro _ H ⟨rfl,W⟩;have h1:=W.below;refine Rw z<|Wq ?_
 obtain ⟨ug,huh,hmi⟩:=bdS hm;refine Wt (λa w=>∃(x5:Bool),x5=ug/\Sat 16 [(6,vB x5)] a/\Below H.z H w) ?_ ?_
 .refine Wg ?_;have ha:=(V.blk:Blk O w0.z [sl A0 N0 C0]).e h1;refine R z (lN (vs:=[sl A0 N0 C0]) t_ r_ z z fid<|ha.row 0 1 z)<|Rm z ?_
  have hb:=(h3.ag B).e h1;have hc:=lt_ h3.s h1.s;obtain ⟨rj,ek,hmd⟩:=bdS huh;refine E z (fc call49 z<|i_V ek (zt' L hc) (I.g hb) J) ?_;rintro _ _ ⟨s2,rfl⟩;refine Rm z ?_
  rcases bs rj with G | G
  .refine Rh z G (lN (vs:=[sl A0 N0 C0]) t_ r_ z z fid<|(ha.e s2).row 0 1 z)<|Rh z G (mv z)<|Rh z G (lN (vs:=[vI x3.number,sl A7 N7 C7,sl A8 N8 C8]) q_ h_ z z fid<|((W.blk:Blk H O.z [vI x3.number,sl A7 N7 C7,sl A8 N8 C8]).e s2).row 0 3 z) ?_
   have h6:=hb.e s2;obtain ⟨rl,em,hmn⟩:=bdS<|ifT hmd G;refine Eg z z G z (fc call63 z<|W_w0i.run em (zt' L<|lt_ hc s2.s) (I.g h6) J Y (a0.g h6)<|a1.g h6) ?_;rintro _ _ ⟨so,rfl⟩;exact R z (pT z G z)<|Ra z<|Wl (λ_ q=>⟨rl,som hmn,q.k<|s1 z,bup s2 so⟩)
  iterate 4 refine Nh z G ?_
  exact R z (pF z G z)<|Ra z<|Wl (λ_ q=>⟨false,som<|ifF hmd G,q.k<|s1 z,s2⟩)
 rintro ap _ ⟨x5,rfl,_,sq⟩;revert ap;refine Wo ?_;obtain rfl:=som hmi;exact Wr<|e_ hr z ⟨bup (bup h3 h1) sq,z⟩
def Q13 (w0:World)(B:Zone)(r:Bt×Bool)(v:Value)(w':World):Prop:=Bw w0 w'/\un2 (λJ L=>∃G H I S1,v = .tuple #[sl G H I,vB L]/\a_ w' S1 (sl G H I) J/\S1.Nodup/\(∀k∈S1,w0.z<=k)) r
theorem W_w2n {x1:d_}{x2:Int}{x3:Val}{res:Bt×Bool}(hm:j_J n x1 x2 x3=some res)(a0:B<=w0.z)(L:repS w0 B (sl A0 N0 C0) x1.rules)(O:inI x2)(V:inI x3.number)(W:repS w0 B (sl A7 N7 C7) x3.bytes)(Y:repS w0 B (sl A8 N8 C8) x3.items):l_ prog 76 [(.agg #[sl A0 N0 C0]),vI x2,(.agg #[vI x3.number,sl A7 N7 C7,sl A8 N8 C8])] w0 (Q13 w0 B res):=by
 unfold j_J at hm
 refine goG func76 z z z λfn hr=>Ws<|E z (fb z) ?_
 rintro _ wa ⟨rfl,hb⟩;have h2:=hb.below;refine E z (fb z) ?_;rintro _ wj ⟨rfl,hc⟩;have h1:=hc.below;have hd:Blk wj wa.z [vI x3.number,sl A7 N7 C7,sl A8 N8 C8]:=hc.blk;refine Ra z<|Rw z<|Wq<|Ws ?_
 have he:=(hb.blk:Blk wa w0.z [sl A0 N0 C0]).e h1;refine R z (lN (vs:=[sl A0 N0 C0]) t_ r_ z z fid<|he.row 0 1 z)<|Rm z<|R z (lN (vs:=[vI x3.number,sl A7 N7 C7,sl A8 N8 C8]) q_ h_ z z fid<|hd.row 0 3 z) ?_
 have h3:=(h2.ag B).e h1;have h4:=lt_ h2.s h1.s;obtain ⟨_,ek,hmf⟩:=bdS hm;refine E z (fc call29 z<|k_o ek (zt' a0 h4) (L.g h3) O V (W.g h3)<|Y.g h3) ?_;rintro _ wl ⟨G,rfl⟩;refine R z (not_ z)<|Wx z (λH=>?_) (λH=>?_)
 .refine Ws<|E z (f0 (α:=UInt8) a_2) ?_
  rintro _ _ ⟨am,nn,co,rfl,sp,hq⟩;refine Ra z<|Rw z ?_
  obtain rfl:=som<|ifT hmf H;exact Wr<|a_l hr z z ⟨bup (bup (bup h2 h1) G) sp,am,nn,co,[wl.z],z,hq,a_y,m1<|lt_ h4 G.s⟩
 refine Wk<|Ws<|R z (lN (vs:=[sl A0 N0 C0]) t_ r_ z z fid<|(he.e G).row 0 1 z)<|Rm z<|R z (lN (vs:=[vI x3.number,sl A7 N7 C7,sl A8 N8 C8]) q_ h_ z z fid<|(hd.e G).row 0 3 z) ?_
 have h6:=h3.e G;have J:=lt_ h4 G.s;obtain ⟨_,er,hmg⟩:=bdS<|ifF hmf H;refine E z (fc call16 z<|W_w0d.run er (zt' a0 J) (L.g h6) O V (W.g h6)<|Y.g h6) ?_;rintro _ ws ⟨s8,au,nt,cv,Sw,rfl,hh,hx,hy⟩;refine Rw z<|Wq<|Wm z<|R z (lnR n_ z<|a_.rep hh)<|R z (a_g z z)<|Wx z (λI=>?_) (λI=>?_)
 .refine Ws<|E z (f0 (α:=UInt8) a_2) ?_
  rintro _ _ ⟨az,a1,a2,rfl,a3,a4⟩;refine Ra z<|Rw z ?_
  obtain rfl:=som<|ifT hmg I;exact Wr<|a_l hr z z ⟨bup (bup (bup (bup h2 h1) G) s8) a3,az,a1,a2,[ws.z],z,a4,a_y,m1<|lt_ J s8.s⟩
 refine Wk<|Wm z<|Ra z<|Rw z ?_
 obtain rfl:=som<|ifF hmg I;exact Wr<|a_l hr z z ⟨bup (bup (bup h2 h1) G) s8,au,nt,cv,Sw,z,hh,hx,m_ hy J⟩
theorem W_w2o {x1:d_}{x2:Val}{res:Bt×Bool}(hm:j_K n x1 x2=some res)(I:B<=w0.z)(H:repS w0 B (sl A0 N0 C0) x1.rules)(W:inI x2.number)(Y:repS w0 B (sl AE NE CE) x2.bytes)(a0:repS w0 B (sl AF NF CF) x2.items):l_ prog 45 [(.agg #[sl A0 N0 C0]),(.agg #[vI x2.number,sl AE NE CE,sl AF NF CF])] w0 (Q13 w0 B res):=by
 unfold j_K at hm
 refine goG func45 z z z λfn hr=>Ws<|E z (fb z) ?_
 rintro _ J ⟨rfl,h6⟩;have h2:=h6.below;refine E z (fb z) ?_;rintro _ wd ⟨rfl,L⟩;have h1:=L.below;refine Ra z<|Rw z<|Wq (Wd (X:=noX) 0 (.rd 0<|.rd 1<|.rd 3<|.ef 2<|.ef 4<|.rd 5<|.rd 6<|.rd 7<|.rd 8 .done) mo (by kernel_rfl) λwr G _=>?_)
 have O:=((h6.blk:Blk J w0.z [sl A0 N0 C0]).e h1).e G;refine dR z z (lN (vs:=[sl A0 N0 C0]) t_ r_ z z fid<|O.row 0 1 z)<|dR z z (lN (vs:=[sl A0 N0 C0]) t_ r_ z z fid<|O.row 0 1 z)<|dR z z (lN (vs:=[vI x2.number,sl AE NE CE,sl AF NF CF]) q_ h_ z z fid<|((L.blk:Blk wd J.z [vI x2.number,sl AE NE CE,sl AF NF CF]).e G).row 0 3 z) ?_
 have V:=((h2.ag B).e h1).e G;have ha:=lt_ (lt_ h2.s h1.s) G.s;obtain ⟨_,eg,hmf⟩:=bdS hm;refine dE z z (fc call21 z<|f_A eg (zt' I ha)<|H.g V) (.inr λ_ _ h=>p_<|h.1) ?_;rintro _ _ ⟨s3,rfl,hh⟩;have h4:=V.e s3;have hb:=lt_ ha s3.s;obtain ⟨_,_,ei,hmj⟩:=a_r hmf;refine dE z z (fc call76 z<|W_w2n ei (zt' I hb) (H.g h4) hh W (Y.g h4)<|a0.g h4) (.inr λ_ _ h=>p_<|h.1) ?_;rintro _ _ ⟨sk,al,nm,cn,So,rfl,hp,hq,ht⟩;refine dR z z (ext_ z z)<|dR z z (ext_ z z)<|dQ z z z<|dQ z z z<|pD<|Wo ?_
 obtain rfl:=som hmj;exact Wr<|a_l hr z z ⟨bup (bup (bup (bup h2 h1) G) s3) sk,al,nm,cn,So,z,hp,hq,m_ ht hb⟩
theorem W_w2p {x1:d_}{res:Bt×Bool}(hm:h_p n x1=some res)(I:B<=w0.z)(H:repS w0 B (sl A0 N0 C0) x1.rules):l_ prog 18 [(.agg #[sl A0 N0 C0])] w0 (Q13 w0 B res):=by
 unfold h_p at hm
 refine goG func18 z z z λfn hr=>Ws<|E z (fb z) ?_
 rintro _ wa ⟨rfl,h4⟩;have h1:=h4.below;refine Ra z<|Rw z<|Wq (Wd (X:=noX) 0 (pl_ 10 [3,4,5]) mo (by kernel_rfl) λww G _=>?_)
 iterate 3 refine dR z z (lN (vs:=[sl A0 N0 C0]) t_ r_ z z fid<|((h4.blk:Blk wa w0.z [sl A0 N0 C0]).e G).row 0 1 z) ?_
 have h5:=(h1.ag B).e G;have h6:=lt_ h1.s G.s;obtain ⟨_,ed,hme⟩:=bdS hm;refine dE z z (fc call21 z<|f_A ed (zt' I h6)<|H.g h5) (.inr λ_ _ h=>p_<|h.1) ?_;rintro _ _ ⟨s2,rfl,hf⟩;have J:=h5.e s2;have L:=lt_ h6 s2.s;obtain ⟨_,eg,hmh⟩:=bdS hme;refine dE z z (fc call46 z<|W_w2l eg (zt' I L) (H.g J) hf) (.inr λ_ _ h=>p_<|h.1) ?_;rintro _ wi ⟨s3,_,_,_,_,_,_,_,_,rfl,hj,hk,hl,_,_⟩;have O:=lt_ L s3.s;obtain ⟨_,_,em,hmn⟩:=a_r hmh;refine dE z z (fc call45 z<|W_w2o (B:=wi.z) em zr (repS.mono (H.g<|J.e s3)<|zt' I O) hj (a_.rep hk)<|a_.rep hl) (.inr λ_ _ h=>p_<|h.1) ?_;rintro _ _ ⟨so,ap,nq,cr,Ss,rfl,ht,hu,hv⟩;refine dR z z (ext_ z z)<|dR z z (ext_ z z)<|dQ z z z<|dQ z z z<|pD<|Wo ?_
 obtain rfl:=som hmn;exact Wr<|a_l hr z z ⟨bup (bup (bup (bup h1 G) s2) s3) so,ap,nq,cr,Ss,z,ht,hu,m_ hv O⟩
theorem W_w2q {x1:Bt}{x2:Bool}{res:Int}(hm:h_y x1 x2=some res)(V:B<=w0.z)(G:repS w0 B (sl A0 N0 C0) x1):l_ prog 111 [sl A0 N0 C0,vB x2] w0 (Q9 w0 B res):=by
 unfold h_y at hm
 refine goG func111 z z z λfn hr=>Ws<|Rw z<|Ws<|Rw z<|Wq<|Wm z<|R z (lnR n_ z G)<|R z (a_g z z)<|Wx z (λI=>?_) (λI=>?_)
 .refine Ws<|Rw z ?_
  obtain rfl:=som<|ifT hm I;exact Wr<|e_ hr z ⟨br w0,z,ii z⟩
 refine Wk<|Wq<|Ws<|Rw z ?_
 obtain ⟨_,hue,O⟩:=bdS<|ifF hm I;refine Wf (σ:=Int) (ρ:=Int) (λ(k1:Nat)(x0:Int) a w=>Sat 33 [(0,sl A0 N0 C0),(1,vB x2),(5,vI x0),(6,vI ((k1:Nat):Int))] a/\Below w0.z w0 w/\inI x0) (λ(x0:Int) a w=>Sat 33 [(5,vI x0)] a/\Below w0.z w0 w/\inI x0) (rQ prog fn<|Q9 w0 B) hue ?_ ?_ ?_ ?_ ?_
 .exact λ_ q=>⟨q.k<|s4 z z z z,br w0,ii z⟩
 .rintro k1 x0 _ H _ J ⟨hSf,s7,h3⟩ hmg;refine Wu ?_ hSf;refine Wq<|Wm z<|Rm z ?_
  have ha:=G.e s7;refine R z (lnR n_ z ha)<|Rl z z z<|Wx z (λ_=>?_) (λhc=>(a_6 J hc).elim)
  refine Wk<|Wq<|Wb<|Wm z<|Rw z<|Wq<|Wm z<|Wn ?_
  obtain ⟨uh,hub,hmi⟩:=bdS hmg;refine Wt (λa w=>∃(x4:Int),x4=uh/\Sat 33 [(0,sl A0 N0 C0),(1,vB x2),(5,vI x0),(6,vI ((k1:Nat):Int)),(7,vI x4)] a/\Below H.z H w/\inI x4) ?_ ?_
  .refine Wc z (λL=>?_)<|λL=>?_
   .exact Wg<|Rm z<|R z (lnR n_ z ha)<|R z (sb_ z z)<|Rm z<|R z (sb_ z z)<|Ra z<|Wl (λ_ q=>⟨Q_ (Q_ (x1.length:Int) 1) ((k1:Nat):Int),som<|ifT hub L,q.k<|s5 z z z z z,br H,iS _ _⟩)
   exact a_k<|λ_ q=>⟨((k1:Nat):Int),som<|ifF hub L,q.k<|s5 z z z z z,br H,ic (Nat.le_of_lt J)<|lt_ (repS.len G) M_⟩
  rintro aj _ ⟨x4,rfl,_,sc,_⟩;revert aj;refine Wo<|Wg<|Rm z<|R z (c_K z z)<|RM z z ?_
  obtain ⟨xk,el,hmm⟩:=bdS hmi;refine RX z (at_ (α:=UInt8) n_ z_5 z z z (G.g<|(s7.ag B).e sc) el) ?_;rintro _ ⟨_,_,_,rfl,hn,ho,_⟩;obtain rfl:=u8 ho;exact R z (l0 g_5 z<|hn.at0 z)<|R z (b_W d_5 d_3 z)<|R z (add_ z z)<|Rw z<|Wg<|Rm z<|R z (inc_ J (lt_ (repS.len G) M_) z z)<|Ra z<|Wl (λ_ q=>⟨i_ (a_f x0 256)<|byteI xk,(som hmm).symm,⟨q.k<|s4 z z z z,bup s7 sc,iA _ _⟩⟩)
 .rintro x0 _ _ ⟨hSp,sd,h3⟩;refine Wu ?_ hSp;refine Wq<|Wm z<|Rm z<|R z (lnR n_ z<|G.e sd)<|Rl z z z<|Wx z (λhc=>(a_7 hc).elim) (λ_=>?_)
  exact We<|λ_ q=>⟨rfl,⟨q.k<|s1 z,sd,h3⟩⟩
 .rintro x0 aq _ rfl ⟨_,sr,h3⟩;have hms:=elL O;revert aq;refine Wo<|Wm z<|Rw z ?_
  obtain rfl:=som hms;exact Wr<|e_ hr z ⟨sr,z,h3⟩
 rintro _ _ _ _ rfl ⟨rfl,hqt⟩;have hmu:=elR O;obtain rfl:=som hmu;exact ⟨hqt,z⟩
def Q14 (w0:World)(B:Zone)(r:Int×Int×Bool)(v:Value)(w':World):Prop:=Bw w0 w'/\un3 (λG H I=>v = .tuple #[vI G,vI H,vB I]/\inI G/\inI H) r
theorem i_W {x1:d_}{x2:Int}{x3:Bt}{x4:Int}{res:Int×Int×Bool}(hm:c_C x1 x2 x3 x4=some res)(L:B<=w0.z)(Y:repS w0 B (sl A0 N0 C0) x1.rules)(a5:inI x2)(J:repS w0 B (sl A9 N9 C9) x3)(a0:inI x4):l_ prog 78 [(.agg #[sl A0 N0 C0]),vI x2,sl A9 N9 C9,vI x4] w0 (Q14 w0 B res):=by
 unfold c_C at hm
 refine goG func78 z z z λfn hr=>Ws<|E z (fb z) ?_
 rintro _ I ⟨rfl,V⟩;have G:=V.below;refine RA z z<|Rw z<|Ws<|Rf z a_3 z<|R z (l0 a_8 z<|(V.blk:Blk I w0.z [sl A0 N0 C0]).at z)<|Rm z ?_
 obtain ⟨W,em,O⟩:=bdS hm;refine RX z (at_ (α:=g_) a_a o_ z z z (Y.e G) em) ?_;rintro _ ⟨_,_,_,rfl,ht,hu,_⟩;obtain ⟨aa,nb,cc,ad,ne,cf,ah,ng,ci,aj,nk,cl,rfl,_,_,_,_,_,_,_⟩:=a_D hu;refine R z (lN (vs:=vR W aa nb cc ad ne cf ah ng ci aj nk cl) L_ o_ z z fid ht)<|E z (fa b_P) ?_
 rintro _ wr ⟨rfl,hn⟩;have h1:=hn.below;refine E0 (fs0 (cur':=vR W aa nb cc ad ne cf ah ng ci aj nk cl) o_ z z (hn.blk:Blk wr I.z [(Str.v (⟨[]⟩:Str)),vI 0,vI 0,vB false,sN,sN,sN,sN]) z z z z) ?_;rintro _ _ ⟨ho,ss⟩;have h2:=ss.one;refine Wn<|Wq<|Wm z ?_
 have hp:=((G.ag B).e h1).c h2<|b_ (or0 (c_ lr) (k_<|zt' L G.s):∀k∈[I.z],¬B k)
 refine R z (lnR n_ z<|J.g hp)<|Rm z<|R z (sb_ z z)<|Rf z a_F z<|R z (l0 g_3 z<|ho.at z)<|Rl z z z<|Wx z (λH=>?_) (λH=>?_)
 .refine Wm z<|RA z z<|Rw z ?_
  obtain rfl:=som<|ifT O H;exact Wr<|I_ hr z z z ⟨bM (bup G h1) h2<|m1 G.s,z,ii z,a0⟩
 refine Wk<|Wq (Wd (X:=noX) 0 (.rd 0<|.rd 1<|.rd 2<|.rd 3<|.rd 4<|.rd 5<|.rd 6<|.rd 7<|.rd 8<|.rd 10<|.rd 11<|.rd 12<|.rd 13<|.ef 9<|.rd 14<|.rd 15<|.rd 16 .done) mo (by kernel_rfl) λa6 s3 _=>?_)
 iterate 3 refine dM z z z ?_
 refine dR z z (fd a_F z) ?_;have h6:=ho.e s3;refine dR z z (l0 g_3 z<|h6.at z)<|dR z z (add_ z z) ?_
 obtain ⟨_,ex,hmy⟩:=bdS<|ifF O H;refine dRX z z (rX n_ z_5 z z (J.g<|hp.e s3) z z ex) ?_;rintro _ ⟨_,_,_,rfl,hz⟩;refine dR z z (fd c_V z)<|dR z z (l0 g_4 z<|h6.at z)<|dM z z z<|dR z z (fd a_F z)<|dR z z (l0 g_3 z<|h6.at z)<|dR z z (add_ z z) ?_
 obtain ⟨_,a2,a1⟩:=bdS hmy;refine dE z z (fc call111 z<|W_w2q a2 (zt' L<|lt_ (lt_ (lt_ G.s h1.s) h2.s) s3.s) hz) (.inr λ_ _ h=>p_<|h.1) ?_;rintro _ _ ⟨a3,rfl,a4⟩
 iterate 3 refine dQ z z z ?_
 refine pD<|Wo ?_
 obtain rfl:=som a1;exact Wr<|I_ hr z z z ⟨bup (bup (bM (bup G h1) h2<|m1 G.s) s3) a3,z,a4,iA _ _⟩
def Q15 (w0:World)(B:Zone)(r:Val×Int×Int)(v:Value)(w':World):Prop:=Bw w0 w'/\un3 (λG H I=>∃J L O S1 a2 V W S2,v = .tuple #[(.agg #[vI G.number,sl J L O,sl a2 V W]),vI H,vI I]/\inI G.number/\a_ w' S1 (sl J L O) G.bytes/\a_ w' S2 (sl a2 V W) G.items/\inI H/\inI I/\(S1++S2).Nodup/\(∀k∈(S1++S2),w0.z<=k)) r
theorem W_w2r {x1:g_}{x2:Bt}{x3:Int}{res:Val×Int×Int}(hm:h_z x1 x2 x3=some res)(ab:B<=w0.z)(a5:x1.name.b.length<=LEN)(a6:inI x1.kind)(a7:inI x1.size)(I:repS w0 B (sl AB NB CB) x1.bytes)(a8:repS w0 B (sl AA NA CA) x1.names)(a9:repS w0 B (sl AC NC CC) x1.tags)(aa:repS w0 B (sl AD ND CD) x1.kids)(O:repS w0 B (sl A6 N6 C6) x2)(V:inI x3):l_ prog 80 [(.agg #[Str.v x1.name,vI x1.kind,vI x1.size,vB x1.little,sl AB NB CB,sl AA NA CA,sl AC NC CC,sl AD ND CD]),sl A6 N6 C6,vI x3] w0 (Q15 w0 B res):=by
 unfold h_z at hm
 refine goG func80 z z z λfn hr=>Ws<|E z (fb z) ?_
 rintro _ J ⟨rfl,he⟩;have G:=he.below;have h5:Blk J w0.z (vR x1 AB NB CB AA NA CA AC NC CC AD ND CD):=he.blk;refine E z (fa a_4) ?_;rintro _ H ⟨rfl,hf⟩;have h1:=hf.below;have L:Blk H J.z [vI 0,sN,sN]:=hf.blk;refine Ra z<|Rw z<|Wq<|Ws<|Rw z ?_
 obtain ⟨_,hun,hmg⟩:=bdS hm;refine Wf (σ:=Unit) (ρ:=Val×Int×Int) (λ(kh:Nat)(_:Unit) a w=>Sat 47 [(1,sl A6 N6 C6),(2,vI x3),(3,pt w0.z),(6,pt J.z),(9,vI ((kh:Nat):Int))] a/\Below H.z H w) (λ(_:Unit) a w=>Sat 47 [(2,vI x3),(3,pt w0.z),(6,pt J.z)] a/\Below H.z H w) (rQ prog fn<|Q15 w0 B) hun ?_ ?_ ?_ ?_ ?_
 .exact λ_ q=>⟨q.k<|s5 z z z z z,br H⟩
 .rintro kh _ _ _ _ hki ⟨hSo,s2⟩ hmj;refine Wu ?_ hSo;refine Wq<|Wm z<|Rf z b_6 z ?_
  have hk:=(h5.e h1).e s2;refine R z (l0 R_ z<|hk.at z) ?_;have ha:=((G.ag B).e h1).e s2;refine R z (lnR n_ z<|I.g ha)<|Rl z z z<|Wx z (λ_=>?_) (λhc=>(a_6 hki hc).elim)
  refine Wk<|Wq<|Wb<|Wq<|Wm z<|Rm z<|R z (add_ z z)<|Rm z<|R z (lnR n_ z<|O.g ha)<|R z (b_R z z)<|Wx z (λhcb=>?_) (λhcb=>?_)
  .refine Ws<|R z (bP (parts:=[]) (cs:=[vI 0,sN,sN]) Y_ z z)<|Rm z<|E0 (fs0 (cur':=[vI 0,sN,sN]) h_ z z (L.e s2) z z z z) ?_
   rintro _ _ ⟨hp,sq⟩;exact Ra z<|Rw z<|Wr<|rtO<|qL (som<|ifT hmj hcb).symm<|I_ hr (s_ q_ h_ z hp z) z z ⟨bM (bup (bup G h1) s2) sq.one<|m1 G.s,none,0,0,[],none,0,0,[],z,ii z,onL,onL,V,ii z,nd0,al0⟩
  refine Wk<|Wq (Wd (X:=noX) 0 (pl_ 12 []) mo (by kernel_rfl) λad s6 _=>?_)
  iterate 3 refine dM z z z ?_
  refine dR z z (add_ z z) ?_;obtain ⟨_,er,hms⟩:=bdS<|ifF hmj hcb;have hl:=ha.e s6;refine dRX z z (at_ (α:=UInt8) n_ z_5 z z z (O.g hl) er) ?_;rintro _ ⟨_,_,_,rfl,ht,hu,_⟩;obtain rfl:=u8 hu;refine dR z z (l0 g_5 z<|ht.at0 z)<|dR z z (fd b_6 z)<|dR z z (l0 R_ z<|(hk.e s6).at z)<|dM z z z ?_
  obtain ⟨_,ev,hmm⟩:=bdS hms;refine dRX z z (at_ (α:=UInt8) n_ z_5 z z z (I.g hl) ev) ?_;rintro _ ⟨_,_,_,rfl,hw,hx,_⟩;obtain rfl:=u8 hx;refine dR z z (l0 g_5 z<|hw.at0 z)<|dR z z (nq z z)<|pD<|Wo<|Wc z (λhcc=>?_) (λhcc=>?_)
  .refine Ws<|R z (bP (parts:=[]) (cs:=[vI 0,sN,sN]) Y_ z z)<|RM z z<|R z (add_ z z)<|E0 (fs0 (cur':=[vI 0,sN,sN]) h_ z z ((L.e s2).e s6) z z z z) ?_
   rintro _ _ ⟨hy,sz⟩;exact Ra z<|Rw z<|Wr<|rtO<|qL (som<|ifT hmm hcc).symm<|I_ hr (s_ q_ h_ z hy z) z z ⟨bM (bup (bup (bup G h1) s2) s6) sz.one<|m1 G.s,none,0,0,[],none,0,0,[],z,ii z,onL,onL,iA _ _,ii z,nd0,al0⟩
  exact Wk<|Wg<|Rm z<|R z (inc_ hki (lt_ (repS.len I) M_) z z)<|Ra z<|Wl (λ_ q=>⟨(),(som<|ifF hmm hcc).symm,⟨q.k<|s5 z z z z z,bup s2 s6⟩⟩)
 .rintro _ _ _ ⟨W,sd⟩;refine Wu ?_ W;refine Wq<|Wm z<|Rf z b_6 z<|R z (l0 R_ z<|((h5.e h1).e sd).at z)<|R z (lnR n_ z<|I.g<|((G.ag B).e h1).e sd)<|Rl z z z<|Wx z (λhc=>(a_7 hc).elim) (λ_=>?_)
  exact We<|λ_ q=>⟨rfl,⟨q.k<|s3 z z z,sd⟩⟩
 .rintro _ a2 _ rfl ⟨_,s7⟩;have Y:=elL hmg;revert a2;refine Wo<|Wq (Wd (X:=(· ∈ [J.z])) 0 (pl_ 9 [6]) mo (by kernel_rfl) λae s8 _=>dR z z (bP (parts:=[]) (cs:=[vI 0,sN,sN]) Y_ z z)<|dM z z z<|dR z z (fd b_6 z)<|dR z z (l1 R_ z (djs<|mmr h5.lt)<|(((h5.e h1).e s7).e s8).at z)<|dR z z (lnR n_ z<|I.g<|(((G.ag B).e h1).e s7).e s8)<|dR z z (add_ z z)<|dE0 z (fs0 (cur':=[vI 0,sN,sN]) h_ z z ((L.e s7).e s8) z z z z) (.inr λ_ _ h=>k_7 (List.mem_singleton.2 z) h.2) ?_)
  rintro _ _ ⟨a3,a4⟩;refine dQ z z z<|dQ z z z<|pD<|Wo ?_
  obtain rfl:=som Y;exact Wr<|I_ hr (s_ q_ h_ z a3 z) z z ⟨bM (bup (bup (bup G h1) s7) s8) a4.one<|m1 G.s,none,0,0,[],none,0,0,[],z,ii z,onL,onL,iA _ _,ii z,nd0,al0⟩
 rintro _ _ _ _ rfl ⟨rfl,a0⟩;have a1:=elR hmg;obtain rfl:=som a1;exact ⟨a0,z⟩
theorem W_w1g {x1:Bt}{x2:Int}{x3:Int}{res:Val×Int×Int}(hm:g_7 x1 x2 x3=some res)(a1:B<=w0.z)(O:repS w0 B (sl A0 N0 C0) x1)(Y:inI x2)(a0:inI x3):l_ prog 81 [sl A0 N0 C0,vI x2,vI x3] w0 (Q15 w0 B res):=by
 unfold g_7 at hm
 refine goG func81 z z z λfn hr=>Ws<|E z (fa a_4) ?_
 rintro _ we ⟨rfl,V⟩;have G:=V.below;have h2:Blk we w0.z [vI 0,sN,sN]:=V.blk;refine Ra z<|Rw z<|Wq<|Wm z<|R z (lnR n_ z<|O.e G)<|Rm z<|R z (sb_ z z)<|Rm z<|Rl z z z<|Wx z (λH=>?_) (λH=>?_)
 .refine Ws<|R z (bP (parts:=[]) (cs:=[vI 0,sN,sN]) Y_ z z)<|Rm z<|E0 (fs0 (cur':=[vI 0,sN,sN]) h_ z z h2 z z z z) ?_
  rintro _ _ ⟨hf,sg⟩;refine Ra z<|Rw z ?_
  obtain rfl:=som<|ifT hm H;exact Wr<|I_ hr (s_ q_ h_ z hf z) z z ⟨bM G sg.one<|c_ lr,none,0,0,[],none,0,0,[],z,ii z,onL,onL,Y,ii z,nd0,al0⟩
 refine Wk<|Ws<|E z (f0 (α:=UInt8) a_2) ?_
 rintro _ _ ⟨_,_,_,rfl,s1,hh⟩;refine RM z z<|RM z z<|R z (add_ z z) ?_
 obtain ⟨_,ei,hmj⟩:=bdS<|ifF hm H;refine RX z (rX n_ z_5 z z (O.g<|(G.ag B).e s1) z z ei) ?_;rintro _ ⟨_,_,_,rfl,hk⟩;obtain ⟨_,el,hmm⟩:=bdS hmj;refine E z (fN (α:=UInt8) a_2 el z z hh a_y hk) ?_;rintro _ _ ⟨W,I,J,L,rfl,s9,hn,ho,ha⟩;refine R z (bP (parts:=[(1,.tmp 24)]) (cs:=[vI 0,sl I J L,sN]) Y_ z z)<|RM z z<|R z (add_ z z) ?_
 have hb:=mmr h2.lt;refine E0 (fs0 (cur':=[vI 0,sl I J L,sN]) h_ z z ((h2.e s1).c s9<|djs hb) z z z z) ?_;rintro _ _ ⟨hp,sq⟩;have hc:=sq.one;refine Ra z<|Rw z ?_
 obtain rfl:=som hmm;have hd:=m1 G.s;exact Wr<|I_ hr (s_ q_ h_ z hp z) z z ⟨bM (bM (bup G s1) s9 hd) hc<|c_ lr,I,J,L,W,none,0,0,[],z,ii z,hn.c hc (or1 ha hb (U_ (c_ h2.lt) s1.s):∀k∈W,k∉[w0.z]),onL,iA _ _,ii z,na_ ho G_<|nmN _,aa_ (a_s ha hd<|lt_ G.s s1.s) an_⟩
def Q16 (w0:World)(B:Zone)(r:Bt×Int×Bool)(v:Value)(w':World):Prop:=Bw w0 w'/\un3 (λL G O=>∃H I J S1,v = .tuple #[sl H I J,vI G,vB O]/\a_ w' S1 (sl H I J) L/\inI G/\S1.Nodup/\(∀k∈S1,w0.z<=k)) r
theorem W_w2s {x1:Bt}{x2:Int}{x3:UInt8}{res:Bt×Int×Bool}(hm:h_A n x1 x2 x3=some res)(W:B<=w0.z)(O:repS w0 B (sl A0 N0 C0) x1)(V:inI x2):l_ prog 82 [sl A0 N0 C0,vI x2,vU<|byteI x3] w0 (Q16 w0 B res):=by
 unfold h_A at hm
 refine goG func82 z z z λfn hr=>Ws<|RA z z<|Rw z<|Ws<|E z (f0 (α:=UInt8) a_2) ?_
 rintro _ G ⟨al,am,an,rfl,s9,ao⟩;refine Rw z<|Wq<|Wm z<|Rw z ?_
 obtain ⟨_,a7,hmr⟩:=bdS hm;refine c_f (σ:=Bt×Int) (ρ:=Bt×Int×Bool) (λs a w=>un2 (λxb x5=>∃a2 I J H,Sat 54 [(0,sl A0 N0 C0),(1,vI x2),(2,vU<|byteI x3),(9,sl a2 I J),(10,vI x5)] a/\Cg [w0.z] G w/\a_ w H (sl a2 I J) xb/\H.Nodup/\(∀k∈H,k∈[w0.z]∨G.z<=k)/\inI x5) s) (λs a w=>un2 (λxb x5=>∃a2 I J H,Sat 54 [(1,vI x2)] a/\Cg [w0.z] G w/\a_ w H (sl a2 I J) xb/\H.Nodup/\(∀k∈H,k∈[w0.z]∨G.z<=k)/\inI x5) s) (rQ prog fn<|Q16 w0 B) a7 ?_ ?_ ?_ ?_
 .exact λ_ q=>⟨al,am,an,[w0.z],q.k<|s5 z z z z z,cr [w0.z] G,ao,a_y,io sr,V⟩
 .rintro ⟨xb,x5⟩ _ wc _ ⟨a2,I,J,H,a8,s8,hd,he,hf,hi⟩ a9;refine Wu ?_ a8;refine Wq<|Wq ?_
  obtain ⟨ap,aa,hms⟩:=bdS<|a_O a9;refine Wt (λa w=>∃(xj:Bool),xj=ap/\Sat 54 [(0,sl A0 N0 C0),(1,vI x2),(2,vU<|byteI x3),(9,sl a2 I J),(10,vI x5),(22,vB xj)] a/\Below wc.z wc w) ?_ ?_
  .refine Wg<|RM z z ?_
   have hu:=(s9.ag B).c s8<|b_ (or0 (c_ lr) (k_ W):∀k∈[w0.z],¬B k)
   have hv:=O.g hu;refine R z (lnR n_ z hv) ?_;obtain ⟨aq,ar,hmw⟩:=bdS aa;refine E z (fc call50 z<|b_t ar (zt' W<|lt_ s9.s s8.s) V (ii z)<|b_0<|repS.len hv) ?_;rintro _ _ ⟨sk,rfl⟩;refine Rm z ?_
   rcases bs aq with L | L
   .exact Rh z L (mv z)<|Rh z L (mv z)<|Rh z L (lnR n_ z<|O.g<|hu.e sk)<|Rh z L (lss z z)<|R z (pT z L z)<|Wl (λ_ q=>⟨decide<|x5<(x1.length:Int),som<|ifT hmw L,q.k<|s6 z z z z z z,sk⟩)
   iterate 4 refine Nh z L ?_
   exact R z (pF z L z)<|Wl (λ_ q=>⟨false,som<|ifF hmw L,q.k<|s6 z z z z z z,sk⟩)
  rintro au wa ⟨xj,rfl,_,s7⟩;revert au;refine Wo<|Wc z (λhcl=>?_) (λhcl=>?_)
  .refine Wk<|Wq<|Wb<|Wq<|Wm z<|Rm z ?_
   obtain ⟨_,av,hmx⟩:=bdS<|ifT hms hcl;have hy:=((s9.ag B).c s8<|b_ (or0 (c_ lr) (k_ W):∀k∈[w0.z],¬B k)).e s7;have hn:=O.g hy;refine RX z (at_ (α:=UInt8) n_ z_5 z z z hn av) ?_;rintro _ ⟨_,_,_,rfl,aw,ax,_⟩;obtain rfl:=u8 ax;refine R z (l0 g_5 z<|aw.at0 z)<|Rm z<|Rq z z z<|Wx z (λhcm=>?_) (λhcm=>?_)
   .refine Wm z<|Rm z<|R z (add_ z z)<|RA z z<|Rw z ?_
    exact Wr<|rtO<|qL (som<|ifT hmx hcm).symm<|I_ hr z z z ⟨bup (bM s9 s8<|c_ lr) s7,a2,I,J,H,z,hd.e s7,iA _ _,he,(or1 hf (c_ lr) (b_o s9.s):∀k∈H,w0.z<=k)⟩
   refine Wk<|Wq<|Wm z<|Rm z ?_
   obtain ⟨_,ay,ab⟩:=bdS<|ifF hmx hcm;refine RX z (at_ (α:=UInt8) n_ z_5 z z z hn ay) ?_;rintro _ ⟨_,_,_,rfl,az,aA,_⟩;obtain rfl:=u8 aA;refine R z (l0 g_5 z<|az.at0 z)<|Rq z z z<|Wn ?_
   obtain ⟨aB,huz,Y⟩:=bdS ab;refine Wt (λa w=>∃(xg:Int),Sum.inl xg=aB/\Sat 54 [(0,sl A0 N0 C0),(1,vI x2),(2,vU<|byteI x3),(9,sl a2 I J),(10,vI xg)] a/\Below wa.z wa w/\inI xg) ?_ ?_
   .refine Wc z (λhco=>?_)<|λhco=>?_
    .have a0:=ifT huz hco;refine Wm z<|R z (add_ z z)<|Rw z<|Wm z<|Rm z<|R z (lnR n_ z hn)<|Rq z z z<|Wx z (λhcp=>?_) (λhcp=>?_)
     .obtain rfl:=som<|ifT a0 hcp;have ad:=elR Y;exact We<|exO z (λ_ q=>b_N (som ad).symm ⟨a2,I,J,H,q.k<|s1 z,(f_ (cM (cr [w0.z] G) s8 (io sr):Cg [w0.z] G wc) s7:Cg [w0.z] G wa),hd.e s7,he,(or1 hf (io sr) (B_ lr):∀k∈H,k∈[w0.z]∨G.z<=k),iA _ _⟩)
     exact a_k<|λ_ q=>⟨i_ x5 1,som<|ifF a0 hcp,q.k<|s5 z z z z z,br wa,iA _ _⟩
    exact a_k<|λ_ q=>⟨x5,som<|ifF huz hco,q.k<|s5 z z z z z,br wa,hi⟩
   rintro aC a1 ⟨xg,rfl,_,sh,_⟩;have ae:=elL Y;revert aC;refine Wo<|Wg<|RM z z<|Rm z ?_
   obtain ⟨aD,aE,af⟩:=bdS ae;refine RX z (at_ (α:=UInt8) n_ z_5 z z z (O.g<|hy.e sh) aE) ?_;rintro _ ⟨_,_,_,rfl,aF,aG,_⟩;obtain rfl:=u8 aG;refine R z (l0 g_5 z<|aF.at0 z)<|E z (fS [(.tmp 49)] a_2 z z z (a_e z) (lb z)<|lb z) ?_
   rintro _ a3 ⟨rfl,hq⟩;have ht:=hq.below;have aY:=a_J hq b_n;obtain ⟨aH,aI,ah⟩:=bdS af;refine E z (a_X (α:=UInt8) a_2 aI z z (((hd.e s7).e sh).e ht) he (hq.blk:Blk a3 a1.z [vU (byteI aD)]) b_n an_ G_) ?_;rintro _ aJ ⟨a4,aK,aL,aM,rfl,aN,aO,aP,aQ⟩;refine Rw z<|Wg<|Rm z<|R z (add_ z z)<|Ra z<|Wl ?_
   have a5:∀k∈H,k∈[w0.z]∨G.z<=k:=or1 hf (io sr)<|B_ lr;exact λ_ q=>⟨(aH,i_ xg 1),(som ah).symm,⟨aK,aL,aM,a4,q.k<|s5 z z z z z,(cM (f_ (f_ (f_ (cM (cr [w0.z] G) s8 (io sr):Cg [w0.z] G wc) s7:Cg [w0.z] G wa) sh:Cg [w0.z] G a1) ht:Cg [w0.z] G a3) aN a5:Cg [w0.z] G aJ),aO,aP,(or2 aQ a5 an_ (B_<|lt_ (lt_ (lt_ s8.s s7.s) sh.s) ht.s):∀k∈a4,k∈[w0.z]∨G.z<=k),iA _ _⟩⟩
  exact We<|λ_ q=>b_N (som<|ifF hms hcl).symm ⟨a2,I,J,H,q.k<|s1 z,(f_ (cM (cr [w0.z] G) s8 (io sr):Cg [w0.z] G wc) s7:Cg [w0.z] G wa),hd.e s7,he,(or1 hf (io sr) (B_ lr):∀k∈H,k∈[w0.z]∨G.z<=k),hi⟩
 .rintro ⟨xb,x5⟩ aR aS rfl ⟨a2,I,J,H,_,a6,hd,he,hf,hi⟩;have ai:=elL hmr;revert aR;refine Wo<|Ws<|E z (f0 (α:=UInt8) a_2) ?_
  rintro _ _ ⟨aT,aU,aV,rfl,aW,aX⟩;refine Rm z<|RA z z<|Rw z ?_
  obtain rfl:=som<|a_O ai;exact Wr<|I_ hr z z z ⟨bup (bM s9 a6<|c_ lr) aW,aT,aU,aV,[aS.z],z,aX,V,a_y,m1<|lt_ s9.s a6.s⟩
 rintro _ _ _ _ rfl ⟨rfl,aj⟩;have ak:=elR hmr;obtain rfl:=som ak;exact ⟨aj,z⟩
structure k_p (f:d_->Int->Bt->Int->Option (Val×Int×Int)):Prop where
  run:∀{A0 A9:Option Addr}{N0 C0 N9 C9:Nat}{B:Zone}{x1:d_}{x2:Int}{x3:Bt}{x4:Int}{res:Val×Int×Int}{w0:World}(hm:f x1 x2 x3 x4=some res)(hBw:B<=w0.z)(p1_0:repS w0 B (sl A0 N0 C0) x1.rules)(p2_0:inI x2)(p3_0:repS w0 B (sl A9 N9 C9) x3)(p4_0:inI x4),l_ prog 51 [(.agg #[sl A0 N0 C0]),vI x2,sl A9 N9 C9,vI x4] w0<|Q15 w0 B res
structure k_q (f:d_->g_->Int->Int->Bt->Int->Option (Val×Int×Int)):Prop where
  run:∀{A0 A2 A3 A1 A5 AH:Option Addr}{N0 C0 N2 C2 N3 C3 N1 C1 N5 C5 NH CH:Nat}{B:Zone}{x1:d_}{x2:g_}{x3:Int}{x4:Int}{x5:Bt}{x6:Int}{res:Val×Int×Int}{w0:World}(hm:f x1 x2 x3 x4 x5 x6=some res)(hBw:B<=w0.z)(p1_0:repS w0 B (sl A0 N0 C0) x1.rules)(p2_0:x2.name.b.length<=LEN)(p2_1:inI x2.kind)(p2_2:inI x2.size)(p2_4:repS w0 B (sl A2 N2 C2) x2.bytes)(p2_5:repS w0 B (sl A3 N3 C3) x2.names)(p2_6:repS w0 B (sl A1 N1 C1) x2.tags)(p2_7:repS w0 B (sl A5 N5 C5) x2.kids)(p3_0:inI x3)(p4_0:inI x4)(p5_0:repS w0 B (sl AH NH CH) x5)(p6_0:inI x6),l_ prog 83 [(.agg #[sl A0 N0 C0]),.agg #[Str.v x2.name,vI x2.kind,vI x2.size,vB x2.little,sl A2 N2 C2,sl A3 N3 C3,sl A1 N1 C1,sl A5 N5 C5],vI x3,vI x4,sl AH NH CH,vI x6] w0<|Q15 w0 B res
structure k_r (f:d_->g_->Bt->Int->Option (Val×Int×Int)):Prop where
  run:∀{A0 A2 A3 A1 A5 A9:Option Addr}{N0 C0 N2 C2 N3 C3 N1 C1 N5 C5 N9 C9:Nat}{B:Zone}{x1:d_}{x2:g_}{x3:Bt}{x4:Int}{res:Val×Int×Int}{w0:World}(hm:f x1 x2 x3 x4=some res)(hBw:B<=w0.z)(p1_0:repS w0 B (sl A0 N0 C0) x1.rules)(p2_0:x2.name.b.length<=LEN)(p2_1:inI x2.kind)(p2_2:inI x2.size)(p2_4:repS w0 B (sl A2 N2 C2) x2.bytes)(p2_5:repS w0 B (sl A3 N3 C3) x2.names)(p2_6:repS w0 B (sl A1 N1 C1) x2.tags)(p2_7:repS w0 B (sl A5 N5 C5) x2.kids)(p3_0:repS w0 B (sl A9 N9 C9) x3)(p4_0:inI x4),l_ prog 84 [(.agg #[sl A0 N0 C0]),.agg #[Str.v x2.name,vI x2.kind,vI x2.size,vB x2.little,sl A2 N2 C2,sl A3 N3 C3,sl A1 N1 C1,sl A5 N5 C5],sl A9 N9 C9,vI x4] w0<|Q15 w0 B res
structure k_s (f:d_->g_->Bt->Int->Option (Val×Int×Int)):Prop where
  run:∀{A0 A2 A3 A1 A5 A9:Option Addr}{N0 C0 N2 C2 N3 C3 N1 C1 N5 C5 N9 C9:Nat}{B:Zone}{x1:d_}{x2:g_}{x3:Bt}{x4:Int}{res:Val×Int×Int}{w0:World}(hm:f x1 x2 x3 x4=some res)(hBw:B<=w0.z)(p1_0:repS w0 B (sl A0 N0 C0) x1.rules)(p2_0:x2.name.b.length<=LEN)(p2_1:inI x2.kind)(p2_2:inI x2.size)(p2_4:repS w0 B (sl A2 N2 C2) x2.bytes)(p2_5:repS w0 B (sl A3 N3 C3) x2.names)(p2_6:repS w0 B (sl A1 N1 C1) x2.tags)(p2_7:repS w0 B (sl A5 N5 C5) x2.kids)(p3_0:repS w0 B (sl A9 N9 C9) x3)(p4_0:inI x4),l_ prog 85 [(.agg #[sl A0 N0 C0]),.agg #[Str.v x2.name,vI x2.kind,vI x2.size,vB x2.little,sl A2 N2 C2,sl A3 N3 C3,sl A1 N1 C1,sl A5 N5 C5],sl A9 N9 C9,vI x4] w0<|Q15 w0 B res
structure k_t (f:d_->g_->Bt->Int->Option (Val×Int×Int)):Prop where
  run:∀{A0 A2 A3 A1 A5 A9:Option Addr}{N0 C0 N2 C2 N3 C3 N1 C1 N5 C5 N9 C9:Nat}{B:Zone}{x1:d_}{x2:g_}{x3:Bt}{x4:Int}{res:Val×Int×Int}{w0:World}(hm:f x1 x2 x3 x4=some res)(hBw:B<=w0.z)(p1_0:repS w0 B (sl A0 N0 C0) x1.rules)(p2_0:x2.name.b.length<=LEN)(p2_1:inI x2.kind)(p2_2:inI x2.size)(p2_4:repS w0 B (sl A2 N2 C2) x2.bytes)(p2_5:repS w0 B (sl A3 N3 C3) x2.names)(p2_6:repS w0 B (sl A1 N1 C1) x2.tags)(p2_7:repS w0 B (sl A5 N5 C5) x2.kids)(p3_0:repS w0 B (sl A9 N9 C9) x3)(p4_0:inI x4),l_ prog 86 [(.agg #[sl A0 N0 C0]),.agg #[Str.v x2.name,vI x2.kind,vI x2.size,vB x2.little,sl A2 N2 C2,sl A3 N3 C3,sl A1 N1 C1,sl A5 N5 C5],sl A9 N9 C9,vI x4] w0<|Q15 w0 B res
abbrev f_B (n:Nat):Prop:=k_p (a_v n).spec_l11Read/\k_q (a_v n).spec_l11Items/\k_r (a_v n).spec_l11Choice/\k_s (a_v n).spec_l11Option/\k_t (a_v n).spec_l11Checked
theorem T_w03 (ih:f_B n):k_p (h_B n<|a_v n):=by
 obtain ⟨_,bo,db,dc,dd⟩:=ih
 constructor
 intro A0 A9 N0 C0 N9 C9 B x1 x2 x3 x4 res w0 hm H W d0 J I;unfold h_B at hm
 refine goG func51 z z z λfn hr=>Ws<|E z (fb z) ?_
 rintro _ bp ⟨rfl,bq⟩;have h3:=bq.below;have hn:Blk bp w0.z [sl A0 N0 C0]:=bq.blk;refine E z (fa a_4) ?_;rintro _ L ⟨rfl,br⟩;have h4:=br.below;have h2:Blk L bp.z [vI 0,sN,sN]:=br.blk;refine Ra z<|Rw z<|Ws<|Rf z a_3 z ?_
 have ho:=hn.e h4;refine R z (l0 a_8 z<|ho.at z)<|Rm z ?_
 obtain ⟨xa,de,b9⟩:=bdS hm;have O:=(h3.ag B).e h4;refine RX z (at_ (α:=g_) a_a o_ z z z (W.g O) de) ?_;rintro _ ⟨_,_,_,rfl,df,dg,_⟩;obtain ⟨ab,nc,cd,ae,nf,cg,ah,ni,cj,ak,nl,cm,rfl,hu,hv,hp,hq,hw,hx,ht⟩:=a_D dg;refine R z (lN (vs:=vR xa ab nc cd ae nf cg ah ni cj ak nl cm) L_ o_ z z fid df)<|E z (fa b_P) ?_
 rintro _ dh ⟨rfl,bs⟩;have G:=bs.below;refine E0 (fs0 (cur':=vR xa ab nc cd ae nf cg ah ni cj ak nl cm) o_ z z (bs.blk:Blk dh L.z [(Str.v (⟨[]⟩:Str)),vI 0,vI 0,vB false,sN,sN,sN,sN]) z z z z) ?_;rintro _ _ ⟨V,di⟩;have h1:=di.one;refine Wn<|Wq<|Ws<|Rf z a_u z<|R z (l0 g_3 z<|V.at z)<|Wn<|Wb<|Ws<|Rq z z z<|Rw z<|Wc z (λal=>?_) (λal=>?_)
 .refine Ws<|R z (lN (vs:=[sl A0 N0 C0]) t_ r_ z z fid<|((ho.e G).c h1<|djs<|mm1 hn.lt h4.s).row 0 1 z)<|RM z z<|Rm z ?_
  have hz:=lt_ h3.s h4.s;have bt:=(O.e G).c h1<|b_ (or0 (c_ lr) (k_<|zt' H hz):∀k∈[L.z],¬B k)
  obtain ⟨bu,_,_,dj,ba⟩:=w_<|ifT b9 al;refine E z (fc call78 z<|i_W dj (zt' H<|lt_ (lt_ hz G.s) h1.s) (W.g bt) d0 (J.g bt) I) ?_;rintro _ _ ⟨sr,rfl,dk,dl⟩;refine Rm z ?_
  iterate 3 refine Re z z z ?_
  refine RA z z<|Rw z<|Wq<|Wm z<|R z (not_ z)<|Wx z (λam=>?_) (λam=>?_)
  .refine Ws<|R z (bP (parts:=[]) (cs:=[vI 0,sN,sN]) Y_ z z)<|Rm z<|E0 (fs0 (cur':=[vI 0,sN,sN]) h_ z z (((h2.e G).c h1<|djs<|mmr h2.lt).e sr) z z z z) ?_
   rintro _ _ ⟨dm,dn⟩;refine Ra z<|Rw z ?_
   obtain rfl:=som<|ifT ba am;exact Wr<|rtO<|I_ hr (s_ q_ h_ z dm z) z z ⟨bM (bup (bM (bup (bup h3 h4) G) h1<|m1 hz) sr) dn.one<|m1 h3.s,none,0,0,[],none,0,0,[],z,ii z,onL,onL,I,ii z,nd0,al0⟩
  refine Wk<|Wm z<|R z (bP (parts:=[(0,.tmp 43)]) (cs:=[vI bu,sN,sN]) Y_ z z)<|Rm z<|E0 (fs0 (cur':=[vI bu,sN,sN]) h_ z z (((h2.e G).c h1<|djs<|mmr h2.lt).e sr) z z z z) ?_
  rintro _ _ ⟨dp,dq⟩;refine Ra z<|Rw z ?_
  obtain rfl:=som<|ifF ba am;exact Wr<|rtO<|I_ hr (s_ q_ h_ z dp z) z z ⟨bM (bup (bM (bup (bup h3 h4) G) h1<|m1 hz) sr) dq.one<|m1 h3.s,none,0,0,[],none,0,0,[],z,dk,onL,onL,dl,ii z,nd0,al0⟩
 have bb:=ifF b9 al;refine Ws<|Rq z z z<|Rw z<|Wc z (λan=>?_) (λan=>?_)
 .refine Ws<|R z (lN (vs:=vR xa ab nc cd ae nf cg ah ni cj ak nl cm) L_ o_ z z fid<|V.row 0 8 z)<|RM z z ?_
  have aA:=lt_ h3.s h4.s;have bv:∀k∈[L.z],¬B k:=or0 (c_ lr)<|k_<|zt' H aA;have Y:=(G.ag B).c h1<|b_ bv
  have aB:=lt_ (lt_ aA G.s) h1.s;obtain ⟨dr,_,_,ds,d1⟩:=w_<|ifT bb an;refine E z (fc call80 z<|W_w2r ds (zt' H aB) hu hv hp (hq.g Y) (hw.g Y) (hx.g Y) (ht.g Y) (J.g<|(O.e G).c h1<|b_ bv) I) ?_;rintro _ _ ⟨bw,bx,bz,bA,dt,bB,bC,bD,du,rfl,dv,dw,dx,dy,dz,aC,a0⟩
  iterate 3 refine Re z z z ?_
  refine E0 (fs0 (cur':=[vI dr.number,sl bx bz bA,sl bB bC bD]) h_ z z (((h2.e G).c h1<|djs<|mmr h2.lt).e bw) z z z z) ?_;rintro _ _ ⟨dA,dB⟩;have aD:=dB.one;refine Ra z<|Rw z ?_
  obtain rfl:=som d1;have bE:=lt_ G.s h1.s;exact Wr<|rtO<|I_ hr (s_ q_ h_ z dA z) z z ⟨bM (bup (bM (bup (bup h3 h4) G) h1<|m1 aA) bw) aD<|m1 h3.s,bx,bz,bA,dt,bB,bC,bD,du,z,dv,dw.c aD<|j_ (al_ a0) h2.lt bE,dx.c aD<|j_ (ar_ a0) h2.lt bE,dy,dz,na_ (nl_ aC) (nr_ aC)<|nj aC,aa_ (m_ (al_ a0) aB)<|m_ (ar_ a0) aB⟩
 have bc:=ifF bb an;refine Ws<|Rq z z z<|Rw z<|Wc z (λao=>?_) (λao=>?_)
 .refine Wm z<|Rm z<|Rf z a_F z<|R z (l0 g_3 z<|V.at z) ?_
  have aE:=lt_ h3.s h4.s;have aF:=lt_ (lt_ aE G.s) h1.s;obtain ⟨dC,_,_,dD,d2⟩:=w_<|ifT bc ao;refine E z (fc call81 z<|W_w1g dD (zt' H aF) (J.g<|(O.e G).c h1<|b_ (or0 (c_ lr) (k_<|zt' H aE):∀k∈[L.z],¬B k)) I hp) ?_;rintro _ _ ⟨bF,bG,bH,bI,dF,bJ,bK,bL,dG,rfl,dH,dI,dJ,dK,dL,aG,a1⟩
  iterate 3 refine Re z z z ?_
  refine E0 (fs0 (cur':=[vI dC.number,sl bG bH bI,sl bJ bK bL]) h_ z z (((h2.e G).c h1<|djs<|mmr h2.lt).e bF) z z z z) ?_;rintro _ _ ⟨dN,dO⟩;have aH:=dO.one;refine Ra z<|Rw z ?_
  obtain rfl:=som d2;have bN:=lt_ G.s h1.s;exact Wr<|rtO<|I_ hr (s_ q_ h_ z dN z) z z ⟨bM (bup (bM (bup (bup h3 h4) G) h1<|m1 aE) bF) aH<|m1 h3.s,bG,bH,bI,dF,bJ,bK,bL,dG,z,dH,dI.c aH<|j_ (al_ a1) h2.lt bN,dJ.c aH<|j_ (ar_ a1) h2.lt bN,dK,dL,na_ (nl_ aG) (nr_ aG)<|nj aG,aa_ (m_ (al_ a1) aF)<|m_ (ar_ a1) aF⟩
 have be:=ifF bc ao;refine Ws<|Rq z z z<|Rw z<|Wc z (λap=>?_) (λap=>?_)
 .refine Wm z<|Rm z<|Rf z b_6 z<|R z (l0 R_ z<|V.at z) ?_
  obtain ⟨_,dP,d3⟩:=bdS<|ifT be ap;have a2:=lt_ h3.s h4.s;have bO:∀k∈[L.z],¬B k:=or0 (c_ lr)<|k_<|zt' H a2;refine RX z (at_ (α:=UInt8) n_ z_5 z z z (hq.g<|(G.ag B).c h1<|b_ bO) dP) ?_;rintro _ ⟨_,_,_,rfl,dS,dT,_⟩;obtain rfl:=u8 dT;refine R z (l0 g_5 z<|dS.at0 z) ?_;have bQ:=lt_ (lt_ a2 G.s) h1.s;obtain ⟨_,_,_,dU,bf⟩:=w_ d3;refine E z (fc call82 z<|W_w2s dU (zt' H bQ) (J.g<|(O.e G).c h1<|b_ bO) I) ?_;rintro _ _ ⟨ss,aI,aJ,aK,dV,rfl,dW,dX,dY,bR⟩;refine Rm z ?_
  iterate 3 refine Re z z z ?_
  refine RA z z<|Rw z<|Wq<|Wm z<|R z (not_ z)<|Wx z (λaq=>?_) (λaq=>?_)
  .refine Ws<|R z (bP (parts:=[]) (cs:=[vI 0,sN,sN]) Y_ z z)<|Rm z<|E0 (fs0 (cur':=[vI 0,sN,sN]) h_ z z (((h2.e G).c h1<|djs<|mmr h2.lt).e ss) z z z z) ?_
   rintro _ _ ⟨dZ,e0⟩;refine Ra z<|Rw z ?_
   obtain rfl:=som<|ifT bf aq;exact Wr<|rtO<|I_ hr (s_ q_ h_ z dZ z) z z ⟨bM (bup (bM (bup (bup h3 h4) G) h1<|m1 a2) ss) e0.one<|m1 h3.s,none,0,0,[],none,0,0,[],z,ii z,onL,onL,I,ii z,nd0,al0⟩
  refine Wk<|Wm z<|R z (bP (parts:=[(1,.tmp 82)]) (cs:=[vI 0,sl aI aJ aK,sN]) Y_ z z)<|Rm z<|E0 (fs0 (cur':=[vI 0,sl aI aJ aK,sN]) h_ z z (((h2.e G).c h1<|djs<|mmr h2.lt).e ss) z z z z) ?_
  rintro _ _ ⟨e1,e2⟩;have bS:=e2.one;refine Ra z<|Rw z ?_
  obtain rfl:=som<|ifF bf aq;exact Wr<|rtO<|I_ hr (s_ q_ h_ z e1 z) z z ⟨bM (bup (bM (bup (bup h3 h4) G) h1<|m1 a2) ss) bS<|m1 h3.s,aI,aJ,aK,dV,none,0,0,[],z,ii z,dW.c bS<|j_ bR h2.lt<|lt_ G.s h1.s,onL,dX,ii z,na_ dY G_<|nmN _,aa_ (m_ bR bQ) an_⟩
 have bg:=ifF be ap;refine Ws<|Rq z z z<|Rw z<|Wc z (λar=>?_) (λar=>?_)
 .refine Ws<|R z (lN (vs:=[sl A0 N0 C0]) t_ r_ z z fid<|((ho.e G).c h1<|djs<|mm1 hn.lt h4.s).row 0 1 z)<|R z (lN (vs:=vR xa ab nc cd ae nf cg ah ni cj ak nl cm) L_ o_ z z fid<|V.row 0 8 z)<|Rf z J_ z<|R z (l0 A_ z<|V.at z) ?_
  have aL:=lt_ h3.s h4.s;have bT:∀k∈[L.z],¬B k:=or0 (c_ lr)<|k_<|zt' H aL;have a3:=(G.ag B).c h1<|b_ bT
  have aM:=ht.g a3;refine R z (lnR v_ z aM)<|RM z z ?_
  have bU:=(O.e G).c h1<|b_ bT
  have aN:=lt_ (lt_ aL G.s) h1.s;obtain ⟨e3,_,_,e4,d4⟩:=w_<|ifT bg ar;refine E z (fc call83 z<|bo.run e4 (zt' H aN) (W.g bU) hu hv hp (hq.g a3) (hw.g a3) (hx.g a3) aM (ii z) (b_0<|repS.len aM) (J.g bU) I) ?_;rintro _ _ ⟨bV,bW,bX,bY,e5,bZ,c0,c1,e6,rfl,e7,e8,e9,ea,eb,aO,a4⟩
  iterate 3 refine Re z z z ?_
  refine E0 (fs0 (cur':=[vI e3.number,sl bW bX bY,sl bZ c0 c1]) h_ z z (((h2.e G).c h1<|djs<|mmr h2.lt).e bV) z z z z) ?_;rintro _ _ ⟨ec,ed⟩;have aP:=ed.one;refine Ra z<|Rw z ?_
  obtain rfl:=som d4;have c2:=lt_ G.s h1.s;exact Wr<|rtO<|I_ hr (s_ q_ h_ z ec z) z z ⟨bM (bup (bM (bup (bup h3 h4) G) h1<|m1 aL) bV) aP<|m1 h3.s,bW,bX,bY,e5,bZ,c0,c1,e6,z,e7,e8.c aP<|j_ (al_ a4) h2.lt c2,e9.c aP<|j_ (ar_ a4) h2.lt c2,ea,eb,na_ (nl_ aO) (nr_ aO)<|nj aO,aa_ (m_ (al_ a4) aN)<|m_ (ar_ a4) aN⟩
 have bh:=ifF bg ar;refine Ws<|Rq z z z<|Rw z<|Wc z (λau=>?_) (λau=>?_)
 .refine Ws<|R z (lN (vs:=[sl A0 N0 C0]) t_ r_ z z fid<|((ho.e G).c h1<|djs<|mm1 hn.lt h4.s).row 0 1 z)<|R z (lN (vs:=vR xa ab nc cd ae nf cg ah ni cj ak nl cm) L_ o_ z z fid<|V.row 0 8 z)<|RM z z ?_
  have aQ:=lt_ h3.s h4.s;have c3:∀k∈[L.z],¬B k:=or0 (c_ lr)<|k_<|zt' H aQ;have c4:=(O.e G).c h1<|b_ c3
  have a5:=(G.ag B).c h1<|b_ c3
  have aR:=lt_ (lt_ aQ G.s) h1.s;obtain ⟨ee,_,_,ef,d5⟩:=w_<|ifT bh au;refine E z (fc call84 z<|db.run ef (zt' H aR) (W.g c4) hu hv hp (hq.g a5) (hw.g a5) (hx.g a5) (ht.g a5) (J.g c4) I) ?_;rintro _ _ ⟨c5,c6,c7,c8,eg,c9,ca,cb,eh,rfl,ei,ej,ek,em,en,aS,a6⟩
  iterate 3 refine Re z z z ?_
  refine E0 (fs0 (cur':=[vI ee.number,sl c6 c7 c8,sl c9 ca cb]) h_ z z (((h2.e G).c h1<|djs<|mmr h2.lt).e c5) z z z z) ?_;rintro _ _ ⟨eo,ep⟩;have aT:=ep.one;refine Ra z<|Rw z ?_
  obtain rfl:=som d5;have cc:=lt_ G.s h1.s;exact Wr<|rtO<|I_ hr (s_ q_ h_ z eo z) z z ⟨bM (bup (bM (bup (bup h3 h4) G) h1<|m1 aQ) c5) aT<|m1 h3.s,c6,c7,c8,eg,c9,ca,cb,eh,z,ei,ej.c aT<|j_ (al_ a6) h2.lt cc,ek.c aT<|j_ (ar_ a6) h2.lt cc,em,en,na_ (nl_ aS) (nr_ aS)<|nj aS,aa_ (m_ (al_ a6) aR)<|m_ (ar_ a6) aR⟩
 have bi:=ifF bh au;refine Ws<|Rq z z z<|Rw z<|Wc z (λav=>?_) (λav=>?_)
 .refine Ws<|R z (lN (vs:=[sl A0 N0 C0]) t_ r_ z z fid<|((ho.e G).c h1<|djs<|mm1 hn.lt h4.s).row 0 1 z)<|R z (lN (vs:=vR xa ab nc cd ae nf cg ah ni cj ak nl cm) L_ o_ z z fid<|V.row 0 8 z)<|RM z z ?_
  have aU:=lt_ h3.s h4.s;have ce:∀k∈[L.z],¬B k:=or0 (c_ lr)<|k_<|zt' H aU;have cf:=(O.e G).c h1<|b_ ce
  have a7:=(G.ag B).c h1<|b_ ce
  have aV:=lt_ (lt_ aU G.s) h1.s;obtain ⟨eq,_,_,er,d6⟩:=w_<|ifT bi av;refine E z (fc call85 z<|dc.run er (zt' H aV) (W.g cf) hu hv hp (hq.g a7) (hw.g a7) (hx.g a7) (ht.g a7) (J.g cf) I) ?_;rintro _ _ ⟨ch,ci,ck,cl,es,cn,co,cp,eu,rfl,ew,ex,ey,ez,eA,aW,a8⟩
  iterate 3 refine Re z z z ?_
  refine E0 (fs0 (cur':=[vI eq.number,sl ci ck cl,sl cn co cp]) h_ z z (((h2.e G).c h1<|djs<|mmr h2.lt).e ch) z z z z) ?_;rintro _ _ ⟨eB,eC⟩;have aX:=eC.one;refine Ra z<|Rw z ?_
  obtain rfl:=som d6;have cq:=lt_ G.s h1.s;exact Wr<|rtO<|I_ hr (s_ q_ h_ z eB z) z z ⟨bM (bup (bM (bup (bup h3 h4) G) h1<|m1 aU) ch) aX<|m1 h3.s,ci,ck,cl,es,cn,co,cp,eu,z,ew,ex.c aX<|j_ (al_ a8) h2.lt cq,ey.c aX<|j_ (ar_ a8) h2.lt cq,ez,eA,na_ (nl_ aW) (nr_ aW)<|nj aW,aa_ (m_ (al_ a8) aV)<|m_ (ar_ a8) aV⟩
 have bj:=ifF bi av;refine Ws<|Rq z z z<|Rw z<|Wc z (λaw=>?_) (λaw=>?_)
 .refine Ws<|R z (lN (vs:=[sl A0 N0 C0]) t_ r_ z z fid<|((ho.e G).c h1<|djs<|mm1 hn.lt h4.s).row 0 1 z)<|R z (lN (vs:=vR xa ab nc cd ae nf cg ah ni cj ak nl cm) L_ o_ z z fid<|V.row 0 8 z)<|RM z z ?_
  have aY:=lt_ h3.s h4.s;have cr:∀k∈[L.z],¬B k:=or0 (c_ lr)<|k_<|zt' H aY;have ct:=(O.e G).c h1<|b_ cr
  have a9:=(G.ag B).c h1<|b_ cr
  have aZ:=lt_ (lt_ aY G.s) h1.s;obtain ⟨eD,_,_,eE,d7⟩:=w_<|ifT bj aw;refine E z (fc call86 z<|dd.run eE (zt' H aZ) (W.g ct) hu hv hp (hq.g a9) (hw.g a9) (hx.g a9) (ht.g a9) (J.g ct) I) ?_;rintro _ _ ⟨cu,cv,cw,cx,eF,cy,cz,cA,eG,rfl,eH,eI,eJ,eK,eL,b0,aa⟩
  iterate 3 refine Re z z z ?_
  refine E0 (fs0 (cur':=[vI eD.number,sl cv cw cx,sl cy cz cA]) h_ z z (((h2.e G).c h1<|djs<|mmr h2.lt).e cu) z z z z) ?_;rintro _ _ ⟨eM,eN⟩;have b1:=eN.one;refine Ra z<|Rw z ?_
  obtain rfl:=som d7;have cB:=lt_ G.s h1.s;exact Wr<|rtO<|I_ hr (s_ q_ h_ z eM z) z z ⟨bM (bup (bM (bup (bup h3 h4) G) h1<|m1 aY) cu) b1<|m1 h3.s,cv,cw,cx,eF,cy,cz,cA,eG,z,eH,eI.c b1<|j_ (al_ aa) h2.lt cB,eJ.c b1<|j_ (ar_ aa) h2.lt cB,eK,eL,na_ (nl_ b0) (nr_ b0)<|nj b0,aa_ (m_ (al_ aa) aZ)<|m_ (ar_ aa) aZ⟩
 refine Wk<|Wq (Wd (X:=noX) 0 (pl_ 15 [7]) mo (by kernel_rfl) λfo s6 _=>?_)
 have cC:=((ho.e G).c h1<|djs<|mm1 hn.lt h4.s).e s6;refine dR z z (lN (vs:=[sl A0 N0 C0]) t_ r_ z z fid<|cC.row 0 1 z)<|dR z z (fd J_ z) ?_
 have cD:=V.e s6;refine dR z z (l0 A_ z<|cD.at z) ?_;obtain ⟨_,eO,d8⟩:=bdS<|ifF bj aw;have hy:=lt_ h3.s h4.s;have cE:∀k∈[L.z],¬B k:=or0 (c_ lr)<|k_<|zt' H hy;have cF:=((G.ag B).c h1<|b_ cE).e s6;refine dRX z z (at_ (α:=Int) v_ z_3 z z z (ht.g cF) eO) ?_;rintro _ ⟨_,_,_,rfl,eP,eQ,_⟩;obtain ⟨rfl,eR⟩:=O_ eQ;refine dR z z (l0 g_3 z<|eP.at0 z)<|dM z z z<|dM z z z ?_
 have ad:=((O.e G).c h1<|b_ cE).e s6;have b2:=lt_ (lt_ (lt_ hy G.s) h1.s) s6.s;obtain ⟨_,_,_,eS,bk⟩:=w_ d8;refine dE z z (fc call78 z<|i_W eS (zt' H b2) (W.g ad) eR (J.g ad) I) (.inr λ_ _ h=>p_<|h.1) ?_;rintro _ _ ⟨s5,rfl,cG,cH⟩;refine dM z z z ?_
 iterate 3 refine dR z z (ext_ z z) ?_
 iterate 3 refine dQ z z z ?_
 refine pD<|Wo<|Wq<|Wb<|Wm z<|R z (not_ z)<|Rw z<|Wc z (λax=>?_) (λax=>?_)
 .refine Ws<|R z (bP (parts:=[]) (cs:=[vI 0,sN,sN]) Y_ z z)<|Rm z<|E0 (fs0 (cur':=[vI 0,sN,sN]) h_ z z ((((h2.e G).c h1<|djs<|mmr h2.lt).e s6).e s5) z z z z) ?_
  rintro _ _ ⟨eT,eU⟩;refine Ra z<|Rw z ?_
  obtain rfl:=som<|ifT bk ax;exact Wr<|rtO<|I_ hr (s_ q_ h_ z eT z) z z ⟨bM (bup (bup (bM (bup (bup h3 h4) G) h1<|m1 hy) s6) s5) eU.one<|m1 h3.s,none,0,0,[],none,0,0,[],z,ii z,onL,onL,I,ii z,nd0,al0⟩
 have bm:=ifF bk ax;refine Ws<|Rf z a_u z ?_
 have cI:=cD.e s5;refine R z (l0 g_3 z<|cI.at z)<|Rq z z z<|Rw z<|Wc z (λay=>?_) (λay=>?_)
 .refine Wm z<|RM z z ?_
  have b3:=lt_ b2 s5.s;obtain ⟨eV,_,_,eW,d9⟩:=w_<|ifT bm ay;refine E z (fc call81 z<|W_w1g eW (zt' H b3) (J.g<|ad.e s5) cH cG) ?_;rintro _ _ ⟨cJ,cK,cL,cM,eX,cN,cO,cP,eY,rfl,eZ,f0,f1,f2,f3,b4,af⟩
  iterate 3 refine Re z z z ?_
  refine E0 (fs0 (cur':=[vI eV.number,sl cK cL cM,sl cN cO cP]) h_ z z (((((h2.e G).c h1<|djs<|mmr h2.lt).e s6).e s5).e cJ) z z z z) ?_;rintro _ _ ⟨f4,f5⟩;have b5:=f5.one;refine Ra z<|Rw z ?_
  obtain rfl:=som d9;have cQ:=lt_ (lt_ (lt_ G.s h1.s) s6.s) s5.s;exact Wr<|rtO<|I_ hr (s_ q_ h_ z f4 z) z z ⟨bM (bup (bup (bup (bM (bup (bup h3 h4) G) h1<|m1 hy) s6) s5) cJ) b5<|m1 h3.s,cK,cL,cM,eX,cN,cO,cP,eY,z,eZ,f0.c b5<|j_ (al_ af) h2.lt cQ,f1.c b5<|j_ (ar_ af) h2.lt cQ,f2,f3,na_ (nl_ b4) (nr_ b4)<|nj b4,aa_ (m_ (al_ af) b3)<|m_ (ar_ af) b3⟩
 have bn:=ifF bm ay;refine Wm z<|R z (a_g z z)<|Rw z<|Wc z (λaz=>?_) (λaz=>?_)
 .refine Ws<|R z (bP (parts:=[]) (cs:=[vI 0,sN,sN]) Y_ z z)<|Rm z<|E0 (fs0 (cur':=[vI 0,sN,sN]) h_ z z ((((h2.e G).c h1<|djs<|mmr h2.lt).e s6).e s5) z z z z) ?_
  rintro _ _ ⟨f6,f7⟩;refine Ra z<|Rw z ?_
  obtain rfl:=som<|ifT bn az;exact Wr<|rtO<|I_ hr (s_ q_ h_ z f6 z) z z ⟨bM (bup (bup (bM (bup (bup h3 h4) G) h1<|m1 hy) s6) s5) f7.one<|m1 h3.s,none,0,0,[],none,0,0,[],z,ii z,onL,onL,I,ii z,nd0,al0⟩
 refine Wk<|Ws<|R z (lN (vs:=[sl A0 N0 C0]) t_ r_ z z fid<|(cC.e s5).row 0 1 z)<|R z (lN (vs:=vR xa ab nc cd ae nf cg ah ni cj ak nl cm) L_ o_ z z fid<|cI.row 0 8 z)<|RM z z<|Rm z ?_
 have cR:=ad.e s5;have ai:=cF.e s5;have b6:=lt_ b2 s5.s;obtain ⟨f8,_,_,f9,da⟩:=w_<|ifF bn az;refine E z (fc call83 z<|bo.run f9 (zt' H b6) (W.g cR) hu hv hp (hq.g ai) (hw.g ai) (hx.g ai) (ht.g ai) (ii z) cG (J.g cR) cH) ?_;rintro _ _ ⟨cS,cT,cU,cV,fe,cW,cX,cY,ff,rfl,fg,fh,fi,fj,fk,b7,aj⟩
 iterate 3 refine Re z z z ?_
 refine E0 (fs0 (cur':=[vI f8.number,sl cT cU cV,sl cW cX cY]) h_ z z (((((h2.e G).c h1<|djs<|mmr h2.lt).e s6).e s5).e cS) z z z z) ?_;rintro _ _ ⟨fl,fm⟩;have b8:=fm.one;refine Ra z<|Rw z ?_
 obtain rfl:=som da;have cZ:=lt_ (lt_ (lt_ G.s h1.s) s6.s) s5.s;exact Wr<|I_ hr (s_ q_ h_ z fl z) z z ⟨bM (bup (bup (bup (bM (bup (bup h3 h4) G) h1<|m1 hy) s6) s5) cS) b8<|m1 h3.s,cT,cU,cV,fe,cW,cX,cY,ff,z,fg,fh.c b8<|j_ (al_ aj) h2.lt cZ,fi.c b8<|j_ (ar_ aj) h2.lt cZ,fj,fk,na_ (nl_ b7) (nr_ b7)<|nj b7,aa_ (m_ (al_ aj) b6)<|m_ (ar_ aj) b6⟩
theorem T_w1h (ih:f_B n):k_q (h_C n<|a_v n):=by
 obtain ⟨am,_,_,_,_⟩:=ih
 constructor
 intro A0 A2 A3 A1 A5 AH N0 C0 N2 C2 N3 C3 N1 C1 N5 C5 NH CH B x1 x2 x3 x4 x5 x6 res w0 hm V ai aL aM aN aO aP aQ aR aS aj ak ci;unfold h_C at hm
 refine goG func83 z z z λfn hr=>Ws<|E z (fb z) ?_
 rintro _ a4 ⟨rfl,aX⟩;have hd:=aX.below;have an:Blk a4 w0.z [sl A0 N0 C0]:=aX.blk;refine E z (fb z) ?_;rintro _ wr ⟨rfl,aY⟩;have hb:=aY.below;have ao:Blk wr a4.z (vR x2 A2 N2 C2 A3 N3 C3 A1 N1 C1 A5 N5 C5):=aY.blk;refine E z (fa a_4) ?_;rintro _ G ⟨rfl,aZ⟩;have h5:=aZ.below;have hu:Blk G wr.z [vI 0,sN,sN]:=aZ.blk;refine Ra z<|Rw z<|Ws<|R z (bP (parts:=[]) (cs:=[vI 0,sN,sN]) Y_ z z)<|E z (fa a_4) ?_
 rintro _ cy ⟨rfl,b0⟩;have h3:=b0.below;have hv:Blk cy G.z [vI 0,sN,sN]:=b0.blk;refine E0 (fs0 (cur':=[vI 0,sN,sN]) h_ z z hv z z z z) ?_;rintro _ I ⟨cz,cA⟩;have H:=cA.one;refine Wn<|Wq<|Ws<|Rw z ?_
 obtain ⟨_,cj,aT⟩:=bdS hm;refine Wf (σ:=Int×(List Val)) (ρ:=Val×Int×Int) (λ(ap:Nat) s a w=>un2 (λxc xp=>∃L O ca J,Sat 52 [(2,vI x3),(3,vI x4),(4,sl AH NH CH),(5,vI xc),(6,pt w0.z),(7,pt a4.z),(12,pt wr.z),(15,pt G.z),(16,vI ((ap:Nat):Int))] a/\Cg [G.z] I w/\inI xc/\a_ w J (sl L O ca) xp/\J.Nodup/\(∀k∈J,I.z<=k)/\Blk w G.z [vI 0,sN,sl L O ca]) s) (λs a w=>un2 (λxc xp=>∃L O ca J,Sat 52 [(5,vI xc),(12,pt wr.z),(15,pt G.z)] a/\Cg [G.z] I w/\inI xc/\a_ w J (sl L O ca) xp/\J.Nodup/\(∀k∈J,I.z<=k)/\Blk w G.z [vI 0,sN,sl L O ca]) s) (rQ prog fn<|Q15 w0 B) cj ?_ ?_ ?_ ?_ ?_
 .exact λ_ q=>⟨none,0,0,[],q.k<|s9 z z z z z z z z z,cr [G.z] I,ci,onL,G_,an_,cz⟩
 .rintro ap ⟨xc,xp⟩ _ wg _ a3 ⟨L,O,ca,J,ck,s4,hh,hi,hw,he,hx⟩ cl;refine Wu ?_ ck;refine Wq<|Wm z<|Rm z<|Rl z z z<|Wx z (λ_=>?_) (λhc=>(k_5 a3 hc).elim)
  refine Wk<|Wq<|Wb<|Wq ?_
  obtain ⟨cB,aU,cm⟩:=bdS<|a_O cl;refine Wt (λa w=>∃(xj:Int)(a5:Bt)(a6:List Val)(xs:Int)(a7:Int),(xj,a5,a6,xs,a7)=cB/\∃ay nz W Sk Y a0 a1 Sl gq,Sat 52 [(2,vI x3),(3,vI x4),(4,sl AH NH CH),(6,pt w0.z),(7,pt a4.z),(12,pt wr.z),(15,pt G.z),(16,vI ((ap:Nat):Int)),(17,pt gq),(18,vI xs),(19,vI a7)] a/\Below wg.z wg w/\inI xj/\a_ w Sk (sl ay nz W) a5/\Sk.Nodup/\(∀k∈Sk,wg.z<=k)/\a_ w Sl (sl Y a0 a1) a6/\Sl.Nodup/\(∀k∈Sl,wg.z<=k)/\(∀k∈Sl,k∉Sk)/\inI xs/\inI a7/\Blk w gq [vI xj,sl ay nz W,sl Y a0 a1]/\wg.z<=gq/\(∀k∈Sk,k∉[gq])/\(∀k∈Sl,k∉[gq])) ?_ ?_
  .refine Wd (X:=λk=>k∈([]:List Nat)∨wg.z<=k) 0 (.rd 0<|.rd 1<|.rd 2<|.rd 3<|.rd 5<|.rd 6<|.br 4 (.br 7 (.rd 8<|.rd 9<|.rd 10<|.rd 11<|.ef 12<|.ef 13<|.rd 14<|.rd 15 .done) 12<|.ef 7<|.rd 8<|.rd 9<|.rd 10<|.rd 11<|.ef 13<|.rd 14<|.rd 15 .done) 12<|.ef 4<|.ef 7<|.rd 8<|.rd 9<|.rd 10<|.rd 11<|.ef 13<|.rd 14<|.rd 15 .done) mo (by kernel_rfl) λb1 s7 _=>?_
   have b2:=lt_ hb.s h5.s;have b3:=mm1 an.lt b2;refine dR z z (lN (vs:=[sl A0 N0 C0]) t_ r_ z z (a_t nm0<|Nat.lt_of_lt_of_le an.lt<|lt_ (lt_ (lt_ b2 h3.s) H.s) s4.s)<|((((((an.e hb).e h5).e h3).c H<|djs b3).c s4<|djs b3).e s7).row 0 1 z) ?_;have b4:=mm1 ao.lt h5.s;refine dR z z (lN (vs:=vR x2 A2 N2 C2 A3 N3 C3 A1 N1 C1 A5 N5 C5) L_ o_ z z (a_t nm0<|Nat.lt_of_lt_of_le ao.lt<|lt_ (lt_ (lt_ h5.s h3.s) H.s) s4.s)<|(((((ao.e h5).e h3).c H<|djs b4).c s4<|djs b4).e s7).row 0 8 z) ?_
   iterate 4 refine dM z z z ?_
   refine d_D ?_ ?_
   .have b5:=lt_ (lt_ hd.s hb.s) h5.s;have b6:∀k∈[G.z],¬B k:=or0 (c_ lr)<|k_<|zt' V b5;have ht:=((((((hd.ag B).e hb).e h5).e h3).c H<|b_ b6).c s4<|b_ b6).e s7;have aq:=lt_ (lt_ (lt_ (lt_ b5 h3.s) H.s) s4.s) s7.s;obtain ⟨_,cC,aV⟩:=bdS aU;refine dE z z (fc call31 z<|d_M cC (zt' V aq) aL aM aN (aO.g ht) (aP.g ht) (aQ.g ht) (aR.g ht) aS<|ic (Nat.le_of_lt a3)<|tl_ aj) (.inr λ_ _ h=>p_<|h.1) ?_;rintro _ b7 ⟨sf,rfl,b8⟩;refine d_D ?_ ?_
    .have b9:=ht.e sf;obtain ⟨a9,cD,cE,cF,cn⟩:=w_ aV;refine dE z z (fc call51 z<|am.run cF (zt' V<|lt_ aq sf.s) (ai.g b9) b8 (ak.g b9) hh) (.inr λ_ _ h=>p_<|h.1) ?_;rintro _ ba ⟨bb,bc,be,bf,cG,bg,bh,bi,cH,rfl,cI,bj,bk,cJ,cK,ar,bm⟩;refine dM z z z ?_
     iterate 3 refine dR z z (ext_ z z) ?_
     refine dE z z (fa a_4) (.inr λ_ _ h=>p_<|h.2.below) ?_;rintro _ cL ⟨rfl,bn⟩;have au:=bn.below;have av:=lt_ s7.s sf.s;have aw:=m1<|lt_ av bb.s
     refine dE0 z (fs0 (cur':=[vI a9.number,sl bc be bf,sl bg bh bi]) h_ z z (bn.blk:Blk cL ba.z [vI 0,sN,sN]) z z z z) (.inr λ_ _ h=>c_d (atp aw) h.2) ?_;rintro _ _ ⟨cN,cO⟩;have ax:=cO.one;refine dQ z z z<|dQ z z z<|pD ?_
     have bo:=mnr<|a_.lt bj
     have bp:=mnr<|a_.lt bk
     exact λ_ q=>⟨a9.number,a9.bytes,a9.items,cD,cE,som cn,bc,be,bf,cG,bg,bh,bi,cH,ba.z,q.k<|sc z<|sc z<|sc z<|sc z<|sc z<|sc z<|sc z<|sc z<|sc z<|sc z<|sc z sn,bM (bup (bup (bup s7 sf) bb) au) ax aw,cI,(bj.e au).c ax<|ds bo,nl_ ar,m_ (al_ bm) av,(bk.e au).c ax<|ds bp,nr_ ar,m_ (ar_ bm) av,ds<|nj ar,cJ,cK,cN,atp aw,ds bo,ds bp⟩
    refine dE z z (fa a_4) (.inr λ_ _ h=>p_<|h.2.below) ?_;rintro _ cP ⟨rfl,bq⟩;have aa:=bq.below;have az:Blk cP b7.z [vI 0,sN,sN]:=bq.blk;have bs:=(ht.e sf).e aa;obtain ⟨ab,cQ,cR,cS,co⟩:=w_ aV;refine dE z z (fc call51 z<|am.run cS (zt' V<|lt_ (lt_ aq sf.s) aa.s) (ai.g bs) b8 (ak.g bs) hh) (.inr λ_ _ h=>p_<|h.1) ?_;rintro _ _ ⟨bt,bu,bv,bw,cT,bx,bz,bA,cU,rfl,cV,cW,cX,cY,cZ,aA,ad⟩;refine dM z z z ?_
    iterate 3 refine dR z z (ext_ z z) ?_
    have bB:=lt_ s7.s sf.s;have aB:=m1 bB;refine dE0 z (fs0 (cur':=[vI ab.number,sl bu bv bw,sl bx bz bA]) h_ z z (az.e bt) z z z z) (.inr λ_ _ h=>c_d (atp aB) h.2) ?_;rintro _ _ ⟨d0,d1⟩;have aC:=d1.one;refine dQ z z z<|dQ z z z<|pD ?_
    have bC:=j_ (al_ ad) az.lt lr;have bD:=lt_ bB aa.s;have bE:=j_ (ar_ ad) az.lt lr;exact λ_ q=>⟨ab.number,ab.bytes,ab.items,cQ,cR,som co,bu,bv,bw,cT,bx,bz,bA,cU,b7.z,q.k<|sc z<|sc z<|sc z<|sc z<|sc z<|sc z<|sc z<|sc z<|sc z<|sc z<|sc z sn,bM (bup (bup (bup s7 sf) aa) bt) aC aB,cV,cW.c aC bC,nl_ aA,m_ (al_ ad) bD,cX.c aC bE,nr_ aA,m_ (ar_ ad) bD,ds<|nj aA,cY,cZ,d0,atp aB,bC,bE⟩
   refine dE z z (fa a_4) (.inr λ_ _ h=>p_<|h.2.below) ?_;rintro _ d2 ⟨rfl,bF⟩;have ae:=bF.below;have aD:Blk d2 b1.z [vI 0,sN,sN]:=bF.blk;have bG:=lt_ (lt_ hd.s hb.s) h5.s;have bH:∀k∈[G.z],¬B k:=or0 (c_ lr)<|k_<|zt' V bG;have a2:=(((((((hd.ag B).e hb).e h5).e h3).c H<|b_ bH).c s4<|b_ bH).e s7).e ae;have bI:=lt_ (lt_ (lt_ (lt_ (lt_ bG h3.s) H.s) s4.s) s7.s) ae.s;obtain ⟨_,d3,cp⟩:=bdS aU;refine dE z z (fc call31 z<|d_M d3 (zt' V bI) aL aM aN (aO.g a2) (aP.g a2) (aQ.g a2) (aR.g a2) aS<|ic (Nat.le_of_lt a3)<|tl_ aj) (.inr λ_ _ h=>p_<|h.1) ?_;rintro _ _ ⟨sm,rfl,d4⟩;have bJ:=a2.e sm;obtain ⟨af,d5,d6,d7,cq⟩:=w_ cp;refine dE z z (fc call51 z<|am.run d7 (zt' V<|lt_ bI sm.s) (ai.g bJ) d4 (ak.g bJ) hh) (.inr λ_ _ h=>p_<|h.1) ?_;rintro _ _ ⟨bK,bL,bN,bO,d8,bQ,bR,bS,d9,rfl,da,db,dc,dd,de,aE,ah⟩;refine dM z z z ?_
   iterate 3 refine dR z z (ext_ z z) ?_
   have aF:=m1 s7.s;refine dE0 z (fs0 (cur':=[vI af.number,sl bL bN bO,sl bQ bR bS]) h_ z z ((aD.e sm).e bK) z z z z) (.inr λ_ _ h=>c_d (atp aF) h.2) ?_;rintro _ _ ⟨df,dg⟩;have aG:=dg.one;refine dQ z z z<|dQ z z z<|pD ?_
   have bT:=j_ (al_ ah) aD.lt sm.s;have bU:=lt_ (lt_ s7.s ae.s) sm.s;have bV:=j_ (ar_ ah) aD.lt sm.s;exact λ_ q=>⟨af.number,af.bytes,af.items,d5,d6,som cq,bL,bN,bO,d8,bQ,bR,bS,d9,b1.z,q.k<|sc z<|sc z<|sc z<|sc z<|sc z<|sc z<|sc z<|sc z<|sc z<|sc z<|sc z sn,bM (bup (bup (bup s7 ae) sm) bK) aG aF,da,db.c aG bT,nl_ aE,m_ (al_ ah) bU,dc.c aG bV,nr_ aE,m_ (ar_ ah) bU,ds<|nj aE,dd,de,df,atp aF,bT,bV⟩
  rintro dh bW ⟨xj,a5,a6,xs,a7,rfl,ay,nz,W,Sk,Y,a0,a1,Sl,gq,_,so,di,dj,dk,aH,dl,dm,aI,dn,bX,dp,dq,_,_,_⟩;have aW:=c_E cm;revert dh;refine Wo<|Wq<|Wm z<|R z (nq z z)<|Wx z (λal=>?_) (λal=>?_)
  .refine Ws<|R z (bP (parts:=[]) (cs:=[vI 0,sN,sN]) Y_ z z)<|RM z z ?_
   have bY:=mmr hu.lt;refine E0 (fs0 (cur':=[vI 0,sN,sN]) h_ z z ((((hu.e h3).c H<|djs bY).c s4<|djs bY).e so) z z z z) ?_;rintro _ _ ⟨dr,dt⟩;refine Ra z<|Rw z ?_
   have bZ:=lt_ hd.s hb.s;have c0:=m1<|lt_ bZ h5.s
   exact Wr<|rtO<|qL (som<|ifT aW al).symm<|I_ hr (s_ q_ h_ z dr z) z z ⟨bM (bup (bM (bM (bup (bup (bup hd hb) h5) h3) H c0) s4 c0) so) dt.one<|m1 bZ,none,0,0,[],none,0,0,[],z,ii z,onL,onL,bX,dp,nd0,al0⟩
  refine Wk<|Ws<|Rf z V_ z ?_
  have c1:=hx.e so;refine R z (l0 a_9 z<|c1.at z)<|R z (lN (vs:=[vI xj,sl ay nz W,sl Y a0 a1]) q_ h_ z z fid<|dq.row 0 3 z)<|E z (fS [(.tmp 45)] c_4 z z z (a_e z) (lb z)<|lb z) ?_
  rintro _ c2 ⟨rfl,c3⟩;have hn:=c3.below;obtain ⟨du,dv,ct⟩:=bdS<|ifF aW al;refine E z (a_X (α:=Val) c_4 dv z z ((hi.e so).e hn) hw (c3.blk:Blk c2 bW.z [vI xj,sl ay nz W,sl Y a0 a1]) (d_C (x:=(⟨xj,a5,a6⟩:Val)) (S1:=Sk) (S2:=Sl) di (dj.e hn)<|dl.e hn) (aa_ (b_H aH (a_.lt hi) lr)<|b_H aI (a_.lt hi) lr)<|na_ dk dm<|ds dn) ?_;rintro _ dw ⟨aJ,c4,c5,c6,rfl,c7,dx,dy,c8⟩;refine Rf z V_ z ?_;have c9:=j_ he hv.lt H.s;refine E0 (fs0 (cur':=[vI 0,sN,sl c4 c5 c6]) d_K z z ((c1.e hn).c c7<|djs c9) z z z z) ?_;rintro _ dz ⟨dA,dB⟩;have cb:=dB.one;refine Wn<|Wg<|Rm z<|Rw z<|Wg<|Rm z<|R z (inc_ a3 (tl_ aj) z z)<|Ra z<|Wl ?_
  have aK:=lt_ H.s s4.s;exact λ_ q=>⟨(xs,du),(som ct).symm,⟨c4,c5,c6,aJ,q.k<|s9 z z z z z z z z z,(cM (cM (f_ (f_ (cM (cr [G.z] I) s4 (io sr):Cg [G.z] I wg) so:Cg [G.z] I bW) hn:Cg [G.z] I c2) c7 (or0 he (B_ lr):∀k∈J,k∈[G.z]∨I.z<=k):Cg [G.z] I dw) cb (io sr):Cg [G.z] I dz),bX,dx.c cb (or2 c8 c9 (aa_ (j_ aH hv.lt aK)<|j_ aI hv.lt aK) (U_ (c_ hv.lt)<|lt_ (lt_ aK so.s) hn.s):∀k∈aJ,k∉[G.z]),dy,(or2 c8 he (aa_ (m_ aH s4.s)<|m_ aI s4.s) (b_o<|lt_ (lt_ s4.s so.s) hn.s):∀k∈aJ,I.z<=k),dA⟩⟩
 .rintro ⟨xc,xp⟩ _ dC ⟨L,O,ca,J,cu,dD,hh,hi,hw,he,hx⟩;refine Wu ?_ cu;refine Wq<|Wm z<|Rm z<|Rl z z z<|Wx z (λhc=>(k_6 hc).elim) (λ_=>?_)
  exact We<|λ_ q=>⟨rfl,⟨L,O,ca,J,q.k<|s3 z z z,(cM (cr [G.z] I) dD (io sr):Cg [G.z] I dC),hh,hi,hw,he,hx⟩⟩
 .rintro ⟨xc,xp⟩ dF _ rfl ⟨L,O,ca,J,_,cc,hh,hi,hw,he,hx⟩;have cv:=elL aT;revert dF;refine Wo<|Ws<|R z (lN (vs:=[vI 0,sN,sl L O ca]) q_ h_ z z fid<|hx.row 0 3 z)<|Rm z ?_
  have cd:=mmr hu.lt;refine E0 (fs0 (cur':=[vI 0,sN,sl L O ca]) h_ z z (((hu.e h3).c H<|djs cd).c cc<|djs cd) z z z z) ?_;rintro _ _ ⟨dG,dH⟩;have ce:=dH.one;refine Ra z<|Rw z ?_
  obtain rfl:=som<|a_O cv;have cf:=lt_ hd.s hb.s;have cg:=lt_ cf h5.s;have ch:=m1 cg;exact Wr<|I_ hr (s_ q_ h_ z dG z) z z ⟨bM (bM (bM (bup (bup (bup hd hb) h5) h3) H ch) cc ch) ce<|m1 cf,none,0,0,[],L,O,ca,J,z,ii z,onL,hi.c ce<|j_ he hu.lt<|lt_ h3.s H.s,hh,ii z,na_ G_ hw an_,aa_ an_<|m_ he<|lt_ (lt_ cg h3.s) H.s⟩
 rintro _ _ _ _ rfl ⟨rfl,cw⟩;have cx:=elR aT;obtain rfl:=som cx;exact ⟨cw,z⟩
theorem T_w1i (ih:f_B n):k_r (h_D n<|a_v n):=by
 obtain ⟨_,aA,_,_,_⟩:=ih
 constructor
 intro A0 A2 A3 A1 A5 A9 N0 C0 N2 C2 N3 C3 N1 C1 N5 C5 N9 C9 B x1 x2 x3 x4 res w0 hm W Y a0 a1 a2 a3 a4 a5 O a6 V;unfold h_D at hm
 refine goG func84 z z z λfn hr=>Ws<|E z (fb z) ?_
 rintro _ wy ⟨rfl,hz⟩;have hf:=hz.below;refine E z (fb z) ?_;rintro _ wq ⟨rfl,ad⟩;have h5:=ad.below;refine E z (fa a_4) ?_;rintro _ aB ⟨rfl,ae⟩;have h3:=ae.below;have h6:Blk aB wq.z [vI 0,sN,sN]:=ae.blk;refine Ra z<|Rw z<|Wq (Wd (X:=noX) 0 (pl_ 15 [7]) mo (by kernel_rfl) λb6 G _=>?_)
 have af:=(((hz.blk:Blk wy w0.z [sl A0 N0 C0]).e h5).e h3).e G;refine dR z z (lN (vs:=[sl A0 N0 C0]) t_ r_ z z fid<|af.row 0 1 z)<|dR z z (fd J_ z) ?_
 have ah:=((ad.blk:Blk wq wy.z (vR x2 A2 N2 C2 A3 N3 C3 A1 N1 C1 A5 N5 C5)).e h3).e G;refine dR z z (l0 A_ z<|ah.at z) ?_;obtain ⟨_,aC,ax⟩:=bdS hm;have hh:=(((hf.ag B).e h5).e h3).e G;refine dRX z z (at_ (α:=Int) v_ z_3 z z z (O.g hh) aC) ?_;rintro _ ⟨_,_,_,rfl,aD,aE,_⟩;obtain ⟨rfl,aF⟩:=O_ aE;refine dR z z (l0 g_3 z<|aD.at0 z)<|dM z z z<|dM z z z ?_
 have hi:=lt_ hf.s h5.s;have ai:=lt_ (lt_ hi h3.s) G.s;obtain ⟨aj,_,_,aG,a7⟩:=w_ ax;refine dE z z (fc call78 z<|i_W aG (zt' W ai) (Y.g hh) aF (a6.g hh) V) (.inr λ_ _ h=>p_<|h.1) ?_;rintro _ _ ⟨s1,rfl,ht,aH⟩;refine dM z z z ?_
 iterate 3 refine dR z z (ext_ z z) ?_
 iterate 3 refine dQ z z z ?_
 refine pD<|Wo<|Wq<|Wm z<|R z (not_ z)<|Wx z (λhcr=>?_) (λhcr=>?_)
 .refine Ws<|R z (bP (parts:=[]) (cs:=[vI 0,sN,sN]) Y_ z z)<|Rm z<|E0 (fs0 (cur':=[vI 0,sN,sN]) h_ z z ((h6.e G).e s1) z z z z) ?_
  rintro _ _ ⟨aI,aJ⟩;refine Ra z<|Rw z ?_
  obtain rfl:=som<|ifT a7 hcr;exact Wr<|I_ hr (s_ q_ h_ z aI z) z z ⟨bM (bup (bup (bup (bup hf h5) h3) G) s1) aJ.one<|m1 hi,none,0,0,[],none,0,0,[],z,ii z,onL,onL,V,ii z,nd0,al0⟩
 refine Wk<|Wq<|Ws ?_
 have ak:=ah.e s1;refine R z (lN (vs:=vR x2 A2 N2 C2 A3 N3 C3 A1 N1 C1 A5 N5 C5) L_ o_ z z fid<|ak.row 0 8 z)<|Rm z ?_
 have hg:=hh.e s1;have al:=lt_ ai s1.s;obtain ⟨_,aK,a9⟩:=bdS<|ifF a7 hcr;refine E z (fc call31 z<|d_M aK (zt' W al) a0 a1 a2 (a3.g hg) (a4.g hg) (a5.g hg) (O.g hg) ht<|ii z) ?_;rintro _ _ ⟨s2,rfl,_⟩;refine Rl z z z<|Wx z (λhcs=>?_) (λhcs=>?_)
 .refine Ws<|R z (bP (parts:=[]) (cs:=[vI 0,sN,sN]) Y_ z z)<|Rm z<|E0 (fs0 (cur':=[vI 0,sN,sN]) h_ z z (((h6.e G).e s1).e s2) z z z z) ?_
  rintro _ _ ⟨aL,aM⟩;refine Ra z<|Rw z ?_
  obtain rfl:=som<|ifT a9 hcs;exact Wr<|I_ hr (s_ q_ h_ z aL z) z z ⟨bM (bup (bup (bup (bup (bup hf h5) h3) G) s1) s2) aM.one<|m1 hi,none,0,0,[],none,0,0,[],z,ii z,onL,onL,V,ii z,nd0,al0⟩
 refine Wk<|Ws<|R z (lN (vs:=[sl A0 N0 C0]) t_ r_ z z fid<|((af.e s1).e s2).row 0 1 z)<|R z (lN (vs:=vR x2 A2 N2 C2 A3 N3 C3 A1 N1 C1 A5 N5 C5) L_ o_ z z fid<|(ak.e s2).row 0 8 z)<|RM z z<|Rm z ?_
 have I:=hg.e s2;have hj:=lt_ al s2.s;obtain ⟨am,aN,aO,aP,ay⟩:=w_<|ifF a9 hcs;refine E z (fc call83 z<|aA.run aP (zt' W hj) (Y.g I) a0 a1 a2 (a3.g I) (a4.g I) (a5.g I) (O.g I) ht (ii z) (a6.g I) aH) ?_;rintro _ H ⟨sk,J,L,ca,aQ,ab,nc,cd,aR,rfl,aS,an,ao,aT,aU,hu,hl⟩;refine Rm z ?_
 iterate 3 refine Re z z z ?_
 refine E z (fa a_4) ?_;rintro _ aV ⟨rfl,ap⟩;have hn:=ap.below;refine E0 (fs0 (cur':=[vI am.number,sl J L ca,sl ab nc cd]) h_ z z (ap.blk:Blk aV H.z [vI 0,sN,sN]) z z z z) ?_;rintro _ wm ⟨aq,aW⟩;have ho:=aW.one;refine Ra z<|Rw z<|Wq<|Wm z<|Rq z z z<|Wn ?_
 obtain ⟨aX,aa,az⟩:=bdS ay;refine Wt (λa w=>∃(xe:Int),xe=aX/\Sat 56 [(8,pt wq.z),(14,pt H.z),(15,vI aN),(16,vI aO)] a/\Cg [H.z] wm w/\inI xe/\Blk w H.z [vI xe,sl J L ca,sl ab nc cd]) ?_ ?_
 .refine Wc z (λhcv=>?_)<|λhcv=>?_
  .refine Wg<|Rm z<|Rf z a_S z<|E0 (fs0 (cur':=[vI aj,sl J L ca,sl ab nc cd]) z_3 z z aq z z z z) ?_
   rintro _ aY ⟨aZ,b0⟩;refine Wl ?_;exact λ_ q=>⟨aj,som<|ifT aa hcv,q.k<|s4 z z z z,(cM (cr [H.z] wm) b0.one (io sr):Cg [H.z] wm aY),ht,aZ⟩
  exact a_k<|λ_ q=>⟨am.number,som<|ifF aa hcv,q.k<|s4 z z z z,cr [H.z] wm,aS,aq⟩
 rintro b1 _ ⟨xe,rfl,_,sp,b2,b3⟩;revert b1;refine Wo<|Ws<|R z (lN (vs:=[vI xe,sl J L ca,sl ab nc cd]) q_ h_ z z fid<|b3.row 0 3 z)<|RM z z ?_
 have hw:=lt_ (lt_ G.s s1.s) s2.s;have ar:=mm1 h6.lt<|lt_ hw sk.s
 refine E0 (fs0 (cur':=[vI xe,sl J L ca,sl ab nc cd]) h_ z z (((((((h6.e G).e s1).e s2).e sk).e hn).c ho<|djs ar).c sp<|djs ar) z z z z) ?_;rintro _ _ ⟨b4,b5⟩;have hx:=b5.one;refine Ra z<|Rw z ?_
 obtain rfl:=som az;have au:=mnr<|a_.lt an
 have av:=mnr<|a_.lt ao
 have aw:=m1<|lt_ hj sk.s
 exact Wr<|I_ hr (s_ q_ h_ z b4 z) z z ⟨bM (bM (bM (bup (bup (bup (bup (bup (bup (bup hf h5) h3) G) s1) s2) sk) hn) ho aw) sp aw) hx<|m1 hi,J,L,ca,aQ,ab,nc,cd,aR,z,b2,(((an.e hn).c ho<|ds au).c sp<|ds au).c hx<|j_ (al_ hl) h6.lt hw,(((ao.e hn).c ho<|ds av).c sp<|ds av).c hx<|j_ (ar_ hl) h6.lt hw,aT,aU,na_ (nl_ hu) (nr_ hu)<|nj hu,aa_ (m_ (al_ hl) hj)<|m_ (ar_ hl) hj⟩
theorem T_w1j (ih:f_B n):k_s (h_E n<|a_v n):=by
 obtain ⟨_,a7,_,_,_⟩:=ih
 constructor
 intro A0 A2 A3 A1 A5 A9 N0 C0 N2 C2 N3 C3 N1 C1 N5 C5 N9 C9 B x1 x2 x3 x4 res w0 hm a8 V W Y a0 a1 a2 a3 a4 L O;unfold h_E at hm
 refine goG func85 z z z λfn hr=>Ws<|E z (fb z) ?_
 rintro _ wc ⟨rfl,hd⟩;have h2:=hd.below;refine E z (fb z) ?_;rintro _ we ⟨rfl,hf⟩;have G:=hf.below;refine E z (fa a_4) ?_;rintro _ ws ⟨rfl,hg⟩;have h3:=hg.below;have h5:Blk ws we.z [vI 0,sN,sN]:=hg.blk;refine Ra z<|Rw z<|Wq<|Wb<|Wm z<|Rm z ?_
 have hh:=((h2.ag B).e G).e h3;have hi:=L.g hh;refine R z (lnR n_ z hi)<|R z (b_R z z)<|Rw z<|Wc z (λH=>?_) (λH=>?_)
 .refine Ws<|R z (bP (parts:=[]) (cs:=[vI 0,sN,sN]) Y_ z z)<|Rm z<|E0 (fs0 (cur':=[vI 0,sN,sN]) h_ z z h5 z z z z) ?_
  rintro _ _ ⟨hw,sx⟩;refine Ra z<|Rw z ?_
  obtain rfl:=som<|ifT hm H;exact Wr<|rtO<|I_ hr (s_ q_ h_ z hw z) z z ⟨bM (bup (bup h2 G) h3) sx.one<|m1<|lt_ h2.s G.s,none,0,0,[],none,0,0,[],z,ii z,onL,onL,O,ii z,nd0,al0⟩
 refine Wm z<|Rm z ?_
 obtain ⟨_,ey,hmj⟩:=bdS<|ifF hm H;refine RX z (at_ (α:=UInt8) n_ z_5 z z z hi ey) ?_;rintro _ ⟨_,_,_,rfl,hz,a9,_⟩;obtain rfl:=u8 a9;refine R z (l0 g_5 z<|hz.at0 z)<|R z (a_g z z)<|Rw z<|Wc z (λI=>?_) (λI=>?_)
 .refine Ws<|R z (bP (parts:=[]) (cs:=[vI 0,sN,sN]) Y_ z z)<|Rm z<|E0 (fs0 (cur':=[vI 0,sN,sN]) h_ z z h5 z z z z) ?_
  rintro _ _ ⟨aa,ab⟩;refine Ra z<|Rw z ?_
  obtain rfl:=som<|ifT hmj I;exact Wr<|rtO<|I_ hr (s_ q_ h_ z aa z) z z ⟨bM (bup (bup h2 G) h3) ab.one<|m1<|lt_ h2.s G.s,none,0,0,[],none,0,0,[],z,ii z,onL,onL,O,ii z,nd0,al0⟩
 refine Wk<|Wq (Wd (X:=noX) 16384 (pl_ 17 [10,14]) mo (by kernel_rfl) λaw s1 _=>dR z z (lN (vs:=[sl A0 N0 C0]) t_ r_ z z fid<|((((hd.blk:Blk wc w0.z [sl A0 N0 C0]).e G).e h3).e s1).row 0 1 z)<|dR z z (lN (vs:=vR x2 A2 N2 C2 A3 N3 C3 A1 N1 C1 A5 N5 C5) L_ o_ z z fid<|(((hf.blk:Blk we wc.z (vR x2 A2 N2 C2 A3 N3 C3 A1 N1 C1 A5 N5 C5)).e h3).e s1).row 0 8 z)<|dM z z z<|dM z z z ?_)
 obtain ⟨_,ad,a5⟩:=bdS<|ifF hmj I;have h4:=hh.e s1;have hk:=L.g h4;refine dRX z z (at_ (α:=UInt8) n_ z_5 z z z hk ad) ?_;rintro _ ⟨_,_,_,rfl,ae,af,_⟩;obtain rfl:=u8 af;refine dR z z (l0 g_5 z<|ae.at0 z)<|dR z z (b_W d_5 d_3 z)<|dM z z z<|dM z z z<|dR z z (add_ z z) ?_
 have hl:=lt_ h2.s G.s;have J:=lt_ (lt_ hl h3.s) s1.s;obtain ⟨ah,_,_,ai,a6⟩:=w_ a5;refine dE z z (fc call83 z<|a7.run ai (zt' a8 J) (V.g h4) W Y a0 (a1.g h4) (a2.g h4) (a3.g h4) (a4.g h4) (ii z) (k_4 _) hk<|iA _ _) (.inr λ_ _ h=>p_<|h.1) ?_;rintro _ _ ⟨sm,an,no,cp,aj,aq,nr,ct,ak,rfl,al,am,ao,ap,ar,ha,h6⟩
 iterate 3 refine dR z z (ext_ z z) ?_
 refine dE0 z (fs0 (cur':=[vI ah.number,sl an no cp,sl aq nr ct]) h_ z z ((h5.e s1).e sm) z z z z) (.inl z) ?_;rintro _ _ ⟨au,av⟩;have hb:=av.one;refine dQ z z z<|dQ z z z<|pD<|Wo ?_
 obtain rfl:=som a6;exact Wr<|I_ hr (s_ q_ h_ z au z) z z ⟨bM (bup (bup (bup (bup h2 G) h3) s1) sm) hb<|m1 hl,an,no,cp,aj,aq,nr,ct,ak,z,al,am.c hb<|j_ (al_ h6) h5.lt s1.s,ao.c hb<|j_ (ar_ h6) h5.lt s1.s,ap,ar,na_ (nl_ ha) (nr_ ha)<|nj ha,aa_ (m_ (al_ h6) J)<|m_ (ar_ h6) J⟩
theorem T_w1k (ih:f_B n):k_t (h_F n<|a_v n):=by
 obtain ⟨_,am,_,_,_⟩:=ih
 constructor
 intro A0 A2 A3 A1 A5 A9 N0 C0 N2 C2 N3 C3 N1 C1 N5 C5 N9 C9 B x1 x2 x3 x4 res w0 hm O a7 a8 a9 ab ae af ah ai L aj;unfold h_F at hm
 refine goG func86 z z z λfn hr=>Ws<|E z (fb z) ?_
 rintro _ wu ⟨rfl,hv⟩;have hh:=hv.below;refine E z (fb z) ?_;rintro _ ww ⟨rfl,hx⟩;have H:=hx.below;refine E z (fa a_4) ?_;rintro _ an ⟨rfl,hy⟩;have h5:=hy.below;have h3:Blk an ww.z [vI 0,sN,sN]:=hy.blk;refine Ra z<|Rw z<|Ws<|R z (lN (vs:=[sl A0 N0 C0]) t_ r_ z z fid<|(((hv.blk:Blk wu w0.z [sl A0 N0 C0]).e H).e h5).row 0 1 z)<|R z (lN (vs:=vR x2 A2 N2 C2 A3 N3 C3 A1 N1 C1 A5 N5 C5) L_ o_ z z fid<|((hx.blk:Blk ww wu.z (vR x2 A2 N2 C2 A3 N3 C3 A1 N1 C1 A5 N5 C5)).e h5).row 0 8 z)<|RM z z ?_
 have I:=((hh.ag B).e H).e h5;have hj:=lt_ hh.s H.s;have J:=lt_ hj h5.s;obtain ⟨rk,_,_,ao,hmz⟩:=w_ hm;refine E z (fc call83 z<|am.run ao (zt' O J) (a7.g I) a8 a9 ab (ae.g I) (af.g I) (ah.g I) (ai.g I) (ii z) (ii z) (L.g I) aj) ?_;rintro _ Y ⟨G,aa,nb,cc,a0,ad,ne,cf,a1,rfl,a2,hn,ho,hp,ap,hi,h6⟩;refine Rm z ?_
 iterate 3 refine Re z z z ?_
 refine E z (fa a_4) ?_;rintro _ aq ⟨rfl,a3⟩;have h1:=a3.below;refine E0 (fs0 (cur':=[vI rk.number,sl aa nb cc,sl ad ne cf]) h_ z z (a3.blk:Blk aq Y.z [vI 0,sN,sN]) z z z z) ?_;rintro _ _ ⟨a4,ar⟩;have h2:=ar.one;refine Ra z<|Rw z<|Wq<|Wb<|Wm z<|R z (nq z z)<|Rw z<|Wc z (λhcm=>?_) (λhcm=>?_)
 .refine Ws<|R z (lN (vs:=[vI rk.number,sl aa nb cc,sl ad ne cf]) q_ h_ z z fid<|a4.row 0 3 z)<|RM z z<|E0 (fs0 (cur':=[vI rk.number,sl aa nb cc,sl ad ne cf]) h_ z z (((h3.e G).e h1).c h2<|djs<|mm1 h3.lt G.s) z z z z) ?_
  rintro _ _ ⟨au,av⟩;have hq:=av.one;refine Ra z<|Rw z ?_
  obtain rfl:=som<|ifT hmz hcm;exact Wr<|rtO<|I_ hr (s_ q_ h_ z au z) z z ⟨bM (bM (bup (bup (bup (bup hh H) h5) G) h1) h2<|m1<|lt_ J G.s) hq<|m1 hj,aa,nb,cc,a0,ad,ne,cf,a1,z,a2,((hn.e h1).c h2<|ds<|mnr<|a_.lt hn).c hq<|j_ (al_ h6) h3.lt lr,((ho.e h1).c h2<|ds<|mnr<|a_.lt ho).c hq<|j_ (ar_ h6) h3.lt lr,hp,ap,na_ (nl_ hi) (nr_ hi)<|nj hi,aa_ (m_ (al_ h6) J)<|m_ (ar_ h6) J⟩
 have V:=ifF hmz hcm;refine Wm z<|Rm z ?_
 have hl:=lt_ J G.s;have a5:=((I.e G).e h1).c h2<|b_ (or0 (c_ lr) (k_<|zt' O hl):∀k∈[Y.z],¬B k)
 refine R z (lnR n_ z<|L.g a5)<|R z (b_R z z)<|Rw z<|Wc z (λhcr=>?_) (λhcr=>?_)
 .refine Ws<|R z (bP (parts:=[]) (cs:=[vI 0,sN,sN]) Y_ z z)<|Rm z<|E0 (fs0 (cur':=[vI 0,sN,sN]) h_ z z (((h3.e G).e h1).c h2<|djs<|mm1 h3.lt G.s) z z z z) ?_
  rintro _ _ ⟨aw,ax⟩;refine Ra z<|Rw z ?_
  obtain rfl:=som<|ifT V hcr;exact Wr<|rtO<|I_ hr (s_ q_ h_ z aw z) z z ⟨bM (bM (bup (bup (bup (bup hh H) h5) G) h1) h2<|m1 hl) ax.one<|m1 hj,none,0,0,[],none,0,0,[],z,ii z,onL,onL,hp,ii z,nd0,al0⟩
 refine Wq (Wd (X:=noX) 0 (pl_ 12 [9]) mo (by kernel_rfl) λaI s4 _=>dM z z z<|dM z z z ?_);obtain ⟨_,ay,ak⟩:=bdS<|ifF V hcr;have a6:=L.g<|a5.e s4
 refine dRX z z (at_ (α:=UInt8) n_ z_5 z z z a6 ay) ?_;rintro _ ⟨_,_,_,rfl,az,aA,_⟩;obtain rfl:=u8 aA;refine dR z z (l0 g_5 z<|az.at0 z)<|dR z z (b_W d_5 d_3 z) ?_
 iterate 3 refine dM z z z ?_
 obtain ⟨_,aB,al⟩:=bdS ak;refine dRX z z (rX n_ z_5 z z a6 z z aB) ?_;rintro _ ⟨_,_,_,rfl,aC⟩;obtain ⟨_,aD,W⟩:=bdS al;refine dE z z (fc call39 z<|W_w1f aD (zt' O<|lt_ (lt_ (lt_ hl h1.s) h2.s) s4.s) aC) (.inr λ_ _ h=>p_<|h.1) ?_;rintro _ _ ⟨sg,rfl,_⟩;refine dR z z (nq z z)<|dQ z z z<|pD<|Wo<|Wc z (λhcs=>?_) (λhcs=>?_)
 .refine Ws<|R z (bP (parts:=[]) (cs:=[vI 0,sN,sN]) Y_ z z)<|Rm z<|E0 (fs0 (cur':=[vI 0,sN,sN]) h_ z z (((((h3.e G).e h1).c h2<|djs<|mm1 h3.lt G.s).e s4).e sg) z z z z) ?_
  rintro _ _ ⟨aE,aF⟩;refine Ra z<|Rw z ?_
  obtain rfl:=som<|ifT W hcs;exact Wr<|rtO<|I_ hr (s_ q_ h_ z aE z) z z ⟨bM (bup (bup (bM (bup (bup (bup (bup hh H) h5) G) h1) h2<|m1 hl) s4) sg) aF.one<|m1 hj,none,0,0,[],none,0,0,[],z,ii z,onL,onL,hp,ii z,nd0,al0⟩
 refine Wk<|Ws<|R z (lN (vs:=[vI rk.number,sl aa nb cc,sl ad ne cf]) q_ h_ z z fid<|((a4.e s4).e sg).row 0 3 z)<|Rm z<|R z (add_ z z)<|E0 (fs0 (cur':=[vI rk.number,sl aa nb cc,sl ad ne cf]) h_ z z (((((h3.e G).e h1).c h2<|djs<|mm1 h3.lt G.s).e s4).e sg) z z z z) ?_
 rintro _ _ ⟨aG,aH⟩;have ht:=aH.one;refine Ra z<|Rw z ?_
 obtain rfl:=som<|ifF W hcs;exact Wr<|I_ hr (s_ q_ h_ z aG z) z z ⟨bM (bup (bup (bM (bup (bup (bup (bup hh H) h5) G) h1) h2<|m1 hl) s4) sg) ht<|m1 hj,aa,nb,cc,a0,ad,ne,cf,a1,z,a2,((((hn.e h1).c h2<|ds<|mnr<|a_.lt hn).e s4).e sg).c ht<|j_ (al_ h6) h3.lt lr,((((ho.e h1).c h2<|ds<|mnr<|a_.lt ho).e s4).e sg).c ht<|j_ (ar_ h6) h3.lt lr,iA _ _,ii z,na_ (nl_ hi) (nr_ hi)<|nj hi,aa_ (m_ (al_ h6) J)<|m_ (ar_ h6) J⟩
theorem d_l:∀n,f_B n
  | 0=>⟨⟨λhm=>by intros;exact nomatch (show none=some _ from hm)⟩,⟨λhm=>by intros;exact nomatch (show none=some _ from hm)⟩,⟨λhm=>by intros;exact nomatch (show none=some _ from hm)⟩,⟨λhm=>by intros;exact nomatch (show none=some _ from hm)⟩,⟨λhm=>by intros;exact nomatch (show none=some _ from hm)⟩⟩
  | n+1=>⟨T_w03<|d_l n,T_w1h<|d_l n,T_w1i<|d_l n,T_w1j<|d_l n,T_w1k<|d_l n⟩
theorem W_w03:k_p (a_v n).spec_l11Read:=(d_l n).1
theorem W_w1h:k_q (a_v n).spec_l11Items:=(d_l n).2.1
theorem W_w1i:k_r (a_v n).spec_l11Choice:=(d_l n).2.2.1
theorem W_w1j:k_s (a_v n).spec_l11Option:=(d_l n).2.2.2.1
theorem W_w1k:k_t (a_v n).spec_l11Checked:=(d_l n).2.2.2.2
theorem k_u {x1:d_}{x2:Int}{x3:Bt}{x4:Int}{res:Val×Int×Int}(hm:h_G n x1 x2 x3 x4=some res)(L:B<=w0.z)(W:repS w0 B (sl A0 N0 C0) x1.rules)(Y:inI x2)(J:repS w0 B (sl A9 N9 C9) x3)(a0:inI x4):l_ prog 20 [(.agg #[sl A0 N0 C0]),vI x2,sl A9 N9 C9,vI x4] w0 (Q15 w0 B res):=by
 unfold h_G at hm
 refine goG func20 z z z λfn hr=>Ws<|E z (fb z) ?_
 rintro _ O ⟨rfl,hg⟩;have h3:=hg.below;have hh:Blk O w0.z [sl A0 N0 C0]:=hg.blk;refine E z (fa a_4) ?_;rintro _ V ⟨rfl,hi⟩;have h4:=hi.below;have h6:Blk V O.z [vI 0,sN,sN]:=hi.blk;refine Ra z<|Rw z<|Wq<|Wq ?_
 obtain ⟨uy,huz,hmj⟩:=bdS hm;refine Wt (λa w=>∃(xa:Bool),xa=uy/\Sat 36 [(1,vI x2),(2,sl A9 N9 C9),(3,vI x4),(4,pt w0.z),(8,pt O.z),(26,vB xa)] a/\Below V.z V w) ?_ ?_
 .refine Wg<|R z (lN (vs:=[sl A0 N0 C0]) t_ r_ z z fid<|(hh.e h4).row 0 1 z)<|Rm z ?_
  have hk:=(h3.ag B).e h4;have hl:=lt_ h3.s h4.s;obtain ⟨a2,a3,hmm⟩:=bdS huz;refine E z (fc call49 z<|i_V a3 (zt' L hl) (W.g hk) Y) ?_;rintro _ _ ⟨s5,rfl⟩;refine R z (not_ z)<|Rm z ?_
  rcases bs (!a2) with G | G
  .iterate 5 refine Nh z G ?_
   exact R z (pT z G z)<|Rm z<|Nh z z<|Nh z z<|Nh z z<|R z (pT z z z)<|Wl (λ_ q=>⟨true,som<|ifT hmm G,q.k<|s6 z z z z z z,s5⟩)
  refine Rh z G (mv z)<|Rh z G (mv z) ?_
  have hn:=hk.e s5;have ho:=J.g hn;refine Rh z G (lnR n_ z ho) ?_;obtain ⟨a4,a5,hmp⟩:=bdS<|ifF hmm G;refine Eg z z G z (fc call50 z<|b_t a5 (zt' L<|lt_ hl s5.s) a0 (ii z)<|b_0<|repS.len ho) ?_;rintro _ _ ⟨sb,rfl⟩;refine Rh z G (not_ z)<|R z (pF z G z)<|Rm z ?_
  rcases bs (!a4) with H | H
  .iterate 3 refine Nh z H ?_
   exact R z (pT z H z)<|Wl (λ_ q=>⟨true,som<|ifT hmp H,q.k<|s6 z z z z z z,bup s5 sb⟩)
  exact Rh z H (mv z)<|Rh z H (lnR n_ z<|J.g<|hn.e sb)<|Rh z H (a_g z z)<|R z (pF z H z)<|Wl (λ_ q=>⟨decide<|400<(x3.length:Int),som<|ifF hmp H,q.k<|s6 z z z z z z,bup s5 sb⟩)
 rintro a6 _ ⟨xa,rfl,_,s2⟩;revert a6;refine Wo<|Wc z (λhcc=>?_) (λhcc=>?_)
 .refine Ws<|R z (bP (parts:=[]) (cs:=[vI 0,sN,sN]) Y_ z z)<|E0 (fs0 (cur':=[vI 0,sN,sN]) h_ z z (h6.e s2) z z z z) ?_
  rintro _ _ ⟨a7,a8⟩;refine Ra z<|Rw z ?_
  obtain rfl:=som<|ifT hmj hcc;exact Wr<|I_ hr (s_ q_ h_ z a7 z) z z ⟨bM (bup (bup h3 h4) s2) a8.one<|m1 h3.s,none,0,0,[],none,0,0,[],z,ii z,onL,onL,ii z,ii z,nd0,al0⟩
 refine Wk<|Ws<|R z (lN (vs:=[sl A0 N0 C0]) t_ r_ z z fid<|((hh.e h4).e s2).row 0 1 z)<|RM z z<|Rm z ?_
 have hq:=((h3.ag B).e h4).e s2;have hd:=lt_ (lt_ h3.s h4.s) s2.s;obtain ⟨a9,_,_,aa,a1⟩:=w_<|ifF hmj hcc;refine E z (fc call51 z<|W_w03.run aa (zt' L hd) (W.g hq) Y (J.g hq) a0) ?_;rintro _ _ ⟨sr,au,ns,ct,ab,av,nw,cx,ad,rfl,ae,af,ah,ai,aj,he,I⟩
 iterate 3 refine Re z z z ?_
 refine E0 (fs0 (cur':=[vI a9.number,sl au ns ct,sl av nw cx]) h_ z z ((h6.e s2).e sr) z z z z) ?_;rintro _ _ ⟨ak,al⟩;have hf:=al.one;refine Ra z<|Rw z ?_
 obtain rfl:=som a1;exact Wr<|I_ hr (s_ q_ h_ z ak z) z z ⟨bM (bup (bup (bup h3 h4) s2) sr) hf<|m1 h3.s,au,ns,ct,ab,av,nw,cx,ad,z,ae,af.c hf<|j_ (al_ I) h6.lt s2.s,ah.c hf<|j_ (ar_ I) h6.lt s2.s,ai,aj,na_ (nl_ he) (nr_ he)<|nj he,aa_ (m_ (al_ I) hd)<|m_ (ar_ I) hd⟩
theorem W_w1l {x1:d_}{x2:Bt}{res:Val×Int×Int}(hm:g_c n x1 x2=some res)(W:B<=w0.z)(V:repS w0 B (sl A0 N0 C0) x1.rules)(Y:repS w0 B (sl A6 N6 C6) x2):l_ prog 6 [(.agg #[sl A0 N0 C0]),sl A6 N6 C6] w0 (Q15 w0 B res):=by
 unfold g_c at hm
 refine goG func6 z z z λfn hr=>Ws<|E z (fb z) ?_
 rintro _ wl ⟨rfl,ao⟩;have h2:=ao.below;have hv:Blk wl w0.z [sl A0 N0 C0]:=ao.blk;refine E z (fa a_4) ?_;rintro _ I ⟨rfl,ap⟩;have h1:=ap.below;have hn:Blk I wl.z [vI 0,sN,sN]:=ap.blk;refine Ra z<|Rw z<|Wq ?_
 obtain ⟨bn,ak,bh⟩:=bdS hm;refine Wt (λa w=>∃(xb:Int)(xw:Bt)(xx:List Val)(xc:Int)(xd:Int),(xb,xw,xx,xc,xd)=bn/\∃ae nf cg J ah ni cj L O,Sat 32 [(1,sl A6 N6 C6),(4,pt wl.z),(7,pt O),(8,vI xc),(9,vI xd)] a/\Below I.z I w/\inI xb/\a_ w J (sl ae nf cg) xw/\J.Nodup/\(∀k∈J,I.z<=k)/\a_ w L (sl ah ni cj) xx/\L.Nodup/\(∀k∈L,I.z<=k)/\(∀k∈L,k∉J)/\inI xc/\inI xd/\Blk w O [vI xb,sl ae nf cg,sl ah ni cj]/\I.z<=O/\(∀k∈J,k∉[O])/\(∀k∈L,k∉[O])) ?_ ?_
 .refine Wd (X:=λk=>k∈([]:List Nat)∨I.z<=k) 0 (.rd 0<|.rd 1<|.rd 3<|.br 2 (.br 4 (.rd 5<|.rd 6<|.rd 7<|.rd 8<|.ef 9<|.ef 10<|.rd 11<|.rd 12 .done) 9<|.ef 4<|.rd 5<|.rd 6<|.rd 7<|.rd 8<|.ef 10<|.rd 11<|.rd 12 .done) 9<|.ef 2<|.ef 4<|.rd 5<|.rd 6<|.rd 7<|.rd 8<|.ef 10<|.rd 11<|.rd 12 .done) mo (by kernel_rfl) λaq G _=>?_
  have ar:=(hv.e h1).e G;refine dR z z (lN (vs:=[sl A0 N0 C0]) t_ r_ z z (a_t nm0<|Nat.lt_of_lt_of_le hv.lt h1.s)<|ar.row 0 1 z)<|dR z z (lN (vs:=[sl A0 N0 C0]) t_ r_ z z (a_t nm0<|Nat.lt_of_lt_of_le hv.lt h1.s)<|ar.row 0 1 z)<|dM z z z<|d_D ?_ ?_
  .have hy:=((h2.ag B).e h1).e G;have hz:=lt_ (lt_ h2.s h1.s) G.s;obtain ⟨_,bo,al⟩:=bdS ak;refine dE z z (fc call21 z<|f_A bo (zt' W hz)<|V.g hy) (.inr λ_ _ h=>p_<|h.1) ?_;rintro _ au ⟨s4,rfl,av⟩;refine d_D ?_ ?_
   .have aw:=hy.e s4;obtain ⟨rm,bp,bq,bt,bi⟩:=w_ al;refine dE z z (fc call20 z<|k_u bt (zt' W<|lt_ hz s4.s) (V.g aw) av (Y.g aw)<|ii z) (.inr λ_ _ h=>p_<|h.1) ?_;rintro _ ax ⟨ay,az,aA,aB,bu,aC,aD,aE,bv,rfl,bw,aF,aG,bx,bz,a1,aH⟩;refine dM z z z ?_
    iterate 3 refine dR z z (ext_ z z) ?_
    refine dE z z (fa a_4) (.inr λ_ _ h=>p_<|h.2.below) ?_;rintro _ bA ⟨rfl,aI⟩;have a2:=aI.below;have a3:=lt_ G.s s4.s;have a4:=m1<|lt_ a3 ay.s
    refine dE0 z (fs0 (cur':=[vI rm.number,sl az aA aB,sl aC aD aE]) h_ z z (aI.blk:Blk bA ax.z [vI 0,sN,sN]) z z z z) (.inr λ_ _ h=>c_d (atp a4) h.2) ?_;rintro _ _ ⟨bB,bC⟩;have a5:=bC.one;refine dQ z z z<|dQ z z z<|pD ?_
    have aJ:=mnr<|a_.lt aF
    have aK:=mnr<|a_.lt aG
    exact λ_ q=>⟨rm.number,rm.bytes,rm.items,bp,bq,som bi,az,aA,aB,bu,aC,aD,aE,bv,ax.z,q.k<|s5 z z z z z,bM (bup (bup (bup G s4) ay) a2) a5 a4,bw,(aF.e a2).c a5<|ds aJ,nl_ a1,m_ (al_ aH) a3,(aG.e a2).c a5<|ds aK,nr_ a1,m_ (ar_ aH) a3,ds<|nj a1,bx,bz,bB,atp a4,ds aJ,ds aK⟩
   refine dE z z (fa a_4) (.inr λ_ _ h=>p_<|h.2.below) ?_;rintro _ bD ⟨rfl,aL⟩;have ho:=aL.below;have a6:Blk bD au.z [vI 0,sN,sN]:=aL.blk;have aM:=(hy.e s4).e ho;obtain ⟨rp,bE,bF,bG,bj⟩:=w_ al;refine dE z z (fc call20 z<|k_u bG (zt' W<|lt_ (lt_ hz s4.s) ho.s) (V.g aM) av (Y.g aM)<|ii z) (.inr λ_ _ h=>p_<|h.1) ?_;rintro _ _ ⟨aN,aO,aP,aQ,bH,aR,aS,aT,bI,rfl,bJ,bK,bL,bN,bO,a7,hq⟩;refine dM z z z ?_
   iterate 3 refine dR z z (ext_ z z) ?_
   have aU:=lt_ G.s s4.s;have a8:=m1 aU;refine dE0 z (fs0 (cur':=[vI rp.number,sl aO aP aQ,sl aR aS aT]) h_ z z (a6.e aN) z z z z) (.inr λ_ _ h=>c_d (atp a8) h.2) ?_;rintro _ _ ⟨bQ,bR⟩;have a9:=bR.one;refine dQ z z z<|dQ z z z<|pD ?_
   have aV:=j_ (al_ hq) a6.lt lr;have aW:=lt_ aU ho.s;have aX:=j_ (ar_ hq) a6.lt lr;exact λ_ q=>⟨rp.number,rp.bytes,rp.items,bE,bF,som bj,aO,aP,aQ,bH,aR,aS,aT,bI,au.z,q.k<|s5 z z z z z,bM (bup (bup (bup G s4) ho) aN) a9 a8,bJ,bK.c a9 aV,nl_ a7,m_ (al_ hq) aW,bL.c a9 aX,nr_ a7,m_ (ar_ hq) aW,ds<|nj a7,bN,bO,bQ,atp a8,aV,aX⟩
  refine dE z z (fa a_4) (.inr λ_ _ h=>p_<|h.2.below) ?_;rintro _ bS ⟨rfl,aY⟩;have ht:=aY.below;have aa:Blk bS aq.z [vI 0,sN,sN]:=aY.blk;have aZ:=(((h2.ag B).e h1).e G).e ht;have b0:=lt_ (lt_ (lt_ h2.s h1.s) G.s) ht.s;obtain ⟨_,bT,bk⟩:=bdS ak;refine dE z z (fc call21 z<|f_A bT (zt' W b0)<|V.g aZ) (.inr λ_ _ h=>p_<|h.1) ?_;rintro _ _ ⟨s9,rfl,bU⟩;have b1:=aZ.e s9;obtain ⟨rr,bV,bW,bX,bm⟩:=w_ bk;refine dE z z (fc call20 z<|k_u bX (zt' W<|lt_ b0 s9.s) (V.g b1) bU (Y.g b1)<|ii z) (.inr λ_ _ h=>p_<|h.1) ?_;rintro _ _ ⟨b2,b3,b4,b5,bY,b6,b7,b8,bZ,rfl,c0,c1,c2,c3,c4,ab,hu⟩;refine dM z z z ?_
  iterate 3 refine dR z z (ext_ z z) ?_
  have ad:=m1 G.s;refine dE0 z (fs0 (cur':=[vI rr.number,sl b3 b4 b5,sl b6 b7 b8]) h_ z z ((aa.e s9).e b2) z z z z) (.inr λ_ _ h=>c_d (atp ad) h.2) ?_;rintro _ _ ⟨c5,c6⟩;have af:=c6.one;refine dQ z z z<|dQ z z z<|pD ?_
  have b9:=j_ (al_ hu) aa.lt s9.s;have ba:=lt_ (lt_ G.s ht.s) s9.s;have bb:=j_ (ar_ hu) aa.lt s9.s;exact λ_ q=>⟨rr.number,rr.bytes,rr.items,bV,bW,som bm,b3,b4,b5,bY,b6,b7,b8,bZ,aq.z,q.k<|s5 z z z z z,bM (bup (bup (bup G ht) s9) b2) af ad,c0,c1.c af b9,nl_ ab,m_ (al_ hu) ba,c2.c af bb,nr_ ab,m_ (ar_ hu) ba,ds<|nj ab,c3,c4,c5,atp ad,b9,bb⟩
 rintro c7 ws ⟨xb,xw,xx,xc,xd,rfl,ae,nf,cg,J,ah,ni,cj,L,O,_,sk,c8,c9,ca,bc,cb,cc,be,cd,bf,ce,cf,_,_,_⟩;revert c7;refine Wo<|Wq<|Wq ?_
 obtain ⟨ch,am,an⟩:=bdS<|c_E bh;refine Wt (λa w=>∃(ai:Bool),ai=ch/\Sat 32 [(4,pt wl.z),(7,pt O),(8,vI xc),(9,vI xd),(26,vB ai)] a/\Below ws.z ws w) ?_ ?_
 .refine Wg<|Rm z<|Rq z z z<|Rm z ?_
  rcases bs (xd==0) with H | H
  .exact Rh z H (mv z)<|Rh z H (mv z)<|Rh z H (lnR n_ z<|Y.g<|((h2.ag B).e h1).e sk)<|Rh z H (lss z z)<|R z (pT z H z)<|Wl (λ_ q=>⟨decide<|xc<(x2.length:Int),som<|ifT am H,q.k<|s5 z z z z z,br ws⟩)
  iterate 4 refine Nh z H ?_
  exact R z (pF z H z)<|Wl (λ_ q=>⟨false,som<|ifF am H,q.k<|s5 z z z z z,br ws⟩)
 rintro ci _ ⟨ai,rfl,_,sa⟩;revert ci;refine Wo<|Wc z (λa0=>?_) (λa0=>?_)
 .refine Ws<|R z (bP (parts:=[]) (cs:=[vI 0,sN,sN]) Y_ z z)<|Rm z<|E0 (fs0 (cur':=[vI 0,sN,sN]) h_ z z ((hn.e sk).e sa) z z z z) ?_
  rintro _ _ ⟨ck,cl⟩;refine Ra z<|Rw z ?_
  obtain rfl:=som<|ifT an a0;exact Wr<|I_ hr (s_ q_ h_ z ck z) z z ⟨bM (bup (bup (bup h2 h1) sk) sa) cl.one<|m1 h2.s,none,0,0,[],none,0,0,[],z,ii z,onL,onL,bf,ii z,nd0,al0⟩
 refine Wk<|Ws<|R z (lN (vs:=[vI xb,sl ae nf cg,sl ah ni cj]) q_ h_ z z fid<|(cf.e sa).row 0 3 z)<|RM z z<|E0 (fs0 (cur':=[vI xb,sl ae nf cg,sl ah ni cj]) h_ z z ((hn.e sk).e sa) z z z z) ?_
 rintro _ _ ⟨cm,cn⟩;have aj:=cn.one;refine Ra z<|Rw z ?_
 obtain rfl:=som<|ifF an a0;have bg:=lt_ h2.s h1.s;exact Wr<|I_ hr (s_ q_ h_ z cm z) z z ⟨bM (bup (bup (bup h2 h1) sk) sa) aj<|m1 h2.s,ae,nf,cg,J,ah,ni,cj,L,z,c8,(c9.e sa).c aj<|j_ bc hn.lt lr,(cb.e sa).c aj<|j_ be hn.lt lr,bf,ce,na_ ca cc<|ds cd,aa_ (m_ bc bg)<|m_ be bg⟩
theorem W_w2t {x1:d_}{x2:Bt}{res:Bool}(hm:h_H n x1 x2=some res)(J:B<=w0.z)(H:repS w0 B (sl A0 N0 C0) x1.rules)(I:repS w0 B (sl A6 N6 C6) x2):l_ prog 47 [(.agg #[sl A0 N0 C0]),sl A6 N6 C6] w0 (Q0 w0 B res):=by
 unfold h_H at hm
 refine goG func47 z z z λfn hr=>Ws<|E z (fb z) ?_
 rintro _ O ⟨rfl,h1⟩;have G:=h1.below;refine Rw z<|Ws<|R z (lN (vs:=[sl A0 N0 C0]) t_ r_ z z fid<|(h1.blk:Blk O w0.z [sl A0 N0 C0]).row 0 1 z)<|Rm z ?_
 obtain ⟨V,_,_,W,L⟩:=w_ hm;refine E z (fc call6 z<|W_w1l W (zt' J G.s) (H.e G)<|I.e G) ?_;rintro _ Y ⟨s2,aa,nb,cc,_,ad,ne,cf,_,rfl,_,_,_,_,_,_,_⟩;refine Rm z ?_
 iterate 3 refine Re z z z ?_
 refine E z (fa a_4) ?_;rintro _ wg ⟨rfl,h3⟩;refine E0 (fs0 (cur':=[vI V.number,sl aa nb cc,sl ad ne cf]) h_ z z (h3.blk:Blk wg Y.z [vI 0,sN,sN]) z z z z) ?_;rintro _ _ ⟨_,si⟩;refine Ra z<|Rw z<|Wm z<|Rq z z z<|Rw z ?_
 obtain rfl:=som L;exact Wr<|e_ hr z ⟨bM (bup (bup G s2) h3.below) si.one<|m1<|lt_ G.s s2.s,z⟩
theorem W_w1m {x1:g_}{x2:Int}{res:Str}(hm:e_4 n x1 x2=some res)(a0:B<=w0.z)(ae:x1.name.b.length<=LEN)(af:inI x1.kind)(ah:inI x1.size)(ai:repS w0 B (sl AB NB CB) x1.bytes)(V:repS w0 B (sl AA NA CA) x1.names)(aj:repS w0 B (sl AC NC CC) x1.tags)(ak:repS w0 B (sl AD ND CD) x1.kids)(W:inI x2):l_ prog 64 [(.agg #[Str.v x1.name,vI x1.kind,vI x1.size,vB x1.little,sl AB NB CB,sl AA NA CA,sl AC NC CC,sl AD ND CD]),vI x2] w0 (Q4 w0 B res):=by
 unfold e_4 at hm
 refine goG func64 z z z λfn hr=>Ws<|E z (fb z) ?_
 rintro _ L ⟨rfl,hn⟩;have h1:=hn.below;have h6:Blk L w0.z (vR x1 AB NB CB AA NA CA AC NC CC AD ND CD):=hn.blk;refine Rw z<|Wq<|Wb<|Ws<|Rf z a_u z<|R z (l0 g_3 z<|h6.at z)<|Rq z z z<|Rw z<|Wc z (λhcd=>?_) (λhcd=>?_)
 .refine Wm z ?_
  obtain ⟨_,ew,hmx⟩:=bdS<|ifT hm hcd;refine E z (fc call68 z<|e_T ew (zt' a0 h1.s) W) ?_;rintro _ _ ⟨sy,rfl,hz⟩;refine Rw z ?_
  obtain rfl:=som hmx;exact Wr<|rtO<|e_ hr z ⟨bup h1 sy,z,hz⟩
 refine Wq ?_;obtain ⟨a1,hum,hmo⟩:=bdS<|ifF hm hcd;refine Wt (λa w=>∃(xe:Bool),xe=a1/\Sat 51 [(1,vI x2),(2,pt w0.z),(11,vB xe)] a/\Below L.z L w) ?_ ?_
 .refine Wg<|Rf z a_u z<|R z (l0 g_3 z<|h6.at z)<|Rq z z z<|Rm z ?_
  rcases bs (x1.kind==6) with G | G
  .exact Rh z G (mv z)<|Rh z G (fd c_e z)<|Rh z G (l0 b_i z<|h6.at z)<|Rh z G (lnR a_n z<|V.e h1)<|Rh z G (lss z z)<|R z (pT z G z)<|Ra z<|Wl (λ_ q=>⟨decide<|x2<(x1.names.length:Int),som<|ifT hum G,q.k<|s3 z z z,br L⟩)
  iterate 5 refine Nh z G ?_
  exact R z (pF z G z)<|Ra z<|Wl (λ_ q=>⟨false,som<|ifF hum G,q.k<|s3 z z z,br L⟩)
 rintro a2 O ⟨xe,rfl,_,s2⟩;revert a2;refine Wo<|Wc z (λhcf=>?_) (λhcf=>?_)
 .refine Ws<|Rf z c_e z<|R z (l0 b_i z<|(h6.e s2).at z)<|Rm z ?_
  obtain ⟨_,a3,Y⟩:=bdS<|ifT hmo hcf;refine RX z (at_ (α:=Str) a_n z_9 z z z (V.g<|(h1.ag B).e s2) a3) ?_;rintro _ ⟨_,_,_,rfl,a4,a5,_⟩;obtain ⟨rfl,a6⟩:=b_K a5;refine R z (l0 g_9 z<|a4.at0 z)<|Rw z ?_
  obtain rfl:=som Y;exact Wr<|rtO<|e_ hr z ⟨bup h1 s2,z,a6⟩
 refine Wq ?_;obtain ⟨a7,hup,hmq⟩:=bdS<|ifF hmo hcf;refine Wt (λa w=>∃(xg:Bool),xg=a7/\Sat 51 [(1,vI x2),(2,pt w0.z),(27,vB xg)] a/\Below O.z O w) ?_ ?_
 .refine Wg<|Rf z a_u z<|R z (l0 g_3 z<|(h6.e s2).at z)<|Rq z z z<|Rm z ?_
  rcases bs (x1.kind==7) with H | H
  .exact Rh z H (mv z)<|Rh z H (eql z z)<|R z (pT z H z)<|Ra z<|Wl (λ_ q=>⟨x2==0,som<|ifT hup H,q.k<|s3 z z z,br O⟩)
  exact Nh z H<|Nh z H<|R z (pF z H z)<|Ra z<|Wl (λ_ q=>⟨false,som<|ifF hup H,q.k<|s3 z z z,br O⟩)
 rintro a8 wa ⟨xg,rfl,_,s7⟩;revert a8;refine Wo<|Wc z (λhch=>?_) (λhch=>?_)
 .refine Ws<|Rw z ?_
  obtain rfl:=som<|ifT hmq hch;exact Wr<|rtO<|e_ hr z ⟨bup (bup h1 s2) s7,z,lb z⟩
 refine Wq ?_;obtain ⟨a9,hur,hms⟩:=bdS<|ifF hmq hch;refine Wt (λa w=>∃(xi:Bool),xi=a9/\Sat 51 [(1,vI x2),(2,pt w0.z),(35,vB xi)] a/\Below wa.z wa w) ?_ ?_
 .refine Wg<|Rf z a_u z<|R z (l0 g_3 z<|((h6.e s2).e s7).at z)<|Rq z z z<|Rm z ?_
  rcases bs (x1.kind==8) with I | I
  .exact Rh z I (mv z)<|Rh z I (eql z z)<|R z (pT z I z)<|Ra z<|Wl (λ_ q=>⟨x2==0,som<|ifT hur I,q.k<|s3 z z z,br wa⟩)
  exact Nh z I<|Nh z I<|R z (pF z I z)<|Ra z<|Wl (λ_ q=>⟨false,som<|ifF hur I,q.k<|s3 z z z,br wa⟩)
 rintro aa wb ⟨xi,rfl,_,sc⟩;revert aa;refine Wo<|Wc z (λhcj=>?_) (λhcj=>?_)
 .refine Ws<|Rw z ?_
  obtain rfl:=som<|ifT hms hcj;exact Wr<|rtO<|e_ hr z ⟨bup (bup (bup h1 s2) s7) sc,z,lb z⟩
 refine Wq ?_;obtain ⟨ab,hut,hmu⟩:=bdS<|ifF hms hcj;refine Wt (λa w=>∃(xk:Bool),xk=ab/\Sat 51 [(43,vB xk)] a/\Below wb.z wb w) ?_ ?_
 .refine Wg<|Rf z a_u z<|R z (l0 g_3 z<|(((h6.e s2).e s7).e sc).at z)<|Rq z z z<|Rm z ?_
  rcases bs (x1.kind==9) with J | J
  .exact Rh z J (mv z)<|Rh z J (eql z z)<|R z (pT z J z)<|Ra z<|Wl (λ_ q=>⟨x2==0,som<|ifT hut J,q.k<|s1 z,br wb⟩)
  exact Nh z J<|Nh z J<|R z (pF z J z)<|Ra z<|Wl (λ_ q=>⟨false,som<|ifF hut J,q.k<|s1 z,br wb⟩)
 rintro ad _ ⟨xk,rfl,_,sv⟩;revert ad;refine Wo<|Wc z (λhcl=>?_) (λhcl=>?_)
 .refine Ws<|Rw z ?_
  obtain rfl:=som<|ifT hmu hcl;exact Wr<|rtO<|e_ hr z ⟨bup (bup (bup (bup h1 s2) s7) sc) sv,z,lb z⟩
 refine Wk<|Ws<|Rw z ?_
 obtain rfl:=som<|ifF hmu hcl;exact Wr<|e_ hr z ⟨bup (bup (bup (bup h1 s2) s7) sc) sv,z,lb z⟩
def Q17 (w0:World)(B:Zone)(r:(List y_)×Int)(v:Value)(w':World):Prop:=Bw w0 w'/\un2 (λL G=>∃H I J S1,v = .tuple #[sl H I J,vI G]/\a_ w' S1 (sl H I J) L/\inI G/\S1.Nodup/\(∀k∈S1,w0.z<=k)) r
structure k_v (f:d_->Int->Bt->Int->Str->Option ((List y_)×Int)):Prop where
  run:∀{A0 A9:Option Addr}{N0 C0 N9 C9:Nat}{B:Zone}{x1:d_}{x2:Int}{x3:Bt}{x4:Int}{x5:Str}{res:(List y_)×Int}{w0:World}(hm:f x1 x2 x3 x4 x5=some res)(hBw:B<=w0.z)(p1_0:repS w0 B (sl A0 N0 C0) x1.rules)(p2_0:inI x2)(p3_0:repS w0 B (sl A9 N9 C9) x3)(p4_0:inI x4)(p5_0:x5.b.length<=LEN),l_ prog 48 [(.agg #[sl A0 N0 C0]),vI x2,sl A9 N9 C9,vI x4,Str.v x5] w0<|Q17 w0 B res
abbrev m_A (n:Nat):Prop:=k_v (e_C n).spec_l19Build
theorem T_w0j (bB:m_A n):k_v (i_6 n<|e_C n):=by
 constructor
 intro A0 A9 N0 C0 N9 C9 B x1 x2 x3 x4 x5 res w0 hm V W aB ak Y bc;unfold i_6 at hm
 refine goG func48 z z z λfn hr=>Ws<|E z (fb z) ?_
 rintro _ wi ⟨rfl,aG⟩;have hn:=aG.below;have ho:Blk wi w0.z [sl A0 N0 C0]:=aG.blk;refine Ra z<|Rw z<|Ws<|Rf z a_3 z<|R z (l0 a_8 z<|ho.at z)<|Rm z ?_
 obtain ⟨xj,bC,be⟩:=bdS hm;refine RX z (at_ (α:=g_) a_a o_ z z z (W.e hn) bC) ?_;rintro _ ⟨_,_,_,rfl,bD,bE,_⟩;obtain ⟨az,a1,a2,a3,a4,a5,a6,a7,a8,aa,ab,ad,rfl,aH,aI,aJ,aK,aL,aM,ao⟩:=a_D bE;refine R z (lN (vs:=vR xj az a1 a2 a3 a4 a5 a6 a7 a8 aa ab ad) L_ o_ z z fid bD)<|E z (fa b_P) ?_
 rintro _ bF ⟨rfl,aN⟩;have hg:=aN.below;have ap:Blk bF wi.z [(Str.v (⟨[]⟩:Str)),vI 0,vI 0,vB false,sN,sN,sN,sN]:=aN.blk;refine E0 (fs0 (cur':=vR xj az a1 a2 a3 a4 a5 a6 a7 a8 aa ab ad) o_ z z ap z z z z) ?_;rintro _ _ ⟨bG,bH⟩;have hd:=bH.one;refine Wn<|Ws ?_
 have aq:=(ho.e hg).c hd<|djs<|mmr ho.lt
 refine R z (lN (vs:=[sl A0 N0 C0]) t_ r_ z z fid<|aq.row 0 1 z)<|RM z z<|Rm z ?_
 have ar:∀k∈[wi.z],¬B k:=or0 (c_ lr)<|k_<|zt' V hn.s;have ae:=((hn.ag B).e hg).c hd<|b_ ar
 have af:=lt_ (lt_ hn.s hg.s) hd.s;obtain ⟨bI,rh,_,bJ,bf⟩:=w_ be;refine E z (fc call51 z<|W_w03.run bJ (zt' V af) (W.g ae) aB (ak.g ae) Y) ?_;rintro _ wk ⟨s6,bK,bL,bN,_,bO,bQ,bR,_,rfl,bS,_,L,aO,_,_,_⟩;refine Rm z ?_
 iterate 3 refine Re z z z ?_
 refine E z (fa a_4) ?_;rintro _ bT ⟨rfl,aP⟩;have h2:=aP.below;have au:Blk bT wk.z [vI 0,sN,sN]:=aP.blk;refine E0 (fs0 (cur':=[vI bI.number,sl bK bL bN,sl bO bQ bR]) h_ z z au z z z z) ?_;rintro _ G ⟨aQ,bU⟩;have H:=bU.one;refine Ra z<|Rw z<|Wm z<|RM z z<|Rm z<|R z (bP (parts:=[(0,.tmp 38),(1,.tmp 39),(2,.tmp 40),(3,.tmp 41)]) (cs:=[Str.v x5,vI x2,vI x4,vI rh]) g_R z z)<|E z (fS [(.tmp 42)] k_c z z z (a_e z) (lb z)<|lb z) ?_
 rintro _ wr ⟨rfl,av⟩;have h5:=av.below;have cF:Blk wr G.z [Str.v x5,vI x2,vI x4,vI rh]:=av.blk;refine Rw z<|Wm z<|Rw z<|Wq<|Ws<|Rf z a_u z ?_
 have aR:=lt_ hd.s s6.s;have aw:=(((bG.e s6).e h2).c H<|djs<|mm1 ap.lt aR).e h5;refine R z (l0 g_3 z<|aw.at z)<|Wn<|Wb<|Wq<|Ws<|Rq z z z<|Rw z ?_
 obtain ⟨bV,aC,bg⟩:=bdS bf;refine Wt (λa w=>∃(ax:Bool),ax=bV/\Sat 98 [(2,sl A9 N9 C9),(3,vI x4),(4,Str.v x5),(5,pt w0.z),(12,pt wi.z),(13,pt wk.z),(14,vI rh),(16,sl (some ⟨G.z,0,none⟩) 1 1),(17,vI x4),(46,vI xj.kind),(47,vB ax)] a/\Below wr.z wr w) ?_ ?_
 .refine Wc z (λal=>?_)<|λal=>?_
  .exact a_k<|λ_ q=>⟨xj.kind==5,som<|ifT aC al,q.k<|sc z<|sc z<|sc z<|sc z<|sc z<|sc z<|sc z<|sc z<|sc z<|sc z<|sc z sn,br wr⟩
  exact Wg<|Rq z z z<|Ra z<|Wl (λ_ q=>⟨xj.kind==7,som<|ifF aC al,q.k<|sc z<|sc z<|sc z<|sc z<|sc z<|sc z<|sc z<|sc z<|sc z<|sc z<|sc z sn,br wr⟩)
 rintro bW wm ⟨ax,rfl,_,s3⟩;revert bW;refine Wo ?_;obtain ⟨bX,aD,bh⟩:=bdS bg;refine Wt (λa w=>∃(ah:Int),ah=bX/\Sat 98 [(2,sl A9 N9 C9),(4,Str.v x5),(5,pt w0.z),(12,pt wi.z),(13,pt wk.z),(14,vI rh),(16,sl (some ⟨G.z,0,none⟩) 1 1),(17,vI ah)] a/\Below wm.z wm w/\inI ah) ?_ ?_
 .refine Wc z (λam=>?_)<|λam=>?_
  .refine Wq (Wd (X:=noX) 0 (pl_ 15 [7]) mo (by kernel_rfl) λcG sp _=>dR z z (lN (vs:=[sl A0 N0 C0]) t_ r_ z z fid<|((((((aq.e s6).e h2).c H<|djs<|mm1 ho.lt<|lt_ (lt_ hg.s hd.s) s6.s).e h5).e s3).e sp).row 0 1 z)<|dR z z (fd J_ z)<|dR z z (l0 A_ z<|((aw.e s3).e sp).at z) ?_);obtain ⟨_,bY,bi⟩:=bdS<|ifT aD am;have aS:=lt_ af s6.s;have aT:∀k∈[wk.z],¬B k:=or0 (c_ lr)<|k_<|zt' V aS;refine dRX z z (at_ (α:=Int) v_ z_3 z z z (ao.g<|(((((((hg.ag B).c hd<|b_ ar).e s6).e h2).c H<|b_ aT).e h5).e s3).e sp) bY) ?_;rintro _ ⟨_,_,_,rfl,bZ,c0,_⟩;obtain ⟨rfl,c1⟩:=O_ c0;refine dR z z (l0 g_3 z<|bZ.at0 z)<|dM z z z<|dM z z z ?_
   have aU:=(((((ae.e s6).e h2).c H<|b_ aT).e h5).e s3).e sp;obtain ⟨_,c2,_,c3,bj⟩:=w_ bi;refine dE z z (fc call78 z<|i_W c3 (zt' V<|lt_ (lt_ (lt_ (lt_ (lt_ aS h2.s) H.s) h5.s) s3.s) sp.s) (W.g aU) c1 (ak.g aU) Y) (.inr λ_ _ h=>p_<|h.1) ?_;rintro _ _ ⟨c4,rfl,_,c5⟩;refine dM z z z ?_
   iterate 3 refine dR z z (ext_ z z) ?_
   iterate 3 refine dQ z z z ?_
   exact pD<|Wo<|Wg<|Rm z<|Ra z<|Wl (λ_ q=>⟨c2,som bj,q.k<|s8 z z z z z z z z,bup sp c4,c5⟩)
  refine Ws<|Rq z z z<|Rw z ?_
  obtain ⟨c6,aE,bk⟩:=bdS<|ifF aD am;refine Wt (λa w=>∃(xt:Int),xt=c6/\Sat 98 [(2,sl A9 N9 C9),(4,Str.v x5),(5,pt w0.z),(12,pt wi.z),(13,pt wk.z),(14,vI rh),(16,sl (some ⟨G.z,0,none⟩) 1 1),(17,vI xt)] a/\Below wm.z wm w/\inI xt) ?_ ?_
  .refine Wc z (λan=>?_)<|λan=>?_
   .exact Wg<|Rm z<|R z (add_ z z)<|Ra z<|Wl (λ_ q=>⟨i_ x4 1,som<|ifT aE an,q.k<|s8 z z z z z z z z,br wm,iA _ _⟩)
   exact a_k<|λ_ q=>⟨x4,som<|ifF aE an,q.k<|s8 z z z z z z z z,br wm,Y⟩
  rintro c7 _ ⟨xt,rfl,_,c8,c9⟩;revert c7;exact λ_ q=>⟨xt,som bk,q.k<|s8 z z z z z z z z,c8,c9⟩
 rintro ca I ⟨ah,rfl,_,sa,cb⟩;revert ca;refine Wo<|Wq<|Ws<|Rw z ?_
 obtain ⟨_,bm,aF⟩:=bdS bh;refine Wf (σ:=(List y_)×Int) (ρ:=(List y_)×Int) (λ(aV:Nat) s a w=>un2 (λxq xl=>∃O nb cc J,Sat 98 [(2,sl A9 N9 C9),(4,Str.v x5),(5,pt w0.z),(12,pt wi.z),(13,pt wk.z),(14,vI rh),(16,sl O nb cc),(17,vI xl),(21,vI ((aV:Nat):Int))] a/\Cg [G.z] I w/\a_ w J (sl O nb cc) xq/\J.Nodup/\(∀k∈J,k∈[G.z]∨I.z<=k)/\inI xl) s) (λs a w=>un2 (λxq xl=>∃O nb cc J,Sat 98 [(14,vI rh),(16,sl O nb cc)] a/\Cg [G.z] I w/\a_ w J (sl O nb cc) xq/\J.Nodup/\(∀k∈J,k∈[G.z]∨I.z<=k)/\inI xl) s) (rQ prog fn<|Q17 w0 B) bm ?_ ?_ ?_ ?_ ?_
 .exact λ_ q=>⟨some ⟨G.z,0,none⟩,1,1,[G.z],q.k<|s9 z z z z z z z z z,cr [G.z] I,((a_J av<|p_3 (x:=(⟨x5,x2,x4,rh⟩:y_)) bc aB Y aO).e s3).e sa,a_y,io sr,cb⟩
 .rintro aV ⟨xq,xl⟩ _ cd _ a0 ⟨O,nb,cc,J,bn,se,hu,hv,hw,ai⟩ bo;refine Wu ?_ bn;refine Wq<|Wm z<|Rf z V_ z ?_
  have aW:=(((aQ.e h5).e s3).e sa).c se<|djs<|mm1 au.lt H.s
  refine R z (l0 a_9 z<|aW.at z)<|R z (lnR a_i z<|or_ ((((((L.e h2).c H<|ds<|mnr<|a_.lt L).e h5).e s3).e sa).c se<|ds<|mno (a_.lt L)<|lt_ h2.s H.s)<|a_.lt L)<|Rl z z z<|Wx z (λ_=>?_) (λhc=>(a_6 a0 hc).elim)
  refine Wk<|Wq<|Wb<|Wq (Wd (X:=noX) 0 (.rd 0<|.rd 1<|.rd 2<|.rd 3<|.rd 4<|.rd 6<|.rd 7<|.rd 8<|.rd 9<|.rd 10<|.rd 11<|.ef 5<|.ef 12<|.rd 13<|.ef 14<|.rd 15<|.rd 16<|.rd 17<|.rd 18<|.rd 19 .done) mo (by kernel_rfl) λce sf _=>?_)
  have aX:=lt_ (lt_ hg.s hd.s) s6.s;refine dR z z (lN (vs:=[sl A0 N0 C0]) t_ r_ z z fid<|((((((((aq.e s6).e h2).c H<|djs<|mm1 ho.lt aX).e h5).e s3).e sa).c se<|djs<|mm1 ho.lt<|lt_ (lt_ aX h2.s) H.s).e sf).row 0 1 z) ?_;have aY:=(((aw.e s3).e sa).c se<|djs<|mm1 ap.lt<|lt_ (lt_ aR h2.s) H.s).e sf;refine dR z z (lN (vs:=vR xj az a1 a2 a3 a4 a5 a6 a7 a8 aa ab ad) L_ o_ z z fid<|aY.row 0 8 z)<|dR z z (fd a_S z)<|dR z z (l0 g_3 z<|(aW.e sf).at z) ?_
  iterate 4 refine dM z z z ?_
  obtain ⟨_,cf,bp⟩:=bdS<|a_O bo;refine dR z z (a_w z z cf)<|dR z z (lN (vs:=vR xj az a1 a2 a3 a4 a5 a6 a7 a8 aa ab ad) L_ o_ z z fid<|aY.row 0 8 z)<|dM z z z ?_
  have aZ:=lt_ af s6.s;have b0:∀k∈[wk.z],¬B k:=or0 (c_ lr)<|k_<|zt' V aZ;have b1:=lt_ (lt_ aZ h2.s) H.s;have b2:∀k∈[G.z],¬B k:=or0 (c_ lr)<|k_<|zt' V b1;have hx:=(((((((((hg.ag B).c hd<|b_ ar).e s6).e h2).c H<|b_ b0).e h5).e s3).e sa).c se<|b_ b2).e sf;have b3:=lt_ (lt_ (lt_ (lt_ (lt_ b1 h5.s) s3.s) sa.s) se.s) sf.s;obtain ⟨_,cg,bq⟩:=bdS bp;refine dE z z (fc call31 z<|d_M cg (zt' V b3) aH aI aJ (aK.g hx) (aL.g hx) (aM.g hx) (ao.g hx) bS<|ic (Nat.le_of_lt a0)<|lt_ (a_.len L) M_) (.inr λ_ _ h=>p_<|h.1) ?_;rintro _ ch ⟨ss,rfl,ci⟩;have aj:=hx.e ss;have b4:=lt_ b3 ss.s;obtain ⟨_,cj,bs⟩:=bdS bq;refine dE z z (fc call64 z<|W_w1m cj (zt' V b4) aH aI aJ (aK.g aj) (aL.g aj) (aM.g aj) (ao.g aj)<|ic (Nat.le_of_lt a0)<|lt_ (a_.len L) M_) (.inr λ_ _ h=>p_<|h.1) ?_;rintro _ ck ⟨sy,rfl,_⟩;obtain ⟨_,b5,bt⟩:=bdS bs;refine dR z z (a_w z z b5) ?_;have b6:=(((((((((ae.e s6).e h2).c H<|b_ b0).e h5).e s3).e sa).c se<|b_ b2).e sf).e ss).e sy;obtain ⟨_,cl,cm,bu⟩:=a_r bt;refine dE z z (fc call48 z<|bB.run cm (zt' V<|lt_ b4 sy.s) (W.g b6) ci (ak.g b6) ai<|b_b b5) (.inr λ_ _ h=>p_<|h.1) ?_;rintro _ cn ⟨ay,_,_,_,_,rfl,co,cp,_,_⟩;refine dM z z z<|dR z z (ext_ z z)<|dR z z (ext_ z z)<|dQ z z z<|dQ z z z<|pD<|Wo<|Wm z<|Rm z ?_
  obtain ⟨cq,ct,bv⟩:=bdS bu;refine E z (fN (α:=y_) k_c ct z z ((((hu.e sf).e ss).e sy).e ay) hv<|a_.rep co) ?_;rintro _ cu ⟨b7,cv,cw,cx,rfl,cy,cz,cA,cB⟩;refine Rw z<|Wg<|Rm z<|Rw z<|Wg<|Rm z<|R z (inc_ a0 (lt_ (a_.len L) M_) z z)<|Ra z<|Wl ?_
  have b8:∀k∈J,k∈[G.z]∨I.z<=k:=or1 hw (io sr)<|B_ lr;exact λ_ q=>⟨(cq,cl),(som bv).symm,⟨cv,cw,cx,b7,q.k<|s9 z z z z z z z z z,(cM (f_ (f_ (f_ (f_ (cM (cr [G.z] I) se (io sr):Cg [G.z] I cd) sf:Cg [G.z] I ce) ss:Cg [G.z] I ch) sy:Cg [G.z] I ck) ay:Cg [G.z] I cn) cy b8:Cg [G.z] I cu),cz,cA,(or1 cB b8 (B_<|lt_ (lt_ (lt_ (lt_ se.s sf.s) ss.s) sy.s) ay.s):∀k∈b7,k∈[G.z]∨I.z<=k),cp⟩⟩
 .rintro ⟨xq,xl⟩ _ cC ⟨O,nb,cc,J,bw,aA,hu,hv,hw,ai⟩;refine Wu ?_ bw;refine Wq<|Wm z<|Rf z V_ z<|R z (l0 a_9 z<|((((aQ.e h5).e s3).e sa).c aA<|djs<|mm1 au.lt H.s).at z)<|R z (lnR a_i z<|or_ ((((((L.e h2).c H<|ds<|mnr<|a_.lt L).e h5).e s3).e sa).c aA<|ds<|mno (a_.lt L)<|lt_ h2.s H.s)<|a_.lt L)<|Rl z z z<|Wx z (λhc=>(a_7 hc).elim) (λ_=>?_)
  exact We<|λ_ q=>⟨rfl,⟨O,nb,cc,J,q.k<|s2 z z,(cM (cr [G.z] I) aA (io sr):Cg [G.z] I cC),hu,hv,(or1 hw (io sr) (B_ lr):∀k∈J,k∈[G.z]∨I.z<=k),ai⟩⟩
 .rintro ⟨xq,xl⟩ cD _ rfl ⟨O,nb,cc,J,_,cE,hu,hv,hw,ai⟩;have bx:=elL aF;revert cD;refine Wo<|Wm z<|Rm z<|Ra z<|Rw z ?_
  obtain rfl:=som<|a_O bx;have b9:=lt_ af s6.s;have ba:=lt_ (lt_ b9 h2.s) H.s;have bb:=m1 ba;exact Wr<|a_l hr z z ⟨bM (bup (bup (bup (bM (bup (bup (bM (bup hn hg) hd<|m1 hn.s) s6) h2) H<|m1 b9) h5) s3) sa) cE bb,O,nb,cc,J,z,hu,aO,hv,a_s hw bb<|lt_ (lt_ (lt_ ba h5.s) s3.s) sa.s⟩
 rintro _ _ _ _ rfl ⟨rfl,bz⟩;have bA:=elR aF;obtain rfl:=som bA;exact ⟨bz,z⟩
theorem A_w0j:∀n,m_A n
  | 0=>⟨λhm=>by intros;exact nomatch (show none=some _ from hm)⟩
  | n+1=>T_w0j<|A_w0j n
theorem W_w0j:k_v (e_C n).spec_l19Build:=A_w0j n
def Q18 (w0:World)(B:Zone)(r:(List y_)×Bool)(v:Value)(w':World):Prop:=Bw w0 w'/\un2 (λJ L=>∃G H I S1,v = .tuple #[sl G H I,vB L]/\a_ w' S1 (sl G H I) J/\S1.Nodup/\(∀k∈S1,w0.z<=k)) r
theorem W_w2u {x1:d_}{x2:Bt}{res:(List y_)×Bool}(hm:i_7 n x1 x2=some res)(I:B<=w0.z)(H:repS w0 B (sl A0 N0 C0) x1.rules)(L:repS w0 B (sl A6 N6 C6) x2):l_ prog 19 [(.agg #[sl A0 N0 C0]),sl A6 N6 C6] w0 (Q18 w0 B res):=by
 unfold i_7 at hm
 refine goG func19 z z z λfn hr=>Ws<|E z (fb z) ?_
 rintro _ wd ⟨rfl,h5⟩;have G:=h5.below;have h6:Blk wd w0.z [sl A0 N0 C0]:=h5.blk;refine Ra z<|Rw z<|Wq<|Ws<|R z (lN (vs:=[sl A0 N0 C0]) t_ r_ z z fid<|h6.row 0 1 z)<|Rm z ?_
 obtain ⟨_,ee,O⟩:=bdS hm;refine E z (fc call47 z<|W_w2t ee (zt' I G.s) (H.e G)<|L.e G) ?_;rintro _ wf ⟨s1,rfl⟩;refine R z (not_ z)<|Wx z (λJ=>?_) (λJ=>?_)
 .refine Ws<|E z (f0 (α:=y_) k_c) ?_
  rintro _ _ ⟨ah,ng,ci,rfl,sj,hk⟩;refine Ra z<|Rw z ?_
  obtain rfl:=som<|ifT O J;exact Wr<|a_l hr z z ⟨bup (bup G s1) sj,ah,ng,ci,[wf.z],z,hk,a_y,m1<|lt_ G.s s1.s⟩
 refine Wk<|Wq (Wd (X:=noX) 0 (.rd 0<|.rd 1<|.rd 3<|.ef 2<|.ef 4<|.rd 5<|.rd 6<|.rd 7<|.rd 8<|.rd 9 .done) mo (by kernel_rfl) λY s2 _=>?_)
 have V:=(h6.e s1).e s2;refine dR z z (lN (vs:=[sl A0 N0 C0]) t_ r_ z z fid<|V.row 0 1 z)<|dR z z (lN (vs:=[sl A0 N0 C0]) t_ r_ z z fid<|V.row 0 1 z)<|dM z z z ?_
 have W:=((G.ag B).e s1).e s2;have ha:=lt_ (lt_ G.s s1.s) s2.s;obtain ⟨_,el,hmm⟩:=bdS<|ifF O J;refine dE z z (fc call21 z<|f_A el (zt' I ha)<|H.g W) (.inr λ_ _ h=>p_<|h.1) ?_;rintro _ _ ⟨s4,rfl,hn⟩;have hb:=W.e s4;have hc:=lt_ ha s4.s;obtain ⟨_,_,eo,hmp⟩:=a_r hmm;refine dE z z (fc call48 z<|W_w0j.run eo (zt' I hc) (H.g hb) hn (L.g hb) (ii z)<|lb z) (.inr λ_ _ h=>p_<|h.1) ?_;rintro _ _ ⟨sq,ar,ns,ct,Su,rfl,hv,_,hw,hx⟩;refine dM z z z<|dR z z (ext_ z z)<|dR z z (ext_ z z)<|dQ z z z<|dQ z z z<|pD<|Wo<|Wm z<|Ra z<|Rw z ?_
 obtain rfl:=som hmp;exact Wr<|a_l hr z z ⟨bup (bup (bup (bup G s1) s2) s4) sq,ar,ns,ct,Su,z,hv,hw,m_ hx hc⟩
def Q19 (w0:World)(B:Zone)(r:d_×Bt×(List y_))(v:Value)(w':World):Prop:=Bw w0 w'/\un3 (λY r2 r3=>∃G H I S1 a2 J L S2 O V W S3,v = .tuple #[(.agg #[.slice G H I]),sl a2 J L,sl O V W]/\a_ w' S1 (sl G H I) Y.rules/\a_ w' S2 (sl a2 J L) r2/\a_ w' S3 (sl O V W) r3/\(S1++(S2++S3)).Nodup/\(∀k∈(S1++(S2++S3)),w0.z<=k)) r
theorem W_w2v {x1:Bt}{res:d_×Bt×(List y_)}(hm:h_q n x1=some res)(V:B<=w0.z)(aA:repS w0 B (sl A0 N0 C0) x1):l_ prog 5 [sl A0 N0 C0] w0 (Q19 w0 B res):=by
 unfold h_q at hm
 refine goG func5 z z z λfn hr=>Ws<|E z (fa g_T) ?_
 rintro _ aI ⟨rfl,a9⟩;have hh:=a9.below;have hb:Blk aI w0.z [sN]:=a9.blk;refine Ra z<|Rw z<|Wm z ?_
 have aa:=zt' V hh.s;obtain ⟨_,aJ,aB⟩:=bdS hm;refine E z (fc call14 z<|W_w2c (B:=B) aJ aa<|aA.e hh) ?_;rintro _ wi ⟨sj,gz,_,_,_,rfl,ho,Y,ab,aK,aL⟩;refine Rw z<|Wm z ?_
 have a0:∀k∈[gz],¬B k:=or0 (c_ Y)<|k_ aa;have a1:=lt_ hh.s sj.s;obtain ⟨_,_,_,aM,aC⟩:=w_ aB;refine E z (fc call15 z<|W_w2d (B:=B) aM ho (zt' V a1) (atp a0) ab aK aL) ?_;rintro _ H ⟨se,I,J,L,aN,rfl,h2,aO,aP,aQ,aR,h3⟩;refine E z (fa g_T) ?_;rintro _ aS ⟨rfl,ad⟩;have O:=ad.below;have hl:Blk aS H.z [sN]:=ad.blk;refine E0 (fs0 (cur':=[sl I J L]) r_ z z hl z z z z) ?_;rintro _ aT ⟨aU,aV⟩;have G:=aV.one;refine Wn<|Wq (Wd (X:=λk=>k∈[gz]∨aT.z<=k) 0 (pl_ 14 [11,12]) mo (by kernel_rfl) λaW s4 _=>?_)
 have hf:=aU.e s4;have hc:=mm1 (Blk.lt ho) se.s;refine dR z z (lN (vs:=[sl I J L]) t_ r_ z z (a_t (atp hc)<|Nat.lt_of_lt_of_le hl.lt G.s)<|hf.row 0 1 z)<|dR z z (fd a_3 z)<|dR z z (l1 a_8 z (a_t (atp hc)<|Nat.lt_of_lt_of_le hl.lt G.s)<|hf.at z) ?_
 have hp:=((h2.e O).c G<|ds<|mnr<|a_.lt h2).e s4;refine dR z z (lnR a_a z<|or_ hp<|zin (B:=B) h3<|a_.lt h2)<|dR z z (sb_ z z)<|dM z z z<|dR z z (lN (vs:=[sl I J L]) t_ r_ z z (a_t (atp hc)<|Nat.lt_of_lt_of_le hl.lt G.s)<|hf.row 0 1 z)<|dR z z (fd a_3 z)<|dR z z (l1 a_8 z (a_t (atp hc)<|Nat.lt_of_lt_of_le hl.lt G.s)<|hf.at z)<|dR z z (lnR a_a z<|or_ hp<|zin (B:=B) h3<|a_.lt h2)<|dR z z (sb_ z z) ?_
 have a2:=lt_ a1 se.s;have ae:=lt_ (lt_ (lt_ a2 O.s) G.s) s4.s;have af:=lt_ (lt_ O.s G.s) s4.s;obtain ⟨_,_,_,aX,aD⟩:=w_ aC;refine dE z z (fc call17 z<|W_w0f.run (B:=zn B wi.z H.z) aX (((aQ.e O).c G<|djs hc).e s4) (c_I (zt' V ae) af) (atp ((d_I a0 (c_<|Blk.lt ho) lr):∀k∈[gz],¬(zn B wi.z H.z) k)) (repS.mono (ab.g<|(((se.agc B<|b_ a0).e O).c G<|b_ (or0 (c_ lr) (k_<|zt' V a2):∀k∈[H.z],¬B k)).e s4) b_Y) aO aP (or_ hp<|zin (B:=B) h3<|a_.lt h2) (iS _ _)<|ii z) (.inr λ_ _ h=>h.1.mono λk _ hk=>(io sr) k hk) ?_;rintro _ ah ⟨sa,_,_,_,_,_,_,_,_,rfl,aY,ai,aj,_,_,_,_,ak⟩;have a3:=hp.c sa<|j_ h3 (Blk.lt ho) lr
 have hq:=lt_ ae sa.s;have ht:=lt_ af sa.s;obtain ⟨aZ,b0,aE⟩:=bdS aD;refine dE z z (fc call16 z<|W_w0d.run (B:=zn (zn B wi.z H.z) aW.z ah.z) b0 (c_I (c_I (zt' V hq) ht) lr) (repS.mono (or_ a3<|zin (B:=B) h3<|a_.lt h2)<|zns (zt b_Y<|b_Y)<|znD<|znI lr lr) (iS _ _) aY (repS.mono (or_ ai<|zin (B:=B) (al_ ak)<|a_.lt ai)<|zns (zt b_Y<|b_Y)<|znI lr lr)<|repS.mono (or_ aj<|zin (B:=B) (ar_ ak)<|a_.lt aj)<|zns (zt b_Y<|b_Y)<|znI lr lr) (.inr λ_ _ h=>p_<|h.1) ?_;rintro _ wk ⟨s1,b1,b2,b3,a4,rfl,a5,b4,hn⟩;refine dQ z z z<|pD<|Wo<|Wq<|Wm z<|R z (lnR n_ z<|or_ a5<|zin (B:=B) hn<|a_.lt a5)<|R z (a_g z z)<|Wn ?_
 obtain ⟨b5,a8,aF⟩:=bdS aE;refine Wt (λa w=>∃(a7:Bt),a7=b5/\∃ar ns cu Sg,Sat 44 [(2,pt w0.z),(6,pt H.z),(7,sl ar ns cu)] a/\Below wk.z wk w/\a_ w Sg (sl ar ns cu) a7/\Sg.Nodup/\(∀k∈Sg,k∈a4∨wk.z<=k)) ?_ ?_
 .refine Wc z (λW=>?_)<|λW=>?_
  .refine Wg<|R z (lN (vs:=[sl I J L]) t_ r_ z z fid<|((hf.c sa<|atp hc).e s1).row 0 1 z) ?_
   obtain ⟨b6,_,b7,aG⟩:=a_r<|ifT a8 W;refine E z (fc call18 z<|W_w2p (B:=zn B wi.z H.z) b7 (c_I (zt' V<|lt_ hq s1.s)<|lt_ ht s1.s)<|or_ (a3.e s1)<|zin (B:=B) h3<|a_.lt h2) ?_;rintro _ _ ⟨b8,b9,ba,bb,al,rfl,bc,be,bf⟩;refine Rm z<|Re z z z<|Re z z z<|Ra z<|Wl ?_
   exact λ_ q=>⟨b6,som aG,b9,ba,bb,al,q.k<|s3 z z z,b8,bc,be,(or0 bf (B_ lr):∀k∈al,k∈a4∨wk.z<=k)⟩
  exact a_k<|λ_ q=>⟨aZ,som<|ifF a8 W,b1,b2,b3,a4,q.k<|s3 z z z,br wk,a5,b4,io sr⟩
 rintro bg bh ⟨a7,rfl,ar,ns,cu,Sg,_,sd,hv,bi,hw⟩;revert bg;refine Wo<|Ws ?_
 have am:=((hf.c sa<|atp hc).e s1).e sd;refine R z (lN (vs:=[sl I J L]) t_ r_ z z fid<|am.row 0 1 z)<|Rm z ?_
 have an:=(a3.e s1).e sd;have ao:=lt_ hq s1.s;have ap:=lt_ ao sd.s;have aq:=lt_ ht s1.s;have au:=lt_ aq sd.s;obtain ⟨_,_,bj,aH⟩:=a_r aF;refine E z (fc call19 z<|W_w2u (B:=zn (zn B wi.z H.z) ah.z bh.z) bj (c_I (c_I (zt' V ap) au) lr) (repS.mono (or_ an<|zin (B:=B) h3<|a_.lt h2)<|zns (zt b_Y<|b_Y)<|znD<|znI lr lr)<|repS.mono (or_ hv<|zin (B:=B) (a_s hw hn s1.s)<|a_.lt hv)<|zns (zt b_Y<|b_Y)<|znI lr lr) ?_;rintro _ _ ⟨sm,bk,bm,bn,bo,rfl,bp,bq,hx⟩;refine Rm z<|Re z z z<|Re z z z<|Ra z<|Rw z<|Ws<|R z (lN (vs:=[sl I J L]) t_ r_ z z fid<|(am.e sm).row 0 1 z)<|RM z z ?_
 have av:=j_ (c_ Y) hb.lt lr;have aw:=lt_ sj.s se.s;refine E0 (fs0 (cur':=[sl I J L]) r_ z z (((((((((hb.e sj).c se<|djs av).e O).c G<|djs<|mm1 hb.lt aw).e s4).c sa<|djs av).e s1).e sd).e sm) z z z z) ?_;rintro _ _ ⟨bs,bt⟩;have hy:=bt.one;refine Ra z<|Rw z ?_
 obtain rfl:=som aH;have ax:=lt_ (lt_ (lt_ (lt_ aw O.s) G.s) s4.s) sa.s;have ay:=lt_ ax s1.s;have az:=m_ (c_ Y) hh.s;exact Wr<|I_ hr (s_ t_ r_ z bs z) z z ⟨bM (bup (bup (bup (bM (bup (bM (bup (bM (bup hh sj) se az) O) G<|m1 a2) s4) sa az) s1) sd) sm) hy<|c_ lr,I,J,L,aN,ar,ns,cu,Sg,bk,bm,bn,bo,z,(an.e sm).c hy<|j_ h3 hb.lt sj.s,(hv.e sm).c hy (or1 hw (j_ hn hb.lt ax) (U_ (c_ hb.lt) ay):∀k∈Sg,k∉[w0.z]),bp.c hy<|j_ hx hb.lt<|lt_ ay sd.s,na_ aR (na_ bi bq<|ds<|b_H hx (a_.lt hv) lr)<|nmA (ds<|o1no hw (b_H hn (a_.lt h2) ht) (a_.lt h2) aq)<|ds<|b_H hx (a_.lt h2) au,aa_ (m_ h3 a1)<|aa_ (a_s hw (m_ hn hq) ao)<|m_ hx ap⟩
def Q20 (w0:World)(B:Zone)(r:(List Str))(v:Value)(w':World):Prop:=Bw w0 w'/\(λJ=>∃G H I S1,(sl G H I)=v/\a_ w' S1 (sl G H I) J/\S1.Nodup/\(∀k∈S1,w0.z<=k)) r
theorem W_w2w {x1:Str}{x2:UInt8}{res:(List Str)}(hm:g_d x1 x2=some res)(aW:B<=w0.z)(L:x1.b.length<=LEN):l_ prog 114 [Str.v x1,vU<|byteI x2] w0 (Q20 w0 B res):=by
 unfold g_d at hm
 refine goG func114 z z z λfn hr=>Ws<|Rw z<|Ws<|E z (f0 (α:=Str) b_5) ?_
 rintro _ H ⟨aj,ak,al,rfl,sk,am⟩;refine Rw z<|Ws<|Rw z<|Wq<|Ws<|Rw z ?_
 obtain ⟨_,a3,hmr⟩:=bdS hm;refine Wf (σ:=(List Str)×Int) (ρ:=List Str) (λ(kd:Nat) s a w=>un2 (λV x5=>∃a2 I J G,Sat 35 [(0,Str.v x1),(1,vU<|byteI x2),(5,sl a2 I J),(6,vI x5),(7,vI ((kd:Nat):Int))] a/\Cg [w0.z] H w/\a_ w G (sl a2 I J) V/\G.Nodup/\(∀k∈G,k∈[w0.z]∨H.z<=k)/\inI x5) s) (λs a w=>un2 (λV x5=>∃a2 I J G,Sat 35 [(0,Str.v x1),(5,sl a2 I J),(6,vI x5)] a/\Cg [w0.z] H w/\a_ w G (sl a2 I J) V/\G.Nodup/\(∀k∈G,k∈[w0.z]∨H.z<=k)/\inI x5) s) (rQ prog fn<|Q20 w0 B) a3 ?_ ?_ ?_ ?_ ?_
 .exact λ_ q=>⟨aj,ak,al,[w0.z],q.k<|s5 z z z z z,cr [w0.z] H,am,a_y,io sr,ii z⟩
 .rintro kd ⟨V,x5⟩ _ O _ hke ⟨a2,I,J,G,a4,ss,W,Y,hb,hf⟩ a5;refine Wu ?_ a4;refine Wq<|Wm z<|Rm z<|R z (lnT d_9 z)<|Rl z z z<|Wx z (λ_=>?_) (λhc=>(a_6 hke hc).elim)
  refine Wk<|Wq<|Wb<|Wm z<|Rm z ?_
  obtain ⟨_,eu,a6⟩:=bdS<|a_O a5;refine R z (c_i d_9 z z (a_E eu).1 (a_E eu).2.1)<|Rm z<|Rq z z z<|Wn ?_
  obtain ⟨an,huv,a7⟩:=bdS a6;refine Wt (λa w=>∃(xg:List Str)(xc:Int),(xg,xc)=an/\∃ah ni cj Sa,Sat 35 [(0,Str.v x1),(1,vU<|byteI x2),(5,sl ah ni cj),(6,vI xc),(7,vI ((kd:Nat):Int))] a/\Cg G O w/\a_ w Sa (sl ah ni cj) xg/\Sa.Nodup/\(∀k∈Sa,k∈G∨O.z<=k)/\inI xc) ?_ ?_
  .refine Wc z (λhcl=>?_)<|λhcl=>?_
   .refine Wm z<|RM z z<|Rm z ?_
    obtain ⟨ao,em,a8⟩:=bdS<|ifT huv hcl;refine R z (h_0 d_9 z z z L em)<|E z (fS [(.tmp 24)] b_5 z z z (a_e z) (lb z)<|lb z) ?_
    rintro _ ww ⟨rfl,hn⟩;have ho:=hn.below;have aX:=a_J hn<|c_b<|f_w em L
    obtain ⟨ap,aq,a9⟩:=bdS a8;refine E z (a_X (α:=Str) b_5 aq z z (W.e ho) Y (hn.blk:Blk ww O.z [Str.v ao]) (c_b<|f_w em L) an_ G_) ?_;rintro _ ar ⟨Sx,au,av,aw,rfl,ax,ay,az,aA⟩;refine Rw z<|Wg<|Rm z<|R z (inc_ hke (lt_ L M_) z z)<|Ra z<|Wl ?_
    exact λ_ q=>⟨ap,((kd+1:Nat):Int),som a9,au,av,aw,Sx,q.k<|s5 z z z z z,(cM (f_ (cr G O) ho:Cg G O ww) ax (io sr):Cg G O ar),ay,az,(or2 aA (io sr) an_ (B_ ho.s):∀k∈Sx,k∈G∨O.z<=k),ic (Nat.succ_le_of_lt hke)<|lt_ L M_⟩
   exact a_k<|λ_ q=>⟨V,x5,som<|ifF huv hcl,a2,I,J,G,q.k<|s5 z z z z z,cr G O,W,Y,io sr,hf⟩
  rintro aB aC ⟨xg,xc,rfl,ah,ni,cj,Sa,_,aD,aE,aF,aG,aH⟩;revert aB;refine Wo<|Wg<|Rm z<|R z (inc_ hke (lt_ L M_) z z)<|Ra z<|Wl ?_
  have hy:∀k∈G,k∈[w0.z]∨H.z<=k:=or1 hb (io sr)<|B_ lr;exact λ_ q=>⟨(xg,xc),(som<|a_O a7).symm,⟨ah,ni,cj,Sa,q.k<|s5 z z z z z,(cM (cM (cr [w0.z] H) ss (io sr):Cg [w0.z] H O) aD hy:Cg [w0.z] H aC),aE,aF,(or1 aG hy (B_ ss.s):∀k∈Sa,k∈[w0.z]∨H.z<=k),aH⟩⟩
 .rintro ⟨V,x5⟩ _ aI ⟨a2,I,J,G,aa,aJ,W,Y,hb,hf⟩;refine Wu ?_ aa;refine Wq<|Wm z<|Rm z<|R z (lnT d_9 z)<|Rl z z z<|Wx z (λhc=>(a_7 hc).elim) (λ_=>?_)
  exact We<|λ_ q=>⟨rfl,⟨a2,I,J,G,q.k<|s3 z z z,(cM (cr [w0.z] H) aJ (io sr):Cg [w0.z] H aI),W,Y,(or1 hb (io sr) (B_ lr):∀k∈G,k∈[w0.z]∨H.z<=k),hf⟩⟩
 .rintro ⟨V,x5⟩ aK aL rfl ⟨a2,I,J,G,_,sz,W,Y,hb,hf⟩;have ab:=elL hmr;revert aK;refine Wo<|Wm z<|RM z z ?_
  obtain ⟨aM,ep,ad⟩:=bdS<|a_O ab;refine R z (h_0 d_9 z z z L ep)<|E z (fS [(.tmp 32)] b_5 z z z (a_e z) (lb z)<|lb z) ?_
  rintro _ aN ⟨rfl,hq⟩;have ht:=hq.below;have aY:=a_J hq<|c_b<|f_w ep L
  obtain ⟨_,aO,ae⟩:=bdS ad;refine E z (a_X (α:=Str) b_5 aO z z (W.e ht) Y (hq.blk:Blk aN aL.z [Str.v aM]) (c_b<|f_w ep L) an_ G_) ?_;rintro _ _ ⟨a0,aP,aQ,aR,rfl,aS,aT,aU,aV⟩;refine Rw z ?_
  obtain rfl:=som ae;have a1:∀k∈G,w0.z<=k:=or1 hb (c_ lr)<|b_o sk.s;exact Wr<|e_ hr z ⟨bM (bup (bM sk sz<|c_ lr) ht) aS a1,aP,aQ,aR,a0,z,aT,aU,(or2 aV a1 an_ (b_o<|lt_ (lt_ sk.s sz.s) ht.s):∀k∈a0,w0.z<=k)⟩
 rintro _ _ _ _ rfl ⟨rfl,af⟩;have ai:=elR hmr;obtain rfl:=som ai;exact ⟨af,z⟩
theorem k_w {x1:Str}{res:Bool}(hm:e_x n x1=some res)(ap:B<=w0.z)(ao:x1.b.length<=LEN):l_ prog 88 [Str.v x1] w0 (Q0 w0 B res):=by
 unfold e_x at hm
 refine goG func88 z z z λfn hr=>Ws<|Rw z<|Wq<|Wq ?_
 obtain ⟨a8,huo,hmp⟩:=bdS hm;refine Wt (λa w=>∃(xg:Bool),xg=a8/\Sat 43 [(0,Str.v x1),(14,vB xg)] a/\Below w0.z w0 w) ?_ ?_
 .refine Wg<|Rm z<|R z (lnT d_9 z)<|Rl z z z<|Rm z ?_
  rcases bs (decide<|(x1.b.length:Int)<1) with J | J
  .iterate 3 refine Nh z J ?_
   exact R z (pT z J z)<|Wl (λ_ q=>⟨true,som<|ifT huo J,q.k<|s2 z z,br w0⟩)
  exact Rh z J (mv z)<|Rh z J (lnT d_9 z)<|Rh z J (a_g z z)<|R z (pF z J z)<|Wl (λ_ q=>⟨decide<|12<(x1.b.length:Int),som<|ifF huo J,q.k<|s2 z z,br w0⟩)
 rintro a9 G ⟨xg,rfl,_,s9⟩;revert a9;refine Wo<|Wc z (λhch=>?_) (λhch=>?_)
 .refine Ws<|Rw z ?_
  obtain rfl:=som<|ifT hmp hch;exact Wr<|e_ hr z ⟨s9,z⟩
 refine Wk<|Wq<|Wm z<|E z (p_x d_9 z) ?_
 rintro _ I ⟨rfl,sq,aa⟩;refine Wn ?_;obtain ⟨_,a1,hmr⟩:=bdS<|ifF hmp hch;refine c_f (σ:=Nat) (ρ:=Bool) (λ(x0:Nat) a w=>Sat 43 [(16,pt G.z)] a/\Cg [G.z] I w/\b_z w G.z x1 x0) (λ(x0:Nat) a w=>Sat 43 [] a/\Cg [G.z] I w/\b_z w G.z x1 x0) (rQ prog fn<|Q0 w0 B) a1 ?_ ?_ ?_ ?_
 .exact λ_ q=>⟨q.k<|s1 z,cr [G.z] I,aa⟩
 .rintro x0 _ ws _ ⟨a2,si,he⟩ hmt;refine Wu ?_ a2;refine Ws ?_
  rcases bs (decide<|x0<x1.b.length) with hca | hca
  .refine E z (p_y z he<|of_decide_eq_true hca) ?_;rintro _ wb ⟨rfl,ab,su⟩;refine Re z z z<|Wn<|Wq<|Wc z (λ_=>?_) (λhc=>(b_M z hc).elim)
   refine Wk<|Wb<|Ws<|Re z z z<|Re z z z<|Ra z<|Rw z<|Wq ?_
   obtain ⟨ad,huv,a3⟩:=bdS<|ifT hmt hca;refine Wt (λa w=>∃(xc:Bool),xc=ad/\Sat 43 [(3,vI (x0:Int)),(4,.int .i32<|(dec x1 x0).1),(5,vB xc),(16,pt G.z)] a/\Below wb.z wb w) ?_ ?_
   .refine Wg<|Rm z<|R z (b_R z z)<|Rm z ?_
    rcases bs (decide<|97<=((dec x1 x0).1)) with L | L
    .exact Rh z L (mv z)<|Rh z L (c_5 z z)<|R z (pT z L z)<|Ra z<|Wl (λ_ q=>⟨decide<|((dec x1 x0).1)<=122,som<|ifT huv L,q.k<|s4 z z z z,br wb⟩)
    exact Nh z L<|Nh z L<|R z (pF z L z)<|Ra z<|Wl (λ_ q=>⟨false,som<|ifF huv L,q.k<|s4 z z z z,br wb⟩)
   rintro ae wd ⟨xc,rfl,_,sj⟩;revert ae;refine Wo<|Wq ?_
   obtain ⟨af,huw,a4⟩:=bdS a3;refine Wt (λa w=>∃(xf:Bool),xf=af/\Sat 43 [(3,vI (x0:Int)),(5,vB xc),(6,vB xf),(16,pt G.z)] a/\Below wd.z wd w) ?_ ?_
   .refine Wg<|Rm z<|R z (b_R z z)<|Rm z ?_
    rcases bs (decide<|48<=((dec x1 x0).1)) with O | O
    .exact Rh z O (mv z)<|Rh z O (c_5 z z)<|R z (pT z O z)<|Ra z<|Wl (λ_ q=>⟨decide<|((dec x1 x0).1)<=57,som<|ifT huw O,q.k<|s4 z z z z,br wd⟩)
    exact Nh z O<|Nh z O<|R z (pF z O z)<|Ra z<|Wl (λ_ q=>⟨false,som<|ifF huw O,q.k<|s4 z z z z,br wd⟩)
   rintro ah W ⟨xf,rfl,_,sk⟩;revert ah;refine Wo<|Wq ?_
   obtain ⟨ai,hux,hmy⟩:=bdS a4;refine Wt (λa w=>∃(xl:Bool),xl=ai/\Sat 43 [(16,pt G.z),(42,vB xl)] a/\Below W.z W w) ?_ ?_
   .refine Wg<|Rm z<|R z (not_ z)<|Rm z ?_
    rcases bs (!xc) with H | H
    .have hmz:=ifT hux H;refine Rh z H (mv z)<|Rh z H (not_ z)<|Rh z H (mv z) ?_
     rcases bs (!xf) with V | V
     .exact Nh z V<|Nh z V<|Rh z H (pT z V z)<|R z (pT z H z)<|Wl (λ_ q=>⟨true,som<|ifT hmz V,q.k<|s2 z z,br W⟩)
     exact Rh z V (mv z)<|Rh z V (eql z z)<|Rh z H (pF z V z)<|R z (pT z H z)<|Wl (λ_ q=>⟨(x0:Int)==0,som<|ifF hmz V,q.k<|s2 z z,br W⟩)
    iterate 3 refine Nh z H ?_
    exact Nv z<|Nv z<|Nh z H<|R z (pF z H z)<|Wl (λ_ q=>⟨false,som<|ifF hux H,q.k<|s2 z z,br W⟩)
   rintro aj ak ⟨xl,rfl,_,sm⟩;revert aj;refine Wo<|Wc z (λhcn=>?_) (λhcn=>?_)
   .refine Ws<|Rw z ?_
    have Y:=m1 s9.s;exact Wr<|rtO<|qL (som<|ifT hmy hcn).symm<|e_ hr z ⟨bup (bup (bup (bM (bM (bup s9 sq) si Y) su Y) sj) sk) sm,z⟩
   refine a_k ?_;exact λ_ q=>⟨x0+(dec x1 x0).2,(som<|ifF hmy hcn).symm,⟨q.k<|s1 z,(f_ (f_ (f_ (cM (cM (cr [G.z] I) si (io sr):Cg [G.z] I ws) su (io sr):Cg [G.z] I wb) sj:Cg [G.z] I wd) sk:Cg [G.z] I W) sm:Cg [G.z] I ak),((ab.e sj).e sk).e sm⟩⟩
  refine E z (p_z z he<|of_decide_eq_false hca) ?_;rintro _ al ⟨rfl,a0⟩;refine Re z z z<|Wn<|Wq<|Wc z (λhc=>(b_M hc z).elim) (λ_=>?_)
  exact We<|λ_ q=>b_N (som<|ifF hmt hca).symm ⟨q.k sn,(f_ (cM (cr [G.z] I) si (io sr):Cg [G.z] I ws) a0:Cg [G.z] I al),he.e a0⟩
 .rintro x0 am _ rfl ⟨_,an,he⟩;have a5:=elL hmr;revert am;refine Wo<|Ws<|Rw z ?_
  obtain rfl:=som a5;exact Wr<|e_ hr z ⟨bM (bup s9 sq) an<|m1 s9.s,z⟩
 rintro _ _ _ _ rfl ⟨rfl,a6⟩;have a7:=elR hmr;obtain rfl:=som a7;exact ⟨a6,z⟩
def Q21 (w0:World)(B:Zone)(r:Int×Bool)(v:Value)(w':World):Prop:=Bw w0 w'/\un2 (λG H=>v = .tuple #[vI G,vB H]/\inI G) r
theorem W_w1n {x1:Str}{res:Int×Bool}(hm:g_e x1=some res)(af:B<=w0.z)(Y:x1.b.length<=LEN):l_ prog 89 [Str.v x1] w0 (Q21 w0 B res):=by
 unfold g_e at hm
 refine goG func89 z z z λfn hr=>Ws<|Ra z<|Rw z<|Wq<|Wq ?_
 obtain ⟨uv,huf,hmg⟩:=bdS hm;refine Wt (λa w=>∃(W:Bool),W=uv/\Sat 50 [(0,Str.v x1),(22,vB W)] a/\Below w0.z w0 w) ?_ ?_
 .refine Wg<|Rm z<|R z (b_C z z)<|Rm z ?_
  rcases bs (x1.b==(⟨[]⟩:Str).b) with I | I
  .iterate 3 refine Nh z I ?_
   exact R z (pT z I z)<|Rm z<|Nh z z<|Nh z z<|Nh z z<|Nh z z<|Nv z<|Nv z<|Nv z<|Nh z z<|R z (pT z z z)<|Wl (λ_ q=>⟨true,som<|ifT huf I,q.k<|s2 z z,br w0⟩)
  have hmh:=ifF huf I;refine Rh z I (mv z)<|Rh z I (lnT d_9 z)<|Rh z I (a_g z z)<|R z (pF z I z)<|Rm z ?_
  rcases bs (decide<|13<(x1.b.length:Int)) with G | G
  .iterate 4 refine Nh z G ?_
   exact Nv z<|Nv z<|Nv z<|Nh z G<|R z (pT z G z)<|Wl (λ_ q=>⟨true,som<|ifT hmh G,q.k<|s2 z z,br w0⟩)
  refine Rh z G (mv z) ?_;obtain ⟨xw,ei,hmj⟩:=bdS<|ifF hmh G;refine Rh z G (c_i d_9 z z (a_E ei).1 (a_E ei).2.1)<|Rh z G (eql z z)<|Rh z G (mv z) ?_
  rcases bs ((byteI xw)==(byteI (48:UInt8))) with J | J
  .exact Rh z J (mv z)<|Rh z J (lnT d_9 z)<|Rh z J (a_g z z)<|Rh z G (pT z J z)<|R z (pF z G z)<|Wl (λ_ q=>⟨decide<|1<(x1.b.length:Int),som<|ifT hmj J,q.k<|s2 z z,br w0⟩)
  iterate 3 refine Nh z J ?_
  exact Rh z G (pF z J z)<|R z (pF z G z)<|Wl (λ_ q=>⟨false,som<|ifF hmj J,q.k<|s2 z z,br w0⟩)
 rintro ax L ⟨W,rfl,_,s6⟩;revert ax;refine Wo<|Wc z (λhca=>?_) (λhca=>?_)
 .refine Ws<|Ra z<|Rw z ?_
  obtain rfl:=som<|ifT hmg hca;exact Wr<|a_l hr z z ⟨s6,z,ii z⟩
 refine Wk<|Ws<|Rw z<|Wq<|Ws<|Rw z ?_
 obtain ⟨_,huy,hmk⟩:=bdS<|ifF hmg hca;refine Wf (σ:=Int) (ρ:=Int×Bool) (λ(kb:Nat)(x2:Int) a w=>Sat 50 [(0,Str.v x1),(4,vI x2),(5,vI ((kb:Nat):Int))] a/\Below L.z L w/\inI x2) (λ(x2:Int) a w=>Sat 50 [(4,vI x2)] a/\Below L.z L w/\inI x2) (rQ prog fn<|Q21 w0 B) huy ?_ ?_ ?_ ?_ ?_
 .exact λ_ q=>⟨q.k<|s3 z z z,br L,ii z⟩
 .rintro kb x2 _ O _ hkl ⟨hSz,sm,V⟩ a0;refine Wu ?_ hSz;refine Wq<|Wm z<|Rm z<|R z (lnT d_9 z)<|Rl z z z<|Wx z (λ_=>?_) (λhc=>(a_6 hkl hc).elim)
  refine Wk<|Wq<|Wb<|Wq<|Wq ?_
  obtain ⟨a7,a1,hmn⟩:=bdS a0;refine Wt (λa w=>∃(xc:Bool),xc=a7/\Sat 50 [(0,Str.v x1),(4,vI x2),(5,vI ((kb:Nat):Int)),(38,vB xc)] a/\Below O.z O w) ?_ ?_
  .refine Wg<|RM z z ?_
   obtain ⟨a8,eo,hmp⟩:=bdS a1;refine R z (c_i d_9 z z (a_E eo).1 (a_E eo).2.1)<|Rl z z z<|Rm z ?_
   rcases bs (decide<|(byteI a8)<(byteI (48:UInt8))) with H | H
   .iterate 4 refine Nh z H ?_
    exact R z (pT z H z)<|Wl (λ_ q=>⟨true,som<|ifT hmp H,q.k<|s4 z z z z,br O⟩)
   refine Rh z H (mv z)<|Rh z H (mv z) ?_
   obtain ⟨a9,eq,a2⟩:=bdS<|ifF hmp H;exact Rh z H (c_i d_9 z z (a_E eq).1 (a_E eq).2.1)<|Rh z H (a_g z z)<|R z (pF z H z)<|Wl (λ_ q=>⟨decide<|(byteI (57:UInt8))<(byteI a9),som a2,q.k<|s4 z z z z,br O⟩)
  rintro aa _ ⟨xc,rfl,_,sr⟩;revert aa;refine Wo<|Wc z (λhcd=>?_) (λhcd=>?_)
  .exact Ws<|Ra z<|Rw z<|Wr<|rtO<|qL (som<|ifT hmn hcd).symm<|a_l hr z z ⟨bup (bup s6 sm) sr,z,ii z⟩
  refine Wk<|Wg<|Rm z<|R z (c_K z z)<|RM z z ?_
  obtain ⟨ab,es,a3⟩:=bdS<|ifF hmn hcd;exact R z (c_i d_9 z z (a_E es).1 (a_E es).2.1)<|R z (m_g z z)<|R z (b_W d_5 d_3 z)<|R z (add_ z z)<|Rw z<|Wg<|Rm z<|R z (inc_ hkl (lt_ Y M_) z z)<|Ra z<|Wl (λ_ q=>⟨i_ (a_f 10 x2)<|byteI<|mkB (byteI ab - byteI (48:UInt8)),(som a3).symm,⟨q.k<|s3 z z z,bup sm sr,iA _ _⟩⟩)
 .rintro x2 _ _ ⟨a4,ad,V⟩;refine Wu ?_ a4;refine Wq<|Wm z<|Rm z<|R z (lnT d_9 z)<|Rl z z z<|Wx z (λhc=>(a_7 hc).elim) (λ_=>?_)
  exact We<|λ_ q=>⟨rfl,⟨q.k<|s1 z,ad,V⟩⟩
 .rintro x2 ae _ rfl ⟨_,st,V⟩;have hmu:=elL hmk;revert ae;refine Wo<|Wq<|Wm z<|R z (a_g z z)<|Wx z (λhce=>?_) (λhce=>?_)
  .refine Ws<|Ra z<|Rw z ?_
   obtain rfl:=som<|ifT hmu hce;exact Wr<|a_l hr z z ⟨bup s6 st,z,ii z⟩
  refine Wk<|Wm z<|Ra z<|Rw z ?_
  obtain rfl:=som<|ifF hmu hce;exact Wr<|a_l hr z z ⟨bup s6 st,z,V⟩
 rintro _ _ _ _ rfl ⟨rfl,a5⟩;have a6:=elR hmk;obtain rfl:=som a6;exact ⟨a5,z⟩
theorem W_w2x {x1:Str}{res:Bool}(hm:f_b n x1=some res)(O:B<=w0.z)(L:x1.b.length<=LEN):l_ prog 53 [Str.v x1] w0 (Q0 w0 B res):=by
 unfold f_b at hm
 refine goG func53 z z z λfn hr=>Ws<|Rw z<|Wq<|Wq ?_
 obtain ⟨ub,huc,V⟩:=bdS hm;refine Wt (λa w=>∃(x4:Bool),x4=ub/\Sat 25 [(0,Str.v x1),(18,vB x4)] a/\Below w0.z w0 w) ?_ ?_
 .refine Wg<|Rm z ?_
  obtain ⟨rd,ee,W⟩:=bdS huc;refine E z (fc call88 z<|k_w (B:=B) ee O L) ?_;rintro _ _ ⟨s3,rfl⟩;refine Rm z ?_
  rcases bs rd with G | G
  .exact Nh z G<|Nh z G<|R z (pT z G z)<|Rm z<|Nh z z<|Nh z z<|R z (pT z z z)<|Rm z<|Nh z z<|Nh z z<|R z (pT z z z)<|Wl (λ_ q=>⟨true,som<|ifT W G,q.k<|s2 z z,s3⟩)
  have Y:=ifF W G;refine Rh z G (mv z)<|Rh z G (b_C z z)<|R z (pF z G z)<|Rm z ?_
  rcases bs (x1.b==(⟨[42]⟩:Str).b) with H | H
  .exact Nh z H<|Nh z H<|R z (pT z H z)<|Rm z<|Nh z z<|Nh z z<|R z (pT z z z)<|Wl (λ_ q=>⟨true,som<|ifT Y H,q.k<|s2 z z,s3⟩)
  have hma:=ifF Y H;refine Rh z H (mv z)<|Rh z H (b_C z z)<|R z (pF z H z)<|Rm z ?_
  rcases bs (x1.b==(⟨[63]⟩:Str).b) with I | I
  .exact Nh z I<|Nh z I<|R z (pT z I z)<|Wl (λ_ q=>⟨true,som<|ifT hma I,q.k<|s2 z z,s3⟩)
  exact Rh z I (mv z)<|Rh z I (b_C z z)<|R z (pF z I z)<|Wl (λ_ q=>⟨x1.b==(⟨[43]⟩:Str).b,som<|ifF hma I,q.k<|s2 z z,s3⟩)
 rintro af _ ⟨x4,rfl,_,s5⟩;revert af;refine Wo<|Wc z (λJ=>?_) (λJ=>?_)
 .refine Ws<|Rw z ?_
  obtain rfl:=som<|ifT V J;exact Wr<|e_ hr z ⟨s5,z⟩
 refine Wk<|Wm z ?_
 obtain ⟨_,_,eg,hmh⟩:=a_r<|ifF V J;refine E z (fc call89 z<|W_w1n eg (zt' O s5.s) L) ?_;rintro _ _ ⟨si,rfl,_⟩;refine Rm z<|Re z z z<|Re z z z<|Ra z<|Rw z<|Wm z<|Rw z ?_
 obtain rfl:=som hmh;exact Wr<|e_ hr z ⟨bup s5 si,z⟩
def Q22 (w0:World)(B:Zone)(r:(List Str)×Bool)(v:Value)(w':World):Prop:=Bw w0 w'/\un2 (λJ L=>∃(G:Option Addr)(H I:Nat)(S1:List Nat),v = .tuple #[(sl G H I),(vB L)]/\a_ w' S1 (sl G H I) J/\S1.Nodup/\(∀k∈S1,w0.heap.size<=k)) r
theorem q_J {w:World}{gp b:Nat}{s:Str}{l0 parts:List Str}(hs:s.b.length<=LEN)(hm:g_d s (47:UInt8)=some l0)(hsl:slc l0 1 (l0.length:Int)=some parts)(hp:Blk w gp [Str.v s])(hb:b<w.heap.size)(hrow:∀g,d_8 w b g->g<w.heap.size) :
    SeqStopsK (α:={x:Str // x∈parts/\x.b.length<=LEN}) Fence.wide 1 Tryz.prog 113 [pt gp].toArray (λx=>#[x.1.v]) (KpS b) (λxs=>xs.map (·.1)=parts) (λ_=>True) parts.length w:=by
  intro l J Jx W hW hJ hJx hY h0;have hpW:=hp.ext hW
  have hrowW:∀g,d_8 W b g->g<W.heap.size:=λg ⟨n,c,h⟩=>by
    have h':w.cell? ⟨b,0,none⟩=some (sl (some ⟨g,0,none⟩) n c):=(World.cell?_of_block (w:=w) (w':=W) (a:=⟨b,0,none⟩)<|hW.block b hb).symm.trans h;exact Nat.lt_of_lt_of_le (hrow g ⟨n,c,h'⟩) hW.size
  have hbW:=Nat.lt_of_lt_of_le hb hW.size
  have hc:l_ Tryz.prog 113 [.func (.yield l) #[] #[],pt gp] W (λ_ W'=>(∃xs:List {x:Str // x∈parts/\x.b.length<=LEN},xs.map (·.1)=parts/\J xs W')∨(∃pre,True/\Jx pre W')):=by
    obtain ⟨fn,hf,hbd,hN,hr⟩:=fnE Tryz.func113;refine k_X hf (hbd.trans rfl) (hN.trans rfl) (Nat.le_of_ble_eq_true rfl) ?_;refine b_g<|b_J ?_;refine R rfl (c_J g_9 rfl (λh=>h)<|hpW.at rfl) ?_;refine E rfl (f_o Tryz.call114 rfl<|W_w2w (B:=W.heap.size) hm zr hs) ?_;rintro _ W1 ⟨s1,a1,n1,c1,S1,rfl,ho,nd,hge⟩;refine RX rfl (t_7 a_n z_9 rfl ho rfl rfl hsl) ?_;intro v7 hv7;obtain ⟨ao7,c7,rfl,_⟩:=id hv7;refine R rfl (g_N a_n rfl<|hv7.repS (B:=W1.heap.size)<|λk hk=>ho.lt k hk) ?_;refine R rfl (c_h rfl) ?_;refine b_h<|WC.of_KC ?_;have hJ1:J [] W1:=hJ [] W W1 none h0 (Below.grows s1) (λr h=>by cases h);have hb1:b∉S1:=λh=>absurd (hge b h)<|Nat.not_le.2 hbW
    have hr1:∀g,d_8 W1 b g->g∉S1:=λg ⟨n,c,h⟩ hg=>by
      have h':W.cell? ⟨b,0,none⟩=some (sl (some ⟨g,0,none⟩) n c):=(World.cell?_of_block (w:=W) (w':=W1) (a:=⟨b,0,none⟩)<|s1.block b hbW).symm.trans h;exact absurd (hge g hg)<|Nat.not_le.2<|hrowW g ⟨n,c,h'⟩
    have hlenL:parts.length<=9223372036854775807:=Nat.le_trans (by obtain ⟨_,_,_,_,h,_⟩:=hv7;exact h) M_;refine e_9 λa ha=>?_
    refine Code.wp_mono (Q:=Exit.then noK<|λex a w=>(ex = .exit 0/\c_m Tryz.prog fn (λ_ W'=>(∃xs:List {x:Str // x∈parts/\x.b.length<=LEN},xs.map (·.1)=parts/\J xs W')∨(∃pre,True/\Jx pre W')) a w)∨(ex = .ret/\c_m Tryz.prog fn (λ_ W'=>(∃xs:List {x:Str // x∈parts/\x.b.length<=LEN},xs.map (·.1)=parts/\J xs W')∨(∃pre,True/\Jx pre W')) a w)) (λex a' w' q=>?_)<|wp_loop_ghost (λm a w=>∃(k:Nat)(pre:List {x:Str // x∈parts/\x.b.length<=LEN}),k+m=parts.length/\pre.map (·.1)=parts.take k/\Sat 18 [(9,vI (k:Int)),(8,vI (parts.length:Int)),(7,sl ao7 parts.length c7),(0,.func (.yield l) #[] #[])] a/\J pre w/\a_ w S1 (sl a1 n1 c1) l0/\(∀g,d_8 w b g->g∉S1)/\e_2 w (· ∈ S1) (sl ao7 parts.length c7) parts) parts.length ?_ ?_
    . cases ex with
      | normal=>exact (show False from q).elim
      | exit i =>
        rcases q with ⟨h,q⟩ | ⟨h,_⟩
        . cases h;exact q
        . cases h
      | ret =>
        rcases q with ⟨h,_⟩ | ⟨_,q⟩
        . cases h
        . exact q
      | _=>rcases q with ⟨h,_⟩ | ⟨h,_⟩ <;> cases h
    . exact ⟨0,[],by omega,by simp,ha.weaken<|sc rfl<|sc rfl<|sc rfl<|sc rfl sn,hJ1,ho,hr1,hv7⟩
    . rintro m a w ⟨k,pre,hkm,hpre,hsat,hJw,how,hrw,hvw⟩
      refine g_Z (N:=18) (e:=[(9,vI (k:Int)),(8,vI (parts.length:Int)),(7,sl ao7 parts.length c7),(0,.func (.yield l) #[] #[])]) ?_ hsat;refine b_g<|b_J<|R rfl (f_F rfl rfl)<|b_h<|WC.of_KC ?_;refine b_g<|d_e rfl (λhc=>?_)<|λhc=>?_
      . have hk:k<parts.length:=by simpa using hc
        obtain ⟨m,rfl⟩:∃m',m=m'+1:=⟨m - 1,by omega⟩;refine a_k<|WC.of_KC ?_;refine b_g<|e_9 ?_;refine b_g<|b_J ?_;have hrep:=hvw.repS (B:=w.heap.size)<|λk hk=>how.lt k hk;have hidx:idx parts (k:Int)=some parts[k]:=by rw [m_f];simp [hk]
        refine RX rfl (g_O (α:=Str) a_n z_9 rfl rfl rfl hrep hidx) ?_;rintro _ ⟨bb,oo,cs,rfl,hc1,hrr,hlt⟩;obtain ⟨rfl,hxl⟩:=b_K hrr;refine R rfl (c_J g_9 rfl (λh=>h)<|hc1.at0 rfl) ?_;refine R rfl (d_Q rfl) ?_;refine b_h<|WC.of_KC ?_;refine b_g<|t_0 ?_;refine j_L rfl (c_h rfl) ?_;refine j_L rfl (c_h rfl) ?_
        have hpl:pre.length=k:=by
          have:=congrArg List.length hpre
          simp at this;omega
        refine t_1 (S:=λv w'=>(v=vB true/\J (pre++[⟨parts[k],List.getElem_mem hk,hxl⟩]) w'/\KpS b w w')∨(v=vB false/\Jx (pre++[⟨parts[k],List.getElem_mem hk,hxl⟩]) w')) rfl rfl rfl (hY pre ⟨parts[k],List.getElem_mem hk,hxl⟩ w hJw (by omega)) (λe w' h=>?_) ?_
        . rcases h with ⟨rfl,h⟩ | ⟨rfl,h⟩
          . exact ⟨_,rfl,.inl ⟨rfl,h⟩⟩
          . exact ⟨_,rfl,.inr ⟨rfl,h⟩⟩
        rintro v w' (⟨rfl,hJ',hK⟩ | ⟨rfl,hX⟩)
        . refine j_L rfl (e_Y rfl) ?_
          refine o_t<|WC.of_KC ?_;refine d_e rfl (λh=>by cases h)<|λ_=>?_;refine a_k<|WC.of_KC ?_;refine b_J<|R rfl (g_J hk hlenL rfl rfl)<|R rfl (c_h rfl) ?_;obtain ⟨ho',hr'⟩:=hK.own how hb1 hrw
          have hv':e_2 w' (· ∈ S1) (sl ao7 parts.length c7) parts:=hvw.stay λg hg=>hK.chg.block g (how.lt g hg) λhm=>by
            rcases hm with rfl | hm | ⟨o,ho2,hcl⟩
            . exact hb1 hg
            . exact hrw g hm hg
            . obtain ⟨cur,hB⟩:=f_Z how g hg
              rw [hB.isCells ho2] at hcl;cases hcl
          refine b_h λa' ha'=>⟨m,Nat.lt_succ_self _,k+1,pre++[⟨parts[k],List.getElem_mem hk,hxl⟩],by omega,?_,ha'.weaken<|sc rfl<|sc rfl<|sc rfl<|sc rfl sn,hJ',ho',hr',hv'⟩
          rw [List.map_append,hpre,List.take_add_one,List.getElem?_eq_getElem hk];rfl
        . refine j_L rfl (e_Y rfl) ?_
          refine o_t<|WC.of_KC ?_;refine d_e rfl (λ_=>?_) (λh=>by cases h);exact e_8<|rtO λa' ha'=>.inr ⟨rfl,ret0 hr (.inr ⟨_,trivial,hX⟩) a' ha'⟩
      . have hk:¬k<parts.length:=by simpa using hc
        have:k=parts.length:=by omega
        subst this;refine g_v λa' ha'=>.inl ⟨rfl,ret0 hr (.inl ⟨pre,?_,hJw⟩) a' ha'⟩
        rw [hpre,List.take_length]
  refine callsIn_wide.2<|hc.run.mono λe w' ⟨v,he,h⟩=>⟨⟨v,he⟩,h⟩
theorem m_B {w0 W W':World}{row:Option Nat}(h:Below w0.heap.size w0 W)(hg:W.grownBy W' row)(hr:∀r,row=some r->w0.heap.size<=r):Below w0.heap.size w0 W':=e_g h (l_O hg) λk hk e=>absurd (hr k e)<|Nat.not_le.2 hk
def q_K (w0:World)(s:Str)(v:Value)(w':World):Prop:=v = .func (.func 113) #[] #[pt w0.heap.size]/\Blk w' w0.heap.size [Str.v s]/\Bw w0 w'
theorem q_L {w0:World}{s:Str}:l_ Tryz.prog 87 [Str.v s] w0 (q_K w0 s):=by
  obtain ⟨_,hf,hb,hN,hr⟩:=fnE Tryz.func87;refine k_X hf (hb.trans rfl) (hN.trans rfl) (Nat.le_of_ble_eq_true rfl) ?_;refine b_g<|b_J ?_;refine E rfl (f_n rfl) ?_;rintro _ G ⟨rfl,h1⟩;refine R rfl (d_Q rfl) ?_;refine b_h<|WC.of_KC ?_;refine b_g<|b_J ?_;refine R rfl (k_2 rfl) ?_;refine R rfl (d_Q rfl) ?_;refine b_h<|WC.of_KC ?_;exact e_8<|e_ hr rfl ⟨rfl,(h1.blk:Blk G w0.heap.size [Str.v s]),h1.below⟩
theorem W_w2y {n:Nat}{B:Zone}{x1:Str}{res:(List Str)×Bool}{w0:World}(hm:j_O n x1=some res)(hBw:B<=w0.heap.size)(p1_0:x1.b.length<=LEN):l_ Tryz.prog 52 [(Str.v x1),.func (.func 53) #[] #[]] w0 (Q22 w0 B res):=by
  unfold j_O at hm
  obtain ⟨fn,hf,hb,hN,hr⟩:=fnE Tryz.func52;refine t_4 hf (hb.trans rfl) (hN.trans rfl) (Nat.le_of_ble_eq_true rfl) ?_
  -- the cells
  refine b_g<|b_J ?_;refine E rfl (f_n rfl) ?_;rintro _ w1 ⟨rfl,h1⟩;have b3:Blk w1 w0.heap.size [.func (.func 53) #[] #[]]:=h1.blk;refine E rfl (e_K m_v) ?_;rintro _ w2 ⟨rfl,h2⟩;have b4:Blk w2 w1.heap.size [.slice none 0 0]:=h2.blk;refine E rfl (e_K zero_4) ?_;rintro _ w3 ⟨rfl,h3⟩;have b5:Blk w3 w2.heap.size [vB false]:=h3.blk;refine b_h<|WC.of_KC ?_;refine b_g<|b_J ?_;refine E rfl (f_v (α:=Str) b_5) ?_;rintro _ w4 ⟨a,m,c,rfl,s4,ho4⟩;refine E rfl (e_K m_v) ?_;rintro _ w5 ⟨rfl,h5⟩;have b6:Blk w5 w4.heap.size [.slice none 0 0]:=h5.blk;refine E0 (c_3 (cur':=[.slice a m c]) e_R rfl rfl b6 rfl (Nat.le_of_ble_eq_true rfl) (c_c rfl) rfl) ?_;rintro _ w6 ⟨c6,s6⟩;have t6:=s6.one;refine b_h<|WC.of_KC ?_
  -- what is known behind
  have g1:=h1.below;have g2:=h2.below;have g3:=h3.below;have g5:=h5.below;have z1:=h1.size;have z2:=h2.size;have z3:=h3.size;have z5:=h5.size;have z4:=s4.size;have z6:=s6.size
  have hz:w0.heap.size<w1.heap.size/\w1.heap.size<w2.heap.size/\w2.heap.size<w3.heap.size/\w3.heap.size<w4.heap.size/\w4.heap.size<w6.heap.size:=by
    have:=ho4.lt _ List.mem_cons_self
    omega
  have k3:Blk w6 w0.heap.size [.func (.func 53) #[] #[]]:=((((b3.ext g2).ext g3).ext s4).ext g5).chg s6 (by omega);have k4:Blk w6 w1.heap.size [.slice none 0 0]:=(((b4.ext g3).ext s4).ext g5).chg s6 (by omega);have k5:Blk w6 w2.heap.size [vB false]:=((b5.ext s4).ext g5).chg s6 (by omega);have kS:a_ w6 [w3.heap.size] (sl a m c) ([]:List Str):=(ho4.ext g5).chg s6 (λk hk=>by have:=List.mem_singleton.1 hk;omega);have kB:Below w0.heap.size w0 w6:=d_G (bup (bup (bup (bup g1 g2) g3) s4) g5) t6 (λk hk=>by have:=List.mem_singleton.1 hk;omega)
  clear b3 b4 b5 b6 ho4 h1 h2 h3 h5 s4 s6 t6 g1 g2 g3 g5 z1 z2 z3 z4 z5 z6
  -- the first look
  refine b_g<|b_g<|b_J ?_;refine R rfl (c_h rfl) ?_;refine R rfl (b_C rfl rfl) ?_;refine b_h<|WC.of_KC ?_;refine d_e rfl (λhc=>?_)<|λhc=>?_
  . obtain rfl:=som (ifT hm hc)
    refine b_g<|b_J ?_;refine R rfl (c_J b_i rfl (λh=>h)<|c6.at rfl) ?_;refine E0 (c_3 (cur':=[.slice a m c]) e_R rfl rfl k4 rfl (Nat.le_of_ble_eq_true rfl) (c_c rfl) rfl) ?_;rintro _ w7 ⟨c7,s7⟩;refine E0 (c_3 (cur':=[vB true]) z_4 rfl rfl (k5.chg s7 (by omega)) rfl (Nat.le_of_ble_eq_true rfl) (c_c rfl) rfl) ?_;rintro _ w8 ⟨c8,s8⟩;refine b_h<|WC.of_KC ?_;refine e_8 λa' ha'=>retM<|a_l hr (e_h (n:=1) b_i rfl<|c7.chg s8 (by omega)) (e_h (n:=1) g_4 rfl c8) ⟨d_G (d_G kB s7.one (λk hk=>by have:=List.mem_singleton.1 hk;omega)) s8.one (λk hk=>by have:=List.mem_singleton.1 hk;omega),?_⟩ a' ha'
    exact ⟨a,m,c,_,rfl,(kS.chg s7 (λk hk=>by have:=List.mem_singleton.1 hk;omega)).chg s8 (λk hk=>by have:=List.mem_singleton.1 hk;omega),(by simp),λk hk=>by have:=List.mem_singleton.1 hk;omega⟩
  replace hm:=ifF hm hc;refine a_k<|WC.of_KC ?_
  -- the first byte
  refine b_g<|b_g<|b_J ?_;refine R rfl (c_h rfl) ?_;obtain ⟨x13,e13,hm⟩:=bdS hm;refine R rfl (c_i d_9 rfl rfl (a_E e13).1 (a_E e13).2.1) ?_;refine R rfl (h_6 rfl rfl) ?_;refine b_h<|WC.of_KC ?_;refine d_e rfl (λhc=>?_)<|λhc=>?_
  . obtain rfl:=som (ifT hm hc)
    refine b_g<|b_J ?_;refine R rfl (c_J b_i rfl (λh=>h)<|c6.at rfl) ?_;refine E0 (c_3 (cur':=[.slice a m c]) e_R rfl rfl k4 rfl (Nat.le_of_ble_eq_true rfl) (c_c rfl) rfl) ?_;rintro _ w7 ⟨c7,s7⟩;refine E0 (c_3 (cur':=[vB false]) z_4 rfl rfl (k5.chg s7 (by omega)) rfl (Nat.le_of_ble_eq_true rfl) (c_c rfl) rfl) ?_;rintro _ w8 ⟨c8,s8⟩;refine b_h<|WC.of_KC ?_;refine e_8 λa' ha'=>retM<|a_l hr (e_h (n:=1) b_i rfl<|c7.chg s8 (by omega)) (e_h (n:=1) g_4 rfl c8) ⟨d_G (d_G kB s7.one (λk hk=>by have:=List.mem_singleton.1 hk;omega)) s8.one (λk hk=>by have:=List.mem_singleton.1 hk;omega),?_⟩ a' ha'
    exact ⟨a,m,c,_,rfl,(kS.chg s7 (λk hk=>by have:=List.mem_singleton.1 hk;omega)).chg s8 (λk hk=>by have:=List.mem_singleton.1 hk;omega),(by simp),λk hk=>by have:=List.mem_singleton.1 hk;omega⟩
  replace hm:=ifF hm hc;refine a_k<|WC.of_KC ?_;obtain ⟨l0,hsp,hm⟩:=bdS hm;obtain ⟨parts,hsl,hm⟩:=bdS hm;obtain ⟨oks,hok,hm⟩:=bdS hm
  split at hm
  case isFalse=>cases hm
  rename_i hlim
  obtain rfl:=som hm;obtain ⟨hacc,hall⟩:=o_z hok
  -- the loop
  refine b_g<|b_g<|b_J ?_;refine R rfl (c_h rfl) ?_;refine E rfl (f_o Tryz.call87 rfl q_L) ?_;rintro _ w7 ⟨rfl,bp,s7⟩;refine b_h<|WC.of_KC ?_;replace k3:=k3.ext s7;replace k4:=k4.ext s7;replace k5:=k5.ext s7;replace c6:=c6.ext s7;replace kS:=kS.ext s7;replace kB:=bup kB<|s7.mono<|Nat.le_refl _;have z7:=s7.size
  have hrow:∀g,d_8 w7 w4.heap.size g->g<w7.heap.size:=λg hg=>by
    have h1:=o_w c6 hg;exact kS.lt _<|(j_M kS).2 g 0 none h1
  generalize w1.heap.size=q4 at *
  generalize w2.heap.size=q5 at *
  generalize w4.heap.size=q6 at *
  refine t_5 (α:={x:Str // x∈parts/\x.b.length<=LEN}) (f:=λx=>x.1) (gf:=113) (lb:=[pt w6.heap.size]) (b:=q6) (M:=parts.length) (S:=λxs=>xs.map (·.1)=parts) (Sp:=λ_=>True) rfl Tryz.call113 rfl rfl (by omega)
    (q_J p1_0 hsp hsl bp (by omega) hrow)
    (λpre W=>(∀x∈pre,(f_b n x.1).getD false=true)/\(∃(a:Option Addr)(m c:Nat)(S:List Nat),Blk W q6 [.slice a m c]/\a_ W S (sl a m c) (pre.map (·.1))/\S.Nodup/\(∀k∈S,q5<k/\k ≠ q6))/\Blk W w0.heap.size [.func (.func 53) #[] #[]]/\Blk W q4 [.slice none 0 0]/\Blk W q5 [vB false]/\Below w0.heap.size w0 W)
    (λpre W=>(∃x∈pre,(f_b n x.1).getD false=false)/\(∃(a:Option Addr)(m c:Nat)(S:List Nat),Blk W q4 [.slice a m c]/\a_ W S (sl a m c) ([]:List Str)/\S.Nodup/\(∀k∈S,w0.heap.size<=k))/\Blk W q5 [vB false]/\Below w0.heap.size w0 W)
    ?_ ?_ ?_ ?_ ?_ ?_
  . rintro pre W W' row ⟨h1,⟨a,m,c,S,h2,h3,h4,h5⟩,h6,h7,h8,h9⟩ hg hr
    have hr':=λr e=>(hr r e).2
    exact ⟨h1,⟨a,m,c,S,h2.grown hg hr',o_y h3 hg hr',h4,h5⟩,h6.grown hg hr',h7.grown hg hr',h8.grown hg hr',m_B h9 hg λr e=>Nat.le_trans (by omega) (hr r e).1⟩
  . rintro pre W W' row ⟨h1,⟨a,m,c,S,h2,h3,h4,h5⟩,h8,h9⟩ hg hr
    have hr':=λr e=>(hr r e).2
    exact ⟨h1,⟨a,m,c,S,h2.grown hg hr',o_y h3 hg hr',h4,h5⟩,h8.grown hg hr',m_B h9 hg λr e=>Nat.le_trans (by omega) (hr r e).1⟩
  . exact ⟨λx hx=>(by cases hx),⟨a,m,c,_,c6,kS,(by simp),λk hk=>by have:=List.mem_singleton.1 hk;omega⟩,k3,k4,k5,kB⟩
  . rintro l pre ⟨x,hx,hxl⟩ W ⟨h1,⟨a,m,c,S,h2,h3,h4,h5⟩,h6,h7,h8,h9⟩ hlt
    refine s_Z<|l_N<|l_N<|l_M rfl (λ_ _ h=>by cases h.1) ?_;refine R rfl (c_J g_65 rfl (λh=>h)<|h6.at rfl) ?_;refine R rfl (c_h rfl) ?_;refine E rfl (e_d (caps:=[]) Tryz.call53 rfl rfl<|W_w2x (hacc x hx) zr hxl) ?_;rintro _ W1 ⟨s1,rfl⟩;refine R rfl (e_Y rfl) ?_;refine b_h<|WCI.of_KC ?_;have y1:=s1.size;have hq6:=h2.lt;have hw0.heap.size:=h6.lt;have hq4:=h7.lt;have hq5:=h8.lt;refine s_W rfl (λhc=>?_)<|λhc=>?_
    . refine l_N (l_M rfl (λ_ _ h=>by cases h.1) ?_)
      refine E rfl (f_v (α:=Str) b_5) ?_;rintro _ W2 ⟨a2,m2,c2,rfl,s2,ho2⟩;refine E0 (c_3 (cur':=[.slice a2 m2 c2]) e_R rfl rfl ((h7.ext s1).ext s2) rfl (Nat.le_of_ble_eq_true rfl) (c_c rfl) rfl) ?_;rintro _ W3 ⟨c3,s3⟩;refine E0 (c_3 (cur':=[vB false]) z_4 rfl rfl (((h8.ext s1).ext s2).chg s3 (by omega)) rfl (Nat.le_of_ble_eq_true rfl) (c_c rfl) rfl) ?_;rintro _ W4 ⟨c4,s4⟩;refine b_h<|WCI.of_KC ?_;have hW:Below W.heap.size W W2:=bup s1 s2
      have hc4:Chg (λk=>k=q4∨k=q5) W W4:=by
        have e1:Chg (λk=>k=q4∨k=q5) W W2:=(Chg.refl _ W).ext hW;refine (e1.comp s3 λk _ hk=>.inl hk).comp s4 λk _ hk=>.inr hk
      refine s_Y λ_ q=>⟨rfl,o_x hc4 λk _ hk=>?_,⟨⟨x,hx,hxl⟩,by simp,by simpa using hc⟩,⟨a2,m2,c2,_,c3.chg s4 (by omega),(ho2.chg s3 λk hk=>by have:=List.mem_singleton.1 hk;omega).chg s4 λk hk=>by have:=List.mem_singleton.1 hk;omega,(by simp),λk hk=>by have:=List.mem_singleton.1 hk;omega⟩,c4,?_⟩
      . rcases hk with rfl | rfl
        . exact ⟨_,h7⟩
        . exact ⟨_,h8⟩
      . exact e_g h9 hc4 λk hk hm=>by rcases hm with rfl | rfl <;> omega
    . refine s_X (WCI.of_KC ?_)
      refine l_M rfl (λ_ _ h=>by cases h.1) ?_
      have hpsh:psh (pre.map (·.1)) x=some (pre.map (·.1)++[x]):=by
        unfold psh
        rw [if_pos (by rw [List.length_map];omega)]
      refine R rfl (c_J b_i rfl (λh=>h)<|(h2.ext s1).at rfl) ?_;refine R rfl (c_h rfl) ?_;refine E rfl (g_D [(.tmp 25)] b_5 rfl rfl rfl (a_e rfl) (Nat.le_of_ble_eq_true rfl)<|Nat.le_of_ble_eq_true rfl) ?_;rintro _ W2 ⟨rfl,hb⟩;have s2:=hb.below;have y2:=s2.size;refine E rfl (a_X (α:=Str) b_5 hpsh rfl rfl ((h3.ext s1).ext s2) h4 hb.blk (c_b hxl) d_F G_) ?_;rintro _ W3 ⟨S',a',n',c',rfl,s3,ho3,nd3,hs3⟩;have y3:=s3.size
      have n3:∀k,k<W.heap.size->k<=q5∨k=q6->k∉S':=λk hk hq hm=>by
        rcases hs3 k hm with h | h | h
        . have:=h5 k h;omega
        . cases h
        . omega
      refine E0 (c_3 (cur':=[.slice a' n' c']) e_R rfl rfl (((h2.ext s1).ext s2).chg s3 (λhm=>(h5 _ hm).2 rfl)) rfl (Nat.le_of_ble_eq_true rfl) (c_c rfl) rfl) ?_;rintro _ W4 ⟨c4,s4⟩;have hW:Below W.heap.size W W2:=bup s1 s2
      have hc4:Chg (λk=>k=q6∨k∈S) W W4:=by
        have e1:Chg (λk=>k=q6∨k∈S) W W2:=(Chg.refl _ W).ext hW;refine (e1.comp s3 λk _ hk=>.inr hk).comp s4 λk _ hk=>.inl hk
      have ho4:a_ W4 S' (sl a' n' c') (pre.map (·.1)++[x]):=ho3.chg s4 λk hk he=>n3 q6 hq6 (.inr rfl)<|he ▸ hk
      have hs4:∀k∈S',k∈S∨W.heap.size<=k:=λk hk=>by
        rcases hs3 k hk with h | h | h
        . exact .inl h
        . cases h
        . exact .inr (by omega)
      have k4:∀k,k<=q5->¬(k=q6∨k∈S):=λk hk hm=>by
        rcases hm with rfl | hm
        . omega
        . have:=h5 k hm;omega
      refine b_h λa'' ha''=>⟨o_x hc4 λk _ hk=>?_,KpS.of_chg h2 h3 c4 ho4 hs4 hc4,λy hy=>?_,⟨a',n',c',S',c4,by simpa using ho4,nd3,λk hk=>?_⟩,h6.chg hc4<|k4 _ (by omega),h7.chg hc4<|k4 _ (by omega),h8.chg hc4<|k4 _ (by omega),e_g h9 hc4 λk hk hm=>k4 k (by omega) hm⟩
      . rcases hk with rfl | hk
        . exact ⟨_,h2⟩
        . exact f_Z h3 k hk
      . rcases List.mem_append.1 hy with hy | hy
        . exact h1 y hy
        . obtain rfl:=List.mem_singleton.1 hy
          simpa using hc
      . rcases hs4 k hk with h | h
        . exact h5 k h
        . omega
  . rintro D xs W hD hxs ⟨h1,⟨a,m,c,S,h2,h3,h4,h5⟩,h6,h7,h8,h9⟩ hdef a0 ha0
    have hw0.heap.size:=h6.lt;have hq4:=h7.lt;have hq5:=h8.lt;refine tailD ?_ ha0;refine R rfl (c_J b_i rfl (λh=>h)<|h2.at rfl) ?_;refine E0 (c_3 (cur':=[.slice a m c]) e_R rfl rfl h7 rfl (Nat.le_of_ble_eq_true rfl) (c_c rfl) rfl) ?_;rintro _ W1 ⟨c7,s7⟩;refine E0 (c_3 (cur':=[vB true]) z_4 rfl rfl (h8.chg s7 (by omega)) rfl (Nat.le_of_ble_eq_true rfl) (c_c rfl) rfl) ?_;rintro _ W2 ⟨c8,s8⟩;have hDlt:=(Array.getElem?_eq_some_iff.1 hdef).1;have hdef2:W2.heap[D]? = some (.deferred<|some []):=((s8.block D (Nat.lt_of_lt_of_le hDlt s7.size) (by omega)).trans (s7.block D hDlt (by omega))).trans hdef
    have hDS:∀k∈S,k ≠ D:=λk hk e=>by
      obtain ⟨cur,hB⟩:=f_Z h3 k hk;have:=(e ▸ hB).isCells hdef
      cases this
    have hoks:oks.all id=true:=hall.2 λy hy=>by
      rw [← hxs] at hy
      obtain ⟨z,hz,rfl⟩:=List.mem_map.1 hy;exact h1 z hz
    rw [if_pos hoks]
    refine b_h λa' ha'=>⟨ha'.defers,hdef2,?_⟩
    have hp:=o_u W2 D<|.deferred none;obtain ⟨_,v,e1,e2⟩:=a_l (R:=Q22 w0 B (parts,true)) hr (e_h (n:=1) b_i rfl<|(c7.chg s8 (by omega)).chg hp (by omega)) (e_h (n:=1) g_4 rfl<|c8.chg hp (by omega)) ⟨e_g (e_g (e_g h9 s7 λk hk e=>by omega) s8 λk hk e=>by omega) hp λk hk e=>by omega,a,m,c,S,rfl,((hxs ▸ h3).chg s7 λk hk e=>by have:=h5 k hk;omega).chg s8 (λk hk e=>by have:=h5 k hk;omega) |>.chg hp λk hk e=>hDS k hk e,h4,λk hk=>by have:=h5 k hk;omega⟩ a' ha';exact ⟨v,e1,e2⟩
  . rintro D pre W hD _ ⟨⟨⟨x,hx,hxl⟩,hxm,hxb⟩,⟨a,m,c,S,h2,h3,h4,h5⟩,h8,h9⟩ hdef a0 ha0
    have hq4:=h2.lt;have hq5:=h8.lt
    have hDS:∀k∈S,k ≠ D:=λk hk e=>by
      obtain ⟨cur,hB⟩:=f_Z h3 k hk;have:=(e ▸ hB).isCells hdef
      cases this
    have hoks:¬oks.all id=true:=λh=>by
      have:=hall.1 h x hx
      rw [this] at hxb;cases hxb
    rw [if_neg hoks]
    have hp:=o_u W D<|.deferred none;obtain ⟨_,v,e1,e2⟩:=a_l (R:=Q22 w0 B ([],false)) hr (e_h (n:=1) b_i rfl<|h2.chg hp (by omega)) (e_h (n:=1) g_4 rfl<|h8.chg hp (by omega)) ⟨e_g h9 hp λk hk e=>by omega,a,m,c,S,rfl,h3.chg hp λk hk e=>hDS k hk e,h4,h5⟩ a0 ha0;exact retD ha0.defers hdef e1 e2
def Q23 (w0:World)(B:Zone)(r:(List Str)×Bool)(v:Value)(w':World):Prop:=Bw w0 w'/\un2 (λJ L=>∃G H I S1,v = .tuple #[sl G H I,vB L]/\a_ w' S1 (sl G H I) J/\S1.Nodup/\(∀k∈S1,w0.z<=k)) r
theorem W_w2z {x1:Str}{res:(List Str)×Bool}(hm:h_I n x1=some res)(H:B<=w0.z)(G:x1.b.length<=LEN):l_ prog 22 [Str.v x1] w0 (Q23 w0 B res):=by
 unfold h_I at hm
 refine goG func22 z z z λfn hr=>Ws<|Ra z<|Rw z<|Wm z ?_
 obtain ⟨_,_,J,I⟩:=a_r hm;refine E z (fc call52 z<|W_w2y (B:=B) J H G) ?_;rintro _ _ ⟨s2,L,O,V,W,rfl,Y,h8,h9⟩;refine Re z z z<|Re z z z<|Ra z<|Rw z ?_
 obtain rfl:=som I;exact Wr<|a_l hr z z ⟨s2,L,O,V,W,z,Y,h8,h9⟩
theorem d_O {x1:Int}{x2:Int}{x3:Int}{res:Bool}(hm:c_s x1 x2 x3=some res)(Y:B<=w0.z)(O:inI x1)(V:inI x2)(W:inI x3):l_ prog 54 [vI x1,vI x2,vI x3] w0 (Q0 w0 B res):=by
 unfold c_s at hm
 refine goG func54 z z z λfn hr=>Ws<|Rw z<|Wq ?_
 obtain ⟨J,H,I⟩:=bdS hm;refine Wt (λa w=>∃(x4:Bool),x4=J/\Sat 15 [(6,vB x4)] a/\Below w0.z w0 w) ?_ ?_
 .refine Wg<|RM z z<|R z (c_5 z z)<|Rm z ?_
  rcases bs (decide<|x2<=x1) with G | G
  .exact Rh z G (mv z)<|Rh z G (mv z)<|Rh z G (c_5 z z)<|R z (pT z G z)<|Ra z<|Wl (λ_ q=>⟨decide<|x1<=x3,som<|ifT H G,q.k<|s1 z,br w0⟩)
  iterate 3 refine Nh z G ?_
  exact R z (pF z G z)<|Ra z<|Wl (λ_ q=>⟨false,som<|ifF H G,q.k<|s1 z,br w0⟩)
 rintro L _ ⟨x4,rfl,_,s6⟩;revert L;refine Wo ?_;obtain rfl:=som I;exact Wr<|e_ hr z ⟨s6,z⟩
theorem k_x {x1:d_}{x2:Int}{res:Bool}(hm:e_y x1 x2=some res)(Y:B<=w0.z)(J:repS w0 B (sl A0 N0 C0) x1.rules)(W:inI x2):l_ prog 90 [(.agg #[sl A0 N0 C0]),vI x2] w0 (Q0 w0 B res):=by
 unfold e_y at hm
 refine goG func90 z z z λfn hr=>Ws<|E z (fb z) ?_
 rintro _ H ⟨rfl,h2⟩;have h4:=h2.below;refine Rw z<|Wq ?_
 obtain ⟨O,I,L⟩:=bdS hm;refine Wt (λa w=>∃(x3:Bool),x3=O/\Sat 14 [(4,vB x3)] a/\Below H.z H w) ?_ ?_
 .refine Wg<|Rm z<|R z (b_R z z)<|Rm z ?_
  rcases bs (decide<|0<=x2) with G | G
  .exact Rh z G (mv z)<|Rh z G (fd a_3 z)<|Rh z G (l0 a_8 z<|(h2.blk:Blk H w0.z [sl A0 N0 C0]).at z)<|Rh z G (lnR a_a z<|J.e h4)<|Rh z G (lss z z)<|R z (pT z G z)<|Ra z<|Wl (λ_ q=>⟨decide<|x2<(x1.rules.length:Int),som<|ifT I G,q.k<|s1 z,br H⟩)
  iterate 5 refine Nh z G ?_
  exact R z (pF z G z)<|Ra z<|Wl (λ_ q=>⟨false,som<|ifF I G,q.k<|s1 z,br H⟩)
 rintro V _ ⟨x3,rfl,_,sa⟩;revert V;refine Wo ?_;obtain rfl:=som L;exact Wr<|e_ hr z ⟨bup h4 sa,z⟩
theorem d_P {x1:g_}{x2:Bool}{x3:Bool}{x4:Bool}{x5:Bool}{x6:Int}{res:Bool}(hm:c_D x1 x2 x3 x4 x5 x6=some res)(a8:B<=w0.z)(a4:x1.name.b.length<=LEN)(a5:inI x1.kind)(a6:inI x1.size)(a0:repS w0 B (sl AB NB CB) x1.bytes)(a1:repS w0 B (sl AA NA CA) x1.names)(a2:repS w0 B (sl AC NC CC) x1.tags)(a3:repS w0 B (sl AD ND CD) x1.kids)(a7:inI x6):l_ prog 115 [(.agg #[Str.v x1.name,vI x1.kind,vI x1.size,vB x1.little,sl AB NB CB,sl AA NA CA,sl AC NC CC,sl AD ND CD]),vB x2,vB x3,vB x4,vB x5,vI x6] w0 (Q0 w0 B res):=by
 unfold c_D at hm
 refine goG func115 z z z λfn hr=>Ws<|E z (fb z) ?_
 rintro _ w9 ⟨rfl,hd⟩;have ha:=hd.below;have hb:Blk w9 w0.z (vR x1 AB NB CB AA NA CA AC NC CC AD ND CD):=hd.blk;refine Rw z<|Wq ?_
 obtain ⟨ur,hus,hmt⟩:=bdS hm;refine Wt (λa w=>∃(xc:Bool),xc=ur/\Sat 57 [(12,vB xc)] a/\Below w9.z w9 w) ?_ ?_
 .refine Wg<|RM z z ?_
  obtain ⟨ue,huf,hmu⟩:=bdS hus;refine d_g 18 ue 4 ?_ ?_
  .rcases bs x2 with Y | Y
   .iterate 3 refine Nh z Y ?_
    exact R z (pT z Y z)<|WLq 4 (ifT huf Y) z z z
   exact Rh z Y (fd a_F z)<|Rh z Y (l0 g_3 z<|hb.at z)<|Rh z Y (eql z z)<|R z (pF z Y z)<|WLq 4 (ifF huf Y) z z z
  refine Rm z ?_;obtain ⟨ug,huh,hmv⟩:=bdS hmu;refine d_g 27 ug 8 ?_ ?_
  .rcases bs ue with G | G
   .have hmi:=ifT huh G;refine Rh z G (mv z)<|Rh z G (mv z) ?_
    rcases bs x3 with O | O
    .iterate 4 refine Nh z O ?_
     exact Rh z G (pT z O z)<|R z (pT z G z)<|WLq 8 (ifT hmi O) z z z
    exact Rh z O (fd b_6 z)<|Rh z O (l0 R_ z<|hb.at z)<|Rh z O (lnR n_ z<|a0.e ha)<|Rh z O (eql z z)<|Rh z G (pF z O z)<|R z (pT z G z)<|WLq 8 (ifF hmi O) z z z
   exact Nh z G<|Nh z G<|Nv z<|Nv z<|Nv z<|Nv z<|Nh z G<|R z (pF z G z)<|WLq 8 (ifF huh G) z z z
  refine Rm z ?_;obtain ⟨uj,huk,hmw⟩:=bdS hmv;refine d_g 36 uj 8 ?_ ?_
  .rcases bs ug with H | H
   .have hml:=ifT huk H;refine Rh z H (mv z)<|Rh z H (mv z) ?_
    rcases bs x4 with V | V
    .iterate 4 refine Nh z V ?_
     exact Rh z H (pT z V z)<|R z (pT z H z)<|WLq 8 (ifT hml V) z z z
    exact Rh z V (fd c_e z)<|Rh z V (l0 b_i z<|hb.at z)<|Rh z V (lnR a_n z<|a1.e ha)<|Rh z V (eql z z)<|Rh z H (pF z V z)<|R z (pT z H z)<|WLq 8 (ifF hml V) z z z
   exact Nh z H<|Nh z H<|Nv z<|Nv z<|Nv z<|Nv z<|Nh z H<|R z (pF z H z)<|WLq 8 (ifF huk H) z z z
  refine Rm z ?_;obtain ⟨um,hun,hmo⟩:=bdS hmw;refine d_g 45 um 8 ?_ ?_
  .rcases bs uj with I | I
   .have hmp:=ifT hun I;refine Rh z I (mv z)<|Rh z I (mv z) ?_
    rcases bs x5 with W | W
    .iterate 4 refine Nh z W ?_
     exact Rh z I (pT z W z)<|R z (pT z I z)<|WLq 8 (ifT hmp W) z z z
    exact Rh z W (fd b_1 z)<|Rh z W (l0 A_ z<|hb.at z)<|Rh z W (lnR v_ z<|a2.e ha)<|Rh z W (eql z z)<|Rh z I (pF z W z)<|R z (pT z I z)<|WLq 8 (ifF hmp W) z z z
   exact Nh z I<|Nh z I<|Nv z<|Nv z<|Nv z<|Nv z<|Nh z I<|R z (pF z I z)<|WLq 8 (ifF hun I) z z z
  refine Rm z ?_
  rcases bs um with J | J
  .have hmq:=ifT hmo J;refine Rh z J (mv z)<|Rh z J (lss z z)<|Rh z J (mv z) ?_
   rcases bs (decide<|x6<0) with L | L
   .iterate 5 refine Nh z L ?_
    exact Rh z J (pT z L z)<|R z (pT z J z)<|Ra z<|Wl (λ_ q=>⟨true,som<|ifT hmq L,q.k<|s1 z,br w9⟩)
   exact Rh z L (fd J_ z)<|Rh z L (l0 A_ z<|hb.at z)<|Rh z L (lnR v_ z<|a3.e ha)<|Rh z L (mv z)<|Rh z L (eql z z)<|Rh z J (pF z L z)<|R z (pT z J z)<|Ra z<|Wl (λ_ q=>⟨(x1.kids.length:Int)==x6,som<|ifF hmq L,q.k<|s1 z,br w9⟩)
  iterate 3 refine Nh z J ?_
  exact Nv z<|Nv z<|Nv z<|Nv z<|Nv z<|Nh z J<|R z (pF z J z)<|Ra z<|Wl (λ_ q=>⟨false,som<|ifF hmo J,q.k<|s1 z,br w9⟩)
 rintro ax _ ⟨xc,rfl,_,sy⟩;revert ax;refine Wo ?_;obtain rfl:=som hmt;exact Wr<|e_ hr z ⟨bup ha sy,z⟩
theorem e_U {x1:d_}{x2:Int}{res:Int}(hm:d_b x1 x2=some res)(V:B<=w0.z)(I:repS w0 B (sl A0 N0 C0) x1.rules)(Y:inI x2):l_ prog 116 [(.agg #[sl A0 N0 C0]),vI x2] w0 (Q9 w0 B res):=by
 unfold d_b at hm
 refine goG func116 z z z λfn hr=>Ws<|E z (fb z) ?_
 rintro _ L ⟨rfl,W⟩;have h2:=W.below;have h6:Blk L w0.z [sl A0 N0 C0]:=W.blk;refine Rw z<|Wq<|Wq ?_
 obtain ⟨uf,hug,hma⟩:=bdS hm;refine Wt (λa w=>∃(O:Bool),O=uf/\Sat 37 [(1,vI x2),(2,pt w0.z),(27,vB O)] a/\Below L.z L w) ?_ ?_
 .refine Wg<|R z (lN (vs:=[sl A0 N0 C0]) t_ r_ z z fid<|h6.row 0 1 z)<|Rm z ?_
  obtain ⟨rh,ei,hmb⟩:=bdS hug;refine E z (fc call90 z<|k_x ei (zt' V h2.s) (I.e h2) Y) ?_;rintro _ _ ⟨s4,rfl⟩;refine R z (not_ z)<|Rm z ?_
  rcases bs (!rh) with H | H
  .iterate 7 refine Nh z H ?_
   exact R z (pT z H z)<|Rm z<|Nh z z<|Nh z z<|Nh z z<|Nh z z<|Nh z z<|Nh z z<|Nh z z<|Nh z z<|R z (pT z z z)<|Wl (λ_ q=>⟨true,som<|ifT hmb H,q.k<|s3 z z z,s4⟩)
  refine Rh z H (fd a_3 z) ?_;have hc:=h6.e s4;refine Rh z H (l0 a_8 z<|hc.at z)<|Rh z H (mv z) ?_
  obtain ⟨xj,ek,hmd⟩:=bdS<|ifF hmb H;have he:=I.g<|(h2.ag B).e s4
  refine RXg z z H z (at_ (α:=g_) a_a o_ z z z he ek) ?_;rintro _ ⟨_,_,_,rfl,hl,hn,_⟩;obtain ⟨_,_,_,_,_,_,_,_,_,_,_,_,rfl,_,_,_,_,_,_,_⟩:=a_D hn;refine Rh z H (fd a_u z)<|Rh z H (l0 g_3 z<|hl.at (j:=1) z)<|Rh z H (nq z z)<|R z (pF z H z)<|Rm z ?_
  rcases bs (xj.kind != 1) with G | G
  .iterate 8 refine Nh z G ?_
   exact R z (pT z G z)<|Wl (λ_ q=>⟨true,som<|ifT hmd G,q.k<|s3 z z z,s4⟩)
  refine Rh z G (fd a_3 z)<|Rh z G (l0 a_8 z<|hc.at z)<|Rh z G (mv z) ?_
  obtain ⟨_,em,hmo⟩:=bdS<|ifF hmd G;refine RXg z z G z (at_ (α:=g_) a_a o_ z z z he em) ?_;rintro _ ⟨_,_,_,rfl,hp,hq,_⟩;obtain ⟨_,_,_,_,_,_,_,_,_,_,_,_,rfl,_,_,ht,_,_,_,_⟩:=a_D hq;refine Rh z G (fd a_F z)<|Rh z G (l0 g_3 z<|hp.at (j:=2) z) ?_
  obtain ⟨rr,es,hmu⟩:=bdS hmo;refine Eg z z G z (fc call54 z<|d_O es (zt' V<|lt_ h2.s s4.s) ht (ii z)<|ii z) ?_;rintro _ _ ⟨sv,rfl⟩;exact Rh z G (not_ z)<|R z (pF z G z)<|Wl (λ_ q=>⟨!rr,som hmu,q.k<|s3 z z z,bup s4 sv⟩)
 rintro aw _ ⟨O,rfl,_,s5⟩;revert aw;refine Wo<|Wc z (λJ=>?_) (λJ=>?_)
 .refine Ws<|Rw z ?_
  obtain rfl:=som<|ifT hma J;exact Wr<|e_ hr z ⟨bup h2 s5,z,ii z⟩
 refine Wk<|Ws<|Rf z a_3 z<|R z (l0 a_8 z<|(h6.e s5).at z)<|Rm z ?_
 obtain ⟨_,ex,hmy⟩:=bdS<|ifF hma J;refine RX z (at_ (α:=g_) a_a o_ z z z (I.g<|(h2.ag B).e s5) ex) ?_;rintro _ ⟨_,_,_,rfl,hz,a1,_⟩;obtain ⟨_,_,_,_,_,_,_,_,_,_,_,_,rfl,_,_,_,_,_,_,_⟩:=a_D a1;refine Rf z a_F z<|R z (l0 g_3 z<|hz.at (j:=2) z)<|R z (c_K z z) ?_
 obtain ⟨_,a2,a0⟩:=bdS hmy;refine R z (j_b z z<|nnS a2)<|R z (sb_ z z)<|Rw z ?_
 obtain rfl:=som a0;exact Wr<|e_ hr z ⟨bup h2 s5,z,iS _ _⟩
theorem W_w1o {x1:List Str}{x2:Str}{res:Bool}(hm:f_c x1 x2=some res)(a1:B<=w0.z)(G:repS w0 B (sl A0 N0 C0) x1)(a0:x2.b.length<=LEN):l_ prog 93 [sl A0 N0 C0,Str.v x2] w0 (Q0 w0 B res):=by
 unfold f_c at hm
 refine goG func93 z z z λfn hr=>Ws<|Rw z<|Wq<|Wm z<|R z (lnR a_n z G)<|Rm z<|Wn ?_
 obtain ⟨_,V,J⟩:=bdS hm;refine Wf (σ:=Unit) (ρ:=Bool) (λ(k3:Nat)(_:Unit) a w=>Sat 17 [(1,Str.v x2),(7,sl A0 N0 C0),(8,vI (x1.length:Int)),(9,vI ((k3:Nat):Int))] a/\Below w0.z w0 w) (λ(_:Unit) a w=>Sat 17 [] a/\Below w0.z w0 w) (rQ prog fn<|Q0 w0 B) V ?_ ?_ ?_ ?_ ?_
 .exact λ_ q=>⟨q.k<|s4 z z z z,br w0⟩
 .rintro k3 _ _ _ _ L ⟨W,I⟩ Y;refine Wu ?_ W;refine Ws<|Rl z z z<|Wn<|Wq<|Wc z (λ_=>?_) (λhc=>(a_6 L hc).elim)
  refine Wk<|Wq<|Wb<|Ws ?_
  obtain ⟨_,e9,O⟩:=bdS Y;refine RX z (at_ (α:=Str) a_n z_9 z z z (G.e I) e9) ?_;rintro _ ⟨_,_,_,rfl,ha,hb,_⟩;obtain ⟨rfl,_⟩:=b_K hb;refine R z (l0 g_9 z<|ha.at0 z)<|Rw z<|Wm z<|Rm z<|R z (b_C z z)<|Wx z (λH=>?_) (λH=>?_)
  .exact Ws<|Rw z<|Wr<|rtO<|qL (som<|ifT O H).symm<|e_ hr z ⟨I,z⟩
  exact Wk<|Wg<|R z (inc_ L (lt_ (repS.len G) M_) z z)<|Rm z<|Wl (λ_ q=>⟨(),(som<|ifF O H).symm,⟨q.k<|s4 z z z z,I⟩⟩)
 .rintro _ _ _ ⟨hSc,sd⟩;refine Wu ?_ hSc;refine Ws<|Rl z z z<|Wn<|Wq<|Wc z (λhc=>(a_7 hc).elim) (λ_=>?_)
  exact We<|λ_ q=>⟨rfl,⟨q.k sn,sd⟩⟩
 .rintro _ ae _ rfl ⟨_,sf⟩;have hmg:=elL J;revert ae;refine Wo<|Ws<|Rw z ?_
  obtain rfl:=som hmg;exact Wr<|e_ hr z ⟨sf,z⟩
 rintro _ _ _ _ rfl ⟨rfl,hqh⟩;have hmi:=elR J;obtain rfl:=som hmi;exact ⟨hqh,z⟩
theorem W_w30 {x1:g_}{res:Bool}(hm:h_J n x1=some res)(O:B<=w0.z)(Y:x1.name.b.length<=LEN)(a0:inI x1.kind)(a1:inI x1.size)(a2:repS w0 B (sl AB NB CB) x1.bytes)(J:repS w0 B (sl AA NA CA) x1.names)(a3:repS w0 B (sl AC NC CC) x1.tags)(W:repS w0 B (sl AD ND CD) x1.kids):l_ prog 117 [(.agg #[Str.v x1.name,vI x1.kind,vI x1.size,vB x1.little,sl AB NB CB,sl AA NA CA,sl AC NC CC,sl AD ND CD])] w0 (Q0 w0 B res):=by
 unfold h_J at hm
 refine goG func117 z z z λfn hr=>Ws<|E z (fb z) ?_
 rintro _ V ⟨rfl,hi⟩;have h1:=hi.below;have ha:Blk V w0.z (vR x1 AB NB CB AA NA CA AC NC CC AD ND CD):=hi.blk;refine Rw z<|Wq<|Wq ?_
 obtain ⟨uy,huz,hmj⟩:=bdS hm;refine Wt (λa w=>∃(xb:Bool),xb=uy/\Sat 44 [(1,pt w0.z),(23,vB xb)] a/\Below V.z V w) ?_ ?_
 .refine Wg<|R z (lN (vs:=vR x1 AB NB CB AA NA CA AC NC CC AD ND CD) L_ o_ z z fid<|ha.row 0 8 z) ?_
  obtain ⟨ai,aj,hmk⟩:=bdS huz;refine E z (fc call115 z<|d_P aj (zt' O h1.s) Y a0 a1 (a2.e h1) (J.e h1) (a3.e h1) (W.e h1)<|ii z) ?_;rintro _ _ ⟨s6,rfl⟩;refine R z (not_ z)<|Rm z ?_
  rcases bs (!ai) with G | G
  .iterate 7 refine Nh z G ?_
   exact R z (pT z G z)<|Rm z<|Nh z z<|Nh z z<|Nh z z<|Nh z z<|Nh z z<|R z (pT z z z)<|Wl (λ_ q=>⟨true,som<|ifT hmk G,q.k<|s2 z z,s6⟩)
  have hml:=ifF hmk G;refine Rh z G (fd J_ z) ?_;have hd:=ha.e s6;refine Rh z G (l0 A_ z<|hd.at z) ?_;have hn:=(h1.ag B).e s6;have he:=W.g hn;refine Rh z G (lnR v_ z he)<|Rh z G (fd c_e z)<|Rh z G (l0 b_i z<|hd.at z)<|Rh z G (lnR a_n z<|J.g hn)<|Rh z G (nq z z)<|R z (pF z G z)<|Rm z ?_
  rcases bs ((x1.kids.length:Int) != (x1.names.length:Int)) with I | I
  .iterate 5 refine Nh z I ?_
   exact R z (pT z I z)<|Wl (λ_ q=>⟨true,som<|ifT hml I,q.k<|s2 z z,s6⟩)
  refine Rh z I (fd J_ z)<|Rh z I (l0 A_ z<|hd.at z)<|Rh z I (lnR v_ z he) ?_
  obtain ⟨ak,al,a4⟩:=bdS<|ifF hml I;refine Eg z z I z (fc call54 z<|d_O al (zt' O<|lt_ h1.s s6.s) (b_0<|repS.len he) (ii z)<|ii z) ?_;rintro _ _ ⟨am,rfl⟩;exact Rh z I (not_ z)<|R z (pF z I z)<|Wl (λ_ q=>⟨!ak,som a4,q.k<|s2 z z,bup s6 am⟩)
 rintro an L ⟨xb,rfl,_,s7⟩;revert an;refine Wo<|Wc z (λhcc=>?_) (λhcc=>?_)
 .refine Ws<|Rw z ?_
  obtain rfl:=som<|ifT hmj hcc;exact Wr<|e_ hr z ⟨bup h1 s7,z⟩
 refine Wk<|Wq<|Ws<|Rf z c_e z ?_
 have ho:=ha.e s7;refine R z (l0 b_i z<|ho.at z) ?_;have hp:=(h1.ag B).e s7;refine R z (lnR a_n z<|J.g hp)<|Rm z<|Wn ?_
 obtain ⟨_,a5,hmm⟩:=bdS<|ifF hmj hcc;refine Wf (σ:=Unit) (ρ:=Bool) (λ(kf:Nat)(_:Unit) a w=>Sat 44 [(1,pt w0.z),(25,sl AA NA CA),(26,vI (x1.names.length:Int)),(27,vI ((kf:Nat):Int))] a/\Below L.z L w) (λ(_:Unit) a w=>Sat 44 [] a/\Below L.z L w) (rQ prog fn<|Q0 w0 B) a5 ?_ ?_ ?_ ?_ ?_
 .exact λ_ q=>⟨q.k<|s4 z z z z,br L⟩
 .rintro kf _ _ wq _ hkr ⟨a6,s8⟩ a7;refine Wu ?_ a6;refine Ws<|Rl z z z<|Wn<|Wq<|Wc z (λ_=>?_) (λhc=>(a_6 hkr hc).elim)
  refine Wk<|Wq<|Wb<|Wm z ?_
  obtain ⟨_,ao,a8⟩:=bdS a7;have ht:=hp.e s8;refine RX z (at_ (α:=Str) a_n z_9 z z z (J.g ht) ao) ?_;rintro _ ⟨_,_,_,rfl,ap,aq,_⟩;obtain ⟨rfl,hu⟩:=b_K aq;refine R z (l0 g_9 z<|ap.at0 z)<|Ra z<|Rw z<|Wq ?_
  obtain ⟨ar,a9,hms⟩:=bdS a8;refine Wt (λa w=>∃(xg:Bool),xg=ar/\Sat 44 [(1,pt w0.z),(25,sl AA NA CA),(26,vI (x1.names.length:Int)),(27,vI ((kf:Nat):Int)),(42,vB xg)] a/\Below wq.z wq w) ?_ ?_
  .refine Wg<|Rm z ?_
   have hv:=lt_ (lt_ h1.s s7.s) s8.s;obtain ⟨au,av,hmw⟩:=bdS a9;refine E z (fc call88 z<|k_w av (zt' O hv) hu) ?_;rintro _ _ ⟨s9,rfl⟩;refine R z (not_ z)<|Rm z ?_
   rcases bs (!au) with H | H
   .iterate 6 refine Nh z H ?_
    exact R z (pT z H z)<|Wl (λ_ q=>⟨true,som<|ifT hmw H,q.k<|s5 z z z z z,s9⟩)
   refine Rh z H (fd c_e z)<|Rh z H (l0 b_i z<|((ho.e s8).e s9).at z)<|Rh z H (mv z) ?_
   obtain ⟨_,aw,aa⟩:=bdS<|ifF hmw H;refine RXg z z H z (rX a_n z_9 z z (J.g<|ht.e s9) z z aw) ?_;rintro _ ⟨_,_,_,rfl,ax⟩;refine Rh z H (mv z) ?_;obtain ⟨ay,az,ab⟩:=bdS aa;refine Eg z z H z (fc call93 z<|W_w1o az (zt' O<|lt_ hv s9.s) ax hu) ?_;rintro _ _ ⟨aA,rfl⟩;exact R z (pF z H z)<|Wl (λ_ q=>⟨ay,som ab,q.k<|s5 z z z z z,bup s9 aA⟩)
  rintro aB _ ⟨xg,rfl,_,sx⟩;revert aB;refine Wo<|Wc z (λhch=>?_) (λhch=>?_)
  .exact Ws<|Rw z<|Wr<|rtO<|qL (som<|ifT hms hch).symm<|e_ hr z ⟨bup (bup (bup h1 s7) s8) sx,z⟩
  exact Wk<|Wg<|R z (inc_ hkr (lt_ (repS.len J) M_) z z)<|Rm z<|Wl (λ_ q=>⟨(),(som<|ifF hms hch).symm,⟨q.k<|s4 z z z z,bup s8 sx⟩⟩)
 .rintro _ _ _ ⟨ad,aC⟩;refine Wu ?_ ad;refine Ws<|Rl z z z<|Wn<|Wq<|Wc z (λhc=>(a_7 hc).elim) (λ_=>?_)
  exact We<|λ_ q=>⟨rfl,⟨q.k sn,aC⟩⟩
 .rintro _ aD _ rfl ⟨_,aE⟩;have ae:=elL hmm;revert aD;refine Wo<|Ws<|Rw z ?_
  obtain rfl:=som ae;exact Wr<|e_ hr z ⟨bup (bup h1 s7) aE,z⟩
 rintro _ _ _ _ rfl ⟨rfl,af⟩;have ah:=elR hmm;obtain rfl:=som ah;exact ⟨af,z⟩
theorem W_w31 {x1:d_}{x2:g_}{res:Bool}(hm:h_K x1 x2=some res)(O:B<=w0.z)(a4:repS w0 B (sl A0 N0 C0) x1.rules)(a5:x2.name.b.length<=LEN)(a6:inI x2.kind)(a7:inI x2.size)(a8:repS w0 B (sl A2 N2 C2) x2.bytes)(a9:repS w0 B (sl A3 N3 C3) x2.names)(J:repS w0 B (sl A1 N1 C1) x2.tags)(V:repS w0 B (sl A5 N5 C5) x2.kids):l_ prog 118 [(.agg #[sl A0 N0 C0]),(.agg #[Str.v x2.name,vI x2.kind,vI x2.size,vB x2.little,sl A2 N2 C2,sl A3 N3 C3,sl A1 N1 C1,sl A5 N5 C5])] w0 (Q0 w0 B res):=by
 unfold h_K at hm
 refine goG func118 z z z λfn hr=>Ws<|E z (fb z) ?_
 rintro _ L ⟨rfl,hn⟩;have h4:=hn.below;refine E z (fb z) ?_;rintro _ wg ⟨rfl,ho⟩;have h3:=ho.below;have he:Blk wg L.z (vR x2 A2 N2 C2 A3 N3 C3 A1 N1 C1 A5 N5 C5):=ho.blk;refine Rw z<|Wq<|Wq ?_
 obtain ⟨aq,aa,hmp⟩:=bdS hm;refine Wt (λa w=>∃(xh:Bool),xh=aq/\Sat 57 [(2,pt w0.z),(3,pt L.z),(21,vB xh)] a/\Below wg.z wg w) ?_ ?_
 .refine Wg<|R z (lN (vs:=vR x2 A2 N2 C2 A3 N3 C3 A1 N1 C1 A5 N5 C5) L_ o_ z z fid<|he.row 0 8 z)<|Rf z b_1 z<|R z (l0 A_ z<|he.at z) ?_
  have h6:=(h4.ag B).e h3;have hq:=J.g h6;refine R z (lnR v_ z hq)<|R z (add_ z z) ?_
  have ht:=lt_ h4.s h3.s;obtain ⟨ar,au,hmr⟩:=bdS aa;refine E z (fc call115 z<|d_P au (zt' O ht) a5 a6 a7 (a8.g h6) (a9.g h6) hq (V.g h6)<|iA _ _) ?_;rintro _ _ ⟨s9,rfl⟩;refine R z (not_ z)<|Rm z ?_
  rcases bs (!ar) with I | I
  .iterate 5 refine Nh z I ?_
   exact R z (pT z I z)<|Wl (λ_ q=>⟨true,som<|ifT hmr I,q.k<|s3 z z z,s9⟩)
  refine Rh z I (fd b_1 z)<|Rh z I (l0 A_ z<|(he.e s9).at z) ?_
  have hu:=J.g<|h6.e s9
  refine Rh z I (lnR v_ z hu) ?_;obtain ⟨av,aw,ab⟩:=bdS<|ifF hmr I;refine Eg z z I z (fc call54 z<|d_O aw (zt' O<|lt_ ht s9.s) (b_0<|repS.len hu) (ii z)<|ii z) ?_;rintro _ _ ⟨ax,rfl⟩;exact Rh z I (not_ z)<|R z (pF z I z)<|Wl (λ_ q=>⟨!av,som ab,q.k<|s3 z z z,bup s9 ax⟩)
 rintro ay _ ⟨xh,rfl,_,s7⟩;revert ay;refine Wo<|Wc z (λhci=>?_) (λhci=>?_)
 .refine Ws<|Rw z ?_
  obtain rfl:=som<|ifT hmp hci;exact Wr<|e_ hr z ⟨bup (bup h4 h3) s7,z⟩
 refine Wk<|Wq (Wd (X:=noX) 0 (pl_ 7 [5]) mo (by kernel_rfl) λaV s8 _=>dR z z (lN (vs:=[sl A0 N0 C0]) t_ r_ z z fid<|((((hn.blk:Blk L w0.z [sl A0 N0 C0]).e h3).e s7).e s8).row 0 1 z)<|dR z z (fd J_ z) ?_)
 have hv:=(he.e s7).e s8;refine dR z z (l0 A_ z<|hv.at z) ?_;obtain ⟨_,az,ad⟩:=bdS<|ifF hmp hci;have hj:=(((h4.ag B).e h3).e s7).e s8;refine dRX z z (at_ (α:=Int) v_ z_3 z z z (V.g hj) az) ?_;rintro _ ⟨_,_,_,rfl,aA,aB,_⟩;obtain ⟨rfl,aC⟩:=O_ aB;refine dR z z (l0 g_3 z<|aA.at0 z) ?_;have hw:=lt_ (lt_ (lt_ h4.s h3.s) s7.s) s8.s;obtain ⟨rk,aD,ae⟩:=bdS ad;refine dE z z (fc call116 z<|e_U aD (zt' O hw) (a4.g hj) aC) (.inr λ_ _ h=>p_<|h.1) ?_;rintro _ wa ⟨sb,rfl,aE⟩;refine dQ z z z<|pD<|Wo<|Wq<|Ws<|Rf z b_1 z ?_
 have hx:=hv.e sb;refine R z (l0 A_ z<|hx.at z) ?_;have hy:=hj.e sb;refine R z (lnR v_ z<|J.g hy)<|Rm z<|Wn ?_
 obtain ⟨_,af,hms⟩:=bdS ae;refine Wf (σ:=Unit) (ρ:=Bool) (λ(kf:Nat)(_:Unit) a w=>Sat 57 [(3,pt L.z),(5,vI rk),(29,sl A1 N1 C1),(30,vI (x2.tags.length:Int)),(31,vI ((kf:Nat):Int))] a/\Below wa.z wa w) (λ(_:Unit) a w=>Sat 57 [(5,vI rk)] a/\Below wa.z wa w) (rQ prog fn<|Q0 w0 B) af ?_ ?_ ?_ ?_ ?_
 .exact λ_ q=>⟨q.k<|s5 z z z z z,br wa⟩
 .rintro kf _ _ wz _ W ⟨ah,sc⟩ ai;refine Wu ?_ ah;refine Ws<|Rl z z z<|Wn<|Wq<|Wc z (λ_=>?_) (λhc=>(a_6 W hc).elim)
  refine Wk<|Wq<|Wb<|Wm z ?_
  obtain ⟨aF,aG,aj⟩:=bdS ai;have a2:=hy.e sc;refine RX z (at_ (α:=Int) v_ z_3 z z z (J.g a2) aG) ?_;rintro _ ⟨_,_,_,rfl,aH,aI,_⟩;obtain ⟨rfl,aJ⟩:=O_ aI;refine R z (l0 g_3 z<|aH.at0 z)<|Ra z<|Rw z<|Wq ?_
  obtain ⟨aK,ak,Y⟩:=bdS aj;refine Wt (λa w=>∃(xl:Bool),xl=aK/\Sat 57 [(3,pt L.z),(5,vI rk),(29,sl A1 N1 C1),(30,vI (x2.tags.length:Int)),(31,vI ((kf:Nat):Int)),(53,vB xl)] a/\Below wz.z wz w) ?_ ?_
  .refine Wg<|RM z z ?_
   obtain ⟨aL,aM,a0⟩:=bdS ak;refine E z (fc call54 z<|d_O aM (zt' O<|lt_ (lt_ hw sb.s) sc.s) aJ (ii z) aE) ?_;rintro _ _ ⟨sd,rfl⟩;refine R z (not_ z)<|Rm z ?_
   rcases bs (!aL) with H | H
   .iterate 3 refine Nh z H ?_
    exact Nv z<|Nv z<|Nv z<|Nv z<|Nv z<|Nv z<|Nv z<|Nv z<|Nh z H<|R z (pT z H z)<|Wl (λ_ q=>⟨true,som<|ifT a0 H,q.k<|s6 z z z z z z,sd⟩)
   have a1:=ifF a0 H;refine Rh z H (mv z)<|Rh z H (a_g z z)<|Rh z H (mv z) ?_
   rcases bs (decide<|0<((kf:Nat):Int)) with G | G
   .refine Rh z G (fd b_1 z)<|Rh z G (l0 A_ z<|((hx.e sc).e sd).at z)<|Rh z G (mv z)<|Rh z G (sb_ z z) ?_
    obtain ⟨aN,aO,al⟩:=bdS<|ifT a1 G;refine RXg z z G z (at_ (α:=Int) v_ z_3 z z z (J.g<|a2.e sd) aO) ?_;rintro _ ⟨_,_,_,rfl,aP,aQ,_⟩;obtain ⟨rfl,_⟩:=O_ aQ;exact Rh z G (l0 g_3 z<|aP.at0 z)<|Rh z G (mv z)<|Rh z G (b_R z z)<|Rh z H (pT z G z)<|R z (pF z H z)<|Wl (λ_ q=>⟨decide<|aF<=aN,som al,q.k<|s6 z z z z z z,sd⟩)
   iterate 8 refine Nh z G ?_
   exact Rh z H (pF z G z)<|R z (pF z H z)<|Wl (λ_ q=>⟨false,som<|ifF a1 G,q.k<|s6 z z z z z z,sd⟩)
  rintro aR _ ⟨xl,rfl,_,a3⟩;revert aR;refine Wo<|Wc z (λhcm=>?_) (λhcm=>?_)
  .exact Ws<|Rw z<|Wr<|rtO<|qL (som<|ifT Y hcm).symm<|e_ hr z ⟨bup (bup (bup (bup (bup (bup h4 h3) s7) s8) sb) sc) a3,z⟩
  exact Wk<|Wg<|R z (inc_ W (lt_ (repS.len J) M_) z z)<|Rm z<|Wl (λ_ q=>⟨(),(som<|ifF Y hcm).symm,⟨q.k<|s5 z z z z z,bup sc a3⟩⟩)
 .rintro _ _ _ ⟨am,aS⟩;refine Wu ?_ am;refine Ws<|Rl z z z<|Wn<|Wq<|Wc z (λhc=>(a_7 hc).elim) (λ_=>?_)
  exact We<|λ_ q=>⟨rfl,⟨q.k<|s1 z,aS⟩⟩
 .rintro _ aT _ rfl ⟨_,aU⟩;have an:=elL hms;revert aT;refine Wo<|Wm z<|R z (a_g z z)<|Rw z ?_
  obtain rfl:=som an;exact Wr<|e_ hr z ⟨bup (bup (bup (bup (bup h4 h3) s7) s8) sb) aU,z⟩
 rintro _ _ _ _ rfl ⟨rfl,ao⟩;have ap:=elR hms;obtain rfl:=som ap;exact ⟨ao,z⟩
theorem W_w32 {x1:d_}{x2:g_}{res:Bool}(hm:h_L n x1 x2=some res)(L:B<=w0.z)(a7:repS w0 B (sl A0 N0 C0) x1.rules)(a3:x2.name.b.length<=LEN)(a4:inI x2.kind)(V:inI x2.size)(W:repS w0 B (sl A2 N2 C2) x2.bytes)(a5:repS w0 B (sl A3 N3 C3) x2.names)(a6:repS w0 B (sl A1 N1 C1) x2.tags)(Y:repS w0 B (sl A5 N5 C5) x2.kids):l_ prog 91 [(.agg #[sl A0 N0 C0]),(.agg #[Str.v x2.name,vI x2.kind,vI x2.size,vB x2.little,sl A2 N2 C2,sl A3 N3 C3,sl A1 N1 C1,sl A5 N5 C5])] w0 (Q0 w0 B res):=by
 unfold h_L at hm
 refine goG func91 z z z λfn hr=>Ws<|E z (fb z) ?_
 rintro _ ww ⟨rfl,aJ⟩;have h1:=aJ.below;have hx:Blk ww w0.z [sl A0 N0 C0]:=aJ.blk;refine E z (fb z) ?_;rintro _ J ⟨rfl,aK⟩;have G:=aK.below;have h6:Blk J ww.z (vR x2 A2 N2 C2 A3 N3 C3 A1 N1 C1 A5 N5 C5):=aK.blk;refine Rw z<|Wq<|Ws<|Rf z a_u z<|R z (l0 g_3 z<|h6.at z)<|Wn<|Wb<|Ws<|Rq z z z<|Rw z<|Wc z (λhcy=>?_) (λhcy=>?_)
 .refine Wq ?_;obtain ⟨bp,b1,b2⟩:=bdS<|ifT hm hcy;refine Wt (λa w=>∃(xz:Bool),xz=bp/\Sat 102 [(4,vB xz)] a/\Below J.z J w) ?_ ?_
  .refine Wg<|R z (lN (vs:=vR x2 A2 N2 C2 A3 N3 C3 A1 N1 C1 A5 N5 C5) L_ o_ z z fid<|h6.row 0 8 z) ?_
   have hq:=(h1.ag B).e G;have aL:=lt_ h1.s G.s;obtain ⟨bq,bt,ap⟩:=bdS b1;refine E z (fc call115 z<|d_P bt (zt' L aL) a3 a4 V (W.g hq) (a5.g hq) (a6.g hq) (Y.g hq)<|ii z) ?_;rintro _ _ ⟨se,rfl⟩;refine Rm z ?_
   rcases bs bq with hca | hca
   .refine Rh z hca (fd a_F z) ?_;have aM:=h6.e se;refine Rh z hca (l0 g_3 z<|aM.at z) ?_;obtain ⟨bu,bv,aq⟩:=bdS<|ifT ap hca;refine Eg z z hca z (fc call54 z<|d_O bv (zt' L<|lt_ aL se.s) V (ii z)<|ii z) ?_;rintro _ _ ⟨sr,rfl⟩;refine R z (pT z hca z)<|Rm z ?_
    rcases bs bu with O | O
    .have ar:=ifT aq O;refine Rh z O (fd c_V z) ?_;have aN:=aM.e sr;refine Rh z O (l0 g_4 z<|aN.at z)<|Rh z O (not_ z)<|Rh z O (mv z) ?_
     rcases bs (!x2.little) with hcb | hcb
     .iterate 3 refine Nh z hcb ?_
      exact Rh z O (pT z hcb z)<|R z (pT z O z)<|Ra z<|Wl (λ_ q=>⟨true,som<|ifT ar hcb,q.k<|s1 z,bup se sr⟩)
     exact Rh z hcb (fd a_F z)<|Rh z hcb (l0 g_3 z<|aN.at z)<|Rh z hcb (a_g z z)<|Rh z O (pF z hcb z)<|R z (pT z O z)<|Ra z<|Wl (λ_ q=>⟨decide<|1<x2.size,som<|ifF ar hcb,q.k<|s1 z,bup se sr⟩)
    iterate 4 refine Nh z O ?_
    exact Nv z<|Nv z<|Nv z<|Nh z O<|R z (pF z O z)<|Ra z<|Wl (λ_ q=>⟨false,som<|ifF aq O,q.k<|s1 z,bup se sr⟩)
   iterate 3 refine Nh z hca ?_
   exact R z (pF z hca z)<|Rm z<|Nh z z<|Nh z z<|Nh z z<|Nh z z<|Nv z<|Nv z<|Nv z<|Nh z z<|R z (pF z z z)<|Ra z<|Wl (λ_ q=>⟨false,som<|ifF ap hca,q.k<|s1 z,se⟩)
  rintro bw _ ⟨xz,rfl,_,bx⟩;revert bw;refine Wo ?_;obtain rfl:=som b2;exact Wr<|rtO<|e_ hr z ⟨bup (bup h1 G) bx,z⟩
 have au:=ifF hm hcy;refine Ws<|Rq z z z<|Rw z<|Wc z (λa8=>?_) (λa8=>?_)
 .refine Wq ?_;obtain ⟨bz,b3,b4⟩:=bdS<|ifT au a8;refine Wt (λa w=>∃(aj:Bool),aj=bz/\Sat 102 [(4,vB aj)] a/\Below J.z J w) ?_ ?_
  .refine Wg<|R z (lN (vs:=vR x2 A2 N2 C2 A3 N3 C3 A1 N1 C1 A5 N5 C5) L_ o_ z z fid<|h6.row 0 8 z) ?_
   have hj:=(h1.ag B).e G;have aO:=lt_ h1.s G.s;obtain ⟨bA,bB,av⟩:=bdS b3;refine E z (fc call115 z<|d_P bB (zt' L aO) a3 a4 V (W.g hj) (a5.g hj) (a6.g hj) (Y.g hj)<|ii z) ?_;rintro _ _ ⟨sk,rfl⟩;refine Rm z ?_
   rcases bs bA with a1 | a1
   .refine Rh z a1 (fd b_6 z)<|Rh z a1 (l0 R_ z<|(h6.e sk).at z) ?_
    have aP:=W.g<|hj.e sk
    refine Rh z a1 (lnR n_ z aP) ?_;obtain ⟨bC,bD,b5⟩:=bdS<|ifT av a1;refine Eg z z a1 z (fc call54 z<|d_O bD (zt' L<|lt_ aO sk.s) (b_0<|repS.len aP) (ii z)<|ii z) ?_;rintro _ _ ⟨bE,rfl⟩;exact R z (pT z a1 z)<|Ra z<|Wl (λ_ q=>⟨bC,som b5,q.k<|s1 z,bup sk bE⟩)
   iterate 4 refine Nh z a1 ?_
   exact R z (pF z a1 z)<|Ra z<|Wl (λ_ q=>⟨false,som<|ifF av a1,q.k<|s1 z,sk⟩)
  rintro bF _ ⟨aj,rfl,_,bG⟩;revert bF;refine Wo ?_;obtain rfl:=som b4;exact Wr<|rtO<|e_ hr z ⟨bup (bup h1 G) bG,z⟩
 have aw:=ifF au a8;refine Ws<|Rq z z z<|Rw z<|Wc z (λa9=>?_) (λa9=>?_)
 .refine Wq ?_;obtain ⟨bH,b6,b7⟩:=bdS<|ifT aw a9;refine Wt (λa w=>∃(ak:Bool),ak=bH/\Sat 102 [(4,vB ak)] a/\Below J.z J w) ?_ ?_
  .refine Wg<|R z (lN (vs:=vR x2 A2 N2 C2 A3 N3 C3 A1 N1 C1 A5 N5 C5) L_ o_ z z fid<|h6.row 0 8 z) ?_
   have ht:=(h1.ag B).e G;have aQ:=lt_ h1.s G.s;obtain ⟨bI,bJ,ax⟩:=bdS b6;refine E z (fc call115 z<|d_P bJ (zt' L aQ) a3 a4 V (W.g ht) (a5.g ht) (a6.g ht) (Y.g ht)<|ii z) ?_;rintro _ _ ⟨ss,rfl⟩;refine Rm z ?_
   rcases bs bI with hcc | hcc
   .refine Rh z hcc (fd a_F z)<|Rh z hcc (l0 g_3 z<|(h6.e ss).at z) ?_
    obtain ⟨bK,bL,b8⟩:=bdS<|ifT ax hcc;refine Eg z z hcc z (fc call54 z<|d_O bL (zt' L<|lt_ aQ ss.s) V (ii z)<|ii z) ?_;rintro _ _ ⟨bM,rfl⟩;exact R z (pT z hcc z)<|Ra z<|Wl (λ_ q=>⟨bK,som b8,q.k<|s1 z,bup ss bM⟩)
   iterate 3 refine Nh z hcc ?_
   exact R z (pF z hcc z)<|Ra z<|Wl (λ_ q=>⟨false,som<|ifF ax hcc,q.k<|s1 z,ss⟩)
  rintro bN _ ⟨ak,rfl,_,bO⟩;revert bN;refine Wo ?_;obtain rfl:=som b7;exact Wr<|rtO<|e_ hr z ⟨bup (bup h1 G) bO,z⟩
 have ay:=ifF aw a9;refine Ws<|Rq z z z<|Rw z<|Wc z (λaa=>?_) (λaa=>?_)
 .refine Wq ?_;obtain ⟨bP,b9,ba⟩:=bdS<|ifT ay aa;refine Wt (λa w=>∃(al:Bool),al=bP/\Sat 102 [(4,vB al)] a/\Below J.z J w) ?_ ?_
  .refine Wd (X:=noX) 0 (pl_ 12 [1,8]) mo (by kernel_rfl) λcv sf _=>?_
   have aR:=h6.e sf;refine dR z z (lN (vs:=vR x2 A2 N2 C2 A3 N3 C3 A1 N1 C1 A5 N5 C5) L_ o_ z z fid<|aR.row 0 8 z) ?_;have hl:=((h1.ag B).e G).e sf;have aS:=lt_ (lt_ h1.s G.s) sf.s;obtain ⟨bQ,bR,az⟩:=bdS b9;refine dE z z (fc call115 z<|d_P bR (zt' L aS) a3 a4 V (W.g hl) (a5.g hl) (a6.g hl) (Y.g hl)<|ii z) (.inr λ_ _ h=>p_<|h.1) ?_;rintro _ _ ⟨sg,rfl⟩;refine dM z z z ?_
   rcases bs bQ with H | H
   .refine dRg z z z H z (lN (vs:=[sl A0 N0 C0]) t_ r_ z z fid<|(((hx.e G).e sf).e sg).row 0 1 z)<|dRg z z z H z (fd J_ z)<|dRg z z z H z (l0 A_ z<|(aR.e sg).at z) ?_
    obtain ⟨_,bS,bb⟩:=bdS<|ifT az H;have aT:=hl.e sg;refine b_L z z z H z (at_ (α:=Int) v_ z_3 z z z (Y.g aT) bS) ?_;rintro _ ⟨_,_,_,rfl,bT,bU,_⟩;obtain ⟨rfl,bV⟩:=O_ bU;refine dRg z z z H z (l0 g_3 z<|bT.at0 z) ?_;obtain ⟨bW,bX,bc⟩:=bdS bb;refine dEg z z z H z (fc call116 z<|e_U bX (zt' L<|lt_ aS sg.s) (a7.g aT) bV) (.inr λ_ _ h=>p_<|h.1) ?_;rintro _ _ ⟨bY,rfl,_⟩;exact dRg z z z H z (a_g z z)<|dR z z (pT z H z)<|dQ z z z<|pD (λ_ q=>⟨decide<|0<bW,som bc,q.k<|s1 z,bup (bup sf sg) bY⟩)
   iterate 5 refine dRn z z z H z ?_
   exact dEn z z z H z<|dRn z z z H z<|dR z z (pF z H z)<|dQ z z z<|pD (λ_ q=>⟨false,som<|ifF az H,q.k<|s1 z,bup sf sg⟩)
  rintro bZ _ ⟨al,rfl,_,c0⟩;revert bZ;refine Wo ?_;obtain rfl:=som ba;exact Wr<|rtO<|e_ hr z ⟨bup (bup h1 G) c0,z⟩
 have aA:=ifF ay aa;refine Ws<|Rq z z z<|Rw z<|Wc z (λab=>?_) (λab=>?_)
 .refine Wq ?_;obtain ⟨c1,be,bf⟩:=bdS<|ifT aA ab;refine Wt (λa w=>∃(am:Bool),am=c1/\Sat 102 [(4,vB am)] a/\Below J.z J w) ?_ ?_
  .refine Wd (X:=noX) 0 (pl_ 12 [1,8]) mo (by kernel_rfl) λcw sh _=>?_
   have aU:=h6.e sh;refine dR z z (lN (vs:=vR x2 A2 N2 C2 A3 N3 C3 A1 N1 C1 A5 N5 C5) L_ o_ z z fid<|aU.row 0 8 z) ?_;have hn:=((h1.ag B).e G).e sh;have aV:=lt_ (lt_ h1.s G.s) sh.s;obtain ⟨c2,c3,aB⟩:=bdS be;refine dE z z (fc call115 z<|d_P c3 (zt' L aV) a3 a4 V (W.g hn) (a5.g hn) (a6.g hn) (Y.g hn)<|ii z) (.inr λ_ _ h=>p_<|h.1) ?_;rintro _ _ ⟨si,rfl⟩;refine dM z z z ?_
   rcases bs c2 with I | I
   .refine dRg z z z I z (lN (vs:=[sl A0 N0 C0]) t_ r_ z z fid<|(((hx.e G).e sh).e si).row 0 1 z)<|dRg z z z I z (fd J_ z)<|dRg z z z I z (l0 A_ z<|(aU.e si).at z) ?_
    obtain ⟨_,c4,bg⟩:=bdS<|ifT aB I;have aW:=hn.e si;refine b_L z z z I z (at_ (α:=Int) v_ z_3 z z z (Y.g aW) c4) ?_;rintro _ ⟨_,_,_,rfl,c5,c6,_⟩;obtain ⟨rfl,c7⟩:=O_ c6;refine dRg z z z I z (l0 g_3 z<|c5.at0 z) ?_;obtain ⟨c8,c9,bh⟩:=bdS bg;refine dEg z z z I z (fc call116 z<|e_U c9 (zt' L<|lt_ aV si.s) (a7.g aW) c7) (.inr λ_ _ h=>p_<|h.1) ?_;rintro _ _ ⟨ca,rfl,_⟩;exact dRg z z z I z (a_g z z)<|dR z z (pT z I z)<|dQ z z z<|pD (λ_ q=>⟨decide<|0<c8,som bh,q.k<|s1 z,bup (bup sh si) ca⟩)
   iterate 5 refine dRn z z z I z ?_
   exact dEn z z z I z<|dRn z z z I z<|dR z z (pF z I z)<|dQ z z z<|pD (λ_ q=>⟨false,som<|ifF aB I,q.k<|s1 z,bup sh si⟩)
  rintro cb _ ⟨am,rfl,_,cc⟩;revert cb;refine Wo ?_;obtain rfl:=som bf;exact Wr<|rtO<|e_ hr z ⟨bup (bup h1 G) cc,z⟩
 have aC:=ifF aA ab;refine Ws<|Rq z z z<|Rw z<|Wc z (λad=>?_) (λad=>?_)
 .refine Ws<|R z (lN (vs:=vR x2 A2 N2 C2 A3 N3 C3 A1 N1 C1 A5 N5 C5) L_ o_ z z fid<|h6.row 0 8 z) ?_
  have hu:=(h1.ag B).e G;obtain ⟨_,cd,bi⟩:=bdS<|ifT aC ad;refine E z (fc call117 z<|W_w30 cd (zt' L<|lt_ h1.s G.s) a3 a4 V (W.g hu) (a5.g hu) (a6.g hu)<|Y.g hu) ?_;rintro _ _ ⟨ce,rfl⟩;refine Rw z ?_
  obtain rfl:=som bi;exact Wr<|rtO<|e_ hr z ⟨bup (bup h1 G) ce,z⟩
 have aD:=ifF aC ad;refine Ws<|Rq z z z<|Rw z<|Wc z (λae=>?_) (λae=>?_)
 .refine Ws<|R z (lN (vs:=[sl A0 N0 C0]) t_ r_ z z fid<|(hx.e G).row 0 1 z)<|R z (lN (vs:=vR x2 A2 N2 C2 A3 N3 C3 A1 N1 C1 A5 N5 C5) L_ o_ z z fid<|h6.row 0 8 z) ?_
  have ho:=(h1.ag B).e G;obtain ⟨_,cf,bj⟩:=bdS<|ifT aD ae;refine E z (fc call118 z<|W_w31 cf (zt' L<|lt_ h1.s G.s) (a7.g ho) a3 a4 V (W.g ho) (a5.g ho) (a6.g ho)<|Y.g ho) ?_;rintro _ _ ⟨cg,rfl⟩;refine Rw z ?_
  obtain rfl:=som bj;exact Wr<|rtO<|e_ hr z ⟨bup (bup h1 G) cg,z⟩
 refine Wq<|Ws<|Rq z z z<|Rw z ?_
 obtain ⟨ch,aE,aF⟩:=bdS<|ifF aD ae;refine Wt (λa w=>∃(an:Bool),an=ch/\Sat 102 [(3,pt ww.z),(6,vI x2.kind),(80,vB an)] a/\Below J.z J w) ?_ ?_
 .refine Wc z (λaf=>?_)<|λaf=>?_
  .exact a_k<|λ_ q=>⟨x2.kind==8,som<|ifT aE af,q.k<|s3 z z z,br J⟩
  exact Wg<|Rq z z z<|Ra z<|Wl (λ_ q=>⟨x2.kind==9,som<|ifF aE af,q.k<|s3 z z z,br J⟩)
 rintro ci aX ⟨an,rfl,_,sd⟩;revert ci;refine Wo<|Wc z (λah=>?_) (λah=>?_)
 .refine Ws<|R z (lN (vs:=vR x2 A2 N2 C2 A3 N3 C3 A1 N1 C1 A5 N5 C5) L_ o_ z z fid<|(h6.e sd).row 0 8 z) ?_
  have hv:=((h1.ag B).e G).e sd;obtain ⟨_,cj,bk⟩:=bdS<|ifT aF ah;refine E z (fc call115 z<|d_P cj (zt' L<|lt_ (lt_ h1.s G.s) sd.s) a3 a4 V (W.g hv) (a5.g hv) (a6.g hv) (Y.g hv)<|ii z) ?_;rintro _ _ ⟨ck,rfl⟩;refine Rw z ?_
  obtain rfl:=som bk;exact Wr<|rtO<|e_ hr z ⟨bup (bup (bup h1 G) sd) ck,z⟩
 have aG:=ifF aF ah;refine Ws<|Rq z z z<|Rw z<|Wc z (λai=>?_) (λai=>?_)
 .refine Wq ?_;obtain ⟨cl,bm,bn⟩:=bdS<|ifT aG ai;refine Wt (λa w=>∃(ao:Bool),ao=cl/\Sat 102 [(4,vB ao)] a/\Below aX.z aX w) ?_ ?_
  .refine Wg ?_;have aY:=h6.e sd;refine R z (lN (vs:=vR x2 A2 N2 C2 A3 N3 C3 A1 N1 C1 A5 N5 C5) L_ o_ z z fid<|aY.row 0 8 z) ?_;have hp:=((h1.ag B).e G).e sd;obtain ⟨cm,cn,aH⟩:=bdS bm;refine E z (fc call115 z<|d_P cn (zt' L<|lt_ (lt_ h1.s G.s) sd.s) a3 a4 V (W.g hp) (a5.g hp) (a6.g hp) (Y.g hp)<|ii z) ?_;rintro _ _ ⟨sm,rfl⟩;refine Rm z ?_
   rcases bs cm with a2 | a2
   .have aI:=ifT aH a2;refine Rh z a2 (fd b_6 z) ?_;have aZ:=aY.e sm;refine Rh z a2 (l0 R_ z<|aZ.at z) ?_;have b0:=W.g<|hp.e sm
    refine Rh z a2 (lnR n_ z b0)<|Rh z a2 (eql z z)<|R z (pT z a2 z)<|Rm z ?_
    rcases bs ((x2.bytes.length:Int)==1) with a0 | a0
    .refine Rh z a0 (fd b_6 z)<|Rh z a0 (l0 R_ z<|aZ.at z) ?_
     obtain ⟨co,cp,bo⟩:=bdS<|ifT aI a0;refine RXg z z a0 z (at_ (α:=UInt8) n_ z_5 z z z b0 cp) ?_;rintro _ ⟨_,_,_,rfl,cq,cr,_⟩;obtain rfl:=u8 cr;exact Rh z a0 (l0 g_5 z<|cq.at0 z)<|Rh z a0 (nq z z)<|R z (pT z a0 z)<|Ra z<|Wl (λ_ q=>⟨(byteI co) != (byteI (92:UInt8)),som bo,q.k<|s1 z,sm⟩)
    iterate 5 refine Nh z a0 ?_
    exact R z (pF z a0 z)<|Ra z<|Wl (λ_ q=>⟨false,som<|ifF aI a0,q.k<|s1 z,sm⟩)
   iterate 4 refine Nh z a2 ?_
   exact R z (pF z a2 z)<|Rm z<|Nh z z<|Nh z z<|Nh z z<|Nh z z<|Nh z z<|R z (pF z z z)<|Ra z<|Wl (λ_ q=>⟨false,som<|ifF aH a2,q.k<|s1 z,sm⟩)
  rintro ct _ ⟨ao,rfl,_,cu⟩;revert ct;refine Wo ?_;obtain rfl:=som bn;exact Wr<|rtO<|e_ hr z ⟨bup (bup (bup h1 G) sd) cu,z⟩
 refine Wk<|Ws<|Rw z ?_
 obtain rfl:=som<|ifF aG ai;exact Wr<|e_ hr z ⟨bup (bup h1 G) sd,z⟩
theorem W_w33 {x1:d_}{x2:Int}{res:Bool}(hm:h_M n x1 x2=some res)(V:B<=w0.z)(O:repS w0 B (sl A0 N0 C0) x1.rules)(aU:inI x2):l_ prog 55 [(.agg #[sl A0 N0 C0]),vI x2] w0 (Q0 w0 B res):=by
 unfold h_M at hm
 refine goG func55 z z z λfn hr=>Ws<|E z (fb z) ?_
 rintro _ bf ⟨rfl,am⟩;have h2:=am.below;have ho:Blk bf w0.z [sl A0 N0 C0]:=am.blk;refine Rw z<|Wq<|Ws<|R z (lN (vs:=[sl A0 N0 C0]) t_ r_ z z fid<|ho.row 0 1 z)<|Rm z ?_
 obtain ⟨_,bg,a8⟩:=bdS hm;refine E z (fc call90 z<|k_x bg (zt' V h2.s) (O.e h2) aU) ?_;rintro _ J ⟨s5,rfl⟩;refine R z (not_ z)<|Wx z (λhcp=>?_) (λhcp=>?_)
 .refine Ws<|Rw z ?_
  obtain rfl:=som<|ifT a8 hcp;exact Wr<|e_ hr z ⟨bup h2 s5,z⟩
 refine Wk<|Ws<|Rf z a_3 z ?_
 have an:=ho.e s5;refine R z (l0 a_8 z<|an.at z)<|Rm z ?_
 obtain ⟨L,bh,aV⟩:=bdS<|ifF a8 hcp;have ao:=(h2.ag B).e s5;refine RX z (at_ (α:=g_) a_a o_ z z z (O.g ao) bh) ?_;rintro _ ⟨_,_,_,rfl,bi,bj,_⟩;obtain ⟨aq,nr,cs,au,nt,cv,aw,nx,cy,ae,nf,cg,rfl,ap,bk,bm,bn,bo,bp,hj⟩:=a_D bj;refine R z (lN (vs:=vR L aq nr cs au nt cv aw nx cy ae nf cg) L_ o_ z z fid bi)<|E z (fa b_P) ?_
 rintro _ bq ⟨rfl,ar⟩;have h4:=ar.below;have av:Blk bq J.z [(Str.v (⟨[]⟩:Str)),vI 0,vI 0,vB false,sN,sN,sN,sN]:=ar.blk;refine E0 (fs0 (cur':=vR L aq nr cs au nt cv aw nx cy ae nf cg) o_ z z av z z z z) ?_;rintro _ ax ⟨hk,bt⟩;have h3:=bt.one;refine Wn<|Wq<|Wq ?_
 obtain ⟨bu,aW,a9⟩:=bdS aV;refine Wt (λa w=>∃(xz:Bool),xz=bu/\Sat 65 [(1,vI x2),(2,pt w0.z),(5,pt J.z),(31,vB xz)] a/\Below ax.z ax w) ?_ ?_
 .refine Wg<|Rf z f_z z<|R z (l0 g_9 z<|hk.at z) ?_
  obtain ⟨bv,bw,aa⟩:=bdS aW;refine E z (fc call88 z<|k_w bw (zt' V<|lt_ (lt_ (lt_ h2.s s5.s) h4.s) h3.s) ap) ?_;rintro _ _ ⟨sm,rfl⟩;refine R z (not_ z)<|Rm z ?_
  rcases bs (!bv) with G | G
  .iterate 3 refine Nh z G ?_
   exact Nv z<|Nv z<|Nv z<|Nh z G<|R z (pT z G z)<|Wl (λ_ q=>⟨true,som<|ifT aa G,q.k<|s4 z z z z,sm⟩)
  have ab:=ifF aa G;refine Rh z G (fd c_V z) ?_;have ay:=hk.e sm;refine Rh z G (l0 g_4 z<|ay.at z)<|Rh z G (mv z) ?_
  rcases bs L.little with H | H
  .exact Rh z H (fd a_u z)<|Rh z H (l0 g_3 z<|ay.at z)<|Rh z H (nq z z)<|Rh z G (pT z H z)<|R z (pF z G z)<|Wl (λ_ q=>⟨L.kind != 1,som<|ifT ab H,q.k<|s4 z z z z,sm⟩)
  iterate 3 refine Nh z H ?_
  exact Rh z G (pF z H z)<|R z (pF z G z)<|Wl (λ_ q=>⟨false,som<|ifF ab H,q.k<|s4 z z z z,sm⟩)
 rintro bx wh ⟨xz,rfl,_,s1⟩;revert bx;refine Wo<|Wc z (λW=>?_) (λW=>?_)
 .refine Ws<|Rw z ?_
  obtain rfl:=som<|ifT a9 W;exact Wr<|e_ hr z ⟨bup (bM (bup (bup h2 s5) h4) h3<|m1<|lt_ h2.s s5.s) s1,z⟩
 refine Wk<|Wq<|Ws<|Rf z a_3 z ?_
 have az:=((an.e h4).c h3<|djs<|mm1 ho.lt s5.s).e s1;refine R z (l0 a_8 z<|az.at z)<|Rm z ?_
 obtain ⟨bz,bA,aX⟩:=bdS<|ifF a9 W;have hd:=lt_ h2.s s5.s;have aA:∀k∈[J.z],¬B k:=or0 (c_ lr)<|k_<|zt' V hd;have aB:=((ao.e h4).c h3<|b_ aA).e s1;refine RX z (rX a_a o_ z z (O.g aB) z z bA) ?_;rintro _ ⟨bB,bC,bD,rfl,a1⟩;refine R z (lnR a_a z a1)<|Rm z<|Wn ?_
 obtain ⟨_,aY,ad⟩:=bdS aX;refine Wf (σ:=Unit) (ρ:=Bool) (λ(aC:Nat)(_:Unit) a w=>Sat 65 [(1,vI x2),(2,pt w0.z),(5,pt J.z),(35,sl bB bC bD),(36,vI (bz.length:Int)),(37,vI ((aC:Nat):Int))] a/\Below wh.z wh w) (λ(_:Unit) a w=>Sat 65 [(1,vI x2),(2,pt w0.z),(5,pt J.z)] a/\Below wh.z wh w) (rQ prog fn<|Q0 w0 B) aY ?_ ?_ ?_ ?_ ?_
 .exact λ_ q=>⟨q.k<|s6 z z z z z z,br wh⟩
 .rintro aC _ _ bE _ af ⟨aZ,sa⟩ b0;refine Wu ?_ aZ;refine Ws<|Rl z z z<|Wn<|Wq<|Wc z (λ_=>?_) (λhc=>(a_6 af hc).elim)
  refine Wk<|Wq<|Wb<|Ws ?_
  obtain ⟨aD,bF,ah⟩:=bdS b0;refine RX z (at_ (α:=g_) a_a o_ z z z (a1.e sa) bF) ?_;rintro _ ⟨_,_,_,rfl,bG,bH,_⟩;obtain ⟨aE,aF,aG,aH,aI,aJ,aK,aL,aM,aN,aO,aP,rfl,_,_,_,_,_,_,_⟩:=a_D bH;refine R z (lN (vs:=vR aD aE aF aG aH aI aJ aK aL aM aN aO aP) L_ o_ z z fid bG)<|E z (fa b_P) ?_
  rintro _ bI ⟨rfl,aQ⟩;have a2:=aQ.below;refine E0 (fs0 (cur':=vR aD aE aF aG aH aI aJ aK aL aM aN aO aP) o_ z z (aQ.blk:Blk bI bE.z [(Str.v (⟨[]⟩:Str)),vI 0,vI 0,vB false,sN,sN,sN,sN]) z z z z) ?_;rintro _ _ ⟨bJ,bK⟩;have a3:=bK.one;refine Wn<|Ws<|Rf z f_z z<|R z (l0 g_9 z<|bJ.at z)<|Rf z f_z z<|R z (l0 g_9 z<|((((hk.e s1).e sa).e a2).c a3<|djs<|mm1 av.lt<|lt_ (lt_ h3.s s1.s) sa.s).at z)<|R z (b_C z z)<|Wx z (λY=>?_) (λY=>?_)
  .exact Ws<|Rw z<|Wr<|rtO<|qL (som<|ifT ah Y).symm<|e_ hr z ⟨bM (bup (bup (bup (bM (bup (bup h2 s5) h4) h3<|m1 hd) s1) sa) a2) a3<|m1<|lt_ (lt_ (lt_ (lt_ hd h4.s) h3.s) s1.s) sa.s,z⟩
  exact Wk<|Wg<|R z (inc_ af (lt_ (repS.len a1) M_) z z)<|Rm z<|Wl (λ_ q=>⟨(),(som<|ifF ah Y).symm,⟨q.k<|s6 z z z z z z,bM (bup sa a2) a3<|m1 sa.s⟩⟩)
 .rintro _ _ _ ⟨b1,bL⟩;refine Wu ?_ b1;refine Ws<|Rl z z z<|Wn<|Wq<|Wc z (λhc=>(a_7 hc).elim) (λ_=>?_)
  exact We<|λ_ q=>⟨rfl,⟨q.k<|s3 z z z,bL⟩⟩
 .rintro _ bN wi rfl ⟨_,sb⟩;have b2:=elL ad;revert bN;refine Wo<|Wq<|Ws<|Rf z J_ z ?_
  have aR:=(hk.e s1).e sb;refine R z (l0 A_ z<|aR.at z) ?_;have a4:=(((h4.ag B).c h3<|b_ aA).e s1).e sb;refine R z (lnR v_ z<|hj.g a4)<|Rm z<|Wn ?_
  obtain ⟨_,b3,ai⟩:=bdS b2;refine Wf (σ:=Unit) (ρ:=Bool) (λ(a5:Nat)(_:Unit) a w=>Sat 65 [(1,vI x2),(2,pt w0.z),(5,pt J.z),(48,sl ae nf cg),(49,vI (L.kids.length:Int)),(50,vI ((a5:Nat):Int))] a/\Below wi.z wi w) (λ(_:Unit) a w=>Sat 65 [(2,pt w0.z),(5,pt J.z)] a/\Below wi.z wi w) (rQ prog fn<|Q0 w0 B) b3 ?_ ?_ ?_ ?_ ?_
  .exact λ_ q=>⟨q.k<|s6 z z z z z z,br wi⟩
  .rintro a5 _ _ wl _ aj ⟨b4,a6⟩ b5;refine Wu ?_ b4;refine Ws<|Rl z z z<|Wn<|Wq<|Wc z (λ_=>?_) (λhc=>(a_6 aj hc).elim)
   refine Wk<|Wq<|Wb<|Ws ?_
   obtain ⟨aS,bO,b6⟩:=bdS b5;refine RX z (at_ (α:=Int) v_ z_3 z z z (hj.g<|a4.e a6) bO) ?_;rintro _ ⟨_,_,_,rfl,bP,bQ,_⟩;obtain ⟨rfl,_⟩:=O_ bQ;refine R z (l0 g_3 z<|bP.at0 z)<|Rw z<|Wq ?_
   obtain ⟨bR,ak,al⟩:=bdS b6;refine Wt (λa w=>∃(a7:Bool),a7=bR/\Sat 65 [(1,vI x2),(2,pt w0.z),(5,pt J.z),(48,sl ae nf cg),(49,vI (L.kids.length:Int)),(50,vI ((a5:Nat):Int)),(60,vB a7)] a/\Below wl.z wl w) ?_ ?_
   .refine Wg<|Rm z<|Rl z z z<|Rm z ?_
    rcases bs (decide<|aS<0) with I | I
    .iterate 3 refine Nh z I ?_
     exact R z (pT z I z)<|Wl (λ_ q=>⟨true,som<|ifT ak I,q.k<|s7 z z z z z z z,br wl⟩)
    exact Rh z I (mv z)<|Rh z I (mv z)<|Rh z I (b_R z z)<|R z (pF z I z)<|Wl (λ_ q=>⟨decide<|x2<=aS,som<|ifF ak I,q.k<|s7 z z z z z z z,br wl⟩)
   rintro bS _ ⟨a7,rfl,_,aT⟩;revert bS;refine Wo<|Wc z (λa0=>?_) (λa0=>?_)
   .exact Ws<|Rw z<|Wr<|rtO<|qL (som<|ifT al a0).symm<|e_ hr z ⟨bup (bup (bup (bup (bM (bup (bup h2 s5) h4) h3<|m1 hd) s1) sb) a6) aT,z⟩
   exact Wk<|Wg<|R z (inc_ aj (lt_ (repS.len hj) M_) z z)<|Rm z<|Wl (λ_ q=>⟨(),(som<|ifF al a0).symm,⟨q.k<|s6 z z z z z z,bup a6 aT⟩⟩)
  .rintro _ _ _ ⟨b7,bT⟩;refine Wu ?_ b7;refine Ws<|Rl z z z<|Wn<|Wq<|Wc z (λhc=>(a_7 hc).elim) (λ_=>?_)
   exact We<|λ_ q=>⟨rfl,⟨q.k<|s2 z z,bT⟩⟩
  .rintro _ bU _ rfl ⟨_,sc⟩;have b8:=elL ai;revert bU;refine Wo<|Ws<|R z (lN (vs:=[sl A0 N0 C0]) t_ r_ z z fid<|((az.e sb).e sc).row 0 1 z)<|R z (lN (vs:=vR L aq nr cs au nt cv aw nx cy ae nf cg) L_ o_ z z fid<|(aR.e sc).row 0 8 z) ?_
   have hn:=a4.e sc;obtain ⟨_,bV,b9⟩:=bdS b8;refine E z (fc call91 z<|W_w32 bV (zt' V<|lt_ (lt_ (lt_ (lt_ (lt_ hd h4.s) h3.s) s1.s) sb.s) sc.s) (O.g<|(aB.e sb).e sc) ap bk bm (bn.g hn) (bo.g hn) (bp.g hn)<|hj.g hn) ?_;rintro _ _ ⟨bW,rfl⟩;refine Rw z ?_
   obtain rfl:=som b9;exact Wr<|e_ hr z ⟨bup (bup (bup (bup (bM (bup (bup h2 s5) h4) h3<|m1 hd) s1) sb) sc) bW,z⟩
  rintro _ _ _ _ rfl ⟨rfl,ba⟩;have bb:=elR ai;obtain rfl:=som bb;exact ⟨ba,z⟩
 rintro _ _ _ _ rfl ⟨rfl,bc⟩;have be:=elR ad;obtain rfl:=som be;exact ⟨bc,z⟩
theorem W_w1p {x1:d_}{res:Bool}(hm:g_f n x1=some res)(V:B<=w0.z)(H:repS w0 B (sl A0 N0 C0) x1.rules):l_ prog 23 [(.agg #[sl A0 N0 C0])] w0 (Q0 w0 B res):=by
 unfold g_f at hm
 refine goG func23 z z z λfn hr=>Ws<|E z (fb z) ?_
 rintro _ wh ⟨rfl,W⟩;have G:=W.below;have Y:Blk wh w0.z [sl A0 N0 C0]:=W.blk;refine Rw z<|Wq<|Ws<|Rf z a_3 z<|R z (l0 a_8 z<|Y.at z) ?_
 have h9:=H.e G;refine R z (lnR a_a z h9) ?_;obtain ⟨_,ei,hma⟩:=bdS hm;refine E z (fc call54 z<|d_O ei (zt' V G.s) (b_0<|repS.len h9) (ii z)<|ii z) ?_;rintro _ I ⟨s1,rfl⟩;refine R z (not_ z)<|Wx z (λJ=>?_) (λJ=>?_)
 .refine Ws<|Rw z ?_
  obtain rfl:=som<|ifT hma J;exact Wr<|e_ hr z ⟨bup G s1,z⟩
 refine Wk<|Wq<|Ws<|Rf z a_3 z ?_
 have hb:=Y.e s1;refine R z (l0 a_8 z<|hb.at z) ?_;have hd:=(G.ag B).e s1;refine R z (lnR a_a z<|H.g hd)<|Rm z<|Wn ?_
 obtain ⟨_,huj,hmc⟩:=bdS<|ifF hma J;refine Wf (σ:=Unit) (ρ:=Bool) (λ(ke:Nat)(_:Unit) a w=>Sat 20 [(1,pt w0.z),(11,vI (x1.rules.length:Int)),(12,vI ((ke:Nat):Int))] a/\Below I.z I w) (λ(_:Unit) a w=>Sat 20 [] a/\Below I.z I w) (rQ prog fn<|Q0 w0 B) huj ?_ ?_ ?_ ?_ ?_
 .exact λ_ q=>⟨q.k<|s3 z z z,br I⟩
 .rintro ke _ _ _ _ L ⟨hSk,s4⟩ hml;refine Wu ?_ hSk;refine Ws<|Rl z z z<|Wn<|Wq<|Wc z (λ_=>?_) (λhc=>(a_6 L hc).elim)
  refine Wk<|Wq<|Wb<|Wm z<|Rw z<|Ws<|R z (lN (vs:=[sl A0 N0 C0]) t_ r_ z z fid<|(hb.e s4).row 0 1 z)<|Rm z ?_
  obtain ⟨_,em,hmf⟩:=bdS hml;refine E z (fc call55 z<|W_w33 em (zt' V<|lt_ (lt_ G.s s1.s) s4.s) (H.g<|hd.e s4)<|ic (Nat.le_of_lt L)<|lt_ (repS.len H) M_) ?_;rintro _ _ ⟨sg,rfl⟩;refine R z (not_ z)<|Wx z (λO=>?_) (λO=>?_)
  .exact Ws<|Rw z<|Wr<|rtO<|qL (som<|ifT hmf O).symm<|e_ hr z ⟨bup (bup (bup G s1) s4) sg,z⟩
  exact Wk<|Wg<|R z (inc_ L (lt_ (repS.len H) M_) z z)<|Rm z<|Wl (λ_ q=>⟨(),(som<|ifF hmf O).symm,⟨q.k<|s3 z z z,bup s4 sg⟩⟩)
 .rintro _ _ _ ⟨hSn,so⟩;refine Wu ?_ hSn;refine Ws<|Rl z z z<|Wn<|Wq<|Wc z (λhc=>(a_7 hc).elim) (λ_=>?_)
  exact We<|λ_ q=>⟨rfl,⟨q.k sn,so⟩⟩
 .rintro _ ap _ rfl ⟨_,sq⟩;have hmr:=elL hmc;revert ap;refine Wo<|Ws<|Rw z ?_
  obtain rfl:=som hmr;exact Wr<|e_ hr z ⟨bup (bup G s1) sq,z⟩
 rintro _ _ _ _ rfl ⟨rfl,hqs⟩;have hmt:=elR hmc;obtain rfl:=som hmt;exact ⟨hqs,z⟩
theorem W_w34 {x1:d_}{res:Int}(hm:h_N x1=some res)(J:B<=w0.z)(H:repS w0 B (sl A0 N0 C0) x1.rules):l_ prog 24 [(.agg #[sl A0 N0 C0])] w0 (Q9 w0 B res):=by
 unfold h_N at hm
 refine goG func24 z z z λfn hr=>Ws<|E z (fb z) ?_
 rintro _ I ⟨rfl,G⟩;have h1:=G.below;refine Rw z<|Ws<|Rf z a_3 z<|R z (l0 a_8 z<|(G.blk:Blk I w0.z [sl A0 N0 C0]).at z)<|R z (lnR a_a z<|H.e h1)<|R z (sb_ z z)<|Rw z ?_
 obtain rfl:=som hm;exact Wr<|e_ hr z ⟨h1,z,iS _ _⟩
theorem k_y {x1:d_}{x2:Int}{res:Bool}(hm:f_d n x1 x2=some res)(J:B<=w0.z)(I:repS w0 B (sl A0 N0 C0) x1.rules)(O:inI x2):l_ prog 96 [(.agg #[sl A0 N0 C0]),vI x2] w0 (Q0 w0 B res):=by
 unfold f_d at hm
 refine goG func96 z z z λfn hr=>Ws<|E z (fb z) ?_
 rintro _ H ⟨rfl,h5⟩;have h1:=h5.below;have h6:Blk H w0.z [sl A0 N0 C0]:=h5.blk;refine Rw z<|Wq ?_
 obtain ⟨u8,V,hma⟩:=bdS hm;refine Wt (λa w=>∃(x4:Bool),x4=u8/\Sat 12 [(4,vB x4)] a/\Below H.z H w) ?_ ?_
 .refine Wg<|R z (lN (vs:=[sl A0 N0 C0]) t_ r_ z z fid<|h6.row 0 1 z) ?_
  obtain ⟨rb,ec,L⟩:=bdS V;refine E z (fc call23 z<|W_w1p ec (zt' J h1.s)<|I.e h1) ?_;rintro _ _ ⟨s2,rfl⟩;refine Rm z ?_
  rcases bs rb with G | G
  .refine Rh z G (lN (vs:=[sl A0 N0 C0]) t_ r_ z z fid<|(h6.e s2).row 0 1 z)<|Rh z G (mv z) ?_
   obtain ⟨rd,ee,hmf⟩:=bdS<|ifT L G;refine Eg z z G z (fc call90 z<|k_x ee (zt' J<|lt_ h1.s s2.s) (I.g<|(h1.ag B).e s2) O) ?_;rintro _ _ ⟨sg,rfl⟩;exact R z (pT z G z)<|Ra z<|Wl (λ_ q=>⟨rd,som hmf,q.k<|s1 z,bup s2 sg⟩)
  iterate 3 refine Nh z G ?_
  exact R z (pF z G z)<|Ra z<|Wl (λ_ q=>⟨false,som<|ifF L G,q.k<|s1 z,s2⟩)
 rintro ah _ ⟨x4,rfl,_,si⟩;revert ah;refine Wo ?_;obtain rfl:=som hma;exact Wr<|e_ hr z ⟨bup h1 si,z⟩
def Q24 (w0:World)(B:Zone)(r:Z_)(v:Value)(w':World):Prop:=Bw w0 w'/\(λG=>(.agg #[vI G.at_,vI G.code])=v/\inI G.at_/\inI G.code) r
theorem g_X {x1:a_d}{b1 o1:Nat}{x2:Int}{x3:Int}{res:Z_}(hm:e_6 x1 x2 x3=some res)(a0:B<=w0.z)(V:repS w0 B (sl A0 N0 C0) x1.d.rules)(I:repS w0 B (sl A4 N4 C4) x1.b)(W:inI x1.applied)(hC1:T_ w0 b1 o1 [sl A0 N0 C0,sl A4 N4 C4,vI x1.applied])(hC1b:B b1)(J:inI x2)(Y:inI x3):l_ prog 122 [(.pointer<|some ⟨b1,o1,none⟩),vI x2,vI x3] w0 (Q24 w0 B res):=by
 unfold e_6 at hm
 refine goG func122 z z z λfn hr=>Ws<|E z (fa b_O) ?_
 rintro _ L ⟨rfl,h2⟩;have G:=h2.below;have h3:Blk L w0.z [vI 0,vI 0]:=h2.blk;refine Wn<|Wq<|Wm z<|Rm z<|R z (C_ z)<|Rf z d_J z<|R z (l0 R_ z<|(hC1.e G).at (j:=1) z)<|R z (lnR n_ z<|I.e G)<|Rm z<|R z (sb_ z z)<|R z (a_g z z)<|Wx z (λH=>?_) (λH=>?_)
 .refine Wm z<|R z (bP (parts:=[(0,.tmp 16),(1,.const<|.int .i64 1)]) (cs:=[vI x2,vI 1]) c_F z z)<|E0 (fs0 (cur':=[vI x2,vI 1]) K_ z z h3 z z z z) ?_
  rintro _ _ ⟨h5,s6⟩;refine Wn ?_;obtain rfl:=som<|ifT hm H;exact Wr<|e_ hr (s_ a_m K_ z h5 z) ⟨bM G s6.one<|c_ lr,z,J,ii z⟩
 refine Wk<|Wm z<|Rm z<|R z (add_ z z)<|R z (bP (parts:=[(0,.tmp 20),(1,.const<|.int .i64 0)]) (cs:=[vI (i_ x2 x3),vI 0]) c_F z z)<|E0 (fs0 (cur':=[vI (i_ x2 x3),vI 0]) K_ z z h3 z z z z) ?_
 rintro _ _ ⟨O,s8⟩;refine Wn ?_;obtain rfl:=som<|ifF hm H;exact Wr<|e_ hr (s_ a_m K_ z O z) ⟨bM G s8.one<|c_ lr,z,iA _ _,ii z⟩
theorem k_z {x1:Bt}{x2:Bool}{res:Int}(hm:f_e x1 x2=some res)(W:B<=w0.z)(G:repS w0 B (sl A0 N0 C0) x1):l_ prog 119 [sl A0 N0 C0,vB x2] w0 (Q9 w0 B res):=by
 unfold f_e at hm
 refine goG func119 z z z λfn hr=>Ws<|Rw z<|Wq<|Wm z<|R z (lnR n_ z G)<|R z (a_g z z)<|Wx z (λI=>?_) (λI=>?_)
 .refine Ws<|Rw z ?_
  obtain rfl:=som<|ifT hm I;exact Wr<|e_ hr z ⟨br w0,z,ii z⟩
 refine Wk<|Ws<|Rw z<|Wq<|Wm z<|R z (lnR n_ z G)<|Rm z<|Wn ?_
 obtain ⟨_,huc,L⟩:=bdS<|ifF hm I;refine Wf (σ:=Int) (ρ:=Int) (λ(k5:Nat)(x0:Int) a w=>Sat 38 [(0,sl A0 N0 C0),(1,vB x2),(5,vI x0),(11,vI (x1.length:Int)),(12,vI ((k5:Nat):Int))] a/\Below w0.z w0 w/\inI x0) (λ(x0:Int) a w=>Sat 38 [(5,vI x0)] a/\Below w0.z w0 w/\inI x0) (rQ prog fn<|Q9 w0 B) huc ?_ ?_ ?_ ?_ ?_
 .exact λ_ q=>⟨q.k<|s5 z z z z z,br w0,ii z⟩
 .rintro k5 x0 _ H _ O ⟨hSd,s6,h2⟩ hme;refine Wu ?_ hSd;refine Ws<|Rl z z z<|Wn<|Wq<|Wc z (λ_=>?_) (λhc=>(a_6 O hc).elim)
  refine Wk<|Wq<|Wb<|Wm z<|Rw z<|Wm z<|Wn ?_
  obtain ⟨uf,hua,hmg⟩:=bdS hme;refine Wt (λa w=>∃(x3:Int),x3=uf/\Sat 38 [(0,sl A0 N0 C0),(1,vB x2),(5,vI x3),(11,vI (x1.length:Int)),(12,vI ((k5:Nat):Int))] a/\Below H.z H w/\inI x3) ?_ ?_
  .refine Wc z (λJ=>?_)<|λJ=>?_
   .refine Wg<|Rm z<|R z (j_b z z (by decide))<|RM z z ?_
    have hb:=G.e s6;refine R z (lnR n_ z hb)<|R z (sb_ z z)<|Rm z<|R z (sb_ z z) ?_
    obtain ⟨xh,ei,hmj⟩:=bdS<|ifT hua J;refine RX z (at_ (α:=UInt8) n_ z_5 z z z hb ei) ?_;rintro _ ⟨_,_,_,rfl,hk,hl,_⟩;obtain rfl:=u8 hl;exact R z (l0 g_5 z<|hk.at0 z)<|R z (b_W d_5 d_3 z)<|R z (rd_or z z)<|Ra z<|Wl (λ_ q=>⟨a_B .i64 (· ||| ·) (b_Q .i64 x0 8)<|byteI xh,som hmj,q.k<|s5 z z z z z,br H,g_P _ _ _⟩)
   refine Wg<|Rm z<|R z (j_b z z (by decide))<|RM z z ?_
   obtain ⟨xm,en,hmo⟩:=bdS<|ifF hua J;refine RX z (at_ (α:=UInt8) n_ z_5 z z z (G.e s6) en) ?_;rintro _ ⟨_,_,_,rfl,hp,hq,_⟩;obtain rfl:=u8 hq;exact R z (l0 g_5 z<|hp.at0 z)<|R z (b_W d_5 d_3 z)<|R z (rd_or z z)<|Ra z<|Wl (λ_ q=>⟨a_B .i64 (· ||| ·) (b_Q .i64 x0 8)<|byteI xm,som hmo,q.k<|s5 z z z z z,br H,g_P _ _ _⟩)
  rintro ar _ ⟨x3,rfl,_,ss,ht⟩;revert ar;exact Wo<|Wg<|R z (inc_ O (lt_ (repS.len G) M_) z z)<|Rm z<|Wl (λ_ q=>⟨x3,(som hmg).symm,⟨q.k<|s5 z z z z z,bup s6 ss,ht⟩⟩)
 .rintro x0 _ _ ⟨hSu,sv,h2⟩;refine Wu ?_ hSu;refine Ws<|Rl z z z<|Wn<|Wq<|Wc z (λhc=>(a_7 hc).elim) (λ_=>?_)
  exact We<|λ_ q=>⟨rfl,⟨q.k<|s1 z,sv,h2⟩⟩
 .rintro x0 aw _ rfl ⟨_,sx,h2⟩;have hmy:=elL L;revert aw;refine Wo<|Wm z<|Rw z ?_
  obtain rfl:=som hmy;exact Wr<|e_ hr z ⟨sx,z,h2⟩
 rintro _ _ _ _ rfl ⟨rfl,hqz⟩;have V:=elR L;obtain rfl:=som V;exact ⟨hqz,z⟩
def Q25 (w0:World)(g1:Nat)(B:Zone)(A0:Option Addr)(N0 C0:Nat)(A4:Option Addr)(N4 C4:Nat)(x1:a_d)(r:Int×Z_×Int)(v:Value)(w':World):Prop:=Cg [g1] w0 w'/\un3 (λH G I=>v = .tuple #[vI H,(.agg #[vI G.at_,vI G.code])]/\inI H/\inI G.at_/\inI G.code/\inI I/\Blk w' g1 [sl A0 N0 C0,sl A4 N4 C4,vI I]) r
theorem i_X {x1:a_d}{g1:Nat}{x2:Int}{x3:Int}{res:Int×Z_×Int}(hm:e_z x1 x2 x3=some res)(hB1:Blk w0 g1 [sl A0 N0 C0,sl A4 N4 C4,vI x1.applied])(L:B<=w0.z)(hBg:¬B g1)(O:repS w0 B (sl A0 N0 C0) x1.d.rules)(V:repS w0 B (sl A4 N4 C4) x1.b)(aP:inI x1.applied)(aQ:inI x2)(al:inI x3):l_ prog 120 [pt g1,vI x2,vI x3] w0 (Q25 w0 g1 B A0 N0 C0 A4 N4 C4 x1 res):=by
 unfold e_z at hm
 refine goG func120 z z z λfn hr=>Ws<|Ra z<|E z (fa b_O) ?_
 rintro _ wf ⟨rfl,ho⟩;have hb:=ho.below;have I:Blk wf w0.z [vI 0,vI 0]:=ho.blk;refine Wn<|Wm z<|R z (C_ z)<|Rf z i_O z ?_
 have hp:=hB1.e hb;refine R z (l0 g_3 z<|hp.at z)<|R z (add_ z z)<|R z (C_ z)<|Rf z i_O z<|E0 (fs0 (cur':=[sl A0 N0 C0,sl A4 N4 C4,vI<|i_ x1.applied 1]) z_3 z z hp z z z z) ?_
 rintro _ J ⟨hq,ap⟩;have h1:=ap.one;refine Wn<|Wm z<|R z (C_ z)<|Rf z m_r z<|Rf z a_3 z<|R z (l0 a_8 z<|hq.at z)<|Rm z ?_
 obtain ⟨xr,aq,am⟩:=bdS hm;have ht:=(hb.ag B).c h1<|b_<|c_ hBg
 refine RX z (at_ (α:=g_) a_a o_ z z z (O.g ht) aq) ?_;rintro _ ⟨_,_,_,rfl,ar,av,_⟩;obtain ⟨au,ns,cv,aw,nx,cy,az,Y,a0,a1,a2,a3,rfl,_,_,ax,_,_,_,_⟩:=a_D av;refine R z (lN (vs:=vR xr au ns cv aw nx cy az Y a0 a1 a2 a3) L_ o_ z z fid ar)<|E z (fa b_P) ?_
 rintro _ wg ⟨rfl,a4⟩;have h4:=a4.below;have a5:Blk wg J.z [(Str.v (⟨[]⟩:Str)),vI 0,vI 0,vB false,sN,sN,sN,sN]:=a4.blk;refine E0 (fs0 (cur':=vR xr au ns cv aw nx cy az Y a0 a1 a2 a3) o_ z z a5 z z z z) ?_;rintro _ a6 ⟨a7,ay⟩;have h2:=ay.one;refine Wn<|Wm z<|Rm z<|Rf z a_F z<|R z (l0 g_3 z<|a7.at z) ?_
 have hc:=lt_ hb.s h1.s;have hh:=(hq.e h4).c h2<|djs<|mm1 (Blk.lt hB1) hc
 have hi:=(ht.e h4).c h2<|b_ (or0 (c_ lr) (k_<|zt' L hc):∀k∈[J.z],¬B k)
 have hj:=lt_ (lt_ hc h4.s) h2.s;obtain ⟨H,aA,W⟩:=bdS am;refine E z (fc call122 z<|g_X (B:=w0.z) aA (a_0 hj) (repS.mono (O.g hi) L) (repS.mono (V.g hi) L) (iA _ _) (hh.row 0 3 z) (Blk.lt hB1) al ax) ?_;rintro _ wa ⟨G,rfl,a8,a9⟩;refine E z (fa b_O) ?_;rintro _ wk ⟨rfl,aa⟩;have h5:=aa.below;refine E0 (fs0 (cur':=[vI H.at_,vI H.code]) K_ z z (aa.blk:Blk wk wa.z [vI 0,vI 0]) z z z z) ?_;rintro _ ab ⟨hl,aB⟩;have h6:=aB.one;refine Wn<|Wq<|Ws<|Rf z d_j z<|R z (l0 g_3 z<|hl.at z)<|R z (nq z z)<|Wx z (λhcm=>?_) (λhcm=>?_)
 .refine Wq (Wd (X:=noX) 4 (pl_ 3 [2]) mo (by kernel_rfl) λaC sd _=>dR z z (lN (vs:=[vI H.at_,vI H.code]) a_m K_ z z fid<|(hl.e sd).row 0 2 z)<|dQ z z z ?_);have ad:=mmr<|Blk.lt hB1
  refine dE0 z (fs0 (cur':=[vI H.at_,vI H.code]) K_ z z (((((((I.c h1<|atp ad).e h4).c h2<|djs<|mm1 I.lt h1.s).e G).e h5).c h6<|djs<|mm1 I.lt<|lt_ (lt_ (lt_ h1.s h4.s) h2.s) G.s).e sd) z z z z) (.inl z) ?_;rintro _ aD ⟨aE,aF⟩;have ae:=aF.one;refine pD<|Wo ?_
  obtain rfl:=som<|ifT W hcm;have af:=lt_ hj G.s;exact Wr<|a_l hr z (s_ a_m K_ z aE z) ⟨(cM (f_ (cM (f_ (f_ (cM (f_ (cM (f_ (cr [g1] w0) hb:Cg [g1] w0 wf) h1 (io sr):Cg [g1] w0 J) h4:Cg [g1] w0 wg) h2 (mor hc:∀k∈[J.z],k∈[g1]∨w0.z<=k):Cg [g1] w0 a6) G:Cg [g1] w0 wa) h5:Cg [g1] w0 wk) h6 (mor af:∀k∈[wa.z],k∈[g1]∨w0.z<=k):Cg [g1] w0 ab) sd:Cg [g1] w0 aC) ae (mor lr:∀k∈[w0.z],k∈[g1]∨w0.z<=k):Cg [g1] w0 aD),z,ii z,a8,a9,iA _ _,((((hh.e G).e h5).c h6<|djs<|mm1 (Blk.lt hB1) af).e sd).c ae<|djs ad⟩
 refine Wk<|Wq (Wd (X:=noX) 8192 (.rd 0<|.rd 1<|.rd 2<|.rd 3<|.rd 4<|.rd 5<|.rd 6<|.rd 7<|.rd 8<|.rd 9<|.rd 11<|.ef 10<|.rd 12<|.ef 13 .done) mo (by kernel_rfl) λaG s7 _=>dM z z z<|dR z z (C_ z)<|dR z z (fd d_J z) ?_)
 have he:=lt_ hj G.s;have ah:=(((hh.e G).e h5).c h6<|djs<|mm1 (Blk.lt hB1) he).e s7;refine dR z z (l0 R_ z<|ah.at z)<|dM z z z<|dR z z (fd c_U z) ?_
 have ai:=hl.e s7;refine dR z z (l0 g_3 z<|ai.at z) ?_;obtain ⟨_,aH,an⟩:=bdS<|ifF W hcm;refine dRX z z (rX n_ z_5 z z (V.g<|(((hi.e G).e h5).c h6<|b_ (or0 (c_ lr) (k_<|zt' L he):∀k∈[wa.z],¬B k)).e s7) z z aH) ?_;rintro _ ⟨_,_,_,rfl,aI⟩;refine dR z z (fd c_V z)<|dR z z (l0 g_4 z<|((((a7.e G).e h5).c h6<|djs<|mm1 a5.lt<|lt_ h2.s G.s).e s7).at z)<|dR z z (lN (vs:=[vI H.at_,vI H.code]) a_m K_ z z fid<|ai.row 0 2 z) ?_
 obtain ⟨_,aJ,ao⟩:=bdS an;refine dE z z (fc call119 z<|k_z aJ (zt' L<|lt_ (lt_ (lt_ he h5.s) h6.s) s7.s) aI) (.inr λ_ _ h=>p_<|h.1) ?_;rintro _ aK ⟨sn,rfl,aL⟩;refine dQ z z z ?_;have aj:=mmr<|Blk.lt hB1
 refine dE0 z (fs0 (cur':=[vI H.at_,vI H.code]) K_ z z ((((((((I.c h1<|atp aj).e h4).c h2<|djs<|mm1 I.lt h1.s).e G).e h5).c h6<|djs<|mm1 I.lt<|lt_ (lt_ (lt_ h1.s h4.s) h2.s) G.s).e s7).e sn) z z z z) (.inl z) ?_;rintro _ aM ⟨aN,aO⟩;have ak:=aO.one;refine pD<|Wo ?_
 obtain rfl:=som ao;exact Wr<|a_l hr z (s_ a_m K_ z aN z) ⟨(cM (f_ (f_ (cM (f_ (f_ (cM (f_ (cM (f_ (cr [g1] w0) hb:Cg [g1] w0 wf) h1 (io sr):Cg [g1] w0 J) h4:Cg [g1] w0 wg) h2 (mor hc:∀k∈[J.z],k∈[g1]∨w0.z<=k):Cg [g1] w0 a6) G:Cg [g1] w0 wa) h5:Cg [g1] w0 wk) h6 (mor he:∀k∈[wa.z],k∈[g1]∨w0.z<=k):Cg [g1] w0 ab) s7:Cg [g1] w0 aG) sn:Cg [g1] w0 aK) ak (mor lr:∀k∈[w0.z],k∈[g1]∨w0.z<=k):Cg [g1] w0 aM),z,aL,a8,a9,iA _ _,(ah.e sn).c ak<|djs aj⟩
theorem W_w35 {x1:a_d}{b1 o1:Nat}{x2:g_}{x3:Int}{res:Z_}(hm:h_O x1 x2 x3=some res)(ah:B<=w0.z)(a7:repS w0 B (sl A0 N0 C0) x1.d.rules)(W:repS w0 B (sl A4 N4 C4) x1.b)(a8:inI x1.applied)(hC1:T_ w0 b1 o1 [sl A0 N0 C0,sl A4 N4 C4,vI x1.applied])(hC1b:B b1)(a9:x2.name.b.length<=LEN)(aa:inI x2.kind)(ab:inI x2.size)(I:repS w0 B (sl A2 N2 C2) x2.bytes)(ad:repS w0 B (sl A3 N3 C3) x2.names)(ae:repS w0 B (sl A1 N1 C1) x2.tags)(af:repS w0 B (sl A5 N5 C5) x2.kids)(Y:inI x3):l_ prog 121 [(.pointer<|some ⟨b1,o1,none⟩),.agg #[Str.v x2.name,vI x2.kind,vI x2.size,vB x2.little,sl A2 N2 C2,sl A3 N3 C3,sl A1 N1 C1,sl A5 N5 C5],vI x3] w0 (Q24 w0 B res):=by
 unfold h_O at hm
 refine goG func121 z z z λfn hr=>Ws<|E z (fb z) ?_
 rintro _ J ⟨rfl,hb⟩;have G:=hb.below;refine E z (fa b_O) ?_;rintro _ H ⟨rfl,hd⟩;have h3:=hd.below;have O:Blk H J.z [vI 0,vI 0]:=hd.blk;refine Wn<|Wq<|Ws<|Rf z b_6 z ?_
 have he:=(hb.blk:Blk J w0.z (vR x2 A2 N2 C2 A3 N3 C3 A1 N1 C1 A5 N5 C5)).e h3;refine R z (l0 R_ z<|he.at z) ?_;have V:=(G.ag B).e h3;refine R z (lnR n_ z<|I.g V)<|Rm z<|Wn ?_
 obtain ⟨_,hum,hmc⟩:=bdS hm;refine Wf (σ:=Unit) (ρ:=Z_) (λ(k5:Nat)(_:Unit) a w=>Sat 50 [(0,.pointer<|some ⟨b1,o1,none⟩),(2,vI x3),(4,pt w0.z),(6,pt J.z),(10,sl A2 N2 C2),(11,vI (x2.bytes.length:Int)),(12,vI ((k5:Nat):Int))] a/\Below H.z H w) (λ(_:Unit) a w=>Sat 50 [(2,vI x3),(4,pt w0.z),(6,pt J.z)] a/\Below H.z H w) (rQ prog fn<|Q24 w0 B) hum ?_ ?_ ?_ ?_ ?_
 .exact λ_ q=>⟨q.k<|s7 z z z z z z z,br H⟩
 .rintro k5 _ _ _ _ hkf ⟨hSn,s1⟩ hmo;refine Wu ?_ hSn;refine Ws<|Rl z z z<|Wn<|Wq<|Wc z (λ_=>?_) (λhc=>(a_6 hkf hc).elim)
  refine Wk<|Wq<|Wb<|Wm z ?_
  obtain ⟨_,ep,hmg⟩:=bdS hmo;have hh:=V.e s1;refine RX z (at_ (α:=UInt8) n_ z_5 z z z (I.g hh) ep) ?_;rintro _ ⟨_,_,_,rfl,hq,ht,_⟩;obtain rfl:=u8 ht;refine R z (l0 g_5 z<|hq.at0 z)<|Ra z<|Rw z<|Wq<|Wm z<|Rm z<|R z (add_ z z)<|Rm z<|R z (C_ z)<|Rf z d_J z ?_
  have hi:=((hC1.e G).e h3).e s1;refine R z (l0 R_ z<|hi.at (j:=1) z) ?_;have hj:=W.g hh;refine R z (lnR n_ z hj)<|Rq z z z<|Wx z (λL=>?_) (λL=>?_)
  .refine Wm z<|R z (bP (parts:=[(0,.tmp 26),(1,.const<|.int .i64 1)]) (cs:=[vI x3,vI 1]) c_F z z)<|E0 (fs0 (cur':=[vI x3,vI 1]) K_ z z (O.e s1) z z z z) ?_
   rintro _ _ ⟨hu,sr⟩;exact Wn<|Wr<|rtO<|qL (som<|ifT hmg L).symm<|e_ hr (s_ a_m K_ z hu z) ⟨bM (bup (bup G h3) s1) sr.one<|m1 G.s,z,Y,ii z⟩
  refine Wk<|Wm z<|R z (C_ z)<|Rf z d_J z<|R z (l0 R_ z<|hi.at (j:=1) z)<|RM z z<|R z (add_ z z) ?_
  obtain ⟨_,es,hmk⟩:=bdS<|ifF hmg L;refine RX z (at_ (α:=UInt8) n_ z_5 z z z hj es) ?_;rintro _ ⟨_,_,_,rfl,hv,hw,_⟩;obtain rfl:=u8 hw;refine R z (l0 g_5 z<|hv.at0 z)<|Rm z<|R z (nq z z)<|Wx z (λhca=>?_) (λhca=>?_)
  .refine Wm z<|Rm z<|R z (add_ z z)<|R z (bP (parts:=[(0,.tmp 41),(1,.const<|.int .i64 2)]) (cs:=[(vI<|i_ x3 ((k5:Nat):Int)),vI 2]) c_F z z)<|E0 (fs0 (cur':=[(vI<|i_ x3 ((k5:Nat):Int)),vI 2]) K_ z z (O.e s1) z z z z) ?_
   rintro _ _ ⟨hx,sy⟩;exact Wn<|Wr<|rtO<|qL (som<|ifT hmk hca).symm<|e_ hr (s_ a_m K_ z hx z) ⟨bM (bup (bup G h3) s1) sy.one<|m1 G.s,z,iA _ _,ii z⟩
  exact Wk<|Wg<|R z (inc_ hkf (lt_ (repS.len I) M_) z z)<|Rm z<|Wl (λ_ q=>⟨(),(som<|ifF hmk hca).symm,⟨q.k<|s7 z z z z z z z,s1⟩⟩)
 .rintro _ _ _ ⟨hSz,a3⟩;refine Wu ?_ hSz;refine Ws<|Rl z z z<|Wn<|Wq<|Wc z (λhc=>(a_7 hc).elim) (λ_=>?_)
  exact We<|λ_ q=>⟨rfl,⟨q.k<|s3 z z z,a3⟩⟩
 .rintro _ a4 _ rfl ⟨_,s6⟩;have a0:=elL hmc;revert a4;refine Wo<|Wm z<|Rf z b_6 z<|R z (l0 R_ z<|(he.e s6).at z)<|R z (lnR n_ z<|I.g<|V.e s6)<|R z (add_ z z)<|R z (bP (parts:=[(0,.tmp 48),(1,.const<|.int .i64 0)]) (cs:=[(vI<|i_ x3 (x2.bytes.length:Int)),vI 0]) c_F z z)<|E0 (fs0 (cur':=[(vI<|i_ x3 (x2.bytes.length:Int)),vI 0]) K_ z z (O.e s6) z z z z) ?_
  rintro _ _ ⟨a5,a6⟩;refine Wn ?_;obtain rfl:=som a0;exact Wr<|e_ hr (s_ a_m K_ z a5 z) ⟨bM (bup (bup G h3) s6) a6.one<|m1 G.s,z,iA _ _,ii z⟩
 rintro _ _ _ _ rfl ⟨rfl,a1⟩;have a2:=elR hmc;obtain rfl:=som a2;exact ⟨a1,z⟩
end Go.Vw
