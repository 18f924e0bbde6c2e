
import Derived.Test.YtadehdicfeopeaaGreatDoorVwKW1
set_option linter.unusedVariables false
namespace Go.Vw
open Go.RowKit Dat Go.Proofs
open Go.Proofs.Tryz
open Go.Vw renaming f_g->Wq,f_i->Wg,WC.of_KC->Wo,e_z->Wl,f_h->Wc,h_7->Wr,i_5->Wu,h_A->pT,h_B->pF,f_S->fd,f_T->l1,i_a->lN,e_Q->mv,e_R->asg,h_C->lnR,f_Y->lss,f_X->eql,f_U->ext_,h_G->bP,f_V->add_,h_n->inc_,i_f->not_,h_D->at_,h_h->fc,e_2->fs,h_g->fb,f_z->fa,h_t->sr,h_y->cr,h_z->cM,h_x->bM,h_k->iS,h_j->iA,h_m->br,f_D->oA,h_p->bs,ltge->lg,inor->io,i_e->nq,i_b->lnT,i_c->sb_,h_r->ar_,h_q->al_,h_s->ds,i_O->m1,h_v->nr_,h_u->nl_,f_E->aa_,d_w->an_,e_y->Wb,f_C->u8,h_c->pD,h_8->We,h_l->Wt,h_i->fS,e_x->or_,i_6->Wf,h_P->qL,h_b->Wd,h_H->fN,f_F->na_,h_w->nj,h_J->f0,h_F->rX,h_K->tl_,h_L->ic
variable {A0:Option Addr}{N0 C0:Nat}{B:Zone}{w0:World}{n:Nat}{A5:Option Addr}{N5 C5:Nat}{AB:Option Addr}{A8:Option Addr}{AC:Option Addr}{AD:Option Addr}{NB CB:Nat}{N8 C8:Nat}{NC CC:Nat}{ND CD:Nat}{A2:Option Addr}{A3:Option Addr}{A1:Option Addr}{A4:Option Addr}{N2 C2:Nat}{N3 C3:Nat}{N1 C1:Nat}{N4 C4:Nat}{A9:Option Addr}{AA:Option Addr}{N9 C9:Nat}{NA CA:Nat}{AE:Option Addr}{AF:Option Addr}{NE CE:Nat}{NF CF:Nat}{A7:Option Addr}{N7 C7:Nat}{A6:Option Addr}{N6 C6:Nat}
theorem T_w0e (ay:k_W n):j_c (g_k n<|e_h n):=by
 constructor
 intro A0 N0 C0 B x1 x2 res w0 hm V a0 cX;unfold g_k at hm
 refine goG func64 z z z fun fn hr=>Ws<|E z (fb z) ?_
 rintro _ wl ⟨rfl,az⟩;have h5:=az.below;have hx:Blk wl w0.z [sl A0 N0 C0]:=az.blk;refine E z (fa a_6) ?_;rintro _ wi ⟨rfl,aA⟩;have h6:=aA.below;have J:Blk wi wl.z [vI 0,sl none 0 0,sl none 0 0]:=aA.blk;refine Wn<|Ws<|Rf z R_ z ?_
 have a5:=hx.e h6;refine R z (l0 T_ z<|a5.at z)<|Rm z ?_
 obtain ⟨xr,bO,aq⟩:=bdS hm;have a6:=(h5.ag B).e h6;refine RX z (at_ (α:=e_) U_ m_ z z z (a0.g a6) bO) ?_;rintro _ ⟨_,_,_,rfl,bQ,bR,_⟩;obtain ⟨aB,aC,aD,aE,aF,aG,aH,aI,aJ,aK,aL,aM,rfl,_,_,_,_,_,bS,hp⟩:=a_m bR;refine R z (lN (vs:=vR xr aB aC aD aE aF aG aH aI aJ aK aL aM) I_ m_ z z fid bQ)<|E z (fa b_g) ?_
 rintro _ bT ⟨rfl,aN⟩;have h1:=aN.below;have a7:Blk bT wi.z [(Str.v (⟨[]⟩:Str)),vI 0,vI 0,vB false,sl none 0 0,sl none 0 0,sl none 0 0,sl none 0 0]:=aN.blk;refine E0 (fs0 (cur':=vR xr aB aC aD aE aF aG aH aI aJ aK aL aM) m_ z z a7 z z z z) ?_;rintro _ wq ⟨ht,bU⟩;have G:=bU.one;refine Wn<|Wq<|Ws<|Rf z a_n z<|R z (l0 g_3 z<|ht.at z)<|Wn<|Wb<|Ws<|Rq z z z<|Rw z<|Wc z (fun a1=>?_) (fun a1=>?_)
 ·refine Ws<|Rf z a_z z<|R z (l0 g_3 z<|ht.at z) ?_
  obtain ⟨_,bV,bz⟩:=bdS<|ifT aq a1;refine E z (h_I (α:=UInt8) a_9 (fun _=>n_l) bV z z) ?_;rintro _ _ ⟨a8,a9,ab,rfl,aO,bW⟩;refine R z (bP (parts:=[(1,.tmp 19)]) (cs:=[vI 0,sl a8 a9 ab,sl none 0 0]) Y_ z z)<|E0 (fs0 (cur':=[vI 0,sl a8 a9 ab,sl none 0 0]) i_ z z (((J.e h1).c G<|djs<|mmr J.lt).e aO) z z z z) ?_
  rintro _ _ ⟨bX,bY⟩;have aP:=bY.one;refine Wn ?_;obtain rfl:=som bz;have aQ:=lt_ h5.s h6.s;exact Wr<|rtO<|h_ hr (r_ y_ i_ z bX z) ⟨bM (bup (bM (bup (bup h5 h6) h1) G<|m1 aQ) aO) aP<|m1 h5.s,a8,a9,ab,[wq.z],none,0,0,[],z,ii z,bW.c aP<|mm1 J.lt<|lt_ h1.s G.s,onL,na_ a_k G_<|nmN _,aa_ (m1<|lt_ (lt_ aQ h1.s) G.s) an_⟩
 have ar:=ifF aq a1;refine Ws<|Rq z z z<|Rw z<|Wc z (fun a2=>?_) (fun a2=>?_)
 ·refine Wq<|Wd (X:=noX) 4096 (pl_ 13 [9,10,12]) mo (by kernel_rfl) fun cY sf _=>dR z z (fd a_S z) ?_;have aR:=ht.e sf;refine dR z z (l0 D_ z<|aR.at z) ?_;obtain ⟨aS,bZ,bA⟩:=bdS<|ifT ar a2;have ad:=lt_ h5.s h6.s;have aT:∀k∈[wi.z],¬B k:=or0 (c_ lr)<|k_<|zt' V ad;have aU:=((h1.ag B).c G<|b_ aT).e sf;refine dRX z z (at_ (α:=Int) o_ z_3 z z z (bS.g aU) bZ) ?_;rintro _ ⟨_,_,_,rfl,c0,c1,_⟩;obtain ⟨rfl,c2⟩:=M_ c1;refine dR z z (l0 g_3 z<|c0.at0 z)<|dR z z (lN (vs:=[sl A0 N0 C0]) t_ q_ z z fid<|(((a5.e h1).c G<|djs<|mm1 hx.lt h6.s).e sf).row 0 1 z)<|dR z z (fd J_ z)<|dR z z (l0 D_ z<|aR.at z) ?_
  obtain ⟨_,c3,bB⟩:=bdS bA;refine dRX z z (at_ (α:=Int) o_ z_3 z z z (hp.g aU) c3) ?_;rintro _ ⟨_,_,_,rfl,c4,c5,_⟩;obtain ⟨rfl,c6⟩:=M_ c5;refine dR z z (l0 g_3 z<|c4.at0 z) ?_;have hy:=lt_ (lt_ (lt_ ad h1.s) G.s) sf.s;obtain ⟨aV,c7,bC⟩:=bdS bB;refine dE z z (fc call64 z<|ay.run c7 (zt' V hy) (a0.g<|((a6.e h1).c G<|b_ aT).e sf) c6) (.inr fun _ _ h=>w_<|h.1) ?_;rintro _ wm ⟨sz,c8,c9,ca,ae,cb,cd,ce,af,rfl,cf,aW,aX,ah,W⟩;refine dE z z (fS [(.tmp 32)] b_V z z z (a_c z) (lb z)<|lb z) (.inr fun _ _ h=>w_<|h.2.below) ?_;rintro _ cg ⟨rfl,ai⟩;have aY:=ai.below;have cZ:Blk cg wm.z [vI aV.number,sl c8 c9 ca,sl cb cd ce]:=ai.blk;refine dR z z (bP (parts:=[(0,.tmp 26),(2,.tmp 33)]) (cs:=[vI aS,sl none 0 0,sl (some ⟨wm.z,0,none⟩) 1 1]) Y_ z z)<|dE0 z (fs0 (cur':=[vI aS,sl none 0 0,sl (some ⟨wm.z,0,none⟩) 1 1]) i_ z z (((((J.e h1).c G<|djs<|mmr J.lt).e sf).e sz).e aY) z z z z) (.inl z) ?_
  rintro _ _ ⟨ch,ci⟩;have aZ:=ci.one;refine pD<|Wo ?_
  obtain rfl:=som bC;have aj:=lt_ (lt_ h1.s G.s) sf.s;exact Wr<|rtO<|h_ hr (r_ y_ i_ z ch z) ⟨bM (bup (bup (bup (bM (bup (bup h5 h6) h1) G<|m1 ad) sf) sz) aY) aZ<|m1 h5.s,none,0,0,[],some ⟨wm.z,0,none⟩,1,1,(wm.z::(ae++af)),z,c2,onL,(a_x ai<|d_s (x:=aV) (S1:=ae) (S2:=af) cf aW aX).c aZ (or1 d_y (aa_ (j_ (al_ W) J.lt aj)<|j_ (ar_ W) J.lt aj) (O_ (c_ J.lt)<|lt_ aj sz.s):∀k∈(wm.z::(ae++af)),k∉[wl.z]),na_ G_ (h_Q (na_ (nl_ ah) (nr_ ah)<|nj ah)<|aa_ (a_.lt aW)<|a_.lt aX) an_,aa_ an_<|a_i d_y (aa_ (l_ (al_ W) hy)<|l_ (ar_ W) hy)<|lt_ hy sz.s⟩
 refine Wq<|Ws<|Rq z z z<|Rw z ?_
 obtain ⟨cj,au,av⟩:=bdS<|ifF ar a2;refine Wt (fun a w=>∃(ak:Bool),ak=cj/\Sat 60 [(2,pt w0.z),(4,pt wl.z),(5,pt wi.z),(35,vB ak)] a/\Below wq.z wq w) ?_ ?_
 ·refine Wc z (fun a3=>?_)<|fun a3=>?_
  ·exact a_7<|fun _ q=>⟨xr.kind==6,som<|ifT au a3,q.k<|s4 z z z z,br wq⟩
  exact Wg<|Rq z z z<|Ra z<|Wl (fun _ q=>⟨xr.kind==9,som<|ifF au a3,q.k<|s4 z z z z,br wq⟩)
 rintro ck H ⟨ak,rfl,_,s3⟩;revert ck;refine Wo<|Wc z (fun a4=>?_) (fun a4=>?_)
 ·refine Ws<|R z (bP (parts:=[]) (cs:=[vI 0,sl none 0 0,sl none 0 0]) Y_ z z)<|E z (fa a_6) ?_
  rintro _ cl ⟨rfl,b0⟩;have he:=b0.below;have hu:Blk cl H.z [vI 0,sl none 0 0,sl none 0 0]:=b0.blk;refine E0 (fs0 (cur':=[vI 0,sl none 0 0,sl none 0 0]) i_ z z hu z z z z) ?_;rintro _ I ⟨cm,cn⟩;have L:=cn.one;refine Wn<|Wq<|Ws<|Rw z ?_
  obtain ⟨_,bD,aw⟩:=bdS<|ifT av a4;refine Wf (σ:=List Val) (ρ:=Val) (fun (b1:Nat)(xn:List Val) a w=>∃aa nb cc O,Sat 60 [(2,pt w0.z),(4,pt wl.z),(5,pt wi.z),(6,pt H.z),(7,vI ((b1:Nat):Int))] a/\Chg (· ∈ [H.z]) I w/\a_ w O (sl aa nb cc) xn/\O.Nodup/\(∀k∈O,I.z<=k)/\Blk w H.z [vI 0,sl none 0 0,sl aa nb cc]) (fun (xn:List Val) a w=>∃aa nb cc O,Sat 60 [(4,pt wl.z),(6,pt H.z)] a/\Chg (· ∈ [H.z]) I w/\a_ w O (sl aa nb cc) xn/\O.Nodup/\(∀k∈O,I.z<=k)/\Blk w H.z [vI 0,sl none 0 0,sl aa nb cc]) (rQ prog fn<|Q12 w0 B) bD ?_ ?_ ?_ ?_ ?_
  ·exact fun _ q=>⟨none,0,0,[],q.k<|s5 z z z z z,cr [H.z] I,onL,G_,an_,cm⟩
  ·rintro b1 xn _ co _ ax ⟨aa,nb,cc,O,bE,sg,hj,hv,hh,hw⟩ bF;refine Wu ?_ bE;refine Wq<|Wm z<|Rf z J_ z ?_
   have b2:=mm1 a7.lt<|lt_ G.s s3.s
   have b3:=(((ht.e s3).e he).c L<|djs b2).c sg<|djs b2
   refine R z (l0 D_ z<|b3.at z) ?_;have b4:=lt_ h5.s h6.s;have b5:∀k∈[wi.z],¬B k:=or0 (c_ lr)<|k_<|zt' V b4;have b6:=lt_ (lt_ (lt_ b4 h1.s) G.s) s3.s;have Y:∀k∈[H.z],¬B k:=or0 (c_ lr)<|k_<|zt' V b6;have b7:=(((((h1.ag B).c G<|b_ b5).e s3).e he).c L<|b_ Y).c sg<|b_ Y
   refine R z (lnR o_ z<|hp.g b7)<|Rl z z z<|Wx z (fun _=>?_) (fun hc=>(a_2 ax hc).elim)
   refine Wk<|Wq<|Wb (Wd (X:=noX) 5120 (pl_ 13 [8,9,10,12]) mo (by kernel_rfl) fun cp sd _=>dR z z (fd a_q z) ?_)
   have b8:=hw.e sd;refine dR z z (l0 a_P z<|b8.at z) ?_;have b9:=mm1 hx.lt<|lt_ (lt_ (lt_ h6.s h1.s) G.s) s3.s
   refine dR z z (lN (vs:=[sl A0 N0 C0]) t_ q_ z z fid<|(((((((a5.e h1).c G<|djs<|mm1 hx.lt h6.s).e s3).e he).c L<|djs b9).c sg<|djs b9).e sd).row 0 1 z)<|dR z z (fd J_ z)<|dR z z (l0 D_ z<|(b3.e sd).at z)<|dM z z z ?_
   obtain ⟨_,cq,bG⟩:=bdS bF;refine dRX z z (at_ (α:=Int) o_ z_3 z z z (hp.g<|b7.e sd) cq) ?_;rintro _ ⟨_,_,_,rfl,ct,cu,_⟩;obtain ⟨rfl,cv⟩:=M_ cu;refine dR z z (l0 g_3 z<|ct.at0 z) ?_;obtain ⟨ba,cw,bH⟩:=bdS bG;refine dE z z (fc call64 z<|ay.run cw (zt' V<|lt_ (lt_ (lt_ (lt_ b6 he.s) L.s) sg.s) sd.s) (a0.g<|((((((a6.e h1).c G<|b_ b5).e s3).e he).c L<|b_ Y).c sg<|b_ Y).e sd) cv) (.inr fun _ _ h=>w_<|h.1) ?_;rintro _ bb ⟨ss,cx,cy,cz,cA,cB,cC,cD,cE,rfl,cF,cG,cH,al,ho⟩;refine dE z z (fS [(.tmp 54)] b_V z z z (a_c z) (lb z)<|lb z) (.inr fun _ _ h=>w_<|h.2.below) ?_;rintro _ bc ⟨rfl,be⟩;have hk:=be.below;obtain ⟨cI,cJ,bI⟩:=bdS bH;refine dE z z (a_O (α:=Val) b_V cJ z z (((hj.e sd).e ss).e hk) hv (be.blk:Blk bc bb.z [vI ba.number,sl cx cy cz,sl cB cC cD]) (d_s (x:=ba) (S1:=cA) (S2:=cE) cF (cG.e hk)<|cH.e hk) (aa_ (b_e (al_ ho) (a_.lt hj) sd.s)<|b_e (ar_ ho) (a_.lt hj) sd.s)<|na_ (nl_ al) (nr_ al)<|nj al) (.inl z) ?_;rintro _ cK ⟨am,bf,bg,bh,rfl,bi,cL,cN,bj⟩;refine dR z z (fd a_q z) ?_;have bk:=j_ hh hu.lt L.s;refine dE0 z (fs0 (cur':=[vI 0,sl none 0 0,sl bf bg bh]) d_z z z (((b8.e ss).e hk).c bi<|djs bk) z z z z) (.inl z) ?_;rintro _ cO ⟨cP,cQ⟩;have bm:=cQ.one;refine pD<|Wo<|Wg<|Rm z<|R z (inc_ ax (lt_ (repS.len hp) K_) z z)<|Ra z<|Wl ?_
   have an:=lt_ (lt_ L.s sg.s) sd.s;have ao:=lt_ sg.s sd.s;exact fun _ q=>⟨cI,(som bI).symm,⟨bf,bg,bh,am,q.k<|s5 z z z z z,(cM (cM (f_ (f_ (f_ (cM (cr [H.z] I) sg (io sr):Chg (· ∈ [H.z]) I co) sd:Chg (· ∈ [H.z]) I cp) ss:Chg (· ∈ [H.z]) I bb) hk:Chg (· ∈ [H.z]) I bc) bi (or0 hh (s_ lr):∀k∈O,k∈[H.z]∨I.z<=k):Chg (· ∈ [H.z]) I cK) bm (io sr):Chg (· ∈ [H.z]) I cO),cL.c bm (or2 bj bk (aa_ (j_ (al_ ho) hu.lt an)<|j_ (ar_ ho) hu.lt an) (O_ (c_ hu.lt)<|lt_ (lt_ an ss.s) hk.s):∀k∈am,k∉[H.z]),cN,(or2 bj hh (aa_ (l_ (al_ ho) ao)<|l_ (ar_ ho) ao) (b_f<|lt_ (lt_ ao ss.s) hk.s):∀k∈am,I.z<=k),cP⟩⟩
  ·rintro xn _ cR ⟨aa,nb,cc,O,bJ,ap,hj,hv,hh,hw⟩;refine Wu ?_ bJ;refine Wq<|Wm z<|Rf z J_ z ?_
   have bn:=mm1 a7.lt<|lt_ G.s s3.s
   refine R z (l0 D_ z<|((((ht.e s3).e he).c L<|djs bn).c ap<|djs bn).at z) ?_;have bo:=lt_ h5.s h6.s;have bp:∀k∈[H.z],¬B k:=or0 (c_ lr)<|k_<|zt' V<|lt_ (lt_ (lt_ bo h1.s) G.s) s3.s;refine R z (lnR o_ z<|hp.g<|(((((h1.ag B).c G<|b_ (or0 (c_ lr) (k_<|zt' V bo):∀k∈[wi.z],¬B k)).e s3).e he).c L<|b_ bp).c ap<|b_ bp)<|Rl z z z<|Wx z (fun hc=>(a_3 hc).elim) (fun _=>?_)
   exact We<|fun _ q=>⟨rfl,⟨aa,nb,cc,O,q.k<|s2 z z,(cM (cr [H.z] I) ap (io sr):Chg (· ∈ [H.z]) I cR),hj,hv,hh,hw⟩⟩
  ·rintro xn cS _ rfl ⟨aa,nb,cc,O,_,bq,hj,hv,hh,hw⟩;have bK:=elL aw;revert cS;refine Wo<|Ws<|R z (lN (vs:=[vI 0,sl none 0 0,sl aa nb cc]) y_ i_ z z fid<|hw.row 0 3 z) ?_
   have bs:=lt_ (lt_ h1.s G.s) s3.s;have bt:=mm1 J.lt bs;refine E0 (fs0 (cur':=[vI 0,sl none 0 0,sl aa nb cc]) i_ z z ((((((J.e h1).c G<|djs<|mmr J.lt).e s3).e he).c L<|djs bt).c bq<|djs bt) z z z z) ?_;rintro _ _ ⟨cT,cU⟩;have bu:=cU.one;refine Wn ?_;obtain rfl:=som bK;have bv:=lt_ h5.s h6.s;have bw:=lt_ (lt_ (lt_ bv h1.s) G.s) s3.s;have bx:=m1 bw;exact Wr<|rtO<|h_ hr (r_ y_ i_ z cT z) ⟨bM (bM (bM (bup (bup (bM (bup (bup h5 h6) h1) G<|m1 bv) s3) he) L bx) bq bx) bu<|m1 h5.s,none,0,0,[],aa,nb,cc,O,z,ii z,onL,hj.c bu<|j_ hh J.lt<|lt_ (lt_ bs he.s) L.s,na_ G_ hv an_,aa_ an_<|l_ hh<|lt_ (lt_ bw he.s) L.s⟩
  rintro _ _ _ _ rfl ⟨rfl,bL⟩;have bN:=elR aw;obtain rfl:=som bN;exact ⟨bL,z⟩
 refine Wk<|Ws<|R z (bP (parts:=[]) (cs:=[vI 0,sl none 0 0,sl none 0 0]) Y_ z z)<|E0 (fs0 (cur':=[vI 0,sl none 0 0,sl none 0 0]) i_ z z (((J.e h1).c G<|djs<|mmr J.lt).e s3) z z z z) ?_
 rintro _ _ ⟨cV,cW⟩;refine Wn ?_;obtain rfl:=som<|ifF av a4;exact Wr<|h_ hr (r_ y_ i_ z cV z) ⟨bM (bup (bM (bup (bup h5 h6) h1) G<|m1<|lt_ h5.s h6.s) s3) cW.one<|m1 h5.s,none,0,0,[],none,0,0,[],z,ii z,onL,onL,nd0,al0⟩
theorem A_w0e:∀n,k_W n
  | 0=>⟨fun hm=>by intros;exact nomatch (show none=some _ from hm)⟩
  | n+1=>T_w0e<|A_w0e n
theorem W_w0e:j_c (e_h n).spec_l9Default:=A_w0e n
theorem W_w29 {x1:d_}{x2:Int}{res:Val}(hm:i_J n x1 x2=some res)(V:B<=w0.z)(L:repS w0 B (sl A0 N0 C0) x1.rules)(O:inI x2):n_ prog 40 [(.agg #[sl A0 N0 C0]),vI x2] w0 (Q12 w0 B res):=by
 unfold i_J at hm
 refine goG func40 z z z fun fn hr=>Ws<|E z (fb z) ?_
 rintro _ W ⟨rfl,ha⟩;have h1:=ha.below;refine E z (fa a_6) ?_;rintro _ wo ⟨rfl,hb⟩;have h2:=hb.below;have h3:Blk wo W.z [vI 0,sl none 0 0,sl none 0 0]:=hb.blk;refine Wn<|Wq<|Ws ?_
 have hc:=(ha.blk:Blk W w0.z [sl A0 N0 C0]).e h2;refine R z (lN (vs:=[sl A0 N0 C0]) t_ q_ z z fid<|hc.row 0 1 z)<|Rm z ?_
 have hd:=(h1.ag B).e h2;have he:=lt_ h1.s h2.s;obtain ⟨_,ep,hmf⟩:=bdS hm;refine E z (fc call63 z<|j_b ep (zt' V he) (L.g hd) O) ?_;rintro _ _ ⟨G,rfl⟩;refine R z (not_ z)<|Wx z (fun H=>?_) (fun H=>?_)
 ·refine Ws<|R z (bP (parts:=[]) (cs:=[vI 0,sl none 0 0,sl none 0 0]) Y_ z z)<|E0 (fs0 (cur':=[vI 0,sl none 0 0,sl none 0 0]) i_ z z (h3.e G) z z z z) ?_
  rintro _ _ ⟨hq,sr⟩;refine Wn ?_;obtain rfl:=som<|ifT hmf H;exact Wr<|h_ hr (r_ y_ i_ z hq z) ⟨bM (bup (bup h1 h2) G) sr.one<|m1 h1.s,none,0,0,[],none,0,0,[],z,ii z,onL,onL,nd0,al0⟩
 refine Wk<|Ws<|R z (lN (vs:=[sl A0 N0 C0]) t_ q_ z z fid<|(hc.e G).row 0 1 z)<|Rm z ?_
 have h6:=lt_ he G.s;obtain ⟨rs,et,hmu⟩:=bdS<|ifF hmf H;refine E z (fc call64 z<|W_w0e.run et (zt' V h6) (L.g<|hd.e G) O) ?_;rintro _ _ ⟨sg,ah,ni,cj,Sv,ak,nl,cm,Sw,rfl,hx,hy,hz,I,h4⟩;refine E0 (fs0 (cur':=[vI rs.number,sl ah ni cj,sl ak nl cm]) i_ z z ((h3.e G).e sg) z z z z) ?_;rintro _ _ ⟨Y,a0⟩;have J:=a0.one;refine Wn ?_;obtain rfl:=som hmu;exact Wr<|h_ hr (r_ y_ i_ z Y z) ⟨bM (bup (bup (bup h1 h2) G) sg) J<|m1 h1.s,ah,ni,cj,Sv,ak,nl,cm,Sw,z,hx,hy.c J<|j_ (al_ h4) h3.lt G.s,hz.c J<|j_ (ar_ h4) h3.lt G.s,na_ (nl_ I) (nr_ I)<|nj I,aa_ (l_ (al_ h4) h6)<|l_ (ar_ h4) h6⟩
theorem W_w2a {x1:d_}{x2:e_}{x3:Val}{res:Bool}(hm:g_l x1 x2 x3=some res)(a0:B<=w0.z)(aq:repS w0 B (sl A0 N0 C0) x1.rules)(bg:x2.name.b.length<=LEN)(bh:inI x2.kind)(ar:inI x2.size)(bi:repS w0 B (sl A2 N2 C2) x2.bytes)(bj:repS w0 B (sl A3 N3 C3) x2.names)(bk:repS w0 B (sl A1 N1 C1) x2.tags)(a1:repS w0 B (sl A4 N4 C4) x2.kids)(au:inI x3.number)(W:repS w0 B (sl A9 N9 C9) x3.bytes)(Y:repS w0 B (sl AA NA CA) x3.items):n_ prog 135 [(.agg #[sl A0 N0 C0]),.agg #[Str.v x2.name,vI x2.kind,vI x2.size,vB x2.little,sl A2 N2 C2,sl A3 N3 C3,sl A1 N1 C1,sl A4 N4 C4],(.agg #[vI x3.number,sl A9 N9 C9,sl AA NA CA])] w0 (Q0 w0 B res):=by
 unfold g_l at hm
 refine goG func135 z z z fun fn hr=>Ws<|E z (fb z) ?_
 rintro _ aX ⟨rfl,aY⟩;have h3:=aY.below;have aZ:Blk aX w0.z [sl A0 N0 C0]:=aY.blk;refine E z (fb z) ?_;rintro _ b0 ⟨rfl,b1⟩;have h2:=b1.below;refine E z (fb z) ?_;rintro _ G ⟨rfl,b2⟩;have H:=b2.below;have h4:Blk G b0.z [vI x3.number,sl A9 N9 C9,sl AA NA CA]:=b2.blk;refine Rw z<|Wq<|Ws<|Rf z a_n z ?_
 have ht:=(b1.blk:Blk b0 aX.z (vR x2 A2 N2 C2 A3 N3 C3 A1 N1 C1 A4 N4 C4)).e H;refine R z (l0 g_3 z<|ht.at z)<|Wn<|Wb<|Ws<|Rq z z z<|Rw z<|Wc z (fun a2=>?_) (fun a2=>?_)
 ·refine Wq ?_;obtain ⟨bH,bm,bn⟩:=bdS<|ifT hm a2;refine Wt (fun a w=>∃(ab:Bool),ab=bH/\Sat 202 [(6,vB ab)] a/\Below G.z G w) ?_ ?_
  ·refine Wd (X:=noX) 0 (pl_ 20 [4,6]) mo (by kernel_rfl) fun cz sr _=>dR z z (fd b_3 z) ?_
   have b3:=h4.e sr;refine dR z z (l0 g_3 z<|b3.at z)<|dR z z (fd a_z z)<|dR z z (l0 g_3 z<|(ht.e sr).at z) ?_
   have b4:=lt_ (lt_ (lt_ h3.s h2.s) H.s) sr.s;obtain ⟨_,bI,bo⟩:=bdS bm;refine dE z z (fc call35 z<|h_X bI (zt' a0 b4) ar) (.inr fun _ _ h=>w_<|h.1) ?_;rintro _ _ ⟨ss,rfl,_⟩;refine dR z z (sb_ z z) ?_;obtain ⟨bJ,bK,av⟩:=bdS bo;refine dE z z (fc call99 z<|b_h bK (zt' a0<|lt_ b4 ss.s) au (ii z)<|iS _ _) (.inr fun _ _ h=>w_<|h.1) ?_;rintro _ _ ⟨sv,rfl⟩;refine dM z z z ?_
   rcases bs bJ with hca | hca
   ·have aw:=ifT av hca;refine dRg z z z hca z (fd b_4 z) ?_;have b5:=(b3.e ss).e sv;refine dRg z z z hca z (l0 P_ z<|b5.at z) ?_;have b6:=(((((h3.ag B).e h2).e H).e sr).e ss).e sv;refine dRg z z z hca z (lnR p_ z<|W.g b6)<|dRg z z z hca z (eql z z)<|dR z z (pT z hca z)<|dM z z z ?_
    rcases bs ((x3.bytes.length:Int)==0) with hcb | hcb
    ·exact dRg z z z hcb z (fd a_q z)<|dRg z z z hcb z (l0 a_P z<|b5.at z)<|dRg z z z hcb z (lnR b_5 z<|Y.g b6)<|dRg z z z hcb z (eql z z)<|dR z z (pT z hcb z)<|dQ z z z<|pD (fun _ q=>⟨(x3.items.length:Int)==0,som<|ifT aw hcb,q.k<|s1 z,bup (bup sr ss) sv⟩)
    iterate 4 refine dRn z z z hcb z ?_
    exact dR z z (pF z hcb z)<|dQ z z z<|pD (fun _ q=>⟨false,som<|ifF aw hcb,q.k<|s1 z,bup (bup sr ss) sv⟩)
   iterate 4 refine dRn z z z hca z ?_
   refine dR z z (pF z hca z)<|dM z z z ?_
   iterate 4 refine dRn z z z z z ?_
   exact dR z z (pF z z z)<|dQ z z z<|pD (fun _ q=>⟨false,som<|ifF av hca,q.k<|s1 z,bup (bup sr ss) sv⟩)
  rintro bL _ ⟨ab,rfl,_,bM⟩;revert bL;refine Wo ?_;obtain rfl:=som bn;exact Wr<|rtO<|h_ hr z ⟨bup (bup (bup h3 h2) H) bM,z⟩
 have ax:=ifF hm a2;refine Ws<|Rq z z z<|Rw z<|Wc z (fun a3=>?_) (fun a3=>?_)
 ·refine Wq ?_;obtain ⟨bN,ay,bp⟩:=bdS<|ifT ax a3;refine Wt (fun a w=>∃(ad:Bool),ad=bN/\Sat 202 [(6,vB ad)] a/\Below G.z G w) ?_ ?_
  ·refine Wg<|Rf z b_3 z<|R z (l0 g_3 z<|h4.at z)<|Rq z z z<|Rm z ?_
   rcases bs (x3.number==0) with hcc | hcc
   ·have az:=ifT ay hcc;refine Rh z hcc (fd b_4 z)<|Rh z hcc (l0 P_ z<|h4.at z) ?_
    have b7:=((h3.ag B).e h2).e H;refine Rh z hcc (lnR p_ z<|W.g b7)<|Rh z hcc (eql z z)<|R z (pT z hcc z)<|Rm z ?_
    rcases bs ((x3.bytes.length:Int)==0) with hcd | hcd
    ·exact Rh z hcd (fd a_q z)<|Rh z hcd (l0 a_P z<|h4.at z)<|Rh z hcd (lnR b_5 z<|Y.g b7)<|Rh z hcd (eql z z)<|R z (pT z hcd z)<|Ra z<|Wl (fun _ q=>⟨(x3.items.length:Int)==0,som<|ifT az hcd,q.k<|s1 z,br G⟩)
    iterate 4 refine Nh z hcd ?_
    exact R z (pF z hcd z)<|Ra z<|Wl (fun _ q=>⟨false,som<|ifF az hcd,q.k<|s1 z,br G⟩)
   iterate 4 refine Nh z hcc ?_
   exact R z (pF z hcc z)<|Rm z<|Nh z z<|Nh z z<|Nh z z<|Nh z z<|R z (pF z z z)<|Ra z<|Wl (fun _ q=>⟨false,som<|ifF ay hcc,q.k<|s1 z,br G⟩)
  rintro bO _ ⟨ad,rfl,_,bP⟩;revert bO;refine Wo ?_;obtain rfl:=som bp;exact Wr<|rtO<|h_ hr z ⟨bup (bup (bup h3 h2) H) bP,z⟩
 have aA:=ifF ax a3;refine Ws<|Rq z z z<|Rw z<|Wc z (fun a4=>?_) (fun a4=>?_)
 ·refine Wq ?_;obtain ⟨bQ,aB,bq⟩:=bdS<|ifT aA a4;refine Wt (fun a w=>∃(ae:Bool),ae=bQ/\Sat 202 [(6,vB ae)] a/\Below G.z G w) ?_ ?_
  ·refine Wg<|Rf z b_3 z<|R z (l0 g_3 z<|h4.at z)<|Rq z z z<|Rm z ?_
   rcases bs (x3.number==0) with O | O
   ·have aC:=ifT aB O;refine Rh z O (fd b_4 z)<|Rh z O (l0 P_ z<|h4.at z) ?_
    have b8:=((h3.ag B).e h2).e H;refine Rh z O (lnR p_ z<|W.g b8)<|Rh z O (fd a_z z)<|Rh z O (l0 g_3 z<|ht.at z)<|Rh z O (eql z z)<|R z (pT z O z)<|Rm z ?_
    rcases bs ((x3.bytes.length:Int)==x2.size) with hce | hce
    ·exact Rh z hce (fd a_q z)<|Rh z hce (l0 a_P z<|h4.at z)<|Rh z hce (lnR b_5 z<|Y.g b8)<|Rh z hce (eql z z)<|R z (pT z hce z)<|Ra z<|Wl (fun _ q=>⟨(x3.items.length:Int)==0,som<|ifT aC hce,q.k<|s1 z,br G⟩)
    iterate 4 refine Nh z hce ?_
    exact R z (pF z hce z)<|Ra z<|Wl (fun _ q=>⟨false,som<|ifF aC hce,q.k<|s1 z,br G⟩)
   iterate 6 refine Nh z O ?_
   exact R z (pF z O z)<|Rm z<|Nh z z<|Nh z z<|Nh z z<|Nh z z<|R z (pF z z z)<|Ra z<|Wl (fun _ q=>⟨false,som<|ifF aB O,q.k<|s1 z,br G⟩)
  rintro bR _ ⟨ae,rfl,_,bS⟩;revert bR;refine Wo ?_;obtain rfl:=som bq;exact Wr<|rtO<|h_ hr z ⟨bup (bup (bup h3 h2) H) bS,z⟩
 have aD:=ifF aA a4;refine Ws<|Rq z z z<|Rw z<|Wc z (fun a5=>?_) (fun a5=>?_)
 ·refine Wq ?_;obtain ⟨bT,aE,bt⟩:=bdS<|ifT aD a5;refine Wt (fun a w=>∃(af:Bool),af=bT/\Sat 202 [(6,vB af)] a/\Below G.z G w) ?_ ?_
  ·refine Wd (X:=noX) 0 (pl_ 23 [12,13]) mo (by kernel_rfl) fun cA sp _=>dR z z (fd b_3 z) ?_
   have ah:=h4.e sp;refine dR z z (l0 g_3 z<|ah.at z)<|dR z z (eql z z)<|dM z z z ?_
   rcases bs (x3.number==0) with I | I
   ·refine dRg z z z I z (fd b_4 z)<|dRg z z z I z (l0 P_ z<|ah.at z) ?_
    have hx:=(((h3.ag B).e h2).e H).e sp;refine dRg z z z I z (lnR p_ z<|W.g hx)<|dRg z z z I z (lN (vs:=[sl A0 N0 C0]) t_ q_ z z fid<|(((aZ.e h2).e H).e sp).row 0 1 z)<|dRg z z z I z (fd J_ z)<|dRg z z z I z (l0 D_ z<|(ht.e sp).at z) ?_
    obtain ⟨_,bU,bu⟩:=bdS<|ifT aE I;refine b_L z z z I z (at_ (α:=Int) o_ z_3 z z z (a1.g hx) bU) ?_;rintro _ ⟨_,_,_,rfl,bV,bW,_⟩;obtain ⟨rfl,bX⟩:=M_ bW;refine dRg z z z I z (l0 g_3 z<|bV.at0 z) ?_;have b9:=lt_ (lt_ (lt_ h3.s h2.s) H.s) sp.s;obtain ⟨_,bY,bv⟩:=bdS bu;refine dEg z z z I z (fc call142 z<|f_N bY (zt' a0 b9) (aq.g hx) bX) (.inr fun _ _ h=>w_<|h.1) ?_;rintro _ _ ⟨sw,rfl,bZ⟩;obtain ⟨c0,c1,aF⟩:=bdS bv;refine dEg z z z I z (fc call34 z<|f_M c1 (zt' a0<|lt_ b9 sw.s) (ii z) bZ) (.inr fun _ _ h=>w_<|h.1) ?_;rintro _ _ ⟨sy,rfl,_⟩;refine dRg z z z I z (b_C z z)<|dR z z (pT z I z)<|dM z z z ?_
    rcases bs (decide<|(x3.bytes.length:Int)<=c0) with hcf | hcf
    ·exact dRg z z z hcf z (fd a_q z)<|dRg z z z hcf z (l0 a_P z<|((ah.e sw).e sy).at z)<|dRg z z z hcf z (lnR b_5 z<|Y.g<|(hx.e sw).e sy)<|dRg z z z hcf z (eql z z)<|dR z z (pT z hcf z)<|dQ z z z<|pD (fun _ q=>⟨(x3.items.length:Int)==0,som<|ifT aF hcf,q.k<|s1 z,bup (bup sp sw) sy⟩)
    iterate 4 refine dRn z z z hcf z ?_
    exact dR z z (pF z hcf z)<|dQ z z z<|pD (fun _ q=>⟨false,som<|ifF aF hcf,q.k<|s1 z,bup (bup sp sw) sy⟩)
   iterate 8 refine dRn z z z I z ?_
   refine dEn z z z I z<|dEn z z z I z<|dRn z z z I z<|dR z z (pF z I z)<|dM z z z ?_
   iterate 4 refine dRn z z z z z ?_
   exact dR z z (pF z z z)<|dQ z z z<|pD (fun _ q=>⟨false,som<|ifF aE I,q.k<|s1 z,sp⟩)
  rintro c2 _ ⟨af,rfl,_,c3⟩;revert c2;refine Wo ?_;obtain rfl:=som bt;exact Wr<|rtO<|h_ hr z ⟨bup (bup (bup h3 h2) H) c3,z⟩
 have aG:=ifF aD a5;refine Ws<|Rq z z z<|Rw z<|Wc z (fun a6=>?_) (fun a6=>?_)
 ·refine Wq ?_;obtain ⟨c4,aH,bw⟩:=bdS<|ifT aG a6;refine Wt (fun a w=>∃(ai:Bool),ai=c4/\Sat 202 [(6,vB ai)] a/\Below G.z G w) ?_ ?_
  ·refine Wg<|Rf z b_3 z<|R z (l0 g_3 z<|h4.at z)<|Rq z z z<|Rm z ?_
   rcases bs (x3.number==0) with hcg | hcg
   ·have aI:=ifT aH hcg;refine Rh z hcg (fd b_4 z)<|Rh z hcg (l0 P_ z<|h4.at z) ?_
    have ba:=((h3.ag B).e h2).e H;refine Rh z hcg (lnR p_ z<|W.g ba)<|Rh z hcg (b_C z z)<|R z (pT z hcg z)<|Rm z ?_
    rcases bs (decide<|(x3.bytes.length:Int)<=400) with hch | hch
    ·exact Rh z hch (fd a_q z)<|Rh z hch (l0 a_P z<|h4.at z)<|Rh z hch (lnR b_5 z<|Y.g ba)<|Rh z hch (eql z z)<|R z (pT z hch z)<|Ra z<|Wl (fun _ q=>⟨(x3.items.length:Int)==0,som<|ifT aI hch,q.k<|s1 z,br G⟩)
    iterate 4 refine Nh z hch ?_
    exact R z (pF z hch z)<|Ra z<|Wl (fun _ q=>⟨false,som<|ifF aI hch,q.k<|s1 z,br G⟩)
   iterate 4 refine Nh z hcg ?_
   exact R z (pF z hcg z)<|Rm z<|Nh z z<|Nh z z<|Nh z z<|Nh z z<|R z (pF z z z)<|Ra z<|Wl (fun _ q=>⟨false,som<|ifF aH hcg,q.k<|s1 z,br G⟩)
  rintro c5 _ ⟨ai,rfl,_,c6⟩;revert c5;refine Wo ?_;obtain rfl:=som bw;exact Wr<|rtO<|h_ hr z ⟨bup (bup (bup h3 h2) H) c6,z⟩
 have aJ:=ifF aG a6;refine Ws<|Rq z z z<|Rw z<|Wc z (fun a7=>?_) (fun a7=>?_)
 ·refine Wq ?_;obtain ⟨c7,aK,bx⟩:=bdS<|ifT aJ a7;refine Wt (fun a w=>∃(aj:Bool),aj=c7/\Sat 202 [(6,vB aj)] a/\Below G.z G w) ?_ ?_
  ·refine Wd (X:=noX) 0 (pl_ 23 [18,19]) mo (by kernel_rfl) fun cB sq _=>dR z z (fd b_3 z) ?_
   have ak:=h4.e sq;refine dR z z (l0 g_3 z<|ak.at z)<|dR z z (eql z z)<|dM z z z ?_
   rcases bs (x3.number==0) with hci | hci
   ·have aL:=ifT aK hci;refine dRg z z z hci z (fd b_4 z)<|dRg z z z hci z (l0 P_ z<|ak.at z) ?_
    have hz:=(((h3.ag B).e h2).e H).e sq;refine dRg z z z hci z (lnR p_ z<|W.g hz)<|dRg z z z hci z (eql z z)<|dR z z (pT z hci z)<|dM z z z ?_
    rcases bs ((x3.bytes.length:Int)==0) with J | J
    ·refine dRg z z z J z (fd a_q z)<|dRg z z z J z (l0 a_P z<|ak.at z)<|dRg z z z J z (lnR b_5 z<|Y.g hz)<|dRg z z z J z (lN (vs:=[sl A0 N0 C0]) t_ q_ z z fid<|(((aZ.e h2).e H).e sq).row 0 1 z)<|dRg z z z J z (fd J_ z)<|dRg z z z J z (l0 D_ z<|(ht.e sq).at z) ?_
     obtain ⟨_,c8,bz⟩:=bdS<|ifT aL J;refine b_L z z z J z (at_ (α:=Int) o_ z_3 z z z (a1.g hz) c8) ?_;rintro _ ⟨_,_,_,rfl,c9,ca,_⟩;obtain ⟨rfl,cb⟩:=M_ ca;refine dRg z z z J z (l0 g_3 z<|c9.at0 z) ?_;have bb:=lt_ (lt_ (lt_ h3.s h2.s) H.s) sq.s;obtain ⟨_,cc,bA⟩:=bdS bz;refine dEg z z z J z (fc call142 z<|f_N cc (zt' a0 bb) (aq.g hz) cb) (.inr fun _ _ h=>w_<|h.1) ?_;rintro _ _ ⟨bc,rfl,cd⟩;obtain ⟨ce,cf,bB⟩:=bdS bA;refine dEg z z z J z (fc call34 z<|f_M cf (zt' a0<|lt_ bb bc.s) (ii z) cd) (.inr fun _ _ h=>w_<|h.1) ?_;rintro _ _ ⟨cg,rfl,_⟩;exact dRg z z z J z (b_C z z)<|dR z z (pT z J z)<|dQ z z z<|pD (fun _ q=>⟨decide<|(x3.items.length:Int)<=ce,som bB,q.k<|s1 z,bup (bup sq bc) cg⟩)
    iterate 8 refine dRn z z z J z ?_
    exact dEn z z z J z<|dEn z z z J z<|dRn z z z J z<|dR z z (pF z J z)<|dQ z z z<|pD (fun _ q=>⟨false,som<|ifF aL J,q.k<|s1 z,sq⟩)
   iterate 4 refine dRn z z z hci z ?_
   refine dR z z (pF z hci z)<|dM z z z ?_
   iterate 8 refine dRn z z z z z ?_
   exact dEn z z z z z<|dEn z z z z z<|dRn z z z z z<|dR z z (pF z z z)<|dQ z z z<|pD (fun _ q=>⟨false,som<|ifF aK hci,q.k<|s1 z,sq⟩)
  rintro ch _ ⟨aj,rfl,_,ci⟩;revert ch;refine Wo ?_;obtain rfl:=som bx;exact Wr<|rtO<|h_ hr z ⟨bup (bup (bup h3 h2) H) ci,z⟩
 have aM:=ifF aJ a7;refine Ws<|Rq z z z<|Rw z<|Wc z (fun a8=>?_) (fun a8=>?_)
 ·refine Wq ?_;obtain ⟨cj,aN,bC⟩:=bdS<|ifT aM a8;refine Wt (fun a w=>∃(al:Bool),al=cj/\Sat 202 [(6,vB al)] a/\Below G.z G w) ?_ ?_
  ·refine Wg<|Rf z b_3 z<|R z (l0 g_3 z<|h4.at z)<|Rq z z z<|Rm z ?_
   rcases bs (x3.number==0) with hcj | hcj
   ·have aO:=ifT aN hcj;refine Rh z hcj (fd b_4 z)<|Rh z hcj (l0 P_ z<|h4.at z) ?_
    have am:=((h3.ag B).e h2).e H;refine Rh z hcj (lnR p_ z<|W.g am)<|Rh z hcj (eql z z)<|R z (pT z hcj z)<|Rm z ?_
    rcases bs ((x3.bytes.length:Int)==0) with L | L
    ·exact Rh z L (fd a_q z)<|Rh z L (l0 a_P z<|h4.at z)<|Rh z L (lnR b_5 z<|Y.g am)<|Rh z L (fd J_ z)<|Rh z L (l0 D_ z<|ht.at z)<|Rh z L (lnR o_ z<|a1.g am)<|Rh z L (eql z z)<|R z (pT z L z)<|Ra z<|Wl (fun _ q=>⟨(x3.items.length:Int)==(x2.kids.length:Int),som<|ifT aO L,q.k<|s1 z,br G⟩)
    iterate 7 refine Nh z L ?_
    exact R z (pF z L z)<|Ra z<|Wl (fun _ q=>⟨false,som<|ifF aO L,q.k<|s1 z,br G⟩)
   iterate 4 refine Nh z hcj ?_
   exact R z (pF z hcj z)<|Rm z<|Nh z z<|Nh z z<|Nh z z<|Nh z z<|Nh z z<|Nh z z<|Nh z z<|R z (pF z z z)<|Ra z<|Wl (fun _ q=>⟨false,som<|ifF aN hcj,q.k<|s1 z,br G⟩)
  rintro ck _ ⟨al,rfl,_,cl⟩;revert ck;refine Wo ?_;obtain rfl:=som bC;exact Wr<|rtO<|h_ hr z ⟨bup (bup (bup h3 h2) H) cl,z⟩
 have aP:=ifF aM a8;refine Ws<|Rq z z z<|Rw z<|Wc z (fun a9=>?_) (fun a9=>?_)
 ·refine Wq ?_;obtain ⟨cm,aQ,bD⟩:=bdS<|ifT aP a9;refine Wt (fun a w=>∃(an:Bool),an=cm/\Sat 202 [(6,vB an)] a/\Below G.z G w) ?_ ?_
  ·refine Wg<|Rf z b_4 z<|R z (l0 P_ z<|h4.at z) ?_
   have hu:=((h3.ag B).e h2).e H;refine R z (lnR p_ z<|W.g hu)<|Rq z z z<|Rm z ?_
   rcases bs ((x3.bytes.length:Int)==0) with hck | hck
   ·have aR:=ifT aQ hck;refine Rh z hck (fd a_q z)<|Rh z hck (l0 a_P z<|h4.at z)<|Rh z hck (lnR b_5 z<|Y.g hu)<|Rh z hck (eql z z)<|R z (pT z hck z)<|Rm z ?_
    rcases bs ((x3.items.length:Int)==1) with V | V
    ·refine Rh z V (lN (vs:=vR x2 A2 N2 C2 A3 N3 C3 A1 N1 C1 A4 N4 C4) I_ m_ z z fid<|ht.row 0 8 z)<|Rh z V (fd b_3 z)<|Rh z V (l0 g_3 z<|h4.at z) ?_
     obtain ⟨cn,co,bE⟩:=bdS<|ifT aR V;refine Eg z z V z (fc call31 z<|d_a co (zt' a0<|lt_ (lt_ h3.s h2.s) H.s) bg bh ar (bi.g hu) (bj.g hu) (bk.g hu) (a1.g hu) au<|ii z) ?_;rintro _ _ ⟨cp,rfl,_⟩;exact Rh z V (b_i z z)<|R z (pT z V z)<|Ra z<|Wl (fun _ q=>⟨decide<|0<=cn,som bE,q.k<|s1 z,cp⟩)
    iterate 5 refine Nh z V ?_
    exact R z (pF z V z)<|Ra z<|Wl (fun _ q=>⟨false,som<|ifF aR V,q.k<|s1 z,br G⟩)
   iterate 4 refine Nh z hck ?_
   exact R z (pF z hck z)<|Rm z<|Nh z z<|Nh z z<|Nh z z<|Nh z z<|Nh z z<|R z (pF z z z)<|Ra z<|Wl (fun _ q=>⟨false,som<|ifF aQ hck,q.k<|s1 z,br G⟩)
  rintro cq _ ⟨an,rfl,_,cr⟩;revert cq;refine Wo ?_;obtain rfl:=som bD;exact Wr<|rtO<|h_ hr z ⟨bup (bup (bup h3 h2) H) cr,z⟩
 have aS:=ifF aP a9;refine Ws<|Rq z z z<|Rw z<|Wc z (fun aa=>?_) (fun aa=>?_)
 ·refine Wq ?_;obtain ⟨ct,aT,bF⟩:=bdS<|ifT aS aa;refine Wt (fun a w=>∃(ao:Bool),ao=ct/\Sat 202 [(6,vB ao)] a/\Below G.z G w) ?_ ?_
  ·refine Wg<|Rf z b_3 z<|R z (l0 g_3 z<|h4.at z)<|Rq z z z<|Rm z ?_
   rcases bs (x3.number==0) with hcl | hcl
   ·have aU:=ifT aT hcl;refine Rh z hcl (fd b_4 z)<|Rh z hcl (l0 P_ z<|h4.at z) ?_
    have be:=((h3.ag B).e h2).e H;refine Rh z hcl (lnR p_ z<|W.g be)<|Rh z hcl (eql z z)<|R z (pT z hcl z)<|Rm z ?_
    rcases bs ((x3.bytes.length:Int)==0) with hcm | hcm
    ·exact Rh z hcm (fd a_q z)<|Rh z hcm (l0 a_P z<|h4.at z)<|Rh z hcm (lnR b_5 z<|Y.g be)<|Rh z hcm (b_C z z)<|R z (pT z hcm z)<|Ra z<|Wl (fun _ q=>⟨decide<|(x3.items.length:Int)<=1,som<|ifT aU hcm,q.k<|s1 z,br G⟩)
    iterate 4 refine Nh z hcm ?_
    exact R z (pF z hcm z)<|Ra z<|Wl (fun _ q=>⟨false,som<|ifF aU hcm,q.k<|s1 z,br G⟩)
   iterate 4 refine Nh z hcl ?_
   exact R z (pF z hcl z)<|Rm z<|Nh z z<|Nh z z<|Nh z z<|Nh z z<|R z (pF z z z)<|Ra z<|Wl (fun _ q=>⟨false,som<|ifF aT hcl,q.k<|s1 z,br G⟩)
  rintro cu _ ⟨ao,rfl,_,cv⟩;revert cu;refine Wo ?_;obtain rfl:=som bF;exact Wr<|rtO<|h_ hr z ⟨bup (bup (bup h3 h2) H) cv,z⟩
 refine Wk<|Wq ?_
 obtain ⟨cw,aV,bG⟩:=bdS<|ifF aS aa;refine Wt (fun a w=>∃(ap:Bool),ap=cw/\Sat 202 [(6,vB ap)] a/\Below G.z G w) ?_ ?_
 ·refine Wg<|Rf z b_3 z<|R z (l0 g_3 z<|h4.at z)<|Rq z z z<|Rm z ?_
  rcases bs (x3.number==0) with hcn | hcn
  ·have aW:=ifT aV hcn;refine Rh z hcn (fd b_4 z)<|Rh z hcn (l0 P_ z<|h4.at z) ?_
   have bf:=((h3.ag B).e h2).e H;refine Rh z hcn (lnR p_ z<|W.g bf)<|Rh z hcn (eql z z)<|R z (pT z hcn z)<|Rm z ?_
   rcases bs ((x3.bytes.length:Int)==0) with hco | hco
   ·exact Rh z hco (fd a_q z)<|Rh z hco (l0 a_P z<|h4.at z)<|Rh z hco (lnR b_5 z<|Y.g bf)<|Rh z hco (eql z z)<|R z (pT z hco z)<|Ra z<|Wl (fun _ q=>⟨(x3.items.length:Int)==1,som<|ifT aW hco,q.k<|s1 z,br G⟩)
   iterate 4 refine Nh z hco ?_
   exact R z (pF z hco z)<|Ra z<|Wl (fun _ q=>⟨false,som<|ifF aW hco,q.k<|s1 z,br G⟩)
  iterate 4 refine Nh z hcn ?_
  exact R z (pF z hcn z)<|Rm z<|Nh z z<|Nh z z<|Nh z z<|Nh z z<|R z (pF z z z)<|Ra z<|Wl (fun _ q=>⟨false,som<|ifF aV hcn,q.k<|s1 z,br G⟩)
 rintro cx _ ⟨ap,rfl,_,cy⟩;revert cx;refine Wo ?_;obtain rfl:=som bG;exact Wr<|h_ hr z ⟨bup (bup (bup h3 h2) H) cy,z⟩
structure j_d (f:d_->Int->Val->Option Bool):Prop where
  run:∀{A0 A9 AA:Option Addr}{N0 C0 N9 C9 NA CA:Nat}{B:Zone}{x1:d_}{x2:Int}{x3:Val}{res:Bool}{w0:World}(hm:f x1 x2 x3=some res)(hBw:B<=w0.z)(p1_0:repS w0 B (sl A0 N0 C0) x1.rules)(p2_0:inI x2)(p3_0:inI x3.number)(p3_1:repS w0 B (sl A9 N9 C9) x3.bytes)(p3_2:repS w0 B (sl AA NA CA) x3.items),n_ prog 119 [(.agg #[sl A0 N0 C0]),vI x2,(.agg #[vI x3.number,sl A9 N9 C9,sl AA NA CA])] w0<|Q0 w0 B res
abbrev k_X (n:Nat):Prop:=j_d (d_M n).spec_l9Valid
theorem T_w0f (aH:k_X n):j_d (g_m n<|d_M n):=by
 constructor
 intro A0 A9 AA N0 C0 N9 C9 NA CA B x1 x2 x3 res w0 hm O V b6 W aw H;unfold g_m at hm
 refine goG func119 z z z fun fn hr=>Ws<|E z (fb z) ?_
 rintro _ wr ⟨rfl,hx⟩;have I:=hx.below;have hy:Blk wr w0.z [sl A0 N0 C0]:=hx.blk;refine E z (fb z) ?_;rintro _ wc ⟨rfl,hz⟩;have h4:=hz.below;have a2:Blk wc wr.z [vI x3.number,sl A9 N9 C9,sl AA NA CA]:=hz.blk;refine Rw z<|Ws<|Rf z R_ z ?_
 have a3:=hy.e h4;refine R z (l0 T_ z<|a3.at z)<|Rm z ?_
 obtain ⟨xd,aI,ax⟩:=bdS hm;have a4:=(I.ag B).e h4;refine RX z (at_ (α:=e_) U_ m_ z z z (V.g a4) aI) ?_;rintro _ ⟨_,_,_,rfl,aJ,aK,_⟩;obtain ⟨ae,nf,cg,ah,ni,cj,ak,nl,cm,an,no,cp,rfl,a5,a6,a7,a8,a9,aa,ab⟩:=a_m aK;refine R z (lN (vs:=vR xd ae nf cg ah ni cj ak nl cm an no cp) I_ m_ z z fid aJ)<|E z (fa b_g) ?_
 rintro _ aL ⟨rfl,ad⟩;have h1:=ad.below;refine E0 (fs0 (cur':=vR xd ae nf cg ah ni cj ak nl cm an no cp) m_ z z (ad.blk:Blk aL wc.z [(Str.v (⟨[]⟩:Str)),vI 0,vI 0,vB false,sl none 0 0,sl none 0 0,sl none 0 0,sl none 0 0]) z z z z) ?_;rintro _ _ ⟨af,aM⟩;have h2:=aM.one;refine Wn<|Wq<|Ws ?_
 have ai:=(a3.e h1).c h2<|djs<|mm1 hy.lt h4.s
 refine R z (lN (vs:=[sl A0 N0 C0]) t_ q_ z z fid<|ai.row 0 1 z)<|R z (lN (vs:=vR xd ae nf cg ah ni cj ak nl cm an no cp) I_ m_ z z fid<|af.row 0 8 z) ?_
 have ht:=(a2.e h1).c h2<|djs<|mmr a2.lt
 refine R z (lN (vs:=[vI x3.number,sl A9 N9 C9,sl AA NA CA]) y_ i_ z z fid<|ht.row 0 3 z) ?_;have J:=lt_ I.s h4.s;have aj:∀k∈[wc.z],¬B k:=or0 (c_ lr)<|k_<|zt' O J;have L:=(a4.e h1).c h2<|b_ aj
 have ha:=(h1.ag B).c h2<|b_ aj
 have al:=lt_ (lt_ J h1.s) h2.s;obtain ⟨_,aN,Y⟩:=bdS ax;refine E z (fc call135 z<|W_w2a aN (zt' O al) (V.g L) a5 a6 a7 (a8.g ha) (a9.g ha) (aa.g ha) (ab.g ha) W (aw.g L)<|H.g L) ?_;rintro _ wb ⟨G,rfl⟩;refine R z (not_ z)<|Wx z (fun hcs=>?_) (fun hcs=>?_)
 ·refine Ws<|Rw z ?_
  obtain rfl:=som<|ifT Y hcs;exact Wr<|h_ hr z ⟨bup (bM (bup (bup I h4) h1) h2<|m1 J) G,z⟩
 refine Wk<|Wq<|Ws<|Rw z ?_
 obtain ⟨_,ay,a0⟩:=bdS<|ifF Y hcs;refine Wf (σ:=Unit) (ρ:=Bool) (fun (am:Nat)(_:Unit) a w=>Sat 39 [(3,pt w0.z),(5,pt wr.z),(7,pt wc.z),(8,vI ((am:Nat):Int))] a/\Below wb.z wb w) (fun (_:Unit) a w=>Sat 39 [] a/\Below wb.z wb w) (rQ prog fn<|Q0 w0 B) ay ?_ ?_ ?_ ?_ ?_
 ·exact fun _ q=>⟨q.k<|s4 z z z z,br wb⟩
 ·rintro am _ _ _ _ hku ⟨az,s3⟩ aA;refine Wu ?_ az;refine Wq<|Wm z<|Rf z a_q z ?_
  have ao:=(ht.e G).e s3;refine R z (l0 a_P z<|ao.at z) ?_;have ap:=(L.e G).e s3;refine R z (lnR b_5 z<|H.g ap)<|Rl z z z<|Wx z (fun _=>?_) (fun hc=>(a_2 hku hc).elim)
  refine Wk<|Wq<|Wb<|Wq (Wd (X:=noX) 0 (.rd 0<|.rd 1<|.rd 2<|.rd 3<|.rd 4<|.rd 6<|.rd 7<|.rd 8<|.rd 9<|.rd 10<|.ef 5<|.ef 11<|.rd 12 .done) mo (by kernel_rfl) fun b7 s5 _=>dR z z (lN (vs:=[sl A0 N0 C0]) t_ q_ z z fid<|(((ai.e G).e s3).e s5).row 0 1 z)<|dR z z (lN (vs:=vR xd ae nf cg ah ni cj ak nl cm an no cp) I_ m_ z z fid<|(((af.e G).e s3).e s5).row 0 8 z)<|dR z z (fd b_3 z) ?_)
  have aq:=ao.e s5;refine dR z z (l0 g_3 z<|aq.at z)<|dM z z z<|dR z z (fd a_q z)<|dR z z (l0 a_P z<|aq.at z)<|dM z z z ?_
  obtain ⟨aO,aP,aB⟩:=bdS aA;have ar:=ap.e s5;refine dRX z z (at_ (α:=Val) b_5 i_ z z z (H.g ar) aP) ?_;rintro _ ⟨_,_,_,rfl,aQ,aR,_⟩;obtain ⟨aS,aT,aU,aV,aW,aX,rfl,aY,aZ,b0⟩:=k_m aR;refine dR z z (lN (vs:=[vI aO.number,sl aS aT aU,sl aV aW aX]) y_ i_ z z fid aQ) ?_;have hq:=((ha.e G).e s3).e s5;have au:=lt_ (lt_ (lt_ al G.s) s3.s) s5.s;obtain ⟨_,b1,aC⟩:=bdS aB;refine dE z z (fc call31 z<|d_a b1 (zt' O au) a5 a6 a7 (a8.g hq) (a9.g hq) (aa.g hq) (ab.g hq) W<|ic (Nat.le_of_lt hku)<|lt_ (repS.len H) K_) (.inr fun _ _ h=>w_<|h.1) ?_;rintro _ _ ⟨s6,rfl,b2⟩;obtain ⟨_,b3,a1⟩:=bdS aC;refine dE z z (fc call119 z<|aH.run b3 (zt' O<|lt_ au s6.s) (V.g<|ar.e s6) b2 aY (aZ.e s6)<|b0.e s6) (.inr fun _ _ h=>w_<|h.1) ?_;rintro _ _ ⟨av,rfl⟩;refine dR z z (not_ z)<|pD<|Wo<|Wc z (fun hcv=>?_) (fun hcv=>?_)
  ·exact Ws<|Rw z<|Wr<|rtO<|qL (som<|ifT a1 hcv).symm<|h_ hr z ⟨bup (bup (bup (bup (bup (bM (bup (bup I h4) h1) h2<|m1 J) G) s3) s5) s6) av,z⟩
  exact Wk<|Wg<|Rm z<|R z (inc_ hku (lt_ (repS.len H) K_) z z)<|Ra z<|Wl (fun _ q=>⟨(),(som<|ifF a1 hcv).symm,⟨q.k<|s4 z z z z,bup (bup (bup s3 s5) s6) av⟩⟩)
 ·rintro _ _ _ ⟨aD,sw⟩;refine Wu ?_ aD;refine Wq<|Wm z<|Rf z a_q z<|R z (l0 a_P z<|((ht.e G).e sw).at z)<|R z (lnR b_5 z<|H.g<|(L.e G).e sw)<|Rl z z z<|Wx z (fun hc=>(a_3 hc).elim) (fun _=>?_)
  exact We<|fun _ q=>⟨rfl,⟨q.k sn,sw⟩⟩
 ·rintro _ b4 _ rfl ⟨_,b5⟩;have aE:=elL a0;revert b4;refine Wo<|Ws<|Rw z ?_
  obtain rfl:=som aE;exact Wr<|h_ hr z ⟨bup (bup (bM (bup (bup I h4) h1) h2<|m1 J) G) b5,z⟩
 rintro _ _ _ _ rfl ⟨rfl,aF⟩;have aG:=elR a0;obtain rfl:=som aG;exact ⟨aF,z⟩
theorem A_w0f:∀n,k_X n
  | 0=>⟨fun hm=>by intros;exact nomatch (show none=some _ from hm)⟩
  | n+1=>T_w0f<|A_w0f n
theorem W_w0f:j_d (d_M n).spec_l9Valid:=A_w0f n
theorem W_w2b {x1:d_}{x2:Int}{x3:Val}{res:Bool}(hm:i_L n x1 x2 x3=some res)(L:B<=w0.z)(I:repS w0 B (sl A0 N0 C0) x1.rules)(J:inI x2)(Y:inI x3.number)(a0:repS w0 B (sl A9 N9 C9) x3.bytes)(a1:repS w0 B (sl AA NA CA) x3.items):n_ prog 100 [(.agg #[sl A0 N0 C0]),vI x2,(.agg #[vI x3.number,sl A9 N9 C9,sl AA NA CA])] w0 (Q0 w0 B res):=by
 unfold i_L at hm
 refine goG func100 z z z fun fn hr=>Ws<|E z (fb z) ?_
 rintro _ O ⟨rfl,V⟩;have h3:=V.below;refine E z (fb z) ?_;rintro _ H ⟨rfl,W⟩;have h1:=W.below;refine Rw z<|Wq ?_
 obtain ⟨ug,huh,hmi⟩:=bdS hm;refine Wt (fun a w=>∃(x5:Bool),x5=ug/\Sat 16 [(6,vB x5)] a/\Below H.z H w) ?_ ?_
 ·refine Wg ?_;have ha:=(V.blk:Blk O w0.z [sl A0 N0 C0]).e h1;refine R z (lN (vs:=[sl A0 N0 C0]) t_ q_ z z fid<|ha.row 0 1 z)<|Rm z ?_
  have hb:=(h3.ag B).e h1;have hc:=lt_ h3.s h1.s;obtain ⟨rj,ek,hmd⟩:=bdS huh;refine E z (fc call63 z<|j_b ek (zt' L hc) (I.g hb) J) ?_;rintro _ _ ⟨s2,rfl⟩;refine Rm z ?_
  rcases bs rj with G | G
  ·refine Rh z G (lN (vs:=[sl A0 N0 C0]) t_ q_ z z fid<|(ha.e s2).row 0 1 z)<|Rh z G (mv z)<|Rh z G (lN (vs:=[vI x3.number,sl A9 N9 C9,sl AA NA CA]) y_ i_ z z fid<|((W.blk:Blk H O.z [vI x3.number,sl A9 N9 C9,sl AA NA CA]).e s2).row 0 3 z) ?_
   have h6:=hb.e s2;obtain ⟨rl,em,hmn⟩:=bdS<|ifT hmd G;refine Eg z z G z (fc call119 z<|W_w0f.run em (zt' L<|lt_ hc s2.s) (I.g h6) J Y (a0.g h6)<|a1.g h6) ?_;rintro _ _ ⟨so,rfl⟩;exact R z (pT z G z)<|Ra z<|Wl (fun _ q=>⟨rl,som hmn,q.k<|s1 z,bup s2 so⟩)
  iterate 4 refine Nh z G ?_
  exact R z (pF z G z)<|Ra z<|Wl (fun _ q=>⟨false,som<|ifF hmd G,q.k<|s1 z,s2⟩)
 rintro ap _ ⟨x5,rfl,_,sq⟩;revert ap;refine Wo ?_;obtain rfl:=som hmi;exact Wr<|h_ hr z ⟨bup (bup h3 h1) sq,z⟩
def Q13 (w0:World)(B:Zone)(r:(List UInt8)×Bool)(v:Value)(w':World):Prop:=Bw w0 w'/\un2 (fun J L=>∃G H I S1,v = .tuple #[sl G H I,vB L]/\a_ w' S1 (sl G H I) J/\S1.Nodup/\(∀k∈S1,w0.z<=k)) r
theorem W_w2c {x1:d_}{x2:Int}{x3:Val}{res:(List UInt8)×Bool}(hm:i_M n x1 x2 x3=some res)(a0:B<=w0.z)(L:repS w0 B (sl A0 N0 C0) x1.rules)(O:inI x2)(V:inI x3.number)(W:repS w0 B (sl A9 N9 C9) x3.bytes)(Y:repS w0 B (sl AA NA CA) x3.items):n_ prog 62 [(.agg #[sl A0 N0 C0]),vI x2,(.agg #[vI x3.number,sl A9 N9 C9,sl AA NA CA])] w0 (Q13 w0 B res):=by
 unfold i_M at hm
 refine goG func62 z z z fun fn hr=>Ws<|E z (fb z) ?_
 rintro _ wa ⟨rfl,hb⟩;have h2:=hb.below;refine E z (fb z) ?_;rintro _ wj ⟨rfl,hc⟩;have h1:=hc.below;have hd:Blk wj wa.z [vI x3.number,sl A9 N9 C9,sl AA NA CA]:=hc.blk;refine Ra z<|Rw z<|Wq<|Ws ?_
 have he:=(hb.blk:Blk wa w0.z [sl A0 N0 C0]).e h1;refine R z (lN (vs:=[sl A0 N0 C0]) t_ q_ z z fid<|he.row 0 1 z)<|Rm z<|R z (lN (vs:=[vI x3.number,sl A9 N9 C9,sl AA NA CA]) y_ i_ z z fid<|hd.row 0 3 z) ?_
 have h3:=(h2.ag B).e h1;have h4:=lt_ h2.s h1.s;obtain ⟨_,ek,hmf⟩:=bdS hm;refine E z (fc call100 z<|W_w2b ek (zt' a0 h4) (L.g h3) O V (W.g h3)<|Y.g h3) ?_;rintro _ wl ⟨G,rfl⟩;refine R z (not_ z)<|Wx z (fun H=>?_) (fun H=>?_)
 ·refine Ws<|E z (f0 (α:=UInt8) a_9) ?_
  rintro _ _ ⟨am,nn,co,rfl,sp,hq⟩;refine Ra z<|Rw z ?_
  obtain rfl:=som<|ifT hmf H;exact Wr<|a_u hr z z ⟨bup (bup (bup h2 h1) G) sp,am,nn,co,[wl.z],z,hq,a_k,m1<|lt_ h4 G.s⟩
 refine Wk<|Ws<|R z (lN (vs:=[sl A0 N0 C0]) t_ q_ z z fid<|(he.e G).row 0 1 z)<|Rm z<|R z (lN (vs:=[vI x3.number,sl A9 N9 C9,sl AA NA CA]) y_ i_ z z fid<|(hd.e G).row 0 3 z) ?_
 have h6:=h3.e G;have J:=lt_ h4 G.s;obtain ⟨_,er,hmg⟩:=bdS<|ifF hmf H;refine E z (fc call16 z<|W_w0a.run er (zt' a0 J) (L.g h6) O V (W.g h6)<|Y.g h6) ?_;rintro _ ws ⟨s8,au,nt,cv,Sw,rfl,hh,hx,hy⟩;refine Rw z<|Wq<|Wm z<|R z (lnR p_ z<|a_.rep hh)<|R z (a_e z z)<|Wx z (fun I=>?_) (fun I=>?_)
 ·refine Ws<|E z (f0 (α:=UInt8) a_9) ?_
  rintro _ _ ⟨az,a1,a2,rfl,a3,a4⟩;refine Ra z<|Rw z ?_
  obtain rfl:=som<|ifT hmg I;exact Wr<|a_u hr z z ⟨bup (bup (bup (bup h2 h1) G) s8) a3,az,a1,a2,[ws.z],z,a4,a_k,m1<|lt_ J s8.s⟩
 refine Wk<|Wm z<|Ra z<|Rw z ?_
 obtain rfl:=som<|ifF hmg I;exact Wr<|a_u hr z z ⟨bup (bup (bup h2 h1) G) s8,au,nt,cv,Sw,z,hh,hx,l_ hy J⟩
theorem W_w2d {x1:d_}{x2:Val}{res:(List UInt8)×Bool}(hm:i_N n x1 x2=some res)(I:B<=w0.z)(H:repS w0 B (sl A0 N0 C0) x1.rules)(W:inI x2.number)(Y:repS w0 B (sl AE NE CE) x2.bytes)(a0:repS w0 B (sl AF NF CF) x2.items):n_ prog 39 [(.agg #[sl A0 N0 C0]),(.agg #[vI x2.number,sl AE NE CE,sl AF NF CF])] w0 (Q13 w0 B res):=by
 unfold i_N at hm
 refine goG func39 z z z fun fn hr=>Ws<|E z (fb z) ?_
 rintro _ J ⟨rfl,h6⟩;have h2:=h6.below;refine E z (fb z) ?_;rintro _ wd ⟨rfl,L⟩;have h1:=L.below;refine Ra z<|Rw z<|Wq (Wd (X:=noX) 0 (.rd 0<|.rd 1<|.rd 3<|.ef 2<|.ef 4<|.rd 5<|.rd 6<|.rd 7<|.rd 8 .done) mo (by kernel_rfl) fun wr G _=>?_)
 have O:=((h6.blk:Blk J w0.z [sl A0 N0 C0]).e h1).e G;refine dR z z (lN (vs:=[sl A0 N0 C0]) t_ q_ z z fid<|O.row 0 1 z)<|dR z z (lN (vs:=[sl A0 N0 C0]) t_ q_ z z fid<|O.row 0 1 z)<|dR z z (lN (vs:=[vI x2.number,sl AE NE CE,sl AF NF CF]) y_ i_ z z fid<|((L.blk:Blk wd J.z [vI x2.number,sl AE NE CE,sl AF NF CF]).e G).row 0 3 z) ?_
 have V:=((h2.ag B).e h1).e G;have ha:=lt_ (lt_ h2.s h1.s) G.s;obtain ⟨_,eg,hmf⟩:=bdS hm;refine dE z z (fc call41 z<|e_M eg (zt' I ha)<|H.g V) (.inr fun _ _ h=>w_<|h.1) ?_;rintro _ _ ⟨s3,rfl,hh⟩;have h4:=V.e s3;have hb:=lt_ ha s3.s;obtain ⟨_,_,ei,hmj⟩:=a_t hmf;refine dE z z (fc call62 z<|W_w2c ei (zt' I hb) (H.g h4) hh W (Y.g h4)<|a0.g h4) (.inr fun _ _ h=>w_<|h.1) ?_;rintro _ _ ⟨sk,al,nm,cn,So,rfl,hp,hq,ht⟩;refine dR z z (ext_ z z)<|dR z z (ext_ z z)<|dQ z z z<|dQ z z z<|pD<|Wo ?_
 obtain rfl:=som hmj;exact Wr<|a_u hr z z ⟨bup (bup (bup (bup h2 h1) G) s3) sk,al,nm,cn,So,z,hp,hq,l_ ht hb⟩
theorem W_w2e {x1:d_}{res:(List UInt8)×Bool}(hm:g_n n x1=some res)(I:B<=w0.z)(H:repS w0 B (sl A0 N0 C0) x1.rules):n_ prog 18 [(.agg #[sl A0 N0 C0])] w0 (Q13 w0 B res):=by
 unfold g_n at hm
 refine goG func18 z z z fun fn hr=>Ws<|E z (fb z) ?_
 rintro _ wa ⟨rfl,h4⟩;have h1:=h4.below;refine Ra z<|Rw z<|Wq (Wd (X:=noX) 0 (pl_ 10 [3,4,5]) mo (by kernel_rfl) fun ww G _=>?_)
 iterate 3 refine dR z z (lN (vs:=[sl A0 N0 C0]) t_ q_ z z fid<|((h4.blk:Blk wa w0.z [sl A0 N0 C0]).e G).row 0 1 z) ?_
 have h5:=(h1.ag B).e G;have h6:=lt_ h1.s G.s;obtain ⟨_,ed,hme⟩:=bdS hm;refine dE z z (fc call41 z<|e_M ed (zt' I h6)<|H.g h5) (.inr fun _ _ h=>w_<|h.1) ?_;rintro _ _ ⟨s2,rfl,hf⟩;have J:=h5.e s2;have L:=lt_ h6 s2.s;obtain ⟨_,eg,hmh⟩:=bdS hme;refine dE z z (fc call40 z<|W_w29 eg (zt' I L) (H.g J) hf) (.inr fun _ _ h=>w_<|h.1) ?_;rintro _ wi ⟨s3,_,_,_,_,_,_,_,_,rfl,hj,hk,hl,_,_⟩;have O:=lt_ L s3.s;obtain ⟨_,_,em,hmn⟩:=a_t hmh;refine dE z z (fc call39 z<|W_w2d (B:=wi.z) em zr (repS.mono (H.g<|J.e s3)<|zt' I O) hj (a_.rep hk)<|a_.rep hl) (.inr fun _ _ h=>w_<|h.1) ?_;rintro _ _ ⟨so,ap,nq,cr,Ss,rfl,ht,hu,hv⟩;refine dR z z (ext_ z z)<|dR z z (ext_ z z)<|dQ z z z<|dQ z z z<|pD<|Wo ?_
 obtain rfl:=som hmn;exact Wr<|a_u hr z z ⟨bup (bup (bup (bup h1 G) s2) s3) so,ap,nq,cr,Ss,z,ht,hu,l_ hv O⟩
theorem W_w2f {x1:List UInt8}{x2:Bool}{res:Int}(hm:g_x x1 x2=some res)(V:B<=w0.z)(G:repS w0 B (sl A0 N0 C0) x1):n_ prog 102 [sl A0 N0 C0,vB x2] w0 (Q9 w0 B res):=by
 unfold g_x at hm
 refine goG func102 z z z fun fn hr=>Ws<|Rw z<|Ws<|Rw z<|Wq<|Wm z<|R z (lnR p_ z G)<|R z (a_e z z)<|Wx z (fun I=>?_) (fun I=>?_)
 ·refine Ws<|Rw z ?_
  obtain rfl:=som<|ifT hm I;exact Wr<|h_ hr z ⟨br w0,z,ii z⟩
 refine Wk<|Wq<|Ws<|Rw z ?_
 obtain ⟨_,hue,O⟩:=bdS<|ifF hm I;refine Wf (σ:=Int) (ρ:=Int) (fun (k1:Nat)(x0:Int) a w=>Sat 33 [(0,sl A0 N0 C0),(1,vB x2),(5,vI x0),(6,vI ((k1:Nat):Int))] a/\Below w0.z w0 w/\inI x0) (fun (x0:Int) a w=>Sat 33 [(5,vI x0)] a/\Below w0.z w0 w/\inI x0) (rQ prog fn<|Q9 w0 B) hue ?_ ?_ ?_ ?_ ?_
 ·exact fun _ q=>⟨q.k<|s4 z z z z,br w0,ii z⟩
 ·rintro k1 x0 _ H _ J ⟨hSf,s7,h3⟩ hmg;refine Wu ?_ hSf;refine Wq<|Wm z<|Rm z ?_
  have ha:=G.e s7;refine R z (lnR p_ z ha)<|Rl z z z<|Wx z (fun _=>?_) (fun hc=>(a_2 J hc).elim)
  refine Wk<|Wq<|Wb<|Wm z<|Rw z<|Wq<|Wm z<|Wn ?_
  obtain ⟨uh,hub,hmi⟩:=bdS hmg;refine Wt (fun a w=>∃(x4:Int),x4=uh/\Sat 33 [(0,sl A0 N0 C0),(1,vB x2),(5,vI x0),(6,vI ((k1:Nat):Int)),(7,vI x4)] a/\Below H.z H w/\inI x4) ?_ ?_
  ·refine Wc z (fun L=>?_)<|fun L=>?_
   ·exact Wg<|Rm z<|R z (lnR p_ z ha)<|R z (sb_ z z)<|Rm z<|R z (sb_ z z)<|Ra z<|Wl (fun _ q=>⟨L_ (L_ (x1.length:Int) 1) ((k1:Nat):Int),som<|ifT hub L,q.k<|s5 z z z z z,br H,iS _ _⟩)
   exact a_7<|fun _ q=>⟨((k1:Nat):Int),som<|ifF hub L,q.k<|s5 z z z z z,br H,ic (Nat.le_of_lt J)<|lt_ (repS.len G) K_⟩
  rintro aj _ ⟨x4,rfl,_,sc,_⟩;revert aj;refine Wo<|Wg<|Rm z<|R z (c_m z z)<|RM z z ?_
  obtain ⟨xk,el,hmm⟩:=bdS hmi;refine RX z (at_ (α:=UInt8) p_ z_5 z z z (G.g<|(s7.ag B).e sc) el) ?_;rintro _ ⟨_,_,_,rfl,hn,ho,_⟩;obtain rfl:=u8 ho;exact R z (l0 g_5 z<|hn.at0 z)<|R z (b_U d_5 d_3 z)<|R z (add_ z z)<|Rw z<|Wg<|Rm z<|R z (inc_ J (lt_ (repS.len G) K_) z z)<|Ra z<|Wl (fun _ q=>⟨g_ (a_1 x0 256)<|byteI xk,(som hmm).symm,⟨q.k<|s4 z z z z,bup s7 sc,iA _ _⟩⟩)
 ·rintro x0 _ _ ⟨hSp,sd,h3⟩;refine Wu ?_ hSp;refine Wq<|Wm z<|Rm z<|R z (lnR p_ z<|G.e sd)<|Rl z z z<|Wx z (fun hc=>(a_3 hc).elim) (fun _=>?_)
  exact We<|fun _ q=>⟨rfl,⟨q.k<|s1 z,sd,h3⟩⟩
 ·rintro x0 aq _ rfl ⟨_,sr,h3⟩;have hms:=elL O;revert aq;refine Wo<|Wm z<|Rw z ?_
  obtain rfl:=som hms;exact Wr<|h_ hr z ⟨sr,z,h3⟩
 rintro _ _ _ _ rfl ⟨rfl,hqt⟩;have hmu:=elR O;obtain rfl:=som hmu;exact ⟨hqt,z⟩
def Q14 (w0:World)(B:Zone)(r:Int×Int×Bool)(v:Value)(w':World):Prop:=Bw w0 w'/\un3 (fun G H I=>v = .tuple #[vI G,vI H,vB I]/\inI G/\inI H) r
theorem f_O {x1:d_}{x2:Int}{x3:List UInt8}{x4:Int}{res:Int×Int×Bool}(hm:c_b x1 x2 x3 x4=some res)(L:B<=w0.z)(Y:repS w0 B (sl A0 N0 C0) x1.rules)(a5:inI x2)(J:repS w0 B (sl A7 N7 C7) x3)(a0:inI x4):n_ prog 66 [(.agg #[sl A0 N0 C0]),vI x2,sl A7 N7 C7,vI x4] w0 (Q14 w0 B res):=by
 unfold c_b at hm
 refine goG func66 z z z fun fn hr=>Ws<|E z (fb z) ?_
 rintro _ I ⟨rfl,V⟩;have G:=V.below;refine RA z z<|Rw z<|Ws<|Rf z R_ z<|R z (l0 T_ z<|(V.blk:Blk I w0.z [sl A0 N0 C0]).at z)<|Rm z ?_
 obtain ⟨W,em,O⟩:=bdS hm;refine RX z (at_ (α:=e_) U_ m_ z z z (Y.e G) em) ?_;rintro _ ⟨_,_,_,rfl,ht,hu,_⟩;obtain ⟨aa,nb,cc,ad,ne,cf,ah,ng,ci,aj,nk,cl,rfl,_,_,_,_,_,_,_⟩:=a_m hu;refine R z (lN (vs:=vR W aa nb cc ad ne cf ah ng ci aj nk cl) I_ m_ z z fid ht)<|E z (fa b_g) ?_
 rintro _ wr ⟨rfl,hn⟩;have h1:=hn.below;refine E0 (fs0 (cur':=vR W aa nb cc ad ne cf ah ng ci aj nk cl) m_ z z (hn.blk:Blk wr I.z [(Str.v (⟨[]⟩:Str)),vI 0,vI 0,vB false,sl none 0 0,sl none 0 0,sl none 0 0,sl none 0 0]) z z z z) ?_;rintro _ _ ⟨ho,ss⟩;have h2:=ss.one;refine Wn<|Wq<|Wm z ?_
 have hp:=((G.ag B).e h1).c h2<|b_ (or0 (c_ lr) (k_<|zt' L G.s):∀k∈[I.z],¬B k)
 refine R z (lnR p_ z<|J.g hp)<|Rm z<|R z (sb_ z z)<|Rf z a_z z<|R z (l0 g_3 z<|ho.at z)<|Rl z z z<|Wx z (fun H=>?_) (fun H=>?_)
 ·refine Wm z<|RA z z<|Rw z ?_
  obtain rfl:=som<|ifT O H;exact Wr<|F_ hr z z z ⟨bM (bup G h1) h2<|m1 G.s,z,ii z,a0⟩
 refine Wk<|Wq (Wd (X:=noX) 0 (.rd 0<|.rd 1<|.rd 2<|.rd 3<|.rd 4<|.rd 5<|.rd 6<|.rd 7<|.rd 8<|.rd 10<|.rd 11<|.rd 12<|.rd 13<|.ef 9<|.rd 14<|.rd 15<|.rd 16 .done) mo (by kernel_rfl) fun a6 s3 _=>?_)
 iterate 3 refine dM z z z ?_
 refine dR z z (fd a_z z) ?_;have h6:=ho.e s3;refine dR z z (l0 g_3 z<|h6.at z)<|dR z z (add_ z z) ?_
 obtain ⟨_,ex,hmy⟩:=bdS<|ifF O H;refine dRX z z (rX p_ z_5 z z (J.g<|hp.e s3) z z ex) ?_;rintro _ ⟨_,_,_,rfl,hz⟩;refine dR z z (fd c_L z)<|dR z z (l0 g_4 z<|h6.at z)<|dM z z z<|dR z z (fd a_z z)<|dR z z (l0 g_3 z<|h6.at z)<|dR z z (add_ z z) ?_
 obtain ⟨_,a2,a1⟩:=bdS hmy;refine dE z z (fc call102 z<|W_w2f a2 (zt' L<|lt_ (lt_ (lt_ G.s h1.s) h2.s) s3.s) hz) (.inr fun _ _ h=>w_<|h.1) ?_;rintro _ _ ⟨a3,rfl,a4⟩
 iterate 3 refine dQ z z z ?_
 refine pD<|Wo ?_
 obtain rfl:=som a1;exact Wr<|F_ hr z z z ⟨bup (bup (bM (bup G h1) h2<|m1 G.s) s3) a3,z,a4,iA _ _⟩
def Q15 (w0:World)(B:Zone)(r:Val×Int×Int)(v:Value)(w':World):Prop:=Bw w0 w'/\un3 (fun G H I=>∃J L O S1 a2 V W S2,v = .tuple #[(.agg #[vI G.number,sl J L O,sl a2 V W]),vI H,vI I]/\inI G.number/\a_ w' S1 (sl J L O) G.bytes/\a_ w' S2 (sl a2 V W) G.items/\inI H/\inI I/\(S1++S2).Nodup/\(∀k∈(S1++S2),w0.z<=k)) r
theorem W_w2g {x1:e_}{x2:List UInt8}{x3:Int}{res:Val×Int×Int}(hm:g_z x1 x2 x3=some res)(ab:B<=w0.z)(a5:x1.name.b.length<=LEN)(a6:inI x1.kind)(a7:inI x1.size)(I:repS w0 B (sl AB NB CB) x1.bytes)(a8:repS w0 B (sl A8 N8 C8) x1.names)(a9:repS w0 B (sl AC NC CC) x1.tags)(aa:repS w0 B (sl AD ND CD) x1.kids)(O:repS w0 B (sl A5 N5 C5) x2)(V:inI x3):n_ prog 92 [(.agg #[Str.v x1.name,vI x1.kind,vI x1.size,vB x1.little,sl AB NB CB,sl A8 N8 C8,sl AC NC CC,sl AD ND CD]),sl A5 N5 C5,vI x3] w0 (Q15 w0 B res):=by
 unfold g_z at hm
 refine goG func92 z z z fun fn hr=>Ws<|E z (fb z) ?_
 rintro _ J ⟨rfl,he⟩;have G:=he.below;have h5:Blk J w0.z (vR x1 AB NB CB A8 N8 C8 AC NC CC AD ND CD):=he.blk;refine E z (fa a_6) ?_;rintro _ H ⟨rfl,hf⟩;have h1:=hf.below;have L:Blk H J.z [vI 0,sl none 0 0,sl none 0 0]:=hf.blk;refine Ra z<|Rw z<|Wq<|Ws<|Rw z ?_
 obtain ⟨_,hun,hmg⟩:=bdS hm;refine Wf (σ:=Unit) (ρ:=Val×Int×Int) (fun (kh:Nat)(_:Unit) a w=>Sat 47 [(1,sl A5 N5 C5),(2,vI x3),(3,pt w0.z),(6,pt J.z),(9,vI ((kh:Nat):Int))] a/\Below H.z H w) (fun (_:Unit) a w=>Sat 47 [(2,vI x3),(3,pt w0.z),(6,pt J.z)] a/\Below H.z H w) (rQ prog fn<|Q15 w0 B) hun ?_ ?_ ?_ ?_ ?_
 ·exact fun _ q=>⟨q.k<|s5 z z z z z,br H⟩
 ·rintro kh _ _ _ _ hki ⟨hSo,s2⟩ hmj;refine Wu ?_ hSo;refine Wq<|Wm z<|Rf z a_R z ?_
  have hk:=(h5.e h1).e s2;refine R z (l0 P_ z<|hk.at z) ?_;have ha:=((G.ag B).e h1).e s2;refine R z (lnR p_ z<|I.g ha)<|Rl z z z<|Wx z (fun _=>?_) (fun hc=>(a_2 hki hc).elim)
  refine Wk<|Wq<|Wb<|Wq<|Wm z<|Rm z<|R z (add_ z z)<|Rm z<|R z (lnR p_ z<|O.g ha)<|R z (b_i z z)<|Wx z (fun hcb=>?_) (fun hcb=>?_)
  ·refine Ws<|R z (bP (parts:=[]) (cs:=[vI 0,sl none 0 0,sl none 0 0]) Y_ z z)<|Rm z<|E0 (fs0 (cur':=[vI 0,sl none 0 0,sl none 0 0]) i_ z z (L.e s2) z z z z) ?_
   rintro _ _ ⟨hp,sq⟩;exact Ra z<|Rw z<|Wr<|rtO<|qL (som<|ifT hmj hcb).symm<|F_ hr (r_ y_ i_ z hp z) z z ⟨bM (bup (bup G h1) s2) sq.one<|m1 G.s,none,0,0,[],none,0,0,[],z,ii z,onL,onL,V,ii z,nd0,al0⟩
  refine Wk<|Wq (Wd (X:=noX) 0 (pl_ 12 []) mo (by kernel_rfl) fun ad s6 _=>?_)
  iterate 3 refine dM z z z ?_
  refine dR z z (add_ z z) ?_;obtain ⟨_,er,hms⟩:=bdS<|ifF hmj hcb;have hl:=ha.e s6;refine dRX z z (at_ (α:=UInt8) p_ z_5 z z z (O.g hl) er) ?_;rintro _ ⟨_,_,_,rfl,ht,hu,_⟩;obtain rfl:=u8 hu;refine dR z z (l0 g_5 z<|ht.at0 z)<|dR z z (fd a_R z)<|dR z z (l0 P_ z<|(hk.e s6).at z)<|dM z z z ?_
  obtain ⟨_,ev,hmm⟩:=bdS hms;refine dRX z z (at_ (α:=UInt8) p_ z_5 z z z (I.g hl) ev) ?_;rintro _ ⟨_,_,_,rfl,hw,hx,_⟩;obtain rfl:=u8 hx;refine dR z z (l0 g_5 z<|hw.at0 z)<|dR z z (nq z z)<|pD<|Wo<|Wc z (fun hcc=>?_) (fun hcc=>?_)
  ·refine Ws<|R z (bP (parts:=[]) (cs:=[vI 0,sl none 0 0,sl none 0 0]) Y_ z z)<|RM z z<|R z (add_ z z)<|E0 (fs0 (cur':=[vI 0,sl none 0 0,sl none 0 0]) i_ z z ((L.e s2).e s6) z z z z) ?_
   rintro _ _ ⟨hy,sz⟩;exact Ra z<|Rw z<|Wr<|rtO<|qL (som<|ifT hmm hcc).symm<|F_ hr (r_ y_ i_ z hy z) z z ⟨bM (bup (bup (bup G h1) s2) s6) sz.one<|m1 G.s,none,0,0,[],none,0,0,[],z,ii z,onL,onL,iA _ _,ii z,nd0,al0⟩
  exact Wk<|Wg<|Rm z<|R z (inc_ hki (lt_ (repS.len I) K_) z z)<|Ra z<|Wl (fun _ q=>⟨(),(som<|ifF hmm hcc).symm,⟨q.k<|s5 z z z z z,bup s2 s6⟩⟩)
 ·rintro _ _ _ ⟨W,sd⟩;refine Wu ?_ W;refine Wq<|Wm z<|Rf z a_R z<|R z (l0 P_ z<|((h5.e h1).e sd).at z)<|R z (lnR p_ z<|I.g<|((G.ag B).e h1).e sd)<|Rl z z z<|Wx z (fun hc=>(a_3 hc).elim) (fun _=>?_)
  exact We<|fun _ q=>⟨rfl,⟨q.k<|s3 z z z,sd⟩⟩
 ·rintro _ a2 _ rfl ⟨_,s7⟩;have Y:=elL hmg;revert a2;refine Wo<|Wq (Wd (X:=(· ∈ [J.z])) 0 (pl_ 9 [6]) mo (by kernel_rfl) fun ae s8 _=>dR z z (bP (parts:=[]) (cs:=[vI 0,sl none 0 0,sl none 0 0]) Y_ z z)<|dM z z z<|dR z z (fd a_R z)<|dR z z (l1 P_ z (djs<|mmr h5.lt)<|(((h5.e h1).e s7).e s8).at z)<|dR z z (lnR p_ z<|I.g<|(((G.ag B).e h1).e s7).e s8)<|dR z z (add_ z z)<|dE0 z (fs0 (cur':=[vI 0,sl none 0 0,sl none 0 0]) i_ z z ((L.e s7).e s8) z z z z) (.inr fun _ _ h=>chgIn (List.mem_singleton.2 z) h.2) ?_)
  rintro _ _ ⟨a3,a4⟩;refine dQ z z z<|dQ z z z<|pD<|Wo ?_
  obtain rfl:=som Y;exact Wr<|F_ hr (r_ y_ i_ z a3 z) z z ⟨bM (bup (bup (bup G h1) s7) s8) a4.one<|m1 G.s,none,0,0,[],none,0,0,[],z,ii z,onL,onL,iA _ _,ii z,nd0,al0⟩
 rintro _ _ _ _ rfl ⟨rfl,a0⟩;have a1:=elR hmg;obtain rfl:=som a1;exact ⟨a0,z⟩
theorem W_w1c {x1:List UInt8}{x2:Int}{x3:Int}{res:Val×Int×Int}(hm:f_2 x1 x2 x3=some res)(a1:B<=w0.z)(O:repS w0 B (sl A0 N0 C0) x1)(Y:inI x2)(a0:inI x3):n_ prog 93 [sl A0 N0 C0,vI x2,vI x3] w0 (Q15 w0 B res):=by
 unfold f_2 at hm
 refine goG func93 z z z fun fn hr=>Ws<|E z (fa a_6) ?_
 rintro _ we ⟨rfl,V⟩;have G:=V.below;have h2:Blk we w0.z [vI 0,sl none 0 0,sl none 0 0]:=V.blk;refine Ra z<|Rw z<|Wq<|Wm z<|R z (lnR p_ z<|O.e G)<|Rm z<|R z (sb_ z z)<|Rm z<|Rl z z z<|Wx z (fun H=>?_) (fun H=>?_)
 ·refine Ws<|R z (bP (parts:=[]) (cs:=[vI 0,sl none 0 0,sl none 0 0]) Y_ z z)<|Rm z<|E0 (fs0 (cur':=[vI 0,sl none 0 0,sl none 0 0]) i_ z z h2 z z z z) ?_
  rintro _ _ ⟨hf,sg⟩;refine Ra z<|Rw z ?_
  obtain rfl:=som<|ifT hm H;exact Wr<|F_ hr (r_ y_ i_ z hf z) z z ⟨bM G sg.one<|c_ lr,none,0,0,[],none,0,0,[],z,ii z,onL,onL,Y,ii z,nd0,al0⟩
 refine Wk<|Ws<|E z (f0 (α:=UInt8) a_9) ?_
 rintro _ _ ⟨_,_,_,rfl,s1,hh⟩;refine RM z z<|RM z z<|R z (add_ z z) ?_
 obtain ⟨_,ei,hmj⟩:=bdS<|ifF hm H;refine RX z (rX p_ z_5 z z (O.g<|(G.ag B).e s1) z z ei) ?_;rintro _ ⟨_,_,_,rfl,hk⟩;obtain ⟨_,el,hmm⟩:=bdS hmj;refine E z (fN (α:=UInt8) a_9 el z z hh a_k hk) ?_;rintro _ _ ⟨W,I,J,L,rfl,s9,hn,ho,ha⟩;refine R z (bP (parts:=[(1,.tmp 24)]) (cs:=[vI 0,sl I J L,sl none 0 0]) Y_ z z)<|RM z z<|R z (add_ z z) ?_
 have hb:=mmr h2.lt;refine E0 (fs0 (cur':=[vI 0,sl I J L,sl none 0 0]) i_ z z ((h2.e s1).c s9<|djs hb) z z z z) ?_;rintro _ _ ⟨hp,sq⟩;have hc:=sq.one;refine Ra z<|Rw z ?_
 obtain rfl:=som hmm;have hd:=m1 G.s;exact Wr<|F_ hr (r_ y_ i_ z hp z) z z ⟨bM (bM (bup G s1) s9 hd) hc<|c_ lr,I,J,L,W,none,0,0,[],z,ii z,hn.c hc (or1 ha hb (O_ (c_ h2.lt) s1.s):∀k∈W,k∉[w0.z]),onL,iA _ _,ii z,na_ ho G_<|nmN _,aa_ (a_i ha hd<|lt_ G.s s1.s) an_⟩
def Q16 (w0:World)(B:Zone)(r:(List UInt8)×Int×Bool)(v:Value)(w':World):Prop:=Bw w0 w'/\un3 (fun L G O=>∃H I J S1,v = .tuple #[sl H I J,vI G,vB O]/\a_ w' S1 (sl H I J) L/\inI G/\S1.Nodup/\(∀k∈S1,w0.z<=k)) r
theorem W_w2h {x1:List UInt8}{x2:Int}{x3:UInt8}{res:(List UInt8)×Int×Bool}(hm:g_A n x1 x2 x3=some res)(W:B<=w0.z)(O:repS w0 B (sl A0 N0 C0) x1)(V:inI x2):n_ prog 94 [sl A0 N0 C0,vI x2,vU<|byteI x3] w0 (Q16 w0 B res):=by
 unfold g_A at hm
 refine goG func94 z z z fun fn hr=>Ws<|RA z z<|Rw z<|Ws<|E z (f0 (α:=UInt8) a_9) ?_
 rintro _ G ⟨al,am,an,rfl,s9,ao⟩;refine Rw z<|Wq<|Wm z<|Rw z ?_
 obtain ⟨_,a7,hmr⟩:=bdS hm;refine b_M (σ:=(List UInt8)×Int) (ρ:=(List UInt8)×Int×Bool) (fun s a w=>un2 (fun xb x5=>∃a2 I J H,Sat 54 [(0,sl A0 N0 C0),(1,vI x2),(2,vU<|byteI x3),(9,sl a2 I J),(10,vI x5)] a/\Chg (· ∈ [w0.z]) G w/\a_ w H (sl a2 I J) xb/\H.Nodup/\(∀k∈H,k∈[w0.z]∨G.z<=k)/\inI x5) s) (fun s a w=>un2 (fun xb x5=>∃a2 I J H,Sat 54 [(1,vI x2)] a/\Chg (· ∈ [w0.z]) G w/\a_ w H (sl a2 I J) xb/\H.Nodup/\(∀k∈H,k∈[w0.z]∨G.z<=k)/\inI x5) s) (rQ prog fn<|Q16 w0 B) a7 ?_ ?_ ?_ ?_
 ·exact fun _ q=>⟨al,am,an,[w0.z],q.k<|s5 z z z z z,cr [w0.z] G,ao,a_k,io sr,V⟩
 ·rintro ⟨xb,x5⟩ _ wc _ ⟨a2,I,J,H,a8,s8,hd,he,hf,hi⟩ a9;refine Wu ?_ a8;refine Wq<|Wq ?_
  obtain ⟨ap,aa,hms⟩:=bdS<|a_G a9;refine Wt (fun a w=>∃(xj:Bool),xj=ap/\Sat 54 [(0,sl A0 N0 C0),(1,vI x2),(2,vU<|byteI x3),(9,sl a2 I J),(10,vI x5),(22,vB xj)] a/\Below wc.z wc w) ?_ ?_
  ·refine Wg<|RM z z ?_
   have hu:=(s9.ag B).c s8<|b_ (or0 (c_ lr) (k_ W):∀k∈[w0.z],¬B k)
   have hv:=O.g hu;refine R z (lnR p_ z hv) ?_;obtain ⟨aq,ar,hmw⟩:=bdS aa;refine E z (fc call99 z<|b_h ar (zt' W<|lt_ s9.s s8.s) V (ii z)<|a_N<|repS.len hv) ?_;rintro _ _ ⟨sk,rfl⟩;refine Rm z ?_
   rcases bs aq with L | L
   ·exact Rh z L (mv z)<|Rh z L (mv z)<|Rh z L (lnR p_ z<|O.g<|hu.e sk)<|Rh z L (lss z z)<|R z (pT z L z)<|Wl (fun _ q=>⟨decide<|x5<(x1.length:Int),som<|ifT hmw L,q.k<|s6 z z z z z z,sk⟩)
   iterate 4 refine Nh z L ?_
   exact R z (pF z L z)<|Wl (fun _ q=>⟨false,som<|ifF hmw L,q.k<|s6 z z z z z z,sk⟩)
  rintro au wa ⟨xj,rfl,_,s7⟩;revert au;refine Wo<|Wc z (fun hcl=>?_) (fun hcl=>?_)
  ·refine Wk<|Wq<|Wb<|Wq<|Wm z<|Rm z ?_
   obtain ⟨_,av,hmx⟩:=bdS<|ifT hms hcl;have hy:=((s9.ag B).c s8<|b_ (or0 (c_ lr) (k_ W):∀k∈[w0.z],¬B k)).e s7;have hn:=O.g hy;refine RX z (at_ (α:=UInt8) p_ z_5 z z z hn av) ?_;rintro _ ⟨_,_,_,rfl,aw,ax,_⟩;obtain rfl:=u8 ax;refine R z (l0 g_5 z<|aw.at0 z)<|Rm z<|Rq z z z<|Wx z (fun hcm=>?_) (fun hcm=>?_)
   ·refine Wm z<|Rm z<|R z (add_ z z)<|RA z z<|Rw z ?_
    exact Wr<|rtO<|qL (som<|ifT hmx hcm).symm<|F_ hr z z z ⟨bup (bM s9 s8<|c_ lr) s7,a2,I,J,H,z,hd.e s7,iA _ _,he,(or1 hf (c_ lr) (b_f s9.s):∀k∈H,w0.z<=k)⟩
   refine Wk<|Wq<|Wm z<|Rm z ?_
   obtain ⟨_,ay,ab⟩:=bdS<|ifF hmx hcm;refine RX z (at_ (α:=UInt8) p_ z_5 z z z hn ay) ?_;rintro _ ⟨_,_,_,rfl,az,aA,_⟩;obtain rfl:=u8 aA;refine R z (l0 g_5 z<|az.at0 z)<|Rq z z z<|Wn ?_
   obtain ⟨aB,huz,Y⟩:=bdS ab;refine Wt (fun a w=>∃(xg:Int),Sum.inl xg=aB/\Sat 54 [(0,sl A0 N0 C0),(1,vI x2),(2,vU<|byteI x3),(9,sl a2 I J),(10,vI xg)] a/\Below wa.z wa w/\inI xg) ?_ ?_
   ·refine Wc z (fun hco=>?_)<|fun hco=>?_
    ·have a0:=ifT huz hco;refine Wm z<|R z (add_ z z)<|Rw z<|Wm z<|Rm z<|R z (lnR p_ z hn)<|Rq z z z<|Wx z (fun hcp=>?_) (fun hcp=>?_)
     ·obtain rfl:=som<|ifT a0 hcp;have ad:=elR Y;exact We<|exO z (fun _ q=>b_t (som ad).symm ⟨a2,I,J,H,q.k<|s1 z,(f_ (cM (cr [w0.z] G) s8 (io sr):Chg (· ∈ [w0.z]) G wc) s7:Chg (· ∈ [w0.z]) G wa),hd.e s7,he,(or1 hf (io sr) (s_ lr):∀k∈H,k∈[w0.z]∨G.z<=k),iA _ _⟩)
     exact a_7<|fun _ q=>⟨g_ x5 1,som<|ifF a0 hcp,q.k<|s5 z z z z z,br wa,iA _ _⟩
    exact a_7<|fun _ q=>⟨x5,som<|ifF huz hco,q.k<|s5 z z z z z,br wa,hi⟩
   rintro aC a1 ⟨xg,rfl,_,sh,_⟩;have ae:=elL Y;revert aC;refine Wo<|Wg<|RM z z<|Rm z ?_
   obtain ⟨aD,aE,af⟩:=bdS ae;refine RX z (at_ (α:=UInt8) p_ z_5 z z z (O.g<|hy.e sh) aE) ?_;rintro _ ⟨_,_,_,rfl,aF,aG,_⟩;obtain rfl:=u8 aG;refine R z (l0 g_5 z<|aF.at0 z)<|E z (fS [(.tmp 49)] a_9 z z z (a_c z) (lb z)<|lb z) ?_
   rintro _ a3 ⟨rfl,hq⟩;have ht:=hq.below;have aY:=a_x hq b_c;obtain ⟨aH,aI,ah⟩:=bdS af;refine E z (a_O (α:=UInt8) a_9 aI z z (((hd.e s7).e sh).e ht) he (hq.blk:Blk a3 a1.z [vU (byteI aD)]) b_c an_ G_) ?_;rintro _ aJ ⟨a4,aK,aL,aM,rfl,aN,aO,aP,aQ⟩;refine Rw z<|Wg<|Rm z<|R z (add_ z z)<|Ra z<|Wl ?_
   have a5:∀k∈H,k∈[w0.z]∨G.z<=k:=or1 hf (io sr)<|s_ lr;exact fun _ q=>⟨(aH,g_ xg 1),(som ah).symm,⟨aK,aL,aM,a4,q.k<|s5 z z z z z,(cM (f_ (f_ (f_ (cM (cr [w0.z] G) s8 (io sr):Chg (· ∈ [w0.z]) G wc) s7:Chg (· ∈ [w0.z]) G wa) sh:Chg (· ∈ [w0.z]) G a1) ht:Chg (· ∈ [w0.z]) G a3) aN a5:Chg (· ∈ [w0.z]) G aJ),aO,aP,(or2 aQ a5 an_ (s_<|lt_ (lt_ (lt_ s8.s s7.s) sh.s) ht.s):∀k∈a4,k∈[w0.z]∨G.z<=k),iA _ _⟩⟩
  exact We<|fun _ q=>b_t (som<|ifF hms hcl).symm ⟨a2,I,J,H,q.k<|s1 z,(f_ (cM (cr [w0.z] G) s8 (io sr):Chg (· ∈ [w0.z]) G wc) s7:Chg (· ∈ [w0.z]) G wa),hd.e s7,he,(or1 hf (io sr) (s_ lr):∀k∈H,k∈[w0.z]∨G.z<=k),hi⟩
 ·rintro ⟨xb,x5⟩ aR aS rfl ⟨a2,I,J,H,_,a6,hd,he,hf,hi⟩;have ai:=elL hmr;revert aR;refine Wo<|Ws<|E z (f0 (α:=UInt8) a_9) ?_
  rintro _ _ ⟨aT,aU,aV,rfl,aW,aX⟩;refine Rm z<|RA z z<|Rw z ?_
  obtain rfl:=som<|a_G ai;exact Wr<|F_ hr z z z ⟨bup (bM s9 a6<|c_ lr) aW,aT,aU,aV,[aS.z],z,aX,V,a_k,m1<|lt_ s9.s a6.s⟩
 rintro _ _ _ _ rfl ⟨rfl,aj⟩;have ak:=elR hmr;obtain rfl:=som ak;exact ⟨aj,z⟩
structure j_e (f:d_->Int->(List UInt8)->Int->Option (Val×Int×Int)):Prop where
  run:∀{A0 A7:Option Addr}{N0 C0 N7 C7:Nat}{B:Zone}{x1:d_}{x2:Int}{x3:List UInt8}{x4:Int}{res:Val×Int×Int}{w0:World}(hm:f x1 x2 x3 x4=some res)(hBw:B<=w0.z)(p1_0:repS w0 B (sl A0 N0 C0) x1.rules)(p2_0:inI x2)(p3_0:repS w0 B (sl A7 N7 C7) x3)(p4_0:inI x4),n_ prog 56 [(.agg #[sl A0 N0 C0]),vI x2,sl A7 N7 C7,vI x4] w0<|Q15 w0 B res
structure j_f (f:d_->e_->Int->Int->(List UInt8)->Int->Option (Val×Int×Int)):Prop where
  run:∀{A0 A2 A3 A1 A4 AG:Option Addr}{N0 C0 N2 C2 N3 C3 N1 C1 N4 C4 NG CG:Nat}{B:Zone}{x1:d_}{x2:e_}{x3:Int}{x4:Int}{x5:List UInt8}{x6:Int}{res:Val×Int×Int}{w0:World}(hm:f x1 x2 x3 x4 x5 x6=some res)(hBw:B<=w0.z)(p1_0:repS w0 B (sl A0 N0 C0) x1.rules)(p2_0:x2.name.b.length<=LEN)(p2_1:inI x2.kind)(p2_2:inI x2.size)(p2_4:repS w0 B (sl A2 N2 C2) x2.bytes)(p2_5:repS w0 B (sl A3 N3 C3) x2.names)(p2_6:repS w0 B (sl A1 N1 C1) x2.tags)(p2_7:repS w0 B (sl A4 N4 C4) x2.kids)(p3_0:inI x3)(p4_0:inI x4)(p5_0:repS w0 B (sl AG NG CG) x5)(p6_0:inI x6),n_ prog 95 [(.agg #[sl A0 N0 C0]),.agg #[Str.v x2.name,vI x2.kind,vI x2.size,vB x2.little,sl A2 N2 C2,sl A3 N3 C3,sl A1 N1 C1,sl A4 N4 C4],vI x3,vI x4,sl AG NG CG,vI x6] w0<|Q15 w0 B res
structure j_g (f:d_->e_->(List UInt8)->Int->Option (Val×Int×Int)):Prop where
  run:∀{A0 A2 A3 A1 A4 A7:Option Addr}{N0 C0 N2 C2 N3 C3 N1 C1 N4 C4 N7 C7:Nat}{B:Zone}{x1:d_}{x2:e_}{x3:List UInt8}{x4:Int}{res:Val×Int×Int}{w0:World}(hm:f x1 x2 x3 x4=some res)(hBw:B<=w0.z)(p1_0:repS w0 B (sl A0 N0 C0) x1.rules)(p2_0:x2.name.b.length<=LEN)(p2_1:inI x2.kind)(p2_2:inI x2.size)(p2_4:repS w0 B (sl A2 N2 C2) x2.bytes)(p2_5:repS w0 B (sl A3 N3 C3) x2.names)(p2_6:repS w0 B (sl A1 N1 C1) x2.tags)(p2_7:repS w0 B (sl A4 N4 C4) x2.kids)(p3_0:repS w0 B (sl A7 N7 C7) x3)(p4_0:inI x4),n_ prog 96 [(.agg #[sl A0 N0 C0]),.agg #[Str.v x2.name,vI x2.kind,vI x2.size,vB x2.little,sl A2 N2 C2,sl A3 N3 C3,sl A1 N1 C1,sl A4 N4 C4],sl A7 N7 C7,vI x4] w0<|Q15 w0 B res
structure j_h (f:d_->e_->(List UInt8)->Int->Option (Val×Int×Int)):Prop where
  run:∀{A0 A2 A3 A1 A4 A7:Option Addr}{N0 C0 N2 C2 N3 C3 N1 C1 N4 C4 N7 C7:Nat}{B:Zone}{x1:d_}{x2:e_}{x3:List UInt8}{x4:Int}{res:Val×Int×Int}{w0:World}(hm:f x1 x2 x3 x4=some res)(hBw:B<=w0.z)(p1_0:repS w0 B (sl A0 N0 C0) x1.rules)(p2_0:x2.name.b.length<=LEN)(p2_1:inI x2.kind)(p2_2:inI x2.size)(p2_4:repS w0 B (sl A2 N2 C2) x2.bytes)(p2_5:repS w0 B (sl A3 N3 C3) x2.names)(p2_6:repS w0 B (sl A1 N1 C1) x2.tags)(p2_7:repS w0 B (sl A4 N4 C4) x2.kids)(p3_0:repS w0 B (sl A7 N7 C7) x3)(p4_0:inI x4),n_ prog 97 [(.agg #[sl A0 N0 C0]),.agg #[Str.v x2.name,vI x2.kind,vI x2.size,vB x2.little,sl A2 N2 C2,sl A3 N3 C3,sl A1 N1 C1,sl A4 N4 C4],sl A7 N7 C7,vI x4] w0<|Q15 w0 B res
structure j_i (f:d_->e_->(List UInt8)->Int->Option (Val×Int×Int)):Prop where
  run:∀{A0 A2 A3 A1 A4 A7:Option Addr}{N0 C0 N2 C2 N3 C3 N1 C1 N4 C4 N7 C7:Nat}{B:Zone}{x1:d_}{x2:e_}{x3:List UInt8}{x4:Int}{res:Val×Int×Int}{w0:World}(hm:f x1 x2 x3 x4=some res)(hBw:B<=w0.z)(p1_0:repS w0 B (sl A0 N0 C0) x1.rules)(p2_0:x2.name.b.length<=LEN)(p2_1:inI x2.kind)(p2_2:inI x2.size)(p2_4:repS w0 B (sl A2 N2 C2) x2.bytes)(p2_5:repS w0 B (sl A3 N3 C3) x2.names)(p2_6:repS w0 B (sl A1 N1 C1) x2.tags)(p2_7:repS w0 B (sl A4 N4 C4) x2.kids)(p3_0:repS w0 B (sl A7 N7 C7) x3)(p4_0:inI x4),n_ prog 98 [(.agg #[sl A0 N0 C0]),.agg #[Str.v x2.name,vI x2.kind,vI x2.size,vB x2.little,sl A2 N2 C2,sl A3 N3 C3,sl A1 N1 C1,sl A4 N4 C4],sl A7 N7 C7,vI x4] w0<|Q15 w0 B res
abbrev e_N (n:Nat):Prop:=j_e (a_o n).spec_l11Read/\j_f (a_o n).spec_l11Items/\j_g (a_o n).spec_l11Choice/\j_h (a_o n).spec_l11Option/\j_i (a_o n).spec_l11Checked
theorem T_w02 (ih:e_N n):j_e (g_B n<|a_o n):=by
 obtain ⟨_,bo,db,dc,dd⟩:=ih
 constructor
 intro A0 A7 N0 C0 N7 C7 B x1 x2 x3 x4 res w0 hm H W d0 J I;unfold g_B at hm
 refine goG func56 z z z fun fn hr=>Ws<|E z (fb z) ?_
 rintro _ bp ⟨rfl,bq⟩;have h3:=bq.below;have hn:Blk bp w0.z [sl A0 N0 C0]:=bq.blk;refine E z (fa a_6) ?_;rintro _ L ⟨rfl,br⟩;have h4:=br.below;have h2:Blk L bp.z [vI 0,sl none 0 0,sl none 0 0]:=br.blk;refine Ra z<|Rw z<|Ws<|Rf z R_ z ?_
 have ho:=hn.e h4;refine R z (l0 T_ z<|ho.at z)<|Rm z ?_
 obtain ⟨xa,de,b9⟩:=bdS hm;have O:=(h3.ag B).e h4;refine RX z (at_ (α:=e_) U_ m_ z z z (W.g O) de) ?_;rintro _ ⟨_,_,_,rfl,df,dg,_⟩;obtain ⟨ab,nc,cd,ae,nf,cg,ah,ni,cj,ak,nl,cm,rfl,hu,hv,hp,hq,hw,hx,ht⟩:=a_m dg;refine R z (lN (vs:=vR xa ab nc cd ae nf cg ah ni cj ak nl cm) I_ m_ z z fid df)<|E z (fa b_g) ?_
 rintro _ dh ⟨rfl,bs⟩;have G:=bs.below;refine E0 (fs0 (cur':=vR xa ab nc cd ae nf cg ah ni cj ak nl cm) m_ z z (bs.blk:Blk dh L.z [(Str.v (⟨[]⟩:Str)),vI 0,vI 0,vB false,sl none 0 0,sl none 0 0,sl none 0 0,sl none 0 0]) z z z z) ?_;rintro _ _ ⟨V,di⟩;have h1:=di.one;refine Wn<|Wq<|Ws<|Rf z a_n z<|R z (l0 g_3 z<|V.at z)<|Wn<|Wb<|Ws<|Rq z z z<|Rw z<|Wc z (fun al=>?_) (fun al=>?_)
 ·refine Ws<|R z (lN (vs:=[sl A0 N0 C0]) t_ q_ z z fid<|((ho.e G).c h1<|djs<|mm1 hn.lt h4.s).row 0 1 z)<|RM z z<|Rm z ?_
  have hz:=lt_ h3.s h4.s;have bt:=(O.e G).c h1<|b_ (or0 (c_ lr) (k_<|zt' H hz):∀k∈[L.z],¬B k)
  obtain ⟨bu,_,_,dj,ba⟩:=v_<|ifT b9 al;refine E z (fc call66 z<|f_O dj (zt' H<|lt_ (lt_ hz G.s) h1.s) (W.g bt) d0 (J.g bt) I) ?_;rintro _ _ ⟨sr,rfl,dk,dl⟩;refine Rm z ?_
  iterate 3 refine Re z z z ?_
  refine RA z z<|Rw z<|Wq<|Wm z<|R z (not_ z)<|Wx z (fun am=>?_) (fun am=>?_)
  ·refine Ws<|R z (bP (parts:=[]) (cs:=[vI 0,sl none 0 0,sl none 0 0]) Y_ z z)<|Rm z<|E0 (fs0 (cur':=[vI 0,sl none 0 0,sl none 0 0]) i_ z z (((h2.e G).c h1<|djs<|mmr h2.lt).e sr) z z z z) ?_
   rintro _ _ ⟨dm,dn⟩;refine Ra z<|Rw z ?_
   obtain rfl:=som<|ifT ba am;exact Wr<|rtO<|F_ hr (r_ y_ i_ z dm z) z z ⟨bM (bup (bM (bup (bup h3 h4) G) h1<|m1 hz) sr) dn.one<|m1 h3.s,none,0,0,[],none,0,0,[],z,ii z,onL,onL,I,ii z,nd0,al0⟩
  refine Wk<|Wm z<|R z (bP (parts:=[(0,.tmp 43)]) (cs:=[vI bu,sl none 0 0,sl none 0 0]) Y_ z z)<|Rm z<|E0 (fs0 (cur':=[vI bu,sl none 0 0,sl none 0 0]) i_ z z (((h2.e G).c h1<|djs<|mmr h2.lt).e sr) z z z z) ?_
  rintro _ _ ⟨dp,dq⟩;refine Ra z<|Rw z ?_
  obtain rfl:=som<|ifF ba am;exact Wr<|rtO<|F_ hr (r_ y_ i_ z dp z) z z ⟨bM (bup (bM (bup (bup h3 h4) G) h1<|m1 hz) sr) dq.one<|m1 h3.s,none,0,0,[],none,0,0,[],z,dk,onL,onL,dl,ii z,nd0,al0⟩
 have bb:=ifF b9 al;refine Ws<|Rq z z z<|Rw z<|Wc z (fun an=>?_) (fun an=>?_)
 ·refine Ws<|R z (lN (vs:=vR xa ab nc cd ae nf cg ah ni cj ak nl cm) I_ m_ z z fid<|V.row 0 8 z)<|RM z z ?_
  have aA:=lt_ h3.s h4.s;have bv:∀k∈[L.z],¬B k:=or0 (c_ lr)<|k_<|zt' H aA;have Y:=(G.ag B).c h1<|b_ bv
  have aB:=lt_ (lt_ aA G.s) h1.s;obtain ⟨dr,_,_,ds,d1⟩:=v_<|ifT bb an;refine E z (fc call92 z<|W_w2g ds (zt' H aB) hu hv hp (hq.g Y) (hw.g Y) (hx.g Y) (ht.g Y) (J.g<|(O.e G).c h1<|b_ bv) I) ?_;rintro _ _ ⟨bw,bx,bz,bA,dt,bB,bC,bD,du,rfl,dv,dw,dx,dy,dz,aC,a0⟩
  iterate 3 refine Re z z z ?_
  refine E0 (fs0 (cur':=[vI dr.number,sl bx bz bA,sl bB bC bD]) i_ z z (((h2.e G).c h1<|djs<|mmr h2.lt).e bw) z z z z) ?_;rintro _ _ ⟨dA,dB⟩;have aD:=dB.one;refine Ra z<|Rw z ?_
  obtain rfl:=som d1;have bE:=lt_ G.s h1.s;exact Wr<|rtO<|F_ hr (r_ y_ i_ z dA z) z z ⟨bM (bup (bM (bup (bup h3 h4) G) h1<|m1 aA) bw) aD<|m1 h3.s,bx,bz,bA,dt,bB,bC,bD,du,z,dv,dw.c aD<|j_ (al_ a0) h2.lt bE,dx.c aD<|j_ (ar_ a0) h2.lt bE,dy,dz,na_ (nl_ aC) (nr_ aC)<|nj aC,aa_ (l_ (al_ a0) aB)<|l_ (ar_ a0) aB⟩
 have bc:=ifF bb an;refine Ws<|Rq z z z<|Rw z<|Wc z (fun ao=>?_) (fun ao=>?_)
 ·refine Wm z<|Rm z<|Rf z a_z z<|R z (l0 g_3 z<|V.at z) ?_
  have aE:=lt_ h3.s h4.s;have aF:=lt_ (lt_ aE G.s) h1.s;obtain ⟨dC,_,_,dD,d2⟩:=v_<|ifT bc ao;refine E z (fc call93 z<|W_w1c dD (zt' H aF) (J.g<|(O.e G).c h1<|b_ (or0 (c_ lr) (k_<|zt' H aE):∀k∈[L.z],¬B k)) I hp) ?_;rintro _ _ ⟨bF,bG,bH,bI,dF,bJ,bK,bL,dG,rfl,dH,dI,dJ,dK,dL,aG,a1⟩
  iterate 3 refine Re z z z ?_
  refine E0 (fs0 (cur':=[vI dC.number,sl bG bH bI,sl bJ bK bL]) i_ z z (((h2.e G).c h1<|djs<|mmr h2.lt).e bF) z z z z) ?_;rintro _ _ ⟨dN,dO⟩;have aH:=dO.one;refine Ra z<|Rw z ?_
  obtain rfl:=som d2;have bN:=lt_ G.s h1.s;exact Wr<|rtO<|F_ hr (r_ y_ i_ z dN z) z z ⟨bM (bup (bM (bup (bup h3 h4) G) h1<|m1 aE) bF) aH<|m1 h3.s,bG,bH,bI,dF,bJ,bK,bL,dG,z,dH,dI.c aH<|j_ (al_ a1) h2.lt bN,dJ.c aH<|j_ (ar_ a1) h2.lt bN,dK,dL,na_ (nl_ aG) (nr_ aG)<|nj aG,aa_ (l_ (al_ a1) aF)<|l_ (ar_ a1) aF⟩
 have be:=ifF bc ao;refine Ws<|Rq z z z<|Rw z<|Wc z (fun ap=>?_) (fun ap=>?_)
 ·refine Wm z<|Rm z<|Rf z a_R z<|R z (l0 P_ z<|V.at z) ?_
  obtain ⟨_,dP,d3⟩:=bdS<|ifT be ap;have a2:=lt_ h3.s h4.s;have bO:∀k∈[L.z],¬B k:=or0 (c_ lr)<|k_<|zt' H a2;refine RX z (at_ (α:=UInt8) p_ z_5 z z z (hq.g<|(G.ag B).c h1<|b_ bO) dP) ?_;rintro _ ⟨_,_,_,rfl,dS,dT,_⟩;obtain rfl:=u8 dT;refine R z (l0 g_5 z<|dS.at0 z) ?_;have bQ:=lt_ (lt_ a2 G.s) h1.s;obtain ⟨_,_,_,dU,bf⟩:=v_ d3;refine E z (fc call94 z<|W_w2h dU (zt' H bQ) (J.g<|(O.e G).c h1<|b_ bO) I) ?_;rintro _ _ ⟨ss,aI,aJ,aK,dV,rfl,dW,dX,dY,bR⟩;refine Rm z ?_
  iterate 3 refine Re z z z ?_
  refine RA z z<|Rw z<|Wq<|Wm z<|R z (not_ z)<|Wx z (fun aq=>?_) (fun aq=>?_)
  ·refine Ws<|R z (bP (parts:=[]) (cs:=[vI 0,sl none 0 0,sl none 0 0]) Y_ z z)<|Rm z<|E0 (fs0 (cur':=[vI 0,sl none 0 0,sl none 0 0]) i_ z z (((h2.e G).c h1<|djs<|mmr h2.lt).e ss) z z z z) ?_
   rintro _ _ ⟨dZ,e0⟩;refine Ra z<|Rw z ?_
   obtain rfl:=som<|ifT bf aq;exact Wr<|rtO<|F_ hr (r_ y_ i_ z dZ z) z z ⟨bM (bup (bM (bup (bup h3 h4) G) h1<|m1 a2) ss) e0.one<|m1 h3.s,none,0,0,[],none,0,0,[],z,ii z,onL,onL,I,ii z,nd0,al0⟩
  refine Wk<|Wm z<|R z (bP (parts:=[(1,.tmp 82)]) (cs:=[vI 0,sl aI aJ aK,sl none 0 0]) Y_ z z)<|Rm z<|E0 (fs0 (cur':=[vI 0,sl aI aJ aK,sl none 0 0]) i_ z z (((h2.e G).c h1<|djs<|mmr h2.lt).e ss) z z z z) ?_
  rintro _ _ ⟨e1,e2⟩;have bS:=e2.one;refine Ra z<|Rw z ?_
  obtain rfl:=som<|ifF bf aq;exact Wr<|rtO<|F_ hr (r_ y_ i_ z e1 z) z z ⟨bM (bup (bM (bup (bup h3 h4) G) h1<|m1 a2) ss) bS<|m1 h3.s,aI,aJ,aK,dV,none,0,0,[],z,ii z,dW.c bS<|j_ bR h2.lt<|lt_ G.s h1.s,onL,dX,ii z,na_ dY G_<|nmN _,aa_ (l_ bR bQ) an_⟩
 have bg:=ifF be ap;refine Ws<|Rq z z z<|Rw z<|Wc z (fun ar=>?_) (fun ar=>?_)
 ·refine Ws<|R z (lN (vs:=[sl A0 N0 C0]) t_ q_ z z fid<|((ho.e G).c h1<|djs<|mm1 hn.lt h4.s).row 0 1 z)<|R z (lN (vs:=vR xa ab nc cd ae nf cg ah ni cj ak nl cm) I_ m_ z z fid<|V.row 0 8 z)<|Rf z J_ z<|R z (l0 D_ z<|V.at z) ?_
  have aL:=lt_ h3.s h4.s;have bT:∀k∈[L.z],¬B k:=or0 (c_ lr)<|k_<|zt' H aL;have a3:=(G.ag B).c h1<|b_ bT
  have aM:=ht.g a3;refine R z (lnR o_ z aM)<|RM z z ?_
  have bU:=(O.e G).c h1<|b_ bT
  have aN:=lt_ (lt_ aL G.s) h1.s;obtain ⟨e3,_,_,e4,d4⟩:=v_<|ifT bg ar;refine E z (fc call95 z<|bo.run e4 (zt' H aN) (W.g bU) hu hv hp (hq.g a3) (hw.g a3) (hx.g a3) aM (ii z) (a_N<|repS.len aM) (J.g bU) I) ?_;rintro _ _ ⟨bV,bW,bX,bY,e5,bZ,c0,c1,e6,rfl,e7,e8,e9,ea,eb,aO,a4⟩
  iterate 3 refine Re z z z ?_
  refine E0 (fs0 (cur':=[vI e3.number,sl bW bX bY,sl bZ c0 c1]) i_ z z (((h2.e G).c h1<|djs<|mmr h2.lt).e bV) z z z z) ?_;rintro _ _ ⟨ec,ed⟩;have aP:=ed.one;refine Ra z<|Rw z ?_
  obtain rfl:=som d4;have c2:=lt_ G.s h1.s;exact Wr<|rtO<|F_ hr (r_ y_ i_ z ec z) z z ⟨bM (bup (bM (bup (bup h3 h4) G) h1<|m1 aL) bV) aP<|m1 h3.s,bW,bX,bY,e5,bZ,c0,c1,e6,z,e7,e8.c aP<|j_ (al_ a4) h2.lt c2,e9.c aP<|j_ (ar_ a4) h2.lt c2,ea,eb,na_ (nl_ aO) (nr_ aO)<|nj aO,aa_ (l_ (al_ a4) aN)<|l_ (ar_ a4) aN⟩
 have bh:=ifF bg ar;refine Ws<|Rq z z z<|Rw z<|Wc z (fun au=>?_) (fun au=>?_)
 ·refine Ws<|R z (lN (vs:=[sl A0 N0 C0]) t_ q_ z z fid<|((ho.e G).c h1<|djs<|mm1 hn.lt h4.s).row 0 1 z)<|R z (lN (vs:=vR xa ab nc cd ae nf cg ah ni cj ak nl cm) I_ m_ z z fid<|V.row 0 8 z)<|RM z z ?_
  have aQ:=lt_ h3.s h4.s;have c3:∀k∈[L.z],¬B k:=or0 (c_ lr)<|k_<|zt' H aQ;have c4:=(O.e G).c h1<|b_ c3
  have a5:=(G.ag B).c h1<|b_ c3
  have aR:=lt_ (lt_ aQ G.s) h1.s;obtain ⟨ee,_,_,ef,d5⟩:=v_<|ifT bh au;refine E z (fc call96 z<|db.run ef (zt' H aR) (W.g c4) hu hv hp (hq.g a5) (hw.g a5) (hx.g a5) (ht.g a5) (J.g c4) I) ?_;rintro _ _ ⟨c5,c6,c7,c8,eg,c9,ca,cb,eh,rfl,ei,ej,ek,em,en,aS,a6⟩
  iterate 3 refine Re z z z ?_
  refine E0 (fs0 (cur':=[vI ee.number,sl c6 c7 c8,sl c9 ca cb]) i_ z z (((h2.e G).c h1<|djs<|mmr h2.lt).e c5) z z z z) ?_;rintro _ _ ⟨eo,ep⟩;have aT:=ep.one;refine Ra z<|Rw z ?_
  obtain rfl:=som d5;have cc:=lt_ G.s h1.s;exact Wr<|rtO<|F_ hr (r_ y_ i_ z eo z) z z ⟨bM (bup (bM (bup (bup h3 h4) G) h1<|m1 aQ) c5) aT<|m1 h3.s,c6,c7,c8,eg,c9,ca,cb,eh,z,ei,ej.c aT<|j_ (al_ a6) h2.lt cc,ek.c aT<|j_ (ar_ a6) h2.lt cc,em,en,na_ (nl_ aS) (nr_ aS)<|nj aS,aa_ (l_ (al_ a6) aR)<|l_ (ar_ a6) aR⟩
 have bi:=ifF bh au;refine Ws<|Rq z z z<|Rw z<|Wc z (fun av=>?_) (fun av=>?_)
 ·refine Ws<|R z (lN (vs:=[sl A0 N0 C0]) t_ q_ z z fid<|((ho.e G).c h1<|djs<|mm1 hn.lt h4.s).row 0 1 z)<|R z (lN (vs:=vR xa ab nc cd ae nf cg ah ni cj ak nl cm) I_ m_ z z fid<|V.row 0 8 z)<|RM z z ?_
  have aU:=lt_ h3.s h4.s;have ce:∀k∈[L.z],¬B k:=or0 (c_ lr)<|k_<|zt' H aU;have cf:=(O.e G).c h1<|b_ ce
  have a7:=(G.ag B).c h1<|b_ ce
  have aV:=lt_ (lt_ aU G.s) h1.s;obtain ⟨er,_,_,es,d6⟩:=v_<|ifT bi av;refine E z (fc call97 z<|dc.run es (zt' H aV) (W.g cf) hu hv hp (hq.g a7) (hw.g a7) (hx.g a7) (ht.g a7) (J.g cf) I) ?_;rintro _ _ ⟨ch,ci,ck,cl,eu,cn,co,cp,ew,rfl,ex,ey,ez,eA,eB,aW,a8⟩
  iterate 3 refine Re z z z ?_
  refine E0 (fs0 (cur':=[vI er.number,sl ci ck cl,sl cn co cp]) i_ z z (((h2.e G).c h1<|djs<|mmr h2.lt).e ch) z z z z) ?_;rintro _ _ ⟨eC,eD⟩;have aX:=eD.one;refine Ra z<|Rw z ?_
  obtain rfl:=som d6;have cq:=lt_ G.s h1.s;exact Wr<|rtO<|F_ hr (r_ y_ i_ z eC z) z z ⟨bM (bup (bM (bup (bup h3 h4) G) h1<|m1 aU) ch) aX<|m1 h3.s,ci,ck,cl,eu,cn,co,cp,ew,z,ex,ey.c aX<|j_ (al_ a8) h2.lt cq,ez.c aX<|j_ (ar_ a8) h2.lt cq,eA,eB,na_ (nl_ aW) (nr_ aW)<|nj aW,aa_ (l_ (al_ a8) aV)<|l_ (ar_ a8) aV⟩
 have bj:=ifF bi av;refine Ws<|Rq z z z<|Rw z<|Wc z (fun aw=>?_) (fun aw=>?_)
 ·refine Ws<|R z (lN (vs:=[sl A0 N0 C0]) t_ q_ z z fid<|((ho.e G).c h1<|djs<|mm1 hn.lt h4.s).row 0 1 z)<|R z (lN (vs:=vR xa ab nc cd ae nf cg ah ni cj ak nl cm) I_ m_ z z fid<|V.row 0 8 z)<|RM z z ?_
  have aY:=lt_ h3.s h4.s;have cr:∀k∈[L.z],¬B k:=or0 (c_ lr)<|k_<|zt' H aY;have ct:=(O.e G).c h1<|b_ cr
  have a9:=(G.ag B).c h1<|b_ cr
  have aZ:=lt_ (lt_ aY G.s) h1.s;obtain ⟨eE,_,_,eF,d7⟩:=v_<|ifT bj aw;refine E z (fc call98 z<|dd.run eF (zt' H aZ) (W.g ct) hu hv hp (hq.g a9) (hw.g a9) (hx.g a9) (ht.g a9) (J.g ct) I) ?_;rintro _ _ ⟨cu,cv,cw,cx,eG,cy,cz,cA,eH,rfl,eI,eJ,eK,eL,eM,b0,aa⟩
  iterate 3 refine Re z z z ?_
  refine E0 (fs0 (cur':=[vI eE.number,sl cv cw cx,sl cy cz cA]) i_ z z (((h2.e G).c h1<|djs<|mmr h2.lt).e cu) z z z z) ?_;rintro _ _ ⟨eN,eO⟩;have b1:=eO.one;refine Ra z<|Rw z ?_
  obtain rfl:=som d7;have cB:=lt_ G.s h1.s;exact Wr<|rtO<|F_ hr (r_ y_ i_ z eN z) z z ⟨bM (bup (bM (bup (bup h3 h4) G) h1<|m1 aY) cu) b1<|m1 h3.s,cv,cw,cx,eG,cy,cz,cA,eH,z,eI,eJ.c b1<|j_ (al_ aa) h2.lt cB,eK.c b1<|j_ (ar_ aa) h2.lt cB,eL,eM,na_ (nl_ b0) (nr_ b0)<|nj b0,aa_ (l_ (al_ aa) aZ)<|l_ (ar_ aa) aZ⟩
 refine Wk<|Wq (Wd (X:=noX) 0 (pl_ 15 [7]) mo (by kernel_rfl) fun fp s6 _=>?_)
 have cC:=((ho.e G).c h1<|djs<|mm1 hn.lt h4.s).e s6;refine dR z z (lN (vs:=[sl A0 N0 C0]) t_ q_ z z fid<|cC.row 0 1 z)<|dR z z (fd J_ z) ?_
 have cD:=V.e s6;refine dR z z (l0 D_ z<|cD.at z) ?_;obtain ⟨_,eP,d8⟩:=bdS<|ifF bj aw;have hy:=lt_ h3.s h4.s;have cE:∀k∈[L.z],¬B k:=or0 (c_ lr)<|k_<|zt' H hy;have cF:=((G.ag B).c h1<|b_ cE).e s6;refine dRX z z (at_ (α:=Int) o_ z_3 z z z (ht.g cF) eP) ?_;rintro _ ⟨_,_,_,rfl,eQ,eR,_⟩;obtain ⟨rfl,eS⟩:=M_ eR;refine dR z z (l0 g_3 z<|eQ.at0 z)<|dM z z z<|dM z z z ?_
 have ad:=((O.e G).c h1<|b_ cE).e s6;have b2:=lt_ (lt_ (lt_ hy G.s) h1.s) s6.s;obtain ⟨_,_,_,eT,bk⟩:=v_ d8;refine dE z z (fc call66 z<|f_O eT (zt' H b2) (W.g ad) eS (J.g ad) I) (.inr fun _ _ h=>w_<|h.1) ?_;rintro _ _ ⟨s5,rfl,cG,cH⟩;refine dM z z z ?_
 iterate 3 refine dR z z (ext_ z z) ?_
 iterate 3 refine dQ z z z ?_
 refine pD<|Wo<|Wq<|Wb<|Wm z<|R z (not_ z)<|Rw z<|Wc z (fun ax=>?_) (fun ax=>?_)
 ·refine Ws<|R z (bP (parts:=[]) (cs:=[vI 0,sl none 0 0,sl none 0 0]) Y_ z z)<|Rm z<|E0 (fs0 (cur':=[vI 0,sl none 0 0,sl none 0 0]) i_ z z ((((h2.e G).c h1<|djs<|mmr h2.lt).e s6).e s5) z z z z) ?_
  rintro _ _ ⟨eU,eV⟩;refine Ra z<|Rw z ?_
  obtain rfl:=som<|ifT bk ax;exact Wr<|rtO<|F_ hr (r_ y_ i_ z eU z) z z ⟨bM (bup (bup (bM (bup (bup h3 h4) G) h1<|m1 hy) s6) s5) eV.one<|m1 h3.s,none,0,0,[],none,0,0,[],z,ii z,onL,onL,I,ii z,nd0,al0⟩
 have bm:=ifF bk ax;refine Ws<|Rf z a_n z ?_
 have cI:=cD.e s5;refine R z (l0 g_3 z<|cI.at z)<|Rq z z z<|Rw z<|Wc z (fun ay=>?_) (fun ay=>?_)
 ·refine Wm z<|RM z z ?_
  have b3:=lt_ b2 s5.s;obtain ⟨eW,_,_,eX,d9⟩:=v_<|ifT bm ay;refine E z (fc call93 z<|W_w1c eX (zt' H b3) (J.g<|ad.e s5) cH cG) ?_;rintro _ _ ⟨cJ,cK,cL,cM,eY,cN,cO,cP,eZ,rfl,f0,f1,f2,f3,f4,b4,af⟩
  iterate 3 refine Re z z z ?_
  refine E0 (fs0 (cur':=[vI eW.number,sl cK cL cM,sl cN cO cP]) i_ z z (((((h2.e G).c h1<|djs<|mmr h2.lt).e s6).e s5).e cJ) z z z z) ?_;rintro _ _ ⟨f5,f6⟩;have b5:=f6.one;refine Ra z<|Rw z ?_
  obtain rfl:=som d9;have cQ:=lt_ (lt_ (lt_ G.s h1.s) s6.s) s5.s;exact Wr<|rtO<|F_ hr (r_ y_ i_ z f5 z) z z ⟨bM (bup (bup (bup (bM (bup (bup h3 h4) G) h1<|m1 hy) s6) s5) cJ) b5<|m1 h3.s,cK,cL,cM,eY,cN,cO,cP,eZ,z,f0,f1.c b5<|j_ (al_ af) h2.lt cQ,f2.c b5<|j_ (ar_ af) h2.lt cQ,f3,f4,na_ (nl_ b4) (nr_ b4)<|nj b4,aa_ (l_ (al_ af) b3)<|l_ (ar_ af) b3⟩
 have bn:=ifF bm ay;refine Wm z<|R z (a_e z z)<|Rw z<|Wc z (fun az=>?_) (fun az=>?_)
 ·refine Ws<|R z (bP (parts:=[]) (cs:=[vI 0,sl none 0 0,sl none 0 0]) Y_ z z)<|Rm z<|E0 (fs0 (cur':=[vI 0,sl none 0 0,sl none 0 0]) i_ z z ((((h2.e G).c h1<|djs<|mmr h2.lt).e s6).e s5) z z z z) ?_
  rintro _ _ ⟨f7,f8⟩;refine Ra z<|Rw z ?_
  obtain rfl:=som<|ifT bn az;exact Wr<|rtO<|F_ hr (r_ y_ i_ z f7 z) z z ⟨bM (bup (bup (bM (bup (bup h3 h4) G) h1<|m1 hy) s6) s5) f8.one<|m1 h3.s,none,0,0,[],none,0,0,[],z,ii z,onL,onL,I,ii z,nd0,al0⟩
 refine Wk<|Ws<|R z (lN (vs:=[sl A0 N0 C0]) t_ q_ z z fid<|(cC.e s5).row 0 1 z)<|R z (lN (vs:=vR xa ab nc cd ae nf cg ah ni cj ak nl cm) I_ m_ z z fid<|cI.row 0 8 z)<|RM z z<|Rm z ?_
 have cR:=ad.e s5;have ai:=cF.e s5;have b6:=lt_ b2 s5.s;obtain ⟨f9,_,_,fe,da⟩:=v_<|ifF bn az;refine E z (fc call95 z<|bo.run fe (zt' H b6) (W.g cR) hu hv hp (hq.g ai) (hw.g ai) (hx.g ai) (ht.g ai) (ii z) cG (J.g cR) cH) ?_;rintro _ _ ⟨cS,cT,cU,cV,ff,cW,cX,cY,fg,rfl,fh,fi,fj,fk,fl,b7,aj⟩
 iterate 3 refine Re z z z ?_
 refine E0 (fs0 (cur':=[vI f9.number,sl cT cU cV,sl cW cX cY]) i_ z z (((((h2.e G).c h1<|djs<|mmr h2.lt).e s6).e s5).e cS) z z z z) ?_;rintro _ _ ⟨fm,fo⟩;have b8:=fo.one;refine Ra z<|Rw z ?_
 obtain rfl:=som da;have cZ:=lt_ (lt_ (lt_ G.s h1.s) s6.s) s5.s;exact Wr<|F_ hr (r_ y_ i_ z fm z) z z ⟨bM (bup (bup (bup (bM (bup (bup h3 h4) G) h1<|m1 hy) s6) s5) cS) b8<|m1 h3.s,cT,cU,cV,ff,cW,cX,cY,fg,z,fh,fi.c b8<|j_ (al_ aj) h2.lt cZ,fj.c b8<|j_ (ar_ aj) h2.lt cZ,fk,fl,na_ (nl_ b7) (nr_ b7)<|nj b7,aa_ (l_ (al_ aj) b6)<|l_ (ar_ aj) b6⟩
theorem T_w1d (ih:e_N n):j_f (g_C n<|a_o n):=by
 obtain ⟨am,_,_,_,_⟩:=ih
 constructor
 intro A0 A2 A3 A1 A4 AG N0 C0 N2 C2 N3 C3 N1 C1 N4 C4 NG CG B x1 x2 x3 x4 x5 x6 res w0 hm V ai aL aM aN aO aP aQ aR aS aj ak ci;unfold g_C at hm
 refine goG func95 z z z fun fn hr=>Ws<|E z (fb z) ?_
 rintro _ a4 ⟨rfl,aX⟩;have hd:=aX.below;have an:Blk a4 w0.z [sl A0 N0 C0]:=aX.blk;refine E z (fb z) ?_;rintro _ wr ⟨rfl,aY⟩;have hb:=aY.below;have ao:Blk wr a4.z (vR x2 A2 N2 C2 A3 N3 C3 A1 N1 C1 A4 N4 C4):=aY.blk;refine E z (fa a_6) ?_;rintro _ G ⟨rfl,aZ⟩;have h5:=aZ.below;have hu:Blk G wr.z [vI 0,sl none 0 0,sl none 0 0]:=aZ.blk;refine Ra z<|Rw z<|Ws<|R z (bP (parts:=[]) (cs:=[vI 0,sl none 0 0,sl none 0 0]) Y_ z z)<|E z (fa a_6) ?_
 rintro _ cy ⟨rfl,b0⟩;have h3:=b0.below;have hv:Blk cy G.z [vI 0,sl none 0 0,sl none 0 0]:=b0.blk;refine E0 (fs0 (cur':=[vI 0,sl none 0 0,sl none 0 0]) i_ z z hv z z z z) ?_;rintro _ I ⟨cz,cA⟩;have H:=cA.one;refine Wn<|Wq<|Ws<|Rw z ?_
 obtain ⟨_,cj,aT⟩:=bdS hm;refine Wf (σ:=Int×(List Val)) (ρ:=Val×Int×Int) (fun (ap:Nat) s a w=>un2 (fun xc xp=>∃L O ca J,Sat 52 [(2,vI x3),(3,vI x4),(4,sl AG NG CG),(5,vI xc),(6,pt w0.z),(7,pt a4.z),(12,pt wr.z),(15,pt G.z),(16,vI ((ap:Nat):Int))] a/\Chg (· ∈ [G.z]) I w/\inI xc/\a_ w J (sl L O ca) xp/\J.Nodup/\(∀k∈J,I.z<=k)/\Blk w G.z [vI 0,sl none 0 0,sl L O ca]) s) (fun s a w=>un2 (fun xc xp=>∃L O ca J,Sat 52 [(5,vI xc),(12,pt wr.z),(15,pt G.z)] a/\Chg (· ∈ [G.z]) I w/\inI xc/\a_ w J (sl L O ca) xp/\J.Nodup/\(∀k∈J,I.z<=k)/\Blk w G.z [vI 0,sl none 0 0,sl L O ca]) s) (rQ prog fn<|Q15 w0 B) cj ?_ ?_ ?_ ?_ ?_
 ·exact fun _ q=>⟨none,0,0,[],q.k<|s9 z z z z z z z z z,cr [G.z] I,ci,onL,G_,an_,cz⟩
 ·rintro ap ⟨xc,xp⟩ _ wg _ a3 ⟨L,O,ca,J,ck,s4,hh,hi,hw,he,hx⟩ cl;refine Wu ?_ ck;refine Wq<|Wm z<|Rm z<|Rl z z z<|Wx z (fun _=>?_) (fun hc=>(h_M a3 hc).elim)
  refine Wk<|Wq<|Wb<|Wq ?_
  obtain ⟨cB,aU,cm⟩:=bdS<|a_G cl;refine Wt (fun a w=>∃(xj:Int)(a5:List UInt8)(a6:List Val)(xs:Int)(a7:Int),(xj,a5,a6,xs,a7)=cB/\∃ay nz W Sk Y a0 a1 Sl gq,Sat 52 [(2,vI x3),(3,vI x4),(4,sl AG NG CG),(6,pt w0.z),(7,pt a4.z),(12,pt wr.z),(15,pt G.z),(16,vI ((ap:Nat):Int)),(17,pt gq),(18,vI xs),(19,vI a7)] a/\Below wg.z wg w/\inI xj/\a_ w Sk (sl ay nz W) a5/\Sk.Nodup/\(∀k∈Sk,wg.z<=k)/\a_ w Sl (sl Y a0 a1) a6/\Sl.Nodup/\(∀k∈Sl,wg.z<=k)/\(∀k∈Sl,k∉Sk)/\inI xs/\inI a7/\Blk w gq [vI xj,sl ay nz W,sl Y a0 a1]/\wg.z<=gq/\(∀k∈Sk,k∉[gq])/\(∀k∈Sl,k∉[gq])) ?_ ?_
  ·refine Wd (X:=fun k=>k∈([]:List Nat)∨wg.z<=k) 0 (.rd 0<|.rd 1<|.rd 2<|.rd 3<|.rd 5<|.rd 6<|.br 4 (.br 7 (.rd 8<|.rd 9<|.rd 10<|.rd 11<|.ef 12<|.ef 13<|.rd 14<|.rd 15 .done) 12<|.ef 7<|.rd 8<|.rd 9<|.rd 10<|.rd 11<|.ef 13<|.rd 14<|.rd 15 .done) 12<|.ef 4<|.ef 7<|.rd 8<|.rd 9<|.rd 10<|.rd 11<|.ef 13<|.rd 14<|.rd 15 .done) mo (by kernel_rfl) fun b1 s7 _=>?_
   have b2:=lt_ hb.s h5.s;have b3:=mm1 an.lt b2;refine dR z z (lN (vs:=[sl A0 N0 C0]) t_ q_ z z (a_y nm0<|Nat.lt_of_lt_of_le an.lt<|lt_ (lt_ (lt_ b2 h3.s) H.s) s4.s)<|((((((an.e hb).e h5).e h3).c H<|djs b3).c s4<|djs b3).e s7).row 0 1 z) ?_;have b4:=mm1 ao.lt h5.s;refine dR z z (lN (vs:=vR x2 A2 N2 C2 A3 N3 C3 A1 N1 C1 A4 N4 C4) I_ m_ z z (a_y nm0<|Nat.lt_of_lt_of_le ao.lt<|lt_ (lt_ (lt_ h5.s h3.s) H.s) s4.s)<|(((((ao.e h5).e h3).c H<|djs b4).c s4<|djs b4).e s7).row 0 8 z) ?_
   iterate 4 refine dM z z z ?_
   refine d_X ?_ ?_
   ·have b5:=lt_ (lt_ hd.s hb.s) h5.s;have b6:∀k∈[G.z],¬B k:=or0 (c_ lr)<|k_<|zt' V b5;have ht:=((((((hd.ag B).e hb).e h5).e h3).c H<|b_ b6).c s4<|b_ b6).e s7;have aq:=lt_ (lt_ (lt_ (lt_ b5 h3.s) H.s) s4.s) s7.s;obtain ⟨_,cC,aV⟩:=bdS aU;refine dE z z (fc call31 z<|d_a cC (zt' V aq) aL aM aN (aO.g ht) (aP.g ht) (aQ.g ht) (aR.g ht) aS<|ic (Nat.le_of_lt a3)<|tl_ aj) (.inr fun _ _ h=>w_<|h.1) ?_;rintro _ b7 ⟨sf,rfl,b8⟩;refine d_X ?_ ?_
    ·have b9:=ht.e sf;obtain ⟨a9,cD,cE,cF,cn⟩:=v_ aV;refine dE z z (fc call56 z<|am.run cF (zt' V<|lt_ aq sf.s) (ai.g b9) b8 (ak.g b9) hh) (.inr fun _ _ h=>w_<|h.1) ?_;rintro _ ba ⟨bb,bc,be,bf,cG,bg,bh,bi,cH,rfl,cI,bj,bk,cJ,cK,ar,bm⟩;refine dM z z z ?_
     iterate 3 refine dR z z (ext_ z z) ?_
     refine dE z z (fa a_6) (.inr fun _ _ h=>w_<|h.2.below) ?_;rintro _ cL ⟨rfl,bn⟩;have au:=bn.below;have av:=lt_ s7.s sf.s;have aw:=m1<|lt_ av bb.s
     refine dE0 z (fs0 (cur':=[vI a9.number,sl bc be bf,sl bg bh bi]) i_ z z (bn.blk:Blk cL ba.z [vI 0,sl none 0 0,sl none 0 0]) z z z z) (.inr fun _ _ h=>c_v (atp aw) h.2) ?_;rintro _ _ ⟨cN,cO⟩;have ax:=cO.one;refine dQ z z z<|dQ z z z<|pD ?_
     have bo:=mnr<|a_.lt bj
     have bp:=mnr<|a_.lt bk
     exact fun _ q=>⟨a9.number,a9.bytes,a9.items,cD,cE,som cn,bc,be,bf,cG,bg,bh,bi,cH,ba.z,q.k<|sc z<|sc z<|sc z<|sc z<|sc z<|sc z<|sc z<|sc z<|sc z<|sc z<|sc z sn,bM (bup (bup (bup s7 sf) bb) au) ax aw,cI,(bj.e au).c ax<|ds bo,nl_ ar,l_ (al_ bm) av,(bk.e au).c ax<|ds bp,nr_ ar,l_ (ar_ bm) av,ds<|nj ar,cJ,cK,cN,atp aw,ds bo,ds bp⟩
    refine dE z z (fa a_6) (.inr fun _ _ h=>w_<|h.2.below) ?_;rintro _ cP ⟨rfl,bq⟩;have aa:=bq.below;have az:Blk cP b7.z [vI 0,sl none 0 0,sl none 0 0]:=bq.blk;have bs:=(ht.e sf).e aa;obtain ⟨ab,cQ,cR,cS,co⟩:=v_ aV;refine dE z z (fc call56 z<|am.run cS (zt' V<|lt_ (lt_ aq sf.s) aa.s) (ai.g bs) b8 (ak.g bs) hh) (.inr fun _ _ h=>w_<|h.1) ?_;rintro _ _ ⟨bt,bu,bv,bw,cT,bx,bz,bA,cU,rfl,cV,cW,cX,cY,cZ,aA,ad⟩;refine dM z z z ?_
    iterate 3 refine dR z z (ext_ z z) ?_
    have bB:=lt_ s7.s sf.s;have aB:=m1 bB;refine dE0 z (fs0 (cur':=[vI ab.number,sl bu bv bw,sl bx bz bA]) i_ z z (az.e bt) z z z z) (.inr fun _ _ h=>c_v (atp aB) h.2) ?_;rintro _ _ ⟨d0,d1⟩;have aC:=d1.one;refine dQ z z z<|dQ z z z<|pD ?_
    have bC:=j_ (al_ ad) az.lt lr;have bD:=lt_ bB aa.s;have bE:=j_ (ar_ ad) az.lt lr;exact fun _ q=>⟨ab.number,ab.bytes,ab.items,cQ,cR,som co,bu,bv,bw,cT,bx,bz,bA,cU,b7.z,q.k<|sc z<|sc z<|sc z<|sc z<|sc z<|sc z<|sc z<|sc z<|sc z<|sc z<|sc z sn,bM (bup (bup (bup s7 sf) aa) bt) aC aB,cV,cW.c aC bC,nl_ aA,l_ (al_ ad) bD,cX.c aC bE,nr_ aA,l_ (ar_ ad) bD,ds<|nj aA,cY,cZ,d0,atp aB,bC,bE⟩
   refine dE z z (fa a_6) (.inr fun _ _ h=>w_<|h.2.below) ?_;rintro _ d2 ⟨rfl,bF⟩;have ae:=bF.below;have aD:Blk d2 b1.z [vI 0,sl none 0 0,sl none 0 0]:=bF.blk;have bG:=lt_ (lt_ hd.s hb.s) h5.s;have bH:∀k∈[G.z],¬B k:=or0 (c_ lr)<|k_<|zt' V bG;have a2:=(((((((hd.ag B).e hb).e h5).e h3).c H<|b_ bH).c s4<|b_ bH).e s7).e ae;have bI:=lt_ (lt_ (lt_ (lt_ (lt_ bG h3.s) H.s) s4.s) s7.s) ae.s;obtain ⟨_,d3,cp⟩:=bdS aU;refine dE z z (fc call31 z<|d_a d3 (zt' V bI) aL aM aN (aO.g a2) (aP.g a2) (aQ.g a2) (aR.g a2) aS<|ic (Nat.le_of_lt a3)<|tl_ aj) (.inr fun _ _ h=>w_<|h.1) ?_;rintro _ _ ⟨sm,rfl,d4⟩;have bJ:=a2.e sm;obtain ⟨af,d5,d6,d7,cq⟩:=v_ cp;refine dE z z (fc call56 z<|am.run d7 (zt' V<|lt_ bI sm.s) (ai.g bJ) d4 (ak.g bJ) hh) (.inr fun _ _ h=>w_<|h.1) ?_;rintro _ _ ⟨bK,bL,bN,bO,d8,bQ,bR,bS,d9,rfl,da,db,dc,dd,de,aE,ah⟩;refine dM z z z ?_
   iterate 3 refine dR z z (ext_ z z) ?_
   have aF:=m1 s7.s;refine dE0 z (fs0 (cur':=[vI af.number,sl bL bN bO,sl bQ bR bS]) i_ z z ((aD.e sm).e bK) z z z z) (.inr fun _ _ h=>c_v (atp aF) h.2) ?_;rintro _ _ ⟨df,dg⟩;have aG:=dg.one;refine dQ z z z<|dQ z z z<|pD ?_
   have bT:=j_ (al_ ah) aD.lt sm.s;have bU:=lt_ (lt_ s7.s ae.s) sm.s;have bV:=j_ (ar_ ah) aD.lt sm.s;exact fun _ q=>⟨af.number,af.bytes,af.items,d5,d6,som cq,bL,bN,bO,d8,bQ,bR,bS,d9,b1.z,q.k<|sc z<|sc z<|sc z<|sc z<|sc z<|sc z<|sc z<|sc z<|sc z<|sc z<|sc z sn,bM (bup (bup (bup s7 ae) sm) bK) aG aF,da,db.c aG bT,nl_ aE,l_ (al_ ah) bU,dc.c aG bV,nr_ aE,l_ (ar_ ah) bU,ds<|nj aE,dd,de,df,atp aF,bT,bV⟩
  rintro dh bW ⟨xj,a5,a6,xs,a7,rfl,ay,nz,W,Sk,Y,a0,a1,Sl,gq,_,so,di,dj,dk,aH,dl,dm,aI,dn,bX,dp,dq,_,_,_⟩;have aW:=c_u cm;revert dh;refine Wo<|Wq<|Wm z<|R z (nq z z)<|Wx z (fun al=>?_) (fun al=>?_)
  ·refine Ws<|R z (bP (parts:=[]) (cs:=[vI 0,sl none 0 0,sl none 0 0]) Y_ z z)<|RM z z ?_
   have bY:=mmr hu.lt;refine E0 (fs0 (cur':=[vI 0,sl none 0 0,sl none 0 0]) i_ z z ((((hu.e h3).c H<|djs bY).c s4<|djs bY).e so) z z z z) ?_;rintro _ _ ⟨dr,dt⟩;refine Ra z<|Rw z ?_
   have bZ:=lt_ hd.s hb.s;have c0:=m1<|lt_ bZ h5.s
   exact Wr<|rtO<|qL (som<|ifT aW al).symm<|F_ hr (r_ y_ i_ z dr z) z z ⟨bM (bup (bM (bM (bup (bup (bup hd hb) h5) h3) H c0) s4 c0) so) dt.one<|m1 bZ,none,0,0,[],none,0,0,[],z,ii z,onL,onL,bX,dp,nd0,al0⟩
  refine Wk<|Ws<|Rf z a_q z ?_
  have c1:=hx.e so;refine R z (l0 a_P z<|c1.at z)<|R z (lN (vs:=[vI xj,sl ay nz W,sl Y a0 a1]) y_ i_ z z fid<|dq.row 0 3 z)<|E z (fS [(.tmp 45)] b_V z z z (a_c z) (lb z)<|lb z) ?_
  rintro _ c2 ⟨rfl,c3⟩;have hn:=c3.below;obtain ⟨du,dv,ct⟩:=bdS<|ifF aW al;refine E z (a_O (α:=Val) b_V dv z z ((hi.e so).e hn) hw (c3.blk:Blk c2 bW.z [vI xj,sl ay nz W,sl Y a0 a1]) (d_s (x:=(⟨xj,a5,a6⟩:Val)) (S1:=Sk) (S2:=Sl) di (dj.e hn)<|dl.e hn) (aa_ (b_e aH (a_.lt hi) lr)<|b_e aI (a_.lt hi) lr)<|na_ dk dm<|ds dn) ?_;rintro _ dw ⟨aJ,c4,c5,c6,rfl,c7,dx,dy,c8⟩;refine Rf z a_q z ?_;have c9:=j_ he hv.lt H.s;refine E0 (fs0 (cur':=[vI 0,sl none 0 0,sl c4 c5 c6]) d_z z z ((c1.e hn).c c7<|djs c9) z z z z) ?_;rintro _ dz ⟨dA,dB⟩;have cb:=dB.one;refine Wn<|Wg<|Rm z<|Rw z<|Wg<|Rm z<|R z (inc_ a3 (tl_ aj) z z)<|Ra z<|Wl ?_
  have aK:=lt_ H.s s4.s;exact fun _ q=>⟨(xs,du),(som ct).symm,⟨c4,c5,c6,aJ,q.k<|s9 z z z z z z z z z,(cM (cM (f_ (f_ (cM (cr [G.z] I) s4 (io sr):Chg (· ∈ [G.z]) I wg) so:Chg (· ∈ [G.z]) I bW) hn:Chg (· ∈ [G.z]) I c2) c7 (or0 he (s_ lr):∀k∈J,k∈[G.z]∨I.z<=k):Chg (· ∈ [G.z]) I dw) cb (io sr):Chg (· ∈ [G.z]) I dz),bX,dx.c cb (or2 c8 c9 (aa_ (j_ aH hv.lt aK)<|j_ aI hv.lt aK) (O_ (c_ hv.lt)<|lt_ (lt_ aK so.s) hn.s):∀k∈aJ,k∉[G.z]),dy,(or2 c8 he (aa_ (l_ aH s4.s)<|l_ aI s4.s) (b_f<|lt_ (lt_ s4.s so.s) hn.s):∀k∈aJ,I.z<=k),dA⟩⟩
 ·rintro ⟨xc,xp⟩ _ dC ⟨L,O,ca,J,cu,dD,hh,hi,hw,he,hx⟩;refine Wu ?_ cu;refine Wq<|Wm z<|Rm z<|Rl z z z<|Wx z (fun hc=>(h_N hc).elim) (fun _=>?_)
  exact We<|fun _ q=>⟨rfl,⟨L,O,ca,J,q.k<|s3 z z z,(cM (cr [G.z] I) dD (io sr):Chg (· ∈ [G.z]) I dC),hh,hi,hw,he,hx⟩⟩
 ·rintro ⟨xc,xp⟩ dF _ rfl ⟨L,O,ca,J,_,cc,hh,hi,hw,he,hx⟩;have cv:=elL aT;revert dF;refine Wo<|Ws<|R z (lN (vs:=[vI 0,sl none 0 0,sl L O ca]) y_ i_ z z fid<|hx.row 0 3 z)<|Rm z ?_
  have cd:=mmr hu.lt;refine E0 (fs0 (cur':=[vI 0,sl none 0 0,sl L O ca]) i_ z z (((hu.e h3).c H<|djs cd).c cc<|djs cd) z z z z) ?_;rintro _ _ ⟨dG,dH⟩;have ce:=dH.one;refine Ra z<|Rw z ?_
  obtain rfl:=som<|a_G cv;have cf:=lt_ hd.s hb.s;have cg:=lt_ cf h5.s;have ch:=m1 cg;exact Wr<|F_ hr (r_ y_ i_ z dG z) z z ⟨bM (bM (bM (bup (bup (bup hd hb) h5) h3) H ch) cc ch) ce<|m1 cf,none,0,0,[],L,O,ca,J,z,ii z,onL,hi.c ce<|j_ he hu.lt<|lt_ h3.s H.s,hh,ii z,na_ G_ hw an_,aa_ an_<|l_ he<|lt_ (lt_ cg h3.s) H.s⟩
 rintro _ _ _ _ rfl ⟨rfl,cw⟩;have cx:=elR aT;obtain rfl:=som cx;exact ⟨cw,z⟩
theorem T_w1e (ih:e_N n):j_g (g_D n<|a_o n):=by
 obtain ⟨_,aA,_,_,_⟩:=ih
 constructor
 intro A0 A2 A3 A1 A4 A7 N0 C0 N2 C2 N3 C3 N1 C1 N4 C4 N7 C7 B x1 x2 x3 x4 res w0 hm W Y a0 a1 a2 a3 a4 a5 O a6 V;unfold g_D at hm
 refine goG func96 z z z fun fn hr=>Ws<|E z (fb z) ?_
 rintro _ wy ⟨rfl,hz⟩;have hf:=hz.below;refine E z (fb z) ?_;rintro _ wq ⟨rfl,ad⟩;have h5:=ad.below;refine E z (fa a_6) ?_;rintro _ aB ⟨rfl,ae⟩;have h3:=ae.below;have h6:Blk aB wq.z [vI 0,sl none 0 0,sl none 0 0]:=ae.blk;refine Ra z<|Rw z<|Wq (Wd (X:=noX) 0 (pl_ 15 [7]) mo (by kernel_rfl) fun b6 G _=>?_)
 have af:=(((hz.blk:Blk wy w0.z [sl A0 N0 C0]).e h5).e h3).e G;refine dR z z (lN (vs:=[sl A0 N0 C0]) t_ q_ z z fid<|af.row 0 1 z)<|dR z z (fd J_ z) ?_
 have ah:=((ad.blk:Blk wq wy.z (vR x2 A2 N2 C2 A3 N3 C3 A1 N1 C1 A4 N4 C4)).e h3).e G;refine dR z z (l0 D_ z<|ah.at z) ?_;obtain ⟨_,aC,ax⟩:=bdS hm;have hh:=(((hf.ag B).e h5).e h3).e G;refine dRX z z (at_ (α:=Int) o_ z_3 z z z (O.g hh) aC) ?_;rintro _ ⟨_,_,_,rfl,aD,aE,_⟩;obtain ⟨rfl,aF⟩:=M_ aE;refine dR z z (l0 g_3 z<|aD.at0 z)<|dM z z z<|dM z z z ?_
 have hi:=lt_ hf.s h5.s;have ai:=lt_ (lt_ hi h3.s) G.s;obtain ⟨aj,_,_,aG,a7⟩:=v_ ax;refine dE z z (fc call66 z<|f_O aG (zt' W ai) (Y.g hh) aF (a6.g hh) V) (.inr fun _ _ h=>w_<|h.1) ?_;rintro _ _ ⟨s1,rfl,ht,aH⟩;refine dM z z z ?_
 iterate 3 refine dR z z (ext_ z z) ?_
 iterate 3 refine dQ z z z ?_
 refine pD<|Wo<|Wq<|Wm z<|R z (not_ z)<|Wx z (fun hcr=>?_) (fun hcr=>?_)
 ·refine Ws<|R z (bP (parts:=[]) (cs:=[vI 0,sl none 0 0,sl none 0 0]) Y_ z z)<|Rm z<|E0 (fs0 (cur':=[vI 0,sl none 0 0,sl none 0 0]) i_ z z ((h6.e G).e s1) z z z z) ?_
  rintro _ _ ⟨aI,aJ⟩;refine Ra z<|Rw z ?_
  obtain rfl:=som<|ifT a7 hcr;exact Wr<|F_ hr (r_ y_ i_ z aI z) z z ⟨bM (bup (bup (bup (bup hf h5) h3) G) s1) aJ.one<|m1 hi,none,0,0,[],none,0,0,[],z,ii z,onL,onL,V,ii z,nd0,al0⟩
 refine Wk<|Wq<|Ws ?_
 have ak:=ah.e s1;refine R z (lN (vs:=vR x2 A2 N2 C2 A3 N3 C3 A1 N1 C1 A4 N4 C4) I_ m_ z z fid<|ak.row 0 8 z)<|Rm z ?_
 have hg:=hh.e s1;have al:=lt_ ai s1.s;obtain ⟨_,aK,a9⟩:=bdS<|ifF a7 hcr;refine E z (fc call31 z<|d_a aK (zt' W al) a0 a1 a2 (a3.g hg) (a4.g hg) (a5.g hg) (O.g hg) ht<|ii z) ?_;rintro _ _ ⟨s2,rfl,_⟩;refine Rl z z z<|Wx z (fun hcs=>?_) (fun hcs=>?_)
 ·refine Ws<|R z (bP (parts:=[]) (cs:=[vI 0,sl none 0 0,sl none 0 0]) Y_ z z)<|Rm z<|E0 (fs0 (cur':=[vI 0,sl none 0 0,sl none 0 0]) i_ z z (((h6.e G).e s1).e s2) z z z z) ?_
  rintro _ _ ⟨aL,aM⟩;refine Ra z<|Rw z ?_
  obtain rfl:=som<|ifT a9 hcs;exact Wr<|F_ hr (r_ y_ i_ z aL z) z z ⟨bM (bup (bup (bup (bup (bup hf h5) h3) G) s1) s2) aM.one<|m1 hi,none,0,0,[],none,0,0,[],z,ii z,onL,onL,V,ii z,nd0,al0⟩
 refine Wk<|Ws<|R z (lN (vs:=[sl A0 N0 C0]) t_ q_ z z fid<|((af.e s1).e s2).row 0 1 z)<|R z (lN (vs:=vR x2 A2 N2 C2 A3 N3 C3 A1 N1 C1 A4 N4 C4) I_ m_ z z fid<|(ak.e s2).row 0 8 z)<|RM z z<|Rm z ?_
 have I:=hg.e s2;have hj:=lt_ al s2.s;obtain ⟨am,aN,aO,aP,ay⟩:=v_<|ifF a9 hcs;refine E z (fc call95 z<|aA.run aP (zt' W hj) (Y.g I) a0 a1 a2 (a3.g I) (a4.g I) (a5.g I) (O.g I) ht (ii z) (a6.g I) aH) ?_;rintro _ H ⟨sk,J,L,ca,aQ,ab,nc,cd,aR,rfl,aS,an,ao,aT,aU,hu,hl⟩;refine Rm z ?_
 iterate 3 refine Re z z z ?_
 refine E z (fa a_6) ?_;rintro _ aV ⟨rfl,ap⟩;have hn:=ap.below;refine E0 (fs0 (cur':=[vI am.number,sl J L ca,sl ab nc cd]) i_ z z (ap.blk:Blk aV H.z [vI 0,sl none 0 0,sl none 0 0]) z z z z) ?_;rintro _ wm ⟨aq,aW⟩;have ho:=aW.one;refine Ra z<|Rw z<|Wq<|Wm z<|Rq z z z<|Wn ?_
 obtain ⟨aX,aa,az⟩:=bdS ay;refine Wt (fun a w=>∃(xe:Int),xe=aX/\Sat 56 [(8,pt wq.z),(14,pt H.z),(15,vI aN),(16,vI aO)] a/\Chg (· ∈ [H.z]) wm w/\inI xe/\Blk w H.z [vI xe,sl J L ca,sl ab nc cd]) ?_ ?_
 ·refine Wc z (fun hcv=>?_)<|fun hcv=>?_
  ·refine Wg<|Rm z<|Rf z b_3 z<|E0 (fs0 (cur':=[vI aj,sl J L ca,sl ab nc cd]) z_3 z z aq z z z z) ?_
   rintro _ aY ⟨aZ,b0⟩;refine Wl ?_;exact fun _ q=>⟨aj,som<|ifT aa hcv,q.k<|s4 z z z z,(cM (cr [H.z] wm) b0.one (io sr):Chg (· ∈ [H.z]) wm aY),ht,aZ⟩
  exact a_7<|fun _ q=>⟨am.number,som<|ifF aa hcv,q.k<|s4 z z z z,cr [H.z] wm,aS,aq⟩
 rintro b1 _ ⟨xe,rfl,_,sp,b2,b3⟩;revert b1;refine Wo<|Ws<|R z (lN (vs:=[vI xe,sl J L ca,sl ab nc cd]) y_ i_ z z fid<|b3.row 0 3 z)<|RM z z ?_
 have hw:=lt_ (lt_ G.s s1.s) s2.s;have ar:=mm1 h6.lt<|lt_ hw sk.s
 refine E0 (fs0 (cur':=[vI xe,sl J L ca,sl ab nc cd]) i_ z z (((((((h6.e G).e s1).e s2).e sk).e hn).c ho<|djs ar).c sp<|djs ar) z z z z) ?_;rintro _ _ ⟨b4,b5⟩;have hx:=b5.one;refine Ra z<|Rw z ?_
 obtain rfl:=som az;have au:=mnr<|a_.lt an
 have av:=mnr<|a_.lt ao
 have aw:=m1<|lt_ hj sk.s
 exact Wr<|F_ hr (r_ y_ i_ z b4 z) z z ⟨bM (bM (bM (bup (bup (bup (bup (bup (bup (bup hf h5) h3) G) s1) s2) sk) hn) ho aw) sp aw) hx<|m1 hi,J,L,ca,aQ,ab,nc,cd,aR,z,b2,(((an.e hn).c ho<|ds au).c sp<|ds au).c hx<|j_ (al_ hl) h6.lt hw,(((ao.e hn).c ho<|ds av).c sp<|ds av).c hx<|j_ (ar_ hl) h6.lt hw,aT,aU,na_ (nl_ hu) (nr_ hu)<|nj hu,aa_ (l_ (al_ hl) hj)<|l_ (ar_ hl) hj⟩
theorem T_w1f (ih:e_N n):j_h (g_E n<|a_o n):=by
 obtain ⟨_,a7,_,_,_⟩:=ih
 constructor
 intro A0 A2 A3 A1 A4 A7 N0 C0 N2 C2 N3 C3 N1 C1 N4 C4 N7 C7 B x1 x2 x3 x4 res w0 hm a8 V W Y a0 a1 a2 a3 a4 L O;unfold g_E at hm
 refine goG func97 z z z fun fn hr=>Ws<|E z (fb z) ?_
 rintro _ wc ⟨rfl,hd⟩;have h2:=hd.below;refine E z (fb z) ?_;rintro _ we ⟨rfl,hf⟩;have G:=hf.below;refine E z (fa a_6) ?_;rintro _ ws ⟨rfl,hg⟩;have h3:=hg.below;have h5:Blk ws we.z [vI 0,sl none 0 0,sl none 0 0]:=hg.blk;refine Ra z<|Rw z<|Wq<|Wb<|Wm z<|Rm z ?_
 have hh:=((h2.ag B).e G).e h3;have hi:=L.g hh;refine R z (lnR p_ z hi)<|R z (b_i z z)<|Rw z<|Wc z (fun H=>?_) (fun H=>?_)
 ·refine Ws<|R z (bP (parts:=[]) (cs:=[vI 0,sl none 0 0,sl none 0 0]) Y_ z z)<|Rm z<|E0 (fs0 (cur':=[vI 0,sl none 0 0,sl none 0 0]) i_ z z h5 z z z z) ?_
  rintro _ _ ⟨hw,sx⟩;refine Ra z<|Rw z ?_
  obtain rfl:=som<|ifT hm H;exact Wr<|rtO<|F_ hr (r_ y_ i_ z hw z) z z ⟨bM (bup (bup h2 G) h3) sx.one<|m1<|lt_ h2.s G.s,none,0,0,[],none,0,0,[],z,ii z,onL,onL,O,ii z,nd0,al0⟩
 refine Wm z<|Rm z ?_
 obtain ⟨_,ey,hmj⟩:=bdS<|ifF hm H;refine RX z (at_ (α:=UInt8) p_ z_5 z z z hi ey) ?_;rintro _ ⟨_,_,_,rfl,hz,a9,_⟩;obtain rfl:=u8 a9;refine R z (l0 g_5 z<|hz.at0 z)<|R z (a_e z z)<|Rw z<|Wc z (fun I=>?_) (fun I=>?_)
 ·refine Ws<|R z (bP (parts:=[]) (cs:=[vI 0,sl none 0 0,sl none 0 0]) Y_ z z)<|Rm z<|E0 (fs0 (cur':=[vI 0,sl none 0 0,sl none 0 0]) i_ z z h5 z z z z) ?_
  rintro _ _ ⟨aa,ab⟩;refine Ra z<|Rw z ?_
  obtain rfl:=som<|ifT hmj I;exact Wr<|rtO<|F_ hr (r_ y_ i_ z aa z) z z ⟨bM (bup (bup h2 G) h3) ab.one<|m1<|lt_ h2.s G.s,none,0,0,[],none,0,0,[],z,ii z,onL,onL,O,ii z,nd0,al0⟩
 refine Wk<|Wq (Wd (X:=noX) 16384 (pl_ 17 [10,14]) mo (by kernel_rfl) fun aw s1 _=>dR z z (lN (vs:=[sl A0 N0 C0]) t_ q_ z z fid<|((((hd.blk:Blk wc w0.z [sl A0 N0 C0]).e G).e h3).e s1).row 0 1 z)<|dR z z (lN (vs:=vR x2 A2 N2 C2 A3 N3 C3 A1 N1 C1 A4 N4 C4) I_ m_ z z fid<|(((hf.blk:Blk we wc.z (vR x2 A2 N2 C2 A3 N3 C3 A1 N1 C1 A4 N4 C4)).e h3).e s1).row 0 8 z)<|dM z z z<|dM z z z ?_)
 obtain ⟨_,ad,a5⟩:=bdS<|ifF hmj I;have h4:=hh.e s1;have hk:=L.g h4;refine dRX z z (at_ (α:=UInt8) p_ z_5 z z z hk ad) ?_;rintro _ ⟨_,_,_,rfl,ae,af,_⟩;obtain rfl:=u8 af;refine dR z z (l0 g_5 z<|ae.at0 z)<|dR z z (b_U d_5 d_3 z)<|dM z z z<|dM z z z<|dR z z (add_ z z) ?_
 have hl:=lt_ h2.s G.s;have J:=lt_ (lt_ hl h3.s) s1.s;obtain ⟨ah,_,_,ai,a6⟩:=v_ a5;refine dE z z (fc call95 z<|a7.run ai (zt' a8 J) (V.g h4) W Y a0 (a1.g h4) (a2.g h4) (a3.g h4) (a4.g h4) (ii z) (i_Y _) hk<|iA _ _) (.inr fun _ _ h=>w_<|h.1) ?_;rintro _ _ ⟨sm,an,no,cp,aj,aq,nr,ct,ak,rfl,al,am,ao,ap,ar,ha,h6⟩
 iterate 3 refine dR z z (ext_ z z) ?_
 refine dE0 z (fs0 (cur':=[vI ah.number,sl an no cp,sl aq nr ct]) i_ z z ((h5.e s1).e sm) z z z z) (.inl z) ?_;rintro _ _ ⟨au,av⟩;have hb:=av.one;refine dQ z z z<|dQ z z z<|pD<|Wo ?_
 obtain rfl:=som a6;exact Wr<|F_ hr (r_ y_ i_ z au z) z z ⟨bM (bup (bup (bup (bup h2 G) h3) s1) sm) hb<|m1 hl,an,no,cp,aj,aq,nr,ct,ak,z,al,am.c hb<|j_ (al_ h6) h5.lt s1.s,ao.c hb<|j_ (ar_ h6) h5.lt s1.s,ap,ar,na_ (nl_ ha) (nr_ ha)<|nj ha,aa_ (l_ (al_ h6) J)<|l_ (ar_ h6) J⟩
theorem T_w1g (ih:e_N n):j_i (g_F n<|a_o n):=by
 obtain ⟨_,am,_,_,_⟩:=ih
 constructor
 intro A0 A2 A3 A1 A4 A7 N0 C0 N2 C2 N3 C3 N1 C1 N4 C4 N7 C7 B x1 x2 x3 x4 res w0 hm O a7 a8 a9 ab ae af ah ai L aj;unfold g_F at hm
 refine goG func98 z z z fun fn hr=>Ws<|E z (fb z) ?_
 rintro _ wu ⟨rfl,hv⟩;have hh:=hv.below;refine E z (fb z) ?_;rintro _ ww ⟨rfl,hx⟩;have H:=hx.below;refine E z (fa a_6) ?_;rintro _ an ⟨rfl,hy⟩;have h5:=hy.below;have h3:Blk an ww.z [vI 0,sl none 0 0,sl none 0 0]:=hy.blk;refine Ra z<|Rw z<|Ws<|R z (lN (vs:=[sl A0 N0 C0]) t_ q_ z z fid<|(((hv.blk:Blk wu w0.z [sl A0 N0 C0]).e H).e h5).row 0 1 z)<|R z (lN (vs:=vR x2 A2 N2 C2 A3 N3 C3 A1 N1 C1 A4 N4 C4) I_ m_ z z fid<|((hx.blk:Blk ww wu.z (vR x2 A2 N2 C2 A3 N3 C3 A1 N1 C1 A4 N4 C4)).e h5).row 0 8 z)<|RM z z ?_
 have I:=((hh.ag B).e H).e h5;have hj:=lt_ hh.s H.s;have J:=lt_ hj h5.s;obtain ⟨rk,_,_,ao,hmz⟩:=v_ hm;refine E z (fc call95 z<|am.run ao (zt' O J) (a7.g I) a8 a9 ab (ae.g I) (af.g I) (ah.g I) (ai.g I) (ii z) (ii z) (L.g I) aj) ?_;rintro _ Y ⟨G,aa,nb,cc,a0,ad,ne,cf,a1,rfl,a2,hn,ho,hp,ap,hi,h6⟩;refine Rm z ?_
 iterate 3 refine Re z z z ?_
 refine E z (fa a_6) ?_;rintro _ aq ⟨rfl,a3⟩;have h1:=a3.below;refine E0 (fs0 (cur':=[vI rk.number,sl aa nb cc,sl ad ne cf]) i_ z z (a3.blk:Blk aq Y.z [vI 0,sl none 0 0,sl none 0 0]) z z z z) ?_;rintro _ _ ⟨a4,ar⟩;have h2:=ar.one;refine Ra z<|Rw z<|Wq<|Wb<|Wm z<|R z (nq z z)<|Rw z<|Wc z (fun hcm=>?_) (fun hcm=>?_)
 ·refine Ws<|R z (lN (vs:=[vI rk.number,sl aa nb cc,sl ad ne cf]) y_ i_ z z fid<|a4.row 0 3 z)<|RM z z<|E0 (fs0 (cur':=[vI rk.number,sl aa nb cc,sl ad ne cf]) i_ z z (((h3.e G).e h1).c h2<|djs<|mm1 h3.lt G.s) z z z z) ?_
  rintro _ _ ⟨au,av⟩;have hq:=av.one;refine Ra z<|Rw z ?_
  obtain rfl:=som<|ifT hmz hcm;exact Wr<|rtO<|F_ hr (r_ y_ i_ z au z) z z ⟨bM (bM (bup (bup (bup (bup hh H) h5) G) h1) h2<|m1<|lt_ J G.s) hq<|m1 hj,aa,nb,cc,a0,ad,ne,cf,a1,z,a2,((hn.e h1).c h2<|ds<|mnr<|a_.lt hn).c hq<|j_ (al_ h6) h3.lt lr,((ho.e h1).c h2<|ds<|mnr<|a_.lt ho).c hq<|j_ (ar_ h6) h3.lt lr,hp,ap,na_ (nl_ hi) (nr_ hi)<|nj hi,aa_ (l_ (al_ h6) J)<|l_ (ar_ h6) J⟩
 have V:=ifF hmz hcm;refine Wm z<|Rm z ?_
 have hl:=lt_ J G.s;have a5:=((I.e G).e h1).c h2<|b_ (or0 (c_ lr) (k_<|zt' O hl):∀k∈[Y.z],¬B k)
 refine R z (lnR p_ z<|L.g a5)<|R z (b_i z z)<|Rw z<|Wc z (fun hcr=>?_) (fun hcr=>?_)
 ·refine Ws<|R z (bP (parts:=[]) (cs:=[vI 0,sl none 0 0,sl none 0 0]) Y_ z z)<|Rm z<|E0 (fs0 (cur':=[vI 0,sl none 0 0,sl none 0 0]) i_ z z (((h3.e G).e h1).c h2<|djs<|mm1 h3.lt G.s) z z z z) ?_
  rintro _ _ ⟨aw,ax⟩;refine Ra z<|Rw z ?_
  obtain rfl:=som<|ifT V hcr;exact Wr<|rtO<|F_ hr (r_ y_ i_ z aw z) z z ⟨bM (bM (bup (bup (bup (bup hh H) h5) G) h1) h2<|m1 hl) ax.one<|m1 hj,none,0,0,[],none,0,0,[],z,ii z,onL,onL,hp,ii z,nd0,al0⟩
 refine Wq (Wd (X:=noX) 0 (pl_ 12 [9]) mo (by kernel_rfl) fun aI s4 _=>dM z z z<|dM z z z ?_);obtain ⟨_,ay,ak⟩:=bdS<|ifF V hcr;have a6:=L.g<|a5.e s4
 refine dRX z z (at_ (α:=UInt8) p_ z_5 z z z a6 ay) ?_;rintro _ ⟨_,_,_,rfl,az,aA,_⟩;obtain rfl:=u8 aA;refine dR z z (l0 g_5 z<|az.at0 z)<|dR z z (b_U d_5 d_3 z) ?_
 iterate 3 refine dM z z z ?_
 obtain ⟨_,aB,al⟩:=bdS ak;refine dRX z z (rX p_ z_5 z z a6 z z aB) ?_;rintro _ ⟨_,_,_,rfl,aC⟩;obtain ⟨_,aD,W⟩:=bdS al;refine dE z z (fc call33 z<|W_w1a aD (zt' O<|lt_ (lt_ (lt_ hl h1.s) h2.s) s4.s) aC) (.inr fun _ _ h=>w_<|h.1) ?_;rintro _ _ ⟨sg,rfl,_⟩;refine dR z z (nq z z)<|dQ z z z<|pD<|Wo<|Wc z (fun hcs=>?_) (fun hcs=>?_)
 ·refine Ws<|R z (bP (parts:=[]) (cs:=[vI 0,sl none 0 0,sl none 0 0]) Y_ z z)<|Rm z<|E0 (fs0 (cur':=[vI 0,sl none 0 0,sl none 0 0]) i_ z z (((((h3.e G).e h1).c h2<|djs<|mm1 h3.lt G.s).e s4).e sg) z z z z) ?_
  rintro _ _ ⟨aE,aF⟩;refine Ra z<|Rw z ?_
  obtain rfl:=som<|ifT W hcs;exact Wr<|rtO<|F_ hr (r_ y_ i_ z aE z) z z ⟨bM (bup (bup (bM (bup (bup (bup (bup hh H) h5) G) h1) h2<|m1 hl) s4) sg) aF.one<|m1 hj,none,0,0,[],none,0,0,[],z,ii z,onL,onL,hp,ii z,nd0,al0⟩
 refine Wk<|Ws<|R z (lN (vs:=[vI rk.number,sl aa nb cc,sl ad ne cf]) y_ i_ z z fid<|((a4.e s4).e sg).row 0 3 z)<|Rm z<|R z (add_ z z)<|E0 (fs0 (cur':=[vI rk.number,sl aa nb cc,sl ad ne cf]) i_ z z (((((h3.e G).e h1).c h2<|djs<|mm1 h3.lt G.s).e s4).e sg) z z z z) ?_
 rintro _ _ ⟨aG,aH⟩;have ht:=aH.one;refine Ra z<|Rw z ?_
 obtain rfl:=som<|ifF W hcs;exact Wr<|F_ hr (r_ y_ i_ z aG z) z z ⟨bM (bup (bup (bM (bup (bup (bup (bup hh H) h5) G) h1) h2<|m1 hl) s4) sg) ht<|m1 hj,aa,nb,cc,a0,ad,ne,cf,a1,z,a2,((((hn.e h1).c h2<|ds<|mnr<|a_.lt hn).e s4).e sg).c ht<|j_ (al_ h6) h3.lt lr,((((ho.e h1).c h2<|ds<|mnr<|a_.lt ho).e s4).e sg).c ht<|j_ (ar_ h6) h3.lt lr,iA _ _,ii z,na_ (nl_ hi) (nr_ hi)<|nj hi,aa_ (l_ (al_ h6) J)<|l_ (ar_ h6) J⟩
theorem c_M:∀n,e_N n
  | 0=>⟨⟨fun hm=>by intros;exact nomatch (show none=some _ from hm)⟩,⟨fun hm=>by intros;exact nomatch (show none=some _ from hm)⟩,⟨fun hm=>by intros;exact nomatch (show none=some _ from hm)⟩,⟨fun hm=>by intros;exact nomatch (show none=some _ from hm)⟩,⟨fun hm=>by intros;exact nomatch (show none=some _ from hm)⟩⟩
  | n+1=>⟨T_w02<|c_M n,T_w1d<|c_M n,T_w1e<|c_M n,T_w1f<|c_M n,T_w1g<|c_M n⟩
theorem f_P:j_e (a_o n).spec_l11Read:=(c_M n).1
theorem W_w1d:j_f (a_o n).spec_l11Items:=(c_M n).2.1
theorem W_w1e:j_g (a_o n).spec_l11Choice:=(c_M n).2.2.1
theorem W_w1f:j_h (a_o n).spec_l11Option:=(c_M n).2.2.2.1
theorem W_w1g:j_i (a_o n).spec_l11Checked:=(c_M n).2.2.2.2
theorem j_j {x1:d_}{x2:Int}{x3:List UInt8}{x4:Int}{res:Val×Int×Int}(hm:g_G n x1 x2 x3 x4=some res)(L:B<=w0.z)(W:repS w0 B (sl A0 N0 C0) x1.rules)(Y:inI x2)(J:repS w0 B (sl A7 N7 C7) x3)(a0:inI x4):n_ prog 101 [(.agg #[sl A0 N0 C0]),vI x2,sl A7 N7 C7,vI x4] w0 (Q15 w0 B res):=by
 unfold g_G at hm
 refine goG func101 z z z fun fn hr=>Ws<|E z (fb z) ?_
 rintro _ O ⟨rfl,hg⟩;have h3:=hg.below;have hh:Blk O w0.z [sl A0 N0 C0]:=hg.blk;refine E z (fa a_6) ?_;rintro _ V ⟨rfl,hi⟩;have h4:=hi.below;have h6:Blk V O.z [vI 0,sl none 0 0,sl none 0 0]:=hi.blk;refine Ra z<|Rw z<|Wq<|Wq ?_
 obtain ⟨uy,huz,hmj⟩:=bdS hm;refine Wt (fun a w=>∃(xa:Bool),xa=uy/\Sat 36 [(1,vI x2),(2,sl A7 N7 C7),(3,vI x4),(4,pt w0.z),(8,pt O.z),(26,vB xa)] a/\Below V.z V w) ?_ ?_
 ·refine Wg<|R z (lN (vs:=[sl A0 N0 C0]) t_ q_ z z fid<|(hh.e h4).row 0 1 z)<|Rm z ?_
  have hk:=(h3.ag B).e h4;have hl:=lt_ h3.s h4.s;obtain ⟨a2,a3,hmm⟩:=bdS huz;refine E z (fc call63 z<|j_b a3 (zt' L hl) (W.g hk) Y) ?_;rintro _ _ ⟨s5,rfl⟩;refine R z (not_ z)<|Rm z ?_
  rcases bs (!a2) with G | G
  ·iterate 5 refine Nh z G ?_
   exact R z (pT z G z)<|Rm z<|Nh z z<|Nh z z<|Nh z z<|R z (pT z z z)<|Wl (fun _ q=>⟨true,som<|ifT hmm G,q.k<|s6 z z z z z z,s5⟩)
  refine Rh z G (mv z)<|Rh z G (mv z) ?_
  have hn:=hk.e s5;have ho:=J.g hn;refine Rh z G (lnR p_ z ho) ?_;obtain ⟨a4,a5,hmp⟩:=bdS<|ifF hmm G;refine Eg z z G z (fc call99 z<|b_h a5 (zt' L<|lt_ hl s5.s) a0 (ii z)<|a_N<|repS.len ho) ?_;rintro _ _ ⟨sb,rfl⟩;refine Rh z G (not_ z)<|R z (pF z G z)<|Rm z ?_
  rcases bs (!a4) with H | H
  ·iterate 3 refine Nh z H ?_
   exact R z (pT z H z)<|Wl (fun _ q=>⟨true,som<|ifT hmp H,q.k<|s6 z z z z z z,bup s5 sb⟩)
  exact Rh z H (mv z)<|Rh z H (lnR p_ z<|J.g<|hn.e sb)<|Rh z H (a_e z z)<|R z (pF z H z)<|Wl (fun _ q=>⟨decide<|400<(x3.length:Int),som<|ifF hmp H,q.k<|s6 z z z z z z,bup s5 sb⟩)
 rintro a6 _ ⟨xa,rfl,_,s2⟩;revert a6;refine Wo<|Wc z (fun hcc=>?_) (fun hcc=>?_)
 ·refine Ws<|R z (bP (parts:=[]) (cs:=[vI 0,sl none 0 0,sl none 0 0]) Y_ z z)<|E0 (fs0 (cur':=[vI 0,sl none 0 0,sl none 0 0]) i_ z z (h6.e s2) z z z z) ?_
  rintro _ _ ⟨a7,a8⟩;refine Ra z<|Rw z ?_
  obtain rfl:=som<|ifT hmj hcc;exact Wr<|F_ hr (r_ y_ i_ z a7 z) z z ⟨bM (bup (bup h3 h4) s2) a8.one<|m1 h3.s,none,0,0,[],none,0,0,[],z,ii z,onL,onL,ii z,ii z,nd0,al0⟩
 refine Wk<|Ws<|R z (lN (vs:=[sl A0 N0 C0]) t_ q_ z z fid<|((hh.e h4).e s2).row 0 1 z)<|RM z z<|Rm z ?_
 have hq:=((h3.ag B).e h4).e s2;have hd:=lt_ (lt_ h3.s h4.s) s2.s;obtain ⟨a9,_,_,aa,a1⟩:=v_<|ifF hmj hcc;refine E z (fc call56 z<|f_P.run aa (zt' L hd) (W.g hq) Y (J.g hq) a0) ?_;rintro _ _ ⟨sr,au,ns,ct,ab,av,nw,cx,ad,rfl,ae,af,ah,ai,aj,he,I⟩
 iterate 3 refine Re z z z ?_
 refine E0 (fs0 (cur':=[vI a9.number,sl au ns ct,sl av nw cx]) i_ z z ((h6.e s2).e sr) z z z z) ?_;rintro _ _ ⟨ak,al⟩;have hf:=al.one;refine Ra z<|Rw z ?_
 obtain rfl:=som a1;exact Wr<|F_ hr (r_ y_ i_ z ak z) z z ⟨bM (bup (bup (bup h3 h4) s2) sr) hf<|m1 h3.s,au,ns,ct,ab,av,nw,cx,ad,z,ae,af.c hf<|j_ (al_ I) h6.lt s2.s,ah.c hf<|j_ (ar_ I) h6.lt s2.s,ai,aj,na_ (nl_ he) (nr_ he)<|nj he,aa_ (l_ (al_ I) hd)<|l_ (ar_ I) hd⟩
theorem W_w2i {x1:d_}{x2:List UInt8}{res:Val×Int×Int}(hm:g_H n x1 x2=some res)(W:B<=w0.z)(V:repS w0 B (sl A0 N0 C0) x1.rules)(Y:repS w0 B (sl A5 N5 C5) x2):n_ prog 65 [(.agg #[sl A0 N0 C0]),sl A5 N5 C5] w0 (Q15 w0 B res):=by
 unfold g_H at hm
 refine goG func65 z z z fun fn hr=>Ws<|E z (fb z) ?_
 rintro _ wl ⟨rfl,ao⟩;have h2:=ao.below;have hv:Blk wl w0.z [sl A0 N0 C0]:=ao.blk;refine E z (fa a_6) ?_;rintro _ I ⟨rfl,ap⟩;have h1:=ap.below;have hn:Blk I wl.z [vI 0,sl none 0 0,sl none 0 0]:=ap.blk;refine Ra z<|Rw z<|Wq ?_
 obtain ⟨bn,ak,bh⟩:=bdS hm;refine Wt (fun a w=>∃(xb:Int)(xw:List UInt8)(xx:List Val)(xc:Int)(xd:Int),(xb,xw,xx,xc,xd)=bn/\∃ae nf cg J ah ni cj L O,Sat 32 [(1,sl A5 N5 C5),(4,pt wl.z),(7,pt O),(8,vI xc),(9,vI xd)] a/\Below I.z I w/\inI xb/\a_ w J (sl ae nf cg) xw/\J.Nodup/\(∀k∈J,I.z<=k)/\a_ w L (sl ah ni cj) xx/\L.Nodup/\(∀k∈L,I.z<=k)/\(∀k∈L,k∉J)/\inI xc/\inI xd/\Blk w O [vI xb,sl ae nf cg,sl ah ni cj]/\I.z<=O/\(∀k∈J,k∉[O])/\(∀k∈L,k∉[O])) ?_ ?_
 ·refine Wd (X:=fun k=>k∈([]:List Nat)∨I.z<=k) 0 (.rd 0<|.rd 1<|.rd 3<|.br 2 (.br 4 (.rd 5<|.rd 6<|.rd 7<|.rd 8<|.ef 9<|.ef 10<|.rd 11<|.rd 12 .done) 9<|.ef 4<|.rd 5<|.rd 6<|.rd 7<|.rd 8<|.ef 10<|.rd 11<|.rd 12 .done) 9<|.ef 2<|.ef 4<|.rd 5<|.rd 6<|.rd 7<|.rd 8<|.ef 10<|.rd 11<|.rd 12 .done) mo (by kernel_rfl) fun aq G _=>?_
  have ar:=(hv.e h1).e G;refine dR z z (lN (vs:=[sl A0 N0 C0]) t_ q_ z z (a_y nm0<|Nat.lt_of_lt_of_le hv.lt h1.s)<|ar.row 0 1 z)<|dR z z (lN (vs:=[sl A0 N0 C0]) t_ q_ z z (a_y nm0<|Nat.lt_of_lt_of_le hv.lt h1.s)<|ar.row 0 1 z)<|dM z z z<|d_X ?_ ?_
  ·have hy:=((h2.ag B).e h1).e G;have hz:=lt_ (lt_ h2.s h1.s) G.s;obtain ⟨_,bo,al⟩:=bdS ak;refine dE z z (fc call41 z<|e_M bo (zt' W hz)<|V.g hy) (.inr fun _ _ h=>w_<|h.1) ?_;rintro _ au ⟨s4,rfl,av⟩;refine d_X ?_ ?_
   ·have aw:=hy.e s4;obtain ⟨rm,bp,bq,bt,bi⟩:=v_ al;refine dE z z (fc call101 z<|j_j bt (zt' W<|lt_ hz s4.s) (V.g aw) av (Y.g aw)<|ii z) (.inr fun _ _ h=>w_<|h.1) ?_;rintro _ ax ⟨ay,az,aA,aB,bu,aC,aD,aE,bv,rfl,bw,aF,aG,bx,bz,a1,aH⟩;refine dM z z z ?_
    iterate 3 refine dR z z (ext_ z z) ?_
    refine dE z z (fa a_6) (.inr fun _ _ h=>w_<|h.2.below) ?_;rintro _ bA ⟨rfl,aI⟩;have a2:=aI.below;have a3:=lt_ G.s s4.s;have a4:=m1<|lt_ a3 ay.s
    refine dE0 z (fs0 (cur':=[vI rm.number,sl az aA aB,sl aC aD aE]) i_ z z (aI.blk:Blk bA ax.z [vI 0,sl none 0 0,sl none 0 0]) z z z z) (.inr fun _ _ h=>c_v (atp a4) h.2) ?_;rintro _ _ ⟨bB,bC⟩;have a5:=bC.one;refine dQ z z z<|dQ z z z<|pD ?_
    have aJ:=mnr<|a_.lt aF
    have aK:=mnr<|a_.lt aG
    exact fun _ q=>⟨rm.number,rm.bytes,rm.items,bp,bq,som bi,az,aA,aB,bu,aC,aD,aE,bv,ax.z,q.k<|s5 z z z z z,bM (bup (bup (bup G s4) ay) a2) a5 a4,bw,(aF.e a2).c a5<|ds aJ,nl_ a1,l_ (al_ aH) a3,(aG.e a2).c a5<|ds aK,nr_ a1,l_ (ar_ aH) a3,ds<|nj a1,bx,bz,bB,atp a4,ds aJ,ds aK⟩
   refine dE z z (fa a_6) (.inr fun _ _ h=>w_<|h.2.below) ?_;rintro _ bD ⟨rfl,aL⟩;have ho:=aL.below;have a6:Blk bD au.z [vI 0,sl none 0 0,sl none 0 0]:=aL.blk;have aM:=(hy.e s4).e ho;obtain ⟨rp,bE,bF,bG,bj⟩:=v_ al;refine dE z z (fc call101 z<|j_j bG (zt' W<|lt_ (lt_ hz s4.s) ho.s) (V.g aM) av (Y.g aM)<|ii z) (.inr fun _ _ h=>w_<|h.1) ?_;rintro _ _ ⟨aN,aO,aP,aQ,bH,aR,aS,aT,bI,rfl,bJ,bK,bL,bN,bO,a7,hq⟩;refine dM z z z ?_
   iterate 3 refine dR z z (ext_ z z) ?_
   have aU:=lt_ G.s s4.s;have a8:=m1 aU;refine dE0 z (fs0 (cur':=[vI rp.number,sl aO aP aQ,sl aR aS aT]) i_ z z (a6.e aN) z z z z) (.inr fun _ _ h=>c_v (atp a8) h.2) ?_;rintro _ _ ⟨bQ,bR⟩;have a9:=bR.one;refine dQ z z z<|dQ z z z<|pD ?_
   have aV:=j_ (al_ hq) a6.lt lr;have aW:=lt_ aU ho.s;have aX:=j_ (ar_ hq) a6.lt lr;exact fun _ q=>⟨rp.number,rp.bytes,rp.items,bE,bF,som bj,aO,aP,aQ,bH,aR,aS,aT,bI,au.z,q.k<|s5 z z z z z,bM (bup (bup (bup G s4) ho) aN) a9 a8,bJ,bK.c a9 aV,nl_ a7,l_ (al_ hq) aW,bL.c a9 aX,nr_ a7,l_ (ar_ hq) aW,ds<|nj a7,bN,bO,bQ,atp a8,aV,aX⟩
  refine dE z z (fa a_6) (.inr fun _ _ h=>w_<|h.2.below) ?_;rintro _ bS ⟨rfl,aY⟩;have ht:=aY.below;have aa:Blk bS aq.z [vI 0,sl none 0 0,sl none 0 0]:=aY.blk;have aZ:=(((h2.ag B).e h1).e G).e ht;have b0:=lt_ (lt_ (lt_ h2.s h1.s) G.s) ht.s;obtain ⟨_,bT,bk⟩:=bdS ak;refine dE z z (fc call41 z<|e_M bT (zt' W b0)<|V.g aZ) (.inr fun _ _ h=>w_<|h.1) ?_;rintro _ _ ⟨s9,rfl,bU⟩;have b1:=aZ.e s9;obtain ⟨rr,bV,bW,bX,bm⟩:=v_ bk;refine dE z z (fc call101 z<|j_j bX (zt' W<|lt_ b0 s9.s) (V.g b1) bU (Y.g b1)<|ii z) (.inr fun _ _ h=>w_<|h.1) ?_;rintro _ _ ⟨b2,b3,b4,b5,bY,b6,b7,b8,bZ,rfl,c0,c1,c2,c3,c4,ab,hu⟩;refine dM z z z ?_
  iterate 3 refine dR z z (ext_ z z) ?_
  have ad:=m1 G.s;refine dE0 z (fs0 (cur':=[vI rr.number,sl b3 b4 b5,sl b6 b7 b8]) i_ z z ((aa.e s9).e b2) z z z z) (.inr fun _ _ h=>c_v (atp ad) h.2) ?_;rintro _ _ ⟨c5,c6⟩;have af:=c6.one;refine dQ z z z<|dQ z z z<|pD ?_
  have b9:=j_ (al_ hu) aa.lt s9.s;have ba:=lt_ (lt_ G.s ht.s) s9.s;have bb:=j_ (ar_ hu) aa.lt s9.s;exact fun _ q=>⟨rr.number,rr.bytes,rr.items,bV,bW,som bm,b3,b4,b5,bY,b6,b7,b8,bZ,aq.z,q.k<|s5 z z z z z,bM (bup (bup (bup G ht) s9) b2) af ad,c0,c1.c af b9,nl_ ab,l_ (al_ hu) ba,c2.c af bb,nr_ ab,l_ (ar_ hu) ba,ds<|nj ab,c3,c4,c5,atp ad,b9,bb⟩
 rintro c7 ws ⟨xb,xw,xx,xc,xd,rfl,ae,nf,cg,J,ah,ni,cj,L,O,_,sk,c8,c9,ca,bc,cb,cc,be,cd,bf,ce,cf,_,_,_⟩;revert c7;refine Wo<|Wq<|Wq ?_
 obtain ⟨ch,am,an⟩:=bdS<|c_u bh;refine Wt (fun a w=>∃(ai:Bool),ai=ch/\Sat 32 [(4,pt wl.z),(7,pt O),(8,vI xc),(9,vI xd),(26,vB ai)] a/\Below ws.z ws w) ?_ ?_
 ·refine Wg<|Rm z<|Rq z z z<|Rm z ?_
  rcases bs (xd==0) with H | H
  ·exact Rh z H (mv z)<|Rh z H (mv z)<|Rh z H (lnR p_ z<|Y.g<|((h2.ag B).e h1).e sk)<|Rh z H (lss z z)<|R z (pT z H z)<|Wl (fun _ q=>⟨decide<|xc<(x2.length:Int),som<|ifT am H,q.k<|s5 z z z z z,br ws⟩)
  iterate 4 refine Nh z H ?_
  exact R z (pF z H z)<|Wl (fun _ q=>⟨false,som<|ifF am H,q.k<|s5 z z z z z,br ws⟩)
 rintro ci _ ⟨ai,rfl,_,sa⟩;revert ci;refine Wo<|Wc z (fun a0=>?_) (fun a0=>?_)
 ·refine Ws<|R z (bP (parts:=[]) (cs:=[vI 0,sl none 0 0,sl none 0 0]) Y_ z z)<|Rm z<|E0 (fs0 (cur':=[vI 0,sl none 0 0,sl none 0 0]) i_ z z ((hn.e sk).e sa) z z z z) ?_
  rintro _ _ ⟨ck,cl⟩;refine Ra z<|Rw z ?_
  obtain rfl:=som<|ifT an a0;exact Wr<|F_ hr (r_ y_ i_ z ck z) z z ⟨bM (bup (bup (bup h2 h1) sk) sa) cl.one<|m1 h2.s,none,0,0,[],none,0,0,[],z,ii z,onL,onL,bf,ii z,nd0,al0⟩
 refine Wk<|Ws<|R z (lN (vs:=[vI xb,sl ae nf cg,sl ah ni cj]) y_ i_ z z fid<|(cf.e sa).row 0 3 z)<|RM z z<|E0 (fs0 (cur':=[vI xb,sl ae nf cg,sl ah ni cj]) i_ z z ((hn.e sk).e sa) z z z z) ?_
 rintro _ _ ⟨cm,cn⟩;have aj:=cn.one;refine Ra z<|Rw z ?_
 obtain rfl:=som<|ifF an a0;have bg:=lt_ h2.s h1.s;exact Wr<|F_ hr (r_ y_ i_ z cm z) z z ⟨bM (bup (bup (bup h2 h1) sk) sa) aj<|m1 h2.s,ae,nf,cg,J,ah,ni,cj,L,z,c8,(c9.e sa).c aj<|j_ bc hn.lt lr,(cb.e sa).c aj<|j_ be hn.lt lr,bf,ce,na_ ca cc<|ds cd,aa_ (l_ bc bg)<|l_ be bg⟩
theorem W_w2j {x1:d_}{x2:List UInt8}{res:Bool}(hm:g_I n x1 x2=some res)(J:B<=w0.z)(H:repS w0 B (sl A0 N0 C0) x1.rules)(I:repS w0 B (sl A5 N5 C5) x2):n_ prog 42 [(.agg #[sl A0 N0 C0]),sl A5 N5 C5] w0 (Q0 w0 B res):=by
 unfold g_I at hm
 refine goG func42 z z z fun fn hr=>Ws<|E z (fb z) ?_
 rintro _ O ⟨rfl,h1⟩;have G:=h1.below;refine Rw z<|Ws<|R z (lN (vs:=[sl A0 N0 C0]) t_ q_ z z fid<|(h1.blk:Blk O w0.z [sl A0 N0 C0]).row 0 1 z)<|Rm z ?_
 obtain ⟨V,_,_,W,L⟩:=v_ hm;refine E z (fc call65 z<|W_w2i W (zt' J G.s) (H.e G)<|I.e G) ?_;rintro _ Y ⟨s2,aa,nb,cc,_,ad,ne,cf,_,rfl,_,_,_,_,_,_,_⟩;refine Rm z ?_
 iterate 3 refine Re z z z ?_
 refine E z (fa a_6) ?_;rintro _ wg ⟨rfl,h3⟩;refine E0 (fs0 (cur':=[vI V.number,sl aa nb cc,sl ad ne cf]) i_ z z (h3.blk:Blk wg Y.z [vI 0,sl none 0 0,sl none 0 0]) z z z z) ?_;rintro _ _ ⟨_,si⟩;refine Ra z<|Rw z<|Wm z<|Rq z z z<|Rw z ?_
 obtain rfl:=som L;exact Wr<|h_ hr z ⟨bM (bup (bup G s2) h3.below) si.one<|m1<|lt_ G.s s2.s,z⟩
theorem W_w1h {x1:e_}{x2:Int}{res:Str}(hm:e_k n x1 x2=some res)(a0:B<=w0.z)(ae:x1.name.b.length<=LEN)(af:inI x1.kind)(ah:inI x1.size)(ai:repS w0 B (sl AB NB CB) x1.bytes)(V:repS w0 B (sl A8 N8 C8) x1.names)(aj:repS w0 B (sl AC NC CC) x1.tags)(ak:repS w0 B (sl AD ND CD) x1.kids)(W:inI x2):n_ prog 67 [(.agg #[Str.v x1.name,vI x1.kind,vI x1.size,vB x1.little,sl AB NB CB,sl A8 N8 C8,sl AC NC CC,sl AD ND CD]),vI x2] w0 (Q4 w0 B res):=by
 unfold e_k at hm
 refine goG func67 z z z fun fn hr=>Ws<|E z (fb z) ?_
 rintro _ L ⟨rfl,hn⟩;have h1:=hn.below;have h6:Blk L w0.z (vR x1 AB NB CB A8 N8 C8 AC NC CC AD ND CD):=hn.blk;refine Rw z<|Wq<|Wb<|Ws<|Rf z a_n z<|R z (l0 g_3 z<|h6.at z)<|Rq z z z<|Rw z<|Wc z (fun hcd=>?_) (fun hcd=>?_)
 ·refine Wm z ?_
  obtain ⟨_,ew,hmx⟩:=bdS<|ifT hm hcd;refine E z (fc call28 z<|e_L ew (zt' a0 h1.s) W) ?_;rintro _ _ ⟨sy,rfl,hz⟩;refine Rw z ?_
  obtain rfl:=som hmx;exact Wr<|rtO<|h_ hr z ⟨bup h1 sy,z,hz⟩
 refine Wq ?_;obtain ⟨a1,hum,hmo⟩:=bdS<|ifF hm hcd;refine Wt (fun a w=>∃(xe:Bool),xe=a1/\Sat 51 [(1,vI x2),(2,pt w0.z),(11,vB xe)] a/\Below L.z L w) ?_ ?_
 ·refine Wg<|Rf z a_n z<|R z (l0 g_3 z<|h6.at z)<|Rq z z z<|Rm z ?_
  rcases bs (x1.kind==6) with G | G
  ·exact Rh z G (mv z)<|Rh z G (fd c_2 z)<|Rh z G (l0 c_h z<|h6.at z)<|Rh z G (lnR a_j z<|V.e h1)<|Rh z G (lss z z)<|R z (pT z G z)<|Ra z<|Wl (fun _ q=>⟨decide<|x2<(x1.names.length:Int),som<|ifT hum G,q.k<|s3 z z z,br L⟩)
  iterate 5 refine Nh z G ?_
  exact R z (pF z G z)<|Ra z<|Wl (fun _ q=>⟨false,som<|ifF hum G,q.k<|s3 z z z,br L⟩)
 rintro a2 O ⟨xe,rfl,_,s2⟩;revert a2;refine Wo<|Wc z (fun hcf=>?_) (fun hcf=>?_)
 ·refine Ws<|Rf z c_2 z<|R z (l0 c_h z<|(h6.e s2).at z)<|Rm z ?_
  obtain ⟨_,a3,Y⟩:=bdS<|ifT hmo hcf;refine RX z (at_ (α:=Str) a_j z_9 z z z (V.g<|(h1.ag B).e s2) a3) ?_;rintro _ ⟨_,_,_,rfl,a4,a5,_⟩;obtain ⟨rfl,a6⟩:=b_K a5;refine R z (l0 g_9 z<|a4.at0 z)<|Rw z ?_
  obtain rfl:=som Y;exact Wr<|rtO<|h_ hr z ⟨bup h1 s2,z,a6⟩
 refine Wq ?_;obtain ⟨a7,hup,hmq⟩:=bdS<|ifF hmo hcf;refine Wt (fun a w=>∃(xg:Bool),xg=a7/\Sat 51 [(1,vI x2),(2,pt w0.z),(27,vB xg)] a/\Below O.z O w) ?_ ?_
 ·refine Wg<|Rf z a_n z<|R z (l0 g_3 z<|(h6.e s2).at z)<|Rq z z z<|Rm z ?_
  rcases bs (x1.kind==7) with H | H
  ·exact Rh z H (mv z)<|Rh z H (eql z z)<|R z (pT z H z)<|Ra z<|Wl (fun _ q=>⟨x2==0,som<|ifT hup H,q.k<|s3 z z z,br O⟩)
  exact Nh z H<|Nh z H<|R z (pF z H z)<|Ra z<|Wl (fun _ q=>⟨false,som<|ifF hup H,q.k<|s3 z z z,br O⟩)
 rintro a8 wa ⟨xg,rfl,_,s7⟩;revert a8;refine Wo<|Wc z (fun hch=>?_) (fun hch=>?_)
 ·refine Ws<|Rw z ?_
  obtain rfl:=som<|ifT hmq hch;exact Wr<|rtO<|h_ hr z ⟨bup (bup h1 s2) s7,z,lb z⟩
 refine Wq ?_;obtain ⟨a9,hur,hms⟩:=bdS<|ifF hmq hch;refine Wt (fun a w=>∃(xi:Bool),xi=a9/\Sat 51 [(1,vI x2),(2,pt w0.z),(35,vB xi)] a/\Below wa.z wa w) ?_ ?_
 ·refine Wg<|Rf z a_n z<|R z (l0 g_3 z<|((h6.e s2).e s7).at z)<|Rq z z z<|Rm z ?_
  rcases bs (x1.kind==8) with I | I
  ·exact Rh z I (mv z)<|Rh z I (eql z z)<|R z (pT z I z)<|Ra z<|Wl (fun _ q=>⟨x2==0,som<|ifT hur I,q.k<|s3 z z z,br wa⟩)
  exact Nh z I<|Nh z I<|R z (pF z I z)<|Ra z<|Wl (fun _ q=>⟨false,som<|ifF hur I,q.k<|s3 z z z,br wa⟩)
 rintro aa wb ⟨xi,rfl,_,sc⟩;revert aa;refine Wo<|Wc z (fun hcj=>?_) (fun hcj=>?_)
 ·refine Ws<|Rw z ?_
  obtain rfl:=som<|ifT hms hcj;exact Wr<|rtO<|h_ hr z ⟨bup (bup (bup h1 s2) s7) sc,z,lb z⟩
 refine Wq ?_;obtain ⟨ab,hut,hmu⟩:=bdS<|ifF hms hcj;refine Wt (fun a w=>∃(xk:Bool),xk=ab/\Sat 51 [(43,vB xk)] a/\Below wb.z wb w) ?_ ?_
 ·refine Wg<|Rf z a_n z<|R z (l0 g_3 z<|(((h6.e s2).e s7).e sc).at z)<|Rq z z z<|Rm z ?_
  rcases bs (x1.kind==9) with J | J
  ·exact Rh z J (mv z)<|Rh z J (eql z z)<|R z (pT z J z)<|Ra z<|Wl (fun _ q=>⟨x2==0,som<|ifT hut J,q.k<|s1 z,br wb⟩)
  exact Nh z J<|Nh z J<|R z (pF z J z)<|Ra z<|Wl (fun _ q=>⟨false,som<|ifF hut J,q.k<|s1 z,br wb⟩)
 rintro ad _ ⟨xk,rfl,_,sv⟩;revert ad;refine Wo<|Wc z (fun hcl=>?_) (fun hcl=>?_)
 ·refine Ws<|Rw z ?_
  obtain rfl:=som<|ifT hmu hcl;exact Wr<|rtO<|h_ hr z ⟨bup (bup (bup (bup h1 s2) s7) sc) sv,z,lb z⟩
 refine Wk<|Ws<|Rw z ?_
 obtain rfl:=som<|ifF hmu hcl;exact Wr<|h_ hr z ⟨bup (bup (bup (bup h1 s2) s7) sc) sv,z,lb z⟩
def Q17 (w0:World)(B:Zone)(r:(List u_)×Int)(v:Value)(w':World):Prop:=Bw w0 w'/\un2 (fun L G=>∃H I J S1,v = .tuple #[sl H I J,vI G]/\a_ w' S1 (sl H I J) L/\inI G/\S1.Nodup/\(∀k∈S1,w0.z<=k)) r
structure j_k (f:d_->Int->(List UInt8)->Int->Str->Option ((List u_)×Int)):Prop where
  run:∀{A0 A7:Option Addr}{N0 C0 N7 C7:Nat}{B:Zone}{x1:d_}{x2:Int}{x3:List UInt8}{x4:Int}{x5:Str}{res:(List u_)×Int}{w0:World}(hm:f x1 x2 x3 x4 x5=some res)(hBw:B<=w0.z)(p1_0:repS w0 B (sl A0 N0 C0) x1.rules)(p2_0:inI x2)(p3_0:repS w0 B (sl A7 N7 C7) x3)(p4_0:inI x4)(p5_0:x5.b.length<=LEN),n_ prog 43 [(.agg #[sl A0 N0 C0]),vI x2,sl A7 N7 C7,vI x4,Str.v x5] w0<|Q17 w0 B res
abbrev k_Y (n:Nat):Prop:=j_k (d_V n).spec_l19Build
theorem T_w0g (bB:k_Y n):j_k (h_2 n<|d_V n):=by
 constructor
 intro A0 A7 N0 C0 N7 C7 B x1 x2 x3 x4 x5 res w0 hm V W aB ak Y bc;unfold h_2 at hm
 refine goG func43 z z z fun fn hr=>Ws<|E z (fb z) ?_
 rintro _ wi ⟨rfl,aG⟩;have hn:=aG.below;have ho:Blk wi w0.z [sl A0 N0 C0]:=aG.blk;refine Ra z<|Rw z<|Ws<|Rf z R_ z<|R z (l0 T_ z<|ho.at z)<|Rm z ?_
 obtain ⟨xj,bC,be⟩:=bdS hm;refine RX z (at_ (α:=e_) U_ m_ z z z (W.e hn) bC) ?_;rintro _ ⟨_,_,_,rfl,bD,bE,_⟩;obtain ⟨az,a1,a2,a3,a4,a5,a6,a7,a8,aa,ab,ad,rfl,aH,aI,aJ,aK,aL,aM,ao⟩:=a_m bE;refine R z (lN (vs:=vR xj az a1 a2 a3 a4 a5 a6 a7 a8 aa ab ad) I_ m_ z z fid bD)<|E z (fa b_g) ?_
 rintro _ bF ⟨rfl,aN⟩;have hg:=aN.below;have ap:Blk bF wi.z [(Str.v (⟨[]⟩:Str)),vI 0,vI 0,vB false,sl none 0 0,sl none 0 0,sl none 0 0,sl none 0 0]:=aN.blk;refine E0 (fs0 (cur':=vR xj az a1 a2 a3 a4 a5 a6 a7 a8 aa ab ad) m_ z z ap z z z z) ?_;rintro _ _ ⟨bG,bH⟩;have hd:=bH.one;refine Wn<|Ws ?_
 have aq:=(ho.e hg).c hd<|djs<|mmr ho.lt
 refine R z (lN (vs:=[sl A0 N0 C0]) t_ q_ z z fid<|aq.row 0 1 z)<|RM z z<|Rm z ?_
 have ar:∀k∈[wi.z],¬B k:=or0 (c_ lr)<|k_<|zt' V hn.s;have ae:=((hn.ag B).e hg).c hd<|b_ ar
 have af:=lt_ (lt_ hn.s hg.s) hd.s;obtain ⟨bI,rh,_,bJ,bf⟩:=v_ be;refine E z (fc call56 z<|f_P.run bJ (zt' V af) (W.g ae) aB (ak.g ae) Y) ?_;rintro _ wk ⟨s6,bK,bL,bN,_,bO,bQ,bR,_,rfl,bS,_,L,aO,_,_,_⟩;refine Rm z ?_
 iterate 3 refine Re z z z ?_
 refine E z (fa a_6) ?_;rintro _ bT ⟨rfl,aP⟩;have h2:=aP.below;have au:Blk bT wk.z [vI 0,sl none 0 0,sl none 0 0]:=aP.blk;refine E0 (fs0 (cur':=[vI bI.number,sl bK bL bN,sl bO bQ bR]) i_ z z au z z z z) ?_;rintro _ G ⟨aQ,bU⟩;have H:=bU.one;refine Ra z<|Rw z<|Wm z<|RM z z<|Rm z<|R z (bP (parts:=[(0,.tmp 38),(1,.tmp 39),(2,.tmp 40),(3,.tmp 41)]) (cs:=[Str.v x5,vI x2,vI x4,vI rh]) e_G z z)<|E z (fS [(.tmp 42)] e_H z z z (a_c z) (lb z)<|lb z) ?_
 rintro _ wr ⟨rfl,av⟩;have h5:=av.below;have cF:Blk wr G.z [Str.v x5,vI x2,vI x4,vI rh]:=av.blk;refine Rw z<|Wm z<|Rw z<|Wq<|Ws<|Rf z a_n z ?_
 have aR:=lt_ hd.s s6.s;have aw:=(((bG.e s6).e h2).c H<|djs<|mm1 ap.lt aR).e h5;refine R z (l0 g_3 z<|aw.at z)<|Wn<|Wb<|Wq<|Ws<|Rq z z z<|Rw z ?_
 obtain ⟨bV,aC,bg⟩:=bdS bf;refine Wt (fun a w=>∃(ax:Bool),ax=bV/\Sat 98 [(2,sl A7 N7 C7),(3,vI x4),(4,Str.v x5),(5,pt w0.z),(12,pt wi.z),(13,pt wk.z),(14,vI rh),(16,sl (some ⟨G.z,0,none⟩) 1 1),(17,vI x4),(46,vI xj.kind),(47,vB ax)] a/\Below wr.z wr w) ?_ ?_
 ·refine Wc z (fun al=>?_)<|fun al=>?_
  ·exact a_7<|fun _ q=>⟨xj.kind==5,som<|ifT aC al,q.k<|sc z<|sc z<|sc z<|sc z<|sc z<|sc z<|sc z<|sc z<|sc z<|sc z<|sc z sn,br wr⟩
  exact Wg<|Rq z z z<|Ra z<|Wl (fun _ q=>⟨xj.kind==7,som<|ifF aC al,q.k<|sc z<|sc z<|sc z<|sc z<|sc z<|sc z<|sc z<|sc z<|sc z<|sc z<|sc z sn,br wr⟩)
 rintro bW wm ⟨ax,rfl,_,s3⟩;revert bW;refine Wo ?_;obtain ⟨bX,aD,bh⟩:=bdS bg;refine Wt (fun a w=>∃(ah:Int),ah=bX/\Sat 98 [(2,sl A7 N7 C7),(4,Str.v x5),(5,pt w0.z),(12,pt wi.z),(13,pt wk.z),(14,vI rh),(16,sl (some ⟨G.z,0,none⟩) 1 1),(17,vI ah)] a/\Below wm.z wm w/\inI ah) ?_ ?_
 ·refine Wc z (fun am=>?_)<|fun am=>?_
  ·refine Wq (Wd (X:=noX) 0 (pl_ 15 [7]) mo (by kernel_rfl) fun cG sp _=>dR z z (lN (vs:=[sl A0 N0 C0]) t_ q_ z z fid<|((((((aq.e s6).e h2).c H<|djs<|mm1 ho.lt<|lt_ (lt_ hg.s hd.s) s6.s).e h5).e s3).e sp).row 0 1 z)<|dR z z (fd J_ z)<|dR z z (l0 D_ z<|((aw.e s3).e sp).at z) ?_);obtain ⟨_,bY,bi⟩:=bdS<|ifT aD am;have aS:=lt_ af s6.s;have aT:∀k∈[wk.z],¬B k:=or0 (c_ lr)<|k_<|zt' V aS;refine dRX z z (at_ (α:=Int) o_ z_3 z z z (ao.g<|(((((((hg.ag B).c hd<|b_ ar).e s6).e h2).c H<|b_ aT).e h5).e s3).e sp) bY) ?_;rintro _ ⟨_,_,_,rfl,bZ,c0,_⟩;obtain ⟨rfl,c1⟩:=M_ c0;refine dR z z (l0 g_3 z<|bZ.at0 z)<|dM z z z<|dM z z z ?_
   have aU:=(((((ae.e s6).e h2).c H<|b_ aT).e h5).e s3).e sp;obtain ⟨_,c2,_,c3,bj⟩:=v_ bi;refine dE z z (fc call66 z<|f_O c3 (zt' V<|lt_ (lt_ (lt_ (lt_ (lt_ aS h2.s) H.s) h5.s) s3.s) sp.s) (W.g aU) c1 (ak.g aU) Y) (.inr fun _ _ h=>w_<|h.1) ?_;rintro _ _ ⟨c4,rfl,_,c5⟩;refine dM z z z ?_
   iterate 3 refine dR z z (ext_ z z) ?_
   iterate 3 refine dQ z z z ?_
   exact pD<|Wo<|Wg<|Rm z<|Ra z<|Wl (fun _ q=>⟨c2,som bj,q.k<|s8 z z z z z z z z,bup sp c4,c5⟩)
  refine Ws<|Rq z z z<|Rw z ?_
  obtain ⟨c6,aE,bk⟩:=bdS<|ifF aD am;refine Wt (fun a w=>∃(xt:Int),xt=c6/\Sat 98 [(2,sl A7 N7 C7),(4,Str.v x5),(5,pt w0.z),(12,pt wi.z),(13,pt wk.z),(14,vI rh),(16,sl (some ⟨G.z,0,none⟩) 1 1),(17,vI xt)] a/\Below wm.z wm w/\inI xt) ?_ ?_
  ·refine Wc z (fun an=>?_)<|fun an=>?_
   ·exact Wg<|Rm z<|R z (add_ z z)<|Ra z<|Wl (fun _ q=>⟨g_ x4 1,som<|ifT aE an,q.k<|s8 z z z z z z z z,br wm,iA _ _⟩)
   exact a_7<|fun _ q=>⟨x4,som<|ifF aE an,q.k<|s8 z z z z z z z z,br wm,Y⟩
  rintro c7 _ ⟨xt,rfl,_,c8,c9⟩;revert c7;exact fun _ q=>⟨xt,som bk,q.k<|s8 z z z z z z z z,c8,c9⟩
 rintro ca I ⟨ah,rfl,_,sa,cb⟩;revert ca;refine Wo<|Wq<|Ws<|Rw z ?_
 obtain ⟨_,bm,aF⟩:=bdS bh;refine Wf (σ:=(List u_)×Int) (ρ:=(List u_)×Int) (fun (aV:Nat) s a w=>un2 (fun xq xl=>∃O nb cc J,Sat 98 [(2,sl A7 N7 C7),(4,Str.v x5),(5,pt w0.z),(12,pt wi.z),(13,pt wk.z),(14,vI rh),(16,sl O nb cc),(17,vI xl),(21,vI ((aV:Nat):Int))] a/\Chg (· ∈ [G.z]) I w/\a_ w J (sl O nb cc) xq/\J.Nodup/\(∀k∈J,k∈[G.z]∨I.z<=k)/\inI xl) s) (fun s a w=>un2 (fun xq xl=>∃O nb cc J,Sat 98 [(14,vI rh),(16,sl O nb cc)] a/\Chg (· ∈ [G.z]) I w/\a_ w J (sl O nb cc) xq/\J.Nodup/\(∀k∈J,k∈[G.z]∨I.z<=k)/\inI xl) s) (rQ prog fn<|Q17 w0 B) bm ?_ ?_ ?_ ?_ ?_
 ·exact fun _ q=>⟨some ⟨G.z,0,none⟩,1,1,[G.z],q.k<|s9 z z z z z z z z z,cr [G.z] I,((a_x av<|h_f (x:=(⟨x5,x2,x4,rh⟩:u_)) bc aB Y aO).e s3).e sa,a_k,io sr,cb⟩
 ·rintro aV ⟨xq,xl⟩ _ cd _ a0 ⟨O,nb,cc,J,bn,se,hu,hv,hw,ai⟩ bo;refine Wu ?_ bn;refine Wq<|Wm z<|Rf z a_q z ?_
  have aW:=(((aQ.e h5).e s3).e sa).c se<|djs<|mm1 au.lt H.s
  refine R z (l0 a_P z<|aW.at z)<|R z (lnR b_5 z<|or_ ((((((L.e h2).c H<|ds<|mnr<|a_.lt L).e h5).e s3).e sa).c se<|ds<|mno (a_.lt L)<|lt_ h2.s H.s)<|a_.lt L)<|Rl z z z<|Wx z (fun _=>?_) (fun hc=>(a_2 a0 hc).elim)
  refine Wk<|Wq<|Wb<|Wq (Wd (X:=noX) 0 (.rd 0<|.rd 1<|.rd 2<|.rd 3<|.rd 4<|.rd 6<|.rd 7<|.rd 8<|.rd 9<|.rd 10<|.rd 11<|.ef 5<|.ef 12<|.rd 13<|.ef 14<|.rd 15<|.rd 16<|.rd 17<|.rd 18<|.rd 19 .done) mo (by kernel_rfl) fun ce sf _=>?_)
  have aX:=lt_ (lt_ hg.s hd.s) s6.s;refine dR z z (lN (vs:=[sl A0 N0 C0]) t_ q_ z z fid<|((((((((aq.e s6).e h2).c H<|djs<|mm1 ho.lt aX).e h5).e s3).e sa).c se<|djs<|mm1 ho.lt<|lt_ (lt_ aX h2.s) H.s).e sf).row 0 1 z) ?_;have aY:=(((aw.e s3).e sa).c se<|djs<|mm1 ap.lt<|lt_ (lt_ aR h2.s) H.s).e sf;refine dR z z (lN (vs:=vR xj az a1 a2 a3 a4 a5 a6 a7 a8 aa ab ad) I_ m_ z z fid<|aY.row 0 8 z)<|dR z z (fd b_3 z)<|dR z z (l0 g_3 z<|(aW.e sf).at z) ?_
  iterate 4 refine dM z z z ?_
  obtain ⟨_,cf,bp⟩:=bdS<|a_G bo;refine dR z z (c_g z z cf)<|dR z z (lN (vs:=vR xj az a1 a2 a3 a4 a5 a6 a7 a8 aa ab ad) I_ m_ z z fid<|aY.row 0 8 z)<|dM z z z ?_
  have aZ:=lt_ af s6.s;have b0:∀k∈[wk.z],¬B k:=or0 (c_ lr)<|k_<|zt' V aZ;have b1:=lt_ (lt_ aZ h2.s) H.s;have b2:∀k∈[G.z],¬B k:=or0 (c_ lr)<|k_<|zt' V b1;have hx:=(((((((((hg.ag B).c hd<|b_ ar).e s6).e h2).c H<|b_ b0).e h5).e s3).e sa).c se<|b_ b2).e sf;have b3:=lt_ (lt_ (lt_ (lt_ (lt_ b1 h5.s) s3.s) sa.s) se.s) sf.s;obtain ⟨_,cg,bq⟩:=bdS bp;refine dE z z (fc call31 z<|d_a cg (zt' V b3) aH aI aJ (aK.g hx) (aL.g hx) (aM.g hx) (ao.g hx) bS<|ic (Nat.le_of_lt a0)<|lt_ (a_.len L) K_) (.inr fun _ _ h=>w_<|h.1) ?_;rintro _ ch ⟨ss,rfl,ci⟩;have aj:=hx.e ss;have b4:=lt_ b3 ss.s;obtain ⟨_,cj,bs⟩:=bdS bq;refine dE z z (fc call67 z<|W_w1h cj (zt' V b4) aH aI aJ (aK.g aj) (aL.g aj) (aM.g aj) (ao.g aj)<|ic (Nat.le_of_lt a0)<|lt_ (a_.len L) K_) (.inr fun _ _ h=>w_<|h.1) ?_;rintro _ ck ⟨sy,rfl,_⟩;obtain ⟨_,b5,bt⟩:=bdS bs;refine dR z z (c_g z z b5) ?_;have b6:=(((((((((ae.e s6).e h2).c H<|b_ b0).e h5).e s3).e sa).c se<|b_ b2).e sf).e ss).e sy;obtain ⟨_,cl,cm,bu⟩:=a_t bt;refine dE z z (fc call43 z<|bB.run cm (zt' V<|lt_ b4 sy.s) (W.g b6) ci (ak.g b6) ai<|c_f b5) (.inr fun _ _ h=>w_<|h.1) ?_;rintro _ cn ⟨ay,_,_,_,_,rfl,co,cp,_,_⟩;refine dM z z z<|dR z z (ext_ z z)<|dR z z (ext_ z z)<|dQ z z z<|dQ z z z<|pD<|Wo<|Wm z<|Rm z ?_
  obtain ⟨cq,ct,bv⟩:=bdS bu;refine E z (fN (α:=u_) e_H ct z z ((((hu.e sf).e ss).e sy).e ay) hv<|a_.rep co) ?_;rintro _ cu ⟨b7,cv,cw,cx,rfl,cy,cz,cA,cB⟩;refine Rw z<|Wg<|Rm z<|Rw z<|Wg<|Rm z<|R z (inc_ a0 (lt_ (a_.len L) K_) z z)<|Ra z<|Wl ?_
  have b8:∀k∈J,k∈[G.z]∨I.z<=k:=or1 hw (io sr)<|s_ lr;exact fun _ q=>⟨(cq,cl),(som bv).symm,⟨cv,cw,cx,b7,q.k<|s9 z z z z z z z z z,(cM (f_ (f_ (f_ (f_ (cM (cr [G.z] I) se (io sr):Chg (· ∈ [G.z]) I cd) sf:Chg (· ∈ [G.z]) I ce) ss:Chg (· ∈ [G.z]) I ch) sy:Chg (· ∈ [G.z]) I ck) ay:Chg (· ∈ [G.z]) I cn) cy b8:Chg (· ∈ [G.z]) I cu),cz,cA,(or1 cB b8 (s_<|lt_ (lt_ (lt_ (lt_ se.s sf.s) ss.s) sy.s) ay.s):∀k∈b7,k∈[G.z]∨I.z<=k),cp⟩⟩
 ·rintro ⟨xq,xl⟩ _ cC ⟨O,nb,cc,J,bw,aA,hu,hv,hw,ai⟩;refine Wu ?_ bw;refine Wq<|Wm z<|Rf z a_q z<|R z (l0 a_P z<|((((aQ.e h5).e s3).e sa).c aA<|djs<|mm1 au.lt H.s).at z)<|R z (lnR b_5 z<|or_ ((((((L.e h2).c H<|ds<|mnr<|a_.lt L).e h5).e s3).e sa).c aA<|ds<|mno (a_.lt L)<|lt_ h2.s H.s)<|a_.lt L)<|Rl z z z<|Wx z (fun hc=>(a_3 hc).elim) (fun _=>?_)
  exact We<|fun _ q=>⟨rfl,⟨O,nb,cc,J,q.k<|s2 z z,(cM (cr [G.z] I) aA (io sr):Chg (· ∈ [G.z]) I cC),hu,hv,(or1 hw (io sr) (s_ lr):∀k∈J,k∈[G.z]∨I.z<=k),ai⟩⟩
 ·rintro ⟨xq,xl⟩ cD _ rfl ⟨O,nb,cc,J,_,cE,hu,hv,hw,ai⟩;have bx:=elL aF;revert cD;refine Wo<|Wm z<|Rm z<|Ra z<|Rw z ?_
  obtain rfl:=som<|a_G bx;have b9:=lt_ af s6.s;have ba:=lt_ (lt_ b9 h2.s) H.s;have bb:=m1 ba;exact Wr<|a_u hr z z ⟨bM (bup (bup (bup (bM (bup (bup (bM (bup hn hg) hd<|m1 hn.s) s6) h2) H<|m1 b9) h5) s3) sa) cE bb,O,nb,cc,J,z,hu,aO,hv,a_i hw bb<|lt_ (lt_ (lt_ ba h5.s) s3.s) sa.s⟩
 rintro _ _ _ _ rfl ⟨rfl,bz⟩;have bA:=elR aF;obtain rfl:=som bA;exact ⟨bz,z⟩
theorem A_w0g:∀n,k_Y n
  | 0=>⟨fun hm=>by intros;exact nomatch (show none=some _ from hm)⟩
  | n+1=>T_w0g<|A_w0g n
theorem W_w0g:j_k (d_V n).spec_l19Build:=A_w0g n
def Q18 (w0:World)(B:Zone)(r:(List u_)×Bool)(v:Value)(w':World):Prop:=Bw w0 w'/\un2 (fun J L=>∃G H I S1,v = .tuple #[sl G H I,vB L]/\a_ w' S1 (sl G H I) J/\S1.Nodup/\(∀k∈S1,w0.z<=k)) r
theorem W_w1i {x1:d_}{x2:List UInt8}{res:(List u_)×Bool}(hm:f_c n x1 x2=some res)(I:B<=w0.z)(H:repS w0 B (sl A0 N0 C0) x1.rules)(L:repS w0 B (sl A5 N5 C5) x2):n_ prog 19 [(.agg #[sl A0 N0 C0]),sl A5 N5 C5] w0 (Q18 w0 B res):=by
 unfold f_c at hm
 refine goG func19 z z z fun fn hr=>Ws<|E z (fb z) ?_
 rintro _ wd ⟨rfl,h5⟩;have G:=h5.below;have h6:Blk wd w0.z [sl A0 N0 C0]:=h5.blk;refine Ra z<|Rw z<|Wq<|Ws<|R z (lN (vs:=[sl A0 N0 C0]) t_ q_ z z fid<|h6.row 0 1 z)<|Rm z ?_
 obtain ⟨_,ee,O⟩:=bdS hm;refine E z (fc call42 z<|W_w2j ee (zt' I G.s) (H.e G)<|L.e G) ?_;rintro _ wf ⟨s1,rfl⟩;refine R z (not_ z)<|Wx z (fun J=>?_) (fun J=>?_)
 ·refine Ws<|E z (f0 (α:=u_) e_H) ?_
  rintro _ _ ⟨ah,ng,ci,rfl,sj,hk⟩;refine Ra z<|Rw z ?_
  obtain rfl:=som<|ifT O J;exact Wr<|a_u hr z z ⟨bup (bup G s1) sj,ah,ng,ci,[wf.z],z,hk,a_k,m1<|lt_ G.s s1.s⟩
 refine Wk<|Wq (Wd (X:=noX) 0 (.rd 0<|.rd 1<|.rd 3<|.ef 2<|.ef 4<|.rd 5<|.rd 6<|.rd 7<|.rd 8<|.rd 9 .done) mo (by kernel_rfl) fun Y s2 _=>?_)
 have V:=(h6.e s1).e s2;refine dR z z (lN (vs:=[sl A0 N0 C0]) t_ q_ z z fid<|V.row 0 1 z)<|dR z z (lN (vs:=[sl A0 N0 C0]) t_ q_ z z fid<|V.row 0 1 z)<|dM z z z ?_
 have W:=((G.ag B).e s1).e s2;have ha:=lt_ (lt_ G.s s1.s) s2.s;obtain ⟨_,el,hmm⟩:=bdS<|ifF O J;refine dE z z (fc call41 z<|e_M el (zt' I ha)<|H.g W) (.inr fun _ _ h=>w_<|h.1) ?_;rintro _ _ ⟨s4,rfl,hn⟩;have hb:=W.e s4;have hc:=lt_ ha s4.s;obtain ⟨_,_,eo,hmp⟩:=a_t hmm;refine dE z z (fc call43 z<|W_w0g.run eo (zt' I hc) (H.g hb) hn (L.g hb) (ii z)<|lb z) (.inr fun _ _ h=>w_<|h.1) ?_;rintro _ _ ⟨sq,ar,ns,ct,Su,rfl,hv,_,hw,hx⟩;refine dM z z z<|dR z z (ext_ z z)<|dR z z (ext_ z z)<|dQ z z z<|dQ z z z<|pD<|Wo<|Wm z<|Ra z<|Rw z ?_
 obtain rfl:=som hmp;exact Wr<|a_u hr z z ⟨bup (bup (bup (bup G s1) s2) s4) sq,ar,ns,ct,Su,z,hv,hw,l_ hx hc⟩
def Q19 (w0:World)(B:Zone)(r:d_×(List UInt8)×(List u_))(v:Value)(w':World):Prop:=Bw w0 w'/\un3 (fun Y r2 r3=>∃G H I S1 a2 J L S2 O V W S3,v = .tuple #[(.agg #[.slice G H I]),sl a2 J L,sl O V W]/\a_ w' S1 (sl G H I) Y.rules/\a_ w' S2 (sl a2 J L) r2/\a_ w' S3 (sl O V W) r3/\(S1++(S2++S3)).Nodup/\(∀k∈(S1++(S2++S3)),w0.z<=k)) r
theorem W_w2k {x1:List UInt8}{res:d_×(List UInt8)×(List u_)}(hm:g_o n x1=some res)(O:B<=w0.z)(az:repS w0 B (sl A0 N0 C0) x1):n_ prog 5 [sl A0 N0 C0] w0 (Q19 w0 B res):=by
 unfold g_o at hm
 refine goG func5 z z z fun fn hr=>Ws<|E z (fa f_K) ?_
 rintro _ aH ⟨rfl,a8⟩;have hh:=a8.below;have ha:Blk aH w0.z [sl none 0 0]:=a8.blk;refine Ra z<|Rw z<|Wm z ?_
 have a9:=zt' O hh.s;obtain ⟨_,aI,aA⟩:=bdS hm;refine E z (fc call14 z<|W_w22 (B:=B) aI a9<|az.e hh) ?_;rintro _ wl ⟨si,gz,_,_,_,rfl,hn,W,aa,aJ,aK⟩;refine Rw z<|Wm z ?_
 have Y:∀k∈[gz],¬B k:=or0 (c_ W)<|k_ a9;have ho:=lt_ hh.s si.s;obtain ⟨_,_,_,aL,aB⟩:=v_ aA;refine E z (fc call15 z<|W_w23 (B:=B) aL hn (zt' O ho) (atp Y) aa aJ aK) ?_;rintro _ wb ⟨se,H,I,J,aM,rfl,h1,aN,aO,aP,aQ,h3⟩;refine E z (fa f_K) ?_;rintro _ aR ⟨rfl,ab⟩;have L:=ab.below;have hj:Blk aR wb.z [sl none 0 0]:=ab.blk;refine E0 (fs0 (cur':=[sl H I J]) q_ z z hj z z z z) ?_;rintro _ aS ⟨aT,aU⟩;have G:=aU.one;refine Wn<|Wq (Wd (X:=fun k=>k∈[gz]∨aS.z<=k) 0 (pl_ 14 [11,12]) mo (by kernel_rfl) fun aV s4 _=>?_)
 have hf:=aT.e s4;have hc:=mm1 (Blk.lt hn) se.s;refine dR z z (lN (vs:=[sl H I J]) t_ q_ z z (a_y (atp hc)<|Nat.lt_of_lt_of_le hj.lt G.s)<|hf.row 0 1 z)<|dR z z (fd R_ z)<|dR z z (l1 T_ z (a_y (atp hc)<|Nat.lt_of_lt_of_le hj.lt G.s)<|hf.at z) ?_
 have hp:=((h1.e L).c G<|ds<|mnr<|a_.lt h1).e s4;refine dR z z (lnR U_ z<|or_ hp<|zin (B:=B) h3<|a_.lt h1)<|dR z z (sb_ z z)<|dM z z z<|dR z z (lN (vs:=[sl H I J]) t_ q_ z z (a_y (atp hc)<|Nat.lt_of_lt_of_le hj.lt G.s)<|hf.row 0 1 z)<|dR z z (fd R_ z)<|dR z z (l1 T_ z (a_y (atp hc)<|Nat.lt_of_lt_of_le hj.lt G.s)<|hf.at z)<|dR z z (lnR U_ z<|or_ hp<|zin (B:=B) h3<|a_.lt h1)<|dR z z (sb_ z z) ?_
 have a0:=lt_ ho se.s;have ad:=lt_ (lt_ (lt_ a0 L.s) G.s) s4.s;have ae:=lt_ (lt_ L.s G.s) s4.s;obtain ⟨_,_,_,aW,aC⟩:=v_ aB;refine dE z z (fc call17 z<|W_w0c.run (B:=zn B wl.z wb.z) aW (((aP.e L).c G<|djs hc).e s4) (c_x (zt' O ad) ae) (atp ((e_5 Y (c_<|Blk.lt hn) lr):∀k∈[gz],¬(zn B wl.z wb.z) k)) (repS.mono (aa.g<|(((se.agc B<|b_ Y).e L).c G<|b_ (or0 (c_ lr) (k_<|zt' O a0):∀k∈[wb.z],¬B k)).e s4) c_4) aN aO (or_ hp<|zin (B:=B) h3<|a_.lt h1) (iS _ _)<|ii z) (.inr fun _ _ h=>h.1.mono fun k _ hk=>(io sr) k hk) ?_;rintro _ aX ⟨s9,_,_,_,_,_,_,_,_,rfl,aY,af,ah,_,_,_,_,ai⟩;have a1:=hp.c s9<|j_ h3 (Blk.lt hn) lr
 have hq:=lt_ ad s9.s;have ht:=lt_ ae s9.s;obtain ⟨aZ,b0,aD⟩:=bdS aC;refine dE z z (fc call16 z<|W_w0a.run (B:=zn (zn B wl.z wb.z) aV.z aX.z) b0 (c_x (c_x (zt' O hq) ht) lr) (repS.mono (or_ a1<|zin (B:=B) h3<|a_.lt h1)<|zns (zt c_4<|c_4)<|znD<|znI lr lr) (iS _ _) aY (repS.mono (or_ af<|zin (B:=B) (al_ ai)<|a_.lt af)<|zns (zt c_4<|c_4)<|znI lr lr)<|repS.mono (or_ ah<|zin (B:=B) (ar_ ai)<|a_.lt ah)<|zns (zt c_4<|c_4)<|znI lr lr) (.inr fun _ _ h=>w_<|h.1) ?_;rintro _ wk ⟨s2,b1,b2,b3,a2,rfl,a3,b4,hu⟩;refine dQ z z z<|pD<|Wo<|Wq<|Wm z<|R z (lnR p_ z<|or_ a3<|zin (B:=B) hu<|a_.lt a3)<|R z (a_e z z)<|Wn ?_
 obtain ⟨b5,a7,aE⟩:=bdS aD;refine Wt (fun a w=>∃(a4:List UInt8),a4=b5/\∃ar ns cv Sg,Sat 44 [(2,pt w0.z),(6,pt wb.z),(7,sl ar ns cv)] a/\Below wk.z wk w/\a_ w Sg (sl ar ns cv) a4/\Sg.Nodup/\(∀k∈Sg,k∈a2∨wk.z<=k)) ?_ ?_
 ·refine Wc z (fun V=>?_)<|fun V=>?_
  ·refine Wg<|R z (lN (vs:=[sl H I J]) t_ q_ z z fid<|((hf.c s9<|atp hc).e s2).row 0 1 z) ?_
   obtain ⟨b6,_,b7,aF⟩:=a_t<|ifT a7 V;refine E z (fc call18 z<|W_w2e (B:=zn B wl.z wb.z) b7 (c_x (zt' O<|lt_ hq s2.s)<|lt_ ht s2.s)<|or_ (a1.e s2)<|zin (B:=B) h3<|a_.lt h1) ?_;rintro _ _ ⟨b8,b9,ba,bb,aj,rfl,bc,be,bf⟩;refine Rm z<|Re z z z<|Re z z z<|Ra z<|Wl ?_
   exact fun _ q=>⟨b6,som aF,b9,ba,bb,aj,q.k<|s3 z z z,b8,bc,be,(or0 bf (s_ lr):∀k∈aj,k∈a2∨wk.z<=k)⟩
  exact a_7<|fun _ q=>⟨aZ,som<|ifF a7 V,b1,b2,b3,a2,q.k<|s3 z z z,br wk,a3,b4,io sr⟩
 rintro bg bh ⟨a4,rfl,ar,ns,cv,Sg,_,sd,hw,bi,a6⟩;revert bg;refine Wo<|Ws ?_
 have ak:=((hf.c s9<|atp hc).e s2).e sd;refine R z (lN (vs:=[sl H I J]) t_ q_ z z fid<|ak.row 0 1 z)<|Rm z ?_
 have al:=(a1.e s2).e sd;have am:=lt_ hq s2.s;have an:=a_i a6 (l_ hu hq) am;have ao:=lt_ ht s2.s;have ap:=lt_ ao sd.s;have aq:=lt_ am sd.s;obtain ⟨_,_,bj,aG⟩:=a_t aE;refine E z (fc call19 z<|W_w1i (B:=zn B w0.z bh.z) bj (c_x (zt' O aq) lr) (repS.mono (or_ al<|zin (B:=B) h3<|a_.lt h1)<|i_7 ho ap)<|or_ hw<|zin (B:=B) an<|a_.lt hw) ?_;rintro _ _ ⟨sm,bk,bm,bn,bo,rfl,bp,bq,hx⟩;refine Rm z<|Re z z z<|Re z z z<|Ra z<|Rw z<|Ws<|R z (lN (vs:=[sl H I J]) t_ q_ z z fid<|(ak.e sm).row 0 1 z)<|RM z z ?_
 have au:=j_ (c_ W) ha.lt lr;have av:=lt_ si.s se.s;refine E0 (fs0 (cur':=[sl H I J]) q_ z z (((((((((ha.e si).c se<|djs au).e L).c G<|djs<|mm1 ha.lt av).e s4).c s9<|djs au).e s2).e sd).e sm) z z z z) ?_;rintro _ _ ⟨bs,bt⟩;have hy:=bt.one;refine Ra z<|Rw z ?_
 obtain rfl:=som aG;have aw:=lt_ (lt_ (lt_ (lt_ av L.s) G.s) s4.s) s9.s;have ax:=lt_ aw s2.s;have ay:=l_ (c_ W) hh.s;exact Wr<|F_ hr (r_ t_ q_ z bs z) z z ⟨bM (bup (bup (bup (bM (bup (bM (bup (bM (bup hh si) se ay) L) G<|m1 a0) s4) s9 ay) s2) sd) sm) hy<|c_ lr,H,I,J,aM,ar,ns,cv,Sg,bk,bm,bn,bo,z,(al.e sm).c hy<|j_ h3 ha.lt si.s,(hw.e sm).c hy (or1 a6 (j_ hu ha.lt aw) (O_ (c_ ha.lt) ax):∀k∈Sg,k∉[w0.z]),bp.c hy<|j_ hx ha.lt<|lt_ ax sd.s,na_ aQ (na_ bi bq<|ds<|b_e hx (a_.lt hw) lr)<|nmA (ds<|o1no a6 (b_e hu (a_.lt h1) ht) (a_.lt h1) ao)<|ds<|b_e hx (a_.lt h1) ap,aa_ (l_ h3 ho)<|aa_ an<|l_ hx aq⟩
theorem f_Q {x1:d_}{res:Int}(hm:d_Q x1=some res)(J:B<=w0.z)(H:repS w0 B (sl A0 N0 C0) x1.rules):n_ prog 46 [(.agg #[sl A0 N0 C0])] w0 (Q9 w0 B res):=by
 unfold d_Q at hm
 refine goG func46 z z z fun fn hr=>Ws<|E z (fb z) ?_
 rintro _ I ⟨rfl,G⟩;have h1:=G.below;refine Rw z<|Ws<|Rf z R_ z<|R z (l0 T_ z<|(G.blk:Blk I w0.z [sl A0 N0 C0]).at z)<|R z (lnR U_ z<|H.e h1)<|R z (sb_ z z)<|Rw z ?_
 obtain rfl:=som hm;exact Wr<|h_ hr z ⟨h1,z,iS _ _⟩
theorem d_A {x1:Int}{x2:Int}{x3:Int}{res:Bool}(hm:c_c x1 x2 x3=some res)(Y:B<=w0.z)(O:inI x1)(V:inI x2)(W:inI x3):n_ prog 47 [vI x1,vI x2,vI x3] w0 (Q0 w0 B res):=by
 unfold c_c at hm
 refine goG func47 z z z fun fn hr=>Ws<|Rw z<|Wq ?_
 obtain ⟨J,H,I⟩:=bdS hm;refine Wt (fun a w=>∃(x4:Bool),x4=J/\Sat 15 [(6,vB x4)] a/\Below w0.z w0 w) ?_ ?_
 ·refine Wg<|RM z z<|R z (b_C z z)<|Rm z ?_
  rcases bs (decide<|x2<=x1) with G | G
  ·exact Rh z G (mv z)<|Rh z G (mv z)<|Rh z G (b_C z z)<|R z (pT z G z)<|Ra z<|Wl (fun _ q=>⟨decide<|x1<=x3,som<|ifT H G,q.k<|s1 z,br w0⟩)
  iterate 3 refine Nh z G ?_
  exact R z (pF z G z)<|Ra z<|Wl (fun _ q=>⟨false,som<|ifF H G,q.k<|s1 z,br w0⟩)
 rintro L _ ⟨x4,rfl,_,s6⟩;revert L;refine Wo ?_;obtain rfl:=som I;exact Wr<|h_ hr z ⟨s6,z⟩
theorem j_l {x1:d_}{x2:Int}{res:Bool}(hm:d_P x1 x2=some res)(Y:B<=w0.z)(J:repS w0 B (sl A0 N0 C0) x1.rules)(W:inI x2):n_ prog 71 [(.agg #[sl A0 N0 C0]),vI x2] w0 (Q0 w0 B res):=by
 unfold d_P at hm
 refine goG func71 z z z fun fn hr=>Ws<|E z (fb z) ?_
 rintro _ H ⟨rfl,h2⟩;have h4:=h2.below;refine Rw z<|Wq ?_
 obtain ⟨O,I,L⟩:=bdS hm;refine Wt (fun a w=>∃(x3:Bool),x3=O/\Sat 14 [(4,vB x3)] a/\Below H.z H w) ?_ ?_
 ·refine Wg<|Rm z<|R z (b_i z z)<|Rm z ?_
  rcases bs (decide<|0<=x2) with G | G
  ·exact Rh z G (mv z)<|Rh z G (fd R_ z)<|Rh z G (l0 T_ z<|(h2.blk:Blk H w0.z [sl A0 N0 C0]).at z)<|Rh z G (lnR U_ z<|J.e h4)<|Rh z G (lss z z)<|R z (pT z G z)<|Ra z<|Wl (fun _ q=>⟨decide<|x2<(x1.rules.length:Int),som<|ifT I G,q.k<|s1 z,br H⟩)
  iterate 5 refine Nh z G ?_
  exact R z (pF z G z)<|Ra z<|Wl (fun _ q=>⟨false,som<|ifF I G,q.k<|s1 z,br H⟩)
 rintro V _ ⟨x3,rfl,_,sa⟩;revert V;refine Wo ?_;obtain rfl:=som L;exact Wr<|h_ hr z ⟨bup h4 sa,z⟩
theorem W_w1j {x1:Str}{res:Bool}(hm:e_o n x1=some res)(ap:B<=w0.z)(ao:x1.b.length<=LEN):n_ prog 72 [Str.v x1] w0 (Q0 w0 B res):=by
 unfold e_o at hm
 refine goG func72 z z z fun fn hr=>Ws<|Rw z<|Wq<|Wq ?_
 obtain ⟨a8,huo,hmp⟩:=bdS hm;refine Wt (fun a w=>∃(xg:Bool),xg=a8/\Sat 43 [(0,Str.v x1),(14,vB xg)] a/\Below w0.z w0 w) ?_ ?_
 ·refine Wg<|Rm z<|R z (lnT d_9 z)<|Rl z z z<|Rm z ?_
  rcases bs (decide<|(x1.b.length:Int)<1) with J | J
  ·iterate 3 refine Nh z J ?_
   exact R z (pT z J z)<|Wl (fun _ q=>⟨true,som<|ifT huo J,q.k<|s2 z z,br w0⟩)
  exact Rh z J (mv z)<|Rh z J (lnT d_9 z)<|Rh z J (a_e z z)<|R z (pF z J z)<|Wl (fun _ q=>⟨decide<|12<(x1.b.length:Int),som<|ifF huo J,q.k<|s2 z z,br w0⟩)
 rintro a9 G ⟨xg,rfl,_,s9⟩;revert a9;refine Wo<|Wc z (fun hch=>?_) (fun hch=>?_)
 ·refine Ws<|Rw z ?_
  obtain rfl:=som<|ifT hmp hch;exact Wr<|h_ hr z ⟨s9,z⟩
 refine Wk<|Wq<|Wm z<|E z (n_r d_9 z) ?_
 rintro _ I ⟨rfl,sq,aa⟩;refine Wn ?_;obtain ⟨_,a1,hmr⟩:=bdS<|ifF hmp hch;refine b_M (σ:=Nat) (ρ:=Bool) (fun (x0:Nat) a w=>Sat 43 [(16,pt G.z)] a/\Chg (· ∈ [G.z]) I w/\b_n w G.z x1 x0) (fun (x0:Nat) a w=>Sat 43 [] a/\Chg (· ∈ [G.z]) I w/\b_n w G.z x1 x0) (rQ prog fn<|Q0 w0 B) a1 ?_ ?_ ?_ ?_
 ·exact fun _ q=>⟨q.k<|s1 z,cr [G.z] I,aa⟩
 ·rintro x0 _ ws _ ⟨a2,si,he⟩ hmt;refine Wu ?_ a2;refine Ws ?_
  rcases bs (decide<|x0<x1.b.length) with hca | hca
  ·refine E z (n_s z he<|of_decide_eq_true hca) ?_;rintro _ wb ⟨rfl,ab,su⟩;refine Re z z z<|Wn<|Wq<|Wc z (fun _=>?_) (fun hc=>(bcon z hc).elim)
   refine Wk<|Wb<|Ws<|Re z z z<|Re z z z<|Ra z<|Rw z<|Wq ?_
   obtain ⟨ad,huv,a3⟩:=bdS<|ifT hmt hca;refine Wt (fun a w=>∃(xc:Bool),xc=ad/\Sat 43 [(3,vI (x0:Int)),(4,.int .i32<|(dec x1 x0).1),(5,vB xc),(16,pt G.z)] a/\Below wb.z wb w) ?_ ?_
   ·refine Wg<|Rm z<|R z (b_i z z)<|Rm z ?_
    rcases bs (decide<|97<=((dec x1 x0).1)) with L | L
    ·exact Rh z L (mv z)<|Rh z L (b_C z z)<|R z (pT z L z)<|Ra z<|Wl (fun _ q=>⟨decide<|((dec x1 x0).1)<=122,som<|ifT huv L,q.k<|s4 z z z z,br wb⟩)
    exact Nh z L<|Nh z L<|R z (pF z L z)<|Ra z<|Wl (fun _ q=>⟨false,som<|ifF huv L,q.k<|s4 z z z z,br wb⟩)
   rintro ae wd ⟨xc,rfl,_,sj⟩;revert ae;refine Wo<|Wq ?_
   obtain ⟨af,huw,a4⟩:=bdS a3;refine Wt (fun a w=>∃(xf:Bool),xf=af/\Sat 43 [(3,vI (x0:Int)),(5,vB xc),(6,vB xf),(16,pt G.z)] a/\Below wd.z wd w) ?_ ?_
   ·refine Wg<|Rm z<|R z (b_i z z)<|Rm z ?_
    rcases bs (decide<|48<=((dec x1 x0).1)) with O | O
    ·exact Rh z O (mv z)<|Rh z O (b_C z z)<|R z (pT z O z)<|Ra z<|Wl (fun _ q=>⟨decide<|((dec x1 x0).1)<=57,som<|ifT huw O,q.k<|s4 z z z z,br wd⟩)
    exact Nh z O<|Nh z O<|R z (pF z O z)<|Ra z<|Wl (fun _ q=>⟨false,som<|ifF huw O,q.k<|s4 z z z z,br wd⟩)
   rintro ah W ⟨xf,rfl,_,sk⟩;revert ah;refine Wo<|Wq ?_
   obtain ⟨ai,hux,hmy⟩:=bdS a4;refine Wt (fun a w=>∃(xl:Bool),xl=ai/\Sat 43 [(16,pt G.z),(42,vB xl)] a/\Below W.z W w) ?_ ?_
   ·refine Wg<|Rm z<|R z (not_ z)<|Rm z ?_
    rcases bs (!xc) with H | H
    ·have hmz:=ifT hux H;refine Rh z H (mv z)<|Rh z H (not_ z)<|Rh z H (mv z) ?_
     rcases bs (!xf) with V | V
     ·exact Nh z V<|Nh z V<|Rh z H (pT z V z)<|R z (pT z H z)<|Wl (fun _ q=>⟨true,som<|ifT hmz V,q.k<|s2 z z,br W⟩)
     exact Rh z V (mv z)<|Rh z V (eql z z)<|Rh z H (pF z V z)<|R z (pT z H z)<|Wl (fun _ q=>⟨(x0:Int)==0,som<|ifF hmz V,q.k<|s2 z z,br W⟩)
    iterate 3 refine Nh z H ?_
    exact Nv z<|Nv z<|Nh z H<|R z (pF z H z)<|Wl (fun _ q=>⟨false,som<|ifF hux H,q.k<|s2 z z,br W⟩)
   rintro aj ak ⟨xl,rfl,_,sm⟩;revert aj;refine Wo<|Wc z (fun hcn=>?_) (fun hcn=>?_)
   ·refine Ws<|Rw z ?_
    have Y:=m1 s9.s;exact Wr<|rtO<|qL (som<|ifT hmy hcn).symm<|h_ hr z ⟨bup (bup (bup (bM (bM (bup s9 sq) si Y) su Y) sj) sk) sm,z⟩
   refine a_7 ?_;exact fun _ q=>⟨x0+(dec x1 x0).2,(som<|ifF hmy hcn).symm,⟨q.k<|s1 z,(f_ (f_ (f_ (cM (cM (cr [G.z] I) si (io sr):Chg (· ∈ [G.z]) I ws) su (io sr):Chg (· ∈ [G.z]) I wb) sj:Chg (· ∈ [G.z]) I wd) sk:Chg (· ∈ [G.z]) I W) sm:Chg (· ∈ [G.z]) I ak),((ab.e sj).e sk).e sm⟩⟩
  refine E z (n_t z he<|of_decide_eq_false hca) ?_;rintro _ al ⟨rfl,a0⟩;refine Re z z z<|Wn<|Wq<|Wc z (fun hc=>(bcon hc z).elim) (fun _=>?_)
  exact We<|fun _ q=>b_t (som<|ifF hmt hca).symm ⟨q.k sn,(f_ (cM (cr [G.z] I) si (io sr):Chg (· ∈ [G.z]) I ws) a0:Chg (· ∈ [G.z]) I al),he.e a0⟩
 ·rintro x0 am _ rfl ⟨_,an,he⟩;have a5:=elL hmr;revert am;refine Wo<|Ws<|Rw z ?_
  obtain rfl:=som a5;exact Wr<|h_ hr z ⟨bM (bup s9 sq) an<|m1 s9.s,z⟩
 rintro _ _ _ _ rfl ⟨rfl,a6⟩;have a7:=elR hmr;obtain rfl:=som a7;exact ⟨a6,z⟩
theorem d_c {x1:e_}{x2:Bool}{x3:Bool}{x4:Bool}{x5:Bool}{x6:Int}{res:Bool}(hm:c_d x1 x2 x3 x4 x5 x6=some res)(a8:B<=w0.z)(a4:x1.name.b.length<=LEN)(a5:inI x1.kind)(a6:inI x1.size)(a0:repS w0 B (sl AB NB CB) x1.bytes)(a1:repS w0 B (sl A8 N8 C8) x1.names)(a2:repS w0 B (sl AC NC CC) x1.tags)(a3:repS w0 B (sl AD ND CD) x1.kids)(a7:inI x6):n_ prog 104 [(.agg #[Str.v x1.name,vI x1.kind,vI x1.size,vB x1.little,sl AB NB CB,sl A8 N8 C8,sl AC NC CC,sl AD ND CD]),vB x2,vB x3,vB x4,vB x5,vI x6] w0 (Q0 w0 B res):=by
 unfold c_d at hm
 refine goG func104 z z z fun fn hr=>Ws<|E z (fb z) ?_
 rintro _ w9 ⟨rfl,hd⟩;have ha:=hd.below;have hb:Blk w9 w0.z (vR x1 AB NB CB A8 N8 C8 AC NC CC AD ND CD):=hd.blk;refine Rw z<|Wq ?_
 obtain ⟨ur,hus,hmt⟩:=bdS hm;refine Wt (fun a w=>∃(xc:Bool),xc=ur/\Sat 57 [(12,vB xc)] a/\Below w9.z w9 w) ?_ ?_
 ·refine Wg<|RM z z ?_
  obtain ⟨ue,huf,hmu⟩:=bdS hus;refine d_0 18 ue 4 ?_ ?_
  ·rcases bs x2 with Y | Y
   ·iterate 3 refine Nh z Y ?_
    exact R z (pT z Y z)<|WLq 4 (ifT huf Y) z z z
   exact Rh z Y (fd a_z z)<|Rh z Y (l0 g_3 z<|hb.at z)<|Rh z Y (eql z z)<|R z (pF z Y z)<|WLq 4 (ifF huf Y) z z z
  refine Rm z ?_;obtain ⟨ug,huh,hmv⟩:=bdS hmu;refine d_0 27 ug 8 ?_ ?_
  ·rcases bs ue with G | G
   ·have hmi:=ifT huh G;refine Rh z G (mv z)<|Rh z G (mv z) ?_
    rcases bs x3 with O | O
    ·iterate 4 refine Nh z O ?_
     exact Rh z G (pT z O z)<|R z (pT z G z)<|WLq 8 (ifT hmi O) z z z
    exact Rh z O (fd a_R z)<|Rh z O (l0 P_ z<|hb.at z)<|Rh z O (lnR p_ z<|a0.e ha)<|Rh z O (eql z z)<|Rh z G (pF z O z)<|R z (pT z G z)<|WLq 8 (ifF hmi O) z z z
   exact Nh z G<|Nh z G<|Nv z<|Nv z<|Nv z<|Nv z<|Nh z G<|R z (pF z G z)<|WLq 8 (ifF huh G) z z z
  refine Rm z ?_;obtain ⟨uj,huk,hmw⟩:=bdS hmv;refine d_0 36 uj 8 ?_ ?_
  ·rcases bs ug with H | H
   ·have hml:=ifT huk H;refine Rh z H (mv z)<|Rh z H (mv z) ?_
    rcases bs x4 with V | V
    ·iterate 4 refine Nh z V ?_
     exact Rh z H (pT z V z)<|R z (pT z H z)<|WLq 8 (ifT hml V) z z z
    exact Rh z V (fd c_2 z)<|Rh z V (l0 c_h z<|hb.at z)<|Rh z V (lnR a_j z<|a1.e ha)<|Rh z V (eql z z)<|Rh z H (pF z V z)<|R z (pT z H z)<|WLq 8 (ifF hml V) z z z
   exact Nh z H<|Nh z H<|Nv z<|Nv z<|Nv z<|Nv z<|Nh z H<|R z (pF z H z)<|WLq 8 (ifF huk H) z z z
  refine Rm z ?_;obtain ⟨um,hun,hmo⟩:=bdS hmw;refine d_0 45 um 8 ?_ ?_
  ·rcases bs uj with I | I
   ·have hmp:=ifT hun I;refine Rh z I (mv z)<|Rh z I (mv z) ?_
    rcases bs x5 with W | W
    ·iterate 4 refine Nh z W ?_
     exact Rh z I (pT z W z)<|R z (pT z I z)<|WLq 8 (ifT hmp W) z z z
    exact Rh z W (fd a_S z)<|Rh z W (l0 D_ z<|hb.at z)<|Rh z W (lnR o_ z<|a2.e ha)<|Rh z W (eql z z)<|Rh z I (pF z W z)<|R z (pT z I z)<|WLq 8 (ifF hmp W) z z z
   exact Nh z I<|Nh z I<|Nv z<|Nv z<|Nv z<|Nv z<|Nh z I<|R z (pF z I z)<|WLq 8 (ifF hun I) z z z
  refine Rm z ?_
  rcases bs um with J | J
  ·have hmq:=ifT hmo J;refine Rh z J (mv z)<|Rh z J (lss z z)<|Rh z J (mv z) ?_
   rcases bs (decide<|x6<0) with L | L
   ·iterate 5 refine Nh z L ?_
    exact Rh z J (pT z L z)<|R z (pT z J z)<|Ra z<|Wl (fun _ q=>⟨true,som<|ifT hmq L,q.k<|s1 z,br w9⟩)
   exact Rh z L (fd J_ z)<|Rh z L (l0 D_ z<|hb.at z)<|Rh z L (lnR o_ z<|a3.e ha)<|Rh z L (mv z)<|Rh z L (eql z z)<|Rh z J (pF z L z)<|R z (pT z J z)<|Ra z<|Wl (fun _ q=>⟨(x1.kids.length:Int)==x6,som<|ifF hmq L,q.k<|s1 z,br w9⟩)
  iterate 3 refine Nh z J ?_
  exact Nv z<|Nv z<|Nv z<|Nv z<|Nv z<|Nh z J<|R z (pF z J z)<|Ra z<|Wl (fun _ q=>⟨false,som<|ifF hmo J,q.k<|s1 z,br w9⟩)
 rintro ax _ ⟨xc,rfl,_,sy⟩;revert ax;refine Wo ?_;obtain rfl:=som hmt;exact Wr<|h_ hr z ⟨bup ha sy,z⟩
theorem j_m {x1:d_}{x2:Int}{res:Int}(hm:e_p x1 x2=some res)(V:B<=w0.z)(I:repS w0 B (sl A0 N0 C0) x1.rules)(Y:inI x2):n_ prog 105 [(.agg #[sl A0 N0 C0]),vI x2] w0 (Q9 w0 B res):=by
 unfold e_p at hm
 refine goG func105 z z z fun fn hr=>Ws<|E z (fb z) ?_
 rintro _ L ⟨rfl,W⟩;have h2:=W.below;have h6:Blk L w0.z [sl A0 N0 C0]:=W.blk;refine Rw z<|Wq<|Wq ?_
 obtain ⟨uf,hug,hma⟩:=bdS hm;refine Wt (fun a w=>∃(O:Bool),O=uf/\Sat 37 [(1,vI x2),(2,pt w0.z),(27,vB O)] a/\Below L.z L w) ?_ ?_
 ·refine Wg<|R z (lN (vs:=[sl A0 N0 C0]) t_ q_ z z fid<|h6.row 0 1 z)<|Rm z ?_
  obtain ⟨rh,ei,hmb⟩:=bdS hug;refine E z (fc call71 z<|j_l ei (zt' V h2.s) (I.e h2) Y) ?_;rintro _ _ ⟨s4,rfl⟩;refine R z (not_ z)<|Rm z ?_
  rcases bs (!rh) with H | H
  ·iterate 7 refine Nh z H ?_
   exact R z (pT z H z)<|Rm z<|Nh z z<|Nh z z<|Nh z z<|Nh z z<|Nh z z<|Nh z z<|Nh z z<|Nh z z<|R z (pT z z z)<|Wl (fun _ q=>⟨true,som<|ifT hmb H,q.k<|s3 z z z,s4⟩)
  refine Rh z H (fd R_ z) ?_;have hc:=h6.e s4;refine Rh z H (l0 T_ z<|hc.at z)<|Rh z H (mv z) ?_
  obtain ⟨xj,ek,hmd⟩:=bdS<|ifF hmb H;have he:=I.g<|(h2.ag B).e s4
  refine RXg z z H z (at_ (α:=e_) U_ m_ z z z he ek) ?_;rintro _ ⟨_,_,_,rfl,hl,hn,_⟩;obtain ⟨_,_,_,_,_,_,_,_,_,_,_,_,rfl,_,_,_,_,_,_,_⟩:=a_m hn;refine Rh z H (fd a_n z)<|Rh z H (l0 g_3 z<|hl.at (j:=1) z)<|Rh z H (nq z z)<|R z (pF z H z)<|Rm z ?_
  rcases bs (xj.kind != 1) with G | G
  ·iterate 8 refine Nh z G ?_
   exact R z (pT z G z)<|Wl (fun _ q=>⟨true,som<|ifT hmd G,q.k<|s3 z z z,s4⟩)
  refine Rh z G (fd R_ z)<|Rh z G (l0 T_ z<|hc.at z)<|Rh z G (mv z) ?_
  obtain ⟨_,em,hmo⟩:=bdS<|ifF hmd G;refine RXg z z G z (at_ (α:=e_) U_ m_ z z z he em) ?_;rintro _ ⟨_,_,_,rfl,hp,hq,_⟩;obtain ⟨_,_,_,_,_,_,_,_,_,_,_,_,rfl,_,_,ht,_,_,_,_⟩:=a_m hq;refine Rh z G (fd a_z z)<|Rh z G (l0 g_3 z<|hp.at (j:=2) z) ?_
  obtain ⟨rr,es,hmu⟩:=bdS hmo;refine Eg z z G z (fc call47 z<|d_A es (zt' V<|lt_ h2.s s4.s) ht (ii z)<|ii z) ?_;rintro _ _ ⟨sv,rfl⟩;exact Rh z G (not_ z)<|R z (pF z G z)<|Wl (fun _ q=>⟨!rr,som hmu,q.k<|s3 z z z,bup s4 sv⟩)
 rintro aw _ ⟨O,rfl,_,s5⟩;revert aw;refine Wo<|Wc z (fun J=>?_) (fun J=>?_)
 ·refine Ws<|Rw z ?_
  obtain rfl:=som<|ifT hma J;exact Wr<|h_ hr z ⟨bup h2 s5,z,ii z⟩
 refine Wk<|Ws<|Rf z R_ z<|R z (l0 T_ z<|(h6.e s5).at z)<|Rm z ?_
 obtain ⟨_,ex,hmy⟩:=bdS<|ifF hma J;refine RX z (at_ (α:=e_) U_ m_ z z z (I.g<|(h2.ag B).e s5) ex) ?_;rintro _ ⟨_,_,_,rfl,hz,a1,_⟩;obtain ⟨_,_,_,_,_,_,_,_,_,_,_,_,rfl,_,_,_,_,_,_,_⟩:=a_m a1;refine Rf z a_z z<|R z (l0 g_3 z<|hz.at (j:=2) z)<|R z (c_m z z) ?_
 obtain ⟨_,a2,a0⟩:=bdS hmy;refine R z (i_d z z<|nnS a2)<|R z (sb_ z z)<|Rw z ?_
 obtain rfl:=som a0;exact Wr<|h_ hr z ⟨bup h2 s5,z,iS _ _⟩
theorem W_w2l {x1:List Str}{x2:Str}{res:Bool}(hm:f_5 x1 x2=some res)(a1:B<=w0.z)(G:repS w0 B (sl A0 N0 C0) x1)(a0:x2.b.length<=LEN):n_ prog 127 [sl A0 N0 C0,Str.v x2] w0 (Q0 w0 B res):=by
 unfold f_5 at hm
 refine goG func127 z z z fun fn hr=>Ws<|Rw z<|Wq<|Wm z<|R z (lnR a_j z G)<|Rm z<|Wn ?_
 obtain ⟨_,V,J⟩:=bdS hm;refine Wf (σ:=Unit) (ρ:=Bool) (fun (k3:Nat)(_:Unit) a w=>Sat 17 [(1,Str.v x2),(7,sl A0 N0 C0),(8,vI (x1.length:Int)),(9,vI ((k3:Nat):Int))] a/\Below w0.z w0 w) (fun (_:Unit) a w=>Sat 17 [] a/\Below w0.z w0 w) (rQ prog fn<|Q0 w0 B) V ?_ ?_ ?_ ?_ ?_
 ·exact fun _ q=>⟨q.k<|s4 z z z z,br w0⟩
 ·rintro k3 _ _ _ _ L ⟨W,I⟩ Y;refine Wu ?_ W;refine Ws<|Rl z z z<|Wn<|Wq<|Wc z (fun _=>?_) (fun hc=>(a_2 L hc).elim)
  refine Wk<|Wq<|Wb<|Ws ?_
  obtain ⟨_,e9,O⟩:=bdS Y;refine RX z (at_ (α:=Str) a_j z_9 z z z (G.e I) e9) ?_;rintro _ ⟨_,_,_,rfl,ha,hb,_⟩;obtain ⟨rfl,_⟩:=b_K hb;refine R z (l0 g_9 z<|ha.at0 z)<|Rw z<|Wm z<|Rm z<|R z (c_P z z)<|Wx z (fun H=>?_) (fun H=>?_)
  ·exact Ws<|Rw z<|Wr<|rtO<|qL (som<|ifT O H).symm<|h_ hr z ⟨I,z⟩
  exact Wk<|Wg<|R z (inc_ L (lt_ (repS.len G) K_) z z)<|Rm z<|Wl (fun _ q=>⟨(),(som<|ifF O H).symm,⟨q.k<|s4 z z z z,I⟩⟩)
 ·rintro _ _ _ ⟨hSc,sd⟩;refine Wu ?_ hSc;refine Ws<|Rl z z z<|Wn<|Wq<|Wc z (fun hc=>(a_3 hc).elim) (fun _=>?_)
  exact We<|fun _ q=>⟨rfl,⟨q.k sn,sd⟩⟩
 ·rintro _ ae _ rfl ⟨_,sf⟩;have hmg:=elL J;revert ae;refine Wo<|Ws<|Rw z ?_
  obtain rfl:=som hmg;exact Wr<|h_ hr z ⟨sf,z⟩
 rintro _ _ _ _ rfl ⟨rfl,hqh⟩;have hmi:=elR J;obtain rfl:=som hmi;exact ⟨hqh,z⟩
theorem W_w2m {x1:e_}{res:Bool}(hm:g_J n x1=some res)(O:B<=w0.z)(Y:x1.name.b.length<=LEN)(a0:inI x1.kind)(a1:inI x1.size)(a2:repS w0 B (sl AB NB CB) x1.bytes)(J:repS w0 B (sl A8 N8 C8) x1.names)(a3:repS w0 B (sl AC NC CC) x1.tags)(W:repS w0 B (sl AD ND CD) x1.kids):n_ prog 106 [(.agg #[Str.v x1.name,vI x1.kind,vI x1.size,vB x1.little,sl AB NB CB,sl A8 N8 C8,sl AC NC CC,sl AD ND CD])] w0 (Q0 w0 B res):=by
 unfold g_J at hm
 refine goG func106 z z z fun fn hr=>Ws<|E z (fb z) ?_
 rintro _ V ⟨rfl,hi⟩;have h1:=hi.below;have ha:Blk V w0.z (vR x1 AB NB CB A8 N8 C8 AC NC CC AD ND CD):=hi.blk;refine Rw z<|Wq<|Wq ?_
 obtain ⟨uy,huz,hmj⟩:=bdS hm;refine Wt (fun a w=>∃(xb:Bool),xb=uy/\Sat 44 [(1,pt w0.z),(23,vB xb)] a/\Below V.z V w) ?_ ?_
 ·refine Wg<|R z (lN (vs:=vR x1 AB NB CB A8 N8 C8 AC NC CC AD ND CD) I_ m_ z z fid<|ha.row 0 8 z) ?_
  obtain ⟨ai,aj,hmk⟩:=bdS huz;refine E z (fc call104 z<|d_c aj (zt' O h1.s) Y a0 a1 (a2.e h1) (J.e h1) (a3.e h1) (W.e h1)<|ii z) ?_;rintro _ _ ⟨s6,rfl⟩;refine R z (not_ z)<|Rm z ?_
  rcases bs (!ai) with G | G
  ·iterate 7 refine Nh z G ?_
   exact R z (pT z G z)<|Rm z<|Nh z z<|Nh z z<|Nh z z<|Nh z z<|Nh z z<|R z (pT z z z)<|Wl (fun _ q=>⟨true,som<|ifT hmk G,q.k<|s2 z z,s6⟩)
  have hml:=ifF hmk G;refine Rh z G (fd J_ z) ?_;have hd:=ha.e s6;refine Rh z G (l0 D_ z<|hd.at z) ?_;have hn:=(h1.ag B).e s6;have he:=W.g hn;refine Rh z G (lnR o_ z he)<|Rh z G (fd c_2 z)<|Rh z G (l0 c_h z<|hd.at z)<|Rh z G (lnR a_j z<|J.g hn)<|Rh z G (nq z z)<|R z (pF z G z)<|Rm z ?_
  rcases bs ((x1.kids.length:Int) != (x1.names.length:Int)) with I | I
  ·iterate 5 refine Nh z I ?_
   exact R z (pT z I z)<|Wl (fun _ q=>⟨true,som<|ifT hml I,q.k<|s2 z z,s6⟩)
  refine Rh z I (fd J_ z)<|Rh z I (l0 D_ z<|hd.at z)<|Rh z I (lnR o_ z he) ?_
  obtain ⟨ak,al,a4⟩:=bdS<|ifF hml I;refine Eg z z I z (fc call47 z<|d_A al (zt' O<|lt_ h1.s s6.s) (a_N<|repS.len he) (ii z)<|ii z) ?_;rintro _ _ ⟨am,rfl⟩;exact Rh z I (not_ z)<|R z (pF z I z)<|Wl (fun _ q=>⟨!ak,som a4,q.k<|s2 z z,bup s6 am⟩)
 rintro an L ⟨xb,rfl,_,s7⟩;revert an;refine Wo<|Wc z (fun hcc=>?_) (fun hcc=>?_)
 ·refine Ws<|Rw z ?_
  obtain rfl:=som<|ifT hmj hcc;exact Wr<|h_ hr z ⟨bup h1 s7,z⟩
 refine Wk<|Wq<|Ws<|Rf z c_2 z ?_
 have ho:=ha.e s7;refine R z (l0 c_h z<|ho.at z) ?_;have hp:=(h1.ag B).e s7;refine R z (lnR a_j z<|J.g hp)<|Rm z<|Wn ?_
 obtain ⟨_,a5,hmm⟩:=bdS<|ifF hmj hcc;refine Wf (σ:=Unit) (ρ:=Bool) (fun (kf:Nat)(_:Unit) a w=>Sat 44 [(1,pt w0.z),(25,sl A8 N8 C8),(26,vI (x1.names.length:Int)),(27,vI ((kf:Nat):Int))] a/\Below L.z L w) (fun (_:Unit) a w=>Sat 44 [] a/\Below L.z L w) (rQ prog fn<|Q0 w0 B) a5 ?_ ?_ ?_ ?_ ?_
 ·exact fun _ q=>⟨q.k<|s4 z z z z,br L⟩
 ·rintro kf _ _ wq _ hkr ⟨a6,s8⟩ a7;refine Wu ?_ a6;refine Ws<|Rl z z z<|Wn<|Wq<|Wc z (fun _=>?_) (fun hc=>(a_2 hkr hc).elim)
  refine Wk<|Wq<|Wb<|Wm z ?_
  obtain ⟨_,ao,a8⟩:=bdS a7;have ht:=hp.e s8;refine RX z (at_ (α:=Str) a_j z_9 z z z (J.g ht) ao) ?_;rintro _ ⟨_,_,_,rfl,ap,aq,_⟩;obtain ⟨rfl,hu⟩:=b_K aq;refine R z (l0 g_9 z<|ap.at0 z)<|Ra z<|Rw z<|Wq ?_
  obtain ⟨ar,a9,hms⟩:=bdS a8;refine Wt (fun a w=>∃(xg:Bool),xg=ar/\Sat 44 [(1,pt w0.z),(25,sl A8 N8 C8),(26,vI (x1.names.length:Int)),(27,vI ((kf:Nat):Int)),(42,vB xg)] a/\Below wq.z wq w) ?_ ?_
  ·refine Wg<|Rm z ?_
   have hv:=lt_ (lt_ h1.s s7.s) s8.s;obtain ⟨au,av,hmw⟩:=bdS a9;refine E z (fc call72 z<|W_w1j av (zt' O hv) hu) ?_;rintro _ _ ⟨s9,rfl⟩;refine R z (not_ z)<|Rm z ?_
   rcases bs (!au) with H | H
   ·iterate 6 refine Nh z H ?_
    exact R z (pT z H z)<|Wl (fun _ q=>⟨true,som<|ifT hmw H,q.k<|s5 z z z z z,s9⟩)
   refine Rh z H (fd c_2 z)<|Rh z H (l0 c_h z<|((ho.e s8).e s9).at z)<|Rh z H (mv z) ?_
   obtain ⟨_,aw,aa⟩:=bdS<|ifF hmw H;refine RXg z z H z (rX a_j z_9 z z (J.g<|ht.e s9) z z aw) ?_;rintro _ ⟨_,_,_,rfl,ax⟩;refine Rh z H (mv z) ?_;obtain ⟨ay,az,ab⟩:=bdS aa;refine Eg z z H z (fc call127 z<|W_w2l az (zt' O<|lt_ hv s9.s) ax hu) ?_;rintro _ _ ⟨aA,rfl⟩;exact R z (pF z H z)<|Wl (fun _ q=>⟨ay,som ab,q.k<|s5 z z z z z,bup s9 aA⟩)
  rintro aB _ ⟨xg,rfl,_,sx⟩;revert aB;refine Wo<|Wc z (fun hch=>?_) (fun hch=>?_)
  ·exact Ws<|Rw z<|Wr<|rtO<|qL (som<|ifT hms hch).symm<|h_ hr z ⟨bup (bup (bup h1 s7) s8) sx,z⟩
  exact Wk<|Wg<|R z (inc_ hkr (lt_ (repS.len J) K_) z z)<|Rm z<|Wl (fun _ q=>⟨(),(som<|ifF hms hch).symm,⟨q.k<|s4 z z z z,bup s8 sx⟩⟩)
 ·rintro _ _ _ ⟨ad,aC⟩;refine Wu ?_ ad;refine Ws<|Rl z z z<|Wn<|Wq<|Wc z (fun hc=>(a_3 hc).elim) (fun _=>?_)
  exact We<|fun _ q=>⟨rfl,⟨q.k sn,aC⟩⟩
 ·rintro _ aD _ rfl ⟨_,aE⟩;have ae:=elL hmm;revert aD;refine Wo<|Ws<|Rw z ?_
  obtain rfl:=som ae;exact Wr<|h_ hr z ⟨bup (bup h1 s7) aE,z⟩
 rintro _ _ _ _ rfl ⟨rfl,af⟩;have ah:=elR hmm;obtain rfl:=som ah;exact ⟨af,z⟩
theorem W_w2n {x1:d_}{x2:e_}{res:Bool}(hm:g_K x1 x2=some res)(O:B<=w0.z)(a4:repS w0 B (sl A0 N0 C0) x1.rules)(a5:x2.name.b.length<=LEN)(a6:inI x2.kind)(a7:inI x2.size)(a8:repS w0 B (sl A2 N2 C2) x2.bytes)(a9:repS w0 B (sl A3 N3 C3) x2.names)(J:repS w0 B (sl A1 N1 C1) x2.tags)(V:repS w0 B (sl A4 N4 C4) x2.kids):n_ prog 107 [(.agg #[sl A0 N0 C0]),(.agg #[Str.v x2.name,vI x2.kind,vI x2.size,vB x2.little,sl A2 N2 C2,sl A3 N3 C3,sl A1 N1 C1,sl A4 N4 C4])] w0 (Q0 w0 B res):=by
 unfold g_K at hm
 refine goG func107 z z z fun fn hr=>Ws<|E z (fb z) ?_
 rintro _ L ⟨rfl,hn⟩;have h4:=hn.below;refine E z (fb z) ?_;rintro _ wg ⟨rfl,ho⟩;have h3:=ho.below;have he:Blk wg L.z (vR x2 A2 N2 C2 A3 N3 C3 A1 N1 C1 A4 N4 C4):=ho.blk;refine Rw z<|Wq<|Wq ?_
 obtain ⟨aq,aa,hmp⟩:=bdS hm;refine Wt (fun a w=>∃(xh:Bool),xh=aq/\Sat 57 [(2,pt w0.z),(3,pt L.z),(21,vB xh)] a/\Below wg.z wg w) ?_ ?_
 ·refine Wg<|R z (lN (vs:=vR x2 A2 N2 C2 A3 N3 C3 A1 N1 C1 A4 N4 C4) I_ m_ z z fid<|he.row 0 8 z)<|Rf z a_S z<|R z (l0 D_ z<|he.at z) ?_
  have h6:=(h4.ag B).e h3;have hq:=J.g h6;refine R z (lnR o_ z hq)<|R z (add_ z z) ?_
  have ht:=lt_ h4.s h3.s;obtain ⟨ar,au,hmr⟩:=bdS aa;refine E z (fc call104 z<|d_c au (zt' O ht) a5 a6 a7 (a8.g h6) (a9.g h6) hq (V.g h6)<|iA _ _) ?_;rintro _ _ ⟨s9,rfl⟩;refine R z (not_ z)<|Rm z ?_
  rcases bs (!ar) with I | I
  ·iterate 5 refine Nh z I ?_
   exact R z (pT z I z)<|Wl (fun _ q=>⟨true,som<|ifT hmr I,q.k<|s3 z z z,s9⟩)
  refine Rh z I (fd a_S z)<|Rh z I (l0 D_ z<|(he.e s9).at z) ?_
  have hu:=J.g<|h6.e s9
  refine Rh z I (lnR o_ z hu) ?_;obtain ⟨av,aw,ab⟩:=bdS<|ifF hmr I;refine Eg z z I z (fc call47 z<|d_A aw (zt' O<|lt_ ht s9.s) (a_N<|repS.len hu) (ii z)<|ii z) ?_;rintro _ _ ⟨ax,rfl⟩;exact Rh z I (not_ z)<|R z (pF z I z)<|Wl (fun _ q=>⟨!av,som ab,q.k<|s3 z z z,bup s9 ax⟩)
 rintro ay _ ⟨xh,rfl,_,s7⟩;revert ay;refine Wo<|Wc z (fun hci=>?_) (fun hci=>?_)
 ·refine Ws<|Rw z ?_
  obtain rfl:=som<|ifT hmp hci;exact Wr<|h_ hr z ⟨bup (bup h4 h3) s7,z⟩
 refine Wk<|Wq (Wd (X:=noX) 0 (pl_ 7 [5]) mo (by kernel_rfl) fun aV s8 _=>dR z z (lN (vs:=[sl A0 N0 C0]) t_ q_ z z fid<|((((hn.blk:Blk L w0.z [sl A0 N0 C0]).e h3).e s7).e s8).row 0 1 z)<|dR z z (fd J_ z) ?_)
 have hv:=(he.e s7).e s8;refine dR z z (l0 D_ z<|hv.at z) ?_;obtain ⟨_,az,ad⟩:=bdS<|ifF hmp hci;have hj:=(((h4.ag B).e h3).e s7).e s8;refine dRX z z (at_ (α:=Int) o_ z_3 z z z (V.g hj) az) ?_;rintro _ ⟨_,_,_,rfl,aA,aB,_⟩;obtain ⟨rfl,aC⟩:=M_ aB;refine dR z z (l0 g_3 z<|aA.at0 z) ?_;have hw:=lt_ (lt_ (lt_ h4.s h3.s) s7.s) s8.s;obtain ⟨rk,aD,ae⟩:=bdS ad;refine dE z z (fc call105 z<|j_m aD (zt' O hw) (a4.g hj) aC) (.inr fun _ _ h=>w_<|h.1) ?_;rintro _ wa ⟨sb,rfl,aE⟩;refine dQ z z z<|pD<|Wo<|Wq<|Ws<|Rf z a_S z ?_
 have hx:=hv.e sb;refine R z (l0 D_ z<|hx.at z) ?_;have hy:=hj.e sb;refine R z (lnR o_ z<|J.g hy)<|Rm z<|Wn ?_
 obtain ⟨_,af,hms⟩:=bdS ae;refine Wf (σ:=Unit) (ρ:=Bool) (fun (kf:Nat)(_:Unit) a w=>Sat 57 [(3,pt L.z),(5,vI rk),(29,sl A1 N1 C1),(30,vI (x2.tags.length:Int)),(31,vI ((kf:Nat):Int))] a/\Below wa.z wa w) (fun (_:Unit) a w=>Sat 57 [(5,vI rk)] a/\Below wa.z wa w) (rQ prog fn<|Q0 w0 B) af ?_ ?_ ?_ ?_ ?_
 ·exact fun _ q=>⟨q.k<|s5 z z z z z,br wa⟩
 ·rintro kf _ _ wz _ W ⟨ah,sc⟩ ai;refine Wu ?_ ah;refine Ws<|Rl z z z<|Wn<|Wq<|Wc z (fun _=>?_) (fun hc=>(a_2 W hc).elim)
  refine Wk<|Wq<|Wb<|Wm z ?_
  obtain ⟨aF,aG,aj⟩:=bdS ai;have a2:=hy.e sc;refine RX z (at_ (α:=Int) o_ z_3 z z z (J.g a2) aG) ?_;rintro _ ⟨_,_,_,rfl,aH,aI,_⟩;obtain ⟨rfl,aJ⟩:=M_ aI;refine R z (l0 g_3 z<|aH.at0 z)<|Ra z<|Rw z<|Wq ?_
  obtain ⟨aK,ak,Y⟩:=bdS aj;refine Wt (fun a w=>∃(xl:Bool),xl=aK/\Sat 57 [(3,pt L.z),(5,vI rk),(29,sl A1 N1 C1),(30,vI (x2.tags.length:Int)),(31,vI ((kf:Nat):Int)),(53,vB xl)] a/\Below wz.z wz w) ?_ ?_
  ·refine Wg<|RM z z ?_
   obtain ⟨aL,aM,a0⟩:=bdS ak;refine E z (fc call47 z<|d_A aM (zt' O<|lt_ (lt_ hw sb.s) sc.s) aJ (ii z) aE) ?_;rintro _ _ ⟨sd,rfl⟩;refine R z (not_ z)<|Rm z ?_
   rcases bs (!aL) with H | H
   ·iterate 3 refine Nh z H ?_
    exact Nv z<|Nv z<|Nv z<|Nv z<|Nv z<|Nv z<|Nv z<|Nv z<|Nh z H<|R z (pT z H z)<|Wl (fun _ q=>⟨true,som<|ifT a0 H,q.k<|s6 z z z z z z,sd⟩)
   have a1:=ifF a0 H;refine Rh z H (mv z)<|Rh z H (a_e z z)<|Rh z H (mv z) ?_
   rcases bs (decide<|0<((kf:Nat):Int)) with G | G
   ·refine Rh z G (fd a_S z)<|Rh z G (l0 D_ z<|((hx.e sc).e sd).at z)<|Rh z G (mv z)<|Rh z G (sb_ z z) ?_
    obtain ⟨aN,aO,al⟩:=bdS<|ifT a1 G;refine RXg z z G z (at_ (α:=Int) o_ z_3 z z z (J.g<|a2.e sd) aO) ?_;rintro _ ⟨_,_,_,rfl,aP,aQ,_⟩;obtain ⟨rfl,_⟩:=M_ aQ;exact Rh z G (l0 g_3 z<|aP.at0 z)<|Rh z G (mv z)<|Rh z G (b_i z z)<|Rh z H (pT z G z)<|R z (pF z H z)<|Wl (fun _ q=>⟨decide<|aF<=aN,som al,q.k<|s6 z z z z z z,sd⟩)
   iterate 8 refine Nh z G ?_
   exact Rh z H (pF z G z)<|R z (pF z H z)<|Wl (fun _ q=>⟨false,som<|ifF a1 G,q.k<|s6 z z z z z z,sd⟩)
  rintro aR _ ⟨xl,rfl,_,a3⟩;revert aR;refine Wo<|Wc z (fun hcm=>?_) (fun hcm=>?_)
  ·exact Ws<|Rw z<|Wr<|rtO<|qL (som<|ifT Y hcm).symm<|h_ hr z ⟨bup (bup (bup (bup (bup (bup h4 h3) s7) s8) sb) sc) a3,z⟩
  exact Wk<|Wg<|R z (inc_ W (lt_ (repS.len J) K_) z z)<|Rm z<|Wl (fun _ q=>⟨(),(som<|ifF Y hcm).symm,⟨q.k<|s5 z z z z z,bup sc a3⟩⟩)
 ·rintro _ _ _ ⟨am,aS⟩;refine Wu ?_ am;refine Ws<|Rl z z z<|Wn<|Wq<|Wc z (fun hc=>(a_3 hc).elim) (fun _=>?_)
  exact We<|fun _ q=>⟨rfl,⟨q.k<|s1 z,aS⟩⟩
 ·rintro _ aT _ rfl ⟨_,aU⟩;have an:=elL hms;revert aT;refine Wo<|Wm z<|R z (a_e z z)<|Rw z ?_
  obtain rfl:=som an;exact Wr<|h_ hr z ⟨bup (bup (bup (bup (bup h4 h3) s7) s8) sb) aU,z⟩
 rintro _ _ _ _ rfl ⟨rfl,ao⟩;have ap:=elR hms;obtain rfl:=som ap;exact ⟨ao,z⟩
theorem W_w2o {x1:d_}{x2:e_}{res:Bool}(hm:g_L n x1 x2=some res)(L:B<=w0.z)(a7:repS w0 B (sl A0 N0 C0) x1.rules)(a3:x2.name.b.length<=LEN)(a4:inI x2.kind)(V:inI x2.size)(W:repS w0 B (sl A2 N2 C2) x2.bytes)(a5:repS w0 B (sl A3 N3 C3) x2.names)(a6:repS w0 B (sl A1 N1 C1) x2.tags)(Y:repS w0 B (sl A4 N4 C4) x2.kids):n_ prog 73 [(.agg #[sl A0 N0 C0]),(.agg #[Str.v x2.name,vI x2.kind,vI x2.size,vB x2.little,sl A2 N2 C2,sl A3 N3 C3,sl A1 N1 C1,sl A4 N4 C4])] w0 (Q0 w0 B res):=by
 unfold g_L at hm
 refine goG func73 z z z fun fn hr=>Ws<|E z (fb z) ?_
 rintro _ ww ⟨rfl,aJ⟩;have h1:=aJ.below;have hx:Blk ww w0.z [sl A0 N0 C0]:=aJ.blk;refine E z (fb z) ?_;rintro _ J ⟨rfl,aK⟩;have G:=aK.below;have h6:Blk J ww.z (vR x2 A2 N2 C2 A3 N3 C3 A1 N1 C1 A4 N4 C4):=aK.blk;refine Rw z<|Wq<|Ws<|Rf z a_n z<|R z (l0 g_3 z<|h6.at z)<|Wn<|Wb<|Ws<|Rq z z z<|Rw z<|Wc z (fun hcy=>?_) (fun hcy=>?_)
 ·refine Wq ?_;obtain ⟨bp,b1,b2⟩:=bdS<|ifT hm hcy;refine Wt (fun a w=>∃(xz:Bool),xz=bp/\Sat 102 [(4,vB xz)] a/\Below J.z J w) ?_ ?_
  ·refine Wg<|R z (lN (vs:=vR x2 A2 N2 C2 A3 N3 C3 A1 N1 C1 A4 N4 C4) I_ m_ z z fid<|h6.row 0 8 z) ?_
   have hq:=(h1.ag B).e G;have aL:=lt_ h1.s G.s;obtain ⟨bq,bt,ap⟩:=bdS b1;refine E z (fc call104 z<|d_c bt (zt' L aL) a3 a4 V (W.g hq) (a5.g hq) (a6.g hq) (Y.g hq)<|ii z) ?_;rintro _ _ ⟨se,rfl⟩;refine Rm z ?_
   rcases bs bq with hca | hca
   ·refine Rh z hca (fd a_z z) ?_;have aM:=h6.e se;refine Rh z hca (l0 g_3 z<|aM.at z) ?_;obtain ⟨bu,bv,aq⟩:=bdS<|ifT ap hca;refine Eg z z hca z (fc call47 z<|d_A bv (zt' L<|lt_ aL se.s) V (ii z)<|ii z) ?_;rintro _ _ ⟨sr,rfl⟩;refine R z (pT z hca z)<|Rm z ?_
    rcases bs bu with O | O
    ·have ar:=ifT aq O;refine Rh z O (fd c_L z) ?_;have aN:=aM.e sr;refine Rh z O (l0 g_4 z<|aN.at z)<|Rh z O (not_ z)<|Rh z O (mv z) ?_
     rcases bs (!x2.little) with hcb | hcb
     ·iterate 3 refine Nh z hcb ?_
      exact Rh z O (pT z hcb z)<|R z (pT z O z)<|Ra z<|Wl (fun _ q=>⟨true,som<|ifT ar hcb,q.k<|s1 z,bup se sr⟩)
     exact Rh z hcb (fd a_z z)<|Rh z hcb (l0 g_3 z<|aN.at z)<|Rh z hcb (a_e z z)<|Rh z O (pF z hcb z)<|R z (pT z O z)<|Ra z<|Wl (fun _ q=>⟨decide<|1<x2.size,som<|ifF ar hcb,q.k<|s1 z,bup se sr⟩)
    iterate 4 refine Nh z O ?_
    exact Nv z<|Nv z<|Nv z<|Nh z O<|R z (pF z O z)<|Ra z<|Wl (fun _ q=>⟨false,som<|ifF aq O,q.k<|s1 z,bup se sr⟩)
   iterate 3 refine Nh z hca ?_
   exact R z (pF z hca z)<|Rm z<|Nh z z<|Nh z z<|Nh z z<|Nh z z<|Nv z<|Nv z<|Nv z<|Nh z z<|R z (pF z z z)<|Ra z<|Wl (fun _ q=>⟨false,som<|ifF ap hca,q.k<|s1 z,se⟩)
  rintro bw _ ⟨xz,rfl,_,bx⟩;revert bw;refine Wo ?_;obtain rfl:=som b2;exact Wr<|rtO<|h_ hr z ⟨bup (bup h1 G) bx,z⟩
 have au:=ifF hm hcy;refine Ws<|Rq z z z<|Rw z<|Wc z (fun a8=>?_) (fun a8=>?_)
 ·refine Wq ?_;obtain ⟨bz,b3,b4⟩:=bdS<|ifT au a8;refine Wt (fun a w=>∃(aj:Bool),aj=bz/\Sat 102 [(4,vB aj)] a/\Below J.z J w) ?_ ?_
  ·refine Wg<|R z (lN (vs:=vR x2 A2 N2 C2 A3 N3 C3 A1 N1 C1 A4 N4 C4) I_ m_ z z fid<|h6.row 0 8 z) ?_
   have hj:=(h1.ag B).e G;have aO:=lt_ h1.s G.s;obtain ⟨bA,bB,av⟩:=bdS b3;refine E z (fc call104 z<|d_c bB (zt' L aO) a3 a4 V (W.g hj) (a5.g hj) (a6.g hj) (Y.g hj)<|ii z) ?_;rintro _ _ ⟨sk,rfl⟩;refine Rm z ?_
   rcases bs bA with a1 | a1
   ·refine Rh z a1 (fd a_R z)<|Rh z a1 (l0 P_ z<|(h6.e sk).at z) ?_
    have aP:=W.g<|hj.e sk
    refine Rh z a1 (lnR p_ z aP) ?_;obtain ⟨bC,bD,b5⟩:=bdS<|ifT av a1;refine Eg z z a1 z (fc call47 z<|d_A bD (zt' L<|lt_ aO sk.s) (a_N<|repS.len aP) (ii z)<|ii z) ?_;rintro _ _ ⟨bE,rfl⟩;exact R z (pT z a1 z)<|Ra z<|Wl (fun _ q=>⟨bC,som b5,q.k<|s1 z,bup sk bE⟩)
   iterate 4 refine Nh z a1 ?_
   exact R z (pF z a1 z)<|Ra z<|Wl (fun _ q=>⟨false,som<|ifF av a1,q.k<|s1 z,sk⟩)
  rintro bF _ ⟨aj,rfl,_,bG⟩;revert bF;refine Wo ?_;obtain rfl:=som b4;exact Wr<|rtO<|h_ hr z ⟨bup (bup h1 G) bG,z⟩
 have aw:=ifF au a8;refine Ws<|Rq z z z<|Rw z<|Wc z (fun a9=>?_) (fun a9=>?_)
 ·refine Wq ?_;obtain ⟨bH,b6,b7⟩:=bdS<|ifT aw a9;refine Wt (fun a w=>∃(ak:Bool),ak=bH/\Sat 102 [(4,vB ak)] a/\Below J.z J w) ?_ ?_
  ·refine Wg<|R z (lN (vs:=vR x2 A2 N2 C2 A3 N3 C3 A1 N1 C1 A4 N4 C4) I_ m_ z z fid<|h6.row 0 8 z) ?_
   have ht:=(h1.ag B).e G;have aQ:=lt_ h1.s G.s;obtain ⟨bI,bJ,ax⟩:=bdS b6;refine E z (fc call104 z<|d_c bJ (zt' L aQ) a3 a4 V (W.g ht) (a5.g ht) (a6.g ht) (Y.g ht)<|ii z) ?_;rintro _ _ ⟨ss,rfl⟩;refine Rm z ?_
   rcases bs bI with hcc | hcc
   ·refine Rh z hcc (fd a_z z)<|Rh z hcc (l0 g_3 z<|(h6.e ss).at z) ?_
    obtain ⟨bK,bL,b8⟩:=bdS<|ifT ax hcc;refine Eg z z hcc z (fc call47 z<|d_A bL (zt' L<|lt_ aQ ss.s) V (ii z)<|ii z) ?_;rintro _ _ ⟨bM,rfl⟩;exact R z (pT z hcc z)<|Ra z<|Wl (fun _ q=>⟨bK,som b8,q.k<|s1 z,bup ss bM⟩)
   iterate 3 refine Nh z hcc ?_
   exact R z (pF z hcc z)<|Ra z<|Wl (fun _ q=>⟨false,som<|ifF ax hcc,q.k<|s1 z,ss⟩)
  rintro bN _ ⟨ak,rfl,_,bO⟩;revert bN;refine Wo ?_;obtain rfl:=som b7;exact Wr<|rtO<|h_ hr z ⟨bup (bup h1 G) bO,z⟩
 have ay:=ifF aw a9;refine Ws<|Rq z z z<|Rw z<|Wc z (fun aa=>?_) (fun aa=>?_)
 ·refine Wq ?_;obtain ⟨bP,b9,ba⟩:=bdS<|ifT ay aa;refine Wt (fun a w=>∃(al:Bool),al=bP/\Sat 102 [(4,vB al)] a/\Below J.z J w) ?_ ?_
  ·refine Wd (X:=noX) 0 (pl_ 12 [1,8]) mo (by kernel_rfl) fun cv sf _=>?_
   have aR:=h6.e sf;refine dR z z (lN (vs:=vR x2 A2 N2 C2 A3 N3 C3 A1 N1 C1 A4 N4 C4) I_ m_ z z fid<|aR.row 0 8 z) ?_;have hl:=((h1.ag B).e G).e sf;have aS:=lt_ (lt_ h1.s G.s) sf.s;obtain ⟨bQ,bR,az⟩:=bdS b9;refine dE z z (fc call104 z<|d_c bR (zt' L aS) a3 a4 V (W.g hl) (a5.g hl) (a6.g hl) (Y.g hl)<|ii z) (.inr fun _ _ h=>w_<|h.1) ?_;rintro _ _ ⟨sg,rfl⟩;refine dM z z z ?_
   rcases bs bQ with H | H
   ·refine dRg z z z H z (lN (vs:=[sl A0 N0 C0]) t_ q_ z z fid<|(((hx.e G).e sf).e sg).row 0 1 z)<|dRg z z z H z (fd J_ z)<|dRg z z z H z (l0 D_ z<|(aR.e sg).at z) ?_
    obtain ⟨_,bS,bb⟩:=bdS<|ifT az H;have aT:=hl.e sg;refine b_L z z z H z (at_ (α:=Int) o_ z_3 z z z (Y.g aT) bS) ?_;rintro _ ⟨_,_,_,rfl,bT,bU,_⟩;obtain ⟨rfl,bV⟩:=M_ bU;refine dRg z z z H z (l0 g_3 z<|bT.at0 z) ?_;obtain ⟨bW,bX,bc⟩:=bdS bb;refine dEg z z z H z (fc call105 z<|j_m bX (zt' L<|lt_ aS sg.s) (a7.g aT) bV) (.inr fun _ _ h=>w_<|h.1) ?_;rintro _ _ ⟨bY,rfl,_⟩;exact dRg z z z H z (a_e z z)<|dR z z (pT z H z)<|dQ z z z<|pD (fun _ q=>⟨decide<|0<bW,som bc,q.k<|s1 z,bup (bup sf sg) bY⟩)
   iterate 5 refine dRn z z z H z ?_
   exact dEn z z z H z<|dRn z z z H z<|dR z z (pF z H z)<|dQ z z z<|pD (fun _ q=>⟨false,som<|ifF az H,q.k<|s1 z,bup sf sg⟩)
  rintro bZ _ ⟨al,rfl,_,c0⟩;revert bZ;refine Wo ?_;obtain rfl:=som ba;exact Wr<|rtO<|h_ hr z ⟨bup (bup h1 G) c0,z⟩
 have aA:=ifF ay aa;refine Ws<|Rq z z z<|Rw z<|Wc z (fun ab=>?_) (fun ab=>?_)
 ·refine Wq ?_;obtain ⟨c1,be,bf⟩:=bdS<|ifT aA ab;refine Wt (fun a w=>∃(am:Bool),am=c1/\Sat 102 [(4,vB am)] a/\Below J.z J w) ?_ ?_
  ·refine Wd (X:=noX) 0 (pl_ 12 [1,8]) mo (by kernel_rfl) fun cw sh _=>?_
   have aU:=h6.e sh;refine dR z z (lN (vs:=vR x2 A2 N2 C2 A3 N3 C3 A1 N1 C1 A4 N4 C4) I_ m_ z z fid<|aU.row 0 8 z) ?_;have hn:=((h1.ag B).e G).e sh;have aV:=lt_ (lt_ h1.s G.s) sh.s;obtain ⟨c2,c3,aB⟩:=bdS be;refine dE z z (fc call104 z<|d_c c3 (zt' L aV) a3 a4 V (W.g hn) (a5.g hn) (a6.g hn) (Y.g hn)<|ii z) (.inr fun _ _ h=>w_<|h.1) ?_;rintro _ _ ⟨si,rfl⟩;refine dM z z z ?_
   rcases bs c2 with I | I
   ·refine dRg z z z I z (lN (vs:=[sl A0 N0 C0]) t_ q_ z z fid<|(((hx.e G).e sh).e si).row 0 1 z)<|dRg z z z I z (fd J_ z)<|dRg z z z I z (l0 D_ z<|(aU.e si).at z) ?_
    obtain ⟨_,c4,bg⟩:=bdS<|ifT aB I;have aW:=hn.e si;refine b_L z z z I z (at_ (α:=Int) o_ z_3 z z z (Y.g aW) c4) ?_;rintro _ ⟨_,_,_,rfl,c5,c6,_⟩;obtain ⟨rfl,c7⟩:=M_ c6;refine dRg z z z I z (l0 g_3 z<|c5.at0 z) ?_;obtain ⟨c8,c9,bh⟩:=bdS bg;refine dEg z z z I z (fc call105 z<|j_m c9 (zt' L<|lt_ aV si.s) (a7.g aW) c7) (.inr fun _ _ h=>w_<|h.1) ?_;rintro _ _ ⟨ca,rfl,_⟩;exact dRg z z z I z (a_e z z)<|dR z z (pT z I z)<|dQ z z z<|pD (fun _ q=>⟨decide<|0<c8,som bh,q.k<|s1 z,bup (bup sh si) ca⟩)
   iterate 5 refine dRn z z z I z ?_
   exact dEn z z z I z<|dRn z z z I z<|dR z z (pF z I z)<|dQ z z z<|pD (fun _ q=>⟨false,som<|ifF aB I,q.k<|s1 z,bup sh si⟩)
  rintro cb _ ⟨am,rfl,_,cc⟩;revert cb;refine Wo ?_;obtain rfl:=som bf;exact Wr<|rtO<|h_ hr z ⟨bup (bup h1 G) cc,z⟩
 have aC:=ifF aA ab;refine Ws<|Rq z z z<|Rw z<|Wc z (fun ad=>?_) (fun ad=>?_)
 ·refine Ws<|R z (lN (vs:=vR x2 A2 N2 C2 A3 N3 C3 A1 N1 C1 A4 N4 C4) I_ m_ z z fid<|h6.row 0 8 z) ?_
  have hu:=(h1.ag B).e G;obtain ⟨_,cd,bi⟩:=bdS<|ifT aC ad;refine E z (fc call106 z<|W_w2m cd (zt' L<|lt_ h1.s G.s) a3 a4 V (W.g hu) (a5.g hu) (a6.g hu)<|Y.g hu) ?_;rintro _ _ ⟨ce,rfl⟩;refine Rw z ?_
  obtain rfl:=som bi;exact Wr<|rtO<|h_ hr z ⟨bup (bup h1 G) ce,z⟩
 have aD:=ifF aC ad;refine Ws<|Rq z z z<|Rw z<|Wc z (fun ae=>?_) (fun ae=>?_)
 ·refine Ws<|R z (lN (vs:=[sl A0 N0 C0]) t_ q_ z z fid<|(hx.e G).row 0 1 z)<|R z (lN (vs:=vR x2 A2 N2 C2 A3 N3 C3 A1 N1 C1 A4 N4 C4) I_ m_ z z fid<|h6.row 0 8 z) ?_
  have ho:=(h1.ag B).e G;obtain ⟨_,cf,bj⟩:=bdS<|ifT aD ae;refine E z (fc call107 z<|W_w2n cf (zt' L<|lt_ h1.s G.s) (a7.g ho) a3 a4 V (W.g ho) (a5.g ho) (a6.g ho)<|Y.g ho) ?_;rintro _ _ ⟨cg,rfl⟩;refine Rw z ?_
  obtain rfl:=som bj;exact Wr<|rtO<|h_ hr z ⟨bup (bup h1 G) cg,z⟩
 refine Wq<|Ws<|Rq z z z<|Rw z ?_
 obtain ⟨ch,aE,aF⟩:=bdS<|ifF aD ae;refine Wt (fun a w=>∃(an:Bool),an=ch/\Sat 102 [(3,pt ww.z),(6,vI x2.kind),(80,vB an)] a/\Below J.z J w) ?_ ?_
 ·refine Wc z (fun af=>?_)<|fun af=>?_
  ·exact a_7<|fun _ q=>⟨x2.kind==8,som<|ifT aE af,q.k<|s3 z z z,br J⟩
  exact Wg<|Rq z z z<|Ra z<|Wl (fun _ q=>⟨x2.kind==9,som<|ifF aE af,q.k<|s3 z z z,br J⟩)
 rintro ci aX ⟨an,rfl,_,sd⟩;revert ci;refine Wo<|Wc z (fun ah=>?_) (fun ah=>?_)
 ·refine Ws<|R z (lN (vs:=vR x2 A2 N2 C2 A3 N3 C3 A1 N1 C1 A4 N4 C4) I_ m_ z z fid<|(h6.e sd).row 0 8 z) ?_
  have hv:=((h1.ag B).e G).e sd;obtain ⟨_,cj,bk⟩:=bdS<|ifT aF ah;refine E z (fc call104 z<|d_c cj (zt' L<|lt_ (lt_ h1.s G.s) sd.s) a3 a4 V (W.g hv) (a5.g hv) (a6.g hv) (Y.g hv)<|ii z) ?_;rintro _ _ ⟨ck,rfl⟩;refine Rw z ?_
  obtain rfl:=som bk;exact Wr<|rtO<|h_ hr z ⟨bup (bup (bup h1 G) sd) ck,z⟩
 have aG:=ifF aF ah;refine Ws<|Rq z z z<|Rw z<|Wc z (fun ai=>?_) (fun ai=>?_)
 ·refine Wq ?_;obtain ⟨cl,bm,bn⟩:=bdS<|ifT aG ai;refine Wt (fun a w=>∃(ao:Bool),ao=cl/\Sat 102 [(4,vB ao)] a/\Below aX.z aX w) ?_ ?_
  ·refine Wg ?_;have aY:=h6.e sd;refine R z (lN (vs:=vR x2 A2 N2 C2 A3 N3 C3 A1 N1 C1 A4 N4 C4) I_ m_ z z fid<|aY.row 0 8 z) ?_;have hp:=((h1.ag B).e G).e sd;obtain ⟨cm,cn,aH⟩:=bdS bm;refine E z (fc call104 z<|d_c cn (zt' L<|lt_ (lt_ h1.s G.s) sd.s) a3 a4 V (W.g hp) (a5.g hp) (a6.g hp) (Y.g hp)<|ii z) ?_;rintro _ _ ⟨sm,rfl⟩;refine Rm z ?_
   rcases bs cm with a2 | a2
   ·have aI:=ifT aH a2;refine Rh z a2 (fd a_R z) ?_;have aZ:=aY.e sm;refine Rh z a2 (l0 P_ z<|aZ.at z) ?_;have b0:=W.g<|hp.e sm
    refine Rh z a2 (lnR p_ z b0)<|Rh z a2 (eql z z)<|R z (pT z a2 z)<|Rm z ?_
    rcases bs ((x2.bytes.length:Int)==1) with a0 | a0
    ·refine Rh z a0 (fd a_R z)<|Rh z a0 (l0 P_ z<|aZ.at z) ?_
     obtain ⟨co,cp,bo⟩:=bdS<|ifT aI a0;refine RXg z z a0 z (at_ (α:=UInt8) p_ z_5 z z z b0 cp) ?_;rintro _ ⟨_,_,_,rfl,cq,cr,_⟩;obtain rfl:=u8 cr;exact Rh z a0 (l0 g_5 z<|cq.at0 z)<|Rh z a0 (nq z z)<|R z (pT z a0 z)<|Ra z<|Wl (fun _ q=>⟨(byteI co) != (byteI (92:UInt8)),som bo,q.k<|s1 z,sm⟩)
    iterate 5 refine Nh z a0 ?_
    exact R z (pF z a0 z)<|Ra z<|Wl (fun _ q=>⟨false,som<|ifF aI a0,q.k<|s1 z,sm⟩)
   iterate 4 refine Nh z a2 ?_
   exact R z (pF z a2 z)<|Rm z<|Nh z z<|Nh z z<|Nh z z<|Nh z z<|Nh z z<|R z (pF z z z)<|Ra z<|Wl (fun _ q=>⟨false,som<|ifF aH a2,q.k<|s1 z,sm⟩)
  rintro ct _ ⟨ao,rfl,_,cu⟩;revert ct;refine Wo ?_;obtain rfl:=som bn;exact Wr<|rtO<|h_ hr z ⟨bup (bup (bup h1 G) sd) cu,z⟩
 refine Wk<|Ws<|Rw z ?_
 obtain rfl:=som<|ifF aG ai;exact Wr<|h_ hr z ⟨bup (bup h1 G) sd,z⟩
theorem W_w2p {x1:d_}{x2:Int}{res:Bool}(hm:g_M n x1 x2=some res)(V:B<=w0.z)(O:repS w0 B (sl A0 N0 C0) x1.rules)(aU:inI x2):n_ prog 48 [(.agg #[sl A0 N0 C0]),vI x2] w0 (Q0 w0 B res):=by
 unfold g_M at hm
 refine goG func48 z z z fun fn hr=>Ws<|E z (fb z) ?_
 rintro _ bf ⟨rfl,am⟩;have h2:=am.below;have ho:Blk bf w0.z [sl A0 N0 C0]:=am.blk;refine Rw z<|Wq<|Ws<|R z (lN (vs:=[sl A0 N0 C0]) t_ q_ z z fid<|ho.row 0 1 z)<|Rm z ?_
 obtain ⟨_,bg,a8⟩:=bdS hm;refine E z (fc call71 z<|j_l bg (zt' V h2.s) (O.e h2) aU) ?_;rintro _ J ⟨s5,rfl⟩;refine R z (not_ z)<|Wx z (fun hcp=>?_) (fun hcp=>?_)
 ·refine Ws<|Rw z ?_
  obtain rfl:=som<|ifT a8 hcp;exact Wr<|h_ hr z ⟨bup h2 s5,z⟩
 refine Wk<|Ws<|Rf z R_ z ?_
 have an:=ho.e s5;refine R z (l0 T_ z<|an.at z)<|Rm z ?_
 obtain ⟨L,bh,aV⟩:=bdS<|ifF a8 hcp;have ao:=(h2.ag B).e s5;refine RX z (at_ (α:=e_) U_ m_ z z z (O.g ao) bh) ?_;rintro _ ⟨_,_,_,rfl,bi,bj,_⟩;obtain ⟨aq,nr,cs,au,nt,cv,aw,nx,cy,ae,nf,cg,rfl,ap,bk,bm,bn,bo,bp,hj⟩:=a_m bj;refine R z (lN (vs:=vR L aq nr cs au nt cv aw nx cy ae nf cg) I_ m_ z z fid bi)<|E z (fa b_g) ?_
 rintro _ bq ⟨rfl,ar⟩;have h4:=ar.below;have av:Blk bq J.z [(Str.v (⟨[]⟩:Str)),vI 0,vI 0,vB false,sl none 0 0,sl none 0 0,sl none 0 0,sl none 0 0]:=ar.blk;refine E0 (fs0 (cur':=vR L aq nr cs au nt cv aw nx cy ae nf cg) m_ z z av z z z z) ?_;rintro _ ax ⟨hk,bt⟩;have h3:=bt.one;refine Wn<|Wq<|Wq ?_
 obtain ⟨bu,aW,a9⟩:=bdS aV;refine Wt (fun a w=>∃(xz:Bool),xz=bu/\Sat 65 [(1,vI x2),(2,pt w0.z),(5,pt J.z),(31,vB xz)] a/\Below ax.z ax w) ?_ ?_
 ·refine Wg<|Rf z c_K z<|R z (l0 g_9 z<|hk.at z) ?_
  obtain ⟨bv,bw,aa⟩:=bdS aW;refine E z (fc call72 z<|W_w1j bw (zt' V<|lt_ (lt_ (lt_ h2.s s5.s) h4.s) h3.s) ap) ?_;rintro _ _ ⟨sm,rfl⟩;refine R z (not_ z)<|Rm z ?_
  rcases bs (!bv) with G | G
  ·iterate 3 refine Nh z G ?_
   exact Nv z<|Nv z<|Nv z<|Nh z G<|R z (pT z G z)<|Wl (fun _ q=>⟨true,som<|ifT aa G,q.k<|s4 z z z z,sm⟩)
  have ab:=ifF aa G;refine Rh z G (fd c_L z) ?_;have ay:=hk.e sm;refine Rh z G (l0 g_4 z<|ay.at z)<|Rh z G (mv z) ?_
  rcases bs L.little with H | H
  ·exact Rh z H (fd a_n z)<|Rh z H (l0 g_3 z<|ay.at z)<|Rh z H (nq z z)<|Rh z G (pT z H z)<|R z (pF z G z)<|Wl (fun _ q=>⟨L.kind != 1,som<|ifT ab H,q.k<|s4 z z z z,sm⟩)
  iterate 3 refine Nh z H ?_
  exact Rh z G (pF z H z)<|R z (pF z G z)<|Wl (fun _ q=>⟨false,som<|ifF ab H,q.k<|s4 z z z z,sm⟩)
 rintro bx wh ⟨xz,rfl,_,s1⟩;revert bx;refine Wo<|Wc z (fun W=>?_) (fun W=>?_)
 ·refine Ws<|Rw z ?_
  obtain rfl:=som<|ifT a9 W;exact Wr<|h_ hr z ⟨bup (bM (bup (bup h2 s5) h4) h3<|m1<|lt_ h2.s s5.s) s1,z⟩
 refine Wk<|Wq<|Ws<|Rf z R_ z ?_
 have az:=((an.e h4).c h3<|djs<|mm1 ho.lt s5.s).e s1;refine R z (l0 T_ z<|az.at z)<|Rm z ?_
 obtain ⟨bz,bA,aX⟩:=bdS<|ifF a9 W;have hd:=lt_ h2.s s5.s;have aA:∀k∈[J.z],¬B k:=or0 (c_ lr)<|k_<|zt' V hd;have aB:=((ao.e h4).c h3<|b_ aA).e s1;refine RX z (rX U_ m_ z z (O.g aB) z z bA) ?_;rintro _ ⟨bB,bC,bD,rfl,a1⟩;refine R z (lnR U_ z a1)<|Rm z<|Wn ?_
 obtain ⟨_,aY,ad⟩:=bdS aX;refine Wf (σ:=Unit) (ρ:=Bool) (fun (aC:Nat)(_:Unit) a w=>Sat 65 [(1,vI x2),(2,pt w0.z),(5,pt J.z),(35,sl bB bC bD),(36,vI (bz.length:Int)),(37,vI ((aC:Nat):Int))] a/\Below wh.z wh w) (fun (_:Unit) a w=>Sat 65 [(1,vI x2),(2,pt w0.z),(5,pt J.z)] a/\Below wh.z wh w) (rQ prog fn<|Q0 w0 B) aY ?_ ?_ ?_ ?_ ?_
 ·exact fun _ q=>⟨q.k<|s6 z z z z z z,br wh⟩
 ·rintro aC _ _ bE _ af ⟨aZ,sa⟩ b0;refine Wu ?_ aZ;refine Ws<|Rl z z z<|Wn<|Wq<|Wc z (fun _=>?_) (fun hc=>(a_2 af hc).elim)
  refine Wk<|Wq<|Wb<|Ws ?_
  obtain ⟨aD,bF,ah⟩:=bdS b0;refine RX z (at_ (α:=e_) U_ m_ z z z (a1.e sa) bF) ?_;rintro _ ⟨_,_,_,rfl,bG,bH,_⟩;obtain ⟨aE,aF,aG,aH,aI,aJ,aK,aL,aM,aN,aO,aP,rfl,_,_,_,_,_,_,_⟩:=a_m bH;refine R z (lN (vs:=vR aD aE aF aG aH aI aJ aK aL aM aN aO aP) I_ m_ z z fid bG)<|E z (fa b_g) ?_
  rintro _ bI ⟨rfl,aQ⟩;have a2:=aQ.below;refine E0 (fs0 (cur':=vR aD aE aF aG aH aI aJ aK aL aM aN aO aP) m_ z z (aQ.blk:Blk bI bE.z [(Str.v (⟨[]⟩:Str)),vI 0,vI 0,vB false,sl none 0 0,sl none 0 0,sl none 0 0,sl none 0 0]) z z z z) ?_;rintro _ _ ⟨bJ,bK⟩;have a3:=bK.one;refine Wn<|Ws<|Rf z c_K z<|R z (l0 g_9 z<|bJ.at z)<|Rf z c_K z<|R z (l0 g_9 z<|((((hk.e s1).e sa).e a2).c a3<|djs<|mm1 av.lt<|lt_ (lt_ h3.s s1.s) sa.s).at z)<|R z (c_P z z)<|Wx z (fun Y=>?_) (fun Y=>?_)
  ·exact Ws<|Rw z<|Wr<|rtO<|qL (som<|ifT ah Y).symm<|h_ hr z ⟨bM (bup (bup (bup (bM (bup (bup h2 s5) h4) h3<|m1 hd) s1) sa) a2) a3<|m1<|lt_ (lt_ (lt_ (lt_ hd h4.s) h3.s) s1.s) sa.s,z⟩
  exact Wk<|Wg<|R z (inc_ af (lt_ (repS.len a1) K_) z z)<|Rm z<|Wl (fun _ q=>⟨(),(som<|ifF ah Y).symm,⟨q.k<|s6 z z z z z z,bM (bup sa a2) a3<|m1 sa.s⟩⟩)
 ·rintro _ _ _ ⟨b1,bL⟩;refine Wu ?_ b1;refine Ws<|Rl z z z<|Wn<|Wq<|Wc z (fun hc=>(a_3 hc).elim) (fun _=>?_)
  exact We<|fun _ q=>⟨rfl,⟨q.k<|s3 z z z,bL⟩⟩
 ·rintro _ bN wi rfl ⟨_,sb⟩;have b2:=elL ad;revert bN;refine Wo<|Wq<|Ws<|Rf z J_ z ?_
  have aR:=(hk.e s1).e sb;refine R z (l0 D_ z<|aR.at z) ?_;have a4:=(((h4.ag B).c h3<|b_ aA).e s1).e sb;refine R z (lnR o_ z<|hj.g a4)<|Rm z<|Wn ?_
  obtain ⟨_,b3,ai⟩:=bdS b2;refine Wf (σ:=Unit) (ρ:=Bool) (fun (a5:Nat)(_:Unit) a w=>Sat 65 [(1,vI x2),(2,pt w0.z),(5,pt J.z),(48,sl ae nf cg),(49,vI (L.kids.length:Int)),(50,vI ((a5:Nat):Int))] a/\Below wi.z wi w) (fun (_:Unit) a w=>Sat 65 [(2,pt w0.z),(5,pt J.z)] a/\Below wi.z wi w) (rQ prog fn<|Q0 w0 B) b3 ?_ ?_ ?_ ?_ ?_
  ·exact fun _ q=>⟨q.k<|s6 z z z z z z,br wi⟩
  ·rintro a5 _ _ wl _ aj ⟨b4,a6⟩ b5;refine Wu ?_ b4;refine Ws<|Rl z z z<|Wn<|Wq<|Wc z (fun _=>?_) (fun hc=>(a_2 aj hc).elim)
   refine Wk<|Wq<|Wb<|Ws ?_
   obtain ⟨aS,bO,b6⟩:=bdS b5;refine RX z (at_ (α:=Int) o_ z_3 z z z (hj.g<|a4.e a6) bO) ?_;rintro _ ⟨_,_,_,rfl,bP,bQ,_⟩;obtain ⟨rfl,_⟩:=M_ bQ;refine R z (l0 g_3 z<|bP.at0 z)<|Rw z<|Wq ?_
   obtain ⟨bR,ak,al⟩:=bdS b6;refine Wt (fun a w=>∃(a7:Bool),a7=bR/\Sat 65 [(1,vI x2),(2,pt w0.z),(5,pt J.z),(48,sl ae nf cg),(49,vI (L.kids.length:Int)),(50,vI ((a5:Nat):Int)),(60,vB a7)] a/\Below wl.z wl w) ?_ ?_
   ·refine Wg<|Rm z<|Rl z z z<|Rm z ?_
    rcases bs (decide<|aS<0) with I | I
    ·iterate 3 refine Nh z I ?_
     exact R z (pT z I z)<|Wl (fun _ q=>⟨true,som<|ifT ak I,q.k<|s7 z z z z z z z,br wl⟩)
    exact Rh z I (mv z)<|Rh z I (mv z)<|Rh z I (b_i z z)<|R z (pF z I z)<|Wl (fun _ q=>⟨decide<|x2<=aS,som<|ifF ak I,q.k<|s7 z z z z z z z,br wl⟩)
   rintro bS _ ⟨a7,rfl,_,aT⟩;revert bS;refine Wo<|Wc z (fun a0=>?_) (fun a0=>?_)
   ·exact Ws<|Rw z<|Wr<|rtO<|qL (som<|ifT al a0).symm<|h_ hr z ⟨bup (bup (bup (bup (bM (bup (bup h2 s5) h4) h3<|m1 hd) s1) sb) a6) aT,z⟩
   exact Wk<|Wg<|R z (inc_ aj (lt_ (repS.len hj) K_) z z)<|Rm z<|Wl (fun _ q=>⟨(),(som<|ifF al a0).symm,⟨q.k<|s6 z z z z z z,bup a6 aT⟩⟩)
  ·rintro _ _ _ ⟨b7,bT⟩;refine Wu ?_ b7;refine Ws<|Rl z z z<|Wn<|Wq<|Wc z (fun hc=>(a_3 hc).elim) (fun _=>?_)
   exact We<|fun _ q=>⟨rfl,⟨q.k<|s2 z z,bT⟩⟩
  ·rintro _ bU _ rfl ⟨_,sc⟩;have b8:=elL ai;revert bU;refine Wo<|Ws<|R z (lN (vs:=[sl A0 N0 C0]) t_ q_ z z fid<|((az.e sb).e sc).row 0 1 z)<|R z (lN (vs:=vR L aq nr cs au nt cv aw nx cy ae nf cg) I_ m_ z z fid<|(aR.e sc).row 0 8 z) ?_
   have hn:=a4.e sc;obtain ⟨_,bV,b9⟩:=bdS b8;refine E z (fc call73 z<|W_w2o bV (zt' V<|lt_ (lt_ (lt_ (lt_ (lt_ hd h4.s) h3.s) s1.s) sb.s) sc.s) (O.g<|(aB.e sb).e sc) ap bk bm (bn.g hn) (bo.g hn) (bp.g hn)<|hj.g hn) ?_;rintro _ _ ⟨bW,rfl⟩;refine Rw z ?_
   obtain rfl:=som b9;exact Wr<|h_ hr z ⟨bup (bup (bup (bup (bM (bup (bup h2 s5) h4) h3<|m1 hd) s1) sb) sc) bW,z⟩
  rintro _ _ _ _ rfl ⟨rfl,ba⟩;have bb:=elR ai;obtain rfl:=som bb;exact ⟨ba,z⟩
 rintro _ _ _ _ rfl ⟨rfl,bc⟩;have be:=elR ad;obtain rfl:=som be;exact ⟨bc,z⟩
theorem j_n {x1:d_}{res:Bool}(hm:e_q n x1=some res)(V:B<=w0.z)(H:repS w0 B (sl A0 N0 C0) x1.rules):n_ prog 21 [(.agg #[sl A0 N0 C0])] w0 (Q0 w0 B res):=by
 unfold e_q at hm
 refine goG func21 z z z fun fn hr=>Ws<|E z (fb z) ?_
 rintro _ wh ⟨rfl,W⟩;have G:=W.below;have Y:Blk wh w0.z [sl A0 N0 C0]:=W.blk;refine Rw z<|Wq<|Ws<|Rf z R_ z<|R z (l0 T_ z<|Y.at z) ?_
 have h9:=H.e G;refine R z (lnR U_ z h9) ?_;obtain ⟨_,ei,hma⟩:=bdS hm;refine E z (fc call47 z<|d_A ei (zt' V G.s) (a_N<|repS.len h9) (ii z)<|ii z) ?_;rintro _ I ⟨s1,rfl⟩;refine R z (not_ z)<|Wx z (fun J=>?_) (fun J=>?_)
 ·refine Ws<|Rw z ?_
  obtain rfl:=som<|ifT hma J;exact Wr<|h_ hr z ⟨bup G s1,z⟩
 refine Wk<|Wq<|Ws<|Rf z R_ z ?_
 have hb:=Y.e s1;refine R z (l0 T_ z<|hb.at z) ?_;have hd:=(G.ag B).e s1;refine R z (lnR U_ z<|H.g hd)<|Rm z<|Wn ?_
 obtain ⟨_,huj,hmc⟩:=bdS<|ifF hma J;refine Wf (σ:=Unit) (ρ:=Bool) (fun (ke:Nat)(_:Unit) a w=>Sat 20 [(1,pt w0.z),(11,vI (x1.rules.length:Int)),(12,vI ((ke:Nat):Int))] a/\Below I.z I w) (fun (_:Unit) a w=>Sat 20 [] a/\Below I.z I w) (rQ prog fn<|Q0 w0 B) huj ?_ ?_ ?_ ?_ ?_
 ·exact fun _ q=>⟨q.k<|s3 z z z,br I⟩
 ·rintro ke _ _ _ _ L ⟨hSk,s4⟩ hml;refine Wu ?_ hSk;refine Ws<|Rl z z z<|Wn<|Wq<|Wc z (fun _=>?_) (fun hc=>(a_2 L hc).elim)
  refine Wk<|Wq<|Wb<|Wm z<|Rw z<|Ws<|R z (lN (vs:=[sl A0 N0 C0]) t_ q_ z z fid<|(hb.e s4).row 0 1 z)<|Rm z ?_
  obtain ⟨_,em,hmf⟩:=bdS hml;refine E z (fc call48 z<|W_w2p em (zt' V<|lt_ (lt_ G.s s1.s) s4.s) (H.g<|hd.e s4)<|ic (Nat.le_of_lt L)<|lt_ (repS.len H) K_) ?_;rintro _ _ ⟨sg,rfl⟩;refine R z (not_ z)<|Wx z (fun O=>?_) (fun O=>?_)
  ·exact Ws<|Rw z<|Wr<|rtO<|qL (som<|ifT hmf O).symm<|h_ hr z ⟨bup (bup (bup G s1) s4) sg,z⟩
  exact Wk<|Wg<|R z (inc_ L (lt_ (repS.len H) K_) z z)<|Rm z<|Wl (fun _ q=>⟨(),(som<|ifF hmf O).symm,⟨q.k<|s3 z z z,bup s4 sg⟩⟩)
 ·rintro _ _ _ ⟨hSn,so⟩;refine Wu ?_ hSn;refine Ws<|Rl z z z<|Wn<|Wq<|Wc z (fun hc=>(a_3 hc).elim) (fun _=>?_)
  exact We<|fun _ q=>⟨rfl,⟨q.k sn,so⟩⟩
 ·rintro _ ap _ rfl ⟨_,sq⟩;have hmr:=elL hmc;revert ap;refine Wo<|Ws<|Rw z ?_
  obtain rfl:=som hmr;exact Wr<|h_ hr z ⟨bup (bup G s1) sq,z⟩
 rintro _ _ _ _ rfl ⟨rfl,hqs⟩;have hmt:=elR hmc;obtain rfl:=som hmt;exact ⟨hqs,z⟩
theorem j_o {x1:d_}{x2:Int}{res:Bool}(hm:e_r n x1 x2=some res)(J:B<=w0.z)(I:repS w0 B (sl A0 N0 C0) x1.rules)(O:inI x2):n_ prog 51 [(.agg #[sl A0 N0 C0]),vI x2] w0 (Q0 w0 B res):=by
 unfold e_r at hm
 refine goG func51 z z z fun fn hr=>Ws<|E z (fb z) ?_
 rintro _ H ⟨rfl,h5⟩;have h1:=h5.below;have h6:Blk H w0.z [sl A0 N0 C0]:=h5.blk;refine Rw z<|Wq ?_
 obtain ⟨u8,V,hma⟩:=bdS hm;refine Wt (fun a w=>∃(x4:Bool),x4=u8/\Sat 12 [(4,vB x4)] a/\Below H.z H w) ?_ ?_
 ·refine Wg<|R z (lN (vs:=[sl A0 N0 C0]) t_ q_ z z fid<|h6.row 0 1 z) ?_
  obtain ⟨rb,ec,L⟩:=bdS V;refine E z (fc call21 z<|j_n ec (zt' J h1.s)<|I.e h1) ?_;rintro _ _ ⟨s2,rfl⟩;refine Rm z ?_
  rcases bs rb with G | G
  ·refine Rh z G (lN (vs:=[sl A0 N0 C0]) t_ q_ z z fid<|(h6.e s2).row 0 1 z)<|Rh z G (mv z) ?_
   obtain ⟨rd,ee,hmf⟩:=bdS<|ifT L G;refine Eg z z G z (fc call71 z<|j_l ee (zt' J<|lt_ h1.s s2.s) (I.g<|(h1.ag B).e s2) O) ?_;rintro _ _ ⟨sg,rfl⟩;exact R z (pT z G z)<|Ra z<|Wl (fun _ q=>⟨rd,som hmf,q.k<|s1 z,bup s2 sg⟩)
  iterate 3 refine Nh z G ?_
  exact R z (pF z G z)<|Ra z<|Wl (fun _ q=>⟨false,som<|ifF L G,q.k<|s1 z,s2⟩)
 rintro ah _ ⟨x4,rfl,_,si⟩;revert ah;refine Wo ?_;obtain rfl:=som hma;exact Wr<|h_ hr z ⟨bup h1 si,z⟩
def Q20 (w0:World)(B:Zone)(r:(Option<|Int×Int))(v:Value)(w':World):Prop:=Bw w0 w'/\(fun G=>∃(v1:Value)(S1:List Nat),v1=v/\a_D 102 w' S1 v1 G/\(∀k∈S1,w0.z<=k)) r
theorem d_B {x1:Int}{x2:Int}{res:(Option<|Int×Int)}(hm:b_J x1 x2=some res)(L:B<=w0.z)(H:inI x1)(I:inI x2):n_ prog 83 [vI x1,vI x2] w0 (Q20 w0 B res):=by
 unfold b_J at hm
 refine goG func83 z z z fun fn hr=>Ws<|Rw z<|Wm z<|Rm z<|R z (bP (parts:=[(0,.tmp 5),(1,.tmp 6)]) (cs:=[vI x1,vI x2]) n_V z z)<|E z (fb z) ?_
 rintro _ J ⟨rfl,G⟩;refine R z (l_8 d_102 (fun _ h=>by cases h) z)<|Rw z ?_
 obtain rfl:=som hm;exact Wr<|h_ hr z ⟨G.below,.iface 102<|pt w0.z,[w0.z],z,n_o (G.blk:Blk J w0.z [vI x1,vI x2]) H I z,c_ lr⟩
def Q21 (w0:World)(B:Zone)(r:(List UInt8)×(Option<|Int×Int))(v:Value)(w':World):Prop:=Bw w0 w'/\un2 (fun J L=>∃(G:Option Addr)(H I:Nat)(v2:Value)(S2:List Nat),v = .tuple #[sl G H I,v2]/\repS w' w'.z (sl G H I) J/\a_D 102 w' S2 v2 L/\(∀k∈S2,w0.z<=k)) r
theorem h_Z {x1:a_r}{b1 o1:Nat}{x2:Int}{x3:Int}{res:(List UInt8)×(Option<|Int×Int)}(hm:d_S x1 x2 x3=some res)(I:B<=w0.z)(a0:repS w0 B (sl A0 N0 C0) x1.d.rules)(H:repS w0 B (sl A6 N6 C6) x1.b)(hC1:W_ w0 b1 o1 [sl A0 N0 C0,sl A6 N6 C6])(hC1b:B b1)(J:inI x2)(a1:inI x3):n_ prog 108 [(.pointer<|some ⟨b1,o1,none⟩),vI x2,vI x3] w0 (Q21 w0 B res):=by
 unfold d_S at hm
 refine goG func108 z z z fun fn hr=>Ws<|Ra z<|Rw z<|Wq<|Wm z<|Rm z<|R z (V_ z)<|Rf z e_I z<|R z (l0 P_ z<|hC1.at (j:=1) z)<|R z (lnR p_ z H)<|Rm z<|R z (sb_ z z)<|R z (a_e z z)<|Wx z (fun G=>?_) (fun G=>?_)
 ·refine Wm z ?_
  obtain ⟨_,V,L⟩:=bdS<|ifT hm G;refine E z (fc call83 z<|d_B (B:=B) V I J<|ii z) ?_;rintro _ _ ⟨s1,v4,W,rfl,h6,Y⟩;refine Ra z<|Rw z ?_
  obtain rfl:=som L;exact Wr<|a_u hr z z ⟨s1,none,0,0,v4,W,z,repS.mono (or_ onL an_)<|a_T s1.s,h6,Y⟩
 refine Wk<|Wm z<|R z (V_ z)<|Rf z e_I z<|R z (l0 P_ z<|hC1.at (j:=1) z)<|RM z z<|Rm z<|R z (add_ z z) ?_
 obtain ⟨_,e8,O⟩:=bdS<|ifF hm G;refine RX z (rX p_ z_5 z z H z z e8) ?_;rintro _ ⟨aa,nb,cc,rfl,hd⟩;refine Ra z<|Rw z ?_
 obtain rfl:=som O;exact Wr<|a_u hr z z ⟨br w0,aa,nb,cc,.nilIface,([]:List Nat),z,repS.mono hd I,d_x,an_⟩
theorem W_w1k {x1:List UInt8}{x2:Bool}{res:Int}(hm:f_6 x1 x2=some res)(W:B<=w0.z)(G:repS w0 B (sl A0 N0 C0) x1):n_ prog 109 [sl A0 N0 C0,vB x2] w0 (Q9 w0 B res):=by
 unfold f_6 at hm
 refine goG func109 z z z fun fn hr=>Ws<|Rw z<|Wq<|Wm z<|R z (lnR p_ z G)<|R z (a_e z z)<|Wx z (fun I=>?_) (fun I=>?_)
 ·refine Ws<|Rw z ?_
  obtain rfl:=som<|ifT hm I;exact Wr<|h_ hr z ⟨br w0,z,ii z⟩
 refine Wk<|Ws<|Rw z<|Wq<|Wm z<|R z (lnR p_ z G)<|Rm z<|Wn ?_
 obtain ⟨_,huc,L⟩:=bdS<|ifF hm I;refine Wf (σ:=Int) (ρ:=Int) (fun (k5:Nat)(x0:Int) a w=>Sat 38 [(0,sl A0 N0 C0),(1,vB x2),(5,vI x0),(11,vI (x1.length:Int)),(12,vI ((k5:Nat):Int))] a/\Below w0.z w0 w/\inI x0) (fun (x0:Int) a w=>Sat 38 [(5,vI x0)] a/\Below w0.z w0 w/\inI x0) (rQ prog fn<|Q9 w0 B) huc ?_ ?_ ?_ ?_ ?_
 ·exact fun _ q=>⟨q.k<|s5 z z z z z,br w0,ii z⟩
 ·rintro k5 x0 _ H _ O ⟨hSd,s6,h2⟩ hme;refine Wu ?_ hSd;refine Ws<|Rl z z z<|Wn<|Wq<|Wc z (fun _=>?_) (fun hc=>(a_2 O hc).elim)
  refine Wk<|Wq<|Wb<|Wm z<|Rw z<|Wm z<|Wn ?_
  obtain ⟨uf,hua,hmg⟩:=bdS hme;refine Wt (fun a w=>∃(x3:Int),x3=uf/\Sat 38 [(0,sl A0 N0 C0),(1,vB x2),(5,vI x3),(11,vI (x1.length:Int)),(12,vI ((k5:Nat):Int))] a/\Below H.z H w/\inI x3) ?_ ?_
  ·refine Wc z (fun J=>?_)<|fun J=>?_
   ·refine Wg<|Rm z<|R z (i_d z z (by decide))<|RM z z ?_
    have hb:=G.e s6;refine R z (lnR p_ z hb)<|R z (sb_ z z)<|Rm z<|R z (sb_ z z) ?_
    obtain ⟨xh,ei,hmj⟩:=bdS<|ifT hua J;refine RX z (at_ (α:=UInt8) p_ z_5 z z z hb ei) ?_;rintro _ ⟨_,_,_,rfl,hk,hl,_⟩;obtain rfl:=u8 hl;exact R z (l0 g_5 z<|hk.at0 z)<|R z (b_U d_5 d_3 z)<|R z (rd_or z z)<|Ra z<|Wl (fun _ q=>⟨a_A .i64 (· ||| ·) (b_v .i64 x0 8)<|byteI xh,som hmj,q.k<|s5 z z z z z,br H,f_G _ _ _⟩)
   refine Wg<|Rm z<|R z (i_d z z (by decide))<|RM z z ?_
   obtain ⟨xm,en,hmo⟩:=bdS<|ifF hua J;refine RX z (at_ (α:=UInt8) p_ z_5 z z z (G.e s6) en) ?_;rintro _ ⟨_,_,_,rfl,hp,hq,_⟩;obtain rfl:=u8 hq;exact R z (l0 g_5 z<|hp.at0 z)<|R z (b_U d_5 d_3 z)<|R z (rd_or z z)<|Ra z<|Wl (fun _ q=>⟨a_A .i64 (· ||| ·) (b_v .i64 x0 8)<|byteI xm,som hmo,q.k<|s5 z z z z z,br H,f_G _ _ _⟩)
  rintro ar _ ⟨x3,rfl,_,ss,ht⟩;revert ar;exact Wo<|Wg<|R z (inc_ O (lt_ (repS.len G) K_) z z)<|Rm z<|Wl (fun _ q=>⟨x3,(som hmg).symm,⟨q.k<|s5 z z z z z,bup s6 ss,ht⟩⟩)
 ·rintro x0 _ _ ⟨hSu,sv,h2⟩;refine Wu ?_ hSu;refine Ws<|Rl z z z<|Wn<|Wq<|Wc z (fun hc=>(a_3 hc).elim) (fun _=>?_)
  exact We<|fun _ q=>⟨rfl,⟨q.k<|s1 z,sv,h2⟩⟩
 ·rintro x0 aw _ rfl ⟨_,sx,h2⟩;have hmy:=elL L;revert aw;refine Wo<|Wm z<|Rw z ?_
  obtain rfl:=som hmy;exact Wr<|h_ hr z ⟨sx,z,h2⟩
 rintro _ _ _ _ rfl ⟨rfl,hqz⟩;have V:=elR L;obtain rfl:=som V;exact ⟨hqz,z⟩
def Q22 (w0:World)(B:Zone)(r:Int×Int×(Option<|Int×Int))(v:Value)(w':World):Prop:=Bw w0 w'/\un3 (fun G H I=>∃(v1:Value)(S1:List Nat),v = .tuple #[vI G,vI H,v1]/\inI G/\inI H/\a_D 102 w' S1 v1 I/\(∀k∈S1,w0.z<=k)) r
theorem i_0 {x1:a_r}{b1 o1:Nat}{x2:Int}{x3:Int}{res:Int×Int×(Option<|Int×Int)}(hm:d_T x1 x2 x3=some res)(L:B<=w0.z)(I:repS w0 B (sl A0 N0 C0) x1.d.rules)(a0:repS w0 B (sl A6 N6 C6) x1.b)(hC1:W_ w0 b1 o1 [sl A0 N0 C0,sl A6 N6 C6])(hC1b:B b1)(ab:inI x2)(J:inI x3):n_ prog 74 [(.pointer<|some ⟨b1,o1,none⟩),vI x2,vI x3] w0 (Q22 w0 B res):=by
 unfold d_T at hm
 refine goG func74 z z z fun fn hr=>Ws<|RA z z<|Rw z<|Wm z<|R z (V_ z)<|Rf z k_S z<|Rf z R_ z<|R z (l0 T_ z<|hC1.at (j:=0) z)<|Rm z ?_
 obtain ⟨x5,eq,hmr⟩:=bdS hm;refine RX z (at_ (α:=e_) U_ m_ z z z I eq) ?_;rintro _ ⟨_,_,_,rfl,ht,hu,_⟩;obtain ⟨O,V,W,Y,na,cb,ac,nd,ce,af,ng,ch,rfl,_,_,hv,_,_,_,_⟩:=a_m hu;refine R z (lN (vs:=vR x5 O V W Y na cb ac nd ce af ng ch) I_ m_ z z fid ht)<|E z (fa b_g) ?_
 rintro _ ws ⟨rfl,hi⟩;have G:=hi.below;refine E0 (fs0 (cur':=vR x5 O V W Y na cb ac nd ce af ng ch) m_ z z (hi.blk:Blk ws w0.z [(Str.v (⟨[]⟩:Str)),vI 0,vI 0,vB false,sl none 0 0,sl none 0 0,sl none 0 0,sl none 0 0]) z z z z) ?_;rintro _ _ ⟨hj,sx⟩;have h1:=sx.one;refine Wn<|Wm z<|Rm z<|Rf z a_z z<|R z (l0 g_3 z<|hj.at z) ?_
 have hk:∀k∈[w0.z],¬B k:=or0 (c_ lr)<|k_ L;have hl:=(G.ag B).c h1<|b_ hk
 have hn:=lt_ G.s h1.s;obtain ⟨_,_,ey,hmm⟩:=a_t hmr;refine E z (fc call108 z<|h_Z ey (zt' L hn) (I.g hl) (a0.g hl) ((hC1.e G).c h1<|(b_ hk) _ hC1b) hC1b J hv) ?_;rintro _ wz ⟨s3,_,_,_,a2,a3,rfl,a4,ho,a5⟩;refine Rm z<|Re z z z<|Re z z z<|Ra z<|Rw z<|Wq<|Wm z<|R z (d_6 d_8 z z ho)<|Wx z (fun H=>?_) (fun H=>?_)
 ·refine Wm z<|Rm z<|RA z z<|Rw z ?_
  obtain rfl:=som<|ifT hmm H;exact Wr<|F_ hr z z z ⟨bup (bM G h1<|c_ lr) s3,a2,a3,z,ii z,J,ho,l_ a5 hn⟩
 refine Wk<|Wq (Wd (X:=noX) 0 (.rd 0<|.rd 1<|.rd 2<|.rd 4<|.rd 5<|.rd 6<|.rd 7<|.ef 3<|.rd 8<|.rd 9<|.rd 10 .done) mo (by kernel_rfl) fun ad s2 _=>dM z z z<|dR z z (fd c_L z) ?_)
 have hp:=(hj.e s3).e s2;refine dR z z (l0 g_4 z<|hp.at z)<|dM z z z<|dR z z (fd a_z z)<|dR z z (l0 g_3 z<|hp.at z)<|dR z z (add_ z z) ?_
 obtain ⟨_,a7,a1⟩:=bdS<|ifF hmm H;refine dE z z (fc call109 z<|W_w1k (B:=wz.z) a7 (a_T s2.s)<|a4.e s2) (.inr fun _ _ h=>w_<|h.1) ?_;rintro _ _ ⟨a8,rfl,aa⟩
 iterate 3 refine dQ z z z ?_
 refine pD<|Wo ?_
 obtain rfl:=som a1;exact Wr<|F_ hr z z z ⟨bup (bup (bup (bM G h1<|c_ lr) s3) s2) a8,.nilIface,([]:List Nat),z,aa,iA _ _,d_x,an_⟩
def Q23 (w0:World)(B:Zone)(r:Int×(Option<|Int×Int))(v:Value)(w':World):Prop:=Bw w0 w'/\un2 (fun G H=>∃(v1:Value)(S1:List Nat),v = .tuple #[vI G,v1]/\inI G/\a_D 102 w' S1 v1 H/\(∀k∈S1,w0.z<=k)) r
theorem W_w2q {x1:a_r}{b1 o1:Nat}{x2:e_}{x3:Int}{res:Int×(Option<|Int×Int)}(hm:g_U x1 x2 x3=some res)(V:B<=w0.z)(ad:repS w0 B (sl A0 N0 C0) x1.d.rules)(a0:repS w0 B (sl A6 N6 C6) x1.b)(hC1:W_ w0 b1 o1 [sl A0 N0 C0,sl A6 N6 C6])(hC1b:B b1)(ae:x2.name.b.length<=LEN)(af:inI x2.kind)(ah:inI x2.size)(I:repS w0 B (sl A2 N2 C2) x2.bytes)(ai:repS w0 B (sl A3 N3 C3) x2.names)(aj:repS w0 B (sl A1 N1 C1) x2.tags)(ak:repS w0 B (sl A4 N4 C4) x2.kids)(J:inI x3):n_ prog 75 [(.pointer<|some ⟨b1,o1,none⟩),.agg #[Str.v x2.name,vI x2.kind,vI x2.size,vB x2.little,sl A2 N2 C2,sl A3 N3 C3,sl A1 N1 C1,sl A4 N4 C4],vI x3] w0 (Q23 w0 B res):=by
 unfold g_U at hm
 refine goG func75 z z z fun fn hr=>Ws<|E z (fb z) ?_
 rintro _ H ⟨rfl,h6⟩;have G:=h6.below;have Y:Blk H w0.z (vR x2 A2 N2 C2 A3 N3 C3 A1 N1 C1 A4 N4 C4):=h6.blk;refine Ra z<|Rw z<|Wq<|Ws<|Rf z a_R z<|R z (l0 P_ z<|Y.at z)<|R z (lnR p_ z<|I.e G)<|Rm z<|Wn ?_
 obtain ⟨_,hui,W⟩:=bdS hm;refine Wf (σ:=Unit) (ρ:=Int×(Option<|Int×Int)) (fun (k9:Nat)(_:Unit) a w=>Sat 52 [(0,.pointer<|some ⟨b1,o1,none⟩),(2,vI x3),(4,pt w0.z),(11,sl A2 N2 C2),(12,vI (x2.bytes.length:Int)),(13,vI ((k9:Nat):Int))] a/\Below H.z H w) (fun (_:Unit) a w=>Sat 52 [(2,vI x3),(4,pt w0.z)] a/\Below H.z H w) (rQ prog fn<|Q23 w0 B) hui ?_ ?_ ?_ ?_ ?_
 ·exact fun _ q=>⟨q.k<|s6 z z z z z z,br H⟩
 ·rintro k9 _ _ _ _ hka ⟨hSj,s1⟩ hmk;refine Wu ?_ hSj;refine Ws<|Rl z z z<|Wn<|Wq<|Wc z (fun _=>?_) (fun hc=>(a_2 hka hc).elim)
  refine Wk<|Wq<|Wb<|Wm z ?_
  obtain ⟨_,el,hmb⟩:=bdS hmk;have hd:=(G.ag B).e s1;refine RX z (at_ (α:=UInt8) p_ z_5 z z z (I.g hd) el) ?_;rintro _ ⟨_,_,_,rfl,hn,ho,_⟩;obtain rfl:=u8 ho;refine R z (l0 g_5 z<|hn.at0 z)<|Ra z<|Rw z<|Wq<|Wm z<|Rm z<|R z (add_ z z)<|Rm z<|R z (V_ z)<|Rf z e_I z ?_
  have he:=(hC1.e G).e s1;refine R z (l0 P_ z<|he.at (j:=1) z) ?_;have hf:=a0.g hd;refine R z (lnR p_ z hf)<|R z (b_i z z)<|Wx z (fun L=>?_) (fun L=>?_)
  ·refine Wm z<|Rm z ?_
   have hg:=lt_ G.s s1.s;obtain ⟨_,em,hmp⟩:=bdS<|ifT hmb L;refine E z (fc call83 z<|d_B em (zt' V hg) J<|ii z) ?_;rintro _ _ ⟨sq,vr,Ss,rfl,ht,hu⟩;exact Ra z<|Rw z<|Wr<|rtO<|qL (som hmp).symm<|a_u hr z z ⟨bup (bup G s1) sq,vr,Ss,z,J,ht,l_ hu hg⟩
  refine Wk<|Wm z<|R z (V_ z)<|Rf z e_I z<|R z (l0 P_ z<|he.at (j:=1) z)<|RM z z<|R z (add_ z z) ?_
  obtain ⟨_,ev,hmc⟩:=bdS<|ifF hmb L;refine RX z (at_ (α:=UInt8) p_ z_5 z z z hf ev) ?_;rintro _ ⟨_,_,_,rfl,hw,hx,_⟩;obtain rfl:=u8 hx;refine R z (l0 g_5 z<|hw.at0 z)<|Rm z<|R z (nq z z)<|Wx z (fun O=>?_) (fun O=>?_)
  ·refine Wm z<|RM z z<|R z (add_ z z) ?_
   have hh:=lt_ G.s s1.s;obtain ⟨_,ey,hmz⟩:=bdS<|ifT hmc O;refine E z (fc call83 z<|d_B ey (zt' V hh) (iA _ _)<|ii z) ?_;rintro _ _ ⟨a5,a6,a7,rfl,a8,a9⟩;exact Ra z<|Rw z<|Wr<|rtO<|qL (som hmz).symm<|a_u hr z z ⟨bup (bup G s1) a5,a6,a7,z,J,a8,l_ a9 hh⟩
  exact Wk<|Wg<|R z (inc_ hka (lt_ (repS.len I) K_) z z)<|Rm z<|Wl (fun _ q=>⟨(),(som<|ifF hmc O).symm,⟨q.k<|s6 z z z z z z,s1⟩⟩)
 ·rintro _ _ _ ⟨a1,aa⟩;refine Wu ?_ a1;refine Ws<|Rl z z z<|Wn<|Wq<|Wc z (fun hc=>(a_3 hc).elim) (fun _=>?_)
  exact We<|fun _ q=>⟨rfl,⟨q.k<|s2 z z,aa⟩⟩
 ·rintro _ ab _ rfl ⟨_,s5⟩;have a2:=elL W;revert ab;refine Wo<|Wm z<|Rf z a_R z<|R z (l0 P_ z<|(Y.e s5).at z)<|R z (lnR p_ z<|I.g<|(G.ag B).e s5)<|R z (add_ z z)<|Ra z<|Rw z ?_
  obtain rfl:=som a2;exact Wr<|a_u hr z z ⟨bup G s5,.nilIface,([]:List Nat),z,iA _ _,d_x,an_⟩
 rintro _ _ _ _ rfl ⟨rfl,a3⟩;have a4:=elR W;obtain rfl:=som a4;exact ⟨a3,z⟩
def Q24 (w0:World)(B:Zone)(r:Val×Int×(Option<|Int×Int))(v:Value)(w':World):Prop:=Bw w0 w'/\un3 (fun G H W=>∃(I:Option Addr)(J L:Nat)(S1:List Nat)(a2:Option Addr)(O V:Nat)(S2:List Nat)(v3:Value)(S3:List Nat),v = .tuple #[(.agg #[vI G.number,sl I J L,sl a2 O V]),vI H,v3]/\inI G.number/\a_ w' S1 (sl I J L) G.bytes/\a_ w' S2 (sl a2 O V) G.items/\inI H/\a_D 102 w' S3 v3 W/\(∀k∈S3,w0.z<=k)/\(S1++S2).Nodup/\(∀k∈(S1++S2),w0.z<=k)) r
theorem W_w1l {x1:a_r}{b1 o1:Nat}{x2:Int}{x3:Int}{res:Val×Int×(Option<|Int×Int)}(hm:f_a x1 x2 x3=some res)(a2:B<=w0.z)(Y:repS w0 B (sl A0 N0 C0) x1.d.rules)(a0:repS w0 B (sl A6 N6 C6) x1.b)(hC1:W_ w0 b1 o1 [sl A0 N0 C0,sl A6 N6 C6])(hC1b:B b1)(O:inI x2)(a1:inI x3):n_ prog 76 [(.pointer<|some ⟨b1,o1,none⟩),vI x2,vI x3] w0 (Q24 w0 B res):=by
 unfold f_a at hm
 refine goG func76 z z z fun fn hr=>Ws<|E z (fa a_6) ?_
 rintro _ wk ⟨rfl,W⟩;have G:=W.below;have h2:Blk wk w0.z [vI 0,sl none 0 0,sl none 0 0]:=W.blk;refine Ra z<|Rw z<|Wm z<|RM z z ?_
 obtain ⟨_,_,el,V⟩:=a_t hm;refine E z (fc call108 z<|h_Z el (zt' a2 G.s) (Y.e G) (a0.e G) (hC1.e G) hC1b O a1) ?_;rintro _ _ ⟨s1,_,_,_,vm,Sn,rfl,ho,ha,hb⟩;refine Rm z<|Re z z z<|Re z z z<|Ra z<|Rw z<|Wq<|Wm z<|R z (d_6 d_8 z z ha)<|Wx z (fun H=>?_) (fun H=>?_)
 ·refine Ws<|R z (bP (parts:=[]) (cs:=[vI 0,sl none 0 0,sl none 0 0]) Y_ z z)<|RM z z<|E0 (fs0 (cur':=[vI 0,sl none 0 0,sl none 0 0]) i_ z z (h2.e s1) z z z z) ?_
  rintro _ _ ⟨hp,sq⟩;have hc:=sq.one;refine Ra z<|Rw z ?_
  obtain rfl:=som<|ifT V H;exact Wr<|F_ hr (r_ y_ i_ z hp z) z z ⟨bM (bup G s1) hc<|c_ lr,none,0,0,[],none,0,0,[],vm,Sn,z,ii z,onL,onL,O,ha.c hc<|j_ hb h2.lt lr,l_ hb G.s,nd0,al0⟩
 refine Wk<|Ws<|E z (f0 (α:=UInt8) a_9) ?_
 rintro _ _ ⟨_,_,_,rfl,s3,ht⟩;refine Rm z ?_;obtain ⟨_,er,hms⟩:=bdS<|ifF V H;refine E z (fN (α:=UInt8) a_9 er z z ht a_k<|ho.e s3) ?_;rintro _ _ ⟨Sd,I,J,L,rfl,se,hu,hv,hf⟩;refine R z (bP (parts:=[(1,.tmp 25)]) (cs:=[vI 0,sl I J L,sl none 0 0]) Y_ z z)<|RM z z<|R z (add_ z z) ?_
 have hg:=mm1 h2.lt s1.s;refine E0 (fs0 (cur':=[vI 0,sl I J L,sl none 0 0]) i_ z z (((h2.e s1).e s3).c se<|djs hg) z z z z) ?_;rintro _ _ ⟨hw,sx⟩;have hh:=sx.one;refine Ra z<|Rw z ?_
 obtain rfl:=som hms;have hi:=lt_ G.s s1.s;have hj:=m1 hi;exact Wr<|F_ hr (r_ y_ i_ z hw z) z z ⟨bM (bM (bup (bup G s1) s3) se hj) hh<|c_ lr,I,J,L,Sd,none,0,0,[],.nilIface,([]:List Nat),z,ii z,hu.c hh (or1 hf hg (O_ (c_ h2.lt)<|lt_ s1.s s3.s):∀k∈Sd,k∉[w0.z]),onL,iA _ _,d_x,an_,na_ hv G_<|nmN _,aa_ (a_i hf hj<|lt_ hi s3.s) an_⟩
theorem W_w1m {x1:List UInt8}{res:Int}(hm:f_7 x1=some res)(W:B<=w0.z)(G:repS w0 B (sl A0 N0 C0) x1):n_ prog 110 [sl A0 N0 C0] w0 (Q9 w0 B res):=by
 unfold f_7 at hm
 refine goG func110 z z z fun fn hr=>Ws<|Rw z<|Ws<|Rw z<|Wq<|Wm z<|R z (lnR p_ z G)<|Rm z<|Wn ?_
 obtain ⟨_,J,H⟩:=bdS hm;refine Wf (σ:=Int) (ρ:=Int) (fun (k3:Nat)(x0:Int) a w=>Sat 19 [(3,vI x0),(6,sl A0 N0 C0),(7,vI (x1.length:Int)),(8,vI ((k3:Nat):Int))] a/\Below w0.z w0 w/\inI x0) (fun (x0:Int) a w=>Sat 19 [(3,vI x0)] a/\Below w0.z w0 w/\inI x0) (rQ prog fn<|Q9 w0 B) J ?_ ?_ ?_ ?_ ?_
 ·exact fun _ q=>⟨q.k<|s4 z z z z,br w0,ii z⟩
 ·rintro k3 x0 _ _ _ I ⟨L,s5,h1⟩ O;refine Wu ?_ L;refine Ws<|Rl z z z<|Wn<|Wq<|Wc z (fun _=>?_) (fun hc=>(a_2 I hc).elim)
  refine Wk<|Wq<|Wb<|Ws ?_
  obtain ⟨V,ea,hmb⟩:=bdS O;refine RX z (at_ (α:=UInt8) p_ z_5 z z z (G.e s5) ea) ?_;rintro _ ⟨_,_,_,rfl,hd,he,_⟩;obtain rfl:=u8 he;exact R z (l0 g_5 z<|hd.at0 z)<|Rw z<|Wg<|RM z z<|R z (b_U d_5 d_3 z)<|R z (add_ z z)<|Rw z<|Wg<|R z (inc_ I (lt_ (repS.len G) K_) z z)<|Rm z<|Wl (fun _ q=>⟨g_ x0<|byteI V,(som hmb).symm,⟨q.k<|s4 z z z z,s5,iA _ _⟩⟩)
 ·rintro x0 _ _ ⟨hSc,sf,h1⟩;refine Wu ?_ hSc;refine Ws<|Rl z z z<|Wn<|Wq<|Wc z (fun hc=>(a_3 hc).elim) (fun _=>?_)
  exact We<|fun _ q=>⟨rfl,⟨q.k<|s1 z,sf,h1⟩⟩
 ·rintro x0 ag _ rfl ⟨_,sh,h1⟩;have hmi:=elL H;revert ag;refine Wo<|Wm z<|R z (f_W z z (by decide))<|Rw z ?_
  obtain rfl:=som hmi;exact Wr<|h_ hr z ⟨sh,z,f_A h1⟩
 rintro _ _ _ _ rfl ⟨rfl,hqj⟩;have hmk:=elR H;obtain rfl:=som hmk;exact ⟨hqj,z⟩
theorem W_w1n {x1:List UInt8}{x2:Int}{x3:UInt8}{res:(List UInt8)×Int×Bool}(hm:f_8 n x1 x2 x3=some res)(aq:B<=w0.z)(Y:repS w0 B (sl A0 N0 C0) x1)(a0:inI x2):n_ prog 82 [sl A0 N0 C0,vI x2,vU<|byteI x3] w0 (Q16 w0 B res):=by
 unfold f_8 at hm
 refine goG func82 z z z fun fn hr=>Ws<|RA z z<|Rw z<|Ws<|E z (f0 (α:=UInt8) a_9) ?_
 rintro _ wg ⟨aj,nk,cl,rfl,s8,hv⟩;refine Rw z<|Wq<|Wq ?_
 obtain ⟨ar,huw,hmx⟩:=bdS hm;refine Wt (fun a w=>∃(xm:Bool),xm=ar/\Sat 58 [(0,sl A0 N0 C0),(1,vI x2),(2,vU<|byteI x3),(9,sl aj nk cl),(19,vB xm)] a/\Below wg.z wg w) ?_ ?_
 ·refine Wg<|Rm z<|Rl z z z<|Rm z ?_
  rcases bs (decide<|x2<0) with I | I
  ·iterate 4 refine Nh z I ?_
   exact R z (pT z I z)<|Wl (fun _ q=>⟨true,som<|ifT huw I,q.k<|s5 z z z z z,br wg⟩)
  exact Rh z I (mv z)<|Rh z I (mv z)<|Rh z I (lnR p_ z<|Y.e s8)<|Rh z I (a_e z z)<|R z (pF z I z)<|Wl (fun _ q=>⟨decide<|(x1.length:Int)<x2,som<|ifF huw I,q.k<|s5 z z z z z,br wg⟩)
 rintro au G ⟨xm,rfl,_,s6⟩;revert au;refine Wo<|Wc z (fun hcn=>?_) (fun hcn=>?_)
 ·refine Wm z<|Rm z<|RA z z<|Rw z ?_
  obtain rfl:=som<|ifT hmx hcn;exact Wr<|F_ hr z z z ⟨bup s8 s6,aj,nk,cl,[w0.z],z,hv.e s6,a0,a_k,c_ lr⟩
 refine Wk<|Wq<|Wm z<|Rw z ?_
 obtain ⟨_,ad,hmy⟩:=bdS<|ifF hmx hcn;refine b_M (σ:=(List UInt8)×Int) (ρ:=(List UInt8)×Int×Bool) (fun s a w=>un2 (fun xb V=>∃J L O H,Sat 58 [(0,sl A0 N0 C0),(1,vI x2),(2,vU<|byteI x3),(9,sl J L O),(10,vI V)] a/\Chg (· ∈ [w0.z]) G w/\a_ w H (sl J L O) xb/\H.Nodup/\(∀k∈H,k∈[w0.z]∨G.z<=k)/\inI V) s) (fun s a w=>un2 (fun xb V=>∃J L O H,Sat 58 [(1,vI x2)] a/\Chg (· ∈ [w0.z]) G w/\a_ w H (sl J L O) xb/\H.Nodup/\(∀k∈H,k∈[w0.z]∨G.z<=k)/\inI V) s) (rQ prog fn<|Q16 w0 B) ad ?_ ?_ ?_ ?_
 ·exact fun _ q=>⟨aj,nk,cl,[w0.z],q.k<|s5 z z z z z,cr [w0.z] G,hv.e s6,a_k,io sr,a0⟩
 ·rintro ⟨xb,V⟩ _ W _ ⟨J,L,O,H,ae,sa,hc,hd,he,ho⟩ af;have hmz:=a_G af;refine Wu ?_ ae;refine Wq<|Wm z<|Rm z ?_
  have a6:=((s8.ag B).e s6).c sa<|b_ (or0 (c_ lr) (k_ aq):∀k∈[w0.z],¬B k)
  have hh:=Y.g a6;refine R z (lnR p_ z hh)<|Rl z z z<|Wx z (fun hcp=>?_) (fun hcp=>?_)
  ·refine Wk<|Wq<|Wb<|Wq<|Wm z<|Rm z ?_
   obtain ⟨_,av,a1⟩:=bdS<|ifT hmz hcp;refine RX z (at_ (α:=UInt8) p_ z_5 z z z hh av) ?_;rintro _ ⟨_,_,_,rfl,aw,ax,_⟩;obtain rfl:=u8 ax;refine R z (l0 g_5 z<|aw.at0 z)<|Rm z<|Rq z z z<|Wx z (fun hcq=>?_) (fun hcq=>?_)
   ·refine Wm z<|Rm z<|R z (add_ z z)<|RA z z<|Rw z ?_
    exact Wr<|rtO<|qL (som<|ifT a1 hcq).symm<|F_ hr z z z ⟨bM (bup s8 s6) sa<|c_ lr,J,L,O,H,z,hc,iA _ _,hd,(or1 he (c_ lr) (b_f<|lt_ s8.s s6.s):∀k∈H,w0.z<=k)⟩
   refine Wk<|Wq<|Wm z<|Rm z ?_
   obtain ⟨_,ay,ah⟩:=bdS<|ifF a1 hcq;refine RX z (at_ (α:=UInt8) p_ z_5 z z z hh ay) ?_;rintro _ ⟨_,_,_,rfl,az,aA,_⟩;obtain rfl:=u8 aA;refine R z (l0 g_5 z<|az.at0 z)<|Rq z z z<|Wn ?_
   obtain ⟨aB,a2,a4⟩:=bdS ah;refine Wt (fun a w=>∃(xf:Int),Sum.inl xf=aB/\Sat 58 [(0,sl A0 N0 C0),(1,vI x2),(2,vU<|byteI x3),(9,sl J L O),(10,vI xf)] a/\Below W.z W w/\inI xf) ?_ ?_
   ·refine Wc z (fun hcr=>?_)<|fun hcr=>?_
    ·have a5:=ifT a2 hcr;refine Wm z<|R z (add_ z z)<|Rw z<|Wm z<|Rm z<|R z (lnR p_ z hh)<|Rq z z z<|Wx z (fun hcs=>?_) (fun hcs=>?_)
     ·obtain rfl:=som<|ifT a5 hcs;have ai:=elR a4;exact We<|exO z (fun _ q=>b_t (som ai).symm ⟨J,L,O,H,q.k<|s1 z,(cM (cr [w0.z] G) sa (io sr):Chg (· ∈ [w0.z]) G W),hc,hd,(or1 he (io sr) (s_ lr):∀k∈H,k∈[w0.z]∨G.z<=k),iA _ _⟩)
     exact a_7<|fun _ q=>⟨g_ V 1,som<|ifF a5 hcs,q.k<|s5 z z z z z,br W,iA _ _⟩
    exact a_7<|fun _ q=>⟨V,som<|ifF a2 hcr,q.k<|s5 z z z z z,br W,ho⟩
   rintro aC a7 ⟨xf,rfl,_,si,_⟩;have ak:=elL a4;revert aC;refine Wo<|Wg<|RM z z<|Rm z ?_
   obtain ⟨aD,aE,al⟩:=bdS ak;refine RX z (at_ (α:=UInt8) p_ z_5 z z z (Y.g<|a6.e si) aE) ?_;rintro _ ⟨_,_,_,rfl,aF,aG,_⟩;obtain rfl:=u8 aG;refine R z (l0 g_5 z<|aF.at0 z)<|E z (fS [(.tmp 53)] a_9 z z z (a_c z) (lb z)<|lb z) ?_
   rintro _ a8 ⟨rfl,ht⟩;have hu:=ht.below;have aY:=a_x ht b_c;obtain ⟨aH,aI,am⟩:=bdS al;refine E z (a_O (α:=UInt8) a_9 aI z z ((hc.e si).e hu) hd (ht.blk:Blk a8 a7.z [vU (byteI aD)]) b_c an_ G_) ?_;rintro _ aJ ⟨a9,aK,aL,aM,rfl,aN,aO,aP,aQ⟩;refine Rw z<|Wg<|Rm z<|R z (add_ z z)<|Ra z<|Wl ?_
   have aa:∀k∈H,k∈[w0.z]∨G.z<=k:=or1 he (io sr)<|s_ lr;exact fun _ q=>⟨(aH,g_ xf 1),(som am).symm,⟨aK,aL,aM,a9,q.k<|s5 z z z z z,(cM (f_ (f_ (cM (cr [w0.z] G) sa (io sr):Chg (· ∈ [w0.z]) G W) si:Chg (· ∈ [w0.z]) G a7) hu:Chg (· ∈ [w0.z]) G a8) aN aa:Chg (· ∈ [w0.z]) G aJ),aO,aP,(or2 aQ aa an_ (s_<|lt_ (lt_ sa.s si.s) hu.s):∀k∈a9,k∈[w0.z]∨G.z<=k),iA _ _⟩⟩
  exact We<|fun _ q=>b_t (som<|ifF hmz hcp).symm ⟨J,L,O,H,q.k<|s1 z,(cM (cr [w0.z] G) sa (io sr):Chg (· ∈ [w0.z]) G W),hc,hd,(or1 he (io sr) (s_ lr):∀k∈H,k∈[w0.z]∨G.z<=k),ho⟩
 ·rintro ⟨xb,V⟩ aR aS rfl ⟨J,L,O,H,_,ab,hc,hd,he,ho⟩;have an:=elL hmy;revert aR;refine Wo<|Ws<|E z (f0 (α:=UInt8) a_9) ?_
  rintro _ _ ⟨aT,aU,aV,rfl,aW,aX⟩;refine Rm z<|RA z z<|Rw z ?_
  obtain rfl:=som<|a_G an;exact Wr<|F_ hr z z z ⟨bup (bM (bup s8 s6) ab<|c_ lr) aW,aT,aU,aV,[aS.z],z,aX,a0,a_k,m1<|lt_ (lt_ s8.s s6.s) ab.s⟩
 rintro _ _ _ _ rfl ⟨rfl,ao⟩;have ap:=elR hmy;obtain rfl:=som ap;exact ⟨ao,z⟩
def Q25 (w0:World)(B:Zone)(S2_1:List Nat)(S2_2:List Nat)(r:Val×Int×(Option<|Int×Int))(v:Value)(w':World):Prop:=Chg (· ∈ (S2_1++S2_2)) w0 w'/\un3 (fun G H W=>∃(I:Option Addr)(J L:Nat)(S1:List Nat)(a2:Option Addr)(O V:Nat)(S2:List Nat)(v3:Value)(S3:List Nat),v = .tuple #[(.agg #[vI G.number,sl I J L,sl a2 O V]),vI H,v3]/\inI G.number/\a_ w' S1 (sl I J L) G.bytes/\a_ w' S2 (sl a2 O V) G.items/\inI H/\a_D 102 w' S3 v3 W/\(∀k∈S3,w0.z<=k)/\(S1++S2).Nodup/\(∀k∈(S1++S2),k∈(S2_1++S2_2)∨w0.z<=k)) r
structure j_p (f:a_r->Int->Int->Option (Val×Int×(Option<|Int×Int))):Prop where
  run:∀{A0 A6:Option Addr}{N0 C0 N6 C6 b1 o1:Nat}{B:Zone}{x1:a_r}{x2:Int}{x3:Int}{res:Val×Int×(Option<|Int×Int)}{w0:World}(hm:f x1 x2 x3=some res)(hBw:B<=w0.z)(p1_0:repS w0 B (sl A0 N0 C0) x1.d.rules)(p1_1:repS w0 B (sl A6 N6 C6) x1.b)(hC1:W_ w0 b1 o1 [sl A0 N0 C0,sl A6 N6 C6])(hC1b:B b1)(p2_0:inI x2)(p3_0:inI x3),n_ prog 52 [(.pointer<|some ⟨b1,o1,none⟩),vI x2,vI x3] w0<|Q24 w0 B res
structure j_q (f:a_r->e_->Int->Option (Val×Int×(Option<|Int×Int))):Prop where
  run:∀{A0 A6 A2 A3 A1 A4:Option Addr}{N0 C0 N6 C6 b1 o1 N2 C2 N3 C3 N1 C1 N4 C4:Nat}{B:Zone}{x1:a_r}{x2:e_}{x3:Int}{res:Val×Int×(Option<|Int×Int)}{w0:World}(hm:f x1 x2 x3=some res)(hBw:B<=w0.z)(p1_0:repS w0 B (sl A0 N0 C0) x1.d.rules)(p1_1:repS w0 B (sl A6 N6 C6) x1.b)(hC1:W_ w0 b1 o1 [sl A0 N0 C0,sl A6 N6 C6])(hC1b:B b1)(p2_0:x2.name.b.length<=LEN)(p2_1:inI x2.kind)(p2_2:inI x2.size)(p2_4:repS w0 B (sl A2 N2 C2) x2.bytes)(p2_5:repS w0 B (sl A3 N3 C3) x2.names)(p2_6:repS w0 B (sl A1 N1 C1) x2.tags)(p2_7:repS w0 B (sl A4 N4 C4) x2.kids)(p3_0:inI x3),n_ prog 77 [(.pointer<|some ⟨b1,o1,none⟩),.agg #[Str.v x2.name,vI x2.kind,vI x2.size,vB x2.little,sl A2 N2 C2,sl A3 N3 C3,sl A1 N1 C1,sl A4 N4 C4],vI x3] w0<|Q24 w0 B res
structure j_r (f:a_r->Val->(List Int)->Int->Option (Val×Int×(Option<|Int×Int))):Prop where
  run:∀{A0 A6 AE AF A7:Option Addr}{N0 C0 N6 C6 b1 o1 NE CE NF CF N7 C7:Nat}{S2_1 S2_2:List Nat}{B:Zone}{x1:a_r}{x2:Val}{x3:List Int}{x4:Int}{res:Val×Int×(Option<|Int×Int)}{w0:World}(hm:f x1 x2 x3 x4=some res)(hBw:B<=w0.z)(p1_0:repS w0 B (sl A0 N0 C0) x1.d.rules)(p1_1:repS w0 B (sl A6 N6 C6) x1.b)(hC1:W_ w0 b1 o1 [sl A0 N0 C0,sl A6 N6 C6])(hC1b:B b1)(p2_0:inI x2.number)(p2_1:a_ w0 S2_1 (sl AE NE CE) x2.bytes)(p2_1n:S2_1.Nodup)(p2_1g:∀k∈S2_1,¬B k)(p2_2:a_ w0 S2_2 (sl AF NF CF) x2.items)(p2_2n:S2_2.Nodup)(p2_2g:∀k∈S2_2,¬B k)(p2_2d1:∀k∈S2_2,k∉S2_1)(p3_0:repS w0 B (sl A7 N7 C7) x3)(p4_0:inI x4),n_ prog 78 [(.pointer<|some ⟨b1,o1,none⟩),.agg #[vI x2.number,sl AE NE CE,sl AF NF CF],sl A7 N7 C7,vI x4] w0<|Q25 w0 B S2_1 S2_2 res
structure j_s (f:a_r->e_->Int->Option (Val×Int×(Option<|Int×Int))):Prop where
  run:∀{A0 A6 A2 A3 A1 A4:Option Addr}{N0 C0 N6 C6 b1 o1 N2 C2 N3 C3 N1 C1 N4 C4:Nat}{B:Zone}{x1:a_r}{x2:e_}{x3:Int}{res:Val×Int×(Option<|Int×Int)}{w0:World}(hm:f x1 x2 x3=some res)(hBw:B<=w0.z)(p1_0:repS w0 B (sl A0 N0 C0) x1.d.rules)(p1_1:repS w0 B (sl A6 N6 C6) x1.b)(hC1:W_ w0 b1 o1 [sl A0 N0 C0,sl A6 N6 C6])(hC1b:B b1)(p2_0:x2.name.b.length<=LEN)(p2_1:inI x2.kind)(p2_2:inI x2.size)(p2_4:repS w0 B (sl A2 N2 C2) x2.bytes)(p2_5:repS w0 B (sl A3 N3 C3) x2.names)(p2_6:repS w0 B (sl A1 N1 C1) x2.tags)(p2_7:repS w0 B (sl A4 N4 C4) x2.kids)(p3_0:inI x3),n_ prog 79 [(.pointer<|some ⟨b1,o1,none⟩),.agg #[Str.v x2.name,vI x2.kind,vI x2.size,vB x2.little,sl A2 N2 C2,sl A3 N3 C3,sl A1 N1 C1,sl A4 N4 C4],vI x3] w0<|Q24 w0 B res
structure j_t (f:a_r->e_->Int->Option (Val×Int×(Option<|Int×Int))):Prop where
  run:∀{A0 A6 A2 A3 A1 A4:Option Addr}{N0 C0 N6 C6 b1 o1 N2 C2 N3 C3 N1 C1 N4 C4:Nat}{B:Zone}{x1:a_r}{x2:e_}{x3:Int}{res:Val×Int×(Option<|Int×Int)}{w0:World}(hm:f x1 x2 x3=some res)(hBw:B<=w0.z)(p1_0:repS w0 B (sl A0 N0 C0) x1.d.rules)(p1_1:repS w0 B (sl A6 N6 C6) x1.b)(hC1:W_ w0 b1 o1 [sl A0 N0 C0,sl A6 N6 C6])(hC1b:B b1)(p2_0:x2.name.b.length<=LEN)(p2_1:inI x2.kind)(p2_2:inI x2.size)(p2_4:repS w0 B (sl A2 N2 C2) x2.bytes)(p2_5:repS w0 B (sl A3 N3 C3) x2.names)(p2_6:repS w0 B (sl A1 N1 C1) x2.tags)(p2_7:repS w0 B (sl A4 N4 C4) x2.kids)(p3_0:inI x3),n_ prog 80 [(.pointer<|some ⟨b1,o1,none⟩),.agg #[Str.v x2.name,vI x2.kind,vI x2.size,vB x2.little,sl A2 N2 C2,sl A3 N3 C3,sl A1 N1 C1,sl A4 N4 C4],vI x3] w0<|Q24 w0 B res
structure j_u (f:a_r->e_->Int->Option (Val×Int×(Option<|Int×Int))):Prop where
  run:∀{A0 A6 A2 A3 A1 A4:Option Addr}{N0 C0 N6 C6 b1 o1 N2 C2 N3 C3 N1 C1 N4 C4:Nat}{B:Zone}{x1:a_r}{x2:e_}{x3:Int}{res:Val×Int×(Option<|Int×Int)}{w0:World}(hm:f x1 x2 x3=some res)(hBw:B<=w0.z)(p1_0:repS w0 B (sl A0 N0 C0) x1.d.rules)(p1_1:repS w0 B (sl A6 N6 C6) x1.b)(hC1:W_ w0 b1 o1 [sl A0 N0 C0,sl A6 N6 C6])(hC1b:B b1)(p2_0:x2.name.b.length<=LEN)(p2_1:inI x2.kind)(p2_2:inI x2.size)(p2_4:repS w0 B (sl A2 N2 C2) x2.bytes)(p2_5:repS w0 B (sl A3 N3 C3) x2.names)(p2_6:repS w0 B (sl A1 N1 C1) x2.tags)(p2_7:repS w0 B (sl A4 N4 C4) x2.kids)(p3_0:inI x3),n_ prog 81 [(.pointer<|some ⟨b1,o1,none⟩),.agg #[Str.v x2.name,vI x2.kind,vI x2.size,vB x2.little,sl A2 N2 C2,sl A3 N3 C3,sl A1 N1 C1,sl A4 N4 C4],vI x3] w0<|Q24 w0 B res
abbrev e_8 (n:Nat):Prop:=j_p (a_g n).impl_fileReader_value/\j_q (a_g n).impl_fileReader_array/\j_r (a_g n).impl_fileReader_items/\j_s (a_g n).impl_fileReader_choice/\j_t (a_g n).impl_fileReader_option/\j_u (a_g n).impl_fileReader_checked
theorem T_w03 (ih:e_8 n):j_p (g_V n<|a_g n):=by
 obtain ⟨_,d5,d6,d7,d8,d9⟩:=ih
 constructor
 intro A0 A6 N0 C0 N6 C6 b1 o1 B x1 x2 x3 res w0 hm H L O hC1 hC1b cS I;unfold g_V at hm
 refine goG func52 z z z fun fn hr=>Ws<|E z (fa a_6) ?_
 rintro _ J ⟨rfl,bh⟩;have h2:=bh.below;have h3:Blk J w0.z [vI 0,sl none 0 0,sl none 0 0]:=bh.blk;refine Ra z<|Rw z<|Wm z<|R z (V_ z)<|Rf z k_S z<|Rf z R_ z ?_
 have h5:=hC1.e h2;refine R z (l0 T_ z<|h5.at (j:=0) z)<|Rm z ?_
 obtain ⟨W,da,b5⟩:=bdS hm;refine RX z (at_ (α:=e_) U_ m_ z z z (L.e h2) da) ?_;rintro _ ⟨_,_,_,rfl,db,dc,_⟩;obtain ⟨aa,nb,cc,ad,ne,cf,ah,ng,ci,aj,nk,cl,rfl,hq,ht,ho,hp,hu,hv,hn⟩:=a_m dc;refine R z (lN (vs:=vR W aa nb cc ad ne cf ah ng ci aj nk cl) I_ m_ z z fid db)<|E z (fa b_g) ?_
 rintro _ dd ⟨rfl,bi⟩;have G:=bi.below;refine E0 (fs0 (cur':=vR W aa nb cc ad ne cf ah ng ci aj nk cl) m_ z z (bi.blk:Blk dd J.z [(Str.v (⟨[]⟩:Str)),vI 0,vI 0,vB false,sl none 0 0,sl none 0 0,sl none 0 0,sl none 0 0]) z z z z) ?_;rintro _ _ ⟨V,de⟩;have h1:=de.one;refine Wn<|Wq<|Ws<|Rf z a_n z<|R z (l0 g_3 z<|V.at z)<|Wn<|Wb<|Ws<|Rq z z z<|Rw z<|Wc z (fun hcr=>?_) (fun hcr=>?_)
 ·refine Wm z<|RM z z ?_
  have bj:∀k∈[J.z],¬B k:=or0 (c_ lr)<|k_<|zt' H h2.s;have bk:=((h2.ag B).e G).c h1<|b_ bj
  have bm:=lt_ (lt_ h2.s G.s) h1.s;obtain ⟨bn,_,_,df,cT⟩:=v_<|ifT b5 hcr;refine E z (fc call74 z<|i_0 df (zt' H bm) (L.g bk) (O.g bk) ((h5.e G).c h1<|(b_ bj) _ hC1b) hC1b cS I) ?_;rintro _ _ ⟨bo,dg,dh,rfl,di,dj,dk,bp⟩;refine Rm z ?_
  iterate 3 refine Re z z z ?_
  refine RA z z<|Rw z<|Wm z<|R z (bP (parts:=[(0,.tmp 41)]) (cs:=[vI bn,sl none 0 0,sl none 0 0]) Y_ z z)<|RM z z<|E0 (fs0 (cur':=[vI bn,sl none 0 0,sl none 0 0]) i_ z z (((h3.e G).c h1<|djs<|mmr h3.lt).e bo) z z z z) ?_
  rintro _ _ ⟨dl,dm⟩;have bq:=dm.one;refine Ra z<|Rw z ?_
  obtain rfl:=som cT;exact Wr<|rtO<|F_ hr (r_ y_ i_ z dl z) z z ⟨bM (bup (bM (bup h2 G) h1<|m1 h2.s) bo) bq<|c_ lr,none,0,0,[],none,0,0,[],dg,dh,z,di,onL,onL,dj,dk.c bq<|j_ bp h3.lt<|lt_ G.s h1.s,l_ bp bm,nd0,al0⟩
 have b6:=ifF b5 hcr;refine Ws<|Rq z z z<|Rw z<|Wc z (fun hcs=>?_) (fun hcs=>?_)
 ·refine Wm z<|R z (lN (vs:=vR W aa nb cc ad ne cf ah ng ci aj nk cl) I_ m_ z z fid<|V.row 0 8 z)<|Rm z ?_
  have aC:∀k∈[J.z],¬B k:=or0 (c_ lr)<|k_<|zt' H h2.s;have br:=((h2.ag B).e G).c h1<|b_ aC
  have hw:=(G.ag B).c h1<|b_ aC
  have bs:=lt_ (lt_ h2.s G.s) h1.s;obtain ⟨_,_,dn,cU⟩:=a_t<|ifT b6 hcs;refine E z (fc call75 z<|W_w2q dn (zt' H bs) (L.g br) (O.g br) ((h5.e G).c h1<|(b_ aC) _ hC1b) hC1b hq ht ho (hp.g hw) (hu.g hw) (hv.g hw) (hn.g hw) I) ?_;rintro _ _ ⟨bt,dp,dq,rfl,dr,ds,bu⟩;refine Rm z<|Re z z z<|Re z z z<|Ra z<|Rw z<|Ws<|R z (bP (parts:=[]) (cs:=[vI 0,sl none 0 0,sl none 0 0]) Y_ z z)<|RM z z<|E0 (fs0 (cur':=[vI 0,sl none 0 0,sl none 0 0]) i_ z z (((h3.e G).c h1<|djs<|mmr h3.lt).e bt) z z z z) ?_
  rintro _ _ ⟨dt,du⟩;have bv:=du.one;refine Ra z<|Rw z ?_
  obtain rfl:=som cU;exact Wr<|rtO<|F_ hr (r_ y_ i_ z dt z) z z ⟨bM (bup (bM (bup h2 G) h1<|m1 h2.s) bt) bv<|c_ lr,none,0,0,[],none,0,0,[],dp,dq,z,ii z,onL,onL,dr,ds.c bv<|j_ bu h3.lt<|lt_ G.s h1.s,l_ bu bs,nd0,al0⟩
 have b7:=ifF b6 hcs;refine Ws<|Rq z z z<|Rw z<|Wc z (fun ar=>?_) (fun ar=>?_)
 ·refine Wm z<|Rm z<|Rf z a_z z<|R z (l0 g_3 z<|V.at z) ?_
  have bw:∀k∈[J.z],¬B k:=or0 (c_ lr)<|k_<|zt' H h2.s;have bx:=((h2.ag B).e G).c h1<|b_ bw
  have hx:=lt_ (lt_ h2.s G.s) h1.s;obtain ⟨dv,_,_,dw,cV⟩:=v_<|ifT b7 ar;refine E z (fc call76 z<|W_w1l dw (zt' H hx) (L.g bx) (O.g bx) ((h5.e G).c h1<|(b_ bw) _ hC1b) hC1b I ho) ?_;rintro _ _ ⟨bz,bA,bB,bC,dx,bD,bE,bF,dy,dz,dA,rfl,dB,dC,dD,dF,dG,bG,aD,hy⟩
  iterate 3 refine Re z z z ?_
  refine E0 (fs0 (cur':=[vI dv.number,sl bA bB bC,sl bD bE bF]) i_ z z (((h3.e G).c h1<|djs<|mmr h3.lt).e bz) z z z z) ?_;rintro _ _ ⟨dH,dI⟩;have hz:=dI.one;refine Ra z<|Rw z ?_
  obtain rfl:=som cV;have aE:=lt_ G.s h1.s;exact Wr<|rtO<|F_ hr (r_ y_ i_ z dH z) z z ⟨bM (bup (bM (bup h2 G) h1<|m1 h2.s) bz) hz<|c_ lr,bA,bB,bC,dx,bD,bE,bF,dy,dz,dA,z,dB,dC.c hz<|j_ (al_ hy) h3.lt aE,dD.c hz<|j_ (ar_ hy) h3.lt aE,dF,dG.c hz<|j_ bG h3.lt aE,l_ bG hx,na_ (nl_ aD) (nr_ aD)<|nj aD,aa_ (l_ (al_ hy) hx)<|l_ (ar_ hy) hx⟩
 have b8:=ifF b7 ar;refine Ws<|Rq z z z<|Rw z<|Wc z (fun au=>?_) (fun au=>?_)
 ·refine Wm z<|Rf z J_ z<|R z (l0 D_ z<|V.at z) ?_
  obtain ⟨_,dJ,cW⟩:=bdS<|ifT b8 au;have aF:∀k∈[J.z],¬B k:=or0 (c_ lr)<|k_<|zt' H h2.s;refine RX z (at_ (α:=Int) o_ z_3 z z z (hn.g<|(G.ag B).c h1<|b_ aF) dJ) ?_;rintro _ ⟨_,_,_,rfl,dK,dL,_⟩;obtain ⟨rfl,dN⟩:=M_ dL;refine R z (l0 g_3 z<|dK.at0 z)<|Rm z ?_
  have bH:=(h5.e G).c h1<|(b_ aF) _ hC1b
  have aG:=((h2.ag B).e G).c h1<|b_ aF
  have aH:=lt_ (lt_ h2.s G.s) h1.s;obtain ⟨_,_,_,dO,b9⟩:=v_ cW;refine E z (fc call74 z<|i_0 dO (zt' H aH) (L.g aG) (O.g aG) bH hC1b dN I) ?_;rintro _ _ ⟨s8,dP,dS,rfl,dT,dU,bI,bJ⟩;refine Rm z ?_
  iterate 3 refine Re z z z ?_
  refine RA z z<|Rw z<|Wq<|Wm z<|R z (d_6 d_8 z z bI)<|Wx z (fun av=>?_) (fun av=>?_)
  ·refine Ws<|R z (bP (parts:=[]) (cs:=[vI 0,sl none 0 0,sl none 0 0]) Y_ z z)<|RM z z<|E0 (fs0 (cur':=[vI 0,sl none 0 0,sl none 0 0]) i_ z z (((h3.e G).c h1<|djs<|mmr h3.lt).e s8) z z z z) ?_
   rintro _ _ ⟨dV,dW⟩;have bK:=dW.one;refine Ra z<|Rw z ?_
   obtain rfl:=som<|ifT b9 av;exact Wr<|rtO<|F_ hr (r_ y_ i_ z dV z) z z ⟨bM (bup (bM (bup h2 G) h1<|m1 h2.s) s8) bK<|c_ lr,none,0,0,[],none,0,0,[],dP,dS,z,ii z,onL,onL,I,bI.c bK<|j_ bJ h3.lt<|lt_ G.s h1.s,l_ bJ aH,nd0,al0⟩
  refine Wk<|Wm z<|RM z z ?_
  have bL:=aG.e s8;have Y:=lt_ aH s8.s;obtain ⟨dX,_,_,dY,cX⟩:=v_<|ifF b9 av;refine E z (fc call76 z<|W_w1l dY (zt' H Y) (L.g bL) (O.g bL) (bH.e s8) hC1b dU dT) ?_;rintro _ _ ⟨bN,bO,bQ,bR,dZ,bS,bT,bU,e0,e1,e2,rfl,e3,e4,e5,e6,e7,bV,aI,a0⟩
  iterate 3 refine Re z z z ?_
  refine E0 (fs0 (cur':=[vI dX.number,sl bO bQ bR,sl bS bT bU]) i_ z z ((((h3.e G).c h1<|djs<|mmr h3.lt).e s8).e bN) z z z z) ?_;rintro _ _ ⟨e8,e9⟩;have a1:=e9.one;refine Ra z<|Rw z ?_
  obtain rfl:=som cX;have aJ:=lt_ (lt_ G.s h1.s) s8.s;exact Wr<|rtO<|F_ hr (r_ y_ i_ z e8 z) z z ⟨bM (bup (bup (bM (bup h2 G) h1<|m1 h2.s) s8) bN) a1<|c_ lr,bO,bQ,bR,dZ,bS,bT,bU,e0,e1,e2,z,e3,e4.c a1<|j_ (al_ a0) h3.lt aJ,e5.c a1<|j_ (ar_ a0) h3.lt aJ,e6,e7.c a1<|j_ bV h3.lt aJ,l_ bV Y,na_ (nl_ aI) (nr_ aI)<|nj aI,aa_ (l_ (al_ a0) Y)<|l_ (ar_ a0) Y⟩
 have ba:=ifF b8 au;refine Ws<|Rq z z z<|Rw z<|Wc z (fun aw=>?_) (fun aw=>?_)
 ·refine Wm z<|R z (lN (vs:=vR W aa nb cc ad ne cf ah ng ci aj nk cl) I_ m_ z z fid<|V.row 0 8 z)<|Rm z ?_
  have aK:∀k∈[J.z],¬B k:=or0 (c_ lr)<|k_<|zt' H h2.s;have bW:=((h2.ag B).e G).c h1<|b_ aK
  have a2:=(G.ag B).c h1<|b_ aK
  have a3:=lt_ (lt_ h2.s G.s) h1.s;obtain ⟨ea,_,_,eb,cY⟩:=v_<|ifT ba aw;refine E z (fc call77 z<|d5.run eb (zt' H a3) (L.g bW) (O.g bW) ((h5.e G).c h1<|(b_ aK) _ hC1b) hC1b hq ht ho (hp.g a2) (hu.g a2) (hv.g a2) (hn.g a2) I) ?_;rintro _ _ ⟨bX,bY,bZ,c0,ec,c1,c2,c3,ed,ee,ef,rfl,eg,eh,ei,ej,ek,c4,aL,a4⟩
  iterate 3 refine Re z z z ?_
  refine E0 (fs0 (cur':=[vI ea.number,sl bY bZ c0,sl c1 c2 c3]) i_ z z (((h3.e G).c h1<|djs<|mmr h3.lt).e bX) z z z z) ?_;rintro _ _ ⟨em,en⟩;have a5:=en.one;refine Ra z<|Rw z ?_
  obtain rfl:=som cY;have aM:=lt_ G.s h1.s;exact Wr<|rtO<|F_ hr (r_ y_ i_ z em z) z z ⟨bM (bup (bM (bup h2 G) h1<|m1 h2.s) bX) a5<|c_ lr,bY,bZ,c0,ec,c1,c2,c3,ed,ee,ef,z,eg,eh.c a5<|j_ (al_ a4) h3.lt aM,ei.c a5<|j_ (ar_ a4) h3.lt aM,ej,ek.c a5<|j_ c4 h3.lt aM,l_ c4 a3,na_ (nl_ aL) (nr_ aL)<|nj aL,aa_ (l_ (al_ a4) a3)<|l_ (ar_ a4) a3⟩
 have bb:=ifF ba aw;refine Ws<|Rq z z z<|Rw z<|Wc z (fun ax=>?_) (fun ax=>?_)
 ·refine Wm z<|R z (bP (parts:=[]) (cs:=[vI 0,sl none 0 0,sl none 0 0]) Y_ z z)<|Rf z J_ z<|R z (l0 D_ z<|V.at z)<|Rm z ?_
  have aN:∀k∈[J.z],¬B k:=or0 (c_ lr)<|k_<|zt' H h2.s;have c5:=((h2.ag B).e G).c h1<|b_ aN
  have a6:=lt_ (lt_ h2.s G.s) h1.s;obtain ⟨eo,_,_,ep,cZ⟩:=v_<|ifT bb ax;refine E z (fc call78 z<|d6.run (B:=B) (x2:=(⟨0,([]:List UInt8),([]:List Val)⟩:Val)) ep (zt' H a6) (L.g c5) (O.g c5) ((h5.e G).c h1<|(b_ aN) _ hC1b) hC1b (ii z) onL G_ an_ onL G_ an_ an_ (hn.g<|(G.ag B).c h1<|b_ aN) I) ?_;rintro _ _ ⟨c6,c7,c8,c9,ca,cb,cd,ce,cg,er,es,rfl,eu,ew,ex,ey,ez,ch,aO,a7⟩
  iterate 3 refine Re z z z ?_
  refine E0 (fs0 (cur':=[vI eo.number,sl c7 c8 c9,sl cb cd ce]) i_ z z (((h3.e G).c h1<|djs<|mmr h3.lt).c c6<|atp<|nmA (nmN _)<|nmN _) z z z z) ?_;rintro _ _ ⟨eA,eB⟩;have a8:=eB.one;refine Ra z<|Rw z ?_
  obtain rfl:=som cZ;have aP:=lt_ G.s h1.s;exact Wr<|rtO<|F_ hr (r_ y_ i_ z eA z) z z ⟨bM (bM (bM (bup h2 G) h1<|m1 h2.s) c6 al0) a8<|c_ lr,c7,c8,c9,ca,cb,cd,ce,cg,er,es,z,eu,ew.c a8 (or1 (al_ a7) al0 (O_ (c_ h3.lt) aP):∀k∈ca,k∉[w0.z]),ex.c a8 (or1 (ar_ a7) al0 (O_ (c_ h3.lt) aP):∀k∈cg,k∉[w0.z]),ey,ez.c a8<|j_ ch h3.lt aP,l_ ch a6,na_ (nl_ aO) (nr_ aO)<|nj aO,aa_ (a_i (al_ a7) al0 a6)<|a_i (ar_ a7) al0 a6⟩
 have bc:=ifF bb ax;refine Ws<|Rq z z z<|Rw z<|Wc z (fun ay=>?_) (fun ay=>?_)
 ·refine Wm z<|R z (lN (vs:=vR W aa nb cc ad ne cf ah ng ci aj nk cl) I_ m_ z z fid<|V.row 0 8 z)<|Rm z ?_
  have aQ:∀k∈[J.z],¬B k:=or0 (c_ lr)<|k_<|zt' H h2.s;have cj:=((h2.ag B).e G).c h1<|b_ aQ
  have a9:=(G.ag B).c h1<|b_ aQ
  have ab:=lt_ (lt_ h2.s G.s) h1.s;obtain ⟨eC,_,_,eD,d0⟩:=v_<|ifT bc ay;refine E z (fc call79 z<|d7.run eD (zt' H ab) (L.g cj) (O.g cj) ((h5.e G).c h1<|(b_ aQ) _ hC1b) hC1b hq ht ho (hp.g a9) (hu.g a9) (hv.g a9) (hn.g a9) I) ?_;rintro _ _ ⟨ck,cm,cn,co,eE,cp,cq,cr,eF,eG,eH,rfl,eI,eJ,eK,eL,eM,ct,aR,ae⟩
  iterate 3 refine Re z z z ?_
  refine E0 (fs0 (cur':=[vI eC.number,sl cm cn co,sl cp cq cr]) i_ z z (((h3.e G).c h1<|djs<|mmr h3.lt).e ck) z z z z) ?_;rintro _ _ ⟨eN,eO⟩;have af:=eO.one;refine Ra z<|Rw z ?_
  obtain rfl:=som d0;have aS:=lt_ G.s h1.s;exact Wr<|rtO<|F_ hr (r_ y_ i_ z eN z) z z ⟨bM (bup (bM (bup h2 G) h1<|m1 h2.s) ck) af<|c_ lr,cm,cn,co,eE,cp,cq,cr,eF,eG,eH,z,eI,eJ.c af<|j_ (al_ ae) h3.lt aS,eK.c af<|j_ (ar_ ae) h3.lt aS,eL,eM.c af<|j_ ct h3.lt aS,l_ ct ab,na_ (nl_ aR) (nr_ aR)<|nj aR,aa_ (l_ (al_ ae) ab)<|l_ (ar_ ae) ab⟩
 have be:=ifF bc ay;refine Ws<|Rq z z z<|Rw z<|Wc z (fun az=>?_) (fun az=>?_)
 ·refine Wm z<|R z (lN (vs:=vR W aa nb cc ad ne cf ah ng ci aj nk cl) I_ m_ z z fid<|V.row 0 8 z)<|Rm z ?_
  have aT:∀k∈[J.z],¬B k:=or0 (c_ lr)<|k_<|zt' H h2.s;have cu:=((h2.ag B).e G).c h1<|b_ aT
  have ai:=(G.ag B).c h1<|b_ aT
  have ak:=lt_ (lt_ h2.s G.s) h1.s;obtain ⟨eP,_,_,eQ,d1⟩:=v_<|ifT be az;refine E z (fc call80 z<|d8.run eQ (zt' H ak) (L.g cu) (O.g cu) ((h5.e G).c h1<|(b_ aT) _ hC1b) hC1b hq ht ho (hp.g ai) (hu.g ai) (hv.g ai) (hn.g ai) I) ?_;rintro _ _ ⟨cv,cw,cx,cy,eR,cz,cA,cB,eS,eT,eU,rfl,eV,eW,eX,eY,eZ,cC,aU,al⟩
  iterate 3 refine Re z z z ?_
  refine E0 (fs0 (cur':=[vI eP.number,sl cw cx cy,sl cz cA cB]) i_ z z (((h3.e G).c h1<|djs<|mmr h3.lt).e cv) z z z z) ?_;rintro _ _ ⟨f0,f1⟩;have am:=f1.one;refine Ra z<|Rw z ?_
  obtain rfl:=som d1;have aV:=lt_ G.s h1.s;exact Wr<|rtO<|F_ hr (r_ y_ i_ z f0 z) z z ⟨bM (bup (bM (bup h2 G) h1<|m1 h2.s) cv) am<|c_ lr,cw,cx,cy,eR,cz,cA,cB,eS,eT,eU,z,eV,eW.c am<|j_ (al_ al) h3.lt aV,eX.c am<|j_ (ar_ al) h3.lt aV,eY,eZ.c am<|j_ cC h3.lt aV,l_ cC ak,na_ (nl_ aU) (nr_ aU)<|nj aU,aa_ (l_ (al_ al) ak)<|l_ (ar_ al) ak⟩
 have bf:=ifF be az;refine Ws<|Rq z z z<|Rw z<|Wc z (fun aA=>?_) (fun aA=>?_)
 ·refine Wm z<|R z (lN (vs:=vR W aa nb cc ad ne cf ah ng ci aj nk cl) I_ m_ z z fid<|V.row 0 8 z)<|Rm z ?_
  have aW:∀k∈[J.z],¬B k:=or0 (c_ lr)<|k_<|zt' H h2.s;have cD:=((h2.ag B).e G).c h1<|b_ aW
  have an:=(G.ag B).c h1<|b_ aW
  have ao:=lt_ (lt_ h2.s G.s) h1.s;obtain ⟨f2,_,_,f3,d2⟩:=v_<|ifT bf aA;refine E z (fc call81 z<|d9.run f3 (zt' H ao) (L.g cD) (O.g cD) ((h5.e G).c h1<|(b_ aW) _ hC1b) hC1b hq ht ho (hp.g an) (hu.g an) (hv.g an) (hn.g an) I) ?_;rintro _ _ ⟨cE,cF,cG,cH,f4,cI,cJ,cK,f5,f6,f7,rfl,f8,f9,fb,fe,ff,cL,aX,ap⟩
  iterate 3 refine Re z z z ?_
  refine E0 (fs0 (cur':=[vI f2.number,sl cF cG cH,sl cI cJ cK]) i_ z z (((h3.e G).c h1<|djs<|mmr h3.lt).e cE) z z z z) ?_;rintro _ _ ⟨fg,fh⟩;have aq:=fh.one;refine Ra z<|Rw z ?_
  obtain rfl:=som d2;have aY:=lt_ G.s h1.s;exact Wr<|rtO<|F_ hr (r_ y_ i_ z fg z) z z ⟨bM (bup (bM (bup h2 G) h1<|m1 h2.s) cE) aq<|c_ lr,cF,cG,cH,f4,cI,cJ,cK,f5,f6,f7,z,f8,f9.c aq<|j_ (al_ ap) h3.lt aY,fb.c aq<|j_ (ar_ ap) h3.lt aY,fe,ff.c aq<|j_ cL h3.lt aY,l_ cL ao,na_ (nl_ aX) (nr_ aX)<|nj aX,aa_ (l_ (al_ ap) ao)<|l_ (ar_ ap) ao⟩
 refine Wk<|Wq (Wd (X:=noX) 0 (pl_ 17 [9]) mo (by kernel_rfl) fun fz s6 _=>dM z z z<|dR z z (V_ z)<|dR z z (fd e_I z) ?_)
 have aZ:∀k∈[J.z],¬B k:=or0 (c_ lr)<|k_<|zt' H h2.s;refine dR z z (l0 P_ z<|(((h5.e G).c h1<|(b_ aZ) _ hC1b).e s6).at (j:=1) z)<|dM z z z<|dR z z (fd a_R z)<|dR z z (l0 P_ z<|(V.e s6).at z) ?_
 obtain ⟨_,fi,d3⟩:=bdS<|ifF bf aA;refine dRX z z (at_ (α:=UInt8) p_ z_5 z z z (hp.g<|((G.ag B).c h1<|b_ aZ).e s6) fi) ?_;rintro _ ⟨_,_,_,rfl,fj,fk,_⟩;obtain rfl:=u8 fk;refine dR z z (l0 g_5 z<|fj.at0 z) ?_;have b0:=lt_ (lt_ (lt_ h2.s G.s) h1.s) s6.s;obtain ⟨_,_,_,fl,bg⟩:=v_ d3;refine dE z z (fc call82 z<|W_w1n fl (zt' H b0) (O.g<|(((h2.ag B).e G).c h1<|b_ aZ).e s6) I) (.inr fun _ _ h=>w_<|h.1) ?_;rintro _ _ ⟨sm,b2,b3,b4,fm,rfl,fo,fp,fq,cM⟩;refine dM z z z ?_
 iterate 3 refine dR z z (ext_ z z) ?_
 iterate 3 refine dQ z z z ?_
 refine pD<|Wo<|Wq<|Wm z<|R z (not_ z)<|Wx z (fun aB=>?_) (fun aB=>?_)
 ·refine Ws<|R z (bP (parts:=[]) (cs:=[vI 0,sl none 0 0,sl none 0 0]) Y_ z z)<|RM z z ?_
  have cN:=lt_ b0 sm.s;obtain ⟨_,fr,d4⟩:=bdS<|ifT bg aB;refine E z (fc call83 z<|d_B fr (zt' H cN) I<|ii z) ?_;rintro _ _ ⟨cO,fs,ft,rfl,fu,cP⟩;refine E0 (fs0 (cur':=[vI 0,sl none 0 0,sl none 0 0]) i_ z z (((((h3.e G).c h1<|djs<|mmr h3.lt).e s6).e sm).e cO) z z z z) ?_;rintro _ _ ⟨fv,fw⟩;have cQ:=fw.one;refine Ra z<|Rw z ?_
  obtain rfl:=som d4;exact Wr<|F_ hr (r_ y_ i_ z fv z) z z ⟨bM (bup (bup (bup (bM (bup h2 G) h1<|m1 h2.s) s6) sm) cO) cQ<|c_ lr,none,0,0,[],none,0,0,[],fs,ft,z,ii z,onL,onL,I,fu.c cQ<|j_ cP h3.lt<|lt_ (lt_ (lt_ G.s h1.s) s6.s) sm.s,l_ cP cN,nd0,al0⟩
 refine Wk<|Wm z<|R z (bP (parts:=[(1,.tmp 159)]) (cs:=[vI 0,sl b2 b3 b4,sl none 0 0]) Y_ z z)<|Rm z<|E0 (fs0 (cur':=[vI 0,sl b2 b3 b4,sl none 0 0]) i_ z z ((((h3.e G).c h1<|djs<|mmr h3.lt).e s6).e sm) z z z z) ?_
 rintro _ _ ⟨fx,fy⟩;have cR:=fy.one;refine Ra z<|Rw z ?_
 obtain rfl:=som<|ifF bg aB;exact Wr<|F_ hr (r_ y_ i_ z fx z) z z ⟨bM (bup (bup (bM (bup h2 G) h1<|m1 h2.s) s6) sm) cR<|c_ lr,b2,b3,b4,fm,none,0,0,[],.nilIface,([]:List Nat),z,ii z,fo.c cR<|j_ cM h3.lt<|lt_ (lt_ G.s h1.s) s6.s,onL,fp,d_x,an_,na_ fq G_<|nmN _,aa_ (l_ cM b0) an_⟩
end Go.Vw
