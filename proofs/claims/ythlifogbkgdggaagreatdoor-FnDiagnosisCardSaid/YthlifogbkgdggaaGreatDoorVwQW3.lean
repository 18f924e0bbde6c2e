
import Derived.Test.YthlifogbkgdggaaGreatDoorVwQW2
set_option linter.unusedVariables false
namespace Go.Vw
open Go.RowKit Dat Go.Proofs
open Go.Proofs.Tryz
open Go.Vw renaming b_K->Wq,c_b->Wg,WC.of_KC->Wo,b_U->Wl,e_E->Wc,d_R->Wr,h_X->Wu,h_K->pT,h_L->pF,g_D->fd,f_6->l1,e_6->lN,c_i->mv,b_N->asg,h_M->lnR,g_I->lss,f_7->eql,e_8->ext_,g_o->bP,g_E->add_,h_y->inc_,i_3->not_,h_N->at_,d_U->fc,d_T->fs,d_S->fb,g_e->fa,h_D->sr,h_I->cr,h_J->cM,h_H->bM,h_w->iS,h_v->iA,g_i->br,g_k->oA,h_z->bs,ltge->lg,inor->io,i_2->nq,i_0->lnT,i_1->sb_,h_B->ar_,h_A->al_,h_C->ds,i_X->m1,h_F->nr_,h_E->nl_,g_m->aa_,d_r->an_,e_D->Wb,g_j->u8,g_b->pD,h_l->We,h_x->Wt,h_u->fS,e_B->or_,h_Y->Wf,h_U->qL,g_a->Wd,h_Q->fN,g_n->na_,h_G->nj,h_R->f0,h_P->rX,h_S->tl_,h_T->ic
variable {A0:Option Addr}{N0 C0:Nat}{B:Zone}{w0:World}{n:Nat}{A6:Option Addr}{N6 C6:Nat}{A9:Option Addr}{A8:Option Addr}{AA:Option Addr}{AB:Option Addr}{N9 C9:Nat}{N8 C8:Nat}{NA CA:Nat}{NB CB:Nat}{A2:Option Addr}{A4:Option Addr}{A1:Option Addr}{A3:Option Addr}{N2 C2:Nat}{N4 C4:Nat}{N1 C1:Nat}{N3 C3:Nat}{A5:Option Addr}{N5 C5:Nat}{A7:Option Addr}{N7 C7:Nat}
theorem T_w1c (ih:e_q n):i_Q (f_D n<|a_b n):=by
 obtain ⟨am,_,_,_,_⟩:=ih
 constructor
 intro A0 A2 A4 A1 A3 AC N0 C0 N2 C2 N4 C4 N1 C1 N3 C3 NC CC B x1 x2 x3 x4 x5 x6 res w0 hm V ai aL aM aN aO aP aQ aR aS aj ak ck;unfold f_D at hm
 refine goG func79 z z z fun fn hr=>Ws<|E z (fb z) ?_
 rintro _ a4 ⟨rfl,aX⟩;have hd:=aX.below;have an:Blk a4 w0.z [sl A0 N0 C0]:=aX.blk;refine E z (fb z) ?_;rintro _ wr ⟨rfl,aY⟩;have hb:=aY.below;have ao:Blk wr a4.z (vR x2 A2 N2 C2 A4 N4 C4 A1 N1 C1 A3 N3 C3):=aY.blk;refine E z (fa a_N) ?_;rintro _ G ⟨rfl,aZ⟩;have h5:=aZ.below;have hu:Blk G wr.z [vI 0,sl none 0 0,sl none 0 0]:=aZ.blk;refine Ra z<|Rw z<|Ws<|R z (bP (parts:=[]) (cs:=[vI 0,sl none 0 0,sl none 0 0]) a_M z z)<|E z (fa a_N) ?_
 rintro _ cA ⟨rfl,b0⟩;have h3:=b0.below;have hv:Blk cA G.z [vI 0,sl none 0 0,sl none 0 0]:=b0.blk;refine E0 (fs0 (cur':=[vI 0,sl none 0 0,sl none 0 0]) t_ z z hv z z z z) ?_;rintro _ I ⟨cB,cC⟩;have H:=cC.one;refine Wn<|Wq<|Ws<|Rw z ?_
 obtain ⟨_,cl,aT⟩:=bdS hm;refine Wf (σ:=Int×(List Val)) (ρ:=Val×Int×Int) (fun (ap:Nat) s a w=>un2 (fun xc xp=>∃L O ca J,Sat 52 [(2,vI x3),(3,vI x4),(4,sl AC NC CC),(5,vI xc),(6,pt w0.z),(7,pt a4.z),(12,pt wr.z),(15,pt G.z),(16,vI ((ap:Nat):Int))] a/\Chg (· ∈ [G.z]) I w/\inI xc/\a_ w J (sl L O ca) xp/\J.Nodup/\(∀k∈J,I.z<=k)/\Blk w G.z [vI 0,sl none 0 0,sl L O ca]) s) (fun s a w=>un2 (fun xc xp=>∃L O ca J,Sat 52 [(5,vI xc),(12,pt wr.z),(15,pt G.z)] a/\Chg (· ∈ [G.z]) I w/\inI xc/\a_ w J (sl L O ca) xp/\J.Nodup/\(∀k∈J,I.z<=k)/\Blk w G.z [vI 0,sl none 0 0,sl L O ca]) s) (rQ prog fn<|Q23 w0 B) cl ?_ ?_ ?_ ?_ ?_
 ·exact fun _ q=>⟨none,0,0,[],q.k<|s9 z z z z z z z z z,cr [G.z] I,ck,onL,H_,an_,cB⟩
 ·rintro ap ⟨xc,xp⟩ _ wg _ a3 ⟨L,O,ca,J,cm,s4,hh,hi,hw,he,hx⟩ cn;refine Wu ?_ cm;refine Wq<|Wm z<|Rm z<|Rl z z z<|Wx z (fun _=>?_) (fun hc=>(g_q a3 hc).elim)
  refine Wk<|Wq<|Wb<|Wq ?_
  obtain ⟨cD,aU,co⟩:=bdS<|a_B cn;refine Wt (fun a w=>∃(xj:Int)(a5:List UInt8)(a6:List Val)(xs:Int)(a7:Int),(xj,a5,a6,xs,a7)=cD/\∃ay nz W Sk Y a0 a1 Sl gq,Sat 52 [(2,vI x3),(3,vI x4),(4,sl AC NC CC),(6,pt w0.z),(7,pt a4.z),(12,pt wr.z),(15,pt G.z),(16,vI ((ap:Nat):Int)),(17,pt gq),(18,vI xs),(19,vI a7)] a/\Below wg.z wg w/\inI xj/\a_ w Sk (sl ay nz W) a5/\Sk.Nodup/\(∀k∈Sk,wg.z<=k)/\a_ w Sl (sl Y a0 a1) a6/\Sl.Nodup/\(∀k∈Sl,wg.z<=k)/\(∀k∈Sl,k∉Sk)/\inI xs/\inI a7/\Blk w gq [vI xj,sl ay nz W,sl Y a0 a1]/\wg.z<=gq/\(∀k∈Sk,k∉[gq])/\(∀k∈Sl,k∉[gq])) ?_ ?_
  ·refine Wd (X:=fun k=>k∈([]:List Nat)∨wg.z<=k) 0 (.rd 0<|.rd 1<|.rd 2<|.rd 3<|.rd 5<|.rd 6<|.br 4 (.br 7 (.rd 8<|.rd 9<|.rd 10<|.rd 11<|.ef 12<|.ef 13<|.rd 14<|.rd 15 .done) 12<|.ef 7<|.rd 8<|.rd 9<|.rd 10<|.rd 11<|.ef 13<|.rd 14<|.rd 15 .done) 12<|.ef 4<|.ef 7<|.rd 8<|.rd 9<|.rd 10<|.rd 11<|.ef 13<|.rd 14<|.rd 15 .done) mo (by kernel_rfl) fun b3 s7 _=>?_
   have b4:=lt_ hb.s h5.s;have b5:=mm1 an.lt b4;refine dR z z (lN (vs:=[sl A0 N0 C0]) s_ p_ z z (a_p nm0<|Nat.lt_of_lt_of_le an.lt<|lt_ (lt_ (lt_ b4 h3.s) H.s) s4.s)<|((((((an.e hb).e h5).e h3).c H<|djs b5).c s4<|djs b5).e s7).row 0 1 z) ?_;have b6:=mm1 ao.lt h5.s;refine dR z z (lN (vs:=vR x2 A2 N2 C2 A4 N4 C4 A1 N1 C1 A3 N3 C3) I_ k_ z z (a_p nm0<|Nat.lt_of_lt_of_le ao.lt<|lt_ (lt_ (lt_ h5.s h3.s) H.s) s4.s)<|(((((ao.e h5).e h3).c H<|djs b6).c s4<|djs b6).e s7).row 0 8 z) ?_
   iterate 4 refine dM z z z ?_
   refine e_G ?_ ?_
   ·have b7:=lt_ (lt_ hd.s hb.s) h5.s;have b8:∀k∈[G.z],¬B k:=or0 (b_ lr)<|i_<|zt' V b7;have ht:=((((((hd.ag B).e hb).e h5).e h3).c H<|c_ b8).c s4<|c_ b8).e s7;have aq:=lt_ (lt_ (lt_ (lt_ b7 h3.s) H.s) s4.s) s7.s;obtain ⟨_,cE,aV⟩:=bdS aU;refine dE z z (fc call52 z<|e_o cE (zt' V aq) aL aM aN (aO.g ht) (aP.g ht) (aQ.g ht) (aR.g ht) aS<|ic (Nat.le_of_lt a3)<|tl_ aj) (.inr fun _ _ h=>B_<|h.1) ?_;rintro _ b9 ⟨sf,rfl,ba⟩;refine e_G ?_ ?_
    ·have bb:=ht.e sf;obtain ⟨a9,cF,cG,cH,cp⟩:=u_ aV;refine dE z z (fc call53 z<|am.run cH (zt' V<|lt_ aq sf.s) (ai.g bb) ba (ak.g bb) hh) (.inr fun _ _ h=>B_<|h.1) ?_;rintro _ bc ⟨be,bf,bg,bh,cI,bi,bj,bk,cJ,rfl,cK,bm,bn,cL,cN,ar,bo⟩;refine dM z z z ?_
     iterate 3 refine dR z z (ext_ z z) ?_
     refine dE z z (fa a_N) (.inr fun _ _ h=>B_<|h.2.below) ?_;rintro _ cO ⟨rfl,bp⟩;have au:=bp.below;have av:=lt_ s7.s sf.s;have aw:=m1<|lt_ av be.s
     refine dE0 z (fs0 (cur':=[vI a9.number,sl bf bg bh,sl bi bj bk]) t_ z z (bp.blk:Blk cO bc.z [vI 0,sl none 0 0,sl none 0 0]) z z z z) (.inr fun _ _ h=>e_2 (atp aw) h.2) ?_;rintro _ _ ⟨cP,cQ⟩;have ax:=cQ.one;refine dQ z z z<|dQ z z z<|pD ?_
     have bq:=mnr<|a_.lt bm
     have bs:=mnr<|a_.lt bn
     exact fun _ q=>⟨a9.number,a9.bytes,a9.items,cF,cG,som cp,bf,bg,bh,cI,bi,bj,bk,cJ,bc.z,q.k<|sc z<|sc z<|sc z<|sc z<|sc z<|sc z<|sc z<|sc z<|sc z<|sc z<|sc z sn,bM (bup (bup (bup s7 sf) be) au) ax aw,cK,(bm.e au).c ax<|ds bq,nl_ ar,w_ (al_ bo) av,(bn.e au).c ax<|ds bs,nr_ ar,w_ (ar_ bo) av,ds<|nj ar,cL,cN,cP,atp aw,ds bq,ds bs⟩
    refine dE z z (fa a_N) (.inr fun _ _ h=>B_<|h.2.below) ?_;rintro _ cR ⟨rfl,bt⟩;have aa:=bt.below;have az:Blk cR b9.z [vI 0,sl none 0 0,sl none 0 0]:=bt.blk;have bu:=(ht.e sf).e aa;obtain ⟨ab,cS,cT,cU,cq⟩:=u_ aV;refine dE z z (fc call53 z<|am.run cU (zt' V<|lt_ (lt_ aq sf.s) aa.s) (ai.g bu) ba (ak.g bu) hh) (.inr fun _ _ h=>B_<|h.1) ?_;rintro _ _ ⟨bv,bw,bx,bz,cV,bA,bB,bC,cW,rfl,cX,cY,cZ,d0,d1,aA,ad⟩;refine dM z z z ?_
    iterate 3 refine dR z z (ext_ z z) ?_
    have bD:=lt_ s7.s sf.s;have aB:=m1 bD;refine dE0 z (fs0 (cur':=[vI ab.number,sl bw bx bz,sl bA bB bC]) t_ z z (az.e bv) z z z z) (.inr fun _ _ h=>e_2 (atp aB) h.2) ?_;rintro _ _ ⟨d2,d3⟩;have aC:=d3.one;refine dQ z z z<|dQ z z z<|pD ?_
    have bE:=m_ (al_ ad) az.lt lr;have bF:=lt_ bD aa.s;have bG:=m_ (ar_ ad) az.lt lr;exact fun _ q=>⟨ab.number,ab.bytes,ab.items,cS,cT,som cq,bw,bx,bz,cV,bA,bB,bC,cW,b9.z,q.k<|sc z<|sc z<|sc z<|sc z<|sc z<|sc z<|sc z<|sc z<|sc z<|sc z<|sc z sn,bM (bup (bup (bup s7 sf) aa) bv) aC aB,cX,cY.c aC bE,nl_ aA,w_ (al_ ad) bF,cZ.c aC bG,nr_ aA,w_ (ar_ ad) bF,ds<|nj aA,d0,d1,d2,atp aB,bE,bG⟩
   refine dE z z (fa a_N) (.inr fun _ _ h=>B_<|h.2.below) ?_;rintro _ d4 ⟨rfl,bH⟩;have ae:=bH.below;have aD:Blk d4 b3.z [vI 0,sl none 0 0,sl none 0 0]:=bH.blk;have bI:=lt_ (lt_ hd.s hb.s) h5.s;have bJ:∀k∈[G.z],¬B k:=or0 (b_ lr)<|i_<|zt' V bI;have a2:=(((((((hd.ag B).e hb).e h5).e h3).c H<|c_ bJ).c s4<|c_ bJ).e s7).e ae;have bK:=lt_ (lt_ (lt_ (lt_ (lt_ bI h3.s) H.s) s4.s) s7.s) ae.s;obtain ⟨_,d5,ct⟩:=bdS aU;refine dE z z (fc call52 z<|e_o d5 (zt' V bK) aL aM aN (aO.g a2) (aP.g a2) (aQ.g a2) (aR.g a2) aS<|ic (Nat.le_of_lt a3)<|tl_ aj) (.inr fun _ _ h=>B_<|h.1) ?_;rintro _ _ ⟨sm,rfl,d6⟩;have bL:=a2.e sm;obtain ⟨af,d7,d8,d9,cu⟩:=u_ ct;refine dE z z (fc call53 z<|am.run d9 (zt' V<|lt_ bK sm.s) (ai.g bL) d6 (ak.g bL) hh) (.inr fun _ _ h=>B_<|h.1) ?_;rintro _ _ ⟨bN,bO,bQ,bR,da,bS,bT,bU,db,rfl,dc,dd,de,df,dg,aE,ah⟩;refine dM z z z ?_
   iterate 3 refine dR z z (ext_ z z) ?_
   have aF:=m1 s7.s;refine dE0 z (fs0 (cur':=[vI af.number,sl bO bQ bR,sl bS bT bU]) t_ z z ((aD.e sm).e bN) z z z z) (.inr fun _ _ h=>e_2 (atp aF) h.2) ?_;rintro _ _ ⟨dh,di⟩;have aG:=di.one;refine dQ z z z<|dQ z z z<|pD ?_
   have bV:=m_ (al_ ah) aD.lt sm.s;have bW:=lt_ (lt_ s7.s ae.s) sm.s;have bX:=m_ (ar_ ah) aD.lt sm.s;exact fun _ q=>⟨af.number,af.bytes,af.items,d7,d8,som cu,bO,bQ,bR,da,bS,bT,bU,db,b3.z,q.k<|sc z<|sc z<|sc z<|sc z<|sc z<|sc z<|sc z<|sc z<|sc z<|sc z<|sc z sn,bM (bup (bup (bup s7 ae) sm) bN) aG aF,dc,dd.c aG bV,nl_ aE,w_ (al_ ah) bW,de.c aG bX,nr_ aE,w_ (ar_ ah) bW,ds<|nj aE,df,dg,dh,atp aF,bV,bX⟩
  rintro dj bY ⟨xj,a5,a6,xs,a7,rfl,ay,nz,W,Sk,Y,a0,a1,Sl,gq,_,so,dk,dl,dm,aH,dn,dp,aI,dq,bZ,dr,dt,_,_,_⟩;have aW:=c_f co;revert dj;refine Wo<|Wq<|Wm z<|R z (nq z z)<|Wx z (fun al=>?_) (fun al=>?_)
  ·refine Ws<|R z (bP (parts:=[]) (cs:=[vI 0,sl none 0 0,sl none 0 0]) a_M z z)<|RM z z ?_
   have c0:=mmr hu.lt;refine E0 (fs0 (cur':=[vI 0,sl none 0 0,sl none 0 0]) t_ z z ((((hu.e h3).c H<|djs c0).c s4<|djs c0).e so) z z z z) ?_;rintro _ _ ⟨du,dv⟩;refine Ra z<|Rw z ?_
   have c1:=lt_ hd.s hb.s;have c2:=m1<|lt_ c1 h5.s
   exact Wr<|rtO<|qL (som<|ifT aW al).symm<|U_ hr (E_ Z_ t_ z du z) z z ⟨bM (bup (bM (bM (bup (bup (bup hd hb) h5) h3) H c2) s4 c2) so) dv.one<|m1 c1,none,0,0,[],none,0,0,[],z,ii z,onL,onL,bZ,dr,nd0,al0⟩
  refine Wk<|Ws<|Rf z b_x z ?_
  have c3:=hx.e so;refine R z (l0 d_c z<|c3.at z)<|R z (lN (vs:=[vI xj,sl ay nz W,sl Y a0 a1]) Z_ t_ z z fid<|dt.row 0 3 z)<|E z (fS [(.tmp 45)] c_G z z z (Y_ z) (lb z)<|lb z) ?_
  rintro _ c4 ⟨rfl,c5⟩;have hn:=c5.below;obtain ⟨dw,dx,cv⟩:=bdS<|ifF aW al;refine E z (a_H (α:=Val) c_G dx z z ((hi.e so).e hn) hw (c5.blk:Blk c4 bY.z [vI xj,sl ay nz W,sl Y a0 a1]) (e_C (x:=(⟨xj,a5,a6⟩:Val)) (S1:=Sk) (S2:=Sl) dk (dl.e hn)<|dn.e hn) (aa_ (c_9 aH (a_.lt hi) lr)<|c_9 aI (a_.lt hi) lr)<|na_ dm dp<|ds dq) ?_;rintro _ dy ⟨aJ,c6,c7,c8,rfl,c9,dz,dA,cb⟩;refine Rf z b_x z ?_;have cc:=m_ he hv.lt H.s;refine E0 (fs0 (cur':=[vI 0,sl none 0 0,sl c6 c7 c8]) e_l z z ((c3.e hn).c c9<|djs cc) z z z z) ?_;rintro _ dB ⟨dC,dD⟩;have cd:=dD.one;refine Wn<|Wg<|Rm z<|Rw z<|Wg<|Rm z<|R z (inc_ a3 (tl_ aj) z z)<|Ra z<|Wl ?_
  have aK:=lt_ H.s s4.s;exact fun _ q=>⟨(xs,dw),(som cv).symm,⟨c6,c7,c8,aJ,q.k<|s9 z z z z z z z z z,(cM (cM (e_ (e_ (cM (cr [G.z] I) s4 (io sr):Chg (· ∈ [G.z]) I wg) so:Chg (· ∈ [G.z]) I bY) hn:Chg (· ∈ [G.z]) I c4) c9 (or0 he (x_ lr):∀k∈J,k∈[G.z]∨I.z<=k):Chg (· ∈ [G.z]) I dy) cd (io sr):Chg (· ∈ [G.z]) I dB),bZ,dz.c cd (or2 cb cc (aa_ (m_ aH hv.lt aK)<|m_ aI hv.lt aK) (W_ (b_ hv.lt)<|lt_ (lt_ aK so.s) hn.s):∀k∈aJ,k∉[G.z]),dA,(or2 cb he (aa_ (w_ aH s4.s)<|w_ aI s4.s) (a_R<|lt_ (lt_ s4.s so.s) hn.s):∀k∈aJ,I.z<=k),dC⟩⟩
 ·rintro ⟨xc,xp⟩ _ dF ⟨L,O,ca,J,cw,dG,hh,hi,hw,he,hx⟩;refine Wu ?_ cw;refine Wq<|Wm z<|Rm z<|Rl z z z<|Wx z (fun hc=>(g_r hc).elim) (fun _=>?_)
  exact We<|fun _ q=>⟨rfl,⟨L,O,ca,J,q.k<|s3 z z z,(cM (cr [G.z] I) dG (io sr):Chg (· ∈ [G.z]) I dF),hh,hi,hw,he,hx⟩⟩
 ·rintro ⟨xc,xp⟩ dH _ rfl ⟨L,O,ca,J,_,ce,hh,hi,hw,he,hx⟩;have cx:=elL aT;revert dH;refine Wo<|Ws<|R z (lN (vs:=[vI 0,sl none 0 0,sl L O ca]) Z_ t_ z z fid<|hx.row 0 3 z)<|Rm z ?_
  have cf:=mmr hu.lt;refine E0 (fs0 (cur':=[vI 0,sl none 0 0,sl L O ca]) t_ z z (((hu.e h3).c H<|djs cf).c ce<|djs cf) z z z z) ?_;rintro _ _ ⟨dI,dJ⟩;have cg:=dJ.one;refine Ra z<|Rw z ?_
  obtain rfl:=som<|a_B cx;have ch:=lt_ hd.s hb.s;have ci:=lt_ ch h5.s;have cj:=m1 ci;exact Wr<|U_ hr (E_ Z_ t_ z dI z) z z ⟨bM (bM (bM (bup (bup (bup hd hb) h5) h3) H cj) ce cj) cg<|m1 ch,none,0,0,[],L,O,ca,J,z,ii z,onL,hi.c cg<|m_ he hu.lt<|lt_ h3.s H.s,hh,ii z,na_ H_ hw an_,aa_ an_<|w_ he<|lt_ (lt_ ci h3.s) H.s⟩
 rintro _ _ _ _ rfl ⟨rfl,cy⟩;have cz:=elR aT;obtain rfl:=som cz;exact ⟨cy,z⟩
theorem T_w1d (ih:e_q n):i_R (f_E n<|a_b n):=by
 obtain ⟨_,aA,_,_,_⟩:=ih
 constructor
 intro A0 A2 A4 A1 A3 A7 N0 C0 N2 C2 N4 C4 N1 C1 N3 C3 N7 C7 B x1 x2 x3 x4 res w0 hm W Y a0 a1 a2 a3 a4 a5 O a6 V;unfold f_E at hm
 refine goG func80 z z z fun fn hr=>Ws<|E z (fb z) ?_
 rintro _ wy ⟨rfl,hz⟩;have hf:=hz.below;refine E z (fb z) ?_;rintro _ wq ⟨rfl,ad⟩;have h5:=ad.below;refine E z (fa a_N) ?_;rintro _ aB ⟨rfl,ae⟩;have h3:=ae.below;have h6:Blk aB wq.z [vI 0,sl none 0 0,sl none 0 0]:=ae.blk;refine Ra z<|Rw z<|Wq (Wd (X:=noX) 0 (pl_ 15 [7]) mo (by kernel_rfl) fun b8 G _=>?_)
 have af:=(((hz.blk:Blk wy w0.z [sl A0 N0 C0]).e h5).e h3).e G;refine dR z z (lN (vs:=[sl A0 N0 C0]) s_ p_ z z fid<|af.row 0 1 z)<|dR z z (fd K_ z) ?_
 have ah:=((ad.blk:Blk wq wy.z (vR x2 A2 N2 C2 A4 N4 C4 A1 N1 C1 A3 N3 C3)).e h3).e G;refine dR z z (l0 z_ z<|ah.at z) ?_;obtain ⟨_,aC,ax⟩:=bdS hm;have hh:=(((hf.ag B).e h5).e h3).e G;refine dRX z z (at_ (α:=Int) q_ z_3 z z z (O.g hh) aC) ?_;rintro _ ⟨_,_,_,rfl,aD,aE,_⟩;obtain ⟨rfl,aF⟩:=J_ aE;refine dR z z (l0 g_3 z<|aD.at0 z)<|dM z z z<|dM z z z ?_
 have hi:=lt_ hf.s h5.s;have ai:=lt_ (lt_ hi h3.s) G.s;obtain ⟨aj,_,_,aG,a7⟩:=u_ ax;refine dE z z (fc call75 z<|h_i aG (zt' W ai) (Y.g hh) aF (a6.g hh) V) (.inr fun _ _ h=>B_<|h.1) ?_;rintro _ _ ⟨s1,rfl,ht,aH⟩;refine dM z z z ?_
 iterate 3 refine dR z z (ext_ z z) ?_
 iterate 3 refine dQ z z z ?_
 refine pD<|Wo<|Wq<|Wm z<|R z (not_ z)<|Wx z (fun hcr=>?_) (fun hcr=>?_)
 ·refine Ws<|R z (bP (parts:=[]) (cs:=[vI 0,sl none 0 0,sl none 0 0]) a_M z z)<|Rm z<|E0 (fs0 (cur':=[vI 0,sl none 0 0,sl none 0 0]) t_ z z ((h6.e G).e s1) z z z z) ?_
  rintro _ _ ⟨aI,aJ⟩;refine Ra z<|Rw z ?_
  obtain rfl:=som<|ifT a7 hcr;exact Wr<|U_ hr (E_ Z_ t_ z aI z) z z ⟨bM (bup (bup (bup (bup hf h5) h3) G) s1) aJ.one<|m1 hi,none,0,0,[],none,0,0,[],z,ii z,onL,onL,V,ii z,nd0,al0⟩
 refine Wk<|Wq<|Ws ?_
 have ak:=ah.e s1;refine R z (lN (vs:=vR x2 A2 N2 C2 A4 N4 C4 A1 N1 C1 A3 N3 C3) I_ k_ z z fid<|ak.row 0 8 z)<|Rm z ?_
 have hg:=hh.e s1;have al:=lt_ ai s1.s;obtain ⟨_,aK,a9⟩:=bdS<|ifF a7 hcr;refine E z (fc call52 z<|e_o aK (zt' W al) a0 a1 a2 (a3.g hg) (a4.g hg) (a5.g hg) (O.g hg) ht<|ii z) ?_;rintro _ _ ⟨s2,rfl,_⟩;refine Rl z z z<|Wx z (fun hcs=>?_) (fun hcs=>?_)
 ·refine Ws<|R z (bP (parts:=[]) (cs:=[vI 0,sl none 0 0,sl none 0 0]) a_M z z)<|Rm z<|E0 (fs0 (cur':=[vI 0,sl none 0 0,sl none 0 0]) t_ z z (((h6.e G).e s1).e s2) z z z z) ?_
  rintro _ _ ⟨aL,aM⟩;refine Ra z<|Rw z ?_
  obtain rfl:=som<|ifT a9 hcs;exact Wr<|U_ hr (E_ Z_ t_ z aL z) z z ⟨bM (bup (bup (bup (bup (bup hf h5) h3) G) s1) s2) aM.one<|m1 hi,none,0,0,[],none,0,0,[],z,ii z,onL,onL,V,ii z,nd0,al0⟩
 refine Wk<|Ws<|R z (lN (vs:=[sl A0 N0 C0]) s_ p_ z z fid<|((af.e s1).e s2).row 0 1 z)<|R z (lN (vs:=vR x2 A2 N2 C2 A4 N4 C4 A1 N1 C1 A3 N3 C3) I_ k_ z z fid<|(ak.e s2).row 0 8 z)<|RM z z<|Rm z ?_
 have I:=hg.e s2;have hj:=lt_ al s2.s;obtain ⟨am,aN,aO,aP,ay⟩:=u_<|ifF a9 hcs;refine E z (fc call79 z<|aA.run aP (zt' W hj) (Y.g I) a0 a1 a2 (a3.g I) (a4.g I) (a5.g I) (O.g I) ht (ii z) (a6.g I) aH) ?_;rintro _ H ⟨sk,J,L,ca,aQ,ab,nc,cd,aR,rfl,aS,an,ao,aT,aU,hu,hl⟩;refine Rm z ?_
 iterate 3 refine Re z z z ?_
 refine E z (fa a_N) ?_;rintro _ aV ⟨rfl,ap⟩;have hn:=ap.below;refine E0 (fs0 (cur':=[vI am.number,sl J L ca,sl ab nc cd]) t_ z z (ap.blk:Blk aV H.z [vI 0,sl none 0 0,sl none 0 0]) z z z z) ?_;rintro _ wm ⟨aq,aW⟩;have ho:=aW.one;refine Ra z<|Rw z<|Wq<|Wm z<|Rq z z z<|Wn ?_
 obtain ⟨aX,aa,az⟩:=bdS ay;refine Wt (fun a w=>∃(xe:Int),xe=aX/\Sat 56 [(8,pt wq.z),(14,pt H.z),(15,vI aN),(16,vI aO)] a/\Chg (· ∈ [H.z]) wm w/\inI xe/\Blk w H.z [vI xe,sl J L ca,sl ab nc cd]) ?_ ?_
 ·refine Wc z (fun hcv=>?_)<|fun hcv=>?_
  ·refine Wg<|Rm z<|Rf z e_k z<|E0 (fs0 (cur':=[vI aj,sl J L ca,sl ab nc cd]) z_3 z z aq z z z z) ?_
   rintro _ aY ⟨aZ,b0⟩;refine Wl ?_;exact fun _ q=>⟨aj,som<|ifT aa hcv,q.k<|s4 z z z z,(cM (cr [H.z] wm) b0.one (io sr):Chg (· ∈ [H.z]) wm aY),ht,aZ⟩
  exact M_<|fun _ q=>⟨am.number,som<|ifF aa hcv,q.k<|s4 z z z z,cr [H.z] wm,aS,aq⟩
 rintro b3 _ ⟨xe,rfl,_,sp,b4,b5⟩;revert b3;refine Wo<|Ws<|R z (lN (vs:=[vI xe,sl J L ca,sl ab nc cd]) Z_ t_ z z fid<|b5.row 0 3 z)<|RM z z ?_
 have hw:=lt_ (lt_ G.s s1.s) s2.s;have ar:=mm1 h6.lt<|lt_ hw sk.s
 refine E0 (fs0 (cur':=[vI xe,sl J L ca,sl ab nc cd]) t_ z z (((((((h6.e G).e s1).e s2).e sk).e hn).c ho<|djs ar).c sp<|djs ar) z z z z) ?_;rintro _ _ ⟨b6,b7⟩;have hx:=b7.one;refine Ra z<|Rw z ?_
 obtain rfl:=som az;have au:=mnr<|a_.lt an
 have av:=mnr<|a_.lt ao
 have aw:=m1<|lt_ hj sk.s
 exact Wr<|U_ hr (E_ Z_ t_ z b6 z) z z ⟨bM (bM (bM (bup (bup (bup (bup (bup (bup (bup hf h5) h3) G) s1) s2) sk) hn) ho aw) sp aw) hx<|m1 hi,J,L,ca,aQ,ab,nc,cd,aR,z,b4,(((an.e hn).c ho<|ds au).c sp<|ds au).c hx<|m_ (al_ hl) h6.lt hw,(((ao.e hn).c ho<|ds av).c sp<|ds av).c hx<|m_ (ar_ hl) h6.lt hw,aT,aU,na_ (nl_ hu) (nr_ hu)<|nj hu,aa_ (w_ (al_ hl) hj)<|w_ (ar_ hl) hj⟩
theorem T_w1e (ih:e_q n):i_S (f_F n<|a_b n):=by
 obtain ⟨_,a7,_,_,_⟩:=ih
 constructor
 intro A0 A2 A4 A1 A3 A7 N0 C0 N2 C2 N4 C4 N1 C1 N3 C3 N7 C7 B x1 x2 x3 x4 res w0 hm a8 V W Y a0 a1 a2 a3 a4 L O;unfold f_F at hm
 refine goG func81 z z z fun fn hr=>Ws<|E z (fb z) ?_
 rintro _ wc ⟨rfl,hd⟩;have h2:=hd.below;refine E z (fb z) ?_;rintro _ we ⟨rfl,hf⟩;have G:=hf.below;refine E z (fa a_N) ?_;rintro _ ws ⟨rfl,hg⟩;have h3:=hg.below;have h5:Blk ws we.z [vI 0,sl none 0 0,sl none 0 0]:=hg.blk;refine Ra z<|Rw z<|Wq<|Wb<|Wm z<|Rm z ?_
 have hh:=((h2.ag B).e G).e h3;have hi:=L.g hh;refine R z (lnR l_ z hi)<|R z (b_e z z)<|Rw z<|Wc z (fun H=>?_) (fun H=>?_)
 ·refine Ws<|R z (bP (parts:=[]) (cs:=[vI 0,sl none 0 0,sl none 0 0]) a_M z z)<|Rm z<|E0 (fs0 (cur':=[vI 0,sl none 0 0,sl none 0 0]) t_ z z h5 z z z z) ?_
  rintro _ _ ⟨hw,sx⟩;refine Ra z<|Rw z ?_
  obtain rfl:=som<|ifT hm H;exact Wr<|rtO<|U_ hr (E_ Z_ t_ z hw z) z z ⟨bM (bup (bup h2 G) h3) sx.one<|m1<|lt_ h2.s G.s,none,0,0,[],none,0,0,[],z,ii z,onL,onL,O,ii z,nd0,al0⟩
 refine Wm z<|Rm z ?_
 obtain ⟨_,ey,hmj⟩:=bdS<|ifF hm H;refine RX z (at_ (α:=UInt8) l_ z_5 z z z hi ey) ?_;rintro _ ⟨_,_,_,rfl,hz,a9,_⟩;obtain rfl:=u8 a9;refine R z (l0 g_5 z<|hz.at0 z)<|R z (a_d z z)<|Rw z<|Wc z (fun I=>?_) (fun I=>?_)
 ·refine Ws<|R z (bP (parts:=[]) (cs:=[vI 0,sl none 0 0,sl none 0 0]) a_M z z)<|Rm z<|E0 (fs0 (cur':=[vI 0,sl none 0 0,sl none 0 0]) t_ z z h5 z z z z) ?_
  rintro _ _ ⟨aa,ab⟩;refine Ra z<|Rw z ?_
  obtain rfl:=som<|ifT hmj I;exact Wr<|rtO<|U_ hr (E_ Z_ t_ z aa z) z z ⟨bM (bup (bup h2 G) h3) ab.one<|m1<|lt_ h2.s G.s,none,0,0,[],none,0,0,[],z,ii z,onL,onL,O,ii z,nd0,al0⟩
 refine Wk<|Wq (Wd (X:=noX) 16384 (pl_ 17 [10,14]) mo (by kernel_rfl) fun aw s1 _=>dR z z (lN (vs:=[sl A0 N0 C0]) s_ p_ z z fid<|((((hd.blk:Blk wc w0.z [sl A0 N0 C0]).e G).e h3).e s1).row 0 1 z)<|dR z z (lN (vs:=vR x2 A2 N2 C2 A4 N4 C4 A1 N1 C1 A3 N3 C3) I_ k_ z z fid<|(((hf.blk:Blk we wc.z (vR x2 A2 N2 C2 A4 N4 C4 A1 N1 C1 A3 N3 C3)).e h3).e s1).row 0 8 z)<|dM z z z<|dM z z z ?_)
 obtain ⟨_,ad,a5⟩:=bdS<|ifF hmj I;have h4:=hh.e s1;have hk:=L.g h4;refine dRX z z (at_ (α:=UInt8) l_ z_5 z z z hk ad) ?_;rintro _ ⟨_,_,_,rfl,ae,af,_⟩;obtain rfl:=u8 af;refine dR z z (l0 g_5 z<|ae.at0 z)<|dR z z (b_A d_5 d_3 z)<|dM z z z<|dM z z z<|dR z z (add_ z z) ?_
 have hl:=lt_ h2.s G.s;have J:=lt_ (lt_ hl h3.s) s1.s;obtain ⟨ah,_,_,ai,a6⟩:=u_ a5;refine dE z z (fc call79 z<|a7.run ai (zt' a8 J) (V.g h4) W Y a0 (a1.g h4) (a2.g h4) (a3.g h4) (a4.g h4) (ii z) (j_n _) hk<|iA _ _) (.inr fun _ _ h=>B_<|h.1) ?_;rintro _ _ ⟨sm,an,no,cp,aj,aq,nr,ct,ak,rfl,al,am,ao,ap,ar,ha,h6⟩
 iterate 3 refine dR z z (ext_ z z) ?_
 refine dE0 z (fs0 (cur':=[vI ah.number,sl an no cp,sl aq nr ct]) t_ z z ((h5.e s1).e sm) z z z z) (.inl z) ?_;rintro _ _ ⟨au,av⟩;have hb:=av.one;refine dQ z z z<|dQ z z z<|pD<|Wo ?_
 obtain rfl:=som a6;exact Wr<|U_ hr (E_ Z_ t_ z au z) z z ⟨bM (bup (bup (bup (bup h2 G) h3) s1) sm) hb<|m1 hl,an,no,cp,aj,aq,nr,ct,ak,z,al,am.c hb<|m_ (al_ h6) h5.lt s1.s,ao.c hb<|m_ (ar_ h6) h5.lt s1.s,ap,ar,na_ (nl_ ha) (nr_ ha)<|nj ha,aa_ (w_ (al_ h6) J)<|w_ (ar_ h6) J⟩
theorem T_w1f (ih:e_q n):i_T (f_G n<|a_b n):=by
 obtain ⟨_,am,_,_,_⟩:=ih
 constructor
 intro A0 A2 A4 A1 A3 A7 N0 C0 N2 C2 N4 C4 N1 C1 N3 C3 N7 C7 B x1 x2 x3 x4 res w0 hm O a7 a8 a9 ab ae af ah ai L aj;unfold f_G at hm
 refine goG func82 z z z fun fn hr=>Ws<|E z (fb z) ?_
 rintro _ wu ⟨rfl,hv⟩;have hh:=hv.below;refine E z (fb z) ?_;rintro _ ww ⟨rfl,hx⟩;have H:=hx.below;refine E z (fa a_N) ?_;rintro _ an ⟨rfl,hy⟩;have h5:=hy.below;have h3:Blk an ww.z [vI 0,sl none 0 0,sl none 0 0]:=hy.blk;refine Ra z<|Rw z<|Ws<|R z (lN (vs:=[sl A0 N0 C0]) s_ p_ z z fid<|(((hv.blk:Blk wu w0.z [sl A0 N0 C0]).e H).e h5).row 0 1 z)<|R z (lN (vs:=vR x2 A2 N2 C2 A4 N4 C4 A1 N1 C1 A3 N3 C3) I_ k_ z z fid<|((hx.blk:Blk ww wu.z (vR x2 A2 N2 C2 A4 N4 C4 A1 N1 C1 A3 N3 C3)).e h5).row 0 8 z)<|RM z z ?_
 have I:=((hh.ag B).e H).e h5;have hj:=lt_ hh.s H.s;have J:=lt_ hj h5.s;obtain ⟨rk,_,_,ao,hmz⟩:=u_ hm;refine E z (fc call79 z<|am.run ao (zt' O J) (a7.g I) a8 a9 ab (ae.g I) (af.g I) (ah.g I) (ai.g I) (ii z) (ii z) (L.g I) aj) ?_;rintro _ Y ⟨G,aa,nb,cc,a0,ad,ne,cf,a1,rfl,a2,hn,ho,hp,ap,hi,h6⟩;refine Rm z ?_
 iterate 3 refine Re z z z ?_
 refine E z (fa a_N) ?_;rintro _ aq ⟨rfl,a3⟩;have h1:=a3.below;refine E0 (fs0 (cur':=[vI rk.number,sl aa nb cc,sl ad ne cf]) t_ z z (a3.blk:Blk aq Y.z [vI 0,sl none 0 0,sl none 0 0]) z z z z) ?_;rintro _ _ ⟨a4,ar⟩;have h2:=ar.one;refine Ra z<|Rw z<|Wq<|Wb<|Wm z<|R z (nq z z)<|Rw z<|Wc z (fun hcm=>?_) (fun hcm=>?_)
 ·refine Ws<|R z (lN (vs:=[vI rk.number,sl aa nb cc,sl ad ne cf]) Z_ t_ z z fid<|a4.row 0 3 z)<|RM z z<|E0 (fs0 (cur':=[vI rk.number,sl aa nb cc,sl ad ne cf]) t_ z z (((h3.e G).e h1).c h2<|djs<|mm1 h3.lt G.s) z z z z) ?_
  rintro _ _ ⟨au,av⟩;have hq:=av.one;refine Ra z<|Rw z ?_
  obtain rfl:=som<|ifT hmz hcm;exact Wr<|rtO<|U_ hr (E_ Z_ t_ z au z) z z ⟨bM (bM (bup (bup (bup (bup hh H) h5) G) h1) h2<|m1<|lt_ J G.s) hq<|m1 hj,aa,nb,cc,a0,ad,ne,cf,a1,z,a2,((hn.e h1).c h2<|ds<|mnr<|a_.lt hn).c hq<|m_ (al_ h6) h3.lt lr,((ho.e h1).c h2<|ds<|mnr<|a_.lt ho).c hq<|m_ (ar_ h6) h3.lt lr,hp,ap,na_ (nl_ hi) (nr_ hi)<|nj hi,aa_ (w_ (al_ h6) J)<|w_ (ar_ h6) J⟩
 have V:=ifF hmz hcm;refine Wm z<|Rm z ?_
 have hl:=lt_ J G.s;have a5:=((I.e G).e h1).c h2<|c_ (or0 (b_ lr) (i_<|zt' O hl):∀k∈[Y.z],¬B k)
 refine R z (lnR l_ z<|L.g a5)<|R z (b_e z z)<|Rw z<|Wc z (fun hcr=>?_) (fun hcr=>?_)
 ·refine Ws<|R z (bP (parts:=[]) (cs:=[vI 0,sl none 0 0,sl none 0 0]) a_M z z)<|Rm z<|E0 (fs0 (cur':=[vI 0,sl none 0 0,sl none 0 0]) t_ z z (((h3.e G).e h1).c h2<|djs<|mm1 h3.lt G.s) z z z z) ?_
  rintro _ _ ⟨aw,ax⟩;refine Ra z<|Rw z ?_
  obtain rfl:=som<|ifT V hcr;exact Wr<|rtO<|U_ hr (E_ Z_ t_ z aw z) z z ⟨bM (bM (bup (bup (bup (bup hh H) h5) G) h1) h2<|m1 hl) ax.one<|m1 hj,none,0,0,[],none,0,0,[],z,ii z,onL,onL,hp,ii z,nd0,al0⟩
 refine Wq (Wd (X:=noX) 0 (pl_ 12 [9]) mo (by kernel_rfl) fun aI s4 _=>dM z z z<|dM z z z ?_);obtain ⟨_,ay,ak⟩:=bdS<|ifF V hcr;have a6:=L.g<|a5.e s4
 refine dRX z z (at_ (α:=UInt8) l_ z_5 z z z a6 ay) ?_;rintro _ ⟨_,_,_,rfl,az,aA,_⟩;obtain rfl:=u8 aA;refine dR z z (l0 g_5 z<|az.at0 z)<|dR z z (b_A d_5 d_3 z) ?_
 iterate 3 refine dM z z z ?_
 obtain ⟨_,aB,al⟩:=bdS ak;refine dRX z z (rX l_ z_5 z z a6 z z aB) ?_;rintro _ ⟨_,_,_,rfl,aC⟩;obtain ⟨_,aD,W⟩:=bdS al;refine dE z z (fc call67 z<|W_w13 aD (zt' O<|lt_ (lt_ (lt_ hl h1.s) h2.s) s4.s) aC) (.inr fun _ _ h=>B_<|h.1) ?_;rintro _ _ ⟨sg,rfl,_⟩;refine dR z z (nq z z)<|dQ z z z<|pD<|Wo<|Wc z (fun hcs=>?_) (fun hcs=>?_)
 ·refine Ws<|R z (bP (parts:=[]) (cs:=[vI 0,sl none 0 0,sl none 0 0]) a_M z z)<|Rm z<|E0 (fs0 (cur':=[vI 0,sl none 0 0,sl none 0 0]) t_ z z (((((h3.e G).e h1).c h2<|djs<|mm1 h3.lt G.s).e s4).e sg) z z z z) ?_
  rintro _ _ ⟨aE,aF⟩;refine Ra z<|Rw z ?_
  obtain rfl:=som<|ifT W hcs;exact Wr<|rtO<|U_ hr (E_ Z_ t_ z aE z) z z ⟨bM (bup (bup (bM (bup (bup (bup (bup hh H) h5) G) h1) h2<|m1 hl) s4) sg) aF.one<|m1 hj,none,0,0,[],none,0,0,[],z,ii z,onL,onL,hp,ii z,nd0,al0⟩
 refine Wk<|Ws<|R z (lN (vs:=[vI rk.number,sl aa nb cc,sl ad ne cf]) Z_ t_ z z fid<|((a4.e s4).e sg).row 0 3 z)<|Rm z<|R z (add_ z z)<|E0 (fs0 (cur':=[vI rk.number,sl aa nb cc,sl ad ne cf]) t_ z z (((((h3.e G).e h1).c h2<|djs<|mm1 h3.lt G.s).e s4).e sg) z z z z) ?_
 rintro _ _ ⟨aG,aH⟩;have ht:=aH.one;refine Ra z<|Rw z ?_
 obtain rfl:=som<|ifF W hcs;exact Wr<|U_ hr (E_ Z_ t_ z aG z) z z ⟨bM (bup (bup (bM (bup (bup (bup (bup hh H) h5) G) h1) h2<|m1 hl) s4) sg) ht<|m1 hj,aa,nb,cc,a0,ad,ne,cf,a1,z,a2,((((hn.e h1).c h2<|ds<|mnr<|a_.lt hn).e s4).e sg).c ht<|m_ (al_ h6) h3.lt lr,((((ho.e h1).c h2<|ds<|mnr<|a_.lt ho).e s4).e sg).c ht<|m_ (ar_ h6) h3.lt lr,iA _ _,ii z,na_ (nl_ hi) (nr_ hi)<|nj hi,aa_ (w_ (al_ h6) J)<|w_ (ar_ h6) J⟩
theorem c_t:∀n,e_q n
  | 0=>⟨⟨fun hm=>by intros;exact nomatch (show none=some _ from hm)⟩,⟨fun hm=>by intros;exact nomatch (show none=some _ from hm)⟩,⟨fun hm=>by intros;exact nomatch (show none=some _ from hm)⟩,⟨fun hm=>by intros;exact nomatch (show none=some _ from hm)⟩,⟨fun hm=>by intros;exact nomatch (show none=some _ from hm)⟩⟩
  | n+1=>⟨T_w02<|c_t n,T_w1c<|c_t n,T_w1d<|c_t n,T_w1e<|c_t n,T_w1f<|c_t n⟩
theorem W_w02:i_P (a_b n).spec_l11Read:=(c_t n).1
theorem W_w1c:i_Q (a_b n).spec_l11Items:=(c_t n).2.1
theorem W_w1d:i_R (a_b n).spec_l11Choice:=(c_t n).2.2.1
theorem W_w1e:i_S (a_b n).spec_l11Option:=(c_t n).2.2.2.1
theorem W_w1f:i_T (a_b n).spec_l11Checked:=(c_t n).2.2.2.2
theorem i_U {x1:d_}{x2:Int}{x3:List UInt8}{x4:Int}{res:Val×Int×Int}(hm:f_I n x1 x2 x3 x4=some res)(L:B<=w0.z)(W:repS w0 B (sl A0 N0 C0) x1.rules)(Y:inI x2)(J:repS w0 B (sl A7 N7 C7) x3)(a0:inI x4):j_ prog 50 [(.agg #[sl A0 N0 C0]),vI x2,sl A7 N7 C7,vI x4] w0 (Q23 w0 B res):=by
 unfold f_I at hm
 refine goG func50 z z z fun fn hr=>Ws<|E z (fb z) ?_
 rintro _ O ⟨rfl,hg⟩;have h3:=hg.below;have hh:Blk O w0.z [sl A0 N0 C0]:=hg.blk;refine E z (fa a_N) ?_;rintro _ V ⟨rfl,hi⟩;have h4:=hi.below;have h6:Blk V O.z [vI 0,sl none 0 0,sl none 0 0]:=hi.blk;refine Ra z<|Rw z<|Wq<|Wq ?_
 obtain ⟨uy,huz,hmj⟩:=bdS hm;refine Wt (fun a w=>∃(xa:Bool),xa=uy/\Sat 36 [(1,vI x2),(2,sl A7 N7 C7),(3,vI x4),(4,pt w0.z),(8,pt O.z),(26,vB xa)] a/\Below V.z V w) ?_ ?_
 ·refine Wg<|R z (lN (vs:=[sl A0 N0 C0]) s_ p_ z z fid<|(hh.e h4).row 0 1 z)<|Rm z ?_
  have hk:=(h3.ag B).e h4;have hl:=lt_ h3.s h4.s;obtain ⟨a2,a3,hmm⟩:=bdS huz;refine E z (fc call74 z<|W_w29 a3 (zt' L hl) (W.g hk) Y) ?_;rintro _ _ ⟨s5,rfl⟩;refine R z (not_ z)<|Rm z ?_
  rcases bs (!a2) with G | G
  ·iterate 5 refine Nh z G ?_
   exact R z (pT z G z)<|Rm z<|Nh z z<|Nh z z<|Nh z z<|R z (pT z z z)<|Wl (fun _ q=>⟨true,som<|ifT hmm G,q.k<|s6 z z z z z z,s5⟩)
  refine Rh z G (mv z)<|Rh z G (mv z) ?_
  have hn:=hk.e s5;have ho:=J.g hn;refine Rh z G (lnR l_ z ho) ?_;obtain ⟨a4,a5,hmp⟩:=bdS<|ifF hmm G;refine Eg z z G z (fc call27 z<|a_T a5 (zt' L<|lt_ hl s5.s) a0 (ii z)<|a_t<|repS.len ho) ?_;rintro _ _ ⟨sb,rfl⟩;refine Rh z G (not_ z)<|R z (pF z G z)<|Rm z ?_
  rcases bs (!a4) with H | H
  ·iterate 3 refine Nh z H ?_
   exact R z (pT z H z)<|Wl (fun _ q=>⟨true,som<|ifT hmp H,q.k<|s6 z z z z z z,bup s5 sb⟩)
  exact Rh z H (mv z)<|Rh z H (lnR l_ z<|J.g<|hn.e sb)<|Rh z H (a_d z z)<|R z (pF z H z)<|Wl (fun _ q=>⟨decide<|400<(x3.length:Int),som<|ifF hmp H,q.k<|s6 z z z z z z,bup s5 sb⟩)
 rintro a6 _ ⟨xa,rfl,_,s2⟩;revert a6;refine Wo<|Wc z (fun hcc=>?_) (fun hcc=>?_)
 ·refine Ws<|R z (bP (parts:=[]) (cs:=[vI 0,sl none 0 0,sl none 0 0]) a_M z z)<|E0 (fs0 (cur':=[vI 0,sl none 0 0,sl none 0 0]) t_ z z (h6.e s2) z z z z) ?_
  rintro _ _ ⟨a7,a8⟩;refine Ra z<|Rw z ?_
  obtain rfl:=som<|ifT hmj hcc;exact Wr<|U_ hr (E_ Z_ t_ z a7 z) z z ⟨bM (bup (bup h3 h4) s2) a8.one<|m1 h3.s,none,0,0,[],none,0,0,[],z,ii z,onL,onL,ii z,ii z,nd0,al0⟩
 refine Wk<|Ws<|R z (lN (vs:=[sl A0 N0 C0]) s_ p_ z z fid<|((hh.e h4).e s2).row 0 1 z)<|RM z z<|Rm z ?_
 have hq:=((h3.ag B).e h4).e s2;have hd:=lt_ (lt_ h3.s h4.s) s2.s;obtain ⟨a9,_,_,aa,a1⟩:=u_<|ifF hmj hcc;refine E z (fc call53 z<|W_w02.run aa (zt' L hd) (W.g hq) Y (J.g hq) a0) ?_;rintro _ _ ⟨sr,au,ns,ct,ab,av,nw,cx,ad,rfl,ae,af,ah,ai,aj,he,I⟩
 iterate 3 refine Re z z z ?_
 refine E0 (fs0 (cur':=[vI a9.number,sl au ns ct,sl av nw cx]) t_ z z ((h6.e s2).e sr) z z z z) ?_;rintro _ _ ⟨ak,al⟩;have hf:=al.one;refine Ra z<|Rw z ?_
 obtain rfl:=som a1;exact Wr<|U_ hr (E_ Z_ t_ z ak z) z z ⟨bM (bup (bup (bup h3 h4) s2) sr) hf<|m1 h3.s,au,ns,ct,ab,av,nw,cx,ad,z,ae,af.c hf<|m_ (al_ I) h6.lt s2.s,ah.c hf<|m_ (ar_ I) h6.lt s2.s,ai,aj,na_ (nl_ he) (nr_ he)<|nj he,aa_ (w_ (al_ I) hd)<|w_ (ar_ I) hd⟩
theorem W_w2d {x1:d_}{x2:List UInt8}{res:Val×Int×Int}(hm:f_J n x1 x2=some res)(W:B<=w0.z)(V:repS w0 B (sl A0 N0 C0) x1.rules)(Y:repS w0 B (sl A6 N6 C6) x2):j_ prog 21 [(.agg #[sl A0 N0 C0]),sl A6 N6 C6] w0 (Q23 w0 B res):=by
 unfold f_J at hm
 refine goG func21 z z z fun fn hr=>Ws<|E z (fb z) ?_
 rintro _ wl ⟨rfl,ao⟩;have h2:=ao.below;have hv:Blk wl w0.z [sl A0 N0 C0]:=ao.blk;refine E z (fa a_N) ?_;rintro _ I ⟨rfl,ap⟩;have h1:=ap.below;have hn:Blk I wl.z [vI 0,sl none 0 0,sl none 0 0]:=ap.blk;refine Ra z<|Rw z<|Wq ?_
 obtain ⟨bp,ak,bj⟩:=bdS hm;refine Wt (fun a w=>∃(xb:Int)(xw:List UInt8)(xx:List Val)(xc:Int)(xd:Int),(xb,xw,xx,xc,xd)=bp/\∃ae nf cg J ah ni cj L O,Sat 32 [(1,sl A6 N6 C6),(4,pt wl.z),(7,pt O),(8,vI xc),(9,vI xd)] a/\Below I.z I w/\inI xb/\a_ w J (sl ae nf cg) xw/\J.Nodup/\(∀k∈J,I.z<=k)/\a_ w L (sl ah ni cj) xx/\L.Nodup/\(∀k∈L,I.z<=k)/\(∀k∈L,k∉J)/\inI xc/\inI xd/\Blk w O [vI xb,sl ae nf cg,sl ah ni cj]/\I.z<=O/\(∀k∈J,k∉[O])/\(∀k∈L,k∉[O])) ?_ ?_
 ·refine Wd (X:=fun k=>k∈([]:List Nat)∨I.z<=k) 0 (.rd 0<|.rd 1<|.rd 3<|.br 2 (.br 4 (.rd 5<|.rd 6<|.rd 7<|.rd 8<|.ef 9<|.ef 10<|.rd 11<|.rd 12 .done) 9<|.ef 4<|.rd 5<|.rd 6<|.rd 7<|.rd 8<|.ef 10<|.rd 11<|.rd 12 .done) 9<|.ef 2<|.ef 4<|.rd 5<|.rd 6<|.rd 7<|.rd 8<|.ef 10<|.rd 11<|.rd 12 .done) mo (by kernel_rfl) fun aq G _=>?_
  have ar:=(hv.e h1).e G;refine dR z z (lN (vs:=[sl A0 N0 C0]) s_ p_ z z (a_p nm0<|Nat.lt_of_lt_of_le hv.lt h1.s)<|ar.row 0 1 z)<|dR z z (lN (vs:=[sl A0 N0 C0]) s_ p_ z z (a_p nm0<|Nat.lt_of_lt_of_le hv.lt h1.s)<|ar.row 0 1 z)<|dM z z z<|e_G ?_ ?_
  ·have hy:=((h2.ag B).e h1).e G;have hz:=lt_ (lt_ h2.s h1.s) G.s;obtain ⟨_,bq,al⟩:=bdS ak;refine dE z z (fc call22 z<|h_h bq (zt' W hz)<|V.g hy) (.inr fun _ _ h=>B_<|h.1) ?_;rintro _ au ⟨s4,rfl,av⟩;refine e_G ?_ ?_
   ·have aw:=hy.e s4;obtain ⟨rm,bt,bu,bv,bk⟩:=u_ al;refine dE z z (fc call50 z<|i_U bv (zt' W<|lt_ hz s4.s) (V.g aw) av (Y.g aw)<|ii z) (.inr fun _ _ h=>B_<|h.1) ?_;rintro _ ax ⟨ay,az,aA,aB,bw,aC,aD,aE,bx,rfl,bz,aF,aG,bA,bB,a1,aH⟩;refine dM z z z ?_
    iterate 3 refine dR z z (ext_ z z) ?_
    refine dE z z (fa a_N) (.inr fun _ _ h=>B_<|h.2.below) ?_;rintro _ bC ⟨rfl,aI⟩;have a2:=aI.below;have a3:=lt_ G.s s4.s;have a4:=m1<|lt_ a3 ay.s
    refine dE0 z (fs0 (cur':=[vI rm.number,sl az aA aB,sl aC aD aE]) t_ z z (aI.blk:Blk bC ax.z [vI 0,sl none 0 0,sl none 0 0]) z z z z) (.inr fun _ _ h=>e_2 (atp a4) h.2) ?_;rintro _ _ ⟨bD,bE⟩;have a5:=bE.one;refine dQ z z z<|dQ z z z<|pD ?_
    have aJ:=mnr<|a_.lt aF
    have aK:=mnr<|a_.lt aG
    exact fun _ q=>⟨rm.number,rm.bytes,rm.items,bt,bu,som bk,az,aA,aB,bw,aC,aD,aE,bx,ax.z,q.k<|s5 z z z z z,bM (bup (bup (bup G s4) ay) a2) a5 a4,bz,(aF.e a2).c a5<|ds aJ,nl_ a1,w_ (al_ aH) a3,(aG.e a2).c a5<|ds aK,nr_ a1,w_ (ar_ aH) a3,ds<|nj a1,bA,bB,bD,atp a4,ds aJ,ds aK⟩
   refine dE z z (fa a_N) (.inr fun _ _ h=>B_<|h.2.below) ?_;rintro _ bF ⟨rfl,aL⟩;have ho:=aL.below;have a6:Blk bF au.z [vI 0,sl none 0 0,sl none 0 0]:=aL.blk;have aM:=(hy.e s4).e ho;obtain ⟨rp,bG,bH,bI,bm⟩:=u_ al;refine dE z z (fc call50 z<|i_U bI (zt' W<|lt_ (lt_ hz s4.s) ho.s) (V.g aM) av (Y.g aM)<|ii z) (.inr fun _ _ h=>B_<|h.1) ?_;rintro _ _ ⟨aN,aO,aP,aQ,bJ,aR,aS,aT,bK,rfl,bL,bN,bO,bQ,bR,a7,hq⟩;refine dM z z z ?_
   iterate 3 refine dR z z (ext_ z z) ?_
   have aU:=lt_ G.s s4.s;have a8:=m1 aU;refine dE0 z (fs0 (cur':=[vI rp.number,sl aO aP aQ,sl aR aS aT]) t_ z z (a6.e aN) z z z z) (.inr fun _ _ h=>e_2 (atp a8) h.2) ?_;rintro _ _ ⟨bS,bT⟩;have a9:=bT.one;refine dQ z z z<|dQ z z z<|pD ?_
   have aV:=m_ (al_ hq) a6.lt lr;have aW:=lt_ aU ho.s;have aX:=m_ (ar_ hq) a6.lt lr;exact fun _ q=>⟨rp.number,rp.bytes,rp.items,bG,bH,som bm,aO,aP,aQ,bJ,aR,aS,aT,bK,au.z,q.k<|s5 z z z z z,bM (bup (bup (bup G s4) ho) aN) a9 a8,bL,bN.c a9 aV,nl_ a7,w_ (al_ hq) aW,bO.c a9 aX,nr_ a7,w_ (ar_ hq) aW,ds<|nj a7,bQ,bR,bS,atp a8,aV,aX⟩
  refine dE z z (fa a_N) (.inr fun _ _ h=>B_<|h.2.below) ?_;rintro _ bU ⟨rfl,aY⟩;have ht:=aY.below;have aa:Blk bU aq.z [vI 0,sl none 0 0,sl none 0 0]:=aY.blk;have aZ:=(((h2.ag B).e h1).e G).e ht;have b0:=lt_ (lt_ (lt_ h2.s h1.s) G.s) ht.s;obtain ⟨_,bV,bn⟩:=bdS ak;refine dE z z (fc call22 z<|h_h bV (zt' W b0)<|V.g aZ) (.inr fun _ _ h=>B_<|h.1) ?_;rintro _ _ ⟨s9,rfl,bW⟩;have b3:=aZ.e s9;obtain ⟨rr,bX,bY,bZ,bo⟩:=u_ bn;refine dE z z (fc call50 z<|i_U bZ (zt' W<|lt_ b0 s9.s) (V.g b3) bW (Y.g b3)<|ii z) (.inr fun _ _ h=>B_<|h.1) ?_;rintro _ _ ⟨b4,b5,b6,b7,c0,b8,b9,ba,c1,rfl,c2,c3,c4,c5,c6,ab,hu⟩;refine dM z z z ?_
  iterate 3 refine dR z z (ext_ z z) ?_
  have ad:=m1 G.s;refine dE0 z (fs0 (cur':=[vI rr.number,sl b5 b6 b7,sl b8 b9 ba]) t_ z z ((aa.e s9).e b4) z z z z) (.inr fun _ _ h=>e_2 (atp ad) h.2) ?_;rintro _ _ ⟨c7,c8⟩;have af:=c8.one;refine dQ z z z<|dQ z z z<|pD ?_
  have bb:=m_ (al_ hu) aa.lt s9.s;have bc:=lt_ (lt_ G.s ht.s) s9.s;have be:=m_ (ar_ hu) aa.lt s9.s;exact fun _ q=>⟨rr.number,rr.bytes,rr.items,bX,bY,som bo,b5,b6,b7,c0,b8,b9,ba,c1,aq.z,q.k<|s5 z z z z z,bM (bup (bup (bup G ht) s9) b4) af ad,c2,c3.c af bb,nl_ ab,w_ (al_ hu) bc,c4.c af be,nr_ ab,w_ (ar_ hu) bc,ds<|nj ab,c5,c6,c7,atp ad,bb,be⟩
 rintro c9 ws ⟨xb,xw,xx,xc,xd,rfl,ae,nf,cg,J,ah,ni,cj,L,O,_,sk,ca,cb,cc,bf,cd,ce,bg,cf,bh,ch,ci,_,_,_⟩;revert c9;refine Wo<|Wq<|Wq ?_
 obtain ⟨ck,am,an⟩:=bdS<|c_f bj;refine Wt (fun a w=>∃(ai:Bool),ai=ck/\Sat 32 [(4,pt wl.z),(7,pt O),(8,vI xc),(9,vI xd),(26,vB ai)] a/\Below ws.z ws w) ?_ ?_
 ·refine Wg<|Rm z<|Rq z z z<|Rm z ?_
  rcases bs (xd==0) with H | H
  ·exact Rh z H (mv z)<|Rh z H (mv z)<|Rh z H (lnR l_ z<|Y.g<|((h2.ag B).e h1).e sk)<|Rh z H (lss z z)<|R z (pT z H z)<|Wl (fun _ q=>⟨decide<|xc<(x2.length:Int),som<|ifT am H,q.k<|s5 z z z z z,br ws⟩)
  iterate 4 refine Nh z H ?_
  exact R z (pF z H z)<|Wl (fun _ q=>⟨false,som<|ifF am H,q.k<|s5 z z z z z,br ws⟩)
 rintro cl _ ⟨ai,rfl,_,sa⟩;revert cl;refine Wo<|Wc z (fun a0=>?_) (fun a0=>?_)
 ·refine Ws<|R z (bP (parts:=[]) (cs:=[vI 0,sl none 0 0,sl none 0 0]) a_M z z)<|Rm z<|E0 (fs0 (cur':=[vI 0,sl none 0 0,sl none 0 0]) t_ z z ((hn.e sk).e sa) z z z z) ?_
  rintro _ _ ⟨cm,cn⟩;refine Ra z<|Rw z ?_
  obtain rfl:=som<|ifT an a0;exact Wr<|U_ hr (E_ Z_ t_ z cm z) z z ⟨bM (bup (bup (bup h2 h1) sk) sa) cn.one<|m1 h2.s,none,0,0,[],none,0,0,[],z,ii z,onL,onL,bh,ii z,nd0,al0⟩
 refine Wk<|Ws<|R z (lN (vs:=[vI xb,sl ae nf cg,sl ah ni cj]) Z_ t_ z z fid<|(ci.e sa).row 0 3 z)<|RM z z<|E0 (fs0 (cur':=[vI xb,sl ae nf cg,sl ah ni cj]) t_ z z ((hn.e sk).e sa) z z z z) ?_
 rintro _ _ ⟨co,cp⟩;have aj:=cp.one;refine Ra z<|Rw z ?_
 obtain rfl:=som<|ifF an a0;have bi:=lt_ h2.s h1.s;exact Wr<|U_ hr (E_ Z_ t_ z co z) z z ⟨bM (bup (bup (bup h2 h1) sk) sa) aj<|m1 h2.s,ae,nf,cg,J,ah,ni,cj,L,z,ca,(cb.e sa).c aj<|m_ bf hn.lt lr,(cd.e sa).c aj<|m_ bg hn.lt lr,bh,ch,na_ cc ce<|ds cf,aa_ (w_ bf bi)<|w_ bg bi⟩
theorem W_w1g {x1:d_}{x2:List UInt8}{res:Int×Int}(hm:e_4 n x1 x2=some res)(J:B<=w0.z)(H:repS w0 B (sl A0 N0 C0) x1.rules)(I:repS w0 B (sl A6 N6 C6) x2):j_ prog 7 [(.agg #[sl A0 N0 C0]),sl A6 N6 C6] w0 (Q18 w0 B res):=by
 unfold e_4 at hm
 refine goG func7 z z z fun fn hr=>Ws<|E z (fb z) ?_
 rintro _ O ⟨rfl,h1⟩;have G:=h1.below;refine Ra z<|Rw z<|Ws<|R z (lN (vs:=[sl A0 N0 C0]) s_ p_ z z fid<|(h1.blk:Blk O w0.z [sl A0 N0 C0]).row 0 1 z)<|Rm z ?_
 obtain ⟨V,_,_,W,L⟩:=u_ hm;refine E z (fc call21 z<|W_w2d W (zt' J G.s) (H.e G)<|I.e G) ?_;rintro _ Y ⟨s2,aa,nb,cc,_,ad,ne,cf,_,rfl,_,_,_,hg,hh,_,_⟩;refine Rm z ?_
 iterate 3 refine Re z z z ?_
 refine E z (fa a_N) ?_;rintro _ wi ⟨rfl,h3⟩;refine E0 (fs0 (cur':=[vI V.number,sl aa nb cc,sl ad ne cf]) t_ z z (h3.blk:Blk wi Y.z [vI 0,sl none 0 0,sl none 0 0]) z z z z) ?_;rintro _ _ ⟨_,sk⟩;refine Ra z<|Rw z<|Wm z<|Rm z<|Ra z<|Rw z ?_
 obtain rfl:=som L;exact Wr<|b_C hr z z ⟨bM (bup (bup G s2) h3.below) sk.one<|m1<|lt_ G.s s2.s,z,hg,hh⟩
def Q24 (w0:World)(B:Zone)(r:Int×Int×Int)(v:Value)(w':World):Prop:=Bw w0 w'/\un3 (fun G H I=>v = .tuple #[vI G,vI H,vI I]/\inI G/\inI H/\inI I) r
theorem W_w2e {x1:d_}{x2:g_}{x3:List UInt8}{x4:Int}{res:Int×Int×Int}(hm:d_I x1 x2 x3 x4=some res)(ad:B<=w0.z)(ap:repS w0 B (sl A0 N0 C0) x1.rules)(aq:x2.name.b.length<=LEN)(ar:inI x2.kind)(au:inI x2.size)(av:repS w0 B (sl A2 N2 C2) x2.bytes)(aw:repS w0 B (sl A4 N4 C4) x2.names)(ax:repS w0 B (sl A1 N1 C1) x2.tags)(W:repS w0 B (sl A3 N3 C3) x2.kids)(a0:repS w0 B (sl A7 N7 C7) x3)(V:inI x4):j_ prog 51 [(.agg #[sl A0 N0 C0]),.agg #[Str.v x2.name,vI x2.kind,vI x2.size,vB x2.little,sl A2 N2 C2,sl A4 N4 C4,sl A1 N1 C1,sl A3 N3 C3],sl A7 N7 C7,vI x4] w0 (Q24 w0 B res):=by
 unfold d_I at hm
 refine goG func51 z z z fun fn hr=>Ws<|E z (fb z) ?_
 rintro _ wb ⟨rfl,ae⟩;have h3:=ae.below;refine E z (fb z) ?_;rintro _ H ⟨rfl,af⟩;have I:=af.below;have hf:Blk H wb.z (vR x2 A2 N2 C2 A4 N4 C4 A1 N1 C1 A3 N3 C3):=af.blk;refine RA z z<|Rw z<|Wq<|Ws<|Rf z a_i z<|R z (l0 g_3 z<|hf.at z)<|Wn<|Wb<|Ws<|Rq z z z<|Rw z<|Wc z (fun hcg=>?_) (fun hcg=>?_)
 ·refine Wq (Wd (X:=noX) 0 (pl_ 7 []) mo (by kernel_rfl) fun bj sh _=>dM z z z<|dR z z (fd K_ z)<|dR z z (l0 z_ z<|(hf.e sh).at z) ?_);have ah:=W.g<|((h3.ag B).e I).e sh
  refine dR z z (lnR q_ z ah) ?_
  iterate 3 refine dQ z z z ?_
  refine pD<|Wo ?_
  obtain rfl:=som<|ifT hm hcg;exact Wr<|rtO<|U_ hr z z z ⟨bup (bup h3 I) sh,z,V,a_t<|repS.len ah,ii z⟩
 have a1:=ifF hm hcg;refine Ws<|Rq z z z<|Rw z<|Wc z (fun hci=>?_) (fun hci=>?_)
 ·refine Wm z<|RA z z<|Rw z ?_
  obtain rfl:=som<|ifT a1 hci;exact Wr<|rtO<|U_ hr z z z ⟨bup h3 I,z,V,ii z,ii z⟩
 refine Ws<|Rq z z z<|Rw z ?_
 obtain ⟨aN,a2,hmc⟩:=bdS<|ifF a1 hci;refine Wt (fun a w=>Sum.inl ()=aN/\Sat 81 [(3,vI x4)] a/\Below H.z H w) ?_ ?_
 ·refine Wc z (fun hcj=>?_)<|fun hcj=>?_
  ·refine Wq ?_;obtain ⟨aO,a3,a4⟩:=bdS<|ifT a2 hcj;refine Wt (fun a w=>∃(xk:Bool),xk=aO/\Sat 81 [(3,vI x4),(37,vB xk)] a/\Below H.z H w) ?_ ?_
   ·refine Wg<|RM z z ?_
    have ai:=a0.g<|(h3.ag B).e I
    refine R z (lnR l_ z ai)<|Rl z z z<|Rm z ?_
    rcases bs (decide<|x4<(x3.length:Int)) with G | G
    ·refine Rh z G (mv z)<|Rh z G (mv z) ?_
     obtain ⟨aP,aQ,ay⟩:=bdS<|ifT a3 G;refine RXg z z G z (at_ (α:=UInt8) l_ z_5 z z z ai aQ) ?_;rintro _ ⟨_,_,_,rfl,aR,aS,_⟩;obtain rfl:=u8 aS;exact Rh z G (l0 g_5 z<|aR.at0 z)<|Rh z G (eql z z)<|R z (pT z G z)<|Wl (fun _ q=>⟨(byteI aP)==(byteI (1:UInt8)),som ay,q.k<|s2 z z,br H⟩)
    iterate 5 refine Nh z G ?_
    exact R z (pF z G z)<|Wl (fun _ q=>⟨false,som<|ifF a3 G,q.k<|s2 z z,br H⟩)
   rintro aT _ ⟨xk,rfl,_,aj⟩;revert aT;refine Wo<|Wc z (fun hcl=>?_) (fun hcl=>?_)
   ·refine Wm z<|R z (add_ z z)<|RA z z<|Rw z ?_
    obtain rfl:=som<|ifT a4 hcl;have az:=elR hmc;obtain rfl:=som az;exact Wr<|rtO<|U_ hr z z z ⟨bup (bup h3 I) aj,z,iA _ _,ii z,ii z⟩
   exact M_<|fun _ q=>⟨som<|ifF a4 hcl,q.k<|s1 z,aj⟩
  refine Wq<|Ws<|Rq z z z<|Rw z ?_
  obtain ⟨aU,a5,aA⟩:=bdS<|ifF a2 hcj;refine Wt (fun a w=>∃(xm:Bool),xm=aU/\Sat 81 [(2,sl A7 N7 C7),(3,vI x4),(4,pt w0.z),(5,pt wb.z),(40,vB xm)] a/\Below H.z H w) ?_ ?_
  ·refine Wc z (fun hcn=>?_)<|fun hcn=>?_
   ·exact M_<|fun _ q=>⟨x2.kind==5,som<|ifT a5 hcn,q.k<|s5 z z z z z,br H⟩
   exact Wg<|Rq z z z<|Ra z<|Wl (fun _ q=>⟨x2.kind==7,som<|ifF a5 hcn,q.k<|s5 z z z z z,br H⟩)
  rintro aV wo ⟨xm,rfl,_,s6⟩;revert aV;refine Wo ?_;obtain ⟨aW,a6,hmp⟩:=bdS aA;refine Wt (fun a w=>Sum.inl ()=aW/\Sat 81 [(3,vI x4)] a/\Below wo.z wo w) ?_ ?_
  ·refine Wc z (fun hcq=>?_)<|fun hcq=>?_
   ·refine Wq (Wd (X:=noX) 0 (pl_ 15 [7]) mo (by kernel_rfl) fun bk s7 _=>dR z z (lN (vs:=[sl A0 N0 C0]) s_ p_ z z fid<|((((ae.blk:Blk wb w0.z [sl A0 N0 C0]).e I).e s6).e s7).row 0 1 z)<|dR z z (fd K_ z) ?_);have ht:=(hf.e s6).e s7;refine dR z z (l0 z_ z<|ht.at z) ?_;obtain ⟨_,aX,aB⟩:=bdS<|ifT a6 hcq;have hd:=(((h3.ag B).e I).e s6).e s7;refine dRX z z (at_ (α:=Int) q_ z_3 z z z (W.g hd) aX) ?_;rintro _ ⟨_,_,_,rfl,aY,aZ,_⟩;obtain ⟨rfl,b0⟩:=J_ aZ;refine dR z z (l0 g_3 z<|aY.at0 z)<|dM z z z<|dM z z z ?_
    have ak:=lt_ (lt_ (lt_ h3.s I.s) s6.s) s7.s;obtain ⟨rr,al,_,b3,aC⟩:=u_ aB;refine dE z z (fc call75 z<|h_i b3 (zt' ad ak) (ap.g hd) b0 (a0.g hd) V) (.inr fun _ _ h=>B_<|h.1) ?_;rintro _ O ⟨s9,rfl,hu,am⟩;refine dM z z z ?_
    iterate 3 refine dR z z (ext_ z z) ?_
    iterate 3 refine dQ z z z ?_
    refine pD<|Wo<|Wb<|Wm z<|R z (not_ z)<|Rw z ?_
    obtain ⟨b4,a7,hms⟩:=bdS aC;refine Wt (fun a w=>Sum.inl ()=b4/\Sat 81 [(3,vI x4)] a/\Below O.z O w) ?_ ?_
    ·refine Wc z (fun hcv=>?_)<|fun hcv=>?_
     ·exact M_<|fun _ q=>⟨som<|ifT a7 hcv,q.k<|s1 z,br O⟩
     refine Wq ?_;obtain ⟨b5,a8,a9⟩:=bdS<|ifF a7 hcv;refine Wt (fun a w=>∃(xw:Bool),xw=b5/\Sat 81 [(3,vI x4),(5,pt wb.z),(11,vI rr),(12,vI al),(58,vB xw)] a/\Below O.z O w) ?_ ?_
     ·refine Wg<|Rf z a_i z<|R z (l0 g_3 z<|(ht.e s9).at z)<|Rq z z z<|Rm z ?_
      rcases bs (x2.kind==5) with L | L
      ·exact Rh z L (mv z)<|Rh z L (b_Y z z)<|R z (pT z L z)<|Ra z<|Wl (fun _ q=>⟨decide<|rr<=40,som<|ifT a8 L,q.k<|s5 z z z z z,br O⟩)
      exact Nh z L<|Nh z L<|R z (pF z L z)<|Ra z<|Wl (fun _ q=>⟨false,som<|ifF a8 L,q.k<|s5 z z z z z,br O⟩)
     rintro b6 wx ⟨xw,rfl,_,sa⟩;revert b6;refine Wo<|Wc z (fun hcy=>?_) (fun hcy=>?_)
     ·refine Wm z<|Rm z<|RA z z<|Rw z ?_
      obtain rfl:=som<|ifT a9 hcy;have aD:=elR hms;obtain rfl:=som aD;have aE:=elR hmp;obtain rfl:=som aE;have aF:=elR hmc;obtain rfl:=som aF;exact Wr<|rtO<|rtO<|U_ hr z z z ⟨bup (bup (bup (bup (bup h3 I) s6) s7) s9) sa,z,am,hu,ii z⟩
     refine Wq ?_;obtain ⟨b7,aa,ab⟩:=bdS<|ifF a9 hcy;refine Wt (fun a w=>∃(xz:Bool),xz=b7/\Sat 81 [(3,vI x4),(11,vI rr),(12,vI al),(68,vB xz)] a/\Below wx.z wx w) ?_ ?_
     ·refine Wg<|Rf z a_i z ?_
      have an:=(ht.e s9).e sa;refine R z (l0 g_3 z<|an.at z)<|Rq z z z<|Rm z ?_
      rcases bs (x2.kind==7) with J | J
      ·refine Rh z J (lN (vs:=vR x2 A2 N2 C2 A4 N4 C4 A1 N1 C1 A3 N3 C3) I_ k_ z z fid<|an.row 0 8 z)<|Rh z J (mv z) ?_
       have he:=(hd.e s9).e sa;obtain ⟨b8,b9,aG⟩:=bdS<|ifT aa J;refine Eg z z J z (fc call52 z<|e_o b9 (zt' ad<|lt_ (lt_ ak s9.s) sa.s) aq ar au (av.g he) (aw.g he) (ax.g he) (W.g he) hu<|ii z) ?_;rintro _ _ ⟨ba,rfl,_⟩;exact Rh z J (b_e z z)<|R z (pT z J z)<|Ra z<|Wl (fun _ q=>⟨decide<|0<=b8,som aG,q.k<|s4 z z z z,ba⟩)
      iterate 4 refine Nh z J ?_
      exact R z (pF z J z)<|Ra z<|Wl (fun _ q=>⟨false,som<|ifF aa J,q.k<|s4 z z z z,br wx⟩)
     rintro bb _ ⟨xz,rfl,_,ao⟩;revert bb;refine Wo<|Wc z (fun Y=>?_) (fun Y=>?_)
     ·refine Wm z<|Rm z<|RA z z<|Rw z ?_
      obtain rfl:=som<|ifT ab Y;have aH:=elR hms;obtain rfl:=som aH;have aI:=elR hmp;obtain rfl:=som aI;have aJ:=elR hmc;obtain rfl:=som aJ;exact Wr<|rtO<|rtO<|U_ hr z z z ⟨bup (bup (bup (bup (bup (bup h3 I) s6) s7) s9) sa) ao,z,am,ii z,hu⟩
     exact M_<|fun _ q=>⟨som<|ifF ab Y,q.k<|s1 z,bup sa ao⟩
    rintro bc _ ⟨rfl,_,be⟩;have aK:=elL hms;revert bc;exact fun _ q=>⟨som aK,q.k<|s1 z,bup (bup s7 s9) be⟩
   exact M_<|fun _ q=>⟨som<|ifF a6 hcq,q.k<|s1 z,br wo⟩
  rintro bf _ ⟨rfl,_,bg⟩;have aL:=elL hmp;revert bf;exact fun _ q=>⟨som aL,q.k<|s1 z,bup s6 bg⟩
 rintro bh _ ⟨rfl,_,bi⟩;have aM:=elL hmc;revert bh;refine Wo<|Wm z<|RA z z<|Rw z ?_
 obtain rfl:=som aM;exact Wr<|U_ hr z z z ⟨bup (bup h3 I) bi,z,V,ii z,ii z⟩
theorem W_w2f {x1:g_}{x2:Int}{res:Str}(hm:f_z n x1 x2=some res)(a0:B<=w0.z)(ae:x1.name.b.length<=LEN)(af:inI x1.kind)(ah:inI x1.size)(ai:repS w0 B (sl A9 N9 C9) x1.bytes)(V:repS w0 B (sl A8 N8 C8) x1.names)(aj:repS w0 B (sl AA NA CA) x1.tags)(ak:repS w0 B (sl AB NB CB) x1.kids)(W:inI x2):j_ prog 54 [(.agg #[Str.v x1.name,vI x1.kind,vI x1.size,vB x1.little,sl A9 N9 C9,sl A8 N8 C8,sl AA NA CA,sl AB NB CB]),vI x2] w0 (Q4 w0 B res):=by
 unfold f_z at hm
 refine goG func54 z z z fun fn hr=>Ws<|E z (fb z) ?_
 rintro _ L ⟨rfl,hn⟩;have h1:=hn.below;have h6:Blk L w0.z (vR x1 A9 N9 C9 A8 N8 C8 AA NA CA AB NB CB):=hn.blk;refine Rw z<|Wq<|Wb<|Ws<|Rf z a_i z<|R z (l0 g_3 z<|h6.at z)<|Rq z z z<|Rw z<|Wc z (fun hcd=>?_) (fun hcd=>?_)
 ·refine Wm z ?_
  obtain ⟨_,ew,hmx⟩:=bdS<|ifT hm hcd;refine E z (fc call32 z<|e_n ew (zt' a0 h1.s) W) ?_;rintro _ _ ⟨sy,rfl,hz⟩;refine Rw z ?_
  obtain rfl:=som hmx;exact Wr<|rtO<|f_ hr z ⟨bup h1 sy,z,hz⟩
 refine Wq ?_;obtain ⟨a1,hum,hmo⟩:=bdS<|ifF hm hcd;refine Wt (fun a w=>∃(xe:Bool),xe=a1/\Sat 51 [(1,vI x2),(2,pt w0.z),(11,vB xe)] a/\Below L.z L w) ?_ ?_
 ·refine Wg<|Rf z a_i z<|R z (l0 g_3 z<|h6.at z)<|Rq z z z<|Rm z ?_
  rcases bs (x1.kind==6) with G | G
  ·exact Rh z G (mv z)<|Rh z G (fd b_H z)<|Rh z G (l0 b_Q z<|h6.at z)<|Rh z G (lnR a_k z<|V.e h1)<|Rh z G (lss z z)<|R z (pT z G z)<|Ra z<|Wl (fun _ q=>⟨decide<|x2<(x1.names.length:Int),som<|ifT hum G,q.k<|s3 z z z,br L⟩)
  iterate 5 refine Nh z G ?_
  exact R z (pF z G z)<|Ra z<|Wl (fun _ q=>⟨false,som<|ifF hum G,q.k<|s3 z z z,br L⟩)
 rintro a2 O ⟨xe,rfl,_,s2⟩;revert a2;refine Wo<|Wc z (fun hcf=>?_) (fun hcf=>?_)
 ·refine Ws<|Rf z b_H z<|R z (l0 b_Q z<|(h6.e s2).at z)<|Rm z ?_
  obtain ⟨_,a3,Y⟩:=bdS<|ifT hmo hcf;refine RX z (at_ (α:=Str) a_k z_9 z z z (V.g<|(h1.ag B).e s2) a3) ?_;rintro _ ⟨_,_,_,rfl,a4,a5,_⟩;obtain ⟨rfl,a6⟩:=b_B a5;refine R z (l0 g_9 z<|a4.at0 z)<|Rw z ?_
  obtain rfl:=som Y;exact Wr<|rtO<|f_ hr z ⟨bup h1 s2,z,a6⟩
 refine Wq ?_;obtain ⟨a7,hup,hmq⟩:=bdS<|ifF hmo hcf;refine Wt (fun a w=>∃(xg:Bool),xg=a7/\Sat 51 [(1,vI x2),(2,pt w0.z),(27,vB xg)] a/\Below O.z O w) ?_ ?_
 ·refine Wg<|Rf z a_i z<|R z (l0 g_3 z<|(h6.e s2).at z)<|Rq z z z<|Rm z ?_
  rcases bs (x1.kind==7) with H | H
  ·exact Rh z H (mv z)<|Rh z H (eql z z)<|R z (pT z H z)<|Ra z<|Wl (fun _ q=>⟨x2==0,som<|ifT hup H,q.k<|s3 z z z,br O⟩)
  exact Nh z H<|Nh z H<|R z (pF z H z)<|Ra z<|Wl (fun _ q=>⟨false,som<|ifF hup H,q.k<|s3 z z z,br O⟩)
 rintro a8 wa ⟨xg,rfl,_,s7⟩;revert a8;refine Wo<|Wc z (fun hch=>?_) (fun hch=>?_)
 ·refine Ws<|Rw z ?_
  obtain rfl:=som<|ifT hmq hch;exact Wr<|rtO<|f_ hr z ⟨bup (bup h1 s2) s7,z,lb z⟩
 refine Wq ?_;obtain ⟨a9,hur,hms⟩:=bdS<|ifF hmq hch;refine Wt (fun a w=>∃(xi:Bool),xi=a9/\Sat 51 [(1,vI x2),(2,pt w0.z),(35,vB xi)] a/\Below wa.z wa w) ?_ ?_
 ·refine Wg<|Rf z a_i z<|R z (l0 g_3 z<|((h6.e s2).e s7).at z)<|Rq z z z<|Rm z ?_
  rcases bs (x1.kind==8) with I | I
  ·exact Rh z I (mv z)<|Rh z I (eql z z)<|R z (pT z I z)<|Ra z<|Wl (fun _ q=>⟨x2==0,som<|ifT hur I,q.k<|s3 z z z,br wa⟩)
  exact Nh z I<|Nh z I<|R z (pF z I z)<|Ra z<|Wl (fun _ q=>⟨false,som<|ifF hur I,q.k<|s3 z z z,br wa⟩)
 rintro aa wb ⟨xi,rfl,_,sc⟩;revert aa;refine Wo<|Wc z (fun hcj=>?_) (fun hcj=>?_)
 ·refine Ws<|Rw z ?_
  obtain rfl:=som<|ifT hms hcj;exact Wr<|rtO<|f_ hr z ⟨bup (bup (bup h1 s2) s7) sc,z,lb z⟩
 refine Wq ?_;obtain ⟨ab,hut,hmu⟩:=bdS<|ifF hms hcj;refine Wt (fun a w=>∃(xk:Bool),xk=ab/\Sat 51 [(43,vB xk)] a/\Below wb.z wb w) ?_ ?_
 ·refine Wg<|Rf z a_i z<|R z (l0 g_3 z<|(((h6.e s2).e s7).e sc).at z)<|Rq z z z<|Rm z ?_
  rcases bs (x1.kind==9) with J | J
  ·exact Rh z J (mv z)<|Rh z J (eql z z)<|R z (pT z J z)<|Ra z<|Wl (fun _ q=>⟨x2==0,som<|ifT hut J,q.k<|s1 z,br wb⟩)
  exact Nh z J<|Nh z J<|R z (pF z J z)<|Ra z<|Wl (fun _ q=>⟨false,som<|ifF hut J,q.k<|s1 z,br wb⟩)
 rintro ad _ ⟨xk,rfl,_,sv⟩;revert ad;refine Wo<|Wc z (fun hcl=>?_) (fun hcl=>?_)
 ·refine Ws<|Rw z ?_
  obtain rfl:=som<|ifT hmu hcl;exact Wr<|rtO<|f_ hr z ⟨bup (bup (bup (bup h1 s2) s7) sc) sv,z,lb z⟩
 refine Wk<|Ws<|Rw z ?_
 obtain rfl:=som<|ifF hmu hcl;exact Wr<|f_ hr z ⟨bup (bup (bup (bup h1 s2) s7) sc) sv,z,lb z⟩
def Q25 (w0:World)(B:Zone)(r:Str×Int)(v:Value)(w':World):Prop:=Bw w0 w'/\un2 (fun G H=>v = .tuple #[Str.v G,vI H]/\G.b.length<=LEN/\inI H) r
structure i_V (f:d_->Int->(List UInt8)->Int->Str->Option (Str×Int)):Prop where
  run:∀{A0 A7:Option Addr}{N0 C0 N7 C7:Nat}{B:Zone}{x1:d_}{x2:Int}{x3:List UInt8}{x4:Int}{x5:Str}{res:Str×Int}{w0:World}(hm:f x1 x2 x3 x4 x5=some res)(hBw:B<=w0.z)(p1_0:repS w0 B (sl A0 N0 C0) x1.rules)(p2_0:inI x2)(p3_0:repS w0 B (sl A7 N7 C7) x3)(p4_0:inI x4)(p5_0:x5.b.length<=LEN),j_ prog 23 [(.agg #[sl A0 N0 C0]),vI x2,sl A7 N7 C7,vI x4,Str.v x5] w0<|Q25 w0 B res
abbrev k_F (n:Nat):Prop:=i_V (b_L n).spec_l28Find
theorem T_w0c (aQ:k_F n):i_V (c_z n<|b_L n):=by
 constructor
 intro A0 A7 N0 C0 N7 C7 B x1 x2 x3 x4 x5 res w0 hm H O az V aA aB;unfold c_z at hm
 refine goG func23 z z z fun fn hr=>Ws<|E z (fb z) ?_
 rintro _ wr ⟨rfl,a9⟩;have h2:=a9.below;have hu:Blk wr w0.z [sl A0 N0 C0]:=a9.blk;refine Ra z<|Rw z<|Ws<|Rf z N_ z<|R z (l0 R_ z<|hu.at z)<|Rm z ?_
 obtain ⟨xb,aR,aC⟩:=bdS hm;refine RX z (at_ (α:=g_) P_ k_ z z z (O.e h2) aR) ?_;rintro _ ⟨_,_,_,rfl,aS,aT,_⟩;obtain ⟨ac,nd,ce,af,ng,ch,ai,nj,ck,al,nm,cn,rfl,hw,hx,hy,hz,Y,a0,a1⟩:=a_j aT;refine R z (lN (vs:=vR xb ac nd ce af ng ch ai nj ck al nm cn) I_ k_ z z fid aS)<|E z (fa b_h) ?_
 rintro _ aU ⟨rfl,aa⟩;have h6:=aa.below;have ab:Blk aU wr.z [(Str.v (⟨[]⟩:Str)),vI 0,vI 0,vB false,sl none 0 0,sl none 0 0,sl none 0 0,sl none 0 0]:=aa.blk;refine E0 (fs0 (cur':=vR xb ac nd ce af ng ch ai nj ck al nm cn) k_ z z ab z z z z) ?_;rintro _ _ ⟨ad,aV⟩;have h5:=aV.one;refine Wn<|Ws ?_
 have ae:=(hu.e h6).c h5<|djs<|mmr hu.lt
 refine R z (lN (vs:=[sl A0 N0 C0]) s_ p_ z z fid<|ae.row 0 1 z)<|R z (lN (vs:=vR xb ac nd ce af ng ch ai nj ck al nm cn) I_ k_ z z fid<|ad.row 0 8 z)<|RM z z ?_
 have ah:∀k∈[wr.z],¬B k:=or0 (b_ lr)<|i_<|zt' H h2.s;have a2:=((h2.ag B).e h6).c h5<|c_ ah
 have ho:=(h6.ag B).c h5<|c_ ah
 have aj:=lt_ (lt_ h2.s h6.s) h5.s;obtain ⟨_,aW,aX,aY,aD⟩:=u_ aC;refine E z (fc call51 z<|W_w2e aY (zt' H aj) (O.g a2) hw hx hy (hz.g ho) (Y.g ho) (a0.g ho) (a1.g ho) (V.g a2) aA) ?_;rintro _ wp ⟨s4,rfl,aZ,a3,b0⟩;refine Rm z ?_
 iterate 3 refine Re z z z ?_
 refine RA z z<|Rw z<|Wq<|Ws<|Rw z ?_
 obtain ⟨_,aE,a7⟩:=bdS aD;refine Wf (σ:=Int) (ρ:=Str×Int) (fun (ak:Nat)(I:Int) a w=>Sat 71 [(1,vI x2),(2,sl A7 N7 C7),(4,Str.v x5),(5,pt w0.z),(12,pt wr.z),(13,vI I),(14,vI aW),(15,vI aX),(16,vI ((ak:Nat):Int))] a/\Below wp.z wp w/\inI I) (fun (I:Int) a w=>Sat 71 [(1,vI x2),(4,Str.v x5)] a/\Below wp.z wp w/\inI I) (rQ prog fn<|Q25 w0 B) aE ?_ ?_ ?_ ?_ ?_
 ·exact fun _ q=>⟨q.k<|s9 z z z z z z z z z,br wp,aZ⟩
 ·rintro ak I _ _ _ hks ⟨aF,G,hq⟩ aG;refine Wu ?_ aF;refine Wq<|Wm z<|Rm z<|Rl z z z<|Wx z (fun _=>?_) (fun hc=>(g_q hks hc).elim)
  refine Wk<|Wq<|Wb<|Ws ?_
  have am:=(ad.e s4).e G;refine R z (lN (vs:=vR xb ac nd ce af ng ch ai nj ck al nm cn) I_ k_ z z fid<|am.row 0 8 z)<|RM z z ?_
  have ht:=(ho.e s4).e G;have an:=lt_ (lt_ aj s4.s) G.s;obtain ⟨_,b3,aH⟩:=bdS aG;refine E z (fc call52 z<|e_o b3 (zt' H an) hw hx hy (hz.g ht) (Y.g ht) (a0.g ht) (a1.g ht) b0<|ic (Nat.le_of_lt hks)<|tl_ a3) ?_;rintro _ _ ⟨s1,rfl,ao⟩;refine Rw z<|Ws ?_
  have ap:=((ae.e s4).e G).e s1;refine R z (lN (vs:=[sl A0 N0 C0]) s_ p_ z z fid<|ap.row 0 1 z)<|RM z z<|Rm z ?_
  have a4:=((a2.e s4).e G).e s1;have aq:=lt_ an s1.s;obtain ⟨b4,b5,_,b6,a8⟩:=u_ aH;refine E z (fc call53 z<|W_w02.run b6 (zt' H aq) (O.g a4) ao (V.g a4) hq) ?_;rintro _ ar ⟨s3,b7,b8,b9,_,ba,bb,bc,_,rfl,_,_,_,be,_,_,_⟩;refine Rm z ?_
  iterate 3 refine Re z z z ?_
  refine E z (fa a_N) ?_;rintro _ bf ⟨rfl,au⟩;have J:=au.below;refine E0 (fs0 (cur':=[vI b4.number,sl b7 b8 b9,sl ba bb bc]) t_ z z (au.blk:Blk bf ar.z [vI 0,sl none 0 0,sl none 0 0]) z z z z) ?_;rintro _ _ ⟨_,bg⟩;have L:=bg.one;refine Ra z<|Rw z<|Wq<|Wm z<|R z (nq z z)<|Wx z (fun W=>?_) (fun W=>?_)
  ·refine Wq<|Wd (X:=noX) 0 (pl_ 15 [8,10]) mo (by kernel_rfl) fun bs sa _=>dR z z (lN (vs:=[sl A0 N0 C0]) s_ p_ z z fid<|((((ap.e s3).e J).c L<|djs<|mm1 hu.lt<|lt_ (lt_ (lt_ (lt_ (lt_ h6.s h5.s) s4.s) G.s) s1.s) s3.s).e sa).row 0 1 z) ?_
   iterate 4 refine dM z z z ?_
   obtain ⟨_,bh,aI⟩:=bdS<|ifT a8 W;refine dR z z (a_o z z bh)<|dR z z (lN (vs:=vR xb ac nd ce af ng ch ai nj ck al nm cn) I_ k_ z z fid<|(((((am.e s1).e s3).e J).c L<|djs<|mm1 ab.lt<|lt_ (lt_ (lt_ (lt_ h5.s s4.s) G.s) s1.s) s3.s).e sa).row 0 8 z)<|dM z z z ?_
   have a5:=lt_ aq s3.s;have av:∀k∈[ar.z],¬B k:=or0 (b_ lr)<|i_<|zt' H a5;have hv:=((((ht.e s1).e s3).e J).c L<|c_ av).e sa;have aw:=lt_ (lt_ (lt_ a5 J.s) L.s) sa.s;obtain ⟨_,bi,aJ⟩:=bdS aI;refine dE z z (fc call54 z<|W_w2f bi (zt' H aw) hw hx hy (hz.g hv) (Y.g hv) (a0.g hv) (a1.g hv)<|ic (Nat.le_of_lt hks)<|tl_ a3) (.inr fun _ _ h=>B_<|h.1) ?_;rintro _ _ ⟨a6,rfl,_⟩;obtain ⟨_,ax,aK⟩:=bdS aJ;refine dR z z (a_o z z ax) ?_;have ay:=((((a4.e s3).e J).c L<|c_ av).e sa).e a6;obtain ⟨_,_,bj,aL⟩:=a_G aK;refine dE z z (fc call23 z<|aQ.run bj (zt' H<|lt_ aw a6.s) (O.g ay) ao (V.g ay) hq<|b_2 ax) (.inr fun _ _ h=>B_<|h.1) ?_;rintro _ _ ⟨bk,rfl,bm,bn⟩;exact dR z z (ext_ z z)<|dR z z (ext_ z z)<|dQ z z z<|dQ z z z<|pD<|Wo<|Wr<|rtO<|qL (som aL).symm<|b_C hr z z ⟨bup (bup (bup (bM (bup (bup (bup (bup (bup (bM (bup h2 h6) h5<|m1 h2.s) s4) G) s1) s3) J) L<|m1 a5) sa) a6) bk,z,bm,bn⟩
  exact Wk<|Wg<|Rm z<|Rw z<|Wg<|Rm z<|R z (inc_ hks (tl_ a3) z z)<|Ra z<|Wl (fun _ q=>⟨b5,(som<|ifF a8 W).symm,⟨q.k<|s9 z z z z z z z z z,bM (bup (bup (bup G s1) s3) J) L<|m1<|lt_ (lt_ G.s s1.s) s3.s,be⟩⟩)
 ·rintro I _ _ ⟨aM,bo,hq⟩;refine Wu ?_ aM;refine Wq<|Wm z<|Rm z<|Rl z z z<|Wx z (fun hc=>(g_r hc).elim) (fun _=>?_)
  exact We<|fun _ q=>⟨rfl,⟨q.k<|s2 z z,bo,hq⟩⟩
 ·rintro I bp _ rfl ⟨_,bq,hq⟩;have aN:=elL a7;revert bp;refine Wo<|Wm z<|Rm z<|Ra z<|Rw z ?_
  obtain rfl:=som aN;exact Wr<|b_C hr z z ⟨bup (bup (bM (bup h2 h6) h5<|m1 h2.s) s4) bq,z,aB,az⟩
 rintro _ _ _ _ rfl ⟨rfl,aO⟩;have aP:=elR a7;obtain rfl:=som aP;exact ⟨aO,z⟩
theorem A_w0c:∀n,k_F n
  | 0=>⟨fun hm=>by intros;exact nomatch (show none=some _ from hm)⟩
  | n+1=>T_w0c<|A_w0c n
theorem W_w0c:i_V (b_L n).spec_l28Find:=A_w0c n
theorem W_w2g {x1:d_}{x2:List UInt8}{res:a_n}(hm:e_N n x1 x2=some res)(V:B<=w0.z)(W:repS w0 B (sl A0 N0 C0) x1.rules)(Y:repS w0 B (sl A6 N6 C6) x2):j_ prog 8 [(.agg #[sl A0 N0 C0]),sl A6 N6 C6] w0 (Q21 w0 B res):=by
 unfold e_N at hm
 refine goG func8 z z z fun fn hr=>Ws<|E z (fb z) ?_
 rintro _ wa ⟨rfl,hu⟩;have hh:=hu.below;have hv:Blk wa w0.z [sl A0 N0 C0]:=hu.blk;refine E z (fa f_n) ?_;rintro _ ao ⟨rfl,hw⟩;have hb:=hw.below;have hx:Blk ao wa.z [vI 0,vI 0,Str.v (⟨[]⟩:Str),vI 0]:=hw.blk;refine Wn<|Ws ?_
 have hy:=hv.e hb;refine R z (lN (vs:=[sl A0 N0 C0]) s_ p_ z z fid<|hy.row 0 1 z)<|Rm z ?_
 have hk:=(hh.ag B).e hb;have hz:=lt_ hh.s hb.s;obtain ⟨J,H,ap,ah⟩:=a_G hm;refine E z (fc call7 z<|W_w1g ap (zt' V hz) (W.g hk)<|Y.g hk) ?_;rintro _ _ ⟨s7,rfl,aq,ar⟩;refine Rm z<|Re z z z<|Re z z z<|Ra z<|Rw z<|Wm z<|Rm z ?_
 have a2:=hy.e s7;refine R z (lN (vs:=[sl A0 N0 C0]) s_ p_ z z fid<|a2.row 0 1 z) ?_;have a3:=hk.e s7;have hl:=lt_ hz s7.s;obtain ⟨ri,au,ai⟩:=bdS ah;refine E z (fc call22 z<|h_h au (zt' V hl)<|W.g a3) ?_;rintro _ G ⟨s6,rfl,av⟩;refine R z (bP (parts:=[(0,.tmp 14),(1,.tmp 15),(3,.tmp 17)]) (cs:=[vI H,vI J,Str.v (⟨[]⟩:Str),vI ri]) k_t z z)<|E z (fa f_n) ?_
 rintro _ aw ⟨rfl,a4⟩;have hc:=a4.below;refine E0 (fs0 (cur':=[vI H,vI J,Str.v (⟨[]⟩:Str),vI ri]) b_y z z (a4.blk:Blk aw G.z [vI 0,vI 0,Str.v (⟨[]⟩:Str),vI 0]) z z z z) ?_;rintro _ I ⟨hn,ax⟩;have hd:=ax.one;refine Wn<|Wq<|Wm z<|Wn<|Wb<|Ws<|Rq z z z<|Rw z ?_
 obtain ⟨ay,hus,aj⟩:=bdS ai;refine Wt (fun a w=>∃(x5:Str)(O:Int),(x5,O)=ay/\Sat 37 [(4,pt wa.z),(7,pt G.z)] a/\Chg (· ∈ [G.z]) I w/\x5.b.length<=LEN/\inI O/\Blk w G.z [vI H,vI J,Str.v x5,vI O]) ?_ ?_
 ·refine Wc z (fun hcm=>?_)<|fun hcm=>?_
  ·refine Wg<|Rf z b_G z<|E0 (fs0 (cur':=[vI H,vI J,Str.v (⟨[]⟩:Str),vI (-1)]) z_3 z z hn z z z z) ?_
   rintro _ az ⟨aA,aB⟩;refine Wl ?_;exact fun _ q=>⟨(⟨[]⟩:Str),(-1),som<|ifT hus hcm,q.k<|s2 z z,(cM (cr [G.z] I) aB.one (io sr):Chg (· ∈ [G.z]) I az),lb z,ii z,aA⟩
  refine Wq<|Ws<|Rq z z z<|Rw z ?_
  obtain ⟨aC,a0,ak⟩:=bdS<|ifF hus hcm;refine Wt (fun a w=>∃(xo:Bool),xo=aC/\Sat 37 [(1,sl A6 N6 C6),(2,pt w0.z),(4,pt wa.z),(7,pt G.z),(33,vB xo)] a/\Below I.z I w) ?_ ?_
  ·refine Wc z (fun hcp=>?_)<|fun hcp=>?_
   ·exact M_<|fun _ q=>⟨H==0,som<|ifT a0 hcp,q.k<|s5 z z z z z,br I⟩
   exact Wg<|Rq z z z<|Ra z<|Wl (fun _ q=>⟨H==7,som<|ifF a0 hcp,q.k<|s5 z z z z z,br I⟩)
  rintro aD L ⟨xo,rfl,_,s9⟩;revert aD;refine Wo ?_;obtain ⟨aE,a1,al⟩:=bdS ak;refine Wt (fun a w=>∃(xe:Str)(xf:Int),(xe,xf)=aE/\Sat 37 [(4,pt wa.z),(7,pt G.z)] a/\Chg (· ∈ [G.z]) L w/\xe.b.length<=LEN/\inI xf/\Blk w G.z [vI H,vI J,Str.v xe,vI xf]) ?_ ?_
  ·refine Wc z (fun hcq=>?_)<|fun hcq=>?_
   ·exact M_<|fun _ q=>⟨(⟨[]⟩:Str),ri,som<|ifT a1 hcq,q.k<|s2 z z,cr [G.z] L,lb z,av,hn.e s9⟩
   refine Wd (X:=(· ∈ [G.z])) 0 (.rd 0<|.rd 1<|.rd 3<|.ef 2<|.ef 4<|.rd 5<|.rd 6<|.rd 7<|.rd 8<|.ef 9<|.rd 10<|.ef 11 .done) mo (by kernel_rfl) fun aF sg _=>?_
   have ht:=mm1 hv.lt<|lt_ (lt_ hb.s s7.s) s6.s
   have a5:=((((a2.e s6).e hc).c hd<|djs ht).e s9).e sg;refine dR z z (lN (vs:=[sl A0 N0 C0]) s_ p_ z z (djs ht)<|a5.row 0 1 z)<|dR z z (lN (vs:=[sl A0 N0 C0]) s_ p_ z z (djs ht)<|a5.row 0 1 z)<|dM z z z ?_
   have a6:=lt_ hl s6.s;have a7:=((((a3.e s6).e hc).c hd<|c_ (or0 (b_ lr) (i_<|zt' V a6):∀k∈[G.z],¬B k)).e s9).e sg;have a8:=lt_ (lt_ (lt_ (lt_ a6 hc.s) hd.s) s9.s) sg.s;obtain ⟨_,aG,am⟩:=bdS<|ifF a1 hcq;refine dE z z (fc call22 z<|h_h aG (zt' V a8)<|W.g a7) (.inr fun _ _ h=>B_<|h.1) ?_;rintro _ aH ⟨sj,rfl,aI⟩;have a9:=a7.e sj;obtain ⟨rr,aa,aJ,an⟩:=a_G am;refine dE z z (fc call23 z<|W_w0c.run aJ (zt' V<|lt_ a8 sj.s) (W.g a9) aI (Y.g a9) (ii z)<|lb z) (.inr fun _ _ h=>B_<|h.1) ?_;rintro _ aK ⟨ab,rfl,aL,aM⟩;refine dM z z z<|dR z z (ext_ z z)<|dR z z (ext_ z z)<|dR z z (fd e_j z)<|dE0 z (fs0 (cur':=[vI H,vI J,Str.v rr,vI ri]) z_9 z z ((((hn.e s9).e sg).e sj).e ab) z z z z) (.inr fun _ _ h=>e_R (List.mem_singleton.2 z) h.2) ?_
   rintro _ aN ⟨aO,aP⟩;refine dR z z (fd b_G z)<|dE0 z (fs0 (cur':=[vI H,vI J,Str.v rr,vI aa]) z_3 z z aO z z z z) (.inr fun _ _ h=>e_R (List.mem_singleton.2 z) h.2) ?_
   rintro _ aQ ⟨aR,aS⟩;refine pD ?_;exact fun _ q=>⟨rr,aa,som an,q.k<|s2 z z,(cM (cM (e_ (e_ (e_ (cr [G.z] L) sg:Chg (· ∈ [G.z]) L aF) sj:Chg (· ∈ [G.z]) L aH) ab:Chg (· ∈ [G.z]) L aK) aP.one (io sr):Chg (· ∈ [G.z]) L aN) aS.one (io sr):Chg (· ∈ [G.z]) L aQ),aL,aM,aR⟩
  rintro aT aU ⟨xe,xf,rfl,_,aV,aW,aX,aY⟩;revert aT;exact fun _ q=>⟨xe,xf,som<|a_B al,q.k<|s2 z z,(cM (e_ (cr [G.z] I) s9:Chg (· ∈ [G.z]) I L) aV (io sr):Chg (· ∈ [G.z]) I aU),aW,aX,aY⟩
 rintro aZ _ ⟨x5,O,rfl,_,ad,b0,b3,b4⟩;revert aZ;refine Wo<|Ws<|R z (lN (vs:=[vI H,vI J,Str.v x5,vI O]) c_F b_y z z fid<|b4.row 0 4 z) ?_
 have ae:=mm1 hx.lt<|lt_ s7.s s6.s
 refine E0 (fs0 (cur':=[vI H,vI J,Str.v x5,vI O]) b_y z z (((((hx.e s7).e s6).e hc).c hd<|djs ae).c ad<|djs ae) z z z z) ?_;rintro _ _ ⟨b5,b6⟩;refine Wn ?_;obtain rfl:=som<|a_B aj;have af:=m1<|lt_ hl s6.s
 exact Wr<|f_ hr (E_ c_F b_y z b5 z) ⟨bM (bM (bM (bup (bup (bup (bup hh hb) s7) s6) hc) hd af) ad af) b6.one<|m1 hh.s,z,ar,aq,b0,b3⟩
theorem W_w1h {x1:Int}{res:Str}(hm:d_W x1=some res)(O:B<=w0.z)(L:inI x1):j_ prog 55 [vI x1] w0 (Q4 w0 B res):=by
 unfold d_W at hm
 refine goG func55 z z z fun fn hr=>Ws<|Rw z<|Wq<|Wm z ?_
 obtain ⟨_,V,I⟩:=bdS hm;refine E z (fc call83 z<|c_I (B:=B) V O L (ii z)<|ii z) ?_;rintro _ H ⟨s3,rfl⟩;refine R z (not_ z)<|Wx z (fun G=>?_) (fun G=>?_)
 ·refine Ws<|Rw z ?_
  obtain rfl:=som<|ifT I G;exact Wr<|f_ hr z ⟨s3,z,lb z⟩
 refine Wk<|Ws<|E z (fS [(.const<|Str.v ⟨[111,107]⟩),.const<|Str.v ⟨[115,104,111,114,116]⟩,.const<|Str.v ⟨[99,111,110,115,116]⟩,.const<|Str.v ⟨[116,97,103]⟩,.const<|Str.v ⟨[102,108,97,103]⟩,.const<|Str.v ⟨[115,117,109]⟩,.const<|Str.v ⟨[99,111,117,110,116]⟩,.const<|Str.v ⟨[116,114,97,105,108,105,110,103]⟩,(.const<|Str.v ⟨[114,117,108,101]⟩)] b_R z z z (Y_ z) (lb z)<|lb z) ?_
 rintro _ J ⟨rfl,h5⟩;refine Rm z ?_;obtain ⟨_,W,hma⟩:=bdS<|ifF I G;refine RX z (at_ (α:=Str) a_k z_9 z z z (a_.rep (g_u (l:=[(⟨[111,107]⟩:Str),(⟨[115,104,111,114,116]⟩:Str),(⟨[99,111,110,115,116]⟩:Str),(⟨[116,97,103]⟩:Str),(⟨[102,108,97,103]⟩:Str),(⟨[115,117,109]⟩:Str),(⟨[99,111,117,110,116]⟩:Str),(⟨[116,114,97,105,108,105,110,103]⟩:Str),(⟨[114,117,108,101]⟩:Str)]) (h5.blk:Blk J H.z [(Str.v (⟨[111,107]⟩:Str)),Str.v (⟨[115,104,111,114,116]⟩:Str),Str.v (⟨[99,111,110,115,116]⟩:Str),Str.v (⟨[116,97,103]⟩:Str),Str.v (⟨[102,108,97,103]⟩:Str),Str.v (⟨[115,117,109]⟩:Str),Str.v (⟨[99,111,117,110,116]⟩:Str),Str.v (⟨[116,114,97,105,108,105,110,103]⟩:Str),(Str.v (⟨[114,117,108,101]⟩:Str))]) (ac0 (lb z)<|ac0 (lb z)<|ac0 (lb z)<|ac0 (lb z)<|ac0 (lb z)<|ac0 (lb z)<|ac0 (lb z)<|ac0 (lb z)<|ac0 (lb z) an0) z:a_ J [H.z] (sl (some ⟨H.z,0,none⟩) 9 9) ([(⟨[111,107]⟩:Str),(⟨[115,104,111,114,116]⟩:Str),(⟨[99,111,110,115,116]⟩:Str),(⟨[116,97,103]⟩:Str),(⟨[102,108,97,103]⟩:Str),(⟨[115,117,109]⟩:Str),(⟨[99,111,117,110,116]⟩:Str),(⟨[116,114,97,105,108,105,110,103]⟩:Str),(⟨[114,117,108,101]⟩:Str)]:List Str))) W) ?_;rintro _ ⟨_,_,_,rfl,hb,hc,_⟩;obtain ⟨rfl,hd⟩:=b_B hc;refine R z (l0 g_9 z<|hb.at0 z)<|Rw z ?_
 obtain rfl:=som hma;exact Wr<|f_ hr z ⟨bup s3 h5.below,z,hd⟩
theorem W_w2h {x1:Int}{x2:Int}{res:Str}(hm:g_g x1 x2=some res)(G:B<=w0.z)(hG:Gl w0 B)(L:inI x1)(I:inI x2):j_ prog 24 [vI x1,vI x2] w0 (Q4 w0 B res):=by
 unfold g_g at hm
 refine goG func24 z z z fun fn hr=>Ws<|Rw z<|Wq<|Wm z<|Rq z z z<|Wx z (fun H=>?_) (fun H=>?_)
 ·refine Wm z ?_
  obtain ⟨_,W,O⟩:=bdS<|ifT hm H;refine E z (fc call55 z<|W_w1h (B:=B) W G I) ?_;rintro _ _ ⟨s5,rfl,h6⟩;refine Rw z ?_
  obtain rfl:=som O;exact Wr<|f_ hr z ⟨s5,z,h6⟩
 refine Wk<|Wm z ?_
 obtain ⟨_,Y,V⟩:=bdS<|ifF hm H;refine E z (fc call55 z<|W_w1h (B:=B) Y G I) ?_;rintro _ _ ⟨s1,rfl,_⟩;obtain ⟨_,e9,hma⟩:=bdS V;refine R z (a_o z z e9)<|Rm z ?_
 obtain ⟨_,eb,hmc⟩:=bdS hma;refine E z (fc call29 z<|h_f eb (zt' G s1.s) (hG.e s1) L) ?_;rintro _ _ ⟨sd,rfl,_⟩;obtain ⟨_,J,hme⟩:=bdS hmc;refine R z (a_o z z J)<|Rw z ?_
 obtain rfl:=som hme;exact Wr<|f_ hr z ⟨bup s1 sd,z,b_2 J⟩
theorem W_w2i {x1:d_}{x2:a_n}{res:Str}(hm:d_n x1 x2=some res)(O:B<=w0.z)(hG:Gl w0 B)(L:repS w0 B (sl A0 N0 C0) x1.rules)(V:inI x2.code)(W:inI x2.position)(am:x2.path.b.length<=LEN)(Y:inI x2.rule):j_ prog 9 [(.agg #[sl A0 N0 C0]),(.agg #[vI x2.code,vI x2.position,Str.v x2.path,vI x2.rule])] w0 (Q4 w0 B res):=by
 unfold d_n at hm
 refine goG func9 z z z fun fn hr=>Ws<|E z (fb z) ?_
 rintro _ wa ⟨rfl,hf⟩;have h1:=hf.below;refine E z (fb z) ?_;rintro _ wq ⟨rfl,hg⟩;have G:=hg.below;have h5:Blk wq wa.z [vI x2.code,vI x2.position,Str.v x2.path,vI x2.rule]:=hg.blk;refine Rw z<|Wq<|Ws<|Rf z d_E z<|R z (l0 g_3 z<|h5.at z)<|Rq z z z<|Wx z (fun hcb=>?_) (fun hcb=>?_)
 ·refine Ws<|Rw z ?_
  obtain rfl:=som<|ifT hm hcb;exact Wr<|f_ hr z ⟨bup h1 G,z,lb z⟩
 refine Wk<|Ws<|Rf z i_s z<|R z (l0 g_3 z<|h5.at z)<|Rf z d_E z<|R z (l0 g_3 z<|h5.at z) ?_
 have hh:=lt_ h1.s G.s;obtain ⟨rr,es,hmt⟩:=bdS<|ifF hm hcb;refine E z (fc call24 z<|W_w2h es (zt' O hh) ((hG.e h1).e G) W V) ?_;rintro _ H ⟨s2,rfl,hu⟩;refine Rw z<|Wq<|Ws<|Rf z e_j z ?_
 have hc:=h5.e s2;refine R z (l0 g_9 z<|hc.at z)<|R z (g_J z z)<|Wn ?_
 obtain ⟨uv,hui,hmw⟩:=bdS hmt;refine Wt (fun a w=>∃(x3:Str),x3=uv/\Sat 38 [(2,pt w0.z),(3,pt wa.z),(5,Str.v x3)] a/\Below H.z H w/\x3.b.length<=LEN) ?_ ?_
 ·refine Wc z (fun hcd=>?_)<|fun hcd=>?_
  ·refine Wg<|Rm z<|Rf z e_j z<|R z (l0 g_9 z<|hc.at z) ?_
   obtain ⟨_,ex,hmy⟩:=bdS<|ifT hui hcd;refine R z (a_o z z ex) ?_;obtain ⟨xz,ej,a0⟩:=bdS hmy;exact R z (a_o z z ej)<|Ra z<|Wl (fun _ q=>⟨xz,som a0,q.k<|s3 z z z,br H,b_2 ej⟩)
  exact M_<|fun _ q=>⟨rr,som<|ifF hui hcd,q.k<|s3 z z z,br H,hu⟩
 rintro a7 _ ⟨x3,rfl,_,s4,a8⟩;revert a7;refine Wo<|Wq<|Ws ?_
 have hk:=(((hf.blk:Blk wa w0.z [sl A0 N0 C0]).e G).e s2).e s4;refine R z (lN (vs:=[sl A0 N0 C0]) s_ p_ z z fid<|hk.row 0 1 z)<|Rf z b_G z ?_
 have hl:=hc.e s4;refine R z (l0 g_3 z<|hl.at z) ?_;have hn:=(((h1.ag B).e G).e s2).e s4;obtain ⟨_,a9,a1⟩:=bdS hmw;refine E z (fc call25 z<|f_p a9 (zt' O<|lt_ (lt_ hh s2.s) s4.s) (L.g hn) Y) ?_;rintro _ I ⟨s8,rfl⟩;refine Wn ?_;obtain ⟨aa,hum,a2⟩:=bdS a1;refine Wt (fun a w=>∃(J:Str),J=aa/\Sat 38 [(5,Str.v J)] a/\Below I.z I w/\J.b.length<=LEN) ?_ ?_
 ·refine Wc z (fun hce=>?_)<|fun hce=>?_
  ·refine Wg<|Rm z<|Rf z N_ z<|R z (l0 R_ z<|(hk.e s8).at z)<|Rf z b_G z<|R z (l0 g_3 z<|(hl.e s8).at z) ?_
   obtain ⟨_,ab,a3⟩:=bdS<|ifT hum hce;refine RX z (at_ (α:=g_) P_ k_ z z z (L.g<|hn.e s8) ab) ?_;rintro _ ⟨_,_,_,rfl,ad,ae,_⟩;obtain ⟨_,_,_,_,_,_,_,_,_,_,_,_,rfl,_,_,_,_,_,_,_⟩:=a_j ae;refine Rf z d_d z<|R z (l0 g_9 z<|ad.at (j:=0) z) ?_
   obtain ⟨_,af,a4⟩:=bdS a3;refine R z (a_o z z af) ?_;obtain ⟨_,ah,a5⟩:=bdS a4;refine R z (a_o z z ah) ?_;obtain ⟨ai,eo,a6⟩:=bdS a5;exact R z (a_o z z eo)<|Ra z<|Wl (fun _ q=>⟨ai,som a6,q.k<|s1 z,br I,b_2 eo⟩)
  exact M_<|fun _ q=>⟨x3,som<|ifF hum hce,q.k<|s1 z,br I,a8⟩
 rintro aj _ ⟨J,rfl,_,ak,al⟩;revert aj;refine Wo<|Wm z<|Rw z ?_
 obtain rfl:=som a2;exact Wr<|f_ hr z ⟨bup (bup (bup (bup (bup h1 G) s2) s4) s8) ak,z,al⟩
theorem W_w2j {x1:Int}{res:Str}(hm:e_O x1=some res)(O:B<=w0.z)(L:inI x1):j_ prog 56 [vI x1] w0 (Q4 w0 B res):=by
 unfold e_O at hm
 refine goG func56 z z z fun fn hr=>Ws<|Rw z<|Ws<|E z (fS [(.const<|Str.v ⟨[111,107]⟩),.const<|Str.v ⟨[115,104,111,114,116]⟩,.const<|Str.v ⟨[99,111,110,115,116]⟩,.const<|Str.v ⟨[116,97,103]⟩,.const<|Str.v ⟨[102,108,97,103]⟩,.const<|Str.v ⟨[115,117,109]⟩,.const<|Str.v ⟨[99,111,117,110,116]⟩,.const<|Str.v ⟨[116,114,97,105,108,105,110,103]⟩,(.const<|Str.v ⟨[114,117,108,101]⟩)] b_R z z z (Y_ z) (lb z)<|lb z) ?_
 rintro _ J ⟨rfl,h5⟩;have H:=h5.below;have h1:a_ J [w0.z] (sl (some ⟨w0.z,0,none⟩) 9 9) ([(⟨[111,107]⟩:Str),(⟨[115,104,111,114,116]⟩:Str),(⟨[99,111,110,115,116]⟩:Str),(⟨[116,97,103]⟩:Str),(⟨[102,108,97,103]⟩:Str),(⟨[115,117,109]⟩:Str),(⟨[99,111,117,110,116]⟩:Str),(⟨[116,114,97,105,108,105,110,103]⟩:Str),(⟨[114,117,108,101]⟩:Str)]:List Str):=g_u (l:=[(⟨[111,107]⟩:Str),(⟨[115,104,111,114,116]⟩:Str),(⟨[99,111,110,115,116]⟩:Str),(⟨[116,97,103]⟩:Str),(⟨[102,108,97,103]⟩:Str),(⟨[115,117,109]⟩:Str),(⟨[99,111,117,110,116]⟩:Str),(⟨[116,114,97,105,108,105,110,103]⟩:Str),(⟨[114,117,108,101]⟩:Str)]) (h5.blk:Blk J w0.z [(Str.v (⟨[111,107]⟩:Str)),Str.v (⟨[115,104,111,114,116]⟩:Str),Str.v (⟨[99,111,110,115,116]⟩:Str),Str.v (⟨[116,97,103]⟩:Str),Str.v (⟨[102,108,97,103]⟩:Str),Str.v (⟨[115,117,109]⟩:Str),Str.v (⟨[99,111,117,110,116]⟩:Str),Str.v (⟨[116,114,97,105,108,105,110,103]⟩:Str),(Str.v (⟨[114,117,108,101]⟩:Str))]) (ac0 (lb z)<|ac0 (lb z)<|ac0 (lb z)<|ac0 (lb z)<|ac0 (lb z)<|ac0 (lb z)<|ac0 (lb z)<|ac0 (lb z)<|ac0 (lb z) an0) z;refine Rw z<|Wq<|Wm z<|Rm z<|R z (lnR a_k z<|a_.rep h1)<|R z (sb_ z z) ?_
 obtain ⟨_,V,I⟩:=bdS hm;refine E z (fc call27 z<|a_T V (zt' O H.s) L (ii z)<|iS _ _) ?_;rintro _ _ ⟨s2,rfl⟩;refine R z (not_ z)<|Wx z (fun G=>?_) (fun G=>?_)
 ·refine Ws<|Rw z ?_
  obtain rfl:=som<|ifT I G;exact Wr<|f_ hr z ⟨bup H s2,z,lb z⟩
 refine Wk<|Wm z<|Rm z ?_
 obtain ⟨_,W,hma⟩:=bdS<|ifF I G;refine RX z (at_ (α:=Str) a_k z_9 z z z (or_ (h1.e s2)<|a_.lt h1) W) ?_;rintro _ ⟨_,_,_,rfl,hb,hc,_⟩;obtain ⟨rfl,hd⟩:=b_B hc;refine R z (l0 g_9 z<|hb.at0 z)<|Rw z ?_
 obtain rfl:=som hma;exact Wr<|f_ hr z ⟨bup H s2,z,hd⟩
theorem W_w2k {x1:Int}{x2:Int}{res:Str}(hm:d_V n x1 x2=some res)(H:B<=w0.z)(J:inI x1)(L:inI x2):j_ prog 26 [vI x1,vI x2] w0 (Q4 w0 B res):=by
 unfold d_V at hm
 refine goG func26 z z z fun fn hr=>Ws<|Rw z<|Wq<|Wm z<|Rq z z z<|Wx z (fun G=>?_) (fun G=>?_)
 ·refine Ws<|Rw z ?_
  obtain rfl:=som<|ifT hm G;exact Wr<|f_ hr z ⟨br w0,z,lb z⟩
 refine Wk<|Wm z ?_
 obtain ⟨_,Y,O⟩:=bdS<|ifF hm G;refine E z (fc call56 z<|W_w2j (B:=B) Y H L) ?_;rintro _ _ ⟨s1,rfl,_⟩;obtain ⟨_,e5,V⟩:=bdS O;refine R z (a_o z z e5)<|Rm z ?_
 obtain ⟨_,e7,W⟩:=bdS V;refine E z (fc call32 z<|e_n e7 (zt' H s1.s) J) ?_;rintro _ _ ⟨s9,rfl,_⟩;obtain ⟨_,I,hma⟩:=bdS W;refine R z (a_o z z I)<|Rw z ?_
 obtain rfl:=som hma;exact Wr<|f_ hr z ⟨bup s1 s9,z,b_2 I⟩
theorem W_w2l {x1:d_}{x2:a_n}{res:Str}(hm:c_A n x1 x2=some res)(O:B<=w0.z)(L:repS w0 B (sl A0 N0 C0) x1.rules)(V:inI x2.code)(W:inI x2.position)(am:x2.path.b.length<=LEN)(Y:inI x2.rule):j_ prog 10 [(.agg #[sl A0 N0 C0]),(.agg #[vI x2.code,vI x2.position,Str.v x2.path,vI x2.rule])] w0 (Q4 w0 B res):=by
 unfold c_A at hm
 refine goG func10 z z z fun fn hr=>Ws<|E z (fb z) ?_
 rintro _ wa ⟨rfl,hf⟩;have h4:=hf.below;refine E z (fb z) ?_;rintro _ wr ⟨rfl,hg⟩;have h1:=hg.below;have hb:Blk wr wa.z [vI x2.code,vI x2.position,Str.v x2.path,vI x2.rule]:=hg.blk;refine Rw z<|Ws<|Rf z i_s z<|R z (l0 g_3 z<|hb.at z)<|Rf z d_E z<|R z (l0 g_3 z<|hb.at z) ?_
 have hh:=lt_ h4.s h1.s;obtain ⟨rs,eu,hmi⟩:=bdS hm;refine E z (fc call26 z<|W_w2k eu (zt' O hh) W V) ?_;rintro _ H ⟨G,rfl,hj⟩;refine Rw z<|Wq<|Ws<|Rf z d_E z ?_
 have h6:=hb.e G;refine R z (l0 g_3 z<|h6.at z)<|Rq z z z<|Wx z (fun hcc=>?_) (fun hcc=>?_)
 ·refine Wm z<|Rw z ?_
  obtain rfl:=som<|ifT hmi hcc;exact Wr<|f_ hr z ⟨bup (bup h4 h1) G,z,hj⟩
 refine Wk<|Wq<|Ws<|Rf z e_j z<|R z (l0 g_9 z<|h6.at z)<|R z (g_J z z)<|Wn ?_
 obtain ⟨uv,huk,hmw⟩:=bdS<|ifF hmi hcc;refine Wt (fun a w=>∃(x3:Str),x3=uv/\Sat 42 [(2,pt w0.z),(3,pt wa.z),(5,Str.v x3)] a/\Below H.z H w/\x3.b.length<=LEN) ?_ ?_
 ·refine Wc z (fun hcd=>?_)<|fun hcd=>?_
  ·refine Wg<|Rm z ?_
   obtain ⟨_,ex,hmy⟩:=bdS<|ifT huk hcd;refine R z (a_o z z ex)<|Rf z e_j z<|R z (l0 g_9 z<|h6.at z) ?_
   obtain ⟨xz,el,a0⟩:=bdS hmy;exact R z (a_o z z el)<|Ra z<|Wl (fun _ q=>⟨xz,som a0,q.k<|s3 z z z,br H,b_2 el⟩)
  exact M_<|fun _ q=>⟨rs,som<|ifF huk hcd,q.k<|s3 z z z,br H,hj⟩
 rintro a7 _ ⟨x3,rfl,_,s2,a8⟩;revert a7;refine Wo<|Wq<|Ws<|Rf z b_G z ?_
 have hn:=h6.e s2;refine R z (l0 g_3 z<|hn.at z)<|Rf z N_ z ?_
 have ho:=(((hf.blk:Blk wa w0.z [sl A0 N0 C0]).e h1).e G).e s2;refine R z (l0 R_ z<|ho.at z) ?_;have hp:=(((h4.ag B).e h1).e G).e s2;refine R z (lnR P_ z<|L.g hp)<|R z (sb_ z z) ?_
 obtain ⟨_,a9,a1⟩:=bdS hmw;refine E z (fc call27 z<|a_T a9 (zt' O<|lt_ (lt_ hh G.s) s2.s) Y (ii z)<|iS _ _) ?_;rintro _ I ⟨s8,rfl⟩;refine Wn ?_;obtain ⟨aa,hum,a2⟩:=bdS a1;refine Wt (fun a w=>∃(J:Str),J=aa/\Sat 42 [(5,Str.v J)] a/\Below I.z I w/\J.b.length<=LEN) ?_ ?_
 ·refine Wc z (fun hce=>?_)<|fun hce=>?_
  ·refine Wg<|Rm z ?_
   obtain ⟨_,ab,a3⟩:=bdS<|ifT hum hce;refine R z (a_o z z ab)<|Rf z N_ z<|R z (l0 R_ z<|(ho.e s8).at z)<|Rf z b_G z<|R z (l0 g_3 z<|(hn.e s8).at z) ?_
   obtain ⟨_,ad,a4⟩:=bdS a3;refine RX z (at_ (α:=g_) P_ k_ z z z (L.g<|hp.e s8) ad) ?_;rintro _ ⟨_,_,_,rfl,ae,af,_⟩;obtain ⟨_,_,_,_,_,_,_,_,_,_,_,_,rfl,_,_,_,_,_,_,_⟩:=a_j af;refine Rf z d_d z<|R z (l0 g_9 z<|ae.at (j:=0) z) ?_
   obtain ⟨_,ah,a5⟩:=bdS a4;refine R z (a_o z z ah) ?_;obtain ⟨ai,eq,a6⟩:=bdS a5;exact R z (a_o z z eq)<|Ra z<|Wl (fun _ q=>⟨ai,som a6,q.k<|s1 z,br I,b_2 eq⟩)
  exact M_<|fun _ q=>⟨x3,som<|ifF hum hce,q.k<|s1 z,br I,a8⟩
 rintro aj _ ⟨J,rfl,_,ak,al⟩;revert aj;refine Wo<|Wm z<|Rw z ?_
 obtain rfl:=som a2;exact Wr<|f_ hr z ⟨bup (bup (bup (bup (bup h4 h1) G) s2) s8) ak,z,al⟩
theorem W_w2m {x1:List UInt8}{res:Str}(hm:g_1 x1=some res)(a9:B<=w0.z)(O:repS w0 B (sl A0 N0 C0) x1):j_ prog 28 [sl A0 N0 C0] w0 (Q4 w0 B res):=by
 unfold g_1 at hm
 refine goG func28 z z z fun fn hr=>Ws<|Rw z<|Wm z<|R z (lnR l_ z O)<|R z (c_j z z) ?_
 obtain ⟨_,ep,hmq⟩:=bdS hm;refine E z (l_C (α:=UInt8) S_ ep z z) ?_;rintro _ G ⟨ar,ns,ct,rfl,sa,hu⟩;refine Rw z<|Wq<|Wm z<|R z (lnR l_ z<|O.e sa)<|Rm z<|Wn ?_
 obtain ⟨_,huv,hmh⟩:=bdS hmq;refine Wf (σ:=List UInt8) (ρ:=Str) (fun (ki:Nat)(x5:List UInt8) a w=>∃I J L H,Sat 28 [(3,sl I J L),(10,sl A0 N0 C0),(11,vI (x1.length:Int)),(12,vI ((ki:Nat):Int))] a/\Chg (· ∈ [w0.z]) G w/\a_ w H (sl I J L) x5/\H.Nodup/\(∀k∈H,k∈[w0.z]∨G.z<=k)) (fun (x5:List UInt8) a w=>∃I J L H,Sat 28 [(3,sl I J L)] a/\Chg (· ∈ [w0.z]) G w/\a_ w H (sl I J L) x5/\H.Nodup/\(∀k∈H,k∈[w0.z]∨G.z<=k)) (rQ prog fn<|Q4 w0 B) huv ?_ ?_ ?_ ?_ ?_
 ·exact fun _ q=>⟨ar,ns,ct,[w0.z],q.k<|s4 z z z z,cr [w0.z] G,hu,a_q,io sr⟩
 ·rintro ki x5 _ ww _ hkj ⟨I,J,L,H,hSx,sb,h6,V,W⟩ hmy;refine Wu ?_ hSx;refine Ws<|Rl z z z<|Wn<|Wq<|Wc z (fun _=>?_) (fun hc=>(a_4 hkj hc).elim)
  refine Wk<|Wq<|Wb<|Ws ?_
  obtain ⟨_,ez,a0⟩:=bdS hmy;refine RX z (at_ (α:=UInt8) l_ z_5 z z z (O.g<|(sa.ag B).c sb<|c_ (or0 (b_ lr) (i_ a9):∀k∈[w0.z],¬B k)) ez) ?_;rintro _ ⟨_,_,_,rfl,aa,ab,_⟩;obtain rfl:=u8 ab;refine R z (l0 g_5 z<|aa.at0 z)<|Ra z<|Wn (Wd (X:=noX) 256 (pl_ 10 [7,8]) mo (by kernel_rfl) fun Y sc _=>dM z z z<|dM z z z<|dR z z (l_K z z ⟨by decide,by decide⟩) ?_)
  obtain ⟨xd,ek,a1⟩:=bdS a0;refine dR z z (e_7 d_9 z z (a_U ek).1 (a_U ek).2.1)<|dM z z z<|dR z z (l_L (b:=(15:UInt8)) z z) ?_
  obtain ⟨xe,el,a3⟩:=bdS a1;refine dR z z (e_7 d_9 z z (a_U el).1 (a_U el).2.1)<|dE z z (fS [(.tmp 19),(.tmp 22)] S_ z z z (Y_ z) (lb z)<|lb z) (.inr fun _ _ h=>B_<|h.2.below) ?_
  rintro _ wf ⟨rfl,hn⟩;have hg:=hn.below;obtain ⟨ad,ae,a4⟩:=bdS a3;refine dE z z (fN (α:=UInt8) S_ ae z z ((h6.e sc).e hg) V<|a_.rep (k_J (l:=[xd,xe]) (hn.blk:Blk wf Y.z [vU (byteI xd),vU<|byteI xe]) z:a_ wf [Y.z] (sl (some ⟨Y.z,0,none⟩) 2 2) [xd,xe])) (.inl z) ?_;rintro _ af ⟨Sm,ah,ai,aj,rfl,ak,al,am,an⟩;refine dQ z z z<|pD<|Wo<|Wg<|R z (inc_ hkj (lt_ (repS.len O) L_) z z)<|Rm z<|Wl ?_
  have ho:∀k∈H,k∈[w0.z]∨G.z<=k:=or1 W (io sr)<|x_ lr;exact fun _ q=>⟨ad,(som a4).symm,⟨ah,ai,aj,Sm,q.k<|s4 z z z z,(cM (e_ (e_ (cM (cr [w0.z] G) sb (io sr):Chg (· ∈ [w0.z]) G ww) sc:Chg (· ∈ [w0.z]) G Y) hg:Chg (· ∈ [w0.z]) G wf) ak ho:Chg (· ∈ [w0.z]) G af),al,am,(or1 an ho (x_<|lt_ (lt_ sb.s sc.s) hg.s):∀k∈Sm,k∈[w0.z]∨G.z<=k)⟩⟩
 ·rintro x5 _ ao ⟨I,J,L,H,a5,ap,h6,V,W⟩;refine Wu ?_ a5;refine Ws<|Rl z z z<|Wn<|Wq<|Wc z (fun hc=>(a_5 hc).elim) (fun _=>?_)
  exact We<|fun _ q=>⟨rfl,⟨I,J,L,H,q.k<|s1 z,(cM (cr [w0.z] G) ap (io sr):Chg (· ∈ [w0.z]) G ao),h6,V,(or1 W (io sr) (x_ lr):∀k∈H,k∈[w0.z]∨G.z<=k)⟩⟩
 ·rintro x5 aq _ rfl ⟨I,J,L,H,_,au,h6,V,W⟩;have a6:=elL hmh;revert aq;refine Wo<|Wm z<|R z (j_r l_ d_9 d_5 z_5 z<|a_.rep h6)<|Rw z ?_
  obtain rfl:=som a6;exact Wr<|f_ hr z ⟨bM sa au<|b_ lr,z,repS.len<|a_.rep h6⟩
 rintro _ _ _ _ rfl ⟨rfl,a7⟩;have a8:=elR hmh;obtain rfl:=som a8;exact ⟨a7,z⟩
theorem W_w2n {x1:List Str}{x2:Str}{res:Str}(hm:g_0 x1 x2=some res)(I:B<=w0.z)(G:repS w0 B (sl A0 N0 C0) x1)(H:x2.b.length<=LEN):j_ prog 30 [sl A0 N0 C0,Str.v x2] w0 (Q4 w0 B res):=by
 unfold g_0 at hm
 refine goG func30 z z z fun fn hr=>Ws<|Rw z<|Wm z<|Rm z ?_
 obtain ⟨_,L,J⟩:=bdS hm;refine E z (fc call58 z<|n_H (B:=B) L I G H) ?_;rintro _ _ ⟨s2,rfl,h3⟩;refine Rw z ?_
 obtain rfl:=som J;exact Wr<|f_ hr z ⟨s2,z,h3⟩
theorem W_w2o {x1:d_}{x2:a_n}{res:Str}(hm:e_S x1 x2=some res)(V:B<=w0.z)(hG:Gl w0 B)(W:repS w0 B (sl A0 N0 C0) x1.rules)(bo:inI x2.code)(bp:inI x2.position)(bq:x2.path.b.length<=LEN)(af:inI x2.rule):j_ prog 11 [(.agg #[sl A0 N0 C0]),(.agg #[vI x2.code,vI x2.position,Str.v x2.path,vI x2.rule])] w0 (Q4 w0 B res):=by
 unfold e_S at hm
 refine goG func11 z z z fun fn hr=>Ws<|E z (fb z) ?_
 rintro _ wt ⟨rfl,hu⟩;have h5:=hu.below;refine E z (fb z) ?_;rintro _ az ⟨rfl,hv⟩;have h4:=hv.below;have hw:Blk az wt.z [vI x2.code,vI x2.position,Str.v x2.path,vI x2.rule]:=hv.blk;refine Rw z<|Wq<|Ws ?_
 have hg:=(hu.blk:Blk wt w0.z [sl A0 N0 C0]).e h4;refine R z (lN (vs:=[sl A0 N0 C0]) s_ p_ z z fid<|hg.row 0 1 z)<|Rf z b_G z<|R z (l0 g_3 z<|hw.at z) ?_
 have hh:=(h5.ag B).e h4;have hb:=lt_ h5.s h4.s;obtain ⟨_,aA,hmx⟩:=bdS hm;refine E z (fc call25 z<|f_p aA (zt' V hb) (W.g hh) af) ?_;rintro _ H ⟨G,rfl⟩;refine R z (not_ z)<|Wx z (fun hci=>?_) (fun hci=>?_)
 ·refine Ws<|Rw z ?_
  obtain rfl:=som<|ifT hmx hci;exact Wr<|f_ hr z ⟨bup (bup h5 h4) G,z,lb z⟩
 have hmy:=ifF hmx hci;refine Wk<|Wq<|Ws<|Rf z d_E z ?_
 have hj:=hw.e G;refine R z (l0 g_3 z<|hj.at z)<|Wn<|Wb<|Ws<|Rq z z z<|Rw z<|Wc z (fun hck=>?_) (fun hck=>?_)
 ·refine Ws<|Rf z N_ z<|R z (l0 R_ z<|(hg.e G).at z)<|Rf z b_G z<|R z (l0 g_3 z<|hj.at z) ?_
  obtain ⟨_,aB,ah⟩:=bdS<|ifT hmy hck;refine RX z (at_ (α:=g_) P_ k_ z z z (W.g<|hh.e G) aB) ?_;rintro _ ⟨_,_,_,rfl,aC,aD,_⟩;obtain ⟨_,_,_,_,_,_,_,_,_,_,_,_,rfl,_,_,_,aE,_,_,_⟩:=a_j aD;refine Rf z a_D z<|R z (l0 Q_ z<|aC.at (j:=4) z) ?_
  obtain ⟨_,aF,ai⟩:=bdS ah;refine E z (fc call28 z<|W_w2m aF (zt' V<|lt_ hb G.s) aE) ?_;rintro _ _ ⟨aG,rfl,aH⟩;refine Rw z ?_
  obtain rfl:=som ai;exact Wr<|rtO<|f_ hr z ⟨bup (bup (bup h5 h4) G) aG,z,aH⟩
 have hmz:=ifF hmy hck;refine Ws<|Rq z z z<|Rw z<|Wc z (fun hcl=>?_) (fun hcl=>?_)
 ·refine Ws<|E z (f0 (α:=Str) b_R) ?_
  rintro _ I ⟨aI,aJ,aK,rfl,s9,aL⟩;refine Rw z<|Wq<|Ws<|Rf z N_ z<|R z (l0 R_ z<|((hg.e G).e s9).at z)<|Rf z b_G z<|R z (l0 g_3 z<|(hj.e s9).at z) ?_
  obtain ⟨aM,aN,aj⟩:=bdS<|ifT hmz hcl;refine RX z (at_ (α:=g_) P_ k_ z z z (W.g<|(hh.e G).e s9) aN) ?_;rintro _ ⟨_,_,_,rfl,aO,aP,_⟩;obtain ⟨_,_,_,_,_,_,aQ,aR,aS,_,_,_,rfl,_,_,_,_,_,hn,_⟩:=a_j aP;refine Rf z a_r z<|R z (l0 z_ z<|aO.at (j:=6) z)<|R z (lnR q_ z hn)<|Rm z<|Wn ?_
  obtain ⟨_,ak,Y⟩:=bdS aj;refine Wf (σ:=List Str) (ρ:=Str) (fun (a4:Nat)(xa:List Str) a w=>∃J L O S3,Sat 56 [(5,sl J L O),(34,sl aQ aR aS),(35,vI (aM.tags.length:Int)),(36,vI ((a4:Nat):Int))] a/\Chg (· ∈ [H.z]) I w/\a_ w S3 (sl J L O) xa/\S3.Nodup/\(∀k∈S3,k∈[H.z]∨I.z<=k)) (fun (xa:List Str) a w=>∃J L O S3,Sat 56 [(5,sl J L O)] a/\Chg (· ∈ [H.z]) I w/\a_ w S3 (sl J L O) xa/\S3.Nodup/\(∀k∈S3,k∈[H.z]∨I.z<=k)) (rQ prog fn<|Q4 w0 B) ak ?_ ?_ ?_ ?_ ?_
  ·exact fun _ q=>⟨aI,aJ,aK,[H.z],q.k<|s4 z z z z,cr [H.z] I,aL,a_q,io sr⟩
  ·rintro a4 xa _ aT _ a0 ⟨J,L,O,S3,al,sc,hd,he,hf⟩ am;refine Wu ?_ al;refine Ws<|Rl z z z<|Wn<|Wq<|Wc z (fun _=>?_) (fun hc=>(a_4 a0 hc).elim)
   refine Wk<|Wq<|Wb<|Ws ?_
   obtain ⟨_,aU,an⟩:=bdS am;have a5:=lt_ hb G.s;have a7:∀k∈[H.z],¬B k:=or0 (b_ lr)<|i_<|zt' V a5;refine RX z (at_ (α:=Int) q_ z_3 z z z (hn.c sc<|c_ a7) aU) ?_;rintro _ ⟨_,_,_,rfl,aV,aW,_⟩;obtain ⟨rfl,aX⟩:=J_ aW;refine R z (l0 g_3 z<|aV.at0 z)<|Rw z<|Wg<|RM z z ?_
   obtain ⟨aY,aZ,ao⟩:=bdS an;refine E z (fc call29 z<|h_f aZ (zt' V<|lt_ (lt_ a5 s9.s) sc.s) (((((hG.e h5).e h4).e G).e s9).c sc<|c_ a7) aX) ?_;rintro _ a8 ⟨sm,rfl,a9⟩;refine E z (fS [(.tmp 42)] b_R z z z (Y_ z) (lb z)<|lb z) ?_;rintro _ aa ⟨rfl,ho⟩;have hp:=ho.below;have br:=a_l ho<|d_p a9
   obtain ⟨b0,b3,ap⟩:=bdS ao;refine E z (a_H (α:=Str) b_R b3 z z ((hd.e sm).e hp) he (ho.blk:Blk aa a8.z [Str.v aY]) (d_p a9) an_ H_) ?_;rintro _ b4 ⟨ab,b5,b6,b7,rfl,b8,b9,ba,bb⟩;refine Rw z<|Wg<|R z (inc_ a0 (lt_ (repS.len hn) L_) z z)<|Rm z<|Wl ?_
   have ad:∀k∈S3,k∈[H.z]∨I.z<=k:=or1 hf (io sr)<|x_ lr;exact fun _ q=>⟨b0,(som ap).symm,⟨b5,b6,b7,ab,q.k<|s4 z z z z,(cM (e_ (e_ (cM (cr [H.z] I) sc (io sr):Chg (· ∈ [H.z]) I aT) sm:Chg (· ∈ [H.z]) I a8) hp:Chg (· ∈ [H.z]) I aa) b8 ad:Chg (· ∈ [H.z]) I b4),b9,ba,(or2 bb ad an_ (x_<|lt_ (lt_ sc.s sm.s) hp.s):∀k∈ab,k∈[H.z]∨I.z<=k)⟩⟩
  ·rintro xa _ bc ⟨J,L,O,S3,aq,be,hd,he,hf⟩;refine Wu ?_ aq;refine Ws<|Rl z z z<|Wn<|Wq<|Wc z (fun hc=>(a_5 hc).elim) (fun _=>?_)
   exact We<|fun _ q=>⟨rfl,⟨J,L,O,S3,q.k<|s1 z,(cM (cr [H.z] I) be (io sr):Chg (· ∈ [H.z]) I bc),hd,he,(or1 hf (io sr) (x_ lr):∀k∈S3,k∈[H.z]∨I.z<=k)⟩⟩
  ·rintro xa bf bg rfl ⟨J,L,O,S3,_,bh,hd,he,hf⟩;have ar:=elL Y;revert bf;refine Wo<|Wm z ?_
   obtain ⟨_,bi,au⟩:=bdS ar;refine E z (fc call30 z<|W_w2n (B:=bg.z) bi zr (a_.rep hd)<|lb z) ?_;rintro _ _ ⟨bj,rfl,bk⟩;refine Rw z ?_
   obtain rfl:=som au;exact Wr<|rtO<|f_ hr z ⟨bup (bM (bup (bup (bup h5 h4) G) s9) bh<|m1<|lt_ hb G.s) bj,z,bk⟩
  rintro _ _ _ _ rfl ⟨rfl,av⟩;have aw:=elR Y;obtain rfl:=som aw;exact ⟨av,z⟩
 have a1:=ifF hmz hcl;refine Ws<|Rq z z z<|Rw z<|Wc z (fun hcq=>?_) (fun hcq=>?_)
 ·refine Ws<|Rw z ?_
  obtain rfl:=som<|ifT a1 hcq;exact Wr<|rtO<|f_ hr z ⟨bup (bup h5 h4) G,z,lb z⟩
 have a2:=ifF a1 hcq;refine Ws<|Rq z z z<|Rw z<|Wc z (fun hcr=>?_) (fun hcr=>?_)
 ·refine Ws ?_;obtain ⟨_,bm,ax⟩:=bdS<|ifT a2 hcr;refine E z (fc call29 z<|h_f bm (zt' V<|lt_ hb G.s) (((hG.e h5).e h4).e G)<|ii z) ?_;rintro _ _ ⟨bn,rfl,_⟩;obtain ⟨_,ae,ay⟩:=bdS ax;refine R z (a_o z z ae)<|Rw z ?_
  obtain rfl:=som ay;exact Wr<|rtO<|f_ hr z ⟨bup (bup (bup h5 h4) G) bn,z,b_2 ae⟩
 have a3:=ifF a2 hcr;refine Ws<|Rq z z z<|Rw z<|Wc z (fun hcs=>?_) (fun hcs=>?_)
 ·refine Ws<|Rw z ?_
  obtain rfl:=som<|ifT a3 hcs;exact Wr<|rtO<|f_ hr z ⟨bup (bup h5 h4) G,z,lb z⟩
 refine Wk<|Ws<|Rw z ?_
 obtain rfl:=som<|ifF a3 hcs;exact Wr<|f_ hr z ⟨bup (bup h5 h4) G,z,lb z⟩
theorem W_w2p {x1:List UInt8}{res:Str}(hm:f_Z x1=some res)(O:B<=w0.z)(G:repS w0 B (sl A0 N0 C0) x1):j_ prog 31 [sl A0 N0 C0] w0 (Q4 w0 B res):=by
 unfold f_Z at hm
 refine goG func31 z z z fun fn hr=>Ws<|Rw z<|Ws<|Rw z<|Ws<|Rw z<|Wq<|Ws<|Rw z ?_
 obtain ⟨_,L,H⟩:=bdS hm;refine Wf (σ:=Str) (ρ:=Str) (fun (k4:Nat)(x0:Str) a w=>Sat 40 [(0,sl A0 N0 C0),(3,Str.v (⟨[48,49,50,51,52,53,54,55,56,57,97,98,99,100,101,102]⟩:Str)),(4,Str.v x0),(5,vI ((k4:Nat):Int))] a/\Below w0.z w0 w/\x0.b.length<=LEN) (fun (x0:Str) a w=>Sat 40 [(4,Str.v x0)] a/\Below w0.z w0 w/\x0.b.length<=LEN) (rQ prog fn<|Q4 w0 B) L ?_ ?_ ?_ ?_ ?_
 ·exact fun _ q=>⟨q.k<|s4 z z z z,br w0,lb z⟩
 ·rintro k4 x0 _ _ _ I ⟨hSa,s6,h1⟩ hmb;refine Wu ?_ hSa;refine Wq<|Wm z<|Rm z ?_
  have h2:=G.e s6;refine R z (lnR l_ z h2)<|Rl z z z<|Wx z (fun _=>?_) (fun hc=>(a_4 I hc).elim)
  refine Wk<|Wq<|Wb<|Wm z<|Rm z ?_
  obtain ⟨_,ec,hmd⟩:=bdS hmb;refine RX z (at_ (α:=UInt8) l_ z_5 z z z h2 ec) ?_;rintro _ ⟨_,_,_,rfl,he,hf,_⟩;obtain rfl:=u8 hf;refine R z (l0 g_5 z<|he.at0 z)<|R z (b_A d_5 d_3 z)<|R z (d_y z z (by decide))<|Rw z<|Wm z<|Rm z ?_
  obtain ⟨_,eg,hmh⟩:=bdS hmd;refine RX z (at_ (α:=UInt8) l_ z_5 z z z h2 eg) ?_;rintro _ ⟨_,_,_,rfl,hi,hj,_⟩;obtain rfl:=u8 hj;refine R z (l0 g_5 z<|hi.at0 z)<|R z (b_A d_5 d_3 z)<|R z (e_9 z z (by decide))<|Ra z<|Wn (Wd (X:=noX) 0 (pl_ 14 []) mo (by kernel_rfl) fun V sk _=>?_)
  iterate 4 refine dM z z z ?_
  refine dR z z (add_ z z) ?_;obtain ⟨_,el,hmm⟩:=bdS hmh;refine dR z z (j_z d_9 z z z (lb z) el) ?_;obtain ⟨_,en,hmo⟩:=bdS hmm;refine dR z z (a_o z z en) ?_
  iterate 3 refine dM z z z ?_
  refine dR z z (add_ z z) ?_;obtain ⟨_,ep,hmq⟩:=bdS hmo;refine dR z z (j_z d_9 z z z (lb z) ep) ?_;obtain ⟨xr,J,hms⟩:=bdS hmq;exact dR z z (a_o z z J)<|dQ z z z<|pD<|Wo<|Wg<|Rm z<|R z (inc_ I (lt_ (repS.len G) L_) z z)<|Ra z<|Wl (fun _ q=>⟨xr,(som hms).symm,⟨q.k<|s4 z z z z,bup s6 sk,b_2 J⟩⟩)
 ·rintro x0 _ _ ⟨hSt,s8,h1⟩;refine Wu ?_ hSt;refine Wq<|Wm z<|Rm z<|R z (lnR l_ z<|G.e s8)<|Rl z z z<|Wx z (fun hc=>(a_5 hc).elim) (fun _=>?_)
  exact We<|fun _ q=>⟨rfl,⟨q.k<|s1 z,s8,h1⟩⟩
 ·rintro x0 au _ rfl ⟨_,sv,h1⟩;have hmw:=elL H;revert au;refine Wo<|Wm z<|Rw z ?_
  obtain rfl:=som hmw;exact Wr<|f_ hr z ⟨sv,z,h1⟩
 rintro _ _ _ _ rfl ⟨rfl,hqx⟩;have hmy:=elR H;obtain rfl:=som hmy;exact ⟨hqx,z⟩
theorem W_w2q {x1:List Str}{x2:Str}{res:Str}(hm:f_Y x1 x2=some res)(W:B<=w0.z)(G:repS w0 B (sl A0 N0 C0) x1)(V:x2.b.length<=LEN):j_ prog 33 [sl A0 N0 C0,Str.v x2] w0 (Q4 w0 B res):=by
 unfold f_Y at hm
 refine goG func33 z z z fun fn hr=>Ws<|Rw z<|Ws<|Rw z<|Wq<|Ws<|Rw z ?_
 obtain ⟨_,hue,J⟩:=bdS hm;refine Wf (σ:=Str) (ρ:=Str) (fun (k4:Nat)(x0:Str) a w=>Sat 25 [(0,sl A0 N0 C0),(1,Str.v x2),(5,Str.v x0),(6,vI ((k4:Nat):Int))] a/\Below w0.z w0 w/\x0.b.length<=LEN) (fun (x0:Str) a w=>Sat 25 [(5,Str.v x0)] a/\Below w0.z w0 w/\x0.b.length<=LEN) (rQ prog fn<|Q4 w0 B) hue ?_ ?_ ?_ ?_ ?_
 ·exact fun _ q=>⟨q.k<|s4 z z z z,br w0,lb z⟩
 ·rintro k4 x0 _ H _ L ⟨hSf,s5,h1⟩ hmg;refine Wu ?_ hSf;refine Wq<|Wm z<|Rm z<|R z (lnR a_k z<|G.e s5)<|Rl z z z<|Wx z (fun _=>?_) (fun hc=>(a_4 L hc).elim)
  refine Wk<|Wq<|Wb<|Wq<|Wm z<|R z (a_d z z)<|Wn ?_
  obtain ⟨uh,O,hmi⟩:=bdS hmg;refine Wt (fun a w=>∃(x3:Str),x3=uh/\Sat 25 [(0,sl A0 N0 C0),(1,Str.v x2),(5,Str.v x3),(6,vI ((k4:Nat):Int))] a/\Below H.z H w/\x3.b.length<=LEN) ?_ ?_
  ·refine Wc z (fun I=>?_)<|fun I=>?_
   ·refine Wg<|RM z z ?_
    obtain ⟨xj,ea,hmk⟩:=bdS<|ifT O I;exact R z (a_o z z ea)<|Ra z<|Wl (fun _ q=>⟨xj,som hmk,q.k<|s4 z z z z,br H,b_2 ea⟩)
   exact M_<|fun _ q=>⟨x0,som<|ifF O I,q.k<|s4 z z z z,br H,h1⟩
  rintro al _ ⟨x3,rfl,_,sb,_⟩;revert al;refine Wo<|Wg<|RM z z<|Rm z ?_
  obtain ⟨_,em,hmn⟩:=bdS hmi;refine RX z (at_ (α:=Str) a_k z_9 z z z (G.g<|(s5.ag B).e sb) em) ?_;rintro _ ⟨_,_,_,rfl,ho,hp,_⟩;obtain ⟨rfl,_⟩:=b_B hp;refine R z (l0 g_9 z<|ho.at0 z) ?_;obtain ⟨xq,ec,hmr⟩:=bdS hmn;exact R z (a_o z z ec)<|Rw z<|Wg<|Rm z<|R z (inc_ L (lt_ (repS.len G) L_) z z)<|Ra z<|Wl (fun _ q=>⟨xq,(som hmr).symm,⟨q.k<|s4 z z z z,bup s5 sb,b_2 ec⟩⟩)
 ·rintro x0 _ _ ⟨hSs,sd,h1⟩;refine Wu ?_ hSs;refine Wq<|Wm z<|Rm z<|R z (lnR a_k z<|G.e sd)<|Rl z z z<|Wx z (fun hc=>(a_5 hc).elim) (fun _=>?_)
  exact We<|fun _ q=>⟨rfl,⟨q.k<|s1 z,sd,h1⟩⟩
 ·rintro x0 au _ rfl ⟨_,st,h1⟩;have hmv:=elL J;revert au;refine Wo<|Wm z<|Rw z ?_
  obtain rfl:=som hmv;exact Wr<|f_ hr z ⟨st,z,h1⟩
 rintro _ _ _ _ rfl ⟨rfl,hqw⟩;have hmx:=elR J;obtain rfl:=som hmx;exact ⟨hqw,z⟩
theorem W_w2r {x1:d_}{x2:a_n}{res:Str}(hm:e_T n x1 x2=some res)(L:B<=w0.z)(Y:repS w0 B (sl A0 N0 C0) x1.rules)(bI:inI x2.code)(bJ:inI x2.position)(bK:x2.path.b.length<=LEN)(aJ:inI x2.rule):j_ prog 12 [(.agg #[sl A0 N0 C0]),(.agg #[vI x2.code,vI x2.position,Str.v x2.path,vI x2.rule])] w0 (Q4 w0 B res):=by
 unfold e_T at hm
 refine goG func12 z z z fun fn hr=>Ws<|E z (fb z) ?_
 rintro _ wy ⟨rfl,hz⟩;have O:=hz.below;refine E z (fb z) ?_;rintro _ aY ⟨rfl,a8⟩;have h6:=a8.below;have hj:Blk aY wy.z [vI x2.code,vI x2.position,Str.v x2.path,vI x2.rule]:=a8.blk;refine Rw z<|Wq<|Ws<|Rf z b_G z<|R z (l0 g_3 z<|hj.at z)<|Rf z N_ z ?_
 have aa:=(hz.blk:Blk wy w0.z [sl A0 N0 C0]).e h6;refine R z (l0 R_ z<|aa.at z) ?_;have ab:=(O.ag B).e h6;refine R z (lnR P_ z<|Y.g ab)<|R z (sb_ z z) ?_
 have V:=lt_ O.s h6.s;obtain ⟨_,aZ,a0⟩:=bdS hm;refine E z (fc call27 z<|a_T aZ (zt' L V) aJ (ii z)<|iS _ _) ?_;rintro _ we ⟨G,rfl⟩;refine R z (not_ z)<|Wx z (fun hck=>?_) (fun hck=>?_)
 ·refine Ws<|Rw z ?_
  obtain rfl:=som<|ifT a0 hck;exact Wr<|f_ hr z ⟨bup (bup O h6) G,z,lb z⟩
 refine Wk<|Ws<|Rf z N_ z<|R z (l0 R_ z<|(aa.e G).at z)<|Rf z b_G z ?_
 have ad:=hj.e G;refine R z (l0 g_3 z<|ad.at z) ?_;obtain ⟨ae,b0,a1⟩:=bdS<|ifF a0 hck;refine RX z (at_ (α:=g_) P_ k_ z z z (Y.g<|ab.e G) b0) ?_;rintro _ ⟨_,_,_,rfl,b3,b4,_⟩;obtain ⟨af,ah,ai,aj,ak,al,am,an,ao,ap,aq,ar,rfl,_,_,_,b5,_,hl,_⟩:=a_j b4;refine R z (lN (vs:=vR ae af ah ai aj ak al am an ao ap aq ar) I_ k_ z z fid b3)<|E z (fa b_h) ?_
 rintro _ b6 ⟨rfl,au⟩;have h3:=au.below;have hn:Blk b6 we.z [(Str.v (⟨[]⟩:Str)),vI 0,vI 0,vB false,sl none 0 0,sl none 0 0,sl none 0 0,sl none 0 0]:=au.blk;refine E0 (fs0 (cur':=vR ae af ah ai aj ak al am an ao ap aq ar) k_ z z hn z z z z) ?_;rintro _ H ⟨ho,b7⟩;have h2:=b7.one;refine Wn<|Wq<|Ws<|Rf z d_E z<|R z (l0 g_3 z<|((ad.e h3).c h2<|djs<|mm1 hj.lt G.s).at z)<|Wn<|Wb<|Ws<|Rq z z z<|Rw z<|Wc z (fun hcm=>?_) (fun hcm=>?_)
 ·refine Ws<|Rf z a_D z<|R z (l0 Q_ z<|ho.at z) ?_
  have hp:=lt_ V G.s;obtain ⟨_,b8,aK⟩:=bdS<|ifT a1 hcm;refine E z (fc call31 z<|W_w2p b8 (zt' L<|lt_ (lt_ hp h3.s) h2.s)<|b5.g<|(h3.ag B).c h2<|c_ (or0 (b_ lr) (i_<|zt' L hp):∀k∈[we.z],¬B k)) ?_;rintro _ _ ⟨b9,rfl,ba⟩;refine Rw z ?_
  obtain rfl:=som aK;exact Wr<|rtO<|f_ hr z ⟨bup (bM (bup (bup (bup O h6) G) h3) h2<|m1 hp) b9,z,ba⟩
 have a2:=ifF a1 hcm;refine Ws<|Rq z z z<|Rw z<|Wc z (fun hcq=>?_) (fun hcq=>?_)
 ·refine Ws<|E z (f0 (α:=Str) b_R) ?_
  rintro _ I ⟨bb,bc,be,rfl,sc,bf⟩;refine Rw z<|Wq<|Ws<|Rw z ?_
  obtain ⟨_,aL,a3⟩:=bdS<|ifT a2 hcq;refine Wf (σ:=List Str) (ρ:=Str) (fun (av:Nat)(xd:List Str) a w=>∃W na cb J,Sat 58 [(5,pt we.z),(6,sl W na cb),(7,vI ((av:Nat):Int))] a/\Chg (· ∈ [H.z]) I w/\a_ w J (sl W na cb) xd/\J.Nodup/\(∀k∈J,k∈[H.z]∨I.z<=k)) (fun (xd:List Str) a w=>∃W na cb J,Sat 58 [(6,sl W na cb)] a/\Chg (· ∈ [H.z]) I w/\a_ w J (sl W na cb) xd/\J.Nodup/\(∀k∈J,k∈[H.z]∨I.z<=k)) (rQ prog fn<|Q4 w0 B) aL ?_ ?_ ?_ ?_ ?_
  ·exact fun _ q=>⟨bb,bc,be,[H.z],q.k<|s3 z z z,cr [H.z] I,bf,a_q,io sr⟩
  ·rintro av xd _ bg _ a4 ⟨W,na,cb,J,aM,sf,hg,hh,hi⟩ aN;refine Wu ?_ aM;refine Wq<|Wm z<|Rf z a_r z ?_
   have aw:=(ho.e sc).c sf<|djs<|mm1 hn.lt h2.s
   refine R z (l0 z_ z<|aw.at z) ?_;have ax:=lt_ V G.s;have ay:=lt_ (lt_ ax h3.s) h2.s;have az:=hl.g<|(((h3.ag B).c h2<|c_ (or0 (b_ lr) (i_<|zt' L ax):∀k∈[we.z],¬B k)).e sc).c sf<|c_ (or0 (b_ lr) (i_<|zt' L ay):∀k∈[H.z],¬B k)
   refine R z (lnR q_ z az)<|Rl z z z<|Wx z (fun _=>?_) (fun hc=>(a_4 a4 hc).elim)
   refine Wk<|Wq<|Wb<|Wg<|Rm z<|Rf z a_r z<|R z (l0 z_ z<|aw.at z)<|Rm z ?_
   obtain ⟨_,bh,aO⟩:=bdS aN;refine RX z (at_ (α:=Int) q_ z_3 z z z az bh) ?_;rintro _ ⟨_,_,_,rfl,bi,bj,_⟩;obtain ⟨rfl,bk⟩:=J_ bj;refine R z (l0 g_3 z<|bi.at0 z) ?_;obtain ⟨bm,bn,aP⟩:=bdS aO;refine E z (fc call32 z<|e_n bn (zt' L<|lt_ (lt_ ay sc.s) sf.s) bk) ?_;rintro _ aA ⟨ss,rfl,aB⟩;refine E z (fS [(.tmp 45)] b_R z z z (Y_ z) (lb z)<|lb z) ?_;rintro _ aC ⟨rfl,ht⟩;have hu:=ht.below;have bL:=a_l ht<|d_p aB
   obtain ⟨bo,bp,aQ⟩:=bdS aP;refine E z (a_H (α:=Str) b_R bp z z ((hg.e ss).e hu) hh (ht.blk:Blk aC aA.z [Str.v bm]) (d_p aB) an_ H_) ?_;rintro _ bq ⟨aD,br,bs,bt,rfl,bu,bv,bw,bx⟩;refine Rw z<|Wg<|Rm z<|R z (inc_ a4 (lt_ (repS.len hl) L_) z z)<|Ra z<|Wl ?_
   have aE:∀k∈J,k∈[H.z]∨I.z<=k:=or1 hi (io sr)<|x_ lr;exact fun _ q=>⟨bo,(som aQ).symm,⟨br,bs,bt,aD,q.k<|s3 z z z,(cM (e_ (e_ (cM (cr [H.z] I) sf (io sr):Chg (· ∈ [H.z]) I bg) ss:Chg (· ∈ [H.z]) I aA) hu:Chg (· ∈ [H.z]) I aC) bu aE:Chg (· ∈ [H.z]) I bq),bv,bw,(or2 bx aE an_ (x_<|lt_ (lt_ sf.s ss.s) hu.s):∀k∈aD,k∈[H.z]∨I.z<=k)⟩⟩
  ·rintro xd _ bz ⟨W,na,cb,J,aR,sv,hg,hh,hi⟩;refine Wu ?_ aR;refine Wq<|Wm z<|Rf z a_r z<|R z (l0 z_ z<|((ho.e sc).c sv<|djs<|mm1 hn.lt h2.s).at z) ?_
   have aF:=lt_ V G.s;refine R z (lnR q_ z<|hl.g<|(((h3.ag B).c h2<|c_ (or0 (b_ lr) (i_<|zt' L aF):∀k∈[we.z],¬B k)).e sc).c sv<|c_ (or0 (b_ lr) (i_<|zt' L<|lt_ (lt_ aF h3.s) h2.s):∀k∈[H.z],¬B k))<|Rl z z z<|Wx z (fun hc=>(a_5 hc).elim) (fun _=>?_)
   exact We<|fun _ q=>⟨rfl,⟨W,na,cb,J,q.k<|s1 z,(cM (cr [H.z] I) sv (io sr):Chg (· ∈ [H.z]) I bz),hg,hh,(or1 hi (io sr) (x_ lr):∀k∈J,k∈[H.z]∨I.z<=k)⟩⟩
  ·rintro xd bA bB rfl ⟨W,na,cb,J,_,bC,hg,hh,hi⟩;have aS:=elL a3;revert bA;refine Wo<|Wm z ?_
   obtain ⟨_,bD,aT⟩:=bdS aS;refine E z (fc call33 z<|W_w2q (B:=bB.z) bD zr (a_.rep hg)<|lb z) ?_;rintro _ _ ⟨bE,rfl,bF⟩;refine Rw z ?_
   obtain rfl:=som aT;have aG:=lt_ V G.s;exact Wr<|rtO<|f_ hr z ⟨bup (bM (bup (bM (bup (bup (bup O h6) G) h3) h2<|m1 aG) sc) bC<|m1<|lt_ (lt_ aG h3.s) h2.s) bE,z,bF⟩
  rintro _ _ _ _ rfl ⟨rfl,aU⟩;have aV:=elR a3;obtain rfl:=som aV;exact ⟨aU,z⟩
 have a5:=ifF a2 hcq;refine Ws<|Rq z z z<|Rw z<|Wc z (fun hcr=>?_) (fun hcr=>?_)
 ·refine Ws<|Rw z ?_
  obtain rfl:=som<|ifT a5 hcr;exact Wr<|rtO<|f_ hr z ⟨bM (bup (bup (bup O h6) G) h3) h2<|m1<|lt_ V G.s,z,lb z⟩
 have a6:=ifF a5 hcr;refine Ws<|Rq z z z<|Rw z<|Wc z (fun hcw=>?_) (fun hcw=>?_)
 ·refine Ws ?_;have aH:=lt_ V G.s;obtain ⟨_,bG,aW⟩:=bdS<|ifT a6 hcw;refine E z (fc call32 z<|e_n bG (zt' L<|lt_ (lt_ aH h3.s) h2.s)<|ii z) ?_;rintro _ _ ⟨bH,rfl,_⟩;obtain ⟨_,aI,aX⟩:=bdS aW;refine R z (a_o z z aI)<|Rw z ?_
  obtain rfl:=som aX;exact Wr<|rtO<|f_ hr z ⟨bup (bM (bup (bup (bup O h6) G) h3) h2<|m1 aH) bH,z,b_2 aI⟩
 have a7:=ifF a6 hcw;refine Ws<|Rq z z z<|Rw z<|Wc z (fun hcx=>?_) (fun hcx=>?_)
 ·refine Ws<|Rw z ?_
  obtain rfl:=som<|ifT a7 hcx;exact Wr<|rtO<|f_ hr z ⟨bM (bup (bup (bup O h6) G) h3) h2<|m1<|lt_ V G.s,z,lb z⟩
 refine Wk<|Ws<|Rw z ?_
 obtain rfl:=som<|ifF a7 hcx;exact Wr<|f_ hr z ⟨bM (bup (bup (bup O h6) G) h3) h2<|m1<|lt_ V G.s,z,lb z⟩
def Q26 (w0:World)(r:Bool)(v:Value)(w':World):Prop:=Bw w0 w'/\((r=true/\∃a:Addr,v = .iface 103 (.pointer<|some a))∨(r=false/\v = .nilIface))
theorem W_w2s {n:Nat}{B:Zone}{x1:d_}{A0:Option Addr}{N0 C0:Nat}{x2:List UInt8}{A6:Option Addr}{N6 C6:Nat}{res:Bool}{w0:World}(hm:c_W n x1 x2=some res)(I:B<=w0.heap.size)(G:repS w0 B (sl A0 N0 C0) x1.rules)(H:repS w0 B (sl A6 N6 C6) x2):j_ Tryz.prog 37 [.agg #[.slice A0 N0 C0],sl A6 N6 C6] w0 (Q26 w0 res):=by
  unfold c_W at hm
  obtain ⟨_,hf,hb,hN,hr⟩:=fnE Tryz.func37;refine h_W hf (hb.trans rfl) (hN.trans rfl) (Nat.le_of_ble_eq_true rfl) ?_;refine b_K<|c_b ?_;refine E rfl (d_S rfl) ?_;rintro _ L ⟨rfl,h1⟩;refine R rfl (b_N rfl) ?_;refine b_U<|WC.of_KC ?_;refine b_K<|b_K<|c_b ?_;refine R rfl (e_6 (vs:=[.slice A0 N0 C0]) s_ p_ rfl rfl (fun h=>h)<|(h1.blk:Blk L w0.heap.size [.slice A0 N0 C0]).row 0 1 rfl) ?_;refine R rfl (c_i rfl) ?_;have g1:=h1.below;obtain ⟨O,_,V,J⟩:=a_G hm;refine E rfl (d_U Tryz.call18 rfl<|i_K V (zt' I g1.size) (G.ext g1)<|H.ext g1) ?_;rintro _ _ ⟨s2,rfl,_,_⟩;refine R rfl (c_i rfl) ?_;refine R rfl (e_8 rfl rfl) ?_;refine R rfl (e_8 rfl rfl) ?_;refine R rfl (b_N rfl) ?_;refine R rfl (b_N rfl) ?_;refine b_U<|WC.of_KC ?_;refine b_K<|c_b ?_;refine R rfl (c_i rfl) ?_;refine R rfl (f_7 rfl rfl) ?_;refine b_U<|WC.of_KC ?_;obtain rfl:=som J;refine e_E rfl (fun hc=>?_)<|fun hc=>?_
  · refine b_K (c_b ?_)
    refine R rfl (c_i rfl) ?_;refine R rfl (g_o (parts:=[(0,.tmp 15)]) (cs:=[(vI O)]) n_S rfl rfl) ?_;refine E rfl (d_S rfl) ?_;rintro _ _ ⟨rfl,h3⟩;refine R rfl (m_6 Tryz.underlying103 nofun rfl) ?_;refine R rfl (b_N rfl) ?_;refine b_U<|WC.of_KC ?_;exact d_R<|f_ hr rfl ⟨bup (bup g1 s2) h3.below,.inl ⟨hc,_,rfl⟩⟩
  · refine M_ (WC.of_KC ?_)
    refine b_K<|c_b ?_;refine R rfl (b_N rfl) ?_;refine b_U<|WC.of_KC ?_;exact d_R<|f_ hr rfl ⟨bup g1 s2,.inr ⟨hc,rfl⟩⟩
def o_6 (w0:World)(B:Zone)(r:Bool)(v:Value)(w':World):Prop:=Bw w0 w'/\(fun G=>(vB G)=v) r
theorem i_W {n:Nat}{B:Zone}{x1:d_}{A0:Option Addr}{N0 C0:Nat}{x2:List UInt8}{A6:Option Addr}{N6 C6:Nat}{res:Bool}{w0:World}(hm:c_W n x1 x2=some res)(V:B<=w0.heap.size)(hG:Gl w0 B)(L:repS w0 B (sl A0 N0 C0) x1.rules)(O:repS w0 B (sl A6 N6 C6) x2):j_ Tryz.prog 14 [.agg #[.slice A0 N0 C0],sl A6 N6 C6] w0 (o_6 w0 B res):=by
  obtain ⟨_,hf,hb,hN,hr⟩:=fnE Tryz.func14;refine h_W hf (hb.trans rfl) (hN.trans rfl) (Nat.le_of_ble_eq_true rfl) ?_;refine b_K<|c_b ?_;refine E rfl (d_S rfl) ?_;rintro _ Y ⟨rfl,h1⟩;refine R rfl (b_N rfl) ?_;refine b_U<|WC.of_KC ?_;refine b_K<|g_a (X:=noX) 0 (.rd 0<|.rd 1<|.rd 3<|.ef 2<|.ef 4<|.rd 5 .done) mo (by kernel_rfl) fun w2 s2 _=>?_;have G:=bup h1.below s2;have I:=hG.ext G;obtain ⟨a0,J⟩:=k_s I;refine dR rfl rfl (e_6 (vs:=[.slice A0 N0 C0]) s_ p_ rfl rfl (fun h=>h)<|((h1.blk:Blk Y w0.heap.size [.slice A0 N0 C0]).ext s2).row 0 1 rfl) ?_;refine dR rfl rfl (c_i rfl) ?_;refine dR rfl rfl (f_6 g_68 rfl (fun h=>h) J) ?_;refine dE rfl rfl (d_U Tryz.call37 rfl<|W_w2s hm (zt' V G.size) (L.ext G)<|O.ext G) (.inr fun _ _ h=>B_<|h.1) ?_;rintro _ w3 ⟨s3,h3⟩;obtain ⟨a1,H⟩:=k_s<|I.ext s3
  have W:Value.iface 178 (.pointer<|some a1) = .iface 178 (.pointer<|some a0):=by
    have h:=World.cell?_of_block (w:=w2) (w':=w3) (a:=⟨0,0,none⟩)<|s3.block 0<|Nat.lt_of_lt_of_le (of_decide_eq_true rfl:0<5) I.nw
    rw [H,J] at h
    exact Option.some.inj h
  rw [W] at H
  refine dE rfl rfl (d_U Tryz.call36 rfl<|n_R h3 H) (.inr fun _ _ h=>B_<|h.2) ?_;rintro _ _ ⟨rfl,s4⟩;refine dR rfl rfl (b_N rfl) ?_;refine g_b ?_;refine WC.of_KC ?_;exact d_R<|f_ hr rfl ⟨bup (bup G s3) s4,rfl⟩
theorem W_w2t {x1:List Int}{pq1_0:Addr}{x2:g_}{res:Int}(hm:e_U x1 x2=some res)(a3:B<=w0.z)(O:repS w0 B (sl (some pq1_0) 24 24) x1)(V:x2.name.b.length<=LEN)(W:inI x2.kind)(Y:inI x2.size)(a0:repS w0 B (sl A2 N2 C2) x2.bytes)(a1:repS w0 B (sl A4 N4 C4) x2.names)(a2:repS w0 B (sl A1 N1 C1) x2.tags)(H:repS w0 B (sl A3 N3 C3) x2.kids):j_ prog 89 [(.pointer<|some pq1_0),(.agg #[Str.v x2.name,vI x2.kind,vI x2.size,vB x2.little,sl A2 N2 C2,sl A4 N4 C4,sl A1 N1 C1,sl A3 N3 C3])] w0 (Q9 w0 B res):=by
 unfold e_U at hm
 refine goG func89 z z z fun fn hr=>Ws<|E z (fb z) ?_
 rintro _ G ⟨rfl,h4⟩;have h3:=h4.below;refine Rw z<|Ws<|Rw z<|Wq<|Ws<|Rf z K_ z<|R z (l0 z_ z<|(h4.blk:Blk G w0.z (vR x2 A2 N2 C2 A4 N4 C4 A1 N1 C1 A3 N3 C3)).at z)<|R z (lnR q_ z<|H.e h3)<|Rm z<|Wn ?_
 obtain ⟨_,hub,I⟩:=bdS hm;refine Wf (σ:=Int) (ρ:=Int) (fun (k6:Nat)(x0:Int) a w=>Sat 24 [(0,.pointer<|some pq1_0),(5,vI x0),(9,sl A3 N3 C3),(10,vI (x2.kids.length:Int)),(11,vI ((k6:Nat):Int))] a/\Below G.z G w/\inI x0) (fun (x0:Int) a w=>Sat 24 [(5,vI x0)] a/\Below G.z G w/\inI x0) (rQ prog fn<|Q9 w0 B) hub ?_ ?_ ?_ ?_ ?_
 ·exact fun _ q=>⟨q.k<|s5 z z z z z,br G,ii z⟩
 ·rintro k6 x0 _ _ _ J ⟨hSc,s8,h2⟩ hmd;refine Wu ?_ hSc;refine Ws<|Rl z z z<|Wn<|Wq<|Wc z (fun _=>?_) (fun hc=>(a_4 J hc).elim)
  refine Wk<|Wq<|Wb<|Ws ?_
  obtain ⟨_,ee,hmf⟩:=bdS hmd;have L:=(h3.ag B).e s8;refine RX z (at_ (α:=Int) q_ z_3 z z z (H.g L) ee) ?_;rintro _ ⟨_,_,_,rfl,hg,hh,_⟩;obtain ⟨rfl,_⟩:=J_ hh;refine R z (l0 g_3 z<|hg.at0 z)<|Rw z<|Wg<|RM z z<|Rm z<|R z (a_0 z) ?_
  obtain ⟨xi,ej,hmk⟩:=bdS hmf;refine RX z (d_Q (α:=Int) d_e z_3 z z z (O.g L) ej) ?_;rintro _ ⟨_,_,_,rfl,hl,hn,_⟩;obtain ⟨rfl,_⟩:=J_ hn;exact R z (l0 g_3 z<|hl.at0 z)<|R z (add_ z z)<|Rw z<|Wg<|R z (inc_ J (lt_ (repS.len H) L_) z z)<|Rm z<|Wl (fun _ q=>⟨h_ x0 xi,(som hmk).symm,⟨q.k<|s5 z z z z z,s8,iA _ _⟩⟩)
 ·rintro x0 _ _ ⟨hSm,so,h2⟩;refine Wu ?_ hSm;refine Ws<|Rl z z z<|Wn<|Wq<|Wc z (fun hc=>(a_5 hc).elim) (fun _=>?_)
  exact We<|fun _ q=>⟨rfl,⟨q.k<|s1 z,so,h2⟩⟩
 ·rintro x0 ap _ rfl ⟨_,sq,h2⟩;have hmr:=elL I;revert ap;refine Wo<|Wm z<|Rw z ?_
  obtain rfl:=som hmr;exact Wr<|f_ hr z ⟨bup h3 sq,z,h2⟩
 rintro _ _ _ _ rfl ⟨rfl,hqs⟩;have hmt:=elR I;obtain rfl:=som hmt;exact ⟨hqs,z⟩
theorem W_w2u {x1:Int}{x2:Int}{res:Bool}(hm:f_X x1 x2=some res)(I:B<=w0.z)(G:inI x1)(H:inI x2):j_ prog 110 [vI x1,vI x2] w0 (Q0 w0 B res):=by
 unfold f_X at hm
 refine goG func110 z z z fun fn hr=>Ws<|Rw z<|Wm z<|Rm z<|Rl z z z<|Rw z ?_
 obtain rfl:=som hm;exact Wr<|f_ hr z ⟨br w0,z⟩
theorem W_w2v {x2:Int}{x3:List Int}{res:Int}(hm:h_j x2 x3=some res)(W:B<=w0.z)(V:inI x2)(H:repS w0 B (sl A7 N7 C7) x3):j_ prog 59 [(.func (.func 110) #[] #[]),vI x2,sl A7 N7 C7] w0 (Q9 w0 B res):=by
 unfold h_j at hm
 refine goG func59 z z z fun fn hr=>Ws<|Rw z<|Wq<|Wm z<|R z (lnR q_ z H)<|Rm z<|Wn ?_
 obtain ⟨_,hub,J⟩:=bdS hm;refine Wf (σ:=Int) (ρ:=Int) (fun (k3:Nat)(x0:Int) a w=>Sat 22 [(0,.func (.func 110) #[] #[]),(1,vI x0),(9,sl A7 N7 C7),(10,vI (x3.length:Int)),(11,vI ((k3:Nat):Int))] a/\Below w0.z w0 w/\inI x0) (fun (x0:Int) a w=>Sat 22 [(1,vI x0)] a/\Below w0.z w0 w/\inI x0) (rQ prog fn<|Q9 w0 B) hub ?_ ?_ ?_ ?_ ?_
 ·exact fun _ q=>⟨q.k<|s5 z z z z z,br w0,V⟩
 ·rintro k3 x0 _ _ _ L ⟨hSc,s6,h1⟩ hmd;refine Wu ?_ hSc;refine Ws<|Rl z z z<|Wn<|Wq<|Wc z (fun _=>?_) (fun hc=>(a_4 L hc).elim)
  refine Wk<|Wq<|Wb<|Ws ?_
  obtain ⟨xe,ef,hmg⟩:=bdS hmd;refine RX z (at_ (α:=Int) q_ z_3 z z z (H.e s6) ef) ?_;rintro _ ⟨_,_,_,rfl,hh,hi,_⟩;obtain ⟨rfl,O⟩:=J_ hi;refine R z (l0 g_3 z<|hh.at0 z)<|Rw z<|Wm z<|RM z z ?_
  obtain ⟨_,ej,hmk⟩:=bdS hmg;refine E z (g_h call110 z z<|W_w2u ej (zt' W s6.s) O h1) ?_;rintro _ G ⟨sm,rfl⟩;refine Wn ?_;obtain ⟨ul,hua,hmn⟩:=bdS hmk;refine Wt (fun a w=>∃(x4:Int),x4=ul/\Sat 22 [(0,.func (.func 110) #[] #[]),(1,vI x4),(9,sl A7 N7 C7),(10,vI (x3.length:Int)),(11,vI ((k3:Nat):Int))] a/\Below G.z G w/\inI x4) ?_ ?_
  ·refine Wc z (fun I=>?_)<|fun I=>?_
   ·exact Wg<|Rm z<|Ra z<|Wl (fun _ q=>⟨xe,som<|ifT hua I,q.k<|s5 z z z z z,br G,O⟩)
   exact M_<|fun _ q=>⟨x0,som<|ifF hua I,q.k<|s5 z z z z z,br G,h1⟩
  rintro ao _ ⟨x4,rfl,_,sp,hq⟩;revert ao;exact Wo<|Wg<|R z (inc_ L (lt_ (repS.len H) L_) z z)<|Rm z<|Wl (fun _ q=>⟨x4,(som hmn).symm,⟨q.k<|s5 z z z z z,bup (bup s6 sm) sp,hq⟩⟩)
 ·rintro x0 _ _ ⟨hSr,ss,h1⟩;refine Wu ?_ hSr;refine Ws<|Rl z z z<|Wn<|Wq<|Wc z (fun hc=>(a_5 hc).elim) (fun _=>?_)
  exact We<|fun _ q=>⟨rfl,⟨q.k<|s1 z,ss,h1⟩⟩
 ·rintro x0 au _ rfl ⟨_,st,h1⟩;have hmv:=elL J;revert au;refine Wo<|Wm z<|Rw z ?_
  obtain rfl:=som hmv;exact Wr<|f_ hr z ⟨st,z,h1⟩
 rintro _ _ _ _ rfl ⟨rfl,hqw⟩;have hmx:=elR J;obtain rfl:=som hmx;exact ⟨hqw,z⟩
theorem W_w1i {x1:Int}{x2:Int}{res:Int}(hm:d_P x1 x2=some res)(V:B<=w0.z)(I:inI x1)(J:inI x2):j_ prog 91 [vI x1,vI x2] w0 (Q9 w0 B res):=by
 unfold d_P at hm
 refine goG func91 z z z fun fn hr=>Ws<|Rw z<|Wm z<|Rm z<|E z (fS [(.tmp 6)] b_0 z z z (Y_ z) (lb z)<|lb z) ?_
 rintro _ H ⟨rfl,G⟩;have h6:Blk H w0.z [vI x2]:=G.blk;obtain ⟨_,O,L⟩:=bdS hm;refine E z (fc call59 z<|W_w2v (B:=H.z) O zr I<|a_.rep<|a_l G<|a_P J) ?_;rintro _ _ ⟨s4,rfl,h5⟩;refine Rw z ?_
 obtain rfl:=som L;exact Wr<|f_ hr z ⟨bup G.below s4,z,h5⟩
theorem W_w2w {x1:List Int}{pq1_0:Addr}{x2:g_}{res:Int}(hm:e_V x1 x2=some res)(a3:B<=w0.z)(I:repS w0 B (sl (some pq1_0) 24 24) x1)(aj:x2.name.b.length<=LEN)(ak:inI x2.kind)(al:inI x2.size)(am:repS w0 B (sl A2 N2 C2) x2.bytes)(an:repS w0 B (sl A4 N4 C4) x2.names)(ao:repS w0 B (sl A1 N1 C1) x2.tags)(O:repS w0 B (sl A3 N3 C3) x2.kids):j_ prog 90 [(.pointer<|some pq1_0),.agg #[Str.v x2.name,vI x2.kind,vI x2.size,vB x2.little,sl A2 N2 C2,sl A4 N4 C4,sl A1 N1 C1,sl A3 N3 C3],(.func (.func 91) #[] #[])] w0 (Q9 w0 B res):=by
 unfold e_V at hm
 refine goG func90 z z z fun fn hr=>Ws<|E z (fb z) ?_
 rintro _ we ⟨rfl,J⟩;have h5:=J.below;refine Rw z<|Wq (Wd (X:=noX) 0 (pl_ 9 []) mo (by kernel_rfl) fun G s3 _=>dM z z z<|dR z z (fd K_ z) ?_)
 have L:=(J.blk:Blk we w0.z (vR x2 A2 N2 C2 A4 N4 C4 A1 N1 C1 A3 N3 C3)).e s3;refine dR z z (l0 z_ z<|L.at z) ?_;obtain ⟨_,eg,hmh⟩:=bdS hm;have h6:=(h5.ag B).e s3;have ha:=O.g h6;refine dRX z z (at_ (α:=Int) q_ z_3 z z z ha eg) ?_;rintro _ ⟨_,_,_,rfl,hi,hj,_⟩;obtain ⟨rfl,_⟩:=J_ hj;refine dR z z (l0 g_3 z<|hi.at0 z)<|dR z z (a_0 z) ?_
 obtain ⟨_,ek,hml⟩:=bdS hmh;refine dRX z z (d_Q (α:=Int) d_e z_3 z z z (I.g h6) ek) ?_;rintro _ ⟨_,_,_,rfl,hn,ho,_⟩;obtain ⟨rfl,hp⟩:=J_ ho;refine dR z z (l0 g_3 z<|hn.at0 z)<|dQ z z z<|pD<|Wo<|Wq<|Ws<|Rf z K_ z<|R z (l0 z_ z<|L.at z) ?_
 obtain ⟨xm,eq,hmr⟩:=bdS hml;refine RX z (rX q_ z_3 z z ha z z eq) ?_;rintro _ ⟨au,ns,ct,rfl,H⟩;refine R z (lnR q_ z H)<|Rm z<|Wn ?_
 obtain ⟨_,huv,hmb⟩:=bdS hmr;refine Wf (σ:=Int) (ρ:=Int) (fun (kc:Nat)(x0:Int) a w=>Sat 36 [(0,.pointer<|some pq1_0),(2,.func (.func 91) #[] #[]),(7,vI x0),(20,sl au ns ct),(21,vI (xm.length:Int)),(22,vI ((kc:Nat):Int))] a/\Below G.z G w/\inI x0) (fun (x0:Int) a w=>Sat 36 [(7,vI x0)] a/\Below G.z G w/\inI x0) (rQ prog fn<|Q9 w0 B) huv ?_ ?_ ?_ ?_ ?_
 ·exact fun _ q=>⟨q.k<|s6 z z z z z z,br G,hp⟩
 ·rintro kc x0 _ _ _ hkd ⟨hSw,s4,h2⟩ hmx;refine Wu ?_ hSw;refine Ws<|Rl z z z<|Wn<|Wq<|Wc z (fun _=>?_) (fun hc=>(a_4 hkd hc).elim)
  refine Wk<|Wq<|Wb<|Ws ?_
  obtain ⟨_,ey,hmz⟩:=bdS hmx;refine RX z (at_ (α:=Int) q_ z_3 z z z (H.e s4) ey) ?_;rintro _ ⟨_,_,_,rfl,a4,a5,_⟩;obtain ⟨rfl,_⟩:=J_ a5;refine R z (l0 g_3 z<|a4.at0 z)<|Rw z<|Wg<|RM z z<|RM z z<|R z (a_0 z) ?_
  obtain ⟨_,a6,V⟩:=bdS hmz;refine RX z (d_Q (α:=Int) d_e z_3 z z z (I.g<|h6.e s4) a6) ?_;rintro _ ⟨_,_,_,rfl,a7,a8,_⟩;obtain ⟨rfl,a9⟩:=J_ a8;refine R z (l0 g_3 z<|a7.at0 z) ?_;obtain ⟨aa,ab,W⟩:=bdS V;refine E z (g_h call91 z z<|W_w1i ab (zt' a3<|lt_ (lt_ h5.s s3.s) s4.s) h2 a9) ?_;rintro _ _ ⟨ad,rfl,ae⟩;exact Rw z<|Wg<|R z (inc_ hkd (lt_ (repS.len H) L_) z z)<|Rm z<|Wl (fun _ q=>⟨aa,(som W).symm,⟨q.k<|s6 z z z z z z,bup s4 ad,ae⟩⟩)
 ·rintro x0 _ _ ⟨Y,af,h2⟩;refine Wu ?_ Y;refine Ws<|Rl z z z<|Wn<|Wq<|Wc z (fun hc=>(a_5 hc).elim) (fun _=>?_)
  exact We<|fun _ q=>⟨rfl,⟨q.k<|s1 z,af,h2⟩⟩
 ·rintro x0 ah _ rfl ⟨_,ai,h2⟩;have a0:=elL hmb;revert ah;refine Wo<|Wm z<|Rw z ?_
  obtain rfl:=som a0;exact Wr<|f_ hr z ⟨bup (bup h5 s3) ai,z,h2⟩
 rintro _ _ _ _ rfl ⟨rfl,a1⟩;have a2:=elR hmb;obtain rfl:=som a2;exact ⟨a1,z⟩
def Q27 (w0:World)(B:Zone)(r:(List Int))(v:Value)(w':World):Prop:=Bw w0 w'/\(fun G=>(d_j G)=v/\c_O 24 G) r
theorem W_w2x {x1:d_}{res:(List Int)}(hm:e_W x1=some res)(O:B<=w0.z)(aa:repS w0 B (sl A0 N0 C0) x1.rules):j_ prog 62 [(.agg #[sl A0 N0 C0])] w0 (Q27 w0 B res):=by
 unfold e_W at hm
 refine goG func62 z z z fun fn hr=>Ws<|E z (fb z) ?_
 rintro _ wb ⟨rfl,aE⟩;have hj:=aE.below;refine E z (j_1 (m:=24) (u:=vI 0) (z0:=0) k_z z z (fun _=>a_P<|ii z) (by decide)) ?_;rintro _ G ⟨rfl,sk,aF⟩;refine Wn<|Ws<|E z (j_1 (m:=24) (u:=vI 0) (z0:=0) k_z z z (fun _=>a_P<|ii z) (by decide)) ?_
 rintro _ I ⟨rfl,se,bs⟩;refine Wn<|Wq<|Ws<|Rf z N_ z<|R z (l0 R_ z<|(((aE.blk:Blk wb w0.z [sl A0 N0 C0]).e sk).e se).at z) ?_
 have aG:=((hj.ag B).e sk).e se;refine R z (lnR P_ z<|aa.g aG)<|Rm z<|Wn ?_
 obtain ⟨_,aX,aq⟩:=bdS hm;refine Wf (σ:=List Int) (ρ:=List Int) (fun (k4:Nat)(xi:List Int) a w=>∃(J:List Nat),Sat 66 [(2,pt wb.z),(3,pt G.z),(8,sl A0 N0 C0),(9,vI (x1.rules.length:Int)),(10,vI ((k4:Nat):Int))] a/\Chg (· ∈ [G.z]) I w/\a_ w J (sl (some ⟨G.z,0,none⟩) 24 24) xi/\J.Nodup/\(∀k∈J,k∈[G.z]∨I.z<=k)) (fun (xi:List Int) a w=>∃(J:List Nat),Sat 66 [(2,pt wb.z),(3,pt G.z)] a/\Chg (· ∈ [G.z]) I w/\a_ w J (sl (some ⟨G.z,0,none⟩) 24 24) xi/\J.Nodup/\(∀k∈J,k∈[G.z]∨I.z<=k)) (rQ prog fn<|Q27 w0 B) aX ?_ ?_ ?_ ?_ ?_
 ·exact fun _ q=>⟨[G.z],q.k<|s5 z z z z z,cr [G.z] I,bs,a_q,io sr⟩
 ·rintro k4 xi _ L _ ar ⟨J,aY,sf,h2,hu,hv⟩ aZ;refine Wu ?_ aY;refine Ws<|Rl z z z<|Wn<|Wq<|Wc z (fun _=>?_) (fun hc=>(a_4 ar hc).elim)
  refine Wk<|Wq<|Wb<|Wm z ?_
  obtain ⟨xa,bt,b0⟩:=bdS aZ;have hg:=lt_ hj.s sk.s;refine RX z (at_ (α:=g_) P_ k_ z z z (aa.g<|aG.c sf<|c_ (or0 (b_ lr) (i_<|zt' O hg):∀k∈[G.z],¬B k)) bt) ?_;rintro _ ⟨_,_,_,rfl,bu,bv,_⟩;obtain ⟨aw,nx,cy,az,V,W,Y,a0,a1,a2,a3,a4,rfl,aH,aI,al,am,aJ,aK,a5⟩:=a_j bv;refine R z (lN (vs:=vR xa aw nx cy az V W Y a0 a1 a2 a3 a4) I_ k_ z z fid bu)<|E z (fa b_h) ?_
  rintro _ aL ⟨rfl,aM⟩;have h5:=aM.below;refine Ra z<|E0 (fs0 (cur':=vR xa aw nx cy az V W Y a0 a1 a2 a3 a4) k_ z z (aM.blk:Blk aL L.z [(Str.v (⟨[]⟩:Str)),vI 0,vI 0,vB false,sl none 0 0,sl none 0 0,sl none 0 0,sl none 0 0]) z z z z) ?_
  rintro _ wl ⟨hh,bw⟩;have h6:=bw.one;refine Wn<|Ws<|Rw z<|Wq<|Ws<|Rf z a_i z<|R z (l0 g_3 z<|hh.at z)<|Wn<|Wb<|Wq<|Ws<|Rq z z z<|Rw z ?_
  obtain ⟨bx,au,b3⟩:=bdS b0;refine Wt (fun a w=>∃(an:Bool),an=bx/\Sat 66 [(2,pt wb.z),(3,pt G.z),(4,vI ((k4:Nat):Int)),(5,pt L.z),(6,vI 1),(8,sl A0 N0 C0),(9,vI (x1.rules.length:Int)),(10,vI ((k4:Nat):Int)),(16,vI xa.kind),(17,vB an)] a/\Below wl.z wl w) ?_ ?_
  ·refine Wc z (fun ab=>?_)<|fun ab=>?_
   ·exact M_<|fun _ q=>⟨xa.kind==1,som<|ifT au ab,q.k<|sc z<|sc z<|sc z<|sc z<|sc z<|sc z<|sc z<|sc z<|sc z<|sc z sn,br wl⟩
   exact Wg<|Rq z z z<|Ra z<|Wl (fun _ q=>⟨xa.kind==3,som<|ifF au ab,q.k<|sc z<|sc z<|sc z<|sc z<|sc z<|sc z<|sc z<|sc z<|sc z<|sc z sn,br wl⟩)
  rintro bz wc ⟨an,rfl,_,H⟩;revert bz;refine Wo ?_;obtain ⟨bA,av,b4⟩:=bdS b3;refine Wt (fun a w=>∃(a6:Int),a6=bA/\Sat 66 [(2,pt wb.z),(3,pt G.z),(4,vI ((k4:Nat):Int)),(6,vI a6),(8,sl A0 N0 C0),(9,vI (x1.rules.length:Int)),(10,vI ((k4:Nat):Int))] a/\Below wc.z wc w/\inI a6) ?_ ?_
  ·refine Wc z (fun ad=>?_)<|fun ad=>?_
   ·exact Wg<|Rf z a_z z<|R z (l0 g_3 z<|(hh.e H).at z)<|Ra z<|Wl (fun _ q=>⟨xa.size,som<|ifT av ad,q.k<|s7 z z z z z z z,br wc,al⟩)
   refine Ws<|Rq z z z<|Rw z ?_
   obtain ⟨bB,ax,b5⟩:=bdS<|ifF av ad;refine Wt (fun a w=>∃(xm:Int),xm=bB/\Sat 66 [(2,pt wb.z),(3,pt G.z),(4,vI ((k4:Nat):Int)),(6,vI xm),(8,sl A0 N0 C0),(9,vI (x1.rules.length:Int)),(10,vI ((k4:Nat):Int))] a/\Below wc.z wc w/\inI xm) ?_ ?_
   ·refine Wc z (fun ae=>?_)<|fun ae=>?_
    ·refine Wg<|Rf z a_D z<|R z (l0 Q_ z<|(hh.e H).at z) ?_
     have aN:=am.g<|((h5.ag B).c h6<|c_ (or0 (b_ lr) (i_<|zt' O<|lt_ (lt_ hg se.s) sf.s):∀k∈[L.z],¬B k)).e H
     exact R z (lnR l_ z aN)<|Ra z<|Wl (fun _ q=>⟨(xa.bytes.length:Int),som<|ifT ax ae,q.k<|s7 z z z z z z z,br wc,a_t<|repS.len aN⟩)
    refine Wq<|Ws<|Rq z z z<|Rw z ?_
    obtain ⟨bC,ay,b6⟩:=bdS<|ifF ax ae;refine Wt (fun a w=>∃(ao:Bool),ao=bC/\Sat 66 [(2,pt wb.z),(3,pt G.z),(4,vI ((k4:Nat):Int)),(5,pt L.z),(6,vI 1),(8,sl A0 N0 C0),(9,vI (x1.rules.length:Int)),(10,vI ((k4:Nat):Int)),(16,vI xa.kind),(27,vB ao)] a/\Below wc.z wc w) ?_ ?_
    ·refine Wc z (fun af=>?_)<|fun af=>?_
     ·exact M_<|fun _ q=>⟨xa.kind==4,som<|ifT ay af,q.k<|sc z<|sc z<|sc z<|sc z<|sc z<|sc z<|sc z<|sc z<|sc z<|sc z sn,br wc⟩
     exact Wg<|Rq z z z<|Ra z<|Wl (fun _ q=>⟨xa.kind==5,som<|ifF ay af,q.k<|sc z<|sc z<|sc z<|sc z<|sc z<|sc z<|sc z<|sc z<|sc z<|sc z sn,br wc⟩)
    rintro bD wd ⟨ao,rfl,_,s8⟩;revert bD;refine Wo ?_;obtain ⟨bE,aA,b7⟩:=bdS b6;refine Wt (fun a w=>∃(xn:Int),xn=bE/\Sat 66 [(2,pt wb.z),(3,pt G.z),(4,vI ((k4:Nat):Int)),(6,vI xn),(8,sl A0 N0 C0),(9,vI (x1.rules.length:Int)),(10,vI ((k4:Nat):Int))] a/\Below wd.z wd w/\inI xn) ?_ ?_
    ·refine Wc z (fun ah=>?_)<|fun ah=>?_
     ·refine Wg<|Rf z K_ z<|R z (l0 z_ z<|((hh.e H).e s8).at z) ?_
      obtain ⟨_,bF,b8⟩:=bdS<|ifT aA ah;refine RX z (at_ (α:=Int) q_ z_3 z z z (a5.g<|(((h5.ag B).c h6<|c_ (or0 (b_ lr) (i_<|zt' O<|lt_ (lt_ hg se.s) sf.s):∀k∈[L.z],¬B k)).e H).e s8) bF) ?_;rintro _ ⟨_,_,_,rfl,bG,bH,_⟩;obtain ⟨rfl,_⟩:=J_ bH;refine R z (l0 g_3 z<|bG.at0 z) ?_;obtain ⟨bI,bJ,b9⟩:=bdS b8;refine RX z (d_Q (α:=Int) d_e z_3 z z z (or_ ((((h2.e h5).c h6<|ds<|mnr<|a_.lt h2).e H).e s8)<|a_.lt h2) bJ) ?_;rintro _ ⟨_,_,_,rfl,bK,bL,_⟩;obtain ⟨rfl,bN⟩:=J_ bL;exact R z (l0 g_3 z<|bK.at0 z)<|Ra z<|Wl (fun _ q=>⟨bI,som b9,q.k<|s7 z z z z z z z,br wd,bN⟩)
     refine Ws<|Rq z z z<|Rw z ?_
     obtain ⟨bO,aB,ba⟩:=bdS<|ifF aA ah;refine Wt (fun a w=>∃(xo:Int),xo=bO/\Sat 66 [(2,pt wb.z),(3,pt G.z),(4,vI ((k4:Nat):Int)),(6,vI xo),(8,sl A0 N0 C0),(9,vI (x1.rules.length:Int)),(10,vI ((k4:Nat):Int))] a/\Below wd.z wd w/\inI xo) ?_ ?_
     ·refine Wc z (fun ai=>?_)<|fun ai=>?_
      ·refine Wg<|R z (lN (vs:=vR xa aw nx cy az V W Y a0 a1 a2 a3 a4) I_ k_ z z fid<|((hh.e H).e s8).row 0 8 z) ?_
       have hp:=zt' O<|lt_ (lt_ hg se.s) sf.s
       have a7:=(((h5.ag B).c h6<|c_ (or0 (b_ lr) (i_ hp):∀k∈[L.z],¬B k)).e H).e s8;obtain ⟨bP,bQ,bb⟩:=bdS<|ifT aB ai;refine E z (fc call89 z<|W_w2t (B:=L.z) bQ (a_I<|lt_ (lt_ (lt_ h5.s h6.s) H.s) s8.s) (or_ ((((h2.e h5).c h6<|ds<|mnr<|a_.lt h2).e H).e s8)<|a_.lt h2) aH aI al (repS.mono (am.g a7) hp) (repS.mono (aJ.g a7) hp) (repS.mono (aK.g a7) hp)<|repS.mono (a5.g a7) hp) ?_;rintro _ _ ⟨bR,rfl,bS⟩;exact Ra z<|Wl (fun _ q=>⟨bP,som bb,q.k<|s7 z z z z z z z,bR,bS⟩)
      refine Ws<|Rq z z z<|Rw z ?_
      obtain ⟨bT,aC,bc⟩:=bdS<|ifF aB ai;refine Wt (fun a w=>∃(xq:Int),xq=bT/\Sat 66 [(2,pt wb.z),(3,pt G.z),(4,vI ((k4:Nat):Int)),(6,vI xq),(8,sl A0 N0 C0),(9,vI (x1.rules.length:Int)),(10,vI ((k4:Nat):Int))] a/\Below wd.z wd w/\inI xq) ?_ ?_
      ·refine Wc z (fun aj=>?_)<|fun aj=>?_
       ·refine Wd (X:=noX) 0 (pl_ 10 [7]) mo (by kernel_rfl) fun cL ss _=>dR z z (fd K_ z) ?_
        have aO:=((hh.e H).e s8).e ss;refine dR z z (l0 z_ z<|aO.at z) ?_;obtain ⟨_,bU,be⟩:=bdS<|ifT aC aj;have ht:=zt' O<|lt_ (lt_ hg se.s) sf.s
        have a8:=((((h5.ag B).c h6<|c_ (or0 (b_ lr) (i_ ht):∀k∈[L.z],¬B k)).e H).e s8).e ss;have aP:=a5.g a8;refine dRX z z (at_ (α:=Int) q_ z_3 z z z aP bU) ?_;rintro _ ⟨_,_,_,rfl,bV,bW,_⟩;obtain ⟨rfl,_⟩:=J_ bW;refine dR z z (l0 g_3 z<|bV.at0 z) ?_;obtain ⟨bX,bY,bf⟩:=bdS be;have aQ:=((((h2.e h5).c h6<|ds<|mnr<|a_.lt h2).e H).e s8).e ss;refine dRX z z (d_Q (α:=Int) d_e z_3 z z z (or_ aQ<|a_.lt h2) bY) ?_;rintro _ ⟨_,_,_,rfl,bZ,c0,_⟩;obtain ⟨rfl,_⟩:=J_ c0;refine dR z z (l0 g_3 z<|bZ.at0 z)<|dR z z (lN (vs:=vR xa aw nx cy az V W Y a0 a1 a2 a3 a4) I_ k_ z z fid<|aO.row 0 8 z) ?_
        obtain ⟨c1,c2,bg⟩:=bdS bf;refine dE z z (fc call90 z<|W_w2w (B:=L.z) c2 (a_I<|lt_ (lt_ (lt_ (lt_ h5.s h6.s) H.s) s8.s) ss.s) (or_ aQ<|a_.lt h2) aH aI al (repS.mono (am.g a8) ht) (repS.mono (aJ.g a8) ht) (repS.mono (aK.g a8) ht)<|repS.mono aP ht) (.inr fun _ _ h=>B_<|h.1) ?_;rintro _ _ ⟨c3,rfl,_⟩;exact dR z z (add_ z z)<|dQ z z z<|pD (fun _ q=>⟨h_ bX c1,som bg,q.k<|s7 z z z z z z z,bup ss c3,iA _ _⟩)
       refine Ws<|Rq z z z<|Rw z ?_
       obtain ⟨c4,aD,bh⟩:=bdS<|ifF aC aj;refine Wt (fun a w=>∃(xr:Int),xr=c4/\Sat 66 [(2,pt wb.z),(3,pt G.z),(4,vI ((k4:Nat):Int)),(6,vI xr),(8,sl A0 N0 C0),(9,vI (x1.rules.length:Int)),(10,vI ((k4:Nat):Int))] a/\Below wd.z wd w/\inI xr) ?_ ?_
       ·refine Wc z (fun ak=>?_)<|fun ak=>?_
        ·refine Wg<|Rf z K_ z<|R z (l0 z_ z<|((hh.e H).e s8).at z) ?_
         obtain ⟨_,c5,bi⟩:=bdS<|ifT aD ak;refine RX z (at_ (α:=Int) q_ z_3 z z z (a5.g<|(((h5.ag B).c h6<|c_ (or0 (b_ lr) (i_<|zt' O<|lt_ (lt_ hg se.s) sf.s):∀k∈[L.z],¬B k)).e H).e s8) c5) ?_;rintro _ ⟨_,_,_,rfl,c6,c7,_⟩;obtain ⟨rfl,_⟩:=J_ c7;refine R z (l0 g_3 z<|c6.at0 z) ?_;obtain ⟨c8,c9,bj⟩:=bdS bi;refine RX z (d_Q (α:=Int) d_e z_3 z z z (or_ ((((h2.e h5).c h6<|ds<|mnr<|a_.lt h2).e H).e s8)<|a_.lt h2) c9) ?_;rintro _ ⟨_,_,_,rfl,ca,cb,_⟩;obtain ⟨rfl,_⟩:=J_ cb;exact R z (l0 g_3 z<|ca.at0 z)<|R z (add_ z z)<|Ra z<|Wl (fun _ q=>⟨h_ c8 1,som bj,q.k<|s7 z z z z z z z,br wd,iA _ _⟩)
        exact M_<|fun _ q=>⟨1,som<|ifF aD ak,q.k<|s7 z z z z z z z,br wd,ii z⟩
       rintro cc _ ⟨xr,rfl,_,cd,ce⟩;revert cc;exact fun _ q=>⟨xr,som bh,q.k<|s7 z z z z z z z,cd,ce⟩
      rintro cf _ ⟨xq,rfl,_,cg,ch⟩;revert cf;exact fun _ q=>⟨xq,som bc,q.k<|s7 z z z z z z z,cg,ch⟩
     rintro ci _ ⟨xo,rfl,_,cj,ck⟩;revert ci;exact fun _ q=>⟨xo,som ba,q.k<|s7 z z z z z z z,cj,ck⟩
    rintro cl _ ⟨xn,rfl,_,cm,cn⟩;revert cl;exact fun _ q=>⟨xn,som b7,q.k<|s7 z z z z z z z,bup s8 cm,cn⟩
   rintro co _ ⟨xm,rfl,_,cp,cq⟩;revert co;exact fun _ q=>⟨xm,som b5,q.k<|s7 z z z z z z z,cp,cq⟩
  rintro ct cu ⟨a6,rfl,_,a9,cv⟩;revert ct;refine Wo<|Wg<|RM z z ?_
  obtain ⟨_,cw,bk⟩:=bdS b4;refine E z (fc call91 z<|W_w1i cw (zt' O<|lt_ (lt_ (lt_ (lt_ (lt_ (lt_ hg se.s) sf.s) h5.s) h6.s) H.s) a9.s) cv<|ii z) ?_;rintro _ cx ⟨ap,rfl,cz⟩;obtain ⟨cA,aR,bm⟩:=bdS bk;have aS:=((((h2.e h5).c h6<|ds<|mnr<|a_.lt h2).e H).e a9).e ap;refine RX z (k_K (α:=Int) d_e z_3 z z aS aR) ?_;rintro _ ⟨_,cB,rfl⟩;refine E0 (g_p (α:=Int) z_3 z cB z z z aR aS hu (a_P cz) an_ H_) ?_;rintro _ cC ⟨aT,cD,cE,cF,cG⟩;refine Wn<|Wg<|R z (inc_ ar (lt_ (repS.len aa) L_) z z)<|Rm z<|Wl ?_
  have aU:∀k∈J,k∈[G.z]∨I.z<=k:=or1 hv (io sr)<|x_ lr;exact fun _ q=>⟨cA,(som bm).symm,⟨aT,q.k<|s5 z z z z z,(cM (e_ (e_ (e_ (cM (e_ (cM (cr [G.z] I) sf (io sr):Chg (· ∈ [G.z]) I L) h5:Chg (· ∈ [G.z]) I aL) h6 (mor sf.s:∀k∈[L.z],k∈[G.z]∨I.z<=k):Chg (· ∈ [G.z]) I wl) H:Chg (· ∈ [G.z]) I wc) a9:Chg (· ∈ [G.z]) I cu) ap:Chg (· ∈ [G.z]) I cx) cD aU:Chg (· ∈ [G.z]) I cC),cE,cF,(or2 cG aU an_ (x_<|lt_ (lt_ (lt_ (lt_ (lt_ sf.s h5.s) h6.s) H.s) a9.s) ap.s):∀k∈aT,k∈[G.z]∨I.z<=k)⟩⟩
 ·rintro xi _ cH ⟨J,bn,cI,h2,hu,hv⟩;refine Wu ?_ bn;refine Ws<|Rl z z z<|Wn<|Wq<|Wc z (fun hc=>(a_5 hc).elim) (fun _=>?_)
  exact We<|fun _ q=>⟨rfl,⟨J,q.k<|s2 z z,(cM (cr [G.z] I) cI (io sr):Chg (· ∈ [G.z]) I cH),h2,hu,(or1 hv (io sr) (x_ lr):∀k∈J,k∈[G.z]∨I.z<=k)⟩⟩
 ·rintro xi cJ _ rfl ⟨J,_,aV,h2,hu,hv⟩;have bo:=elL aq;revert cJ;refine Wo<|Ws<|R z (k_M g_96 z_96 z fid h2)<|E0 (k_O z_96 z z (j_2 h2)<|(aF.e se).c aV<|ds<|mnr<|a_.lt aF) ?_
  rintro _ _ ⟨cK,aW⟩;refine Wn ?_;obtain rfl:=som bo;exact Wr<|f_ hr (resArr g_96 z_96 z aW) ⟨bM (bM (bup (bup hj sk) se) aV<|m1<|lt_ hj.s sk.s) cK<|m1 hj.s,z,j_2 aW⟩
 rintro _ _ _ _ rfl ⟨rfl,bp⟩;have bq:=elR aq;obtain rfl:=som bq;exact ⟨bp,z⟩
theorem W_w2y {x1:d_}{x2:Int}{res:Int}(hm:e_X n x1 x2=some res)(J:B<=w0.z)(I:repS w0 B (sl A0 N0 C0) x1.rules)(V:inI x2):j_ prog 35 [(.agg #[sl A0 N0 C0]),vI x2] w0 (Q9 w0 B res):=by
 unfold e_X at hm
 refine goG func35 z z z fun fn hr=>Ws<|E z (fb z) ?_
 rintro _ W ⟨rfl,h3⟩;have G:=h3.below;have h4:Blk W w0.z [sl A0 N0 C0]:=h3.blk;refine Rw z<|Wq<|Ws<|R z (lN (vs:=[sl A0 N0 C0]) s_ p_ z z fid<|h4.row 0 1 z)<|Rm z ?_
 obtain ⟨_,Y,L⟩:=bdS hm;refine E z (fc call61 z<|i_C Y (zt' J G.s) (I.e G) V) ?_;rintro _ _ ⟨s1,rfl⟩;refine R z (not_ z)<|Wx z (fun H=>?_) (fun H=>?_)
 ·refine Ws<|Rw z ?_
  obtain rfl:=som<|ifT L H;exact Wr<|f_ hr z ⟨bup G s1,z,ii z⟩
 refine Wk<|Ws<|R z (lN (vs:=[sl A0 N0 C0]) s_ p_ z z fid<|(h4.e s1).row 0 1 z) ?_
 obtain ⟨_,ea,hmb⟩:=bdS<|ifF L H;refine E z (fc call62 z<|W_w2x ea (zt' J<|lt_ G.s s1.s)<|I.g<|(G.ag B).e s1) ?_;rintro _ _ ⟨sc,rfl,h6⟩;refine Rm z ?_;obtain ⟨_,O,hmd⟩:=bdS hmb;refine R z (k_N d_e z_3 g_3 z z h6 O)<|Rw z ?_
 obtain rfl:=som hmd;exact Wr<|f_ hr z ⟨bup (bup G s1) sc,z,c_O.at h6 O⟩
theorem W_w2z {x1:Int}{x2:Int}{res:Bool}(hm:g_6 x1 x2=some res)(I:B<=w0.z)(G:inI x1)(H:inI x2):j_ prog 60 [vI x1,vI x2] w0 (Q0 w0 B res):=by
 unfold g_6 at hm
 refine goG func60 z z z fun fn hr=>Ws<|Rw z<|Wm z<|Rm z<|R z (a_d z z)<|Rw z ?_
 obtain rfl:=som hm;exact Wr<|f_ hr z ⟨br w0,z⟩
theorem W_w30 {x2:Int}{x3:List Int}{res:Int}(hm:g_7 x2 x3=some res)(W:B<=w0.z)(V:inI x2)(H:repS w0 B (sl A7 N7 C7) x3):j_ prog 59 [(.func (.func 60) #[] #[]),vI x2,sl A7 N7 C7] w0 (Q9 w0 B res):=by
 unfold g_7 at hm
 refine goG func59 z z z fun fn hr=>Ws<|Rw z<|Wq<|Wm z<|R z (lnR q_ z H)<|Rm z<|Wn ?_
 obtain ⟨_,hub,J⟩:=bdS hm;refine Wf (σ:=Int) (ρ:=Int) (fun (k3:Nat)(x0:Int) a w=>Sat 22 [(0,.func (.func 60) #[] #[]),(1,vI x0),(9,sl A7 N7 C7),(10,vI (x3.length:Int)),(11,vI ((k3:Nat):Int))] a/\Below w0.z w0 w/\inI x0) (fun (x0:Int) a w=>Sat 22 [(1,vI x0)] a/\Below w0.z w0 w/\inI x0) (rQ prog fn<|Q9 w0 B) hub ?_ ?_ ?_ ?_ ?_
 ·exact fun _ q=>⟨q.k<|s5 z z z z z,br w0,V⟩
 ·rintro k3 x0 _ _ _ L ⟨hSc,s6,h1⟩ hmd;refine Wu ?_ hSc;refine Ws<|Rl z z z<|Wn<|Wq<|Wc z (fun _=>?_) (fun hc=>(a_4 L hc).elim)
  refine Wk<|Wq<|Wb<|Ws ?_
  obtain ⟨xe,ef,hmg⟩:=bdS hmd;refine RX z (at_ (α:=Int) q_ z_3 z z z (H.e s6) ef) ?_;rintro _ ⟨_,_,_,rfl,hh,hi,_⟩;obtain ⟨rfl,O⟩:=J_ hi;refine R z (l0 g_3 z<|hh.at0 z)<|Rw z<|Wm z<|RM z z ?_
  obtain ⟨_,ej,hmk⟩:=bdS hmg;refine E z (g_h call60 z z<|W_w2z ej (zt' W s6.s) O h1) ?_;rintro _ G ⟨sm,rfl⟩;refine Wn ?_;obtain ⟨ul,hua,hmn⟩:=bdS hmk;refine Wt (fun a w=>∃(x4:Int),x4=ul/\Sat 22 [(0,.func (.func 60) #[] #[]),(1,vI x4),(9,sl A7 N7 C7),(10,vI (x3.length:Int)),(11,vI ((k3:Nat):Int))] a/\Below G.z G w/\inI x4) ?_ ?_
  ·refine Wc z (fun I=>?_)<|fun I=>?_
   ·exact Wg<|Rm z<|Ra z<|Wl (fun _ q=>⟨xe,som<|ifT hua I,q.k<|s5 z z z z z,br G,O⟩)
   exact M_<|fun _ q=>⟨x0,som<|ifF hua I,q.k<|s5 z z z z z,br G,h1⟩
  rintro ao _ ⟨x4,rfl,_,sp,hq⟩;revert ao;exact Wo<|Wg<|R z (inc_ L (lt_ (repS.len H) L_) z z)<|Rm z<|Wl (fun _ q=>⟨x4,(som hmn).symm,⟨q.k<|s5 z z z z z,bup (bup s6 sm) sp,hq⟩⟩)
 ·rintro x0 _ _ ⟨hSr,ss,h1⟩;refine Wu ?_ hSr;refine Ws<|Rl z z z<|Wn<|Wq<|Wc z (fun hc=>(a_5 hc).elim) (fun _=>?_)
  exact We<|fun _ q=>⟨rfl,⟨q.k<|s1 z,ss,h1⟩⟩
 ·rintro x0 au _ rfl ⟨_,st,h1⟩;have hmv:=elL J;revert au;refine Wo<|Wm z<|Rw z ?_
  obtain rfl:=som hmv;exact Wr<|f_ hr z ⟨st,z,h1⟩
 rintro _ _ _ _ rfl ⟨rfl,hqw⟩;have hmx:=elR J;obtain rfl:=som hmx;exact ⟨hqw,z⟩
theorem W_w31 {x1:Int}{x2:Int}{res:Int}(hm:e_F x1 x2=some res)(V:B<=w0.z)(I:inI x1)(J:inI x2):j_ prog 34 [vI x1,vI x2] w0 (Q9 w0 B res):=by
 unfold e_F at hm
 refine goG func34 z z z fun fn hr=>Ws<|Rw z<|Wm z<|Rm z<|E z (fS [(.tmp 6)] b_0 z z z (Y_ z) (lb z)<|lb z) ?_
 rintro _ H ⟨rfl,G⟩;have h6:Blk H w0.z [vI x2]:=G.blk;obtain ⟨_,O,L⟩:=bdS hm;refine E z (fc call59 z<|W_w30 (B:=H.z) O zr I<|a_.rep<|a_l G<|a_P J) ?_;rintro _ _ ⟨s4,rfl,h5⟩;refine Rw z ?_
 obtain rfl:=som L;exact Wr<|f_ hr z ⟨bup G.below s4,z,h5⟩
theorem W_w32 {x1:d_}{x2:List UInt8}{res:Int}(hm:e_Y n x1 x2=some res)(H:B<=w0.z)(hG:Gl w0 B)(I:repS w0 B (sl A0 N0 C0) x1.rules)(L:repS w0 B (sl A6 N6 C6) x2):j_ prog 13 [(.agg #[sl A0 N0 C0]),sl A6 N6 C6] w0 (Q9 w0 B res):=by
 unfold e_Y at hm
 refine goG func13 z z z fun fn hr=>Ws<|E z (fb z) ?_
 rintro _ wd ⟨rfl,h6⟩;have G:=h6.below;have V:Blk wd w0.z [sl A0 N0 C0]:=h6.blk;refine Rw z<|Wq<|Ws<|R z (lN (vs:=[sl A0 N0 C0]) s_ p_ z z fid<|V.row 0 1 z)<|Rm z ?_
 obtain ⟨_,ee,O⟩:=bdS hm;refine E z (fc call14 z<|i_W ee (zt' H G.s) (hG.e G) (I.e G)<|L.e G) ?_;rintro _ _ ⟨s1,rfl⟩;refine R z (not_ z)<|Wx z (fun J=>?_) (fun J=>?_)
 ·refine Ws<|Rw z ?_
  obtain rfl:=som<|ifT O J;exact Wr<|f_ hr z ⟨bup G s1,z,ii z⟩
 refine Wk<|Wq (Wd (X:=noX) 0 (.rd 0<|.rd 1<|.rd 4<|.rd 5<|.ef 2<|.ef 3<|.rd 6<|.ef 7<|.rd 8 .done) mo (by kernel_rfl) fun wq s2 _=>?_)
 have W:=(V.e s1).e s2;refine dR z z (lN (vs:=[sl A0 N0 C0]) s_ p_ z z fid<|W.row 0 1 z)<|dR z z (lN (vs:=[sl A0 N0 C0]) s_ p_ z z fid<|W.row 0 1 z)<|dM z z z ?_
 have h4:=((G.ag B).e s1).e s2;refine dR z z (lnR l_ z<|L.g h4) ?_;have ha:=lt_ (lt_ G.s s1.s) s2.s;obtain ⟨_,eg,hmf⟩:=bdS<|ifF O J;refine dE z z (fc call19 z<|h_d eg (zt' H ha)<|I.g h4) (.inr fun _ _ h=>B_<|h.1) ?_;rintro _ _ ⟨s5,rfl,hh⟩;have hb:=lt_ ha s5.s;obtain ⟨_,ei,hmj⟩:=bdS hmf;refine dE z z (fc call35 z<|W_w2y ei (zt' H hb) (I.g<|h4.e s5) hh) (.inr fun _ _ h=>B_<|h.1) ?_;rintro _ _ ⟨sc,rfl,_⟩;refine dR z z (sb_ z z) ?_;obtain ⟨_,ek,hml⟩:=bdS hmj;refine dE z z (fc call34 z<|W_w31 ek (zt' H<|lt_ hb sc.s) (ii z)<|iS _ _) (.inr fun _ _ h=>B_<|h.1) ?_;rintro _ _ ⟨sm,rfl,hn⟩;refine dQ z z z<|pD<|Wo ?_
 obtain rfl:=som hml;exact Wr<|f_ hr z ⟨bup (bup (bup (bup (bup G s1) s2) s5) sc) sm,z,hn⟩
theorem W_w33 {x1:d_}{x2:List (List UInt8)}{x3:Int}{res:Int}(hm:e_Z n x1 x2 x3=some res)(Y:B<=w0.z)(O:repS w0 B (sl A0 N0 C0) x1.rules)(I:repS w0 B (sl A6 N6 C6) x2)(a0:inI x3):j_ prog 15 [(.agg #[sl A0 N0 C0]),sl A6 N6 C6,vI x3] w0 (Q9 w0 B res):=by
 unfold e_Z at hm
 refine goG func15 z z z fun fn hr=>Ws<|E z (fb z) ?_
 rintro _ G ⟨rfl,L⟩;have h3:=L.below;refine Rw z<|Ws<|Rw z<|Wq<|Wm z<|R z (lnR d_38 z<|I.e h3)<|Rm z<|Wn ?_
 obtain ⟨_,huf,hma⟩:=bdS hm;refine Wf (σ:=Int) (ρ:=Int) (fun (k7:Nat)(x0:Int) a w=>Sat 31 [(2,vI x3),(3,pt w0.z),(7,vI x0),(12,sl A6 N6 C6),(13,vI (x2.length:Int)),(14,vI ((k7:Nat):Int))] a/\Below G.z G w/\inI x0) (fun (x0:Int) a w=>Sat 31 [(7,vI x0)] a/\Below G.z G w/\inI x0) (rQ prog fn<|Q9 w0 B) huf ?_ ?_ ?_ ?_ ?_
 ·exact fun _ q=>⟨q.k<|s6 z z z z z z,br G,ii z⟩
 ·rintro k7 x0 _ _ _ hkb ⟨hSg,s5,h2⟩ hmh;refine Wu ?_ hSg;refine Ws<|Rl z z z<|Wn<|Wq<|Wc z (fun _=>?_) (fun hc=>(a_4 hkb hc).elim)
  refine Wk<|Wq<|Wb<|Ws ?_
  obtain ⟨_,ei,hmj⟩:=bdS hmh;have hd:=(h3.ag B).e s5;refine RX z (at_ (α:=List UInt8) d_38 z_22 z z z (I.g hd) ei) ?_;rintro _ ⟨_,_,_,rfl,hk,hl,_⟩;obtain ⟨_,_,_,rfl,hn⟩:=e_1 hl;refine R z (l0 Q_ z<|hk.at0 z)<|Rw z<|Ws<|R z (lN (vs:=[sl A0 N0 C0]) s_ p_ z z fid<|((L.blk:Blk G w0.z [sl A0 N0 C0]).e s5).row 0 1 z)<|Rm z ?_
  obtain ⟨_,_,em,hmo⟩:=a_G hmj;refine E z (fc call18 z<|i_K em (zt' Y<|lt_ h3.s s5.s) (O.g hd) hn) ?_;rintro _ H ⟨sp,rfl,_,_⟩;refine Rm z<|Re z z z<|Re z z z<|Ra z<|Rw z<|Wm z<|Rm z<|Rq z z z<|Wn ?_
  obtain ⟨uq,huc,hmr⟩:=bdS hmo;refine Wt (fun a w=>∃(x4:Int),x4=uq/\Sat 31 [(2,vI x3),(3,pt w0.z),(7,vI x4),(12,sl A6 N6 C6),(13,vI (x2.length:Int)),(14,vI ((k7:Nat):Int))] a/\Below H.z H w/\inI x4) ?_ ?_
  ·refine Wc z (fun J=>?_)<|fun J=>?_
   ·exact Wg<|Rm z<|R z (add_ z z)<|Ra z<|Wl (fun _ q=>⟨h_ x0 1,som<|ifT huc J,q.k<|s6 z z z z z z,br H,iA _ _⟩)
   exact M_<|fun _ q=>⟨x0,som<|ifF huc J,q.k<|s6 z z z z z z,br H,h2⟩
  rintro au _ ⟨x4,rfl,_,ss,ht⟩;revert au;exact Wo<|Wg<|R z (inc_ hkb (lt_ (repS.len I) L_) z z)<|Rm z<|Wl (fun _ q=>⟨x4,(som hmr).symm,⟨q.k<|s6 z z z z z z,bup (bup s5 sp) ss,ht⟩⟩)
 ·rintro x0 _ _ ⟨hSv,sw,h2⟩;refine Wu ?_ hSv;refine Ws<|Rl z z z<|Wn<|Wq<|Wc z (fun hc=>(a_5 hc).elim) (fun _=>?_)
  exact We<|fun _ q=>⟨rfl,⟨q.k<|s1 z,sw,h2⟩⟩
 ·rintro x0 ax _ rfl ⟨_,sy,h2⟩;have hmz:=elL hma;revert ax;refine Wo<|Wm z<|Rw z ?_
  obtain rfl:=som hmz;exact Wr<|f_ hr z ⟨bup h3 sy,z,h2⟩
 rintro _ _ _ _ rfl ⟨rfl,V⟩;have W:=elR hma;obtain rfl:=som W;exact ⟨V,z⟩
def o_7 (w0:World)(B:Zone)(r:Bool)(v:Value)(w':World):Prop:=Bw w0 w'/\(fun G=>(vB G)=v) r
theorem o_8 {x1:List UInt8}{res:Bool}(hm:f_0 n x1=some res)(Y:B<=w0.z)(hG:Gl w0 B)(av:repS w0 B (sl A0 N0 C0) x1):j_ prog 3 [sl A0 N0 C0] w0 (o_7 w0 B res):=by
 unfold f_0 at hm
 refine goG func3 z z z fun fn hr=>Ws<|Rw z<|Wq<|Wm z ?_
 obtain ⟨_,bB,ax⟩:=bdS hm;refine E z (fc call4 z<|W_w1j (B:=B) bB Y av) ?_;rintro _ _ ⟨sj,rfl⟩;refine Wx z (fun a5=>?_) (fun a5=>?_)
 ·refine Ws<|Rw z ?_
  obtain rfl:=som<|ifT ax a5;exact Wr<|f_ hr z ⟨sj,z⟩
 refine Wk<|Wm z ?_
 obtain ⟨_,_,bC,bo⟩:=a_G<|ifF ax a5;refine E z (fc call5 z<|W_w1p bC (zt' Y sj.s)<|av.e sj) ?_;rintro _ I ⟨sv,V,W,ca,_,aw,ny,cz,_,rfl,h3,hd,_,_⟩;refine Rm z<|Re z z z<|Re z z z<|E z (fa e_m) ?_
 rintro _ bD ⟨rfl,aG⟩;have hh:=aG.below;have aH:Blk bD I.z [sl none 0 0]:=aG.blk;refine E0 (fs0 (cur':=[sl V W ca]) p_ z z aH z z z z) ?_;rintro _ _ ⟨aI,bE⟩;have hf:=bE.one;refine Rw z<|Ws<|R z (lN (vs:=[sl V W ca]) s_ p_ z z fid<|aI.row 0 1 z)<|Rm z ?_
 have aJ:=(h3.e hh).c hf<|ds<|mnr<|a_.lt h3
 have aK:=(hd.e hh).c hf<|ds<|mnr<|a_.lt hd
 have ht:=lt_ sj.s sv.s;have hp:=zt' Y ht;have aL:=(((hG.e sj).e sv).e hh).c hf<|c_ (or0 (b_ lr) (i_ hp):∀k∈[I.z],¬B k)
 have aM:=lt_ hh.s hf.s;obtain ⟨G,bF,bp⟩:=bdS bo;refine E z (fc call6 z<|W_w22 (B:=I.z) bF (a_I aM) (aL.mono hp) (or_ aJ<|a_.lt h3)<|or_ aK<|a_.lt hd) ?_;rintro _ a9 ⟨se,rfl,a0,a1,a2,a3⟩;refine E z (fa f_n) ?_;rintro _ bG ⟨rfl,aN⟩;have hk:=aN.below;refine E0 (fs0 (cur':=[vI G.code,vI G.position,Str.v G.path,vI G.rule]) b_y z z (aN.blk:Blk bG a9.z [vI 0,vI 0,Str.v (⟨[]⟩:Str),vI 0]) z z z z) ?_;rintro _ _ ⟨aO,bH⟩;have hl:=bH.one;refine Wn<|Ws ?_
 have aa:=((aI.e se).e hk).c hl<|djs<|mm1 aH.lt<|lt_ hf.s se.s
 refine R z (lN (vs:=[sl V W ca]) s_ p_ z z fid<|aa.row 0 1 z)<|Rm z ?_
 have ab:=lt_ aM se.s;have ad:=((aJ.e se).e hk).c hl<|ds<|mno (a_.lt h3) ab
 have ae:=((aK.e se).e hk).c hl<|ds<|mno (a_.lt hd) ab
 have af:=lt_ (lt_ ab hk.s) hl.s;obtain ⟨bI,rx,bJ,bq⟩:=a_G bp;refine E z (fc call7 z<|W_w1g (B:=I.z) bJ (a_I af) (or_ ad<|a_.lt h3)<|or_ ae<|a_.lt hd) ?_;rintro _ aP ⟨s6,rfl,_,bK⟩;refine Rm z<|Re z z z<|Re z z z<|Ra z<|Rw z<|Wq<|Wq ?_
 obtain ⟨bL,ay,az⟩:=bdS bq;refine Wt (fun a w=>∃(ah:Bool),ah=bL/\Sat 93 [(3,pt I.z),(4,sl aw ny cz),(5,pt a9.z),(7,vI rx),(42,vB ah)] a/\Below aP.z aP w) ?_ ?_
 ·refine Wd (X:=noX) 0 (pl_ 17 [14]) mo (by kernel_rfl) fun ce sm _=>dR z z (fd i_s z) ?_
  have ai:=(aO.e s6).e sm;refine dR z z (l0 g_3 z<|ai.at z)<|dM z z z<|dR z z (nq z z)<|dM z z z ?_
  rcases bs (G.position != bI) with hcg | hcg
  ·iterate 4 refine dRn z z z hcg z ?_
   refine dR z z (pT z hcg z)<|dM z z z ?_
   iterate 3 refine dRn z z z z z ?_
   exact dEn z z z z z<|dRn z z z z z<|dR z z (pT z z z)<|pD (fun _ q=>⟨true,som<|ifT ay hcg,q.k<|s5 z z z z z,sm⟩)
  have aA:=ifF ay hcg;refine dRg z z z hcg z (fd d_E z)<|dRg z z z hcg z (l0 g_3 z<|ai.at z)<|dRg z z z hcg z (mv z)<|dRg z z z hcg z (nq z z)<|dR z z (pF z hcg z)<|dM z z z ?_
  rcases bs (G.code != rx) with J | J
  ·iterate 3 refine dRn z z z J z ?_
   exact dEn z z z J z<|dRn z z z J z<|dR z z (pT z J z)<|pD (fun _ q=>⟨true,som<|ifT aA J,q.k<|s5 z z z z z,sm⟩)
  refine dRg z z z J z (lN (vs:=[vI G.code,vI G.position,Str.v G.path,vI G.rule]) c_F b_y z z fid<|ai.row 0 4 z)<|dRg z z z J z (lN (vs:=[sl V W ca]) s_ p_ z z fid<|((aa.e s6).e sm).row 0 1 z)<|dRg z z z J z (mv z) ?_
  obtain ⟨aQ,bN,br⟩:=bdS<|ifF aA J;refine dEg z z z J z (fc call8 z<|W_w2g (B:=I.z) bN (a_I<|lt_ (lt_ af s6.s) sm.s) (or_ ((ad.e s6).e sm)<|a_.lt h3)<|or_ ((ae.e s6).e sm)<|a_.lt hd) (.inr fun _ _ h=>B_<|h.1) ?_;rintro _ _ ⟨bO,rfl,_,_,_,_⟩;exact dRg z z z J z (j_k (a:=(G:a_n)) (b:=(aQ:a_n)) eqa_30 z z)<|dR z z (pF z J z)<|pD (fun _ q=>⟨!decide ((G:a_n)=(aQ:a_n)),som br,q.k<|s5 z z z z z,bup sm bO⟩)
 rintro bP _ ⟨ah,rfl,_,si⟩;revert bP;refine Wo<|Wc z (fun a6=>?_) (fun a6=>?_)
 ·refine Ws<|Rw z ?_
  obtain rfl:=som<|ifT az a6;exact Wr<|f_ hr z ⟨bup (bup (bM (bup (bup (bM (bup (bup sj sv) hh) hf<|m1 ht) se) hk) hl<|m1<|lt_ (lt_ (lt_ ht hh.s) hf.s) se.s) s6) si,z⟩
 refine Wk<|Ws ?_
 have aj:=(aa.e s6).e si;refine R z (lN (vs:=[sl V W ca]) s_ p_ z z fid<|aj.row 0 1 z) ?_;have aR:=(aO.e s6).e si;refine R z (lN (vs:=[vI G.code,vI G.position,Str.v G.path,vI G.rule]) c_F b_y z z fid<|aR.row 0 4 z) ?_;have ak:=(ad.e s6).e si;have al:=lt_ (lt_ (lt_ ht hh.s) hf.s) se.s;have am:=((((aL.e se).e hk).c hl<|c_ (or0 (b_ lr) (i_<|zt' Y al):∀k∈[a9.z],¬B k)).e s6).e si;have an:=lt_ (lt_ af s6.s) si.s;obtain ⟨aS,bQ,bt⟩:=bdS<|ifF az a6;refine E z (fc call9 z<|W_w2i (B:=I.z) bQ (a_I an) (am.mono hp) (or_ ak<|a_.lt h3) a0 a1 a2 a3) ?_;rintro _ aT ⟨sb,rfl,_⟩;refine Rw z<|Wq<|Wq ?_
 obtain ⟨bR,aB,aC⟩:=bdS bt;refine Wt (fun a w=>∃(ao:Bool),ao=bR/\Sat 93 [(3,pt I.z),(4,sl aw ny cz),(7,vI rx),(66,vB ao)] a/\Below aT.z aT w) ?_ ?_
 ·refine Wd (X:=noX) 0 (.rd 0<|.rd 1<|.rd 2<|.rd 3<|.rd 4<|.rd 5<|.rd 6<|.rd 7<|.rd 8<|.ef 9<|.rd 10<|.rd 11<|.rd 12<|.rd 13<|.rd 14<|.rd 16<|.rd 17<|.ef 15<|.ef 18<|.rd 19<|.rd 20 .done) mo (by kernel_rfl) fun cf sn _=>dM z z z<|dR z z (f_8 z z)<|dM z z z<|dR z z (eql z z)<|dR z z (m_3 d_4 z z)<|dM z z z ?_
  rcases bs ((aS.b==(⟨[111,107]⟩:Str).b) != (rx==0)) with L | L
  ·iterate 3 refine dRn z z z L z ?_
   refine dEn z z z L z<|dRn z z z L z<|dR z z (pT z L z)<|dM z z z ?_
   iterate 4 refine dRn z z z z z ?_
   exact dEn z z z z z<|dEn z z z z z<|dRn z z z z z<|dR z z (pT z z z)<|pD (fun _ q=>⟨true,som<|ifT aB L,q.k<|s4 z z z z,sn⟩)
  refine dRg z z z L z (mv z) ?_;have aU:=(aj.e sb).e sn;refine dRg z z z L z (lN (vs:=[sl V W ca]) s_ p_ z z fid<|aU.row 0 1 z) ?_;have aV:=(aR.e sb).e sn;refine dRg z z z L z (lN (vs:=[vI G.code,vI G.position,Str.v G.path,vI G.rule]) c_F b_y z z fid<|aV.row 0 4 z) ?_;have aW:=(ak.e sb).e sn;have aX:=lt_ (lt_ an sb.s) sn.s;obtain ⟨bS,bT,aD⟩:=bdS<|ifF aB L;refine dEg z z z L z (fc call10 z<|W_w2l (B:=I.z) bT (a_I aX) (or_ aW<|a_.lt h3) a0 a1 a2 a3) (.inr fun _ _ h=>B_<|h.1) ?_;rintro _ _ ⟨sq,rfl,_⟩;refine dRg z z z L z (g_J z z)<|dR z z (pF z L z)<|dM z z z ?_
  rcases bs (aS.b != bS.b) with H | H
  ·iterate 4 refine dRn z z z H z ?_
   exact dEn z z z H z<|dEn z z z H z<|dRn z z z H z<|dR z z (pT z H z)<|pD (fun _ q=>⟨true,som<|ifT aD H,q.k<|s4 z z z z,bup sn sq⟩)
  have aY:=aU.e sq;refine dRg z z z H z (lN (vs:=[sl V W ca]) s_ p_ z z fid<|aY.row 0 1 z) ?_;have aZ:=aV.e sq;refine dRg z z z H z (lN (vs:=[vI G.code,vI G.position,Str.v G.path,vI G.rule]) c_F b_y z z fid<|aZ.row 0 4 z)<|dRg z z z H z (lN (vs:=[sl V W ca]) s_ p_ z z fid<|aY.row 0 1 z)<|dRg z z z H z (lN (vs:=[vI G.code,vI G.position,Str.v G.path,vI G.rule]) c_F b_y z z fid<|aZ.row 0 4 z) ?_
  have b0:=aW.e sq;have b3:=lt_ aX sq.s;obtain ⟨bU,bV,bu⟩:=bdS<|ifF aD H;refine dEg z z z H z (fc call11 z<|W_w2o (B:=I.z) bV (a_I b3) ((((am.e sb).e sn).e sq).mono hp) (or_ b0<|a_.lt h3) a0 a1 a2 a3) (.inr fun _ _ h=>B_<|h.1) ?_;rintro _ _ ⟨ap,rfl,_⟩;obtain ⟨bW,bX,bv⟩:=bdS bu;refine dEg z z z H z (fc call12 z<|W_w2r (B:=I.z) bX (a_I<|lt_ b3 ap.s) (or_ (b0.e ap)<|a_.lt h3) a0 a1 a2 a3) (.inr fun _ _ h=>B_<|h.1) ?_;rintro _ _ ⟨bY,rfl,_⟩;exact dRg z z z H z (g_J z z)<|dR z z (pF z H z)<|pD (fun _ q=>⟨bU.b != bW.b,som bv,q.k<|s4 z z z z,bup (bup (bup sn sq) ap) bY⟩)
 rintro bZ _ ⟨ao,rfl,_,sr⟩;revert bZ;refine Wo<|Wc z (fun a7=>?_) (fun a7=>?_)
 ·refine Ws<|Rw z ?_
  obtain rfl:=som<|ifT aC a7;exact Wr<|f_ hr z ⟨bup (bup (bup (bup (bM (bup (bup (bM (bup (bup sj sv) hh) hf<|m1 ht) se) hk) hl<|m1 al) s6) si) sb) sr,z⟩
 refine Wk<|Ws ?_
 have b4:=(aj.e sb).e sr;refine R z (lN (vs:=[sl V W ca]) s_ p_ z z fid<|b4.row 0 1 z)<|Rm z ?_
 have b5:=(ak.e sb).e sr;have b6:=(((ae.e s6).e si).e sb).e sr;have b7:=(am.e sb).e sr;have b8:=lt_ (lt_ an sb.s) sr.s;obtain ⟨c0,c1,bw⟩:=bdS<|ifF aC a7;refine E z (fc call13 z<|W_w32 (B:=I.z) c1 (a_I b8) (b7.mono hp) (or_ b5<|a_.lt h3)<|or_ b6<|a_.lt hd) ?_;rintro _ b9 ⟨ss,rfl,_⟩;refine Rw z<|Wq ?_
 obtain ⟨c2,bx,bz⟩:=bdS bw;refine Wt (fun a w=>∃(aq:Bool),aq=c2/\Sat 93 [(2,vB aq)] a/\Below b9.z b9 w) ?_ ?_
 ·refine Wg ?_;have ba:=b4.e ss;refine R z (lN (vs:=[sl V W ca]) s_ p_ z z fid<|ba.row 0 1 z)<|Rm z ?_
  have bb:=b5.e ss;have bc:=b6.e ss;have be:=b7.e ss;have bf:=lt_ b8 ss.s;obtain ⟨c3,c4,aE⟩:=bdS bx;refine E z (fc call14 z<|i_W (B:=I.z) c4 (a_I bf) (be.mono hp) (or_ bb<|a_.lt h3)<|or_ bc<|a_.lt hd) ?_;rintro _ _ ⟨so,rfl⟩;refine Rm z<|Rq z z z<|R z (j_D d_4 z z)<|Rm z ?_
  rcases bs (c3==(rx==1)) with hcc | hcc
  ·refine Rh z hcc (mv z)<|Rh z hcc (a_d z z) ?_
   have bg:=ba.e so;refine Rh z hcc (lN (vs:=[sl V W ca]) s_ p_ z z fid<|bg.row 0 1 z)<|Rh z hcc (mv z) ?_
   have bh:=bb.e so;have bi:=bc.e so;have bj:=lt_ bf so.s;obtain ⟨c5,c6,aF⟩:=bdS<|ifT aE hcc;refine Eg z z hcc z (fc call14 z<|i_W (B:=I.z) c6 (a_I bj) ((be.e so).mono hp) (or_ bh<|a_.lt h3)<|or_ bi<|a_.lt hd) ?_;rintro _ c7 ⟨su,rfl⟩;refine Rh z hcc (j_D d_4 z z)<|R z (pT z hcc z)<|Rm z ?_
   rcases bs ((decide<|0<c0)==c5) with O | O
   ·refine Rh z O (lN (vs:=[sl V W ca]) s_ p_ z z fid<|(bg.e su).row 0 1 z)<|Rh z O (mv z)<|Rh z O (mv z)<|Eg z z O z (fS [(.tmp 86),(.tmp 87)] el_38 z z z (Y_ z) (lb z)<|lb z) ?_
    rintro _ ar ⟨rfl,bk⟩;have a4:=bk.below;have bm:Blk ar c7.z [sl aw ny cz,sl aw ny cz]:=bk.blk;have bn:=(bi.e su).e a4;have au:=lt_ (lt_ bj su.s) a4.s;refine Rh z O (mv z) ?_;obtain ⟨c8,c9,bA⟩:=bdS<|ifT aF O;refine Eg z z O z (fc call15 z<|W_w33 (B:=ar.z) c9 zr (repS.mono (or_ ((bh.e su).e a4)<|a_.lt h3)<|a_I au) (k_L (B:=bl ar.z) bm (Blk.lt bm) (repS.mono (or_ bn<|a_.lt hd)<|a_I au)<|repS.mono (or_ bn<|a_.lt hd)<|a_I au) bK) ?_;rintro _ _ ⟨cb,rfl,_⟩;exact Rh z O (eql z z)<|R z (pT z O z)<|Ra z<|Wl (fun _ q=>⟨c8==2,som bA,q.k<|s1 z,bup (bup (bup so su) a4) cb⟩)
   iterate 7 refine Nh z O ?_
   exact R z (pF z O z)<|Ra z<|Wl (fun _ q=>⟨false,som<|ifF aF O,q.k<|s1 z,bup so su⟩)
  iterate 6 refine Nh z hcc ?_
  exact R z (pF z hcc z)<|Rm z<|Nh z z<|Nh z z<|Nh z z<|Nh z z<|Nh z z<|Nh z z<|Nh z z<|R z (pF z z z)<|Ra z<|Wl (fun _ q=>⟨false,som<|ifF aE hcc,q.k<|s1 z,so⟩)
 rintro cc _ ⟨aq,rfl,_,cd⟩;revert cc;refine Wo ?_;obtain rfl:=som bz;exact Wr<|f_ hr z ⟨bup (bup (bup (bup (bup (bup (bM (bup (bup (bM (bup (bup sj sv) hh) hf<|m1 ht) se) hk) hl<|m1 al) s6) si) sb) sr) ss) cd,z⟩
end Go.Vw
