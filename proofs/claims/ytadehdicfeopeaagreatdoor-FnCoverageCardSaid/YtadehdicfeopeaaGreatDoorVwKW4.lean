
import Derived.Test.YtadehdicfeopeaaGreatDoorVwKW3
set_option linter.unusedVariables false
namespace Go.Vw
open Go.RowKit Dat Go.Proofs
open Go.Proofs.Tryz
open Go.Vw renaming f_g->Wq,f_i->Wg,WC.of_KC->Wo,e_z->Wl,f_h->Wc,h_7->Wr,i_5->Wu,h_A->pT,h_B->pF,f_S->fd,f_T->l1,i_a->lN,e_Q->mv,e_R->asg,h_C->lnR,f_Y->lss,f_X->eql,f_U->ext_,h_G->bP,f_V->add_,h_n->inc_,i_f->not_,h_D->at_,h_h->fc,e_2->fs,h_g->fb,f_z->fa,h_t->sr,h_y->cr,h_z->cM,h_x->bM,h_k->iS,h_j->iA,h_m->br,f_D->oA,h_p->bs,ltge->lg,inor->io,i_e->nq,i_b->lnT,i_c->sb_,h_r->ar_,h_q->al_,h_s->ds,i_O->m1,h_v->nr_,h_u->nl_,f_E->aa_,d_w->an_,e_y->Wb,f_C->u8,h_c->pD,h_8->We,h_l->Wt,h_i->fS,e_x->or_,i_6->Wf,h_P->qL,h_b->Wd,h_H->fN,f_F->na_,h_w->nj,h_J->f0,h_F->rX,h_K->tl_,h_L->ic
variable {A0:Option Addr}{N0 C0:Nat}{B:Zone}{w0:World}{n:Nat}{A5:Option Addr}{N5 C5:Nat}{AB:Option Addr}{A8:Option Addr}{AC:Option Addr}{AD:Option Addr}{NB CB:Nat}{N8 C8:Nat}{NC CC:Nat}{ND CD:Nat}{A2:Option Addr}{A3:Option Addr}{A1:Option Addr}{A4:Option Addr}{N2 C2:Nat}{N3 C3:Nat}{N1 C1:Nat}{N4 C4:Nat}{A9:Option Addr}{AA:Option Addr}{N9 C9:Nat}{NA CA:Nat}{AE:Option Addr}{AF:Option Addr}{NE CE:Nat}{NF CF:Nat}{A7:Option Addr}{N7 C7:Nat}{A6:Option Addr}{N6 C6:Nat}
theorem W_w3b {x1:d_}{x2:List UInt8}{res:(List Str)}(hm:h_3 n x1 x2=some res)(Y:B<=w0.z)(W:repS w0 B (sl A0 N0 C0) x1.rules)(ae:repS w0 B (sl A5 N5 C5) x2):n_ prog 13 [(.agg #[sl A0 N0 C0]),sl A5 N5 C5] w0 (Q32 w0 B res):=by
 unfold h_3 at hm
 refine goG func13 z z z fun fn hr=>Ws<|E z (fb z) ?_
 rintro _ H ⟨rfl,aQ⟩;have ho:=aQ.below;have ai:Blk H w0.z [sl A0 N0 C0]:=aQ.blk;refine Rw z<|Ws<|E z (f0 (α:=Str) b_o) ?_
 rintro _ _ ⟨bV,bW,bX,rfl,sp,aj⟩;refine Rw z<|Ws ?_
 have aR:=ai.e sp;refine R z (lN (vs:=[sl A0 N0 C0]) t_ q_ z z fid<|aR.row 0 1 z)<|Rm z ?_
 have ak:=(ho.ag B).e sp;have hq:=lt_ ho.s sp.s;obtain ⟨_,_,bY,bw⟩:=a_t hm;refine E z (fc call19 z<|W_w1i bY (zt' Y hq) (W.g ak)<|ae.g ak) ?_;rintro _ J ⟨sa,au,ns,cv,_,rfl,hd,_,aS⟩;refine Rm z<|Re z z z<|Re z z z<|Ra z<|Rw z<|Wq<|Ws<|Rw z ?_
 obtain ⟨_,bx,aL⟩:=bdS bw;refine Wf (σ:=List Str) (ρ:=List Str) (fun (kr:Nat)(xc:List Str) a w=>∃L O V G,Sat 71 [(1,sl A5 N5 C5),(2,pt w0.z),(5,sl L O V),(6,sl au ns cv),(8,vI ((kr:Nat):Int))] a/\Chg (· ∈ [H.z]) J w/\a_ w G (sl L O V) xc/\G.Nodup/\(∀k∈G,k∈[H.z]∨J.z<=k)) (fun (xc:List Str) a w=>∃L O V G,Sat 71 [(5,sl L O V)] a/\Chg (· ∈ [H.z]) J w/\a_ w G (sl L O V) xc/\G.Nodup/\(∀k∈G,k∈[H.z]∨J.z<=k)) (rQ prog fn<|Q32 w0 B) bx ?_ ?_ ?_ ?_ ?_
 ·exact fun _ q=>⟨bV,bW,bX,[H.z],q.k<|s5 z z z z z,cr [H.z] J,aj.e sa,a_k,io sr⟩
 ·rintro kr xc _ I _ aM ⟨L,O,V,G,bz,s9,hg,hh,ht⟩ bA;refine Wu ?_ bz;refine Wq<|Wm z<|Rm z ?_
  have aT:=hd.c s9<|b_e aS (a_.lt aj) lr
  refine R z (lnR c_j z<|or_ aT<|a_.lt hd)<|Rl z z z<|Wx z (fun _=>?_) (fun hc=>(a_2 aM hc).elim)
  refine Wk<|Wq ?_
  obtain ⟨bZ,bB,bC⟩:=bdS bA;refine Wt (fun a w=>∃(xw:List Str),xw=bZ/\∃ax ny cz Sj,Sat 71 [(1,sl A5 N5 C5),(2,pt w0.z),(5,sl ax ny cz),(6,sl au ns cv),(8,vI ((kr:Nat):Int))] a/\Chg (· ∈ G) I w/\a_ w Sj (sl ax ny cz) xw/\Sj.Nodup/\(∀k∈Sj,k∈G∨I.z<=k)) ?_ ?_
  ·refine Wb<|Wq<|Wq (Wd (X:=noX) 0 (pl_ 11 []) mo (by kernel_rfl) fun we s7 _=>dR z z (fd R_ z) ?_)
   have al:=((aR.e sa).c s9<|djs<|mmr ai.lt).e s7;refine dR z z (l0 T_ z<|al.at z)<|dM z z z<|dM z z z ?_
   obtain ⟨_,c0,bD⟩:=bdS bB;have am:=aT.e s7;refine dRX z z (at_ (α:=u_) c_j b_p z z z (or_ am<|a_.lt hd) c0) ?_;rintro _ ⟨_,_,_,rfl,c1,c2,_⟩;obtain ⟨rfl,_,_,_,_⟩:=f_y c2;refine dR z z (fd e_6 z)<|dR z z (l0 g_3 z<|c1.at (j:=1) z) ?_
   obtain ⟨_,c3,aN⟩:=bdS bD;have a0:=((ak.e sa).c s9<|b_ (or0 (c_ lr) (k_<|zt' Y ho.s):∀k∈[H.z],¬B k)).e s7;refine dRX z z (at_ (α:=e_) U_ m_ z z z (W.g a0) c3) ?_;rintro _ ⟨_,_,_,rfl,c4,c5,_⟩;obtain ⟨_,_,_,_,_,_,_,_,_,_,_,_,rfl,_,_,_,_,_,_,_⟩:=a_m c5;refine dR z z (fd a_n z)<|dR z z (l0 g_3 z<|c4.at (j:=1) z)<|dR z z (nq z z)<|pD<|Wo<|Wc z (fun af=>?_) (fun af=>?_)
   ·refine We<|exH ?_
    exact fun _ q=>⟨xc,som<|ifT aN af,L,O,V,G,q.k<|s5 z z z z z,(f_ (cr G I) s7:Chg (· ∈ G) I we),hg.e s7,hh,io sr⟩
   refine Wk<|Wq ?_
   obtain ⟨c7,bE,bF⟩:=bdS<|ifF aN af;refine Wt (fun a w=>∃(a1:Int)(an:List UInt8)(ao:List Val),(a1,an,ao)=c7/\∃ap aq ar Sk av aw ay Sl gm,Sat 71 [(1,sl A5 N5 C5),(2,pt w0.z),(5,sl L O V),(6,sl au ns cv),(8,vI ((kr:Nat):Int)),(9,pt gm)] a/\Below we.z we w/\inI a1/\a_ w Sk (sl ap aq ar) an/\Sk.Nodup/\(∀k∈Sk,we.z<=k)/\a_ w Sl (sl av aw ay) ao/\Sl.Nodup/\(∀k∈Sl,we.z<=k)/\(∀k∈Sl,k∉Sk)/\Blk w gm [vI a1,sl ap aq ar,sl av aw ay]/\we.z<=gm/\(∀k∈Sk,k∉[gm])/\(∀k∈Sl,k∉[gm])) ?_ ?_
   ·refine Wd (X:=fun k=>k∈([]:List Nat)∨we.z<=k) 0 (.rd 0<|.rd 1<|.rd 2<|.rd 3<|.rd 4<|.rd 5<|.rd 6<|.br 7 (.rd 8<|.rd 9<|.rd 10<|.ef 11<|.ef 12<|.rd 13 .done) 11<|.ef 7<|.rd 8<|.rd 9<|.rd 10<|.ef 12<|.rd 13 .done) mo (by kernel_rfl) fun aU s8 _=>dR z z (lN (vs:=[sl A0 N0 C0]) t_ q_ z z (a_y nm0<|Nat.lt_of_lt_of_le ai.lt<|lt_ (lt_ (lt_ sp.s sa.s) s9.s) s7.s)<|(al.e s8).row 0 1 z) ?_
    iterate 3 refine dM z z z ?_
    obtain ⟨_,c8,aO⟩:=bdS bE;refine dRX z z (at_ (α:=u_) c_j b_p z z z (or_ (am.e s8)<|a_.lt hd) c8) ?_;rintro _ ⟨_,_,_,rfl,c9,ca,cb⟩;obtain ⟨rfl,aV,_,_,_⟩:=f_y ca;refine dR z z (fd f_54_0 z)<|dR z z (l1 g_9 z (a_y nm0<|zap (a_T<|lt_ s9.s s7.s) cb)<|c9.at (j:=0) z)<|d_X ?_ ?_
    ·have aW:=a0.e s8;obtain ⟨a2,_,cc,bG⟩:=a_t aO;refine dE z z (fc call27 z<|W_w20 cc (zt' Y<|lt_ (lt_ (lt_ (lt_ hq sa.s) s9.s) s7.s) s8.s) (W.g aW) (ae.g aW) aV) (.inr fun _ _ h=>w_<|h.1) ?_;rintro _ aX ⟨aY,aZ,b0,b1,cd,b2,b3,b4,ce,rfl,cf,b5,b6,az,b7⟩;refine dM z z z<|dR z z (ext_ z z)<|dR z z (ext_ z z)<|dE z z (fa a_6) (.inr fun _ _ h=>w_<|h.2.below) ?_
     rintro _ cg ⟨rfl,b8⟩;have aA:=b8.below;have aB:=m1<|lt_ s8.s aY.s
     refine dE0 z (fs0 (cur':=[vI a2.number,sl aZ b0 b1,sl b2 b3 b4]) i_ z z (b8.blk:Blk cg aX.z [vI 0,sl none 0 0,sl none 0 0]) z z z z) (.inr fun _ _ h=>c_v (atp aB) h.2) ?_;rintro _ _ ⟨ch,ci⟩;have aC:=ci.one;refine dQ z z z<|pD ?_
     have b9:=mnr<|a_.lt b5
     have ba:=mnr<|a_.lt b6
     exact fun _ q=>⟨a2.number,a2.bytes,a2.items,som bG,aZ,b0,b1,cd,b2,b3,b4,ce,aX.z,q.k<|s6 z z z z z z,bM (bup (bup s8 aY) aA) aC aB,cf,(b5.e aA).c aC<|ds b9,nl_ az,l_ (al_ b7) s8.s,(b6.e aA).c aC<|ds ba,nr_ az,l_ (ar_ b7) s8.s,ds<|nj az,ch,atp aB,ds b9,ds ba⟩
    refine dE z z (fa a_6) (.inr fun _ _ h=>w_<|h.2.below) ?_;rintro _ cj ⟨rfl,bb⟩;have a3:=bb.below;have aD:Blk cj aU.z [vI 0,sl none 0 0,sl none 0 0]:=bb.blk;have bc:=(a0.e s8).e a3;obtain ⟨a5,_,ck,bH⟩:=a_t aO;refine dE z z (fc call27 z<|W_w20 ck (zt' Y<|lt_ (lt_ (lt_ (lt_ (lt_ hq sa.s) s9.s) s7.s) s8.s) a3.s) (W.g bc) (ae.g bc) aV) (.inr fun _ _ h=>w_<|h.1) ?_;rintro _ _ ⟨be,bf,bg,bh,cl,bi,bj,bk,cm,rfl,cn,co,cp,aE,a6⟩;refine dM z z z<|dR z z (ext_ z z)<|dR z z (ext_ z z) ?_
    have aF:=m1 s8.s;refine dE0 z (fs0 (cur':=[vI a5.number,sl bf bg bh,sl bi bj bk]) i_ z z (aD.e be) z z z z) (.inr fun _ _ h=>c_v (atp aF) h.2) ?_;rintro _ _ ⟨cq,ct⟩;have aG:=ct.one;refine dQ z z z<|pD ?_
    have bm:=j_ (al_ a6) aD.lt lr;have bn:=lt_ s8.s a3.s;have bo:=j_ (ar_ a6) aD.lt lr;exact fun _ q=>⟨a5.number,a5.bytes,a5.items,som bH,bf,bg,bh,cl,bi,bj,bk,cm,aU.z,q.k<|s6 z z z z z z,bM (bup (bup s8 a3) be) aG aF,cn,co.c aG bm,nl_ aE,l_ (al_ a6) bn,cp.c aG bo,nr_ aE,l_ (ar_ a6) bn,ds<|nj aE,cq,atp aF,bm,bo⟩
   rintro cu cw ⟨a1,an,ao,rfl,ap,aq,ar,Sk,av,aw,ay,Sl,gm,_,si,cx,_,_,_,_,_,_,_,cy,_,_,_⟩;revert cu;refine Wo<|Wq (Wd (X:=noX) 0 (pl_ 16 [13]) mo (by kernel_rfl) fun cA sf _=>dR z z (fd R_ z)<|dR z z (l0 T_ z<|((al.e si).e sf).at z)<|dM z z z<|dM z z z ?_)
   obtain ⟨_,cB,bI⟩:=bdS<|b_B bF;refine dRX z z (at_ (α:=u_) c_j b_p z z z (or_ ((am.e si).e sf)<|a_.lt hd) cB) ?_;rintro _ ⟨_,_,_,rfl,cC,cD,_⟩;obtain ⟨rfl,_,_,_,_⟩:=f_y cD;refine dR z z (fd e_6 z)<|dR z z (l0 g_3 z<|cC.at (j:=1) z) ?_
   obtain ⟨_,cE,bJ⟩:=bdS bI;refine dRX z z (at_ (α:=e_) U_ m_ z z z (W.g<|(a0.e si).e sf) cE) ?_;rintro _ ⟨_,_,_,rfl,cF,cG,_⟩;obtain ⟨_,_,_,_,_,_,_,_,_,_,_,_,rfl,_,_,_,_,_,_,_⟩:=a_m cG;refine dR z z (fd c_K z)<|dR z z (l0 g_9 z<|cF.at (j:=0) z) ?_
   obtain ⟨_,cH,bK⟩:=bdS bJ;refine dR z z (c_g z z cH)<|dR z z (fd b_3 z)<|dR z z (l0 g_3 z<|(cy.e sf).at z) ?_
   obtain ⟨_,cI,bL⟩:=bdS bK;refine dE z z (fc call28 z<|e_L cI (zt' Y<|lt_ (lt_ (lt_ (lt_ (lt_ hq sa.s) s9.s) s7.s) si.s) sf.s) cx) (.inr fun _ _ h=>w_<|h.1) ?_;rintro _ cJ ⟨aH,rfl,_⟩;obtain ⟨cK,a7,bN⟩:=bdS bL;refine dR z z (c_g z z a7)<|dQ z z z<|pD<|Wo<|Wm z<|Rm z ?_
   have aI:=(((hg.e s7).e si).e sf).e aH;have bp:=lt_ (lt_ (lt_ s7.s si.s) sf.s) aH.s;obtain ⟨_,cL,bO⟩:=bdS bN;refine E z (fc call9 z<|j_a (B:=I.z) cL (a_T bp) (or_ aI<|a_.lt hg)<|c_f a7) ?_;rintro _ wb ⟨a8,rfl⟩;refine R z (not_ z)<|Wn ?_
   obtain ⟨cN,aP,bP⟩:=bdS bO;refine Wt (fun a w=>∃(a9:List Str),a9=cN/\∃aa ab ad Sn,Sat 71 [(1,sl A5 N5 C5),(2,pt w0.z),(5,sl aa ab ad),(6,sl au ns cv),(8,vI ((kr:Nat):Int))] a/\Chg (· ∈ G) wb w/\a_ w Sn (sl aa ab ad) a9/\Sn.Nodup/\(∀k∈Sn,k∈G∨wb.z<=k)) ?_ ?_
   ·refine Wc z (fun ah=>?_)<|fun ah=>?_
    ·refine Wg<|RM z z<|E z (fS [(.tmp 67)] b_o z z z (a_c z) (lb z)<|lb z) ?_
     rintro _ bq ⟨rfl,aJ⟩;have aK:=aJ.below;have dd:=a_x aJ<|c_e<|c_f a7
     obtain ⟨cO,cP,bQ⟩:=bdS<|ifT aP ah;refine E z (a_O (α:=Str) b_o cP z z ((aI.e a8).e aK) hh (aJ.blk:Blk bq wb.z [Str.v cK]) (c_e<|c_f a7) an_ G_) ?_;rintro _ cQ ⟨bs,cR,cS,cT,rfl,cU,cV,cW,cX⟩;refine Ra z<|Wl ?_
     exact fun _ q=>⟨cO,som bQ,cR,cS,cT,bs,q.k<|s5 z z z z z,(cM (f_ (cr G wb) aK:Chg (· ∈ G) wb bq) cU (io sr):Chg (· ∈ G) wb cQ),cV,cW,(or2 cX (io sr) an_ (s_ aK.s):∀k∈bs,k∈G∨wb.z<=k)⟩
    exact a_7<|fun _ q=>⟨xc,som<|ifF aP ah,L,O,V,G,q.k<|s5 z z z z z,cr G wb,aI.e a8,hh,io sr⟩
   rintro cY cZ ⟨a9,rfl,aa,ab,ad,Sn,_,d0,d1,d2,d3⟩;revert cY;exact fun _ q=>⟨a9,som bP,aa,ab,ad,Sn,q.k<|s5 z z z z z,(cM (f_ (f_ (f_ (f_ (f_ (cr G I) s7:Chg (· ∈ G) I we) si:Chg (· ∈ G) I cw) sf:Chg (· ∈ G) I cA) aH:Chg (· ∈ G) I cJ) a8:Chg (· ∈ G) I wb) d0 (io sr):Chg (· ∈ G) I cZ),d1,d2,(or1 d3 (io sr) (s_<|lt_ bp a8.s):∀k∈Sn,k∈G∨I.z<=k)⟩
  rintro d4 d5 ⟨xw,rfl,ax,ny,cz,Sj,_,d6,d7,d8,d9⟩;revert d4;refine Wo<|Wg<|Rm z<|R z (inc_ aM (lt_ (a_.len hd) K_) z z)<|Ra z<|Wl ?_
  have bt:∀k∈G,k∈[H.z]∨J.z<=k:=or1 ht (io sr)<|s_ lr;exact fun _ q=>⟨xw,(som bC).symm,⟨ax,ny,cz,Sj,q.k<|s5 z z z z z,(cM (cM (cr [H.z] J) s9 (io sr):Chg (· ∈ [H.z]) J I) d6 bt:Chg (· ∈ [H.z]) J d5),d7,d8,(or1 d9 bt (s_ s9.s):∀k∈Sj,k∈[H.z]∨J.z<=k)⟩⟩
 ·rintro xc _ da ⟨L,O,V,G,bR,bu,hg,hh,ht⟩;refine Wu ?_ bR;refine Wq<|Wm z<|Rm z<|R z (lnR c_j z<|or_ (hd.c bu<|b_e aS (a_.lt aj) lr)<|a_.lt hd)<|Rl z z z<|Wx z (fun hc=>(a_3 hc).elim) (fun _=>?_)
  exact We<|fun _ q=>⟨rfl,⟨L,O,V,G,q.k<|s1 z,(cM (cr [H.z] J) bu (io sr):Chg (· ∈ [H.z]) J da),hg,hh,(or1 ht (io sr) (s_ lr):∀k∈G,k∈[H.z]∨J.z<=k)⟩⟩
 ·rintro xc db _ rfl ⟨L,O,V,G,_,dc,hg,hh,ht⟩;have bS:=elL aL;revert db;refine Wo<|Wm z<|Rw z ?_
  obtain rfl:=som bS;have bv:=m1 ho.s;exact Wr<|h_ hr z ⟨bM (bup (bup ho sp) sa) dc bv,L,O,V,G,z,hg,hh,a_i ht bv<|lt_ hq sa.s⟩
 rintro _ _ _ _ rfl ⟨rfl,bT⟩;have bU:=elR aL;obtain rfl:=som bU;exact ⟨bT,z⟩
theorem W_w3c {x1:List Str}{x2:List Str}{res:Bool}(hm:f_o x1 x2=some res)(a0:B<=w0.z)(G:repS w0 B (sl A0 N0 C0) x1)(L:repS w0 B (sl A5 N5 C5) x2):n_ prog 11 [sl A0 N0 C0,sl A5 N5 C5] w0 (Q0 w0 B res):=by
 unfold f_o at hm
 refine goG func11 z z z fun fn hr=>Ws<|Rw z<|Wq<|Wm z<|R z (lnR a_j z G)<|Rm z<|R z (lnR a_j z L)<|R z (nq z z)<|Wx z (fun I=>?_) (fun I=>?_)
 ·refine Ws<|Rw z ?_
  obtain rfl:=som<|ifT hm I;exact Wr<|h_ hr z ⟨br w0,z⟩
 refine Wk<|Wq<|Ws<|Rw z ?_
 obtain ⟨_,hua,O⟩:=bdS<|ifF hm I;refine Wf (σ:=Unit) (ρ:=Bool) (fun (k5:Nat)(_:Unit) a w=>Sat 26 [(0,sl A0 N0 C0),(1,sl A5 N5 C5),(5,vI ((k5:Nat):Int))] a/\Below w0.z w0 w) (fun (_:Unit) a w=>Sat 26 [] a/\Below w0.z w0 w) (rQ prog fn<|Q0 w0 B) hua ?_ ?_ ?_ ?_ ?_
 ·exact fun _ q=>⟨q.k<|s3 z z z,br w0⟩
 ·rintro k5 _ _ _ _ V ⟨hSb,H⟩ hmc;refine Wu ?_ hSb;refine Wq<|Wm z<|Rm z<|R z (lnR a_j z<|G.e H)<|Rl z z z<|Wx z (fun _=>?_) (fun hc=>(a_2 V hc).elim)
  refine Wk<|Wq<|Wb<|Wq (Wd (X:=noX) 0 (pl_ 9 []) mo (by kernel_rfl) fun wu s2 _=>dM z z z<|dM z z z ?_)
  obtain ⟨_,ed,hme⟩:=bdS hmc;have Y:=(H.ag B).e s2;refine dRX z z (at_ (α:=Str) a_j z_9 z z z (G.g Y) ed) ?_;rintro _ ⟨_,_,_,rfl,hf,hg,_⟩;obtain ⟨rfl,_⟩:=b_K hg;refine dR z z (l0 g_9 z<|hf.at0 z)<|dM z z z<|dM z z z ?_
  obtain ⟨_,eh,W⟩:=bdS hme;refine dRX z z (at_ (α:=Str) a_j z_9 z z z (L.g Y) eh) ?_;rintro _ ⟨_,_,_,rfl,hi,hj,_⟩;obtain ⟨rfl,_⟩:=b_K hj;refine dR z z (l0 g_9 z<|hi.at0 z)<|dR z z (j_H z z)<|pD<|Wo<|Wc z (fun J=>?_) (fun J=>?_)
  ·exact Ws<|Rw z<|Wr<|rtO<|qL (som<|ifT W J).symm<|h_ hr z ⟨bup H s2,z⟩
  exact Wk<|Wg<|Rm z<|R z (inc_ V (lt_ (repS.len G) K_) z z)<|Ra z<|Wl (fun _ q=>⟨(),(som<|ifF W J).symm,⟨q.k<|s3 z z z,bup H s2⟩⟩)
 ·rintro _ _ _ ⟨hSk,s9⟩;refine Wu ?_ hSk;refine Wq<|Wm z<|Rm z<|R z (lnR a_j z<|G.e s9)<|Rl z z z<|Wx z (fun hc=>(a_3 hc).elim) (fun _=>?_)
  exact We<|fun _ q=>⟨rfl,⟨q.k sn,s9⟩⟩
 ·rintro _ al _ rfl ⟨_,sm⟩;have hmn:=elL O;revert al;refine Wo<|Ws<|Rw z ?_
  obtain rfl:=som hmn;exact Wr<|h_ hr z ⟨sm,z⟩
 rintro _ _ _ _ rfl ⟨rfl,hqo⟩;have hmp:=elR O;obtain rfl:=som hmp;exact ⟨hqo,z⟩
def i_4 (w0:World)(B:Zone)(r:Bool)(v:Value)(w':World):Prop:=Bw w0 w'/\(fun G=>(vB G)=v) r
theorem o_e {x1:List UInt8}{res:Bool}(hm:f_p n x1=some res)(aj:B<=w0.z)(hG:Gl w0 B)(aD:repS w0 B (sl A0 N0 C0) x1):n_ prog 3 [sl A0 N0 C0] w0 (i_4 w0 B res):=by
 unfold f_p at hm
 refine goG func3 z z z fun fn hr=>Ws<|Rw z<|Wq<|Wm z ?_
 obtain ⟨_,c5,aE⟩:=bdS hm;refine E z (fc call4 z<|W_w21 (B:=B) c5 aj aD) ?_;rintro _ _ ⟨sh,rfl⟩;refine Wx z (fun ae=>?_) (fun ae=>?_)
 ·refine Ws<|Rw z ?_
  obtain rfl:=som<|ifT aE ae;exact Wr<|h_ hr z ⟨sh,z⟩
 refine Wk<|Wm z ?_
 obtain ⟨_,_,c6,c7,bt⟩:=v_<|ifF aE ae;refine E z (fc call5 z<|W_w2k c7 (zt' aj sh.s)<|aD.e sh) ?_;rintro _ L ⟨a3,ax,ny,cz,_,ai,nj,ck,_,al,nm,cn,_,rfl,ho,a4,ak,_,_⟩;refine Rm z ?_
 iterate 3 refine Re z z z ?_
 refine E z (fa f_K) ?_;rintro _ c8 ⟨rfl,aT⟩;have hp:=aT.below;refine E0 (fs0 (cur':=[sl ax ny cz]) q_ z z (aT.blk:Blk c8 L.z [sl none 0 0]) z z z z) ?_;rintro _ _ ⟨aU,c9⟩;have hq:=c9.one;refine Ra z<|Rw z<|Ws<|R z (lN (vs:=[sl ax ny cz]) t_ q_ z z fid<|aU.row 0 1 z)<|Rm z ?_
 have aV:=(ho.e hp).c hq<|ds<|mnr<|a_.lt ho
 have aW:=(a4.e hp).c hq<|ds<|mnr<|a_.lt a4
 have a6:=lt_ sh.s a3.s;have am:=zt' aj a6;have aX:=(((hG.e sh).e a3).e hp).c hq<|b_ (or0 (c_ lr) (k_ am):∀k∈[L.z],¬B k)
 have aY:=lt_ hp.s hq.s;obtain ⟨ca,cb,bu⟩:=bdS bt;refine E z (fc call6 z<|W_w2w (B:=L.z) cb (a_T aY) (aX.mono am) (or_ aV<|a_.lt ho)<|or_ aW<|a_.lt a4) ?_;rintro _ wr ⟨sg,au,nt,cv,_,rfl,G,_,_⟩;refine Rw z<|Ws<|Rw z<|Wq<|Ws<|Rw z ?_
 obtain ⟨_,bv,aF⟩:=bdS bu;refine Wf (σ:=Int) (ρ:=Bool) (fun (aZ:Nat)(x2:Int) a w=>Sat 119 [(3,pt L.z),(4,sl ai nj ck),(5,sl al nm cn),(6,sl au nt cv),(7,vI x2),(8,vI ((aZ:Nat):Int))] a/\Below wr.z wr w/\inI x2) (fun (x2:Int) a w=>Sat 119 [(3,pt L.z),(4,sl ai nj ck),(5,sl al nm cn),(6,sl au nt cv),(7,vI x2)] a/\Below wr.z wr w/\inI x2) (rQ prog fn<|i_4 w0 B) bv ?_ ?_ ?_ ?_ ?_
 ·exact fun _ q=>⟨q.k<|s6 z z z z z z,br wr,ii z⟩
 ·rintro aZ x2 _ _ _ aG ⟨bw,b0,an⟩ bx;refine Wu ?_ bw;refine Wq<|Wm z<|Rm z ?_
  have b1:=G.e b0;refine R z (lnR o_ z<|or_ b1<|a_.lt G)<|Rl z z z<|Wx z (fun _=>?_) (fun hc=>(a_2 aG hc).elim)
  refine Wk<|Wq<|Wb<|Wg<|RM z z<|Rm z ?_
  obtain ⟨cc,cd,bz⟩:=bdS bx;refine RX z (at_ (α:=Int) o_ z_3 z z z (or_ b1<|a_.lt G) cd) ?_;rintro _ ⟨_,_,_,rfl,ce,cf,_⟩;obtain ⟨rfl,_⟩:=M_ cf;exact R z (l0 g_3 z<|ce.at0 z)<|R z (add_ z z)<|Rw z<|Wg<|Rm z<|R z (inc_ aG (lt_ (a_.len G) K_) z z)<|Ra z<|Wl (fun _ q=>⟨g_ x2 cc,(som bz).symm,⟨q.k<|s6 z z z z z z,b0,iA _ _⟩⟩)
 ·rintro x2 _ _ ⟨bA,b2,an⟩;refine Wu ?_ bA;refine Wq<|Wm z<|Rm z<|R z (lnR o_ z<|or_ (G.e b2)<|a_.lt G)<|Rl z z z<|Wx z (fun hc=>(a_3 hc).elim) (fun _=>?_)
  exact We<|fun _ q=>⟨rfl,⟨q.k<|s5 z z z z z,b2,an⟩⟩
 ·rintro x2 cg _ rfl ⟨_,sa,an⟩;have bB:=elL aF;revert cg;refine Wo<|Ws ?_
  have b3:=(aU.e sg).e sa;refine R z (lN (vs:=[sl ax ny cz]) t_ q_ z z fid<|b3.row 0 1 z)<|Rm z ?_
  have b4:=(aV.e sg).e sa;have b5:=G.e sa;have ao:=lt_ aY sg.s;obtain ⟨W,ch,bC⟩:=bdS bB;refine E z (fc call7 z<|W_w2x (B:=wr.z) ch (a_T sa.s) (repS.mono (or_ b4<|a_.lt ho)<|a_T ao)<|or_ b5<|a_.lt G) ?_;rintro _ _ ⟨sd,rfl,_⟩;refine Rw z<|Ws ?_
  have ap:=b3.e sd;refine R z (lN (vs:=[sl ax ny cz]) t_ q_ z z fid<|ap.row 0 1 z)<|Rm z ?_
  have aq:=b4.e sd;have a7:=b5.e sd;have b6:=lt_ sa.s sd.s;obtain ⟨ci,cj,bD⟩:=bdS bC;refine E z (fc call8 z<|W_w2y (B:=wr.z) cj (a_T b6) (repS.mono (or_ aq<|a_.lt ho)<|a_T ao)<|or_ a7<|a_.lt G) ?_;rintro _ Y ⟨s3,a0,a1,a2,_,rfl,a8,_,_⟩;refine Rw z<|Wq<|Ws<|Rw z ?_
  obtain ⟨_,bE,aH⟩:=bdS bD;refine Wf (σ:=Unit) (ρ:=Bool) (fun (ar:Nat)(_:Unit) a w=>Sat 119 [(3,pt L.z),(4,sl ai nj ck),(5,sl al nm cn),(6,sl au nt cv),(7,vI x2),(9,vI W),(10,sl a0 a1 a2),(11,vI ((ar:Nat):Int))] a/\Below Y.z Y w) (fun (_:Unit) a w=>Sat 119 [(3,pt L.z),(4,sl ai nj ck),(5,sl al nm cn),(6,sl au nt cv),(7,vI x2),(9,vI W),(10,sl a0 a1 a2)] a/\Below Y.z Y w) (rQ prog fn<|i_4 w0 B) bE ?_ ?_ ?_ ?_ ?_
  ·exact fun _ q=>⟨q.k<|s8 z z z z z z z z,br Y⟩
  ·rintro ar _ _ av _ aI ⟨bF,sw⟩ bG;refine Wu ?_ bF;refine Wq<|Wm z<|Rm z ?_
   have b7:=(a7.e s3).e sw;refine R z (lnR o_ z<|or_ b7<|a_.lt G)<|Rl z z z<|Wx z (fun _=>?_) (fun hc=>(a_2 aI hc).elim)
   refine Wk<|Wq<|Wb<|Wq ?_
   obtain ⟨cl,bH,aJ⟩:=bdS bG;refine Wt (fun a w=>∃(aw:Bool),aw=cl/\Sat 119 [(3,pt L.z),(4,sl ai nj ck),(5,sl al nm cn),(6,sl au nt cv),(7,vI x2),(9,vI W),(10,sl a0 a1 a2),(11,vI ((ar:Nat):Int)),(63,vB aw)] a/\Below av.z av w) ?_ ?_
   ·refine Wg<|RM z z ?_
    obtain ⟨cm,co,aK⟩:=bdS bH;refine RX z (at_ (α:=Int) o_ z_3 z z z (or_ b7<|a_.lt G) co) ?_;rintro _ ⟨_,_,_,rfl,cp,cq,_⟩;obtain ⟨rfl,_⟩:=M_ cq;refine R z (l0 g_3 z<|cp.at0 z)<|R z (a_e z z)<|Rm z ?_
    rcases bs (decide<|0<cm) with I | I
    ·refine Rh z I (mv z)<|Rh z I (fd R_ z)<|Rh z I (l0 T_ z<|((ap.e s3).e sw).at z)<|Rh z I (mv z) ?_
     obtain ⟨_,cr,bI⟩:=bdS<|ifT aK I;refine RXg z z I z (at_ (α:=e_) U_ m_ z z z (or_ ((aq.e s3).e sw)<|a_.lt ho) cr) ?_;rintro _ ⟨_,_,_,rfl,ct,cu,_⟩;obtain ⟨_,_,_,_,_,_,_,_,_,_,_,_,rfl,cw,_,_,_,_,_,_⟩:=a_m cu;refine Rh z I (fd c_K z)<|Rh z I (l0 g_9 z<|ct.at (j:=0) z) ?_
     obtain ⟨cx,cy,bJ⟩:=bdS bI;refine Eg z z I z (fc call9 z<|j_a (B:=Y.z) cy (a_T sw.s) (or_ (a8.e sw)<|a_.lt a8) cw) ?_;rintro _ _ ⟨cA,rfl⟩;exact R z (pT z I z)<|Wl (fun _ q=>⟨cx,som bJ,q.k<|s9 z z z z z z z z z,cA⟩)
    iterate 8 refine Nh z I ?_
    exact R z (pF z I z)<|Wl (fun _ q=>⟨false,som<|ifF aK I,q.k<|s9 z z z z z z z z z,br av⟩)
   rintro cB _ ⟨aw,rfl,_,b8⟩;revert cB;refine Wo<|Wc z (fun af=>?_) (fun af=>?_)
   ·exact Ws<|Rw z<|Wr<|rtO<|qL (som<|ifT aJ af).symm<|h_ hr z ⟨bup (bup (bup (bup (bup (bup (bM (bup (bup sh a3) hp) hq<|m1 a6) sg) sa) sd) s3) sw) b8,z⟩
   exact Wk<|Wg<|Rm z<|R z (inc_ aI (lt_ (a_.len G) K_) z z)<|Ra z<|Wl (fun _ q=>⟨(),(som<|ifF aJ af).symm,⟨q.k<|s8 z z z z z z z z,bup sw b8⟩⟩)
  ·rintro _ _ _ ⟨bK,b9⟩;refine Wu ?_ bK;refine Wq<|Wm z<|Rm z<|R z (lnR o_ z<|or_ ((a7.e s3).e b9)<|a_.lt G)<|Rl z z z<|Wx z (fun hc=>(a_3 hc).elim) (fun _=>?_)
   exact We<|fun _ q=>⟨rfl,⟨q.k<|s7 z z z z z z z,b9⟩⟩
  ·rintro _ cC _ rfl ⟨_,se⟩;have bL:=elL aH;revert cC;refine Wo<|Wm z<|Rm z ?_
   have a9:=(a7.e s3).e se;obtain ⟨cD,cE,bN⟩:=bdS bL;refine E z (fc call10 z<|W_w32 (B:=wr.z) cE (a_T<|lt_ (lt_ b6 s3.s) se.s) (or_ a9<|a_.lt G)<|or_ a9<|a_.lt G) ?_;rintro _ a5 ⟨sf,ba,bb,bc,_,rfl,ay,_,_⟩;refine Rw z<|Wq<|Ws<|Rw z ?_
   obtain ⟨_,bO,aL⟩:=bdS bN;refine Wf (σ:=Unit) (ρ:=Bool) (fun (az:Nat)(_:Unit) a w=>Sat 119 [(3,pt L.z),(4,sl ai nj ck),(5,sl al nm cn),(6,sl au nt cv),(7,vI x2),(9,vI W),(10,sl a0 a1 a2),(12,sl ba bb bc),(13,vI ((az:Nat):Int))] a/\Below a5.z a5 w) (fun (_:Unit) a w=>Sat 119 [(3,pt L.z),(4,sl ai nj ck),(5,sl al nm cn),(7,vI x2),(9,vI W),(10,sl a0 a1 a2)] a/\Below a5.z a5 w) (rQ prog fn<|i_4 w0 B) bO ?_ ?_ ?_ ?_ ?_
   ·exact fun _ q=>⟨q.k<|s9 z z z z z z z z z,br a5⟩
   ·rintro az _ _ be _ aM ⟨bP,aa⟩ bQ;refine Wu ?_ bP;refine Wq<|Wm z<|Rm z ?_
    have bf:=(a9.e sf).e aa;refine R z (lnR o_ z<|or_ bf<|a_.lt G)<|Rl z z z<|Wx z (fun _=>?_) (fun hc=>(a_2 aM hc).elim)
    refine Wk<|Wq<|Wb<|Wq ?_
    obtain ⟨cF,aN,aO⟩:=bdS bQ;refine Wt (fun a w=>∃(aA:Bool),aA=cF/\Sat 119 [(3,pt L.z),(4,sl ai nj ck),(5,sl al nm cn),(6,sl au nt cv),(7,vI x2),(9,vI W),(10,sl a0 a1 a2),(12,sl ba bb bc),(13,vI ((az:Nat):Int)),(89,vB aA)] a/\Below be.z be w) ?_ ?_
    ·refine Wd (X:=noX) 0 (pl_ 17 []) mo (by kernel_rfl) fun d0 ab _=>dM z z z ?_
     have bg:=(ay.e aa).e ab;refine dR z z (lnR o_ z<|or_ bg<|a_.lt ay)<|dM z z z ?_
     have bh:=bf.e ab;refine dR z z (lnR o_ z<|or_ bh<|a_.lt G)<|dR z z (nq z z)<|dM z z z ?_
     rcases bs ((cD.length:Int) != (ca.length:Int)) with H | H
     ·iterate 10 refine dRn z z z H z ?_
      exact dR z z (pT z H z)<|pD (fun _ q=>⟨true,som<|ifT aN H,q.k<|sc z<|sc z<|sc z<|sc z<|sc z<|sc z<|sc z<|sc z<|sc z<|sc z sn,ab⟩)
     refine dRg z z z H z (mv z)<|dRg z z z H z (mv z) ?_
     obtain ⟨cG,cH,bR⟩:=bdS<|ifF aN H;refine b_L z z z H z (at_ (α:=Int) o_ z_3 z z z (or_ bg<|a_.lt ay) cH) ?_;rintro _ ⟨_,_,_,rfl,cI,cJ,_⟩;obtain ⟨rfl,_⟩:=M_ cJ;refine dRg z z z H z (l0 g_3 z<|cI.at0 z)<|dRg z z z H z (mv z)<|dRg z z z H z (mv z) ?_
     obtain ⟨cK,cL,bS⟩:=bdS bR;refine b_L z z z H z (at_ (α:=Int) o_ z_3 z z z (or_ bh<|a_.lt G) cL) ?_;rintro _ ⟨_,_,_,rfl,cM,cN,_⟩;obtain ⟨rfl,_⟩:=M_ cN;exact dRg z z z H z (l0 g_3 z<|cM.at0 z)<|dRg z z z H z (c_m z z)<|dRg z z z H z (nq z z)<|dR z z (pF z H z)<|pD (fun _ q=>⟨cG != (a_1 2 cK),som bS,q.k<|sc z<|sc z<|sc z<|sc z<|sc z<|sc z<|sc z<|sc z<|sc z<|sc z sn,ab⟩)
    rintro cO _ ⟨aA,rfl,_,bi⟩;revert cO;refine Wo<|Wc z (fun ah=>?_) (fun ah=>?_)
    ·exact Ws<|Rw z<|Wr<|rtO<|qL (som<|ifT aO ah).symm<|h_ hr z ⟨bup (bup (bup (bup (bup (bup (bup (bup (bM (bup (bup sh a3) hp) hq<|m1 a6) sg) sa) sd) s3) se) sf) aa) bi,z⟩
    exact Wk<|Wg<|Rm z<|R z (inc_ aM (lt_ (a_.len G) K_) z z)<|Ra z<|Wl (fun _ q=>⟨(),(som<|ifF aO ah).symm,⟨q.k<|s9 z z z z z z z z z,bup aa bi⟩⟩)
   ·rintro _ _ _ ⟨bT,bj⟩;refine Wu ?_ bT;refine Wq<|Wm z<|Rm z<|R z (lnR o_ z<|or_ ((a9.e sf).e bj)<|a_.lt G)<|Rl z z z<|Wx z (fun hc=>(a_3 hc).elim) (fun _=>?_)
    exact We<|fun _ q=>⟨rfl,⟨q.k<|s6 z z z z z z,bj⟩⟩
   ·rintro _ cP bk rfl ⟨_,ss⟩;have bU:=elL aL;revert cP;refine Wo<|Wq ?_
    obtain ⟨cQ,aP,bV⟩:=bdS bU;refine Wt (fun a w=>∃(aB:Bool),aB=cQ/\Sat 119 [(2,vB aB)] a/\Below bk.z bk w) ?_ ?_
    ·refine Wd (X:=noX) 0 (.rd 0<|.rd 1<|.rd 2<|.rd 3<|.rd 4<|.rd 5<|.rd 6<|.rd 7<|.rd 8<|.rd 9<|.rd 10<|.rd 11<|.rd 12<|.rd 13<|.rd 14<|.rd 15<|.rd 16<|.rd 17<|.rd 18<|.rd 19<|.rd 20<|.rd 21<|.rd 22<|.rd 24<|.rd 25<|.ef 23<|.ef 26<|.ef 27<|.rd 28<|.rd 29 .done) mo (by kernel_rfl) fun d1 sb _=>dM z z z<|dM z z z<|dR z z (lnR c_j z<|or_ ((((((((((ak.e hp).c hq<|ds<|mnr<|a_.lt ak).e sg).e sa).e sd).e s3).e se).e sf).e ss).e sb)<|a_.lt ak)<|dR z z (eql z z)<|dM z z z ?_
     rcases bs (x2==(c6.length:Int)) with V | V
     ·have aQ:=ifT aP V;refine dRg z z z V z (mv z)<|dRg z z z V z (b_i z z)<|dR z z (pT z V z)<|dM z z z ?_
      rcases bs (decide<|0<=W) with hcc | hcc
      ·have aR:=ifT aQ hcc;refine dRg z z z hcc z (mv z)<|dRg z z z hcc z (b_C z z)<|dR z z (pT z hcc z)<|dM z z z ?_
       rcases bs (decide<|W<=100) with O | O
       ·have aS:=ifT aR O;refine dRg z z z O z (mv z)<|dRg z z z O z (eql z z)<|dRg z z z O z (mv z)<|dRg z z z O z (lnR a_j z<|or_ ((((a8.e se).e sf).e ss).e sb)<|a_.lt a8)<|dRg z z z O z (eql z z)<|dRg z z z O z (o_F d_4 z z)<|dR z z (pT z O z)<|dM z z z ?_
        rcases bs ((W==100)==((ci.length:Int)==0)) with J | J
        ·have bm:=((((ap.e s3).e se).e sf).e ss).e sb;refine dRg z z z J z (lN (vs:=[sl ax ny cz]) t_ q_ z z fid<|bm.row 0 1 z)<|dRg z z z J z (mv z)<|dRg z z z J z (lN (vs:=[sl ax ny cz]) t_ q_ z z fid<|bm.row 0 1 z)<|dRg z z z J z (mv z) ?_
         have bn:=((((aq.e s3).e se).e sf).e ss).e sb;have bo:=(((((((aW.e sg).e sa).e sd).e s3).e se).e sf).e ss).e sb;have bp:=lt_ (lt_ (lt_ (lt_ (lt_ (lt_ (lt_ ao sa.s) sd.s) s3.s) se.s) sf.s) ss.s) sb.s;obtain ⟨_,cR,bW⟩:=bdS<|ifT aS J;refine dEg z z z J z (fc call12 z<|W_w33 (B:=L.z) cR (a_T bp) (((((((((aX.e sg).e sa).e sd).e s3).e se).e sf).e ss).e sb).mono am) (or_ bn<|a_.lt ho)<|or_ bo<|a_.lt a4) (.inr fun _ _ h=>w_<|h.1) ?_;rintro _ _ ⟨ad,_,_,_,_,rfl,bq,_,_⟩;obtain ⟨_,cS,bX⟩:=bdS bW;refine dEg z z z J z (fc call13 z<|W_w3b (B:=L.z) cS (a_T<|lt_ bp ad.s) (or_ (bn.e ad)<|a_.lt ho)<|or_ (bo.e ad)<|a_.lt a4) (.inr fun _ _ h=>w_<|h.1) ?_;rintro _ cT ⟨aC,_,_,_,_,rfl,cU,_,_⟩;obtain ⟨cV,cW,bY⟩:=bdS bX;refine dEg z z z J z (fc call11 z<|W_w3c (B:=cT.z) cW zr (repS.mono (or_ (bq.e aC)<|a_.lt bq)<|a_T aC.s)<|a_.rep cU) (.inr fun _ _ h=>w_<|h.1) ?_;rintro _ _ ⟨cX,rfl⟩;exact dR z z (pT z J z)<|dQ z z z<|pD (fun _ q=>⟨cV,som bY,q.k<|s1 z,bup (bup (bup sb ad) aC) cX⟩)
        iterate 4 refine dRn z z z J z ?_
        iterate 3 refine dEn z z z J z ?_
        exact dR z z (pF z J z)<|dQ z z z<|pD (fun _ q=>⟨false,som<|ifF aS J,q.k<|s1 z,sb⟩)
       iterate 6 refine dRn z z z O z ?_
       refine dR z z (pF z O z)<|dM z z z ?_
       iterate 4 refine dRn z z z z z ?_
       iterate 3 refine dEn z z z z z ?_
       exact dR z z (pF z z z)<|dQ z z z<|pD (fun _ q=>⟨false,som<|ifF aR O,q.k<|s1 z,sb⟩)
      refine dRn z z z hcc z<|dRn z z z hcc z<|dR z z (pF z hcc z)<|dM z z z ?_
      iterate 6 refine dRn z z z z z ?_
      refine dR z z (pF z z z)<|dM z z z ?_
      iterate 4 refine dRn z z z z z ?_
      iterate 3 refine dEn z z z z z ?_
      exact dR z z (pF z z z)<|dQ z z z<|pD (fun _ q=>⟨false,som<|ifF aQ hcc,q.k<|s1 z,sb⟩)
     refine dRn z z z V z<|dRn z z z V z<|dR z z (pF z V z)<|dM z z z<|dRn z z z z z<|dRn z z z z z<|dR z z (pF z z z)<|dM z z z ?_
     iterate 6 refine dRn z z z z z ?_
     refine dR z z (pF z z z)<|dM z z z ?_
     iterate 4 refine dRn z z z z z ?_
     iterate 3 refine dEn z z z z z ?_
     exact dR z z (pF z z z)<|dQ z z z<|pD (fun _ q=>⟨false,som<|ifF aP V,q.k<|s1 z,sb⟩)
    rintro cY _ ⟨aB,rfl,_,cZ⟩;revert cY;refine Wo ?_;obtain rfl:=som bV;exact Wr<|h_ hr z ⟨bup (bup (bup (bup (bup (bup (bup (bup (bM (bup (bup sh a3) hp) hq<|m1 a6) sg) sa) sd) s3) se) sf) ss) cZ,z⟩
   rintro _ _ _ _ rfl ⟨rfl,bZ⟩;have c0:=elR aL;obtain rfl:=som c0;exact ⟨bZ,z⟩
  rintro _ _ _ _ rfl ⟨rfl,c1⟩;have c2:=elR aH;obtain rfl:=som c2;exact ⟨c1,z⟩
 rintro _ _ _ _ rfl ⟨rfl,c3⟩;have c4:=elR aF;obtain rfl:=som c4;exact ⟨c3,z⟩
end Go.Vw
