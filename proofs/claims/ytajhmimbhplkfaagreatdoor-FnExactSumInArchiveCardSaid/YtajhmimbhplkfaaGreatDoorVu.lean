
import Derived.Test.YtajhmimbhplkfaaGreatDoorVt
set_option linter.unusedVariables false
namespace Go.Vw
open Go.RowKit Dat Go.Proofs
open Go.Proofs.Tryz
open Go.Vw renaming a_i->Wq,a_H->Wg,WC.of_KC->Wo,a_l->Wl,c_b->Wc,c_L->Wr,g_2->Wu,j_u->pT,j_v->pF,h_j->fd,b_H->l1,j_H->lN,b_7->mv,c_S->asg,f_V->lnR,f_i->lss,h_n->eql,h_k->ext_,j_w->bP,h_l->add_,f_U->inc_,d_G->not_,f_W->at_,e_y->fc,a_X->fs,e_x->fb,d_D->fa,j_o->sr,j_s->cr,j_t->cM,c_n->bM,j_g->iS,j_f->iA,j_i->br,b_4->oA,j_k->bs,ltge->lg,inor->io,g_a->nq,j_J->lnT,j_K->sb_,j_m->ar_,j_l->al_,j_n->ds,k_J->m1,j_q->nr_,j_p->nl_,h_a->aa_,all_nil->an_,d_h->Wb,h_9->u8,j_d->pD,f_Q->We,j_h->Wt,f_S->fS,f_a->or_,j_F->Wf,j_B->qL,j_c->Wd,h_c->fN,h_b->na_,j_r->nj,e_z->f0,f_X->rX,j_x->tl_,j_y->ic
variable {A0:Option Addr}{N0 C0:Nat}{B:Zone}{w0:World}{A9:Option Addr}{A8:Option Addr}{AA:Option Addr}{AB:Option Addr}{N9 C9:Nat}{N8 C8:Nat}{NA CA:Nat}{NB CB:Nat}{A1:Option Addr}{N1 C1:Nat}{n:Nat}{AD:Option Addr}{ND CD:Nat}{A3:Option Addr}{N3 C3:Nat}{AH:Option Addr}{NH CH:Nat}{A4:Option Addr}{A5:Option Addr}{A2:Option Addr}{A6:Option Addr}{N4 C4:Nat}{N5 C5:Nat}{N2 C2:Nat}{N6 C6:Nat}{A7:Option Addr}{N7 C7:Nat}{AE:Option Addr}{NE CE:Nat}{AK:Option Addr}{AL:Option Addr}{NK CK:Nat}{NL CL:Nat}{AC:Option Addr}{NC CC:Nat}
theorem W_w31 {x1:e_}{x2:List UInt8}{res:Val×Int×Int}(hm:i_6 n x1 x2=some res)(hBw:B<=w0.z)(p1_0:repS w0 B (sl A0 N0 C0) x1.rules)(p2_0:repS w0 B (sl A3 N3 C3) x2):h_ prog 38 [(.agg #[sl A0 N0 C0]),sl A3 N3 C3] w0 (Q17 w0 B res):=by
 unfold i_6 at hm
 refine goF func38 z z (lb z) fun fn hr=>Ws<|E z (fb z) ?_
 rintro _ wl ⟨rfl,al⟩;have h2:=al.below;have hv:Blk wl w0.z [sl A0 N0 C0]:=al.blk;refine E z (fa a_s) ?_;rintro _ I ⟨rfl,am⟩;have h1:=am.below;have hn:Blk I wl.z [vI 0,sl none 0 0,sl none 0 0]:=am.blk;refine Ra z<|Rw z<|Wq ?_
 obtain ⟨bj,af,be⟩:=bdS hm;refine Wt (fun a w=>∃(xb:Int)(xw:List UInt8)(xx:List Val)(xc:Int)(xd:Int),(xb,xw,xx,xc,xd)=bj/\∃ae nf cg J ah ni cj L O,Sat 32 [(1,sl A3 N3 C3),(4,pt wl.z),(7,pt O),(8,vI xc),(9,vI xd)] a/\Below I.z I w/\inI xb/\a_ w J (sl ae nf cg) xw/\J.Nodup/\(∀k∈J,I.z<=k)/\a_ w L (sl ah ni cj) xx/\L.Nodup/\(∀k∈L,I.z<=k)/\(∀k∈L,k∉J)/\inI xc/\inI xd/\Blk w O [vI xb,sl ae nf cg,sl ah ni cj]/\I.z<=O/\(∀k∈J,k∉[O])/\(∀k∈L,k∉[O])) ?_ ?_
 ·refine Wd (X:=fun k=>k∈([]:List Nat)∨I.z<=k) 0 (.rd 0<|.rd 1<|.rd 3<|.br 2 (.br 4 (.rd 5<|.rd 6<|.rd 7<|.rd 8<|.ef 9<|.ef 10<|.rd 11<|.rd 12 .done) 9<|.ef 4<|.rd 5<|.rd 6<|.rd 7<|.rd 8<|.ef 10<|.rd 11<|.rd 12 .done) 9<|.ef 2<|.ef 4<|.rd 5<|.rd 6<|.rd 7<|.rd 8<|.ef 10<|.rd 11<|.rd 12 .done) mo (by kernel_rfl) fun an G _=>?_
  have ao:=(hv.e h1).e G;refine dR z z (lN (vs:=[sl A0 N0 C0]) J_ E_ z z (e_6 nm0<|Nat.lt_of_lt_of_le hv.lt h1.s)<|ao.row 0 1 z)<|dR z z (lN (vs:=[sl A0 N0 C0]) J_ E_ z z (e_6 nm0<|Nat.lt_of_lt_of_le hv.lt h1.s)<|ao.row 0 1 z)<|dM z z z<|e_u ?_ ?_
  ·have hy:=((h2.ag B).e h1).e G;have hz:=lt_ (lt_ h2.s h1.s) G.s;obtain ⟨_,bk,ai⟩:=bdS af;refine dE z z (fc call65 z<|m_n bk (zt' hBw hz)<|p1_0.g hy) (.inr fun _ _ h=>F_<|h.1) ?_;rintro _ ap ⟨s4,rfl,aq⟩;refine e_u ?_ ?_
   ·have ar:=hy.e s4;obtain ⟨rm,bm,bn,bo,bf⟩:=V_ ai;refine dE z z (fc call98 z<|m_t bo (zt' hBw<|lt_ hz s4.s) (p1_0.g ar) aq (p2_0.g ar)<|ii z) (.inr fun _ _ h=>F_<|h.1) ?_;rintro _ au ⟨av,aw,ax,ay,bp,az,aA,aB,bq,rfl,bt,aC,aD,bu,bv,W,aE⟩;refine dM z z z ?_
    iterate 3 refine dR z z (ext_ z z) ?_
    refine dE z z (fa a_s) (.inr fun _ _ h=>F_<|h.2.below) ?_;rintro _ bw ⟨rfl,aF⟩;have Y:=aF.below;have a0:=lt_ G.s s4.s;have a1:=m1<|lt_ a0 av.s
    refine dE0 z (fs (cur':=[vI rm.number,sl aw ax ay,sl az aA aB]) k_ z z (aF.blk:Blk bw au.z [vI 0,sl none 0 0,sl none 0 0]) z (lb z) (oA z) z) (.inr fun _ _ h=>c_P (atp a1) h.2) ?_;rintro _ _ ⟨bx,bz⟩;have a2:=bz.one;refine dQ z z z<|dQ z z z<|pD ?_
    have aG:=mnr<|a_.lt aC
    have aH:=mnr<|a_.lt aD
    exact fun _ q=>⟨rm.number,rm.bytes,rm.items,bm,bn,som bf,aw,ax,ay,bp,az,aA,aB,bq,au.z,q.k<|s5 z z z z z,bM (bup (bup (bup G s4) av) Y) a2 a1,bt,(aC.e Y).c a2<|ds aG,nl_ W,s_ (al_ aE) a0,(aD.e Y).c a2<|ds aH,nr_ W,s_ (ar_ aE) a0,ds<|nj W,bu,bv,bx,atp a1,ds aG,ds aH⟩
   refine dE z z (fa a_s) (.inr fun _ _ h=>F_<|h.2.below) ?_;rintro _ bA ⟨rfl,aI⟩;have ho:=aI.below;have a3:Blk bA ap.z [vI 0,sl none 0 0,sl none 0 0]:=aI.blk;have aJ:=(hy.e s4).e ho;obtain ⟨rp,bB,bC,bD,bg⟩:=V_ ai;refine dE z z (fc call98 z<|m_t bD (zt' hBw<|lt_ (lt_ hz s4.s) ho.s) (p1_0.g aJ) aq (p2_0.g aJ)<|ii z) (.inr fun _ _ h=>F_<|h.1) ?_;rintro _ _ ⟨aK,aL,aM,aN,bE,aO,aP,aQ,bF,rfl,bG,bH,bI,bJ,bK,a4,hq⟩;refine dM z z z ?_
   iterate 3 refine dR z z (ext_ z z) ?_
   have aR:=lt_ G.s s4.s;have a5:=m1 aR;refine dE0 z (fs (cur':=[vI rp.number,sl aL aM aN,sl aO aP aQ]) k_ z z (a3.e aK) z (lb z) (oA z) z) (.inr fun _ _ h=>c_P (atp a5) h.2) ?_;rintro _ _ ⟨bL,bN⟩;have a6:=bN.one;refine dQ z z z<|dQ z z z<|pD ?_
   have aS:=r_ (al_ hq) a3.lt lr;have aT:=lt_ aR ho.s;have aU:=r_ (ar_ hq) a3.lt lr;exact fun _ q=>⟨rp.number,rp.bytes,rp.items,bB,bC,som bg,aL,aM,aN,bE,aO,aP,aQ,bF,ap.z,q.k<|s5 z z z z z,bM (bup (bup (bup G s4) ho) aK) a6 a5,bG,bH.c a6 aS,nl_ a4,s_ (al_ hq) aT,bI.c a6 aU,nr_ a4,s_ (ar_ hq) aT,ds<|nj a4,bJ,bK,bL,atp a5,aS,aU⟩
  refine dE z z (fa a_s) (.inr fun _ _ h=>F_<|h.2.below) ?_;rintro _ bO ⟨rfl,aV⟩;have ht:=aV.below;have a7:Blk bO an.z [vI 0,sl none 0 0,sl none 0 0]:=aV.blk;have aW:=(((h2.ag B).e h1).e G).e ht;have aX:=lt_ (lt_ (lt_ h2.s h1.s) G.s) ht.s;obtain ⟨_,bQ,bh⟩:=bdS af;refine dE z z (fc call65 z<|m_n bQ (zt' hBw aX)<|p1_0.g aW) (.inr fun _ _ h=>F_<|h.1) ?_;rintro _ _ ⟨s9,rfl,bR⟩;have aY:=aW.e s9;obtain ⟨rr,bS,bT,bU,bi⟩:=V_ bh;refine dE z z (fc call98 z<|m_t bU (zt' hBw<|lt_ aX s9.s) (p1_0.g aY) bR (p2_0.g aY)<|ii z) (.inr fun _ _ h=>F_<|h.1) ?_;rintro _ _ ⟨aZ,b0,b1,b2,bV,b3,b4,b5,bW,rfl,bX,bY,bZ,c0,c1,a8,hu⟩;refine dM z z z ?_
  iterate 3 refine dR z z (ext_ z z) ?_
  have a9:=m1 G.s;refine dE0 z (fs (cur':=[vI rr.number,sl b0 b1 b2,sl b3 b4 b5]) k_ z z ((a7.e s9).e aZ) z (lb z) (oA z) z) (.inr fun _ _ h=>c_P (atp a9) h.2) ?_;rintro _ _ ⟨c2,c3⟩;have aa:=c3.one;refine dQ z z z<|dQ z z z<|pD ?_
  have b6:=r_ (al_ hu) a7.lt s9.s;have b7:=lt_ (lt_ G.s ht.s) s9.s;have b8:=r_ (ar_ hu) a7.lt s9.s;exact fun _ q=>⟨rr.number,rr.bytes,rr.items,bS,bT,som bi,b0,b1,b2,bV,b3,b4,b5,bW,an.z,q.k<|s5 z z z z z,bM (bup (bup (bup G ht) s9) aZ) aa a9,bX,bY.c aa b6,nl_ a8,s_ (al_ hu) b7,bZ.c aa b8,nr_ a8,s_ (ar_ hu) b7,ds<|nj a8,c0,c1,c2,atp a9,b6,b8⟩
 rintro c4 ws ⟨xb,xw,xx,xc,xd,rfl,ae,nf,cg,J,ah,ni,cj,L,O,_,sk,c5,c6,c7,b9,c8,c9,ba,ca,bb,cb,cc,_,_,_⟩;revert c4;refine Wo<|Wq<|Wq ?_
 obtain ⟨cd,aj,ak⟩:=bdS<|un5S be;refine Wt (fun a w=>∃(ab:Bool),ab=cd/\Sat 32 [(4,pt wl.z),(7,pt O),(8,vI xc),(9,vI xd),(26,vB ab)] a/\Below ws.z ws w) ?_ ?_
 ·refine Wg<|Rm z<|Rq z z z<|Rm z ?_
  rcases bs (xd==0) with H | H
  ·exact Rh z H (mv z)<|Rh z H (mv z)<|Rh z H (lnR j_ z<|p2_0.g<|((h2.ag B).e h1).e sk)<|Rh z H (lss z z)<|R z (pT z H z)<|Wl (fun _ q=>⟨decide<|xc<(x2.length:Int),som<|ifT aj H,q.k<|s5 z z z z z,br ws⟩)
  iterate 4 refine Nh z H ?_
  exact R z (pF z H z)<|Wl (fun _ q=>⟨false,som<|ifF aj H,q.k<|s5 z z z z z,br ws⟩)
 rintro ce _ ⟨ab,rfl,_,sa⟩;revert ce;refine Wo<|Wc z (fun V=>?_) (fun V=>?_)
 ·refine Ws<|R z (bP (parts:=[]) (cs:=[vI 0,sl none 0 0,sl none 0 0]) a_7 z z)<|Rm z<|E0 (fs (cur':=[vI 0,sl none 0 0,sl none 0 0]) k_ z z ((hn.e sk).e sa) z (lb z) (oA z) z) ?_
  rintro _ _ ⟨cf,ch⟩;refine Ra z<|Rw z ?_
  obtain rfl:=som<|ifT ak V;exact Wr<|y_ hr (p_ D_ k_ z cf z) z z ⟨bM (bup (bup (bup h2 h1) sk) sa) ch.one<|m1 h2.s,none,0,0,[],none,0,0,[],z,ii z,onL,onL,bb,ii z,nd0,al0⟩
 refine Wk<|Ws<|R z (lN (vs:=[vI xb,sl ae nf cg,sl ah ni cj]) D_ k_ z z fid<|(cc.e sa).row 0 3 z)<|RM z z<|E0 (fs (cur':=[vI xb,sl ae nf cg,sl ah ni cj]) k_ z z ((hn.e sk).e sa) z (lb z) (oA z) z) ?_
 rintro _ _ ⟨ci,ck⟩;have ad:=ck.one;refine Ra z<|Rw z ?_
 obtain rfl:=som<|ifF ak V;have bc:=lt_ h2.s h1.s;exact Wr<|y_ hr (p_ D_ k_ z ci z) z z ⟨bM (bup (bup (bup h2 h1) sk) sa) ad<|m1 h2.s,ae,nf,cg,J,ah,ni,cj,L,z,c5,(c6.e sa).c ad<|r_ b9 hn.lt lr,(c8.e sa).c ad<|r_ ba hn.lt lr,bb,cb,na_ c7 c9<|ds ca,aa_ (s_ b9 bc)<|s_ ba bc⟩
theorem W_w1b {x1:e_}{x2:List UInt8}{res:Bool}(hm:g_I n x1 x2=some res)(hBw:B<=w0.z)(p1_0:repS w0 B (sl A0 N0 C0) x1.rules)(p2_0:repS w0 B (sl A3 N3 C3) x2):h_ prog 18 [(.agg #[sl A0 N0 C0]),sl A3 N3 C3] w0 (Q11 w0 B res):=by
 unfold g_I at hm
 refine goF func18 z z (lb z) fun fn hr=>Ws<|E z (fb z) ?_
 rintro _ H ⟨rfl,h1⟩;have h:=h1.below;refine Rw z<|Ws<|R z (lN (vs:=[sl A0 N0 C0]) J_ E_ z z fid<|(h1.blk:Blk H w0.z [sl A0 N0 C0]).row 0 1 z)<|Rm z ?_
 obtain ⟨I,_,_,J,G⟩:=V_ hm;refine E z (fc call38 z<|W_w31 J (zt' hBw h.s) (p1_0.e h)<|p2_0.e h) ?_;rintro _ L ⟨s2,aa,nb,cc,_,ad,ne,cf,_,rfl,_,_,_,_,_,_,_⟩;refine Rm z ?_
 iterate 3 refine Re z z z ?_
 refine E z (fa a_s) ?_;rintro _ wg ⟨rfl,h3⟩;refine E0 (fs (cur':=[vI I.number,sl aa nb cc,sl ad ne cf]) k_ z z (h3.blk:Blk wg L.z [vI 0,sl none 0 0,sl none 0 0]) z (lb z) (oA z) z) ?_;rintro _ _ ⟨_,si⟩;refine Ra z<|Rw z<|Wm z<|Rq z z z<|Rw z ?_
 obtain rfl:=som G;exact Wr<|c_ hr z ⟨bM (bup (bup h s2) h3.below) si.one<|m1<|lt_ h.s s2.s,z⟩
theorem W_w32 {x1:L_}{res:Bool}(hm:i_X n x1=some res)(hBw:B<=w0.z)(p1_0:repS w0 B (sl A0 N0 C0) x1.registry.versions)(p1_1:repS w0 B (sl A1 N1 C1) x1.log.bytes)(p1_2:inI x1.log.stored):h_ prog 80 [(.agg #[sl A0 N0 C0,sl A1 N1 C1,vI x1.log.stored])] w0 (Q11 w0 B res):=by
 unfold i_X at hm
 refine goF func80 z z (lb z) fun fn hr=>Ws<|E z (fb z) ?_
 rintro _ we ⟨rfl,hl⟩;have h4:=hl.below;have hf:Blk we w0.z [sl A0 N0 C0,sl A1 N1 C1,vI x1.log.stored]:=hl.blk;refine Rw z<|Wq<|Wq ?_
 obtain ⟨am,a5,hmm⟩:=bdS hm;refine Wt (fun a w=>∃(xg:Bool),xg=am/\Sat 74 [(1,pt w0.z),(23,vB xg)] a/\Below we.z we w) ?_ ?_
 ·refine Wg<|Rf z d_v z<|R z (lN (vs:=[sl A0 N0 C0]) f_x e_m z z fid<|hf.row 0 1 z) ?_
  obtain ⟨an,ao,hmn⟩:=bdS a5;refine E z (fc call143 z<|W_w2x (B:=B) (x1:=(⟨x1.registry.versions⟩:a_j)) ao (zt' hBw h4.s)<|p1_0.e h4) ?_;rintro _ _ ⟨s7,rfl⟩;refine R z (not_ z)<|Rm z ?_
  rcases bs (!an) with J | J
  ·iterate 4 refine Nh z J ?_
   exact R z (pT z J z)<|Rm z<|Nh z z<|Nh z z<|Nh z z<|Nh z z<|Nh z z<|Nh z z<|R z (pT z z z)<|Wl (fun _ q=>⟨true,som<|ifT hmn J,q.k<|s2 z z,s7⟩)
  refine Rh z J (fd d_d z) ?_;have ho:=hf.e s7;refine Rh z J (lN (vs:=[sl A1 N1 C1,vI x1.log.stored]) e_S d_V z z fid<|ho.row 1 2 z) ?_;have hp:=(h4.ag B).e s7;have hq:=lt_ h4.s s7.s;obtain ⟨ap,aq,hmr⟩:=bdS<|ifF hmn J;refine Eg z z J z (fc call141 z<|W_w13 (B:=B) (x1:=(⟨x1.log.bytes,x1.log.stored⟩:Log)) aq (zt' hBw hq) (p1_1.g hp) p1_2) ?_;rintro _ _ ⟨sb,rfl⟩;refine Rh z J (not_ z)<|R z (pF z J z)<|Rm z ?_
  rcases bs (!ap) with I | I
  ·iterate 6 refine Nh z I ?_
   exact R z (pT z I z)<|Wl (fun _ q=>⟨true,som<|ifT hmr I,q.k<|s2 z z,bup s7 sb⟩)
  refine Rh z I (fd d_d z)<|Rh z I (fd c_k z)<|Rh z I (l0 M_ z<|(ho.e sb).at z) ?_
  obtain ⟨ar,au,a6⟩:=bdS<|ifF hmr I;refine Eg z z I z (fc call142 z<|W_w14 au (zt' hBw<|lt_ hq sb.s)<|p1_1.g<|hp.e sb) ?_;rintro _ _ ⟨av,_,_,_,rfl,ax⟩;exact Rh z I (lnR c_7 z ax)<|Rh z I (Z_ z z)<|R z (pF z I z)<|Wl (fun _ q=>⟨decide<|20<(ar.length:Int),som a6,q.k<|s2 z z,bup (bup s7 sb) av⟩)
 rintro ay _ ⟨xg,rfl,_,s8⟩;revert ay;refine Wo<|Wc z (fun hch=>?_) (fun hch=>?_)
 ·refine Ws<|Rw z ?_
  obtain rfl:=som<|ifT hmm hch;exact Wr<|c_ hr z ⟨bup h4 s8,z⟩
 refine Wk<|Ws<|Rf z d_d z<|Rf z c_k z ?_
 have ht:=hf.e s8;refine R z (l0 M_ z<|ht.at z) ?_;have hu:=(h4.ag B).e s8;have hv:=lt_ h4.s s8.s;obtain ⟨_,_,az,a7⟩:=a_k<|ifF hmm hch;refine E z (fc call144 z<|k_x az (zt' hBw hv)<|p1_1.g hu) ?_;rintro _ L ⟨sc,aw,ns,cx,_,rfl,h5,_,_,_⟩;refine Rm z<|Re z z z<|Re z z z<|Ra z<|Rw z<|Wq<|Ws<|Rw z ?_
 obtain ⟨_,a8,hmy⟩:=bdS a7;refine Wf (σ:=Unit) (ρ:=Bool) (fun (ki:Nat)(_:Unit) a w=>Sat 74 [(1,pt w0.z),(3,sl aw ns cx),(5,vI ((ki:Nat):Int))] a/\Below L.z L w) (fun (_:Unit) a w=>Sat 74 [] a/\Below L.z L w) (fun r ex a w=>ex = .ret/\w_ prog fn (Q11 w0 B r) a w) a8 ?_ ?_ ?_ ?_ ?_
 ·exact fun _ q=>⟨q.k<|s3 z z z,br L⟩
 ·rintro ki _ _ wz _ O ⟨a9,sa⟩ aa;refine Wu ?_ a9;refine Wq<|Wm z<|Rm z ?_
  have a0:=h5.e sa;refine R z (lnR c_I z<|or_ a0<|a_.lt h5)<|Rl z z z<|Wx z (fun _=>?_) (fun hc=>(P_ O hc).elim)
  refine Wk<|Wq<|Wb<|Wq ?_
  obtain ⟨aA,ab,V⟩:=bdS aa;refine Wt (fun a w=>∃(xj:Bool),xj=aA/\Sat 74 [(1,pt w0.z),(3,sl aw ns cx),(5,vI ((ki:Nat):Int)),(73,vB xj)] a/\Below wz.z wz w) ?_ ?_
  ·refine Wd (X:=noX) 0 (pl_ 37 [33]) mo (by kernel_rfl) fun b3 s6 _=>dM z z z<|dM z z z ?_
   obtain ⟨aB,aC,W⟩:=bdS ab;have hd:=a0.e s6;refine dRX z z (at_ (α:=o_) c_I a_9 z z z (or_ hd<|a_.lt h5) aC) ?_;rintro _ ⟨_,_,_,rfl,aD,aE,_⟩;obtain ⟨_,_,_,rfl,_,_,_,_⟩:=f_c aE;refine dR z z (fd d_a z)<|dR z z (l0 g_3 z<|aD.at (j:=0) z)<|dR z z (eql z z)<|dM z z z ?_
   rcases bs (aB.kind==1) with H | H
   ·refine dRg z z z H z (mv z)<|dRg z z z H z (mv z) ?_
    obtain ⟨aF,aG,Y⟩:=bdS<|ifT W H;refine a_K z z z H z (at_ (α:=o_) c_I a_9 z z z (or_ hd<|a_.lt h5) aG) ?_;rintro _ ⟨_,_,_,rfl,aH,aI,_⟩;obtain ⟨_,_,_,rfl,_,_,_,_⟩:=f_c aI;refine dRg z z z H z (fd d_b z)<|dRg z z z H z (l0 g_3 z<|aH.at (j:=2) z)<|dRg z z z H z (fd d_v z)<|dRg z z z H z (fd c_j z) ?_
    have a1:=((ht.e sc).e sa).e s6;refine dRg z z z H z (l0 c_v z<|a1.at z) ?_;have a2:=p1_0.g<|((hu.e sc).e sa).e s6
    refine dRg z z z H z (lnR b_B z a2)<|dRg z z z H z (b_l z z)<|dRg z z z H z (mv z) ?_
    rcases bs (decide<|(x1.registry.versions.length:Int)<=aF.version) with G | G
    ·iterate 15 refine dRn z z z G z ?_
     exact dEn z z z G z<|dRn z z z G z<|dRg z z z H z (pT z G z)<|dR z z (pT z H z)<|pD (fun _ q=>⟨true,som<|ifT Y G,q.k<|s4 z z z z,s6⟩)
    refine dRg z z z G z (fd d_v z)<|dRg z z z G z (fd c_j z)<|dRg z z z G z (l0 c_v z<|a1.at z)<|dRg z z z G z (mv z)<|dRg z z z G z (mv z) ?_
    obtain ⟨_,aJ,ad⟩:=bdS<|ifF Y G;refine a_K z z z G z (at_ (α:=o_) c_I a_9 z z z (or_ hd<|a_.lt h5) aJ) ?_;rintro _ ⟨_,_,_,rfl,aK,aL,_⟩;obtain ⟨_,_,_,rfl,_,_,_,_⟩:=f_c aL;refine dRg z z z G z (fd d_b z)<|dRg z z z G z (l0 g_3 z<|aK.at (j:=2) z) ?_
    obtain ⟨_,aM,ae⟩:=bdS ad;refine a_K z z z G z (at_ (α:=e_) b_B E_ z z z a2 aM) ?_;rintro _ ⟨_,_,_,rfl,aN,aO,_⟩;obtain ⟨aP,aQ,aR,rfl,aS⟩:=d_B aO;refine dRg z z z G z (lN (vs:=[sl aP aQ aR]) J_ E_ z z fid aN)<|dRg z z z G z (mv z)<|dRg z z z G z (mv z) ?_
    obtain ⟨_,aT,af⟩:=bdS ae;refine a_K z z z G z (at_ (α:=o_) c_I a_9 z z z (or_ hd<|a_.lt h5) aT) ?_;rintro _ ⟨_,_,_,rfl,aU,aV,_⟩;obtain ⟨_,_,_,rfl,_,_,_,aW⟩:=f_c aV;refine dRg z z z G z (fd d_T z)<|dRg z z z G z (l0 M_ z<|aU.at (j:=3) z) ?_
    obtain ⟨aX,aY,ah⟩:=bdS af;refine dEg z z z G z (fc call18 z<|W_w1b (B:=L.z) aY (a_T<|lt_ sa.s s6.s) (repS.mono aS<|zt' hBw<|lt_ hv sc.s) aW) (.inr fun _ _ h=>F_<|h.1) ?_;rintro _ _ ⟨aZ,rfl⟩;exact dRg z z z G z (not_ z)<|dRg z z z H z (pF z G z)<|dR z z (pT z H z)<|pD (fun _ q=>⟨!aX,som ah,q.k<|s4 z z z z,bup s6 aZ⟩)
   iterate 11 refine dRn z z z H z ?_
   iterate 15 refine dRu z z z z ?_
   exact dEu z z z z<|dRu z z z z<|dRn z z z H z<|dR z z (pF z H z)<|pD (fun _ q=>⟨false,som<|ifF W H,q.k<|s4 z z z z,s6⟩)
  rintro b0 _ ⟨xj,rfl,_,a3⟩;revert b0;refine Wo<|Wc z (fun hck=>?_) (fun hck=>?_)
  ·exact Ws<|Rw z<|Wr<|rtO<|qL (som<|ifT V hck).symm<|c_ hr z ⟨bup (bup (bup (bup h4 s8) sc) sa) a3,z⟩
  exact Wk<|Wg<|Rm z<|R z (inc_ O (lt_ (a_.len h5) A_) z z)<|Ra z<|Wl (fun _ q=>⟨(),(som<|ifF V hck).symm,⟨q.k<|s3 z z z,bup sa a3⟩⟩)
 ·rintro _ _ _ ⟨ai,a4⟩;refine Wu ?_ ai;refine Wq<|Wm z<|Rm z<|R z (lnR c_I z<|or_ (h5.e a4)<|a_.lt h5)<|Rl z z z<|Wx z (fun hc=>(Q_ hc).elim) (fun _=>?_)
  exact We<|fun a' ha'=>⟨rfl,⟨Sat.weaken ha' sn,a4⟩⟩
 ·rintro _ b1 _ rfl ⟨_,b2⟩;have aj:=elL hmy;revert b1;refine Wo<|Ws<|Rw z ?_
  obtain rfl:=som aj;exact Wr<|c_ hr z ⟨bup (bup (bup h4 s8) sc) b2,z⟩
 rintro _ _ _ _ rfl ⟨rfl,ak⟩;have al:=elR hmy;obtain rfl:=som al;exact ⟨ak,z⟩
def Q19 (w0:World)(B:Zone)(r:Str)(v:Value)(w':World):Prop:=Bw w0 w'/\(fun h=>(Str.v h)=v/\h.b.length<=LEN) r
theorem m_u {x1:Int}{res:Str}(hm:d_y n x1=some res)(hBw:B<=w0.z)(p1_0:inI x1):h_ prog 162 [vI x1] w0 (Q19 w0 B res):=by
 unfold d_y at hm
 refine goF func162 z z (lb z) fun fn hr=>Ws<|Rw z<|Wq<|Wm z<|Rq z z z<|Wx z (fun G=>?_) (fun G=>?_)
 ·refine Ws<|Rw z ?_
  obtain rfl:=som<|ifT hm G;exact Wr<|c_ hr z ⟨br w0,z,lb z⟩
 refine Wk<|Ws<|Rw z<|Wq<|Wm z<|Rw z ?_
 obtain ⟨_,huj,hmb⟩:=bdS<|ifF hm G;refine b_u (σ:=Str×Int) (ρ:=Str) (fun s a w=>un2 (fun x2 x0=>Sat 31 [(0,vI x1),(3,Str.v x2),(4,vI x0)] a/\Below w0.z w0 w/\x2.b.length<=LEN/\inI x0) s) (fun s a w=>un2 (fun x2 x0=>Sat 31 [(0,vI x1),(3,Str.v x2)] a/\Below w0.z w0 w/\x2.b.length<=LEN/\inI x0) s) (fun r ex a w=>ex = .ret/\w_ prog fn (Q19 w0 B r) a w) huj ?_ ?_ ?_ ?_
 ·exact fun _ q=>⟨q.k<|s3 z z z,br w0,lb z,p1_0⟩
 ·rintro ⟨x2,x0⟩ _ h _ ⟨hSk,sc,h5,h6⟩ hml;have hmd:=a_5 hml;refine Wu ?_ hSk;refine Wq<|Wm z<|R z (nq z z)<|Wx z (fun H=>?_) (fun H=>?_)
  ·refine Wk<|Wq<|Wb<|Wm z<|R z (l_n z z (by decide))<|Rw z<|Wq<|Wm z<|Rl z z z<|Wn ?_
   obtain ⟨um,hue,hmn⟩:=bdS<|ifT hmd H;refine Wt (fun a w=>∃(x3:Int),x3=um/\Sat 31 [(0,vI x1),(3,Str.v x2),(4,vI x0),(5,vI x3)] a/\Below h.z h w/\inI x3) ?_ ?_
   ·refine Wc z (fun I=>?_)<|fun I=>?_
    ·exact Wg<|Rm z<|R z (rd_neg z)<|Ra z<|Wl (fun _ q=>⟨g_7<|b_L x0 10,som<|ifT hue I,q.k<|s4 z z z z,br h,q_Z _⟩)
    exact a_e<|fun _ q=>⟨b_L x0 10,som<|ifF hue I,q.k<|s4 z z z z,br h,l_e h6⟩
   rintro ao wp ⟨x3,rfl,_,sq,_⟩;revert ao;refine Wo<|Wg<|Rm z<|R z (add_ z z)<|R z (c_1 d_3 d_5 z)<|E z (fS [(.tmp 21)] N_ z z z (a_z z) (lb z)<|lb z) ?_
   rintro _ wr ⟨rfl,J⟩;have L:Blk wr wp.z [(vU<|byteI<|mkB<|b_ 48 x3)]:=J.blk;refine R z (h_d j_ d_9 d_5 z_5 z<|a_.rep<|b_E J b_j)<|Rm z ?_
   obtain ⟨xs,ef,hmt⟩:=bdS hmn;exact R z (f_Z z z ef)<|Rw z<|Wg<|Rm z<|R z (rd_quo z z (by decide))<|Ra z<|Wl (fun _ q=>⟨(xs,e_C x0 10),(som hmt).symm,⟨q.k<|s3 z z z,bup (bup sc sq) J.below,j_j ef,q_Y _ _⟩⟩)
  exact We<|fun a' ha'=>b_e (som<|ifF hmd H).symm ⟨Sat.weaken ha'<|s2 z z,sc,h5,h6⟩
 ·rintro ⟨x2,x0⟩ au _ rfl ⟨_,sg,h5,h6⟩;have hmv:=elL hmb;have hmh:=a_5 hmv;revert au;refine Wo<|Wq<|Wm z<|Rl z z z<|Wx z (fun hca=>?_) (fun hca=>?_)
  ·refine Wm z ?_
   obtain ⟨_,ei,hmw⟩:=bdS<|ifT hmh hca;refine R z (f_Z z z ei)<|Rw z ?_
   obtain rfl:=som hmw;exact Wr<|c_ hr z ⟨sg,z,j_j ei⟩
  refine Wk<|Wm z<|Rw z ?_
  obtain rfl:=som<|ifF hmh hca;exact Wr<|c_ hr z ⟨sg,z,h5⟩
 rintro _ _ _ _ rfl ⟨rfl,hqx⟩;have hmy:=elR hmb;obtain rfl:=som hmy;exact ⟨hqx,z⟩
theorem W_w33 {x1:g_}{x2:Int}{res:Str}(hm:g_E n x1 x2=some res)(hBw:B<=w0.z)(p1_0:x1.name.b.length<=LEN)(p1_1:inI x1.kind)(p1_2:inI x1.size)(aa:repS w0 B (sl A9 N9 C9) x1.bytes)(O:repS w0 B (sl A8 N8 C8) x1.names)(ab:repS w0 B (sl AA NA CA) x1.tags)(ad:repS w0 B (sl AB NB CB) x1.kids)(p2_0:inI x2):h_ prog 124 [(.agg #[Str.v x1.name,vI x1.kind,vI x1.size,vB x1.little,sl A9 N9 C9,sl A8 N8 C8,sl AA NA CA,sl AB NB CB]),vI x2] w0 (Q19 w0 B res):=by
 unfold g_E at hm
 refine goF func124 z z (lb z) fun fn hr=>Ws<|E z (fb z) ?_
 rintro _ J ⟨rfl,hn⟩;have h1:=hn.below;have h6:Blk J w0.z (vR x1 A9 N9 C9 A8 N8 C8 AA NA CA AB NB CB):=hn.blk;refine Rw z<|Wq<|Wb<|Ws<|Rf z a_M z<|R z (l0 g_3 z<|h6.at z)<|Rq z z z<|Rw z<|Wc z (fun hcd=>?_) (fun hcd=>?_)
 ·refine Wm z ?_
  obtain ⟨_,ew,hmx⟩:=bdS<|ifT hm hcd;refine E z (fc call162 z<|m_u ew (zt' hBw h1.s) p2_0) ?_;rintro _ _ ⟨sy,rfl,hz⟩;refine Rw z ?_
  obtain rfl:=som hmx;exact Wr<|rtO<|c_ hr z ⟨bup h1 sy,z,hz⟩
 refine Wq ?_;obtain ⟨W,hum,hmo⟩:=bdS<|ifF hm hcd;refine Wt (fun a w=>∃(xe:Bool),xe=W/\Sat 51 [(1,vI x2),(2,pt w0.z),(11,vB xe)] a/\Below J.z J w) ?_ ?_
 ·refine Wg<|Rf z a_M z<|R z (l0 g_3 z<|h6.at z)<|Rq z z z<|Rm z ?_
  rcases bs (x1.kind==6) with h | h
  ·exact Rh z h (mv z)<|Rh z h (fd c_w z)<|Rh z h (l0 a_J z<|h6.at z)<|Rh z h (lnR G_ z<|O.e h1)<|Rh z h (lss z z)<|R z (pT z h z)<|Ra z<|Wl (fun _ q=>⟨decide<|x2<(x1.names.length:Int),som<|ifT hum h,q.k<|s3 z z z,br J⟩)
  iterate 5 refine Nh z h ?_
  exact R z (pF z h z)<|Ra z<|Wl (fun _ q=>⟨false,som<|ifF hum h,q.k<|s3 z z z,br J⟩)
 rintro Y L ⟨xe,rfl,_,s2⟩;revert Y;refine Wo<|Wc z (fun hcf=>?_) (fun hcf=>?_)
 ·refine Ws<|Rf z c_w z<|R z (l0 a_J z<|(h6.e s2).at z)<|Rm z ?_
  obtain ⟨_,a0,V⟩:=bdS<|ifT hmo hcf;refine RX z (at_ (α:=Str) G_ z_9 z z z (O.g<|(h1.ag B).e s2) a0) ?_;rintro _ ⟨_,_,_,rfl,a1,a2,_⟩;obtain ⟨rfl,a3⟩:=a_r a2;refine R z (l0 g_9 z<|a1.at0 z)<|Rw z ?_
  obtain rfl:=som V;exact Wr<|rtO<|c_ hr z ⟨bup h1 s2,z,a3⟩
 refine Wq ?_;obtain ⟨a4,hup,hmq⟩:=bdS<|ifF hmo hcf;refine Wt (fun a w=>∃(xg:Bool),xg=a4/\Sat 51 [(1,vI x2),(2,pt w0.z),(27,vB xg)] a/\Below L.z L w) ?_ ?_
 ·refine Wg<|Rf z a_M z<|R z (l0 g_3 z<|(h6.e s2).at z)<|Rq z z z<|Rm z ?_
  rcases bs (x1.kind==7) with G | G
  ·exact Rh z G (mv z)<|Rh z G (eql z z)<|R z (pT z G z)<|Ra z<|Wl (fun _ q=>⟨x2==0,som<|ifT hup G,q.k<|s3 z z z,br L⟩)
  exact Nh z G<|Nh z G<|R z (pF z G z)<|Ra z<|Wl (fun _ q=>⟨false,som<|ifF hup G,q.k<|s3 z z z,br L⟩)
 rintro a5 wa ⟨xg,rfl,_,s7⟩;revert a5;refine Wo<|Wc z (fun hch=>?_) (fun hch=>?_)
 ·refine Ws<|Rw z ?_
  obtain rfl:=som<|ifT hmq hch;exact Wr<|rtO<|c_ hr z ⟨bup (bup h1 s2) s7,z,lb z⟩
 refine Wq ?_;obtain ⟨a6,hur,hms⟩:=bdS<|ifF hmq hch;refine Wt (fun a w=>∃(xi:Bool),xi=a6/\Sat 51 [(1,vI x2),(2,pt w0.z),(35,vB xi)] a/\Below wa.z wa w) ?_ ?_
 ·refine Wg<|Rf z a_M z<|R z (l0 g_3 z<|((h6.e s2).e s7).at z)<|Rq z z z<|Rm z ?_
  rcases bs (x1.kind==8) with H | H
  ·exact Rh z H (mv z)<|Rh z H (eql z z)<|R z (pT z H z)<|Ra z<|Wl (fun _ q=>⟨x2==0,som<|ifT hur H,q.k<|s3 z z z,br wa⟩)
  exact Nh z H<|Nh z H<|R z (pF z H z)<|Ra z<|Wl (fun _ q=>⟨false,som<|ifF hur H,q.k<|s3 z z z,br wa⟩)
 rintro a7 wb ⟨xi,rfl,_,sc⟩;revert a7;refine Wo<|Wc z (fun hcj=>?_) (fun hcj=>?_)
 ·refine Ws<|Rw z ?_
  obtain rfl:=som<|ifT hms hcj;exact Wr<|rtO<|c_ hr z ⟨bup (bup (bup h1 s2) s7) sc,z,lb z⟩
 refine Wq ?_;obtain ⟨a8,hut,hmu⟩:=bdS<|ifF hms hcj;refine Wt (fun a w=>∃(xk:Bool),xk=a8/\Sat 51 [(43,vB xk)] a/\Below wb.z wb w) ?_ ?_
 ·refine Wg<|Rf z a_M z<|R z (l0 g_3 z<|(((h6.e s2).e s7).e sc).at z)<|Rq z z z<|Rm z ?_
  rcases bs (x1.kind==9) with I | I
  ·exact Rh z I (mv z)<|Rh z I (eql z z)<|R z (pT z I z)<|Ra z<|Wl (fun _ q=>⟨x2==0,som<|ifT hut I,q.k<|s1 z,br wb⟩)
  exact Nh z I<|Nh z I<|R z (pF z I z)<|Ra z<|Wl (fun _ q=>⟨false,som<|ifF hut I,q.k<|s1 z,br wb⟩)
 rintro a9 _ ⟨xk,rfl,_,sv⟩;revert a9;refine Wo<|Wc z (fun hcl=>?_) (fun hcl=>?_)
 ·refine Ws<|Rw z ?_
  obtain rfl:=som<|ifT hmu hcl;exact Wr<|rtO<|c_ hr z ⟨bup (bup (bup (bup h1 s2) s7) sc) sv,z,lb z⟩
 refine Wk<|Ws<|Rw z ?_
 obtain rfl:=som<|ifF hmu hcl;exact Wr<|c_ hr z ⟨bup (bup (bup (bup h1 s2) s7) sc) sv,z,lb z⟩
def Q20 (w0:World)(B:Zone)(r:(List m_)×Int)(v:Value)(w':World):Prop:=Bw w0 w'/\un2 (fun J h=>∃G H I S1,v = .tuple #[sl G H I,vI h]/\a_ w' S1 (sl G H I) J/\inI h/\S1.Nodup/\(∀k∈S1,w0.z<=k)) r
structure m_v (f:e_->Int->(List UInt8)->Int->Str->Option ((List m_)×Int)):Prop where
  run:∀{A0 A7:Option Addr}{N0 C0 N7 C7:Nat}{B:Zone}{x1:e_}{x2:Int}{x3:List UInt8}{x4:Int}{x5:Str}{res:(List m_)×Int}{w0:World}(hm:f x1 x2 x3 x4 x5=some res)(hBw:B<=w0.z)(p1_0:repS w0 B (sl A0 N0 C0) x1.rules)(p2_0:inI x2)(p3_0:repS w0 B (sl A7 N7 C7) x3)(p4_0:inI x4)(p5_0:x5.b.length<=LEN),h_ prog 68 [(.agg #[sl A0 N0 C0]),vI x2,sl A7 N7 C7,vI x4,Str.v x5] w0<|Q20 w0 B res
abbrev q_0 (n:Nat):Prop:=m_v (f_6 n).spec_l19Build
theorem T_w08 (bu:q_0 n):m_v (i_v n<|f_6 n):=by
 constructor
 intro A0 A7 N0 C0 N7 C7 B x1 x2 x3 x4 x5 res w0 hm hBw p1_0 p2_0 p3_0 p4_0 p5_0;unfold i_v at hm
 refine goF func68 z z (lb z) fun fn hr=>Ws<|E z (fb z) ?_
 rintro _ wi ⟨rfl,aB⟩;have hn:=aB.below;have ho:Blk wi w0.z [sl A0 N0 C0]:=aB.blk;refine Ra z<|Rw z<|Ws<|Rf z a_o z<|R z (l0 a_q z<|ho.at z)<|Rm z ?_
 obtain ⟨xj,bv,b7⟩:=bdS hm;refine RX z (at_ (α:=g_) a_b u_ z z z (p1_0.e hn) bv) ?_;rintro _ ⟨_,_,_,rfl,bw,bx,_⟩;obtain ⟨az,W,Y,a0,a1,a2,a3,a4,a5,a6,a7,a8,rfl,aC,aD,aE,aF,aG,aH,ak⟩:=a_N bx;refine R z (lN (vs:=vR xj az W Y a0 a1 a2 a3 a4 a5 a6 a7 a8) R_ u_ z z fid bw)<|E z (fa c_x) ?_
 rintro _ bz ⟨rfl,aI⟩;have hg:=aI.below;have al:Blk bz wi.z [(Str.v (⟨[]⟩:Str)),vI 0,vI 0,vB false,sl none 0 0,sl none 0 0,sl none 0 0,sl none 0 0]:=aI.blk;refine E0 (fs (cur':=vR xj az W Y a0 a1 a2 a3 a4 a5 a6 a7 a8) u_ z z al z (lb z) (oA z) z) ?_;rintro _ _ ⟨bA,bB⟩;have hd:=bB.one;refine Wn<|Ws ?_
 have am:=(ho.e hg).c hd<|djs<|mmr ho.lt
 refine R z (lN (vs:=[sl A0 N0 C0]) J_ E_ z z fid<|am.row 0 1 z)<|RM z z<|Rm z ?_
 have an:∀k∈[wi.z],¬B k:=or0 (d_ lr)<|n_<|zt' hBw hn.s;have aa:=((hn.ag B).e hg).c hd<|f_ an
 have ab:=lt_ (lt_ hn.s hg.s) hd.s;obtain ⟨bC,rh,_,bD,b8⟩:=V_ b7;refine E z (fc call67 z<|W_w02.run bD (zt' hBw ab) (p1_0.g aa) p2_0 (p3_0.g aa) p4_0) ?_;rintro _ wk ⟨s6,bE,bF,bG,_,bH,bI,bJ,_,rfl,bK,_,L,aJ,_,_,_⟩;refine Rm z ?_
 iterate 3 refine Re z z z ?_
 refine E z (fa a_s) ?_;rintro _ bL ⟨rfl,aK⟩;have h2:=aK.below;have ao:Blk bL wk.z [vI 0,sl none 0 0,sl none 0 0]:=aK.blk;refine E0 (fs (cur':=[vI bC.number,sl bE bF bG,sl bH bI bJ]) k_ z z ao z (lb z) (oA z) z) ?_;rintro _ G ⟨aL,bN⟩;have H:=bN.one;refine Ra z<|Rw z<|Wm z<|RM z z<|Rm z<|R z (bP (parts:=[(0,.tmp 38),(1,.tmp 39),(2,.tmp 40),(3,.tmp 41)]) (cs:=[Str.v x5,vI x2,vI x4,vI rh]) p_z z z)<|E z (fS [(.tmp 42)] c_G z z z (a_z z) (lb z)<|lb z) ?_
 rintro _ wr ⟨rfl,ap⟩;have h5:=ap.below;have cz:Blk wr G.z [Str.v x5,vI x2,vI x4,vI rh]:=ap.blk;refine Rw z<|Wm z<|Rw z<|Wq<|Ws<|Rf z a_M z ?_
 have aM:=lt_ hd.s s6.s;have aq:=(((bA.e s6).e h2).c H<|djs<|mm1 al.lt aM).e h5;refine R z (l0 g_3 z<|aq.at z)<|Wn<|Wb<|Wq<|Ws<|Rq z z z<|Rw z ?_
 obtain ⟨bO,aw,b9⟩:=bdS b8;refine Wt (fun a w=>∃(ar:Bool),ar=bO/\Sat 98 [(2,sl A7 N7 C7),(3,vI x4),(4,Str.v x5),(5,pt w0.z),(12,pt wi.z),(13,pt wk.z),(14,vI rh),(16,sl (some ⟨G.z,0,none⟩) 1 1),(17,vI x4),(46,vI xj.kind),(47,vB ar)] a/\Below wr.z wr w) ?_ ?_
 ·refine Wc z (fun ah=>?_)<|fun ah=>?_
  ·exact a_e<|fun _ q=>⟨xj.kind==5,som<|ifT aw ah,q.k<|sc z<|sc z<|sc z<|sc z<|sc z<|sc z<|sc z<|sc z<|sc z<|sc z<|sc z sn,br wr⟩
  exact Wg<|Rq z z z<|Ra z<|Wl (fun _ q=>⟨xj.kind==7,som<|ifF aw ah,q.k<|sc z<|sc z<|sc z<|sc z<|sc z<|sc z<|sc z<|sc z<|sc z<|sc z<|sc z sn,br wr⟩)
 rintro bQ wm ⟨ar,rfl,_,s3⟩;revert bQ;refine Wo ?_;obtain ⟨bR,ax,ba⟩:=bdS b9;refine Wt (fun a w=>∃(ad:Int),ad=bR/\Sat 98 [(2,sl A7 N7 C7),(4,Str.v x5),(5,pt w0.z),(12,pt wi.z),(13,pt wk.z),(14,vI rh),(16,sl (some ⟨G.z,0,none⟩) 1 1),(17,vI ad)] a/\Below wm.z wm w/\inI ad) ?_ ?_
 ·refine Wc z (fun ai=>?_)<|fun ai=>?_
  ·refine Wq (Wd (X:=noX) 0 (pl_ 15 [7]) mo (by kernel_rfl) fun cA sp _=>dR z z (lN (vs:=[sl A0 N0 C0]) J_ E_ z z fid<|((((((am.e s6).e h2).c H<|djs<|mm1 ho.lt<|lt_ (lt_ hg.s hd.s) s6.s).e h5).e s3).e sp).row 0 1 z)<|dR z z (fd a_2 z)<|dR z z (l0 I_ z<|((aq.e s3).e sp).at z) ?_);obtain ⟨_,bS,bb⟩:=bdS<|ifT ax ai;have aN:=lt_ ab s6.s;have aO:∀k∈[wk.z],¬B k:=or0 (d_ lr)<|n_<|zt' hBw aN;refine dRX z z (at_ (α:=Int) z_ z_3 z z z (ak.g<|(((((((hg.ag B).c hd<|f_ an).e s6).e h2).c H<|f_ aO).e h5).e s3).e sp) bS) ?_;rintro _ ⟨_,_,_,rfl,bT,bU,_⟩;obtain ⟨rfl,bV⟩:=W_ bU;refine dR z z (l0 g_3 z<|bT.at0 z)<|dM z z z<|dM z z z ?_
   have aP:=(((((aa.e s6).e h2).c H<|f_ aO).e h5).e s3).e sp;obtain ⟨_,bW,_,bX,bc⟩:=V_ bb;refine dE z z (fc call125 z<|k_y bX (zt' hBw<|lt_ (lt_ (lt_ (lt_ (lt_ aN h2.s) H.s) h5.s) s3.s) sp.s) (p1_0.g aP) bV (p3_0.g aP) p4_0) (.inr fun _ _ h=>F_<|h.1) ?_;rintro _ _ ⟨bY,rfl,_,bZ⟩;refine dM z z z ?_
   iterate 3 refine dR z z (ext_ z z) ?_
   iterate 3 refine dQ z z z ?_
   exact pD<|Wo<|Wg<|Rm z<|Ra z<|Wl (fun _ q=>⟨bW,som bc,q.k<|s8 z z z z z z z z,bup sp bY,bZ⟩)
  refine Ws<|Rq z z z<|Rw z ?_
  obtain ⟨c0,ay,be⟩:=bdS<|ifF ax ai;refine Wt (fun a w=>∃(xt:Int),xt=c0/\Sat 98 [(2,sl A7 N7 C7),(4,Str.v x5),(5,pt w0.z),(12,pt wi.z),(13,pt wk.z),(14,vI rh),(16,sl (some ⟨G.z,0,none⟩) 1 1),(17,vI xt)] a/\Below wm.z wm w/\inI xt) ?_ ?_
  ·refine Wc z (fun aj=>?_)<|fun aj=>?_
   ·exact Wg<|Rm z<|R z (add_ z z)<|Ra z<|Wl (fun _ q=>⟨b_ x4 1,som<|ifT ay aj,q.k<|s8 z z z z z z z z,br wm,iA _ _⟩)
   exact a_e<|fun _ q=>⟨x4,som<|ifF ay aj,q.k<|s8 z z z z z z z z,br wm,p4_0⟩
  rintro c1 _ ⟨xt,rfl,_,c2,c3⟩;revert c1;exact fun _ q=>⟨xt,som be,q.k<|s8 z z z z z z z z,c2,c3⟩
 rintro c4 I ⟨ad,rfl,_,sa,c5⟩;revert c4;refine Wo<|Wq<|Ws<|Rw z ?_
 obtain ⟨_,bf,aA⟩:=bdS ba;refine Wf (σ:=(List m_)×Int) (ρ:=(List m_)×Int) (fun (aQ:Nat) s a w=>un2 (fun xq xl=>∃O nb cc J,Sat 98 [(2,sl A7 N7 C7),(4,Str.v x5),(5,pt w0.z),(12,pt wi.z),(13,pt wk.z),(14,vI rh),(16,sl O nb cc),(17,vI xl),(21,vI ((aQ:Nat):Int))] a/\Chg (· ∈ [G.z]) I w/\a_ w J (sl O nb cc) xq/\J.Nodup/\(∀k∈J,k∈[G.z]∨I.z<=k)/\inI xl) s) (fun s a w=>un2 (fun xq xl=>∃O nb cc J,Sat 98 [(14,vI rh),(16,sl O nb cc)] a/\Chg (· ∈ [G.z]) I w/\a_ w J (sl O nb cc) xq/\J.Nodup/\(∀k∈J,k∈[G.z]∨I.z<=k)/\inI xl) s) (fun r ex a w=>ex = .ret/\w_ prog fn (Q20 w0 B r) a w) bf ?_ ?_ ?_ ?_ ?_
 ·exact fun _ q=>⟨some ⟨G.z,0,none⟩,1,1,[G.z],q.k<|s9 z z z z z z z z z,cr [G.z] I,((b_E ap<|e_w (x:=(⟨x5,x2,x4,rh⟩:m_)) p5_0 p2_0 p4_0 aJ).e s3).e sa,a_0,io sr,c5⟩
 ·rintro aQ ⟨xq,xl⟩ _ c6 _ V ⟨O,nb,cc,J,bg,se,hu,hv,hw,ae⟩ bh;refine Wu ?_ bg;refine Wq<|Wm z<|Rf z e_T z ?_
  have aR:=(((aL.e h5).e s3).e sa).c se<|djs<|mm1 ao.lt H.s
  refine R z (l0 g_o z<|aR.at z)<|R z (lnR d_46 z<|or_ ((((((L.e h2).c H<|ds<|mnr<|a_.lt L).e h5).e s3).e sa).c se<|ds<|mno (a_.lt L)<|lt_ h2.s H.s)<|a_.lt L)<|Rl z z z<|Wx z (fun _=>?_) (fun hc=>(P_ V hc).elim)
  refine Wk<|Wq<|Wb<|Wq (Wd (X:=noX) 0 (.rd 0<|.rd 1<|.rd 2<|.rd 3<|.rd 4<|.rd 6<|.rd 7<|.rd 8<|.rd 9<|.rd 10<|.rd 11<|.ef 5<|.ef 12<|.rd 13<|.ef 14<|.rd 15<|.rd 16<|.rd 17<|.rd 18<|.rd 19 .done) mo (by kernel_rfl) fun c7 sf _=>?_)
  have aS:=lt_ (lt_ hg.s hd.s) s6.s;refine dR z z (lN (vs:=[sl A0 N0 C0]) J_ E_ z z fid<|((((((((am.e s6).e h2).c H<|djs<|mm1 ho.lt aS).e h5).e s3).e sa).c se<|djs<|mm1 ho.lt<|lt_ (lt_ aS h2.s) H.s).e sf).row 0 1 z) ?_;have aT:=(((aq.e s3).e sa).c se<|djs<|mm1 al.lt<|lt_ (lt_ aM h2.s) H.s).e sf;refine dR z z (lN (vs:=vR xj az W Y a0 a1 a2 a3 a4 a5 a6 a7 a8) R_ u_ z z fid<|aT.row 0 8 z)<|dR z z (fd m_f z)<|dR z z (l0 g_3 z<|(aR.e sf).at z) ?_
  iterate 4 refine dM z z z ?_
  obtain ⟨_,c8,bi⟩:=bdS<|a_5 bh;refine dR z z (f_Z z z c8)<|dR z z (lN (vs:=vR xj az W Y a0 a1 a2 a3 a4 a5 a6 a7 a8) R_ u_ z z fid<|aT.row 0 8 z)<|dM z z z ?_
  have aU:=lt_ ab s6.s;have aV:∀k∈[wk.z],¬B k:=or0 (d_ lr)<|n_<|zt' hBw aU;have aW:=lt_ (lt_ aU h2.s) H.s;have aX:∀k∈[G.z],¬B k:=or0 (d_ lr)<|n_<|zt' hBw aW;have hx:=(((((((((hg.ag B).c hd<|f_ an).e s6).e h2).c H<|f_ aV).e h5).e s3).e sa).c se<|f_ aX).e sf;have aY:=lt_ (lt_ (lt_ (lt_ (lt_ aW h5.s) s3.s) sa.s) se.s) sf.s;obtain ⟨_,c9,bj⟩:=bdS bi;refine dE z z (fc call109 z<|k_z c9 (zt' hBw aY) aC aD aE (aF.g hx) (aG.g hx) (aH.g hx) (ak.g hx) bK<|ic (Nat.le_of_lt V)<|lt_ (a_.len L) A_) (.inr fun _ _ h=>F_<|h.1) ?_;rintro _ ca ⟨ss,rfl,cb⟩;have af:=hx.e ss;have aZ:=lt_ aY ss.s;obtain ⟨_,cd,bk⟩:=bdS bj;refine dE z z (fc call124 z<|W_w33 cd (zt' hBw aZ) aC aD aE (aF.g af) (aG.g af) (aH.g af) (ak.g af)<|ic (Nat.le_of_lt V)<|lt_ (a_.len L) A_) (.inr fun _ _ h=>F_<|h.1) ?_;rintro _ ce ⟨sy,rfl,_⟩;obtain ⟨_,b0,bm⟩:=bdS bk;refine dR z z (f_Z z z b0) ?_;have b1:=(((((((((aa.e s6).e h2).c H<|f_ aV).e h5).e s3).e sa).c se<|f_ aX).e sf).e ss).e sy;obtain ⟨_,cf,cg,bn⟩:=a_k bm;refine dE z z (fc call68 z<|bu.run cg (zt' hBw<|lt_ aZ sy.s) (p1_0.g b1) cb (p3_0.g b1) ae<|j_j b0) (.inr fun _ _ h=>F_<|h.1) ?_;rintro _ ch ⟨au,_,_,_,_,rfl,ci,cj,_,_⟩;refine dM z z z<|dR z z (ext_ z z)<|dR z z (ext_ z z)<|dQ z z z<|dQ z z z<|pD<|Wo<|Wm z<|Rm z ?_
  obtain ⟨ck,cl,bo⟩:=bdS bn;refine E z (fN (α:=m_) c_G cl z z ((((hu.e sf).e ss).e sy).e au) hv<|a_.rep ci) ?_;rintro _ cm ⟨b2,cn,co,cp,rfl,cq,ct,cu,cv⟩;refine Rw z<|Wg<|Rm z<|Rw z<|Wg<|Rm z<|R z (inc_ V (lt_ (a_.len L) A_) z z)<|Ra z<|Wl ?_
  have b3:∀k∈J,k∈[G.z]∨I.z<=k:=or1 hw (io sr)<|l_ lr;exact fun _ q=>⟨(ck,cf),(som bo).symm,⟨cn,co,cp,b2,q.k<|s9 z z z z z z z z z,(cM (i_ (i_ (i_ (i_ (cM (cr [G.z] I) se (io sr):Chg (· ∈ [G.z]) I c6) sf:Chg (· ∈ [G.z]) I c7) ss:Chg (· ∈ [G.z]) I ca) sy:Chg (· ∈ [G.z]) I ce) au:Chg (· ∈ [G.z]) I ch) cq b3:Chg (· ∈ [G.z]) I cm),ct,cu,(or1 cv b3 (l_<|lt_ (lt_ (lt_ (lt_ se.s sf.s) ss.s) sy.s) au.s):∀k∈b2,k∈[G.z]∨I.z<=k),cj⟩⟩
 ·rintro ⟨xq,xl⟩ _ cw ⟨O,nb,cc,J,bp,av,hu,hv,hw,ae⟩;refine Wu ?_ bp;refine Wq<|Wm z<|Rf z e_T z<|R z (l0 g_o z<|((((aL.e h5).e s3).e sa).c av<|djs<|mm1 ao.lt H.s).at z)<|R z (lnR d_46 z<|or_ ((((((L.e h2).c H<|ds<|mnr<|a_.lt L).e h5).e s3).e sa).c av<|ds<|mno (a_.lt L)<|lt_ h2.s H.s)<|a_.lt L)<|Rl z z z<|Wx z (fun hc=>(Q_ hc).elim) (fun _=>?_)
  exact We<|fun a' ha'=>⟨rfl,⟨O,nb,cc,J,Sat.weaken ha'<|s2 z z,(cM (cr [G.z] I) av (io sr):Chg (· ∈ [G.z]) I cw),hu,hv,(or1 hw (io sr) (l_ lr):∀k∈J,k∈[G.z]∨I.z<=k),ae⟩⟩
 ·rintro ⟨xq,xl⟩ cx _ rfl ⟨O,nb,cc,J,_,cy,hu,hv,hw,ae⟩;have bq:=elL aA;revert cx;refine Wo<|Wm z<|Rm z<|Ra z<|Rw z ?_
  obtain rfl:=som<|a_5 bq;have b4:=lt_ ab s6.s;have b5:=lt_ (lt_ b4 h2.s) H.s;have b6:=m1 b5;exact Wr<|Y_ hr z z ⟨bM (bup (bup (bup (bM (bup (bup (bM (bup hn hg) hd<|m1 hn.s) s6) h2) H<|m1 b4) h5) s3) sa) cy b6,O,nb,cc,J,z,hu,aJ,hv,a_Y hw b6<|lt_ (lt_ (lt_ b5 h5.s) s3.s) sa.s⟩
 rintro _ _ _ _ rfl ⟨rfl,bs⟩;have bt:=elR aA;obtain rfl:=som bt;exact ⟨bs,z⟩
theorem A_w08:∀n,q_0 n
  | 0=>⟨fun hm=>by intros;exact nomatch (show none=some _ from hm)⟩
  | n+1=>T_w08<|A_w08 n
theorem W_w08:m_v (f_6 n).spec_l19Build:=A_w08 n
def Q21 (w0:World)(B:Zone)(r:(List m_)×Bool)(v:Value)(w':World):Prop:=Bw w0 w'/\un2 (fun I J=>∃h G H S1,v = .tuple #[sl h G H,vB J]/\a_ w' S1 (sl h G H) I/\S1.Nodup/\(∀k∈S1,w0.z<=k)) r
theorem W_w34 {x1:e_}{x2:List UInt8}{res:(List m_)×Bool}(hm:i_w n x1 x2=some res)(hBw:B<=w0.z)(p1_0:repS w0 B (sl A0 N0 C0) x1.rules)(p2_0:repS w0 B (sl A3 N3 C3) x2):h_ prog 15 [(.agg #[sl A0 N0 C0]),sl A3 N3 C3] w0 (Q21 w0 B res):=by
 unfold i_w at hm
 refine goF func15 z z (lb z) fun fn hr=>Ws<|E z (fb z) ?_
 rintro _ wd ⟨rfl,h5⟩;have G:=h5.below;have h6:Blk wd w0.z [sl A0 N0 C0]:=h5.blk;refine Ra z<|Rw z<|Wq<|Ws<|R z (lN (vs:=[sl A0 N0 C0]) J_ E_ z z fid<|h6.row 0 1 z)<|Rm z ?_
 obtain ⟨_,ee,I⟩:=bdS hm;refine E z (fc call18 z<|W_w1b ee (zt' hBw G.s) (p1_0.e G)<|p2_0.e G) ?_;rintro _ wf ⟨s1,rfl⟩;refine R z (not_ z)<|Wx z (fun H=>?_) (fun H=>?_)
 ·refine Ws<|E z (f0 (α:=m_) c_G) ?_
  rintro _ _ ⟨ah,ng,ci,rfl,sj,hk⟩;refine Ra z<|Rw z ?_
  obtain rfl:=som<|ifT I H;exact Wr<|Y_ hr z z ⟨bup (bup G s1) sj,ah,ng,ci,[wf.z],z,hk,a_0,m1<|lt_ G.s s1.s⟩
 refine Wk<|Wq (Wd (X:=noX) 0 (.rd 0<|.rd 1<|.rd 3<|.ef 2<|.ef 4<|.rd 5<|.rd 6<|.rd 7<|.rd 8<|.rd 9 .done) mo (by kernel_rfl) fun O s2 _=>?_)
 have J:=(h6.e s1).e s2;refine dR z z (lN (vs:=[sl A0 N0 C0]) J_ E_ z z fid<|J.row 0 1 z)<|dR z z (lN (vs:=[sl A0 N0 C0]) J_ E_ z z fid<|J.row 0 1 z)<|dM z z z ?_
 have L:=((G.ag B).e s1).e s2;have ha:=lt_ (lt_ G.s s1.s) s2.s;obtain ⟨_,el,hmm⟩:=bdS<|ifF I H;refine dE z z (fc call65 z<|m_n el (zt' hBw ha)<|p1_0.g L) (.inr fun _ _ h=>F_<|h.1) ?_;rintro _ _ ⟨s4,rfl,hn⟩;have hb:=L.e s4;have hc:=lt_ ha s4.s;obtain ⟨_,_,eo,hmp⟩:=a_k hmm;refine dE z z (fc call68 z<|W_w08.run eo (zt' hBw hc) (p1_0.g hb) hn (p2_0.g hb) (ii z)<|lb z) (.inr fun _ _ h=>F_<|h.1) ?_;rintro _ _ ⟨sq,ar,ns,ct,Su,rfl,hv,_,hw,hx⟩;refine dM z z z<|dR z z (ext_ z z)<|dR z z (ext_ z z)<|dQ z z z<|dQ z z z<|pD<|Wo<|Wm z<|Ra z<|Rw z ?_
 obtain rfl:=som hmp;exact Wr<|Y_ hr z z ⟨bup (bup (bup (bup G s1) s2) s4) sq,ar,ns,ct,Su,z,hv,hw,s_ hx hc⟩
theorem W_w1c {x1:Str}{x2:UInt8}{res:(List Str)}(hm:g_A n x1 x2=some res)(hBw:B<=w0.z)(p1_0:x1.b.length<=LEN):h_ prog 120 [Str.v x1,vU<|byteI x2] w0 (Q2 w0 B res):=by
 unfold g_A at hm
 refine goF func120 z z (lb z) fun fn hr=>Ws<|Rw z<|Ws<|E z (f0 (α:=Str) b_q) ?_
 rintro _ G ⟨ae,af,ah,rfl,ss,aj⟩;refine Rw z<|Ws<|Rw z<|Wq<|Ws<|Rw z ?_
 obtain ⟨_,a1,hmr⟩:=bdS hm;refine b_u (σ:=(List Str)×Int×Int) (ρ:=List Str) (fun s a w=>un3 (fun V O x3=>∃a2 I J h,Sat 36 [(0,Str.v x1),(1,vU<|byteI x2),(5,sl a2 I J),(6,vI O),(7,vI x3)] a/\Chg (· ∈ [w0.z]) G w/\a_ w h (sl a2 I J) V/\h.Nodup/\(∀k∈h,k∈[w0.z]∨G.z<=k)/\inI O/\inI x3) s) (fun s a w=>un3 (fun V O x3=>∃a2 I J h,Sat 36 [(5,sl a2 I J)] a/\Chg (· ∈ [w0.z]) G w/\a_ w h (sl a2 I J) V/\h.Nodup/\(∀k∈h,k∈[w0.z]∨G.z<=k)/\inI O/\inI x3) s) (fun r ex a w=>ex = .ret/\w_ prog fn (Q2 w0 B r) a w) a1 ?_ ?_ ?_ ?_
 ·exact fun _ q=>⟨ae,af,ah,[w0.z],q.k<|s5 z z z z z,cr [w0.z] G,aj,a_0,io sr,ii z,ii z⟩
 ·rintro ⟨V,O,x3⟩ _ wa _ ⟨a2,I,J,h,a3,sm,hc,hd,hf,hl,hv⟩ a4;have hmw:=un3S a4;refine Wu ?_ a3;refine Wq<|Wm z<|Rm z<|R z (lnT d_9 z)<|R z (d_l z z)<|Wx z (fun hcn=>?_) (fun hcn=>?_)
  ·refine Wk<|Wq<|Wb<|Wq ?_
   obtain ⟨ak,hux,a5⟩:=bdS<|ifT hmw hcn;refine Wt (fun a w=>∃(xo:Bool),xo=ak/\Sat 36 [(0,Str.v x1),(1,vU<|byteI x2),(5,sl a2 I J),(6,vI O),(7,vI x3),(25,vB xo)] a/\Below wa.z wa w) ?_ ?_
   ·refine Wg<|RM z z<|R z (lnT d_9 z)<|Rq z z z<|Rm z ?_
    rcases bs (x3==(x1.b.length:Int)) with H | H
    ·iterate 5 refine Nh z H ?_
     exact R z (pT z H z)<|Wl (fun _ q=>⟨true,som<|ifT hux H,q.k<|s6 z z z z z z,br wa⟩)
    refine Rh z H (mv z)<|Rh z H (mv z) ?_
    obtain ⟨al,ey,a6⟩:=bdS<|ifF hux H;exact Rh z H (c_o d_9 z z (a_A ey).1 (a_A ey).2.1)<|Rh z H (mv z)<|Rh z H (eql z z)<|R z (pF z H z)<|Wl (fun _ q=>⟨(byteI al)==(byteI x2),som a6,q.k<|s6 z z z z z z,br wa⟩)
   rintro am L ⟨xo,rfl,_,sg⟩;revert am;refine Wo ?_;obtain ⟨an,huz,a7⟩:=bdS a5;refine Wt (fun a w=>∃(xh:List Str)(xe:Int),(xh,xe)=an/\∃ai nj ck Sb,Sat 36 [(0,Str.v x1),(1,vU<|byteI x2),(5,sl ai nj ck),(6,vI xe),(7,vI x3)] a/\Chg (· ∈ h) L w/\a_ w Sb (sl ai nj ck) xh/\Sb.Nodup/\(∀k∈Sb,k∈h∨L.z<=k)/\inI xe) ?_ ?_
   ·refine Wc z (fun hcp=>?_)<|fun hcp=>?_
    ·refine Wm z<|RM z z<|Rm z ?_
     obtain ⟨ao,eq,a8⟩:=bdS<|ifT huz hcp;refine R z (l_m d_9 z z z p1_0 eq)<|E z (fS [(.tmp 30)] b_q z z z (a_z z) (lb z)<|lb z) ?_
     rintro _ W ⟨rfl,ht⟩;have hu:=ht.below;have aK:=b_E ht<|c_y<|g_0 eq p1_0
     obtain ⟨ap,aq,a9⟩:=bdS a8;refine E z (b_d (α:=Str) b_q aq z z ((hc.e sg).e hu) hd (ht.blk:Blk W L.z [Str.v ao]) (c_y<|g_0 eq p1_0) an_ H_) ?_;rintro _ ar ⟨Y,au,av,aw,rfl,ax,ay,az,aA⟩;refine Rw z<|Wg<|Rm z<|R z (add_ z z)<|Ra z<|Wl ?_
     exact fun _ q=>⟨ap,b_ x3 1,som a9,au,av,aw,Y,q.k<|s5 z z z z z,(cM (i_ (cr h L) hu:Chg (· ∈ h) L W) ax (io sr):Chg (· ∈ h) L ar),ay,az,(or2 aA (io sr) an_ (l_ hu.s):∀k∈Y,k∈h∨L.z<=k),iA _ _⟩
    exact a_e<|fun _ q=>⟨V,O,som<|ifF huz hcp,a2,I,J,h,q.k<|s5 z z z z z,cr h L,hc.e sg,hd,io sr,hl⟩
   rintro aB aC ⟨xh,xe,rfl,ai,nj,ck,Sb,_,aD,aE,aF,aG,aH⟩;revert aB;refine Wo<|Wg<|Rm z<|R z (add_ z z)<|Ra z<|Wl ?_
   have a0:∀k∈h,k∈[w0.z]∨G.z<=k:=or1 hf (io sr)<|l_ lr;exact fun _ q=>⟨(xh,xe,b_ x3 1),(som<|a_5 a7).symm,⟨ai,nj,ck,Sb,q.k<|s5 z z z z z,(cM (i_ (cM (cr [w0.z] G) sm (io sr):Chg (· ∈ [w0.z]) G wa) sg:Chg (· ∈ [w0.z]) G L) aD a0:Chg (· ∈ [w0.z]) G aC),aE,aF,(or1 aG a0 (l_<|lt_ sm.s sg.s):∀k∈Sb,k∈[w0.z]∨G.z<=k),aH,iA _ _⟩⟩
  exact We<|fun a' ha'=>b_e (som<|ifF hmw hcn).symm ⟨a2,I,J,h,Sat.weaken ha'<|s1 z,(cM (cr [w0.z] G) sm (io sr):Chg (· ∈ [w0.z]) G wa),hc,hd,(or1 hf (io sr) (l_ lr):∀k∈h,k∈[w0.z]∨G.z<=k),hl,hv⟩
 ·rintro ⟨V,O,x3⟩ aI _ rfl ⟨a2,I,J,h,_,aJ,hc,hd,hf,hl,hv⟩;have aa:=elL hmr;revert aI;refine Wo<|Wm z<|Rw z ?_
  obtain rfl:=som<|un3S aa;exact Wr<|c_ hr z ⟨bM ss aJ<|d_ lr,a2,I,J,h,z,hc,hd,(or1 hf (d_ lr) (a_S ss.s):∀k∈h,w0.z<=k)⟩
 rintro _ _ _ _ rfl ⟨rfl,ab⟩;have ad:=elR hmr;obtain rfl:=som ad;exact ⟨ab,z⟩
def Q22 (w0:World)(B:Zone)(r:Int×Bool)(v:Value)(w':World):Prop:=Bw w0 w'/\un2 (fun h G=>v = .tuple #[vI h,vB G]/\inI h) r
theorem W_w1d {x1:Str}{res:Int×Bool}(hm:g_B n x1=some res)(hBw:B<=w0.z)(p1_0:x1.b.length<=LEN):h_ prog 138 [Str.v x1] w0 (Q22 w0 B res):=by
 unfold g_B at hm
 refine goF func138 z z (lb z) fun fn hr=>Ws<|Ra z<|Rw z<|Wq<|Wm z<|R z (lnT d_9 z) ?_
 obtain ⟨_,en,hmc⟩:=bdS hm;refine E z (fc call103 z<|b_c (B:=B) en hBw (b_W p1_0) (ii z)<|ii z) ?_;rintro _ G ⟨s4,rfl⟩;refine R z (not_ z)<|Wx z (fun H=>?_) (fun H=>?_)
 ·refine Ws<|Ra z<|Rw z ?_
  obtain rfl:=som<|ifT hmc H;exact Wr<|Y_ hr z z ⟨s4,z,ii z⟩
 refine Wk<|Ws<|Rw z<|Wq<|Ws<|Rw z ?_
 obtain ⟨_,huo,hmd⟩:=bdS<|ifF hmc H;refine Wf (σ:=Int) (ρ:=Int×Bool) (fun (ke:Nat)(x0:Int) a w=>Sat 39 [(0,Str.v x1),(4,vI x0),(5,vI ((ke:Nat):Int))] a/\Below G.z G w/\inI x0) (fun (x0:Int) a w=>Sat 39 [(0,Str.v x1),(4,vI x0)] a/\Below G.z G w/\inI x0) (fun r ex a w=>ex = .ret/\w_ prog fn (Q22 w0 B r) a w) huo ?_ ?_ ?_ ?_ ?_
 ·exact fun _ q=>⟨q.k<|s3 z z z,br G,ii z⟩
 ·rintro ke x0 _ _ _ hkf ⟨hSp,s6,h3⟩ hmq;refine Wu ?_ hSp;refine Wq<|Wm z<|Rm z<|R z (lnT d_9 z)<|Rl z z z<|Wx z (fun _=>?_) (fun hc=>(P_ hkf hc).elim)
  refine Wk<|Wq<|Wb<|Wq<|Wm z<|Rm z ?_
  obtain ⟨_,eg,hmr⟩:=bdS hmq;refine R z (c_o d_9 z z (a_A eg).1 (a_A eg).2.1)<|R z (b_i d_5 d_3 z) ?_
  obtain ⟨_,es,hmh⟩:=bdS hmr;refine E z (fc call103 z<|b_c es (zt' hBw<|lt_ s4.s s6.s) (c_M _) (ii z)<|ii z) ?_;rintro _ _ ⟨si,rfl⟩;refine R z (not_ z)<|Wx z (fun I=>?_) (fun I=>?_)
  ·exact Ws<|Ra z<|Rw z<|Wr<|rtO<|qL (som<|ifT hmh I).symm<|Y_ hr z z ⟨bup (bup s4 s6) si,z,ii z⟩
  refine Wk<|Wg<|Rm z<|R z (g_8 z z)<|RM z z ?_
  obtain ⟨xt,ej,hmu⟩:=bdS<|ifF hmh I;exact R z (c_o d_9 z z (a_A ej).1 (a_A ej).2.1)<|R z (n_d z z)<|R z (b_i d_5 d_3 z)<|R z (add_ z z)<|Rw z<|Wg<|Rm z<|R z (inc_ hkf (lt_ p1_0 A_) z z)<|Ra z<|Wl (fun _ q=>⟨b_ (b_6 10 x0)<|byteI<|mkB (byteI xt - byteI (48:UInt8)),(som hmu).symm,⟨q.k<|s3 z z z,bup s6 si,iA _ _⟩⟩)
 ·rintro x0 _ _ ⟨hSv,sw,h3⟩;refine Wu ?_ hSv;refine Wq<|Wm z<|Rm z<|R z (lnT d_9 z)<|Rl z z z<|Wx z (fun hc=>(Q_ hc).elim) (fun _=>?_)
  exact We<|fun a' ha'=>⟨rfl,⟨Sat.weaken ha'<|s2 z z,sw,h3⟩⟩
 ·rintro x0 ax J rfl ⟨_,s9,h3⟩;have hmy:=elL hmd;revert ax;refine Wo<|Wq<|Wq ?_
  obtain ⟨uz,huk,hml⟩:=bdS hmy;refine Wt (fun a w=>∃(xa:Bool),xa=uz/\Sat 39 [(4,vI x0),(37,vB xa)] a/\Below J.z J w) ?_ ?_
  ·refine Wg<|Rm z<|R z (Z_ z z)<|Rm z ?_
   rcases bs (decide<|1000000000000<x0) with h | h
   ·iterate 4 refine Nh z h ?_
    exact R z (pT z h z)<|Wl (fun _ q=>⟨true,som<|ifT huk h,q.k<|s2 z z,br J⟩)
   refine Rh z h (mv z) ?_;obtain ⟨W,Y,L⟩:=bdS<|ifF huk h;refine Eg z z h z (fc call162 z<|m_u Y (zt' hBw<|lt_ s4.s s9.s) h3) ?_;rintro _ _ ⟨a0,rfl,_⟩;exact Rh z h (mv z)<|Rh z h (e_9 z z)<|R z (pF z h z)<|Wl (fun _ q=>⟨W.b != x1.b,som L,q.k<|s2 z z,a0⟩)
  rintro a1 _ ⟨xa,rfl,_,sm⟩;revert a1;refine Wo<|Wc z (fun hcb=>?_) (fun hcb=>?_)
  ·refine Ws<|Ra z<|Rw z ?_
   obtain rfl:=som<|ifT hml hcb;exact Wr<|Y_ hr z z ⟨bup (bup s4 s9) sm,z,ii z⟩
  refine Wk<|Wm z<|Ra z<|Rw z ?_
  obtain rfl:=som<|ifF hml hcb;exact Wr<|Y_ hr z z ⟨bup (bup s4 s9) sm,z,h3⟩
 rintro _ _ _ _ rfl ⟨rfl,O⟩;have V:=elR hmd;obtain rfl:=som V;exact ⟨O,z⟩
theorem W_w1e {x1:Str}{res:Bool}(hm:e_r n x1=some res)(hBw:B<=w0.z)(p1_0:x1.b.length<=LEN):h_ prog 121 [Str.v x1] w0 (Q11 w0 B res):=by
 unfold e_r at hm
 refine goF func121 z z (lb z) fun fn hr=>Ws<|Rw z<|Wq<|Wq ?_
 obtain ⟨ug,huh,hma⟩:=bdS hm;refine Wt (fun a w=>∃(x6:Bool),x6=ug/\Sat 31 [(0,Str.v x1),(18,vB x6)] a/\Below w0.z w0 w) ?_ ?_
 ·refine Wg<|Rm z ?_
  obtain ⟨ri,ej,hmb⟩:=bdS huh;refine E z (fc call173 z<|k_w (B:=B) ej hBw p1_0) ?_;rintro _ _ ⟨s4,rfl⟩;refine Rm z ?_
  rcases bs ri with G | G
  ·exact Nh z G<|Nh z G<|R z (pT z G z)<|Rm z<|Nh z z<|Nh z z<|R z (pT z z z)<|Rm z<|Nh z z<|Nh z z<|R z (pT z z z)<|Wl (fun _ q=>⟨true,som<|ifT hmb G,q.k<|s2 z z,s4⟩)
  have hmc:=ifF hmb G;refine Rh z G (mv z)<|Rh z G (a_R z z)<|R z (pF z G z)<|Rm z ?_
  rcases bs (x1.b==(⟨[42]⟩:Str).b) with H | H
  ·exact Nh z H<|Nh z H<|R z (pT z H z)<|Rm z<|Nh z z<|Nh z z<|R z (pT z z z)<|Wl (fun _ q=>⟨true,som<|ifT hmc H,q.k<|s2 z z,s4⟩)
  have hmd:=ifF hmc H;refine Rh z H (mv z)<|Rh z H (a_R z z)<|R z (pF z H z)<|Rm z ?_
  rcases bs (x1.b==(⟨[63]⟩:Str).b) with I | I
  ·exact Nh z I<|Nh z I<|R z (pT z I z)<|Wl (fun _ q=>⟨true,som<|ifT hmd I,q.k<|s2 z z,s4⟩)
  exact Rh z I (mv z)<|Rh z I (a_R z z)<|R z (pF z I z)<|Wl (fun _ q=>⟨x1.b==(⟨[43]⟩:Str).b,som<|ifF hmd I,q.k<|s2 z z,s4⟩)
 rintro ak _ ⟨x6,rfl,_,s5⟩;revert ak;refine Wo<|Wc z (fun J=>?_) (fun J=>?_)
 ·refine Ws<|Rw z ?_
  obtain rfl:=som<|ifT hma J;exact Wr<|c_ hr z ⟨s5,z⟩
 refine Wk<|Wm z ?_
 obtain ⟨_,rl,em,hmn⟩:=a_k<|ifF hma J;refine E z (fc call138 z<|W_w1d em (zt' hBw s5.s) p1_0) ?_;rintro _ L ⟨se,rfl,ho⟩;refine Rm z<|Re z z z<|Re z z z<|Ra z<|Rw z<|Wq ?_
 obtain ⟨up,huf,hmq⟩:=bdS hmn;refine Wt (fun a w=>∃(O:Bool),O=up/\Sat 31 [(2,vB O)] a/\Below L.z L w) ?_ ?_
 ·refine Wg<|RM z z ?_
  rcases bs rl with h | h
  ·refine Rh z h (mv z) ?_;obtain ⟨rr,es,hmt⟩:=bdS<|ifT huf h;refine Eg z z h z (fc call162 z<|m_u es (zt' hBw<|lt_ s5.s se.s) ho) ?_;rintro _ _ ⟨su,rfl,_⟩;exact Rh z h (mv z)<|Rh z h (a_R z z)<|R z (pT z h z)<|Ra z<|Wl (fun _ q=>⟨rr.b==x1.b,som hmt,q.k<|s1 z,su⟩)
  iterate 4 refine Nh z h ?_
  exact R z (pF z h z)<|Ra z<|Wl (fun _ q=>⟨false,som<|ifF huf h,q.k<|s1 z,br L⟩)
 rintro av _ ⟨O,rfl,_,sw⟩;revert av;refine Wo ?_;obtain rfl:=som hmq;exact Wr<|c_ hr z ⟨bup (bup s5 se) sw,z⟩
def Q23 (w0:World)(B:Zone)(r:(List Str)×Bool)(v:Value)(w':World):Prop:=Bw w0 w'/\un2 (fun I J=>∃h G H,v = .tuple #[sl h G H,vB J]/\repS w' w'.z (sl h G H) I) r
theorem W_w35 {x1:Str}{res:(List Str)×Bool}(hm:i_A n x1=some res)(hBw:B<=w0.z)(p1_0:x1.b.length<=LEN):h_ prog 74 [Str.v x1] w0 (Q23 w0 B res):=by
 unfold i_A at hm
 refine goF func74 z z (lb z) fun fn hr=>Ws<|Ra z<|Rw z<|Wq<|Wm z<|R z (a_R z z)<|Wx z (fun hcb=>?_) (fun hcb=>?_)
 ·refine Ws<|E z (f0 (α:=Str) b_q) ?_
  rintro _ _ ⟨ai,aj,ak,rfl,al,am⟩;refine Ra z<|Rw z ?_
  obtain rfl:=som<|ifT hm hcb;exact Wr<|Y_ hr z z ⟨al,ai,aj,ak,z,a_.rep am⟩
 refine Wk<|Wm z ?_
 obtain ⟨an,ao,a2⟩:=bdS<|ifF hm hcb;refine E z (fc call120 z<|W_w1c (B:=B) ao hBw p1_0) ?_;rintro _ I ⟨sc,ad,ne,cf,_,rfl,h2,_,_⟩;refine Rw z<|Wq<|Ws<|Rw z ?_
 obtain ⟨_,a3,hmp⟩:=bdS a2;refine b_u (σ:=Int) (ρ:=(List Str)×Bool) (fun (x4:Int) a w=>Sat 49 [(4,sl ad ne cf),(5,vI x4)] a/\Below I.z I w/\inI x4) (fun (x4:Int) a w=>Sat 49 [(4,sl ad ne cf)] a/\Below I.z I w/\inI x4) (fun r ex a w=>ex = .ret/\w_ prog fn (Q23 w0 B r) a w) a3 ?_ ?_ ?_ ?_
 ·exact fun _ q=>⟨q.k<|s2 z z,br I,ii z⟩
 ·rintro x4 _ wq _ ⟨a4,s6,ht⟩ hmr;refine Wu ?_ a4;refine Wq<|Wm z<|Rm z ?_
  have hg:=h2.e s6;refine R z (lnR G_ z<|or_ hg<|a_.lt h2)<|Rl z z z<|Wx z (fun hch=>?_) (fun hch=>?_)
  ·refine Wk<|Wq<|Wb<|Wq ?_
   obtain ⟨ap,a5,hms⟩:=bdS<|ifT hmr hch;refine Wt (fun a w=>∃(xi:Bool),xi=ap/\Sat 49 [(4,sl ad ne cf),(5,vI x4),(36,vB xi)] a/\Below wq.z wq w) ?_ ?_
   ·refine Wg<|RM z z ?_
    obtain ⟨_,aq,a6⟩:=bdS a5;refine RX z (at_ (α:=Str) G_ z_9 z z z (or_ hg<|a_.lt h2) aq) ?_;rintro _ ⟨_,_,_,rfl,ar,au,_⟩;obtain ⟨rfl,av⟩:=a_r au;refine R z (l0 g_9 z<|ar.at0 z) ?_;obtain ⟨aw,ax,hmu⟩:=bdS a6;refine E z (fc call121 z<|W_w1e ax (zt' hBw<|lt_ sc.s s6.s) av) ?_;rintro _ _ ⟨s7,rfl⟩;refine R z (not_ z)<|Rm z ?_
    rcases bs (!aw) with h | h
    ·refine Rh z h (mv z)<|Rh z h (mv z) ?_
     obtain ⟨ay,az,hmv⟩:=bdS<|ifT hmu h;have hw:=hg.e s7;refine RXg z z h z (at_ (α:=Str) G_ z_9 z z z (or_ hw<|a_.lt h2) az) ?_;rintro _ ⟨_,_,_,rfl,aA,aB,_⟩;obtain ⟨rfl,_⟩:=a_r aB;refine Rh z h (l0 g_9 z<|aA.at0 z)<|Rh z h (e_9 z z)<|R z (pT z h z)<|Rm z ?_
     rcases bs (ay.b != (⟨[35]⟩:Str).b) with G | G
     ·refine Rh z G (mv z)<|Rh z G (mv z) ?_
      obtain ⟨aC,aD,a7⟩:=bdS<|ifT hmv G;refine RXg z z G z (at_ (α:=Str) G_ z_9 z z z (or_ hw<|a_.lt h2) aD) ?_;rintro _ ⟨_,_,_,rfl,aE,aF,_⟩;obtain ⟨rfl,_⟩:=a_r aF;exact Rh z G (l0 g_9 z<|aE.at0 z)<|Rh z G (e_9 z z)<|R z (pT z G z)<|Wl (fun _ q=>⟨aC.b != (⟨[46,46]⟩:Str).b,som a7,q.k<|s3 z z z,s7⟩)
     iterate 5 refine Nh z G ?_
     exact R z (pF z G z)<|Wl (fun _ q=>⟨false,som<|ifF hmv G,q.k<|s3 z z z,s7⟩)
    iterate 5 refine Nh z h ?_
    exact R z (pF z h z)<|Rm z<|Nh z z<|Nh z z<|Nh z z<|Nh z z<|Nh z z<|R z (pF z z z)<|Wl (fun _ q=>⟨false,som<|ifF hmu h,q.k<|s3 z z z,s7⟩)
   rintro aG _ ⟨xi,rfl,_,sx⟩;revert aG;refine Wo<|Wc z (fun hcj=>?_) (fun hcj=>?_)
   ·refine Ws<|E z (f0 (α:=Str) b_q) ?_
    rintro _ _ ⟨aH,aI,aJ,rfl,aK,aL⟩;exact Ra z<|Rw z<|Wr<|rtO<|qL (som<|ifT hms hcj).symm<|Y_ hr z z ⟨bup (bup (bup sc s6) sx) aK,aH,aI,aJ,z,a_.rep aL⟩
   exact Wk<|Wg<|Rm z<|R z (add_ z z)<|Ra z<|Wl (fun _ q=>⟨b_ x4 1,(som<|ifF hms hcj).symm,⟨q.k<|s2 z z,bup s6 sx,iA _ _⟩⟩)
  exact We<|fun a' ha'=>b_e (som<|ifF hmr hch).symm ⟨Sat.weaken ha'<|s1 z,s6,ht⟩
 ·rintro x4 aM wy rfl ⟨_,sk,ht⟩;have a9:=elL hmp;revert aM;refine Wo<|Wq ?_
  obtain ⟨aN,aa,ab⟩:=bdS a9;refine Wt (fun a w=>∃(xl:List Str)(xm:Bool),(xl,xm)=aN/\∃J L ca,Sat 49 [(2,sl J L ca),(3,vB xm)] a/\Below wy.z wy w/\repS w I.z (sl J L ca) xl) ?_ ?_
  ·refine Wd (X:=noX) 0 (pl_ 13 []) mo (by kernel_rfl) fun aV sn _=>dM z z z ?_
   obtain ⟨xz,aO,ae⟩:=bdS aa;have ho:=(h2.e sk).e sn;refine dRX z z (rX G_ z_9 z z (or_ ho<|a_.lt h2) z z aO) ?_;rintro _ ⟨V,W,Y,rfl,a0⟩;refine dM z z z ?_;obtain ⟨aP,aQ,O⟩:=bdS ae;refine dRX z z (at_ (α:=Str) G_ z_9 z z z (or_ ho<|a_.lt h2) aQ) ?_;rintro _ ⟨_,_,_,rfl,aR,aS,_⟩;obtain ⟨rfl,_⟩:=a_r aS;refine dR z z (l0 g_9 z<|aR.at0 z)<|dR z z (a_R z z)<|dM z z z ?_
   rcases bs (aP.b==(⟨[]⟩:Str).b) with H | H
   ·exact dRg z z z H z (mv z)<|dRg z z z H z (lnR G_ z<|or_ ho<|a_.lt h2)<|dRg z z z H z (Z_ z z)<|dR z z (pT z H z)<|dQ z z z<|dQ z z z<|pD (fun _ q=>⟨xz,decide<|1<(an.length:Int),som<|ifT O H,V,W,Y,q.k<|s2 z z,sn,a0⟩)
   iterate 3 refine dRn z z z H z ?_
   exact dR z z (pF z H z)<|dQ z z z<|dQ z z z<|pD (fun _ q=>⟨xz,false,som<|ifF O H,V,W,Y,q.k<|s2 z z,sn,a0⟩)
  rintro aT _ ⟨xl,xm,rfl,J,L,ca,_,a1,aU⟩;revert aT;refine Wo ?_;obtain rfl:=som<|a_5 ab;exact Wr<|Y_ hr z z ⟨bup (bup sc sk) a1,J,L,ca,z,repS.mono aU<|a_T<|lt_ sk.s a1.s⟩
 rintro _ _ _ _ rfl ⟨rfl,af⟩;have ah:=elR hmp;obtain rfl:=som ah;exact ⟨af,z⟩
theorem W_w36 {x1:Str}{res:(List Str)×Bool}(hm:h_Q n x1=some res)(hBw:B<=w0.z)(p1_0:x1.b.length<=LEN):h_ prog 63 [Str.v x1] w0 (Q23 w0 B res):=by
 unfold h_Q at hm
 refine goF func63 z z (lb z) fun fn hr=>Ws<|Ra z<|Rw z<|Wq<|Wm z<|R z (a_R z z)<|Wx z (fun H=>?_) (fun H=>?_)
 ·refine Ws<|E z (f0 (α:=Str) b_q) ?_
  rintro _ _ ⟨al,nm,cn,rfl,so,hp⟩;refine Ra z<|Rw z ?_
  obtain rfl:=som<|ifT hm H;exact Wr<|Y_ hr z z ⟨so,al,nm,cn,z,a_.rep hp⟩
 refine Wk<|Wm z ?_
 obtain ⟨_,eq,hmr⟩:=bdS<|ifF hm H;refine E z (fc call120 z<|W_w1c (B:=B) eq hBw p1_0) ?_;rintro _ G ⟨s4,aa,nb,cc,_,rfl,h,_,_⟩;refine Rw z<|Wq<|Wm z ?_
 obtain ⟨_,es,hmd⟩:=bdS hmr;refine RX z (at_ (α:=Str) G_ z_9 z z z (a_.rep h) es) ?_;rintro _ ⟨_,_,_,rfl,ht,hu,_⟩;obtain ⟨rfl,_⟩:=a_r hu;refine R z (l0 g_9 z<|ht.at0 z)<|R z (e_9 z z)<|Wx z (fun I=>?_) (fun I=>?_)
 ·refine Ws<|E z (f0 (α:=Str) b_q) ?_
  rintro _ _ ⟨av,nw,cx,rfl,sy,hz⟩;refine Ra z<|Rw z ?_
  obtain rfl:=som<|ifT hmd I;exact Wr<|Y_ hr z z ⟨bup s4 sy,av,nw,cx,z,a_.rep hz⟩
 refine Wk<|Wq<|Ws<|Rw z ?_
 obtain ⟨_,O,hme⟩:=bdS<|ifF hmd I;refine b_u (σ:=Int) (ρ:=(List Str)×Bool) (fun (x2:Int) a w=>Sat 34 [(4,sl aa nb cc),(5,vI x2)] a/\Below G.z G w/\inI x2) (fun (x2:Int) a w=>Sat 34 [(4,sl aa nb cc)] a/\Below G.z G w/\inI x2) (fun r ex a w=>ex = .ret/\w_ prog fn (Q23 w0 B r) a w) O ?_ ?_ ?_ ?_
 ·exact fun _ q=>⟨q.k<|s2 z z,br G,ii z⟩
 ·rintro x2 _ _ _ ⟨V,s3,hf⟩ hmg;refine Wu ?_ V;refine Wq<|Wm z<|Rm z ?_
  have hh:=h.e s3;refine R z (lnR G_ z<|or_ hh<|a_.lt h)<|Rl z z z<|Wx z (fun J=>?_) (fun J=>?_)
  ·refine Wk<|Wq<|Wb<|Wm z<|Rm z ?_
   obtain ⟨_,a3,W⟩:=bdS<|ifT hmg J;refine RX z (at_ (α:=Str) G_ z_9 z z z (or_ hh<|a_.lt h) a3) ?_;rintro _ ⟨_,_,_,rfl,a4,a5,_⟩;obtain ⟨rfl,a6⟩:=a_r a5;refine R z (l0 g_9 z<|a4.at0 z) ?_;obtain ⟨_,a7,hmi⟩:=bdS W;refine E z (fc call121 z<|W_w1e a7 (zt' hBw<|lt_ s4.s s3.s) a6) ?_;rintro _ _ ⟨sj,rfl⟩;refine R z (not_ z)<|Wx z (fun L=>?_) (fun L=>?_)
   ·refine Ws<|E z (f0 (α:=Str) b_q) ?_
    rintro _ _ ⟨a8,a9,ab,rfl,ad,ae⟩;exact Ra z<|Rw z<|Wr<|rtO<|qL (som<|ifT hmi L).symm<|Y_ hr z z ⟨bup (bup (bup s4 s3) sj) ad,a8,a9,ab,z,a_.rep ae⟩
   exact Wk<|Wg<|Rm z<|R z (add_ z z)<|Ra z<|Wl (fun _ q=>⟨b_ x2 1,(som<|ifF hmi L).symm,⟨q.k<|s2 z z,bup s3 sj,iA _ _⟩⟩)
  exact We<|fun a' ha'=>b_e (som<|ifF hmg J).symm ⟨Sat.weaken ha'<|s1 z,s3,hf⟩
 ·rintro x2 af _ rfl ⟨_,s9,hf⟩;have Y:=elL hme;revert af;refine Wo<|Wm z ?_
  obtain ⟨_,ah,a0⟩:=bdS Y;have hk:=h.e s9;refine RX z (rX G_ z_9 z z (or_ hk<|a_.lt h) z z ah) ?_;rintro _ ⟨ai,aj,ak,rfl,am⟩;refine Rm z<|R z (lnR G_ z<|or_ hk<|a_.lt h)<|R z (Z_ z z)<|Ra z<|Rw z ?_
  obtain rfl:=som a0;exact Wr<|Y_ hr z z ⟨bup s4 s9,ai,aj,ak,z,repS.mono am<|a_T s9.s⟩
 rintro _ _ _ _ rfl ⟨rfl,a1⟩;have a2:=elR hme;obtain rfl:=som a2;exact ⟨a1,z⟩
theorem W_w37 {x1:List Str}{x2:List Str}{res:Bool}(hm:i_B n x1 x2=some res)(hBw:B<=w0.z)(p1_0:repS w0 B (sl A0 N0 C0) x1)(p2_0:repS w0 B (sl A3 N3 C3) x2):h_ prog 75 [sl A0 N0 C0,sl A3 N3 C3] w0 (Q11 w0 B res):=by
 unfold i_B at hm
 refine goF func75 z z (lb z) fun fn hr=>Ws<|Rw z<|Wm z<|R z (lnR G_ z p2_0)<|R z (add_ z z) ?_
 obtain ⟨_,bL,b3⟩:=bdS hm;refine E z (d_j (α:=Bool) k_m (fun _=>b_x) bL z z) ?_;rintro _ _ ⟨bN,bO,bP,rfl,Y,az⟩;refine Rw z<|Wm z ?_
 obtain ⟨_,aA,b4⟩:=bdS b3;refine RX z (b_t (α:=Bool) b_b z_4 z z az aA) ?_;rintro _ ⟨_,bQ,rfl⟩;refine E0 (b_k (α:=Bool) z_4 z bQ z z z aA az a_0 b_x an_ H_) ?_;rintro _ wn ⟨Su,a0,bR,bS,_⟩;refine Wn<|Wq<|Ws<|Rw z ?_
 obtain ⟨_,b5,ak⟩:=bdS b4;refine Wf (σ:=List Bool) (ρ:=Bool) (fun (kp:Nat)(xv:List Bool) a w=>∃L O V Sd,Sat 111 [(0,sl A0 N0 C0),(1,sl A3 N3 C3),(5,sl L O V),(6,vI ((kp:Nat):Int))] a/\Below wn.z wn w/\a_ w Sd (sl L O V) xv/\Sd.Nodup/\(∀k∈Sd,k∈Su∨wn.z<=k)) (fun (xv:List Bool) a w=>∃L O V Sd,Sat 111 [(1,sl A3 N3 C3),(5,sl L O V)] a/\Below wn.z wn w/\a_ w Sd (sl L O V) xv/\Sd.Nodup/\(∀k∈Sd,k∈Su∨wn.z<=k)) (fun r ex a w=>ex = .ret/\w_ prog fn (Q11 w0 B r) a w) b5 ?_ ?_ ?_ ?_ ?_
 ·exact fun _ q=>⟨bN,bO,bP,Su,q.k<|s4 z z z z,br wn,bR,bS,io sr⟩
 ·rintro kp xv _ J _ al ⟨L,O,V,Sd,b6,sw,ho,ab,ad⟩ b7;refine Wu ?_ b6;refine Wq<|Wm z<|Rm z ?_
  have af:=((Y.ag B).c a0<|f_ (or0 (d_ lr) (n_ hBw):∀k∈[w0.z],¬B k)).e sw;refine R z (lnR G_ z<|p1_0.g af)<|Rl z z z<|Wx z (fun _=>?_) (fun hc=>(P_ al hc).elim)
  refine Wk<|Wq<|Wb<|Wm z<|R z (lnR G_ z<|p2_0.g af)<|R z (add_ z z) ?_
  obtain ⟨_,bT,b8⟩:=bdS b7;refine E z (d_j (α:=Bool) k_m (fun _=>b_x) bT z z) ?_;rintro _ wa ⟨ae,nf,cg,rfl,sx,bU⟩;refine Rw z<|Wq<|Ws<|Rw z ?_
  obtain ⟨_,b9,am⟩:=bdS b8;refine b_u (σ:=(List Bool)×Int) (ρ:=Bool) (fun s a w=>un2 (fun xr xb=>∃(h:List Nat),Sat 111 [(0,sl A0 N0 C0),(1,sl A3 N3 C3),(5,sl L O V),(6,vI ((kp:Nat):Int)),(7,sl ae nf cg),(8,vI xb)] a/\Chg (· ∈ [J.z]) wa w/\a_ w h (sl ae nf cg) xr/\h.Nodup/\(∀k∈h,k∈[J.z]∨wa.z<=k)/\inI xb) s) (fun s a w=>un2 (fun xr xb=>∃(h:List Nat),Sat 111 [(0,sl A0 N0 C0),(1,sl A3 N3 C3),(6,vI ((kp:Nat):Int)),(7,sl ae nf cg)] a/\Chg (· ∈ [J.z]) wa w/\a_ w h (sl ae nf cg) xr/\h.Nodup/\(∀k∈h,k∈[J.z]∨wa.z<=k)/\inI xb) s) (fun r ex a w=>ex = .ret/\w_ prog fn (Q11 w0 B r) a w) b9 ?_ ?_ ?_ ?_
  ·exact fun _ q=>⟨[J.z],q.k<|s6 z z z z z z,cr [J.z] wa,bU,a_0,io sr,ii z⟩
  ·rintro ⟨xr,xb⟩ _ G _ ⟨h,ba,ss,h5,hh,a3,aB⟩ bb;have an:=a_5 bb;refine Wu ?_ ba;refine Wq<|Wm z<|Rm z ?_
   have aC:=lt_ (lt_ Y.s a0.s) sw.s;have ah:=(af.e sx).c ss<|f_ (or0 (d_ lr) (n_<|zt' hBw aC):∀k∈[J.z],¬B k)
   refine R z (lnR G_ z<|p2_0.g ah)<|R z (d_l z z)<|Wx z (fun a8=>?_) (fun a8=>?_)
   ·refine Wk<|Wq ?_
    obtain ⟨bV,bc,be⟩:=bdS<|ifT an a8;refine Wt (fun a w=>∃(a4:List Bool),a4=bV/\∃(Sy:List Nat),Sat 111 [(0,sl A0 N0 C0),(1,sl A3 N3 C3),(5,sl L O V),(6,vI ((kp:Nat):Int)),(7,sl ae nf cg),(8,vI xb)] a/\Chg (· ∈ h) G w/\a_ w Sy (sl ae nf cg) a4/\Sy.Nodup/\(∀k∈Sy,k∈h∨G.z<=k)) ?_ ?_
    ·refine Wb<|Wq<|Wm z<|Rm z ?_
     obtain ⟨_,bW,ao⟩:=bdS bc;refine RX z (at_ (α:=Str) G_ z_9 z z z (p1_0.g ah) bW) ?_;rintro _ ⟨_,_,_,rfl,bX,bY,_⟩;obtain ⟨rfl,_⟩:=a_r bY;refine R z (l0 g_9 z<|bX.at0 z)<|R z (a_R z z)<|Wx z (fun a9=>?_) (fun a9=>?_)
     ·refine Wq ?_;obtain ⟨bZ,bf,bg⟩:=bdS<|ifT ao a9;refine Wt (fun a w=>∃(a5:List Bool),a5=bZ/\∃(Sz:List Nat),Sat 111 [(0,sl A0 N0 C0),(1,sl A3 N3 C3),(5,sl L O V),(6,vI ((kp:Nat):Int)),(7,sl ae nf cg),(8,vI xb)] a/\Chg (· ∈ h) G w/\a_ w Sz (sl ae nf cg) a5/\Sz.Nodup/\(∀k∈Sz,k∈h∨G.z<=k)) ?_ ?_
      ·refine Wg<|RM z z<|RM z z ?_
       obtain ⟨c0,c1,ap⟩:=bdS bf;refine RX z (at_ (α:=Bool) b_b z_4 z z z (or_ ((ho.e sx).c ss<|ds<|mnr<|a_.lt ho)<|a_.lt ho) c1) ?_;rintro _ ⟨_,_,_,rfl,c2,c3,_⟩;obtain rfl:=e_4 c3;refine R z (l0 g_4 z<|c2.at0 z)<|Rm z ?_
       rcases bs c0 with hcc | hcc
       ·iterate 3 refine Nh z hcc ?_
        refine Nv z<|Nv z<|Nv z<|Nv z<|Nv z<|Nh z hcc<|R z (pT z hcc z) ?_
        obtain ⟨c4,aD,bh⟩:=bdS<|ifT ap hcc;refine RX z (b_t (α:=Bool) b_b z_4 z z h5 aD) ?_;rintro _ ⟨_,c5,rfl⟩;refine E0 (b_k (α:=Bool) z_4 z c5 z z z aD h5 hh b_x an_ H_) ?_;rintro _ c6 ⟨aE,c7,c8,ca,cb⟩;refine Wl ?_;exact fun _ q=>⟨c4,som bh,aE,q.k<|s6 z z z z z z,(cM (cr h G) c7 (io sr):Chg (· ∈ h) G c6),c8,ca,(or2 cb (io sr) an_ (l_ lr):∀k∈aE,k∈h∨G.z<=k)⟩
       have aq:=ifF ap hcc;refine Rh z hcc (mv z)<|Rh z hcc (Z_ z z)<|Rh z hcc (mv z) ?_
       rcases bs (decide<|0<xb) with hcj | hcj
       ·refine Rh z hcj (mv z)<|Rh z hcj (mv z)<|Rh z hcj (sb_ z z) ?_
        obtain ⟨_,cc,bi⟩:=bdS<|ifT aq hcj;refine RXg z z hcj z (at_ (α:=Bool) b_b z_4 z z z (a_.rep h5) cc) ?_;rintro _ ⟨_,_,_,rfl,cd,ce,_⟩;obtain rfl:=e_4 ce;refine Rh z hcj (l0 g_4 z<|cd.at0 z)<|Rh z hcc (pT z hcj z)<|R z (pF z hcc z) ?_
        obtain ⟨cf,aF,bj⟩:=bdS bi;refine RX z (b_t (α:=Bool) b_b z_4 z z h5 aF) ?_;rintro _ ⟨_,ch,rfl⟩;refine E0 (b_k (α:=Bool) z_4 z ch z z z aF h5 hh b_x an_ H_) ?_;rintro _ ci ⟨aG,cj,ck,cl,cm⟩;refine Wl ?_;exact fun _ q=>⟨cf,som bj,aG,q.k<|s6 z z z z z z,(cM (cr h G) cj (io sr):Chg (· ∈ h) G ci),ck,cl,(or2 cm (io sr) an_ (l_ lr):∀k∈aG,k∈h∨G.z<=k)⟩
       iterate 5 refine Nh z hcj ?_
       refine Rh z hcc (pF z hcj z)<|R z (pF z hcc z) ?_
       obtain ⟨cn,aH,bk⟩:=bdS<|ifF aq hcj;refine RX z (b_t (α:=Bool) b_b z_4 z z h5 aH) ?_;rintro _ ⟨_,co,rfl⟩;refine E0 (b_k (α:=Bool) z_4 z co z z z aH h5 hh b_x an_ H_) ?_;rintro _ cp ⟨aI,cq,ct,cu,cv⟩;refine Wl ?_;exact fun _ q=>⟨cn,som bk,aI,q.k<|s6 z z z z z z,(cM (cr h G) cq (io sr):Chg (· ∈ h) G cp),ct,cu,(or2 cv (io sr) an_ (l_ lr):∀k∈aI,k∈h∨G.z<=k)⟩
      rintro cw cx ⟨a5,rfl,Sz,_,cy,cz,cA,cB⟩;revert cw;refine Wo<|We<|exH ?_
      exact fun _ q=>⟨a5,som bg,Sz,q.k<|s6 z z z z z z,(cM (cr h G) cy (io sr):Chg (· ∈ h) G cx),cz,cA,(or1 cB (io sr) (l_ lr):∀k∈Sz,k∈h∨G.z<=k)⟩
     refine Wk<|Wq<|Wq ?_
     obtain ⟨cC,ar,au⟩:=bdS<|ifF ao a9;refine Wt (fun a w=>∃(ai:Bool),ai=cC/\Sat 111 [(0,sl A0 N0 C0),(1,sl A3 N3 C3),(5,sl L O V),(6,vI ((kp:Nat):Int)),(7,sl ae nf cg),(8,vI xb),(65,vB ai)] a/\Below G.z G w) ?_ ?_
     ·refine Wg<|Rm z<|Rq z z z<|Rm z ?_
      rcases bs (xb==0) with hci | hci
      ·iterate 6 refine Nh z hci ?_
       exact R z (pT z hci z)<|Wl (fun _ q=>⟨true,som<|ifT ar hci,q.k<|s7 z z z z z z z,br G⟩)
      refine Rh z hci (mv z)<|Rh z hci (mv z)<|Rh z hci (sb_ z z) ?_
      obtain ⟨cD,cE,bm⟩:=bdS<|ifF ar hci;refine RXg z z hci z (at_ (α:=Bool) b_b z_4 z z z (or_ ((ho.e sx).c ss<|ds<|mnr<|a_.lt ho)<|a_.lt ho) cE) ?_;rintro _ ⟨_,_,_,rfl,cF,cG,_⟩;obtain rfl:=e_4 cG;exact Rh z hci (l0 g_4 z<|cF.at0 z)<|Rh z hci (not_ z)<|R z (pF z hci z)<|Wl (fun _ q=>⟨!cD,som bm,q.k<|s7 z z z z z z z,br G⟩)
     rintro cH aJ ⟨ai,rfl,_,sk⟩;revert cH;refine Wo<|Wc z (fun aa=>?_) (fun aa=>?_)
     ·refine We<|exH ?_
      exact fun _ q=>⟨xr,som<|ifT au aa,h,q.k<|s6 z z z z z z,(i_ (cr h G) sk:Chg (· ∈ h) G aJ),h5.e sk,hh,io sr⟩
     refine Wk<|Wm z<|Rm z<|R z (sb_ z z) ?_
     obtain ⟨_,cI,bn⟩:=bdS<|ifF au aa;have aK:=ah.e sk;refine RX z (at_ (α:=Str) G_ z_9 z z z (p2_0.g aK) cI) ?_;rintro _ ⟨_,_,_,rfl,cJ,cK,_⟩;obtain ⟨rfl,cL⟩:=a_r cK;refine R z (l0 g_9 z<|cJ.at0 z) ?_;obtain ⟨_,cN,cO,bo⟩:=a_k bn;refine E z (fc call138 z<|W_w1d cO (zt' hBw<|lt_ (lt_ (lt_ aC sx.s) ss.s) sk.s) cL) ?_;rintro _ H ⟨sq,rfl,_⟩;refine Rm z<|Re z z z<|Re z z z<|Ra z<|Rw z ?_
     obtain ⟨cP,bp,bq⟩:=bdS bo;refine Wt (fun a w=>∃(a7:List Bool),a7=cP/\∃(W:List Nat),Sat 111 [(0,sl A0 N0 C0),(1,sl A3 N3 C3),(5,sl L O V),(6,vI ((kp:Nat):Int)),(7,sl ae nf cg),(8,vI xb)] a/\Chg (· ∈ h) H w/\a_ w W (sl ae nf cg) a7/\W.Nodup/\(∀k∈W,k∈h∨H.z<=k)) ?_ ?_
     ·refine Wd (X:=noX) 1073741824 (pl_ 31 [30]) mo (by kernel_rfl) fun a1 s8 _=>?_
      iterate 4 refine dM z z z ?_
      obtain ⟨cQ,cR,av⟩:=bdS bp;have aj:=(aK.e sq).e s8;have a2:=p1_0.g aj;refine dRX z z (at_ (α:=Str) G_ z_9 z z z a2 cR) ?_;rintro _ ⟨_,_,_,rfl,cS,cT,_⟩;obtain ⟨rfl,_⟩:=a_r cT;refine dR z z (l0 g_9 z<|cS.at0 z)<|dR z z (a_R z z)<|dM z z z ?_
      rcases bs (cQ.b==(⟨[35]⟩:Str).b) with hct | hct
      ·have aw:=ifT av hct;refine dRg z z z hct z (mv z)<|dR z z (pT z hct z)<|dM z z z ?_
       rcases bs cN with I | I
       ·iterate 11 refine dRn z z z I z ?_
        iterate 5 refine dRu z z z z ?_
        refine dRn z z z I z<|dR z z (pT z I z) ?_
        obtain ⟨cU,aL,bt⟩:=bdS<|ifT aw I;have aM:=((h5.e sk).e sq).e s8;refine dRX z z (b_t (α:=Bool) b_b z_4 z z aM aL) ?_;rintro _ ⟨_,cV,rfl⟩;refine dE0 z (b_k (α:=Bool) z_4 z cV z z z aL aM hh b_x an_ H_) (.inl z) ?_;rintro _ cW ⟨aN,cX,cY,cZ,d0⟩;refine pD ?_;exact fun _ q=>⟨cU,som bt,aN,q.k<|s6 z z z z z z,(cM (i_ (cr h H) s8:Chg (· ∈ h) H a1) cX (io sr):Chg (· ∈ h) H cW),cY,cZ,(or2 d0 (io sr) an_ (l_ s8.s):∀k∈aN,k∈h∨H.z<=k)⟩
       refine dRg z z z I z (mv z)<|dRg z z z I z (mv z) ?_
       obtain ⟨d1,d2,bu⟩:=bdS<|ifF aw I;refine a_K z z z I z (at_ (α:=Str) G_ z_9 z z z a2 d2) ?_;rintro _ ⟨_,_,_,rfl,d3,d4,_⟩;obtain ⟨rfl,_⟩:=a_r d4;refine dRg z z z I z (l0 g_9 z<|d3.at0 z)<|dRg z z z I z (mv z)<|dRg z z z I z (mv z)<|dRg z z z I z (sb_ z z) ?_
       obtain ⟨d5,d6,ax⟩:=bdS bu;refine a_K z z z I z (at_ (α:=Str) G_ z_9 z z z (p2_0.g aj) d6) ?_;rintro _ ⟨_,_,_,rfl,d7,d8,_⟩;obtain ⟨rfl,_⟩:=a_r d8;refine dRg z z z I z (l0 g_9 z<|d7.at0 z)<|dRg z z z I z (a_R z z)<|dRg z z z I z (mv z) ?_
       rcases bs (d1.b==d5.b) with hcl | hcl
       ·refine dRg z z z hcl z (mv z)<|dRg z z z hcl z (mv z) ?_
        obtain ⟨_,d9,bv⟩:=bdS<|ifT ax hcl;refine a_K z z z hcl z (at_ (α:=Str) G_ z_9 z z z a2 d9) ?_;rintro _ ⟨_,_,_,rfl,da,db,_⟩;obtain ⟨rfl,_⟩:=a_r db;refine dRg z z z hcl z (l0 g_9 z<|da.at0 z)<|dRg z z z hcl z (e_9 z z)<|dRg z z z I z (pT z hcl z)<|dR z z (pF z I z) ?_
        obtain ⟨dc,aO,bw⟩:=bdS bv;have aP:=((h5.e sk).e sq).e s8;refine dRX z z (b_t (α:=Bool) b_b z_4 z z aP aO) ?_;rintro _ ⟨_,dd,rfl⟩;refine dE0 z (b_k (α:=Bool) z_4 z dd z z z aO aP hh b_x an_ H_) (.inl z) ?_;rintro _ de ⟨aQ,df,dg,dh,di⟩;refine pD ?_;exact fun _ q=>⟨dc,som bw,aQ,q.k<|s6 z z z z z z,(cM (i_ (cr h H) s8:Chg (· ∈ h) H a1) df (io sr):Chg (· ∈ h) H de),dg,dh,(or2 di (io sr) an_ (l_ s8.s):∀k∈aQ,k∈h∨H.z<=k)⟩
       iterate 5 refine dRn z z z hcl z ?_
       refine dRg z z z I z (pF z hcl z)<|dR z z (pF z I z) ?_
       obtain ⟨dj,aR,bx⟩:=bdS<|ifF ax hcl;have aS:=((h5.e sk).e sq).e s8;refine dRX z z (b_t (α:=Bool) b_b z_4 z z aS aR) ?_;rintro _ ⟨_,dk,rfl⟩;refine dE0 z (b_k (α:=Bool) z_4 z dk z z z aR aS hh b_x an_ H_) (.inl z) ?_;rintro _ dl ⟨aT,dm,dn,dp,dq⟩;refine pD ?_;exact fun _ q=>⟨dj,som bx,aT,q.k<|s6 z z z z z z,(cM (i_ (cr h H) s8:Chg (· ∈ h) H a1) dm (io sr):Chg (· ∈ h) H dl),dn,dp,(or2 dq (io sr) an_ (l_ s8.s):∀k∈aT,k∈h∨H.z<=k)⟩
      refine dRn z z z hct z<|dR z z (pF z hct z)<|dM z z z<|dRg z z z z z (mv z)<|dRg z z z z z (mv z) ?_
      obtain ⟨dr,dt,bz⟩:=bdS<|ifF av hct;refine a_K z z z z z (at_ (α:=Str) G_ z_9 z z z a2 dt) ?_;rintro _ ⟨_,_,_,rfl,du,dv,_⟩;obtain ⟨rfl,_⟩:=a_r dv;refine dRg z z z z z (l0 g_9 z<|du.at0 z)<|dRg z z z z z (mv z)<|dRg z z z z z (mv z)<|dRg z z z z z (sb_ z z) ?_
      obtain ⟨dw,dx,ay⟩:=bdS bz;refine a_K z z z z z (at_ (α:=Str) G_ z_9 z z z (p2_0.g aj) dx) ?_;rintro _ ⟨_,_,_,rfl,dy,dz,_⟩;obtain ⟨rfl,_⟩:=a_r dz;refine dRg z z z z z (l0 g_9 z<|dy.at0 z)<|dRg z z z z z (a_R z z)<|dRg z z z z z (mv z) ?_
      rcases bs (dr.b==dw.b) with hcm | hcm
      ·refine dRg z z z hcm z (mv z)<|dRg z z z hcm z (mv z) ?_
       obtain ⟨_,dA,bA⟩:=bdS<|ifT ay hcm;refine a_K z z z hcm z (at_ (α:=Str) G_ z_9 z z z a2 dA) ?_;rintro _ ⟨_,_,_,rfl,dB,dC,_⟩;obtain ⟨rfl,_⟩:=a_r dC;refine dRg z z z hcm z (l0 g_9 z<|dB.at0 z)<|dRg z z z hcm z (e_9 z z)<|dRg z z z z z (pT z hcm z)<|dR z z (pF z z z) ?_
       obtain ⟨dD,aU,bB⟩:=bdS bA;have aV:=((h5.e sk).e sq).e s8;refine dRX z z (b_t (α:=Bool) b_b z_4 z z aV aU) ?_;rintro _ ⟨_,dF,rfl⟩;refine dE0 z (b_k (α:=Bool) z_4 z dF z z z aU aV hh b_x an_ H_) (.inl z) ?_;rintro _ dG ⟨aW,dH,dI,dJ,dK⟩;refine pD ?_;exact fun _ q=>⟨dD,som bB,aW,q.k<|s6 z z z z z z,(cM (i_ (cr h H) s8:Chg (· ∈ h) H a1) dH (io sr):Chg (· ∈ h) H dG),dI,dJ,(or2 dK (io sr) an_ (l_ s8.s):∀k∈aW,k∈h∨H.z<=k)⟩
      iterate 5 refine dRn z z z hcm z ?_
      refine dRg z z z z z (pF z hcm z)<|dR z z (pF z z z) ?_
      obtain ⟨dL,aX,bC⟩:=bdS<|ifF ay hcm;have aY:=((h5.e sk).e sq).e s8;refine dRX z z (b_t (α:=Bool) b_b z_4 z z aY aX) ?_;rintro _ ⟨_,dN,rfl⟩;refine dE0 z (b_k (α:=Bool) z_4 z dN z z z aX aY hh b_x an_ H_) (.inl z) ?_;rintro _ dO ⟨aZ,dP,dS,dT,dU⟩;refine pD ?_;exact fun _ q=>⟨dL,som bC,aZ,q.k<|s6 z z z z z z,(cM (i_ (cr h H) s8:Chg (· ∈ h) H a1) dP (io sr):Chg (· ∈ h) H dO),dS,dT,(or2 dU (io sr) an_ (l_ s8.s):∀k∈aZ,k∈h∨H.z<=k)⟩
     rintro dV dW ⟨a7,rfl,W,_,dX,dY,dZ,e0⟩;revert dV;exact fun _ q=>⟨a7,som bq,W,q.k<|s6 z z z z z z,(cM (i_ (i_ (cr h G) sk:Chg (· ∈ h) G aJ) sq:Chg (· ∈ h) G H) dX (io sr):Chg (· ∈ h) G dW),dY,dZ,(or1 e0 (io sr) (l_<|lt_ sk.s sq.s):∀k∈W,k∈h∨G.z<=k)⟩
    rintro e1 e2 ⟨a4,rfl,Sy,_,e3,e4,e5,e6⟩;revert e1;refine Wo<|Wg<|Rm z<|R z (add_ z z)<|Ra z<|Wl ?_
    have b0:∀k∈h,k∈[J.z]∨wa.z<=k:=or1 a3 (io sr)<|l_ lr;exact fun _ q=>⟨(a4,b_ xb 1),(som be).symm,⟨Sy,q.k<|s6 z z z z z z,(cM (cM (cr [J.z] wa) ss (io sr):Chg (· ∈ [J.z]) wa G) e3 b0:Chg (· ∈ [J.z]) wa e2),e4,e5,(or1 e6 b0 (l_ ss.s):∀k∈Sy,k∈[J.z]∨wa.z<=k),iA _ _⟩⟩
   exact We<|fun a' ha'=>b_e (som<|ifF an a8).symm ⟨h,Sat.weaken ha'<|s4 z z z z,(cM (cr [J.z] wa) ss (io sr):Chg (· ∈ [J.z]) wa G),h5,hh,(or1 a3 (io sr) (l_ lr):∀k∈h,k∈[J.z]∨wa.z<=k),aB⟩
  ·rintro ⟨xr,xb⟩ e7 _ rfl ⟨h,_,e8,h5,hh,a3,aB⟩;have bD:=elL am;revert e7;refine Wo<|Wg<|Rm z<|Rw z<|Wg<|Rm z<|R z (inc_ al (lt_ (repS.len p1_0) A_) z z)<|Ra z<|Wl ?_
   exact fun _ q=>⟨xr,(som<|a_5 bD).symm,⟨ae,nf,cg,h,q.k<|s4 z z z z,bM (bup sw sx) e8<|m1 sw.s,h5,hh,(or1 a3 (mor sw.s:∀k∈[J.z],k∈Su∨wn.z<=k) (l_<|lt_ sw.s sx.s):∀k∈h,k∈Su∨wn.z<=k)⟩⟩
  rintro _ _ _ _ rfl ⟨rfl,bE⟩;have bF:=elR am;exact ⟨e_Y<|f_g (som bF).symm ⟨rfl,bE⟩,z⟩
 ·rintro xv _ _ ⟨L,O,V,Sd,bG,b1,ho,ab,ad⟩;refine Wu ?_ bG;refine Wq<|Wm z<|Rm z ?_
  refine R z (lnR G_ z<|p1_0.g<|((Y.ag B).c a0<|f_ (or0 (d_ lr) (n_ hBw):∀k∈[w0.z],¬B k)).e b1)<|Rl z z z<|Wx z (fun hc=>(Q_ hc).elim) (fun _=>?_)
  exact We<|fun a' ha'=>⟨rfl,⟨L,O,V,Sd,Sat.weaken ha'<|s2 z z,b1,ho,ab,(or1 ad (io sr) (l_ lr):∀k∈Sd,k∈Su∨wn.z<=k)⟩⟩
 ·rintro xv e9 _ rfl ⟨L,O,V,Sd,_,b2,ho,ab,ad⟩;have bH:=elL ak;revert e9;refine Wo<|Wm z<|Rm z ?_
  refine R z (lnR G_ z<|p2_0.g<|((Y.ag B).c a0<|f_ (or0 (d_ lr) (n_ hBw):∀k∈[w0.z],¬B k)).e b2) ?_;obtain ⟨_,ea,bI⟩:=bdS bH;refine RX z (at_ (α:=Bool) b_b z_4 z z z (a_.rep ho) ea) ?_;rintro _ ⟨_,_,_,rfl,eb,ec,_⟩;obtain rfl:=e_4 ec;refine R z (l0 g_4 z<|eb.at0 z)<|Rw z ?_
  obtain rfl:=som bI;exact Wr<|c_ hr z ⟨bup (bM Y a0<|d_ lr) b2,z⟩
 rintro _ _ _ _ rfl ⟨rfl,bJ⟩;have bK:=elR ak;obtain rfl:=som bK;exact ⟨bJ,z⟩
theorem W_w38 {x1:Str}{x2:Str}{res:Bool}(hm:i_C n x1 x2=some res)(hBw:B<=w0.z)(p1_0:x1.b.length<=LEN)(p2_0:x2.b.length<=LEN):h_ prog 21 [Str.v x1,Str.v x2] w0 (Q11 w0 B res):=by
 unfold i_C at hm
 refine goF func21 z z (lb z) fun fn hr=>Ws<|Rw z<|Wm z ?_
 obtain ⟨_,L,O,hma⟩:=a_k hm;refine E z (fc call74 z<|W_w35 (B:=B) O hBw p1_0) ?_;rintro _ _ ⟨s5,_,_,_,rfl,hb⟩;refine Rm z<|Re z z z<|Re z z z<|Ra z<|Rw z<|Wm z ?_
 obtain ⟨_,rc,ed,hme⟩:=a_k hma;refine E z (fc call63 z<|W_w36 ed (zt' hBw s5.s) p2_0) ?_;rintro _ H ⟨s3,_,_,_,rfl,hf⟩;refine Rm z<|Re z z z<|Re z z z<|Ra z<|Rw z<|Wq ?_
 obtain ⟨ug,I,hmh⟩:=bdS hme;refine Wt (fun a w=>∃(x4:Bool),x4=ug/\Sat 28 [(4,vB x4)] a/\Below H.z H w) ?_ ?_
 ·refine Wg<|RM z z ?_
  rcases bs L with G | G
  ·have J:=ifT I G;refine Rh z G (mv z)<|R z (pT z G z)<|Rm z ?_
   rcases bs rc with h | h
   ·refine Rh z h (mv z)<|Rh z h (mv z) ?_
    obtain ⟨ri,ej,hmk⟩:=bdS<|ifT J h;refine Eg z z h z (fc call75 z<|W_w37 (B:=H.z) ej zr (repS.mono (hb.e s3)<|a_T s3.s) hf) ?_;rintro _ _ ⟨sl,rfl⟩;exact R z (pT z h z)<|Ra z<|Wl (fun _ q=>⟨ri,som hmk,q.k<|s1 z,sl⟩)
   iterate 3 refine Nh z h ?_
   exact R z (pF z h z)<|Ra z<|Wl (fun _ q=>⟨false,som<|ifF J h,q.k<|s1 z,br H⟩)
  exact Nh z G<|R z (pF z G z)<|Rm z<|Nh z z<|Nh z z<|Nh z z<|R z (pF z z z)<|Ra z<|Wl (fun _ q=>⟨false,som<|ifF I G,q.k<|s1 z,br H⟩)
 rintro am _ ⟨x4,rfl,_,sn⟩;revert am;refine Wo ?_;obtain rfl:=som hmh;exact Wr<|c_ hr z ⟨bup (bup s5 s3) sn,z⟩
def Q24 (w0:World)(B:Zone)(r:(List m_))(v:Value)(w':World):Prop:=Bw w0 w'/\(fun I=>∃h G H S1,(sl h G H)=v/\a_ w' S1 (sl h G H) I/\S1.Nodup/\(∀k∈S1,w0.z<=k)) r
theorem W_w39 {x1:e_}{x2:List UInt8}{x3:Str}{res:(List m_)}(hm:i_D n x1 x2 x3=some res)(hBw:B<=w0.z)(p1_0:repS w0 B (sl A0 N0 C0) x1.rules)(p2_0:repS w0 B (sl A3 N3 C3) x2)(p3_0:x3.b.length<=LEN):h_ prog 88 [(.agg #[sl A0 N0 C0]),sl A3 N3 C3,Str.v x3] w0 (Q24 w0 B res):=by
 unfold i_D at hm
 refine goF func88 z z (lb z) fun fn hr=>Ws<|E z (fb z) ?_
 rintro _ G ⟨rfl,hv⟩;have hf:=hv.below;refine Rw z<|Ws<|E z (f0 (α:=m_) c_G) ?_
 rintro _ _ ⟨au,av,aw,rfl,sg,hn⟩;refine Rw z<|Ws<|R z (lN (vs:=[sl A0 N0 C0]) J_ E_ z z fid<|((hv.blk:Blk G w0.z [sl A0 N0 C0]).e sg).row 0 1 z)<|Rm z ?_
 have hw:=(hf.ag B).e sg;have ho:=lt_ hf.s sg.s;obtain ⟨_,_,ay,ad⟩:=a_k hm;refine E z (fc call15 z<|W_w34 ay (zt' hBw ho) (p1_0.g hw)<|p2_0.g hw) ?_;rintro _ H ⟨sh,ax,ns,cy,_,rfl,V,_,hz⟩;refine Rm z<|Re z z z<|Re z z z<|Ra z<|Rw z<|Wq<|Ws<|Rw z ?_
 obtain ⟨_,ae,Y⟩:=bdS ad;refine Wf (σ:=List m_) (ρ:=List m_) (fun (kp:Nat)(W:List m_) a w=>∃I J L h,Sat 39 [(2,Str.v x3),(7,sl I J L),(8,sl ax ns cy),(10,vI ((kp:Nat):Int))] a/\Chg (· ∈ [G.z]) H w/\a_ w h (sl I J L) W/\h.Nodup/\(∀k∈h,k∈[G.z]∨H.z<=k)) (fun (W:List m_) a w=>∃I J L h,Sat 39 [(7,sl I J L)] a/\Chg (· ∈ [G.z]) H w/\a_ w h (sl I J L) W/\h.Nodup/\(∀k∈h,k∈[G.z]∨H.z<=k)) (fun r ex a w=>ex = .ret/\w_ prog fn (Q24 w0 B r) a w) ae ?_ ?_ ?_ ?_ ?_
 ·exact fun _ q=>⟨au,av,aw,[G.z],q.k<|s4 z z z z,cr [G.z] H,hn.e sh,a_0,io sr⟩
 ·rintro kp W _ az _ a0 ⟨I,J,L,h,af,si,ha,hb,hd⟩ ah;refine Wu ?_ af;refine Wq<|Wm z<|Rm z ?_
  have hq:=V.c si<|b_C hz (a_.lt hn) lr
  refine R z (lnR c_8 z<|or_ hq<|a_.lt V)<|Rl z z z<|Wx z (fun _=>?_) (fun hc=>(P_ a0 hc).elim)
  refine Wk<|Wq<|Wb<|Wm z<|RM z z ?_
  obtain ⟨_,aA,ai⟩:=bdS ah;refine RX z (at_ (α:=m_) c_8 c_6 z z z (or_ hq<|a_.lt V) aA) ?_;rintro _ ⟨_,_,_,rfl,aB,aC,_⟩;obtain ⟨rfl,aD,_,_,_⟩:=e_v aC;refine Rf z p_L z<|R z (l0 g_9 z<|aB.at (j:=0) z) ?_
  obtain ⟨_,aE,aj⟩:=bdS ai;refine E z (fc call21 z<|W_w38 aE (zt' hBw<|lt_ (lt_ ho sh.s) si.s) p3_0 aD) ?_;rintro _ O ⟨se,rfl⟩;refine Wn ?_;obtain ⟨aF,a1,al⟩:=bdS aj;refine Wt (fun a w=>∃(xj:List m_),xj=aF/\∃ak nl cm Sc,Sat 39 [(2,Str.v x3),(7,sl ak nl cm),(8,sl ax ns cy),(10,vI ((kp:Nat):Int))] a/\Chg (· ∈ h) O w/\a_ w Sc (sl ak nl cm) xj/\Sc.Nodup/\(∀k∈Sc,k∈h∨O.z<=k)) ?_ ?_
  ·refine Wc z (fun hcr=>?_)<|fun hcr=>?_
   ·refine Wg<|RM z z<|Rm z ?_
    obtain ⟨x6,aG,am⟩:=bdS<|ifT a1 hcr;refine RX z (at_ (α:=m_) c_8 c_6 z z z (or_ (hq.e se)<|a_.lt V) aG) ?_;rintro _ ⟨_,_,_,rfl,aH,aI,_⟩;obtain ⟨rfl,a2,a4,a5,a6⟩:=e_v aI;refine R z (lN (vs:=[Str.v x6.path,vI x6.rule,vI x6.start,vI x6.end_]) g_33 c_6 z z fid aH)<|E z (fS [(.tmp 35)] c_G z z z (a_z z) (lb z)<|lb z) ?_
    rintro _ a7 ⟨rfl,ht⟩;have hu:=ht.below;have b2:=b_E ht<|e_w (x:=x6) a2 a4 a5 a6
    obtain ⟨aJ,aK,an⟩:=bdS am;refine E z (b_d (α:=m_) c_G aK z z ((ha.e se).e hu) hb (ht.blk:Blk a7 O.z [Str.v x6.path,vI x6.rule,vI x6.start,vI x6.end_]) (e_w (x:=x6) a2 a4 a5 a6) an_ H_) ?_;rintro _ aL ⟨a8,aM,aN,aO,rfl,aP,aQ,aR,aS⟩;refine Ra z<|Wl ?_
    exact fun _ q=>⟨aJ,som an,aM,aN,aO,a8,q.k<|s4 z z z z,(cM (i_ (cr h O) hu:Chg (· ∈ h) O a7) aP (io sr):Chg (· ∈ h) O aL),aQ,aR,(or2 aS (io sr) an_ (l_ hu.s):∀k∈a8,k∈h∨O.z<=k)⟩
   exact a_e<|fun _ q=>⟨W,som<|ifF a1 hcr,I,J,L,h,q.k<|s4 z z z z,cr h O,ha.e se,hb,io sr⟩
  rintro aT aU ⟨xj,rfl,ak,nl,cm,Sc,_,aV,aW,aX,aY⟩;revert aT;refine Wo<|Wg<|Rm z<|R z (inc_ a0 (lt_ (a_.len V) A_) z z)<|Ra z<|Wl ?_
  have a9:∀k∈h,k∈[G.z]∨H.z<=k:=or1 hd (io sr)<|l_ lr;exact fun _ q=>⟨xj,(som al).symm,⟨ak,nl,cm,Sc,q.k<|s4 z z z z,(cM (i_ (cM (cr [G.z] H) si (io sr):Chg (· ∈ [G.z]) H az) se:Chg (· ∈ [G.z]) H O) aV a9:Chg (· ∈ [G.z]) H aU),aW,aX,(or1 aY a9 (l_<|lt_ si.s se.s):∀k∈Sc,k∈[G.z]∨H.z<=k)⟩⟩
 ·rintro W _ aZ ⟨I,J,L,h,ao,aa,ha,hb,hd⟩;refine Wu ?_ ao;refine Wq<|Wm z<|Rm z<|R z (lnR c_8 z<|or_ (V.c aa<|b_C hz (a_.lt hn) lr)<|a_.lt V)<|Rl z z z<|Wx z (fun hc=>(Q_ hc).elim) (fun _=>?_)
  exact We<|fun a' ha'=>⟨rfl,⟨I,J,L,h,Sat.weaken ha'<|s1 z,(cM (cr [G.z] H) aa (io sr):Chg (· ∈ [G.z]) H aZ),ha,hb,(or1 hd (io sr) (l_ lr):∀k∈h,k∈[G.z]∨H.z<=k)⟩⟩
 ·rintro W b0 _ rfl ⟨I,J,L,h,_,b1,ha,hb,hd⟩;have ap:=elL Y;revert b0;refine Wo<|Wm z<|Rw z ?_
  obtain rfl:=som ap;have ab:=m1 hf.s;exact Wr<|c_ hr z ⟨bM (bup (bup hf sg) sh) b1 ab,I,J,L,h,z,ha,hb,a_Y hd ab<|lt_ ho sh.s⟩
 rintro _ _ _ _ rfl ⟨rfl,aq⟩;have ar:=elR Y;obtain rfl:=som ar;exact ⟨aq,z⟩
theorem W_w3a {x1:e_}{x2:List UInt8}{x3:Str}{res:Int}(hm:i_E n x1 x2 x3=some res)(hBw:B<=w0.z)(p1_0:repS w0 B (sl A0 N0 C0) x1.rules)(p2_0:repS w0 B (sl A3 N3 C3) x2)(p3_0:x3.b.length<=LEN):h_ prog 81 [(.agg #[sl A0 N0 C0]),sl A3 N3 C3,Str.v x3] w0 (Q0 w0 B res):=by
 unfold i_E at hm
 refine goF func81 z z (lb z) fun fn hr=>Ws<|E z (fb z) ?_
 rintro _ ws ⟨rfl,he⟩;have h2:=he.below;have hf:Blk ws w0.z [sl A0 N0 C0]:=he.blk;refine Rw z<|Ws<|Rw z<|Ws<|R z (lN (vs:=[sl A0 N0 C0]) J_ E_ z z fid<|hf.row 0 1 z)<|RM z z ?_
 obtain ⟨_,et,hmu⟩:=bdS hm;refine E z (fc call88 z<|W_w39 et (zt' hBw h2.s) (p1_0.e h2) (p2_0.e h2) p3_0) ?_;rintro _ G ⟨s9,ah,ng,ci,_,rfl,h1,_,_⟩;refine Rw z<|Wq<|Ws<|Rw z ?_
 obtain ⟨_,huv,hmj⟩:=bdS hmu;refine Wf (σ:=Int) (ρ:=Int) (fun (ka:Nat)(x0:Int) a w=>Sat 57 [(1,sl A3 N3 C3),(3,pt w0.z),(7,vI x0),(8,sl ah ng ci),(9,vI ((ka:Nat):Int))] a/\Below G.z G w/\inI x0) (fun (x0:Int) a w=>Sat 57 [(7,vI x0)] a/\Below G.z G w/\inI x0) (fun r ex a w=>ex = .ret/\w_ prog fn (Q0 w0 B r) a w) huv ?_ ?_ ?_ ?_ ?_
 ·exact fun _ q=>⟨q.k<|s5 z z z z z,br G,ii z⟩
 ·rintro ka x0 _ _ _ hkk ⟨hSw,s4,h5⟩ hmx;refine Wu ?_ hSw;refine Wq<|Wm z<|Rm z ?_
  have hl:=h1.e s4;refine R z (lnR c_8 z<|or_ hl<|a_.lt h1)<|Rl z z z<|Wx z (fun _=>?_) (fun hc=>(P_ hkk hc).elim)
  refine Wk<|Wq<|Wb<|Wq (Wd (X:=noX) 0 (pl_ 11 []) mo (by kernel_rfl) fun wb s6 _=>dR z z (fd a_o z) ?_)
  have hn:=((hf.e s9).e s4).e s6;refine dR z z (l0 a_q z<|hn.at z)<|dM z z z<|dM z z z ?_
  obtain ⟨_,ey,hmz⟩:=bdS hmx;have ho:=hl.e s6;refine dRX z z (at_ (α:=m_) c_8 c_6 z z z (or_ ho<|a_.lt h1) ey) ?_;rintro _ ⟨_,_,_,rfl,a5,a6,_⟩;obtain ⟨rfl,_,_,_,_⟩:=e_v a6;refine dR z z (fd k_p z)<|dR z z (l0 g_3 z<|a5.at (j:=1) z) ?_
  obtain ⟨_,a7,I⟩:=bdS hmz;have hp:=(((h2.ag B).e s9).e s4).e s6;refine dRX z z (at_ (α:=g_) a_b u_ z z z (p1_0.g hp) a7) ?_;rintro _ ⟨_,_,_,rfl,a8,a9,_⟩;obtain ⟨_,_,_,_,_,_,_,_,_,_,_,_,rfl,_,_,_,_,_,_,_⟩:=a_N a9;refine dR z z (fd a_M z)<|dR z z (l0 g_3 z<|a8.at (j:=1) z)<|dR z z (eql z z)<|pD<|Wo ?_
  obtain ⟨aa,hum,J⟩:=bdS I;refine Wt (fun a w=>∃(H:Int),H=aa/\Sat 57 [(1,sl A3 N3 C3),(3,pt w0.z),(7,vI H),(8,sl ah ng ci),(9,vI ((ka:Nat):Int))] a/\Below wb.z wb w/\inI H) ?_ ?_
  ·refine Wc z (fun hcc=>?_)<|fun hcc=>?_
   ·refine Wd (X:=noX) 0 (pl_ 26 [23]) mo (by kernel_rfl) fun aC s8 _=>?_
    iterate 4 refine dM z z z ?_
    obtain ⟨_,ab,L⟩:=bdS<|ifT hum hcc;have hd:=ho.e s8;refine dRX z z (at_ (α:=m_) c_8 c_6 z z z (or_ hd<|a_.lt h1) ab) ?_;rintro _ ⟨_,_,_,rfl,ad,ae,_⟩;obtain ⟨rfl,_,_,_,_⟩:=e_v ae;refine dR z z (fd p_M z)<|dR z z (l0 g_3 z<|ad.at (j:=2) z)<|dM z z z<|dM z z z ?_
    obtain ⟨_,af,O⟩:=bdS L;refine dRX z z (at_ (α:=m_) c_8 c_6 z z z (or_ hd<|a_.lt h1) af) ?_;rintro _ ⟨_,_,_,rfl,ai,aj,_⟩;obtain ⟨rfl,_,_,_,_⟩:=e_v aj;refine dR z z (fd m_e z)<|dR z z (l0 g_3 z<|ai.at (j:=3) z) ?_
    obtain ⟨_,ak,V⟩:=bdS O;have hq:=hp.e s8;refine dRX z z (rX j_ z_5 z z (p2_0.g hq) z z ak) ?_;rintro _ ⟨_,_,_,rfl,al⟩;refine dR z z (fd a_o z)<|dR z z (l0 a_q z<|(hn.e s8).at z)<|dM z z z<|dM z z z ?_
    obtain ⟨_,am,W⟩:=bdS V;refine dRX z z (at_ (α:=m_) c_8 c_6 z z z (or_ hd<|a_.lt h1) am) ?_;rintro _ ⟨_,_,_,rfl,an,ao,_⟩;obtain ⟨rfl,_,_,_,_⟩:=e_v ao;refine dR z z (fd k_p z)<|dR z z (l0 g_3 z<|an.at (j:=1) z) ?_
    obtain ⟨_,ap,Y⟩:=bdS W;refine dRX z z (at_ (α:=g_) a_b u_ z z z (p1_0.g hq) ap) ?_;rintro _ ⟨_,_,_,rfl,aq,ar,_⟩;obtain ⟨_,_,_,_,_,_,_,_,_,_,_,_,rfl,_,_,_,_,_,_,_⟩:=a_N ar;refine dR z z (fd d_c z)<|dR z z (l0 g_4 z<|aq.at (j:=3) z) ?_
    obtain ⟨au,av,a0⟩:=bdS Y;refine dE z z (fc call145 z<|m_l av (zt' hBw<|lt_ (lt_ (lt_ (lt_ h2.s s9.s) s4.s) s6.s) s8.s) al) (.inr fun _ _ h=>F_<|h.1) ?_;rintro _ _ ⟨aw,rfl,_⟩;exact dR z z (add_ z z)<|dQ z z z<|pD (fun _ q=>⟨b_ x0 au,som a0,q.k<|s5 z z z z z,bup s8 aw,iA _ _⟩)
   exact a_e<|fun _ q=>⟨x0,som<|ifF hum hcc,q.k<|s5 z z z z z,br wb,h5⟩
  rintro ax _ ⟨H,rfl,_,ay,az⟩;revert ax;exact Wo<|Wg<|Rm z<|R z (inc_ hkk (lt_ (a_.len h1) A_) z z)<|Ra z<|Wl (fun _ q=>⟨H,(som J).symm,⟨q.k<|s5 z z z z z,bup (bup s4 s6) ay,az⟩⟩)
 ·rintro x0 _ _ ⟨a1,sr,h5⟩;refine Wu ?_ a1;refine Wq<|Wm z<|Rm z<|R z (lnR c_8 z<|or_ (h1.e sr)<|a_.lt h1)<|Rl z z z<|Wx z (fun hc=>(Q_ hc).elim) (fun _=>?_)
  exact We<|fun a' ha'=>⟨rfl,⟨Sat.weaken ha'<|s1 z,sr,h5⟩⟩
 ·rintro x0 aA _ rfl ⟨_,aB,h5⟩;have a2:=elL hmj;revert aA;refine Wo<|Wm z<|Rw z ?_
  obtain rfl:=som a2;exact Wr<|c_ hr z ⟨bup (bup h2 s9) aB,z,h5⟩
 rintro _ _ _ _ rfl ⟨rfl,a3⟩;have a4:=elR hmj;obtain rfl:=som a4;exact ⟨a3,z⟩
theorem W_w3b {x1:L_}{x2:Str}{res:Int}(hm:h_D n x1 x2=some res)(hBw:B<=w0.z)(p1_0:repS w0 B (sl A0 N0 C0) x1.registry.versions)(p1_1:repS w0 B (sl A1 N1 C1) x1.log.bytes)(p1_2:inI x1.log.stored)(p2_0:x2.b.length<=LEN):h_ prog 25 [(.agg #[sl A0 N0 C0,sl A1 N1 C1,vI x1.log.stored]),Str.v x2] w0 (Q0 w0 B res):=by
 unfold h_D at hm
 refine goF func25 z z (lb z) fun fn hr=>Ws<|E z (fb z) ?_
 rintro _ J ⟨rfl,hf⟩;have h2:=hf.below;have ha:Blk J w0.z [sl A0 N0 C0,sl A1 N1 C1,vI x1.log.stored]:=hf.blk;refine Rw z<|Ws<|Rw z<|Ws<|R z (lN (vs:=[sl A0 N0 C0,sl A1 N1 C1,vI x1.log.stored]) e_i d_w z z fid<|ha.row 0 3 z) ?_
 obtain ⟨rq,er,hms⟩:=bdS hm;refine E z (fc call79 z<|W_w2r er (zt' hBw h2.s) (p1_0.e h2) (p1_1.e h2) p1_2) ?_;rintro _ I ⟨s7,ah,ng,ci,rfl,hj⟩;refine Rw z<|Wq<|Ws<|Rw z ?_
 obtain ⟨_,hut,hmk⟩:=bdS hms;refine b_u (σ:=Int×Int) (ρ:=Int) (fun s a w=>un2 (fun x3 x4=>Sat 40 [(1,Str.v x2),(2,pt w0.z),(5,vI x3),(6,sl ah ng ci),(7,vI x4)] a/\Below I.z I w/\inI x3/\inI x4) s) (fun s a w=>un2 (fun x3 x4=>Sat 40 [(5,vI x3)] a/\Below I.z I w/\inI x3/\inI x4) s) (fun r ex a w=>ex = .ret/\w_ prog fn (Q0 w0 B r) a w) hut ?_ ?_ ?_ ?_
 ·exact fun _ q=>⟨q.k<|s5 z z z z z,br I,ii z,ii z⟩
 ·rintro ⟨x3,x4⟩ _ wb _ ⟨hSu,G,hc,hl⟩ hmv;refine Wu ?_ hSu;refine Wq<|Wq ?_
  obtain ⟨ux,hum,hmn⟩:=bdS<|a_5 hmv;refine Wt (fun a w=>∃(xd:Bool),xd=ux/\Sat 40 [(1,Str.v x2),(2,pt w0.z),(5,vI x3),(6,sl ah ng ci),(7,vI x4),(17,vB xd)] a/\Below wb.z wb w) ?_ ?_
  ·refine Wg<|RM z z<|R z (lnR c_7 z<|hj.e G)<|Rl z z z<|Rm z ?_
   rcases bs (decide<|x4<(rq.length:Int)) with H | H
   ·refine Rh z H (lN (vs:=[sl A0 N0 C0,sl A1 N1 C1,vI x1.log.stored]) e_i d_w z z fid<|((ha.e s7).e G).row 0 3 z) ?_;have ho:=((h2.ag B).e s7).e G;obtain ⟨ry,ez,L⟩:=bdS<|ifT hum H;refine Eg z z H z (fc call80 z<|W_w32 ez (zt' hBw<|lt_ (lt_ h2.s s7.s) G.s) (p1_0.g ho) (p1_1.g ho) p1_2) ?_;rintro _ _ ⟨a3,rfl⟩;exact R z (pT z H z)<|Wl (fun _ q=>⟨ry,som L,q.k<|s6 z z z z z z,a3⟩)
   exact Nh z H<|Nh z H<|R z (pF z H z)<|Wl (fun _ q=>⟨false,som<|ifF hum H,q.k<|s6 z z z z z z,br wb⟩)
  rintro a4 _ ⟨xd,rfl,_,s8⟩;revert a4;refine Wo<|Wc z (fun hce=>?_) (fun hce=>?_)
  ·refine Wk<|Wq<|Wb (Wd (X:=noX) 0 (pl_ 20 [17]) mo (by kernel_rfl) fun ar s9 _=>dM z z z<|dR z z (fd d_v z)<|dR z z (fd c_j z)<|dR z z (l0 c_v z<|((((ha.e s7).e G).e s8).e s9).at z)<|dM z z z<|dM z z z ?_)
   obtain ⟨_,a5,O⟩:=bdS<|ifT hmn hce;have hp:=hj.g<|((G.ag<|zn B J.z I.z).e s8).e s9
   refine dRX z z (at_ (α:=q_) c_7 b_a z z z hp a5) ?_;rintro _ ⟨_,_,_,rfl,a6,a7,_⟩;obtain ⟨_,_,_,rfl,_,_,_⟩:=f_R a7;refine dR z z (fd p_B z)<|dR z z (l0 g_3 z<|a6.at (j:=1) z) ?_
   obtain ⟨_,a8,V⟩:=bdS O;refine dRX z z (at_ (α:=e_) b_B E_ z z z (p1_0.g<|((((h2.ag B).e s7).e G).e s8).e s9) a8) ?_;rintro _ ⟨_,_,_,rfl,a9,aa,_⟩;obtain ⟨ab,ad,ae,rfl,af⟩:=d_B aa;refine dR z z (lN (vs:=[sl ab ad ae]) J_ E_ z z fid a9)<|dM z z z<|dM z z z ?_
   obtain ⟨_,ai,W⟩:=bdS V;refine dRX z z (at_ (α:=q_) c_7 b_a z z z hp ai) ?_;rintro _ ⟨_,_,_,rfl,aj,ak,_⟩;obtain ⟨_,_,_,rfl,_,_,al⟩:=f_R ak;refine dR z z (fd p_C z)<|dR z z (l0 M_ z<|aj.at (j:=2) z)<|dM z z z ?_
   obtain ⟨am,an,Y⟩:=bdS W;refine dE z z (fc call81 z<|W_w3a (B:=zn B J.z I.z) an (g_6 (zt' hBw<|lt_ (lt_ (lt_ (lt_ h2.s s7.s) G.s) s8.s) s9.s)<|lt_ (lt_ G.s s8.s) s9.s) (repS.mono af d_k) al p2_0) (.inr fun _ _ h=>F_<|h.1) ?_;rintro _ _ ⟨ao,rfl,_⟩;exact dR z z (add_ z z)<|dQ z z z<|pD<|Wo<|Wg<|Rm z<|R z (add_ z z)<|Ra z<|Wl (fun _ q=>⟨(b_ x3 am,b_ x4 1),(som Y).symm,⟨q.k<|s5 z z z z z,bup (bup (bup G s8) s9) ao,iA _ _,iA _ _⟩⟩)
  exact We<|fun a' ha'=>b_e (som<|ifF hmn hce).symm ⟨Sat.weaken ha'<|s1 z,bup G s8,hc,hl⟩
 ·rintro ⟨x3,x4⟩ ap _ rfl ⟨_,aq,hc,hl⟩;have a0:=elL hmk;revert ap;refine Wo<|Wm z<|Rw z ?_
  obtain rfl:=som<|a_5 a0;exact Wr<|c_ hr z ⟨bup (bup h2 s7) aq,z,hc⟩
 rintro _ _ _ _ rfl ⟨rfl,a1⟩;have a2:=elR hmk;obtain rfl:=som a2;exact ⟨a1,z⟩
theorem d_X {x1:Int}{x2:Int}{x3:Int}{res:Bool}(hm:c_l x1 x2 x3=some res)(hBw:B<=w0.z)(p1_0:inI x1)(p2_0:inI x2)(p3_0:inI x3):h_ prog 168 [vI x1,vI x2,vI x3] w0 (Q11 w0 B res):=by
 unfold c_l at hm
 refine goF func168 z z (lb z) fun fn hr=>Ws<|Rw z<|Wq ?_
 obtain ⟨I,G,H⟩:=bdS hm;refine Wt (fun a w=>∃(x4:Bool),x4=I/\Sat 15 [(6,vB x4)] a/\Below w0.z w0 w) ?_ ?_
 ·refine Wg<|RM z z<|R z (d_l z z)<|Rm z ?_
  rcases bs (decide<|x2<=x1) with h | h
  ·exact Rh z h (mv z)<|Rh z h (mv z)<|Rh z h (d_l z z)<|R z (pT z h z)<|Ra z<|Wl (fun _ q=>⟨decide<|x1<=x3,som<|ifT G h,q.k<|s1 z,br w0⟩)
  iterate 3 refine Nh z h ?_
  exact R z (pF z h z)<|Ra z<|Wl (fun _ q=>⟨false,som<|ifF G h,q.k<|s1 z,br w0⟩)
 rintro J _ ⟨x4,rfl,_,s6⟩;revert J;refine Wo ?_;obtain rfl:=som H;exact Wr<|c_ hr z ⟨s6,z⟩
theorem m_w {x1:e_}{x2:Int}{res:Bool}(hm:f_2 x1 x2=some res)(hBw:B<=w0.z)(p1_0:repS w0 B (sl A0 N0 C0) x1.rules)(p2_0:inI x2):h_ prog 199 [(.agg #[sl A0 N0 C0]),vI x2] w0 (Q11 w0 B res):=by
 unfold f_2 at hm
 refine goF func199 z z (lb z) fun fn hr=>Ws<|E z (fb z) ?_
 rintro _ G ⟨rfl,h2⟩;have h4:=h2.below;refine Rw z<|Wq ?_
 obtain ⟨J,H,I⟩:=bdS hm;refine Wt (fun a w=>∃(x3:Bool),x3=J/\Sat 14 [(4,vB x3)] a/\Below G.z G w) ?_ ?_
 ·refine Wg<|Rm z<|R z (b_l z z)<|Rm z ?_
  rcases bs (decide<|0<=x2) with h | h
  ·exact Rh z h (mv z)<|Rh z h (fd a_o z)<|Rh z h (l0 a_q z<|(h2.blk:Blk G w0.z [sl A0 N0 C0]).at z)<|Rh z h (lnR a_b z<|p1_0.e h4)<|Rh z h (lss z z)<|R z (pT z h z)<|Ra z<|Wl (fun _ q=>⟨decide<|x2<(x1.rules.length:Int),som<|ifT H h,q.k<|s1 z,br G⟩)
  iterate 5 refine Nh z h ?_
  exact R z (pF z h z)<|Ra z<|Wl (fun _ q=>⟨false,som<|ifF H h,q.k<|s1 z,br G⟩)
 rintro L _ ⟨x3,rfl,_,sa⟩;revert L;refine Wo ?_;obtain rfl:=som I;exact Wr<|c_ hr z ⟨bup h4 sa,z⟩
theorem k_A {x1:Str}{res:Bool}(hm:e_s n x1=some res)(hBw:B<=w0.z)(p1_0:x1.b.length<=LEN):h_ prog 197 [Str.v x1] w0 (Q11 w0 B res):=by
 unfold e_s at hm
 refine goF func197 z z (lb z) fun fn hr=>Ws<|Rw z<|Wq<|Wq ?_
 obtain ⟨a7,huo,hmp⟩:=bdS hm;refine Wt (fun a w=>∃(xg:Bool),xg=a7/\Sat 43 [(0,Str.v x1),(14,vB xg)] a/\Below w0.z w0 w) ?_ ?_
 ·refine Wg<|Rm z<|R z (lnT d_9 z)<|Rl z z z<|Rm z ?_
  rcases bs (decide<|(x1.b.length:Int)<1) with I | I
  ·iterate 3 refine Nh z I ?_
   exact R z (pT z I z)<|Wl (fun _ q=>⟨true,som<|ifT huo I,q.k<|s2 z z,br w0⟩)
  exact Rh z I (mv z)<|Rh z I (lnT d_9 z)<|Rh z I (Z_ z z)<|R z (pF z I z)<|Wl (fun _ q=>⟨decide<|12<(x1.b.length:Int),som<|ifF huo I,q.k<|s2 z z,br w0⟩)
 rintro a8 h ⟨xg,rfl,_,s9⟩;revert a8;refine Wo<|Wc z (fun hch=>?_) (fun hch=>?_)
 ·refine Ws<|Rw z ?_
  obtain rfl:=som<|ifT hmp hch;exact Wr<|c_ hr z ⟨s9,z⟩
 refine Wk<|Wq<|Wm z<|E z (r_i d_9 z) ?_
 rintro _ H ⟨rfl,sq,a9⟩;refine Wn ?_;obtain ⟨_,a0,hmr⟩:=bdS<|ifF hmp hch;refine b_u (σ:=Nat) (ρ:=Bool) (fun (x0:Nat) a w=>Sat 43 [(16,pt h.z)] a/\Chg (· ∈ [h.z]) H w/\b_G w h.z x1 x0) (fun (x0:Nat) a w=>Sat 43 [] a/\Chg (· ∈ [h.z]) H w/\b_G w h.z x1 x0) (fun r ex a w=>ex = .ret/\w_ prog fn (Q11 w0 B r) a w) a0 ?_ ?_ ?_ ?_
 ·exact fun _ q=>⟨q.k<|s1 z,cr [h.z] H,a9⟩
 ·rintro x0 _ ws _ ⟨a1,si,he⟩ hmt;refine Wu ?_ a1;refine Ws ?_
  rcases bs (decide<|x0<x1.b.length) with hca | hca
  ·refine E z (r_j z he<|of_decide_eq_true hca) ?_;rintro _ wb ⟨rfl,aa,su⟩;refine Re z z z<|Wn<|Wq<|Wc z (fun _=>?_) (fun hc=>(bcon z hc).elim)
   refine Wk<|Wb<|Ws<|Re z z z<|Re z z z<|Ra z<|Rw z<|Wq ?_
   obtain ⟨ab,huv,a2⟩:=bdS<|ifT hmt hca;refine Wt (fun a w=>∃(xc:Bool),xc=ab/\Sat 43 [(3,vI (x0:Int)),(4,.int .i32<|(dec x1 x0).1),(5,vB xc),(16,pt h.z)] a/\Below wb.z wb w) ?_ ?_
   ·refine Wg<|Rm z<|R z (b_l z z)<|Rm z ?_
    rcases bs (decide<|97<=((dec x1 x0).1)) with J | J
    ·exact Rh z J (mv z)<|Rh z J (d_l z z)<|R z (pT z J z)<|Ra z<|Wl (fun _ q=>⟨decide<|((dec x1 x0).1)<=122,som<|ifT huv J,q.k<|s4 z z z z,br wb⟩)
    exact Nh z J<|Nh z J<|R z (pF z J z)<|Ra z<|Wl (fun _ q=>⟨false,som<|ifF huv J,q.k<|s4 z z z z,br wb⟩)
   rintro ad wd ⟨xc,rfl,_,sj⟩;revert ad;refine Wo<|Wq ?_
   obtain ⟨ae,huw,a3⟩:=bdS a2;refine Wt (fun a w=>∃(xf:Bool),xf=ae/\Sat 43 [(3,vI (x0:Int)),(5,vB xc),(6,vB xf),(16,pt h.z)] a/\Below wd.z wd w) ?_ ?_
   ·refine Wg<|Rm z<|R z (b_l z z)<|Rm z ?_
    rcases bs (decide<|48<=((dec x1 x0).1)) with L | L
    ·exact Rh z L (mv z)<|Rh z L (d_l z z)<|R z (pT z L z)<|Ra z<|Wl (fun _ q=>⟨decide<|((dec x1 x0).1)<=57,som<|ifT huw L,q.k<|s4 z z z z,br wd⟩)
    exact Nh z L<|Nh z L<|R z (pF z L z)<|Ra z<|Wl (fun _ q=>⟨false,som<|ifF huw L,q.k<|s4 z z z z,br wd⟩)
   rintro af V ⟨xf,rfl,_,sk⟩;revert af;refine Wo<|Wq ?_
   obtain ⟨ah,hux,hmy⟩:=bdS a3;refine Wt (fun a w=>∃(xl:Bool),xl=ah/\Sat 43 [(16,pt h.z),(42,vB xl)] a/\Below V.z V w) ?_ ?_
   ·refine Wg<|Rm z<|R z (not_ z)<|Rm z ?_
    rcases bs (!xc) with G | G
    ·have hmz:=ifT hux G;refine Rh z G (mv z)<|Rh z G (not_ z)<|Rh z G (mv z) ?_
     rcases bs (!xf) with O | O
     ·exact Nh z O<|Nh z O<|Rh z G (pT z O z)<|R z (pT z G z)<|Wl (fun _ q=>⟨true,som<|ifT hmz O,q.k<|s2 z z,br V⟩)
     exact Rh z O (mv z)<|Rh z O (eql z z)<|Rh z G (pF z O z)<|R z (pT z G z)<|Wl (fun _ q=>⟨(x0:Int)==0,som<|ifF hmz O,q.k<|s2 z z,br V⟩)
    iterate 3 refine Nh z G ?_
    exact Nv z<|Nv z<|Nh z G<|R z (pF z G z)<|Wl (fun _ q=>⟨false,som<|ifF hux G,q.k<|s2 z z,br V⟩)
   rintro ai aj ⟨xl,rfl,_,sm⟩;revert ai;refine Wo<|Wc z (fun hcn=>?_) (fun hcn=>?_)
   ·refine Ws<|Rw z ?_
    have W:=m1 s9.s;exact Wr<|rtO<|qL (som<|ifT hmy hcn).symm<|c_ hr z ⟨bup (bup (bup (bM (bM (bup s9 sq) si W) su W) sj) sk) sm,z⟩
   refine a_e ?_;exact fun _ q=>⟨x0+(dec x1 x0).2,(som<|ifF hmy hcn).symm,⟨q.k<|s1 z,(i_ (i_ (i_ (cM (cM (cr [h.z] H) si (io sr):Chg (· ∈ [h.z]) H ws) su (io sr):Chg (· ∈ [h.z]) H wb) sj:Chg (· ∈ [h.z]) H wd) sk:Chg (· ∈ [h.z]) H V) sm:Chg (· ∈ [h.z]) H aj),((aa.e sj).e sk).e sm⟩⟩
  refine E z (r_k z he<|of_decide_eq_false hca) ?_;rintro _ ak ⟨rfl,Y⟩;refine Re z z z<|Wn<|Wq<|Wc z (fun hc=>(bcon hc z).elim) (fun _=>?_)
  exact We<|fun a' ha'=>b_e (som<|ifF hmt hca).symm ⟨Sat.weaken ha' sn,(i_ (cM (cr [h.z] H) si (io sr):Chg (· ∈ [h.z]) H ws) Y:Chg (· ∈ [h.z]) H ak),he.e Y⟩
 ·rintro x0 al _ rfl ⟨_,am,he⟩;have a4:=elL hmr;revert al;refine Wo<|Ws<|Rw z ?_
  obtain rfl:=som a4;exact Wr<|c_ hr z ⟨bM (bup s9 sq) am<|m1 s9.s,z⟩
 rintro _ _ _ _ rfl ⟨rfl,a5⟩;have a6:=elR hmr;obtain rfl:=som a6;exact ⟨a5,z⟩
theorem e_q {x1:g_}{x2:Bool}{x3:Bool}{x4:Bool}{x5:Bool}{x6:Int}{res:Bool}(hm:c_K x1 x2 x3 x4 x5 x6=some res)(hBw:B<=w0.z)(p1_0:x1.name.b.length<=LEN)(p1_1:inI x1.kind)(p1_2:inI x1.size)(a0:repS w0 B (sl A9 N9 C9) x1.bytes)(a1:repS w0 B (sl A8 N8 C8) x1.names)(a2:repS w0 B (sl AA NA CA) x1.tags)(a3:repS w0 B (sl AB NB CB) x1.kids)(p6_0:inI x6):h_ prog 248 [(.agg #[Str.v x1.name,vI x1.kind,vI x1.size,vB x1.little,sl A9 N9 C9,sl A8 N8 C8,sl AA NA CA,sl AB NB CB]),vB x2,vB x3,vB x4,vB x5,vI x6] w0 (Q11 w0 B res):=by
 unfold c_K at hm
 refine goF func248 z z (lb z) fun fn hr=>Ws<|E z (fb z) ?_
 rintro _ Y ⟨rfl,hd⟩;have ha:=hd.below;have hb:Blk Y w0.z (vR x1 A9 N9 C9 A8 N8 C8 AA NA CA AB NB CB):=hd.blk;refine Rw z<|Wq ?_
 obtain ⟨ur,hus,hmt⟩:=bdS hm;refine Wt (fun a w=>∃(xc:Bool),xc=ur/\Sat 57 [(12,vB xc)] a/\Below Y.z Y w) ?_ ?_
 ·refine Wg<|RM z z ?_
  obtain ⟨ue,huf,hmu⟩:=bdS hus;refine e_2 18 ue 4 ?_ ?_
  ·rcases bs x2 with W | W
   ·iterate 3 refine Nh z W ?_
    exact R z (pT z W z)<|WLq 4 (ifT huf W) z z z
   exact Rh z W (fd b_3 z)<|Rh z W (l0 g_3 z<|hb.at z)<|Rh z W (eql z z)<|R z (pF z W z)<|WLq 4 (ifF huf W) z z z
  refine Rm z ?_;obtain ⟨ug,huh,hmv⟩:=bdS hmu;refine e_2 27 ug 8 ?_ ?_
  ·rcases bs ue with h | h
   ·have hmi:=ifT huh h;refine Rh z h (mv z)<|Rh z h (mv z) ?_
    rcases bs x3 with L | L
    ·iterate 4 refine Nh z L ?_
     exact Rh z h (pT z L z)<|R z (pT z h z)<|WLq 8 (ifT hmi L) z z z
    exact Rh z L (fd b_r z)<|Rh z L (l0 M_ z<|hb.at z)<|Rh z L (lnR j_ z<|a0.e ha)<|Rh z L (eql z z)<|Rh z h (pF z L z)<|R z (pT z h z)<|WLq 8 (ifF hmi L) z z z
   exact Nh z h<|Nh z h<|Nv z<|Nv z<|Nv z<|Nv z<|Nh z h<|R z (pF z h z)<|WLq 8 (ifF huh h) z z z
  refine Rm z ?_;obtain ⟨uj,huk,hmw⟩:=bdS hmv;refine e_2 36 uj 8 ?_ ?_
  ·rcases bs ug with G | G
   ·have hml:=ifT huk G;refine Rh z G (mv z)<|Rh z G (mv z) ?_
    rcases bs x4 with O | O
    ·iterate 4 refine Nh z O ?_
     exact Rh z G (pT z O z)<|R z (pT z G z)<|WLq 8 (ifT hml O) z z z
    exact Rh z O (fd c_w z)<|Rh z O (l0 a_J z<|hb.at z)<|Rh z O (lnR G_ z<|a1.e ha)<|Rh z O (eql z z)<|Rh z G (pF z O z)<|R z (pT z G z)<|WLq 8 (ifF hml O) z z z
   exact Nh z G<|Nh z G<|Nv z<|Nv z<|Nv z<|Nv z<|Nh z G<|R z (pF z G z)<|WLq 8 (ifF huk G) z z z
  refine Rm z ?_;obtain ⟨um,hun,hmo⟩:=bdS hmw;refine e_2 45 um 8 ?_ ?_
  ·rcases bs uj with H | H
   ·have hmp:=ifT hun H;refine Rh z H (mv z)<|Rh z H (mv z) ?_
    rcases bs x5 with V | V
    ·iterate 4 refine Nh z V ?_
     exact Rh z H (pT z V z)<|R z (pT z H z)<|WLq 8 (ifT hmp V) z z z
    exact Rh z V (fd b_s z)<|Rh z V (l0 I_ z<|hb.at z)<|Rh z V (lnR z_ z<|a2.e ha)<|Rh z V (eql z z)<|Rh z H (pF z V z)<|R z (pT z H z)<|WLq 8 (ifF hmp V) z z z
   exact Nh z H<|Nh z H<|Nv z<|Nv z<|Nv z<|Nv z<|Nh z H<|R z (pF z H z)<|WLq 8 (ifF hun H) z z z
  refine Rm z ?_
  rcases bs um with I | I
  ·have hmq:=ifT hmo I;refine Rh z I (mv z)<|Rh z I (lss z z)<|Rh z I (mv z) ?_
   rcases bs (decide<|x6<0) with J | J
   ·iterate 5 refine Nh z J ?_
    exact Rh z I (pT z J z)<|R z (pT z I z)<|Ra z<|Wl (fun _ q=>⟨true,som<|ifT hmq J,q.k<|s1 z,br Y⟩)
   exact Rh z J (fd a_2 z)<|Rh z J (l0 I_ z<|hb.at z)<|Rh z J (lnR z_ z<|a3.e ha)<|Rh z J (mv z)<|Rh z J (eql z z)<|Rh z I (pF z J z)<|R z (pT z I z)<|Ra z<|Wl (fun _ q=>⟨(x1.kids.length:Int)==x6,som<|ifF hmq J,q.k<|s1 z,br Y⟩)
  iterate 3 refine Nh z I ?_
  exact Nv z<|Nv z<|Nv z<|Nv z<|Nv z<|Nh z I<|R z (pF z I z)<|Ra z<|Wl (fun _ q=>⟨false,som<|ifF hmo I,q.k<|s1 z,br Y⟩)
 rintro ax _ ⟨xc,rfl,_,sy⟩;revert ax;refine Wo ?_;obtain rfl:=som hmt;exact Wr<|c_ hr z ⟨bup ha sy,z⟩
theorem m_x {x1:e_}{x2:Int}{res:Int}(hm:f_E x1 x2=some res)(hBw:B<=w0.z)(p1_0:repS w0 B (sl A0 N0 C0) x1.rules)(p2_0:inI x2):h_ prog 249 [(.agg #[sl A0 N0 C0]),vI x2] w0 (Q0 w0 B res):=by
 unfold f_E at hm
 refine goF func249 z z (lb z) fun fn hr=>Ws<|E z (fb z) ?_
 rintro _ I ⟨rfl,L⟩;have h2:=L.below;have h6:Blk I w0.z [sl A0 N0 C0]:=L.blk;refine Rw z<|Wq<|Wq ?_
 obtain ⟨uf,hug,hma⟩:=bdS hm;refine Wt (fun a w=>∃(J:Bool),J=uf/\Sat 37 [(1,vI x2),(2,pt w0.z),(27,vB J)] a/\Below I.z I w) ?_ ?_
 ·refine Wg<|R z (lN (vs:=[sl A0 N0 C0]) J_ E_ z z fid<|h6.row 0 1 z)<|Rm z ?_
  obtain ⟨rh,ei,hmb⟩:=bdS hug;refine E z (fc call199 z<|m_w ei (zt' hBw h2.s) (p1_0.e h2) p2_0) ?_;rintro _ _ ⟨s4,rfl⟩;refine R z (not_ z)<|Rm z ?_
  rcases bs (!rh) with G | G
  ·iterate 7 refine Nh z G ?_
   exact R z (pT z G z)<|Rm z<|Nh z z<|Nh z z<|Nh z z<|Nh z z<|Nh z z<|Nh z z<|Nh z z<|Nh z z<|R z (pT z z z)<|Wl (fun _ q=>⟨true,som<|ifT hmb G,q.k<|s3 z z z,s4⟩)
  refine Rh z G (fd a_o z) ?_;have hc:=h6.e s4;refine Rh z G (l0 a_q z<|hc.at z)<|Rh z G (mv z) ?_
  obtain ⟨xj,ek,hmd⟩:=bdS<|ifF hmb G;have he:=p1_0.g<|(h2.ag B).e s4
  refine RXg z z G z (at_ (α:=g_) a_b u_ z z z he ek) ?_;rintro _ ⟨_,_,_,rfl,hl,hn,_⟩;obtain ⟨_,_,_,_,_,_,_,_,_,_,_,_,rfl,_,_,_,_,_,_,_⟩:=a_N hn;refine Rh z G (fd a_M z)<|Rh z G (l0 g_3 z<|hl.at (j:=1) z)<|Rh z G (nq z z)<|R z (pF z G z)<|Rm z ?_
  rcases bs (xj.kind != 1) with h | h
  ·iterate 8 refine Nh z h ?_
   exact R z (pT z h z)<|Wl (fun _ q=>⟨true,som<|ifT hmd h,q.k<|s3 z z z,s4⟩)
  refine Rh z h (fd a_o z)<|Rh z h (l0 a_q z<|hc.at z)<|Rh z h (mv z) ?_
  obtain ⟨_,em,hmo⟩:=bdS<|ifF hmd h;refine RXg z z h z (at_ (α:=g_) a_b u_ z z z he em) ?_;rintro _ ⟨_,_,_,rfl,hp,hq,_⟩;obtain ⟨_,_,_,_,_,_,_,_,_,_,_,_,rfl,_,_,ht,_,_,_,_⟩:=a_N hq;refine Rh z h (fd b_3 z)<|Rh z h (l0 g_3 z<|hp.at (j:=2) z) ?_
  obtain ⟨rr,es,hmu⟩:=bdS hmo;refine Eg z z h z (fc call168 z<|d_X es (zt' hBw<|lt_ h2.s s4.s) ht (ii z)<|ii z) ?_;rintro _ _ ⟨sv,rfl⟩;exact Rh z h (not_ z)<|R z (pF z h z)<|Wl (fun _ q=>⟨!rr,som hmu,q.k<|s3 z z z,bup s4 sv⟩)
 rintro aw _ ⟨J,rfl,_,s5⟩;revert aw;refine Wo<|Wc z (fun H=>?_) (fun H=>?_)
 ·refine Ws<|Rw z ?_
  obtain rfl:=som<|ifT hma H;exact Wr<|c_ hr z ⟨bup h2 s5,z,ii z⟩
 refine Wk<|Ws<|Rf z a_o z<|R z (l0 a_q z<|(h6.e s5).at z)<|Rm z ?_
 obtain ⟨_,ex,hmy⟩:=bdS<|ifF hma H;refine RX z (at_ (α:=g_) a_b u_ z z z (p1_0.g<|(h2.ag B).e s5) ex) ?_;rintro _ ⟨_,_,_,rfl,hz,V,_⟩;obtain ⟨_,_,_,_,_,_,_,_,_,_,_,_,rfl,_,_,_,_,_,_,_⟩:=a_N V;refine Rf z b_3 z<|R z (l0 g_3 z<|hz.at (j:=2) z)<|R z (g_8 z z) ?_
 obtain ⟨_,W,O⟩:=bdS hmy;refine R z (h_m z z<|nnS W)<|R z (sb_ z z)<|Rw z ?_
 obtain rfl:=som O;exact Wr<|c_ hr z ⟨bup h2 s5,z,iS _ _⟩
theorem W_w3c {x1:List Str}{x2:Str}{res:Bool}(hm:g_K x1 x2=some res)(hBw:B<=w0.z)(p1_0:repS w0 B (sl A0 N0 C0) x1)(p2_0:x2.b.length<=LEN):h_ prog 202 [sl A0 N0 C0,Str.v x2] w0 (Q11 w0 B res):=by
 unfold g_K at hm
 refine goF func202 z z (lb z) fun fn hr=>Ws<|Rw z<|Wq<|Wm z<|R z (lnR G_ z p1_0)<|Rm z<|Wn ?_
 obtain ⟨_,L,H⟩:=bdS hm;refine Wf (σ:=Unit) (ρ:=Bool) (fun (k3:Nat)(_:Unit) a w=>Sat 17 [(1,Str.v x2),(7,sl A0 N0 C0),(8,vI (x1.length:Int)),(9,vI ((k3:Nat):Int))] a/\Below w0.z w0 w) (fun (_:Unit) a w=>Sat 17 [] a/\Below w0.z w0 w) (fun r ex a w=>ex = .ret/\w_ prog fn (Q11 w0 B r) a w) L ?_ ?_ ?_ ?_ ?_
 ·exact fun _ q=>⟨q.k<|s4 z z z z,br w0⟩
 ·rintro k3 _ _ _ _ I ⟨O,G⟩ V;refine Wu ?_ O;refine Ws<|Rl z z z<|Wn<|Wq<|Wc z (fun _=>?_) (fun hc=>(P_ I hc).elim)
  refine Wk<|Wq<|Wb<|Ws ?_
  obtain ⟨_,W,J⟩:=bdS V;refine RX z (at_ (α:=Str) G_ z_9 z z z (p1_0.e G) W) ?_;rintro _ ⟨_,_,_,rfl,ha,hb,_⟩;obtain ⟨rfl,_⟩:=a_r hb;refine R z (l0 g_9 z<|ha.at0 z)<|Rw z<|Wm z<|Rm z<|R z (a_R z z)<|Wx z (fun h=>?_) (fun h=>?_)
  ·exact Ws<|Rw z<|Wr<|rtO<|qL (som<|ifT J h).symm<|c_ hr z ⟨G,z⟩
  exact Wk<|Wg<|R z (inc_ I (lt_ (repS.len p1_0) A_) z z)<|Rm z<|Wl (fun _ q=>⟨(),(som<|ifF J h).symm,⟨q.k<|s4 z z z z,G⟩⟩)
 ·rintro _ _ _ ⟨hSc,sd⟩;refine Wu ?_ hSc;refine Ws<|Rl z z z<|Wn<|Wq<|Wc z (fun hc=>(Q_ hc).elim) (fun _=>?_)
  exact We<|fun a' ha'=>⟨rfl,⟨Sat.weaken ha' sn,sd⟩⟩
 ·rintro _ ae _ rfl ⟨_,sf⟩;have hmg:=elL H;revert ae;refine Wo<|Ws<|Rw z ?_
  obtain rfl:=som hmg;exact Wr<|c_ hr z ⟨sf,z⟩
 rintro _ _ _ _ rfl ⟨rfl,hqh⟩;have hmi:=elR H;obtain rfl:=som hmi;exact ⟨hqh,z⟩
theorem W_w3d {x1:g_}{res:Bool}(hm:i_8 n x1=some res)(hBw:B<=w0.z)(p1_0:x1.name.b.length<=LEN)(p1_1:inI x1.kind)(p1_2:inI x1.size)(V:repS w0 B (sl A9 N9 C9) x1.bytes)(I:repS w0 B (sl A8 N8 C8) x1.names)(W:repS w0 B (sl AA NA CA) x1.tags)(O:repS w0 B (sl AB NB CB) x1.kids):h_ prog 250 [(.agg #[Str.v x1.name,vI x1.kind,vI x1.size,vB x1.little,sl A9 N9 C9,sl A8 N8 C8,sl AA NA CA,sl AB NB CB])] w0 (Q11 w0 B res):=by
 unfold i_8 at hm
 refine goF func250 z z (lb z) fun fn hr=>Ws<|E z (fb z) ?_
 rintro _ L ⟨rfl,hi⟩;have h1:=hi.below;have ha:Blk L w0.z (vR x1 A9 N9 C9 A8 N8 C8 AA NA CA AB NB CB):=hi.blk;refine Rw z<|Wq<|Wq ?_
 obtain ⟨uy,huz,hmj⟩:=bdS hm;refine Wt (fun a w=>∃(xb:Bool),xb=uy/\Sat 44 [(1,pt w0.z),(23,vB xb)] a/\Below L.z L w) ?_ ?_
 ·refine Wg<|R z (lN (vs:=vR x1 A9 N9 C9 A8 N8 C8 AA NA CA AB NB CB) R_ u_ z z fid<|ha.row 0 8 z) ?_
  obtain ⟨ab,ad,hmk⟩:=bdS huz;refine E z (fc call248 z<|e_q ad (zt' hBw h1.s) p1_0 p1_1 p1_2 (V.e h1) (I.e h1) (W.e h1) (O.e h1)<|ii z) ?_;rintro _ _ ⟨s6,rfl⟩;refine R z (not_ z)<|Rm z ?_
  rcases bs (!ab) with h | h
  ·iterate 7 refine Nh z h ?_
   exact R z (pT z h z)<|Rm z<|Nh z z<|Nh z z<|Nh z z<|Nh z z<|Nh z z<|R z (pT z z z)<|Wl (fun _ q=>⟨true,som<|ifT hmk h,q.k<|s2 z z,s6⟩)
  have hml:=ifF hmk h;refine Rh z h (fd a_2 z) ?_;have hd:=ha.e s6;refine Rh z h (l0 I_ z<|hd.at z) ?_;have hn:=(h1.ag B).e s6;have he:=O.g hn;refine Rh z h (lnR z_ z he)<|Rh z h (fd c_w z)<|Rh z h (l0 a_J z<|hd.at z)<|Rh z h (lnR G_ z<|I.g hn)<|Rh z h (nq z z)<|R z (pF z h z)<|Rm z ?_
  rcases bs ((x1.kids.length:Int) != (x1.names.length:Int)) with H | H
  ·iterate 5 refine Nh z H ?_
   exact R z (pT z H z)<|Wl (fun _ q=>⟨true,som<|ifT hml H,q.k<|s2 z z,s6⟩)
  refine Rh z H (fd a_2 z)<|Rh z H (l0 I_ z<|hd.at z)<|Rh z H (lnR z_ z he) ?_
  obtain ⟨ae,af,Y⟩:=bdS<|ifF hml H;refine Eg z z H z (fc call168 z<|d_X af (zt' hBw<|lt_ h1.s s6.s) (b_W<|repS.len he) (ii z)<|ii z) ?_;rintro _ _ ⟨ah,rfl⟩;exact Rh z H (not_ z)<|R z (pF z H z)<|Wl (fun _ q=>⟨!ae,som Y,q.k<|s2 z z,bup s6 ah⟩)
 rintro ai J ⟨xb,rfl,_,s7⟩;revert ai;refine Wo<|Wc z (fun hcc=>?_) (fun hcc=>?_)
 ·refine Ws<|Rw z ?_
  obtain rfl:=som<|ifT hmj hcc;exact Wr<|c_ hr z ⟨bup h1 s7,z⟩
 refine Wk<|Wq<|Ws<|Rf z c_w z ?_
 have ho:=ha.e s7;refine R z (l0 a_J z<|ho.at z) ?_;have hp:=(h1.ag B).e s7;refine R z (lnR G_ z<|I.g hp)<|Rm z<|Wn ?_
 obtain ⟨_,a0,hmm⟩:=bdS<|ifF hmj hcc;refine Wf (σ:=Unit) (ρ:=Bool) (fun (kf:Nat)(_:Unit) a w=>Sat 44 [(1,pt w0.z),(25,sl A8 N8 C8),(26,vI (x1.names.length:Int)),(27,vI ((kf:Nat):Int))] a/\Below J.z J w) (fun (_:Unit) a w=>Sat 44 [] a/\Below J.z J w) (fun r ex a w=>ex = .ret/\w_ prog fn (Q11 w0 B r) a w) a0 ?_ ?_ ?_ ?_ ?_
 ·exact fun _ q=>⟨q.k<|s4 z z z z,br J⟩
 ·rintro kf _ _ wq _ hkr ⟨a1,s8⟩ a2;refine Wu ?_ a1;refine Ws<|Rl z z z<|Wn<|Wq<|Wc z (fun _=>?_) (fun hc=>(P_ hkr hc).elim)
  refine Wk<|Wq<|Wb<|Wm z ?_
  obtain ⟨_,aj,a3⟩:=bdS a2;have ht:=hp.e s8;refine RX z (at_ (α:=Str) G_ z_9 z z z (I.g ht) aj) ?_;rintro _ ⟨_,_,_,rfl,ak,al,_⟩;obtain ⟨rfl,hu⟩:=a_r al;refine R z (l0 g_9 z<|ak.at0 z)<|Ra z<|Rw z<|Wq ?_
  obtain ⟨am,a4,hms⟩:=bdS a3;refine Wt (fun a w=>∃(xg:Bool),xg=am/\Sat 44 [(1,pt w0.z),(25,sl A8 N8 C8),(26,vI (x1.names.length:Int)),(27,vI ((kf:Nat):Int)),(42,vB xg)] a/\Below wq.z wq w) ?_ ?_
  ·refine Wg<|Rm z ?_
   have hv:=lt_ (lt_ h1.s s7.s) s8.s;obtain ⟨an,ao,hmw⟩:=bdS a4;refine E z (fc call197 z<|k_A ao (zt' hBw hv) hu) ?_;rintro _ _ ⟨s9,rfl⟩;refine R z (not_ z)<|Rm z ?_
   rcases bs (!an) with G | G
   ·iterate 6 refine Nh z G ?_
    exact R z (pT z G z)<|Wl (fun _ q=>⟨true,som<|ifT hmw G,q.k<|s5 z z z z z,s9⟩)
   refine Rh z G (fd c_w z)<|Rh z G (l0 a_J z<|((ho.e s8).e s9).at z)<|Rh z G (mv z) ?_
   obtain ⟨_,ap,a5⟩:=bdS<|ifF hmw G;refine RXg z z G z (rX G_ z_9 z z (I.g<|ht.e s9) z z ap) ?_;rintro _ ⟨_,_,_,rfl,aq⟩;refine Rh z G (mv z) ?_;obtain ⟨ar,au,a6⟩:=bdS a5;refine Eg z z G z (fc call202 z<|W_w3c au (zt' hBw<|lt_ hv s9.s) aq hu) ?_;rintro _ _ ⟨av,rfl⟩;exact R z (pF z G z)<|Wl (fun _ q=>⟨ar,som a6,q.k<|s5 z z z z z,bup s9 av⟩)
  rintro aw _ ⟨xg,rfl,_,sx⟩;revert aw;refine Wo<|Wc z (fun hch=>?_) (fun hch=>?_)
  ·exact Ws<|Rw z<|Wr<|rtO<|qL (som<|ifT hms hch).symm<|c_ hr z ⟨bup (bup (bup h1 s7) s8) sx,z⟩
  exact Wk<|Wg<|R z (inc_ hkr (lt_ (repS.len I) A_) z z)<|Rm z<|Wl (fun _ q=>⟨(),(som<|ifF hms hch).symm,⟨q.k<|s4 z z z z,bup s8 sx⟩⟩)
 ·rintro _ _ _ ⟨a7,ax⟩;refine Wu ?_ a7;refine Ws<|Rl z z z<|Wn<|Wq<|Wc z (fun hc=>(Q_ hc).elim) (fun _=>?_)
  exact We<|fun a' ha'=>⟨rfl,⟨Sat.weaken ha' sn,ax⟩⟩
 ·rintro _ ay _ rfl ⟨_,az⟩;have a8:=elL hmm;revert ay;refine Wo<|Ws<|Rw z ?_
  obtain rfl:=som a8;exact Wr<|c_ hr z ⟨bup (bup h1 s7) az,z⟩
 rintro _ _ _ _ rfl ⟨rfl,a9⟩;have aa:=elR hmm;obtain rfl:=som aa;exact ⟨a9,z⟩
theorem W_w3e {x1:e_}{x2:g_}{res:Bool}(hm:i_9 x1 x2=some res)(hBw:B<=w0.z)(p1_0:repS w0 B (sl A0 N0 C0) x1.rules)(p2_0:x2.name.b.length<=LEN)(p2_1:inI x2.kind)(p2_2:inI x2.size)(p2_4:repS w0 B (sl A4 N4 C4) x2.bytes)(p2_5:repS w0 B (sl A5 N5 C5) x2.names)(p2_6:repS w0 B (sl A2 N2 C2) x2.tags)(p2_7:repS w0 B (sl A6 N6 C6) x2.kids):h_ prog 251 [(.agg #[sl A0 N0 C0]),(.agg #[Str.v x2.name,vI x2.kind,vI x2.size,vB x2.little,sl A4 N4 C4,sl A5 N5 C5,sl A2 N2 C2,sl A6 N6 C6])] w0 (Q11 w0 B res):=by
 unfold i_9 at hm
 refine goF func251 z z (lb z) fun fn hr=>Ws<|E z (fb z) ?_
 rintro _ J ⟨rfl,hn⟩;have h4:=hn.below;refine E z (fb z) ?_;rintro _ wg ⟨rfl,ho⟩;have h3:=ho.below;have he:Blk wg J.z (vR x2 A4 N4 C4 A5 N5 C5 A2 N2 C2 A6 N6 C6):=ho.blk;refine Rw z<|Wq<|Wq ?_
 obtain ⟨ah,a1,hmp⟩:=bdS hm;refine Wt (fun a w=>∃(xh:Bool),xh=ah/\Sat 57 [(2,pt w0.z),(3,pt J.z),(21,vB xh)] a/\Below wg.z wg w) ?_ ?_
 ·refine Wg<|R z (lN (vs:=vR x2 A4 N4 C4 A5 N5 C5 A2 N2 C2 A6 N6 C6) R_ u_ z z fid<|he.row 0 8 z)<|Rf z b_s z<|R z (l0 I_ z<|he.at z) ?_
  have h6:=(h4.ag B).e h3;have hq:=p2_6.g h6;refine R z (lnR z_ z hq)<|R z (add_ z z) ?_
  have ht:=lt_ h4.s h3.s;obtain ⟨ai,aj,hmr⟩:=bdS a1;refine E z (fc call248 z<|e_q aj (zt' hBw ht) p2_0 p2_1 p2_2 (p2_4.g h6) (p2_5.g h6) hq (p2_7.g h6)<|iA _ _) ?_;rintro _ _ ⟨s9,rfl⟩;refine R z (not_ z)<|Rm z ?_
  rcases bs (!ai) with I | I
  ·iterate 5 refine Nh z I ?_
   exact R z (pT z I z)<|Wl (fun _ q=>⟨true,som<|ifT hmr I,q.k<|s3 z z z,s9⟩)
  refine Rh z I (fd b_s z)<|Rh z I (l0 I_ z<|(he.e s9).at z) ?_
  have hu:=p2_6.g<|h6.e s9
  refine Rh z I (lnR z_ z hu) ?_;obtain ⟨ak,al,a2⟩:=bdS<|ifF hmr I;refine Eg z z I z (fc call168 z<|d_X al (zt' hBw<|lt_ ht s9.s) (b_W<|repS.len hu) (ii z)<|ii z) ?_;rintro _ _ ⟨am,rfl⟩;exact Rh z I (not_ z)<|R z (pF z I z)<|Wl (fun _ q=>⟨!ak,som a2,q.k<|s3 z z z,bup s9 am⟩)
 rintro an _ ⟨xh,rfl,_,s7⟩;revert an;refine Wo<|Wc z (fun hci=>?_) (fun hci=>?_)
 ·refine Ws<|Rw z ?_
  obtain rfl:=som<|ifT hmp hci;exact Wr<|c_ hr z ⟨bup (bup h4 h3) s7,z⟩
 refine Wk<|Wq (Wd (X:=noX) 0 (pl_ 7 [5]) mo (by kernel_rfl) fun aM s8 _=>dR z z (lN (vs:=[sl A0 N0 C0]) J_ E_ z z fid<|((((hn.blk:Blk J w0.z [sl A0 N0 C0]).e h3).e s7).e s8).row 0 1 z)<|dR z z (fd a_2 z) ?_)
 have hv:=(he.e s7).e s8;refine dR z z (l0 I_ z<|hv.at z) ?_;obtain ⟨_,ao,a3⟩:=bdS<|ifF hmp hci;have hj:=(((h4.ag B).e h3).e s7).e s8;refine dRX z z (at_ (α:=Int) z_ z_3 z z z (p2_7.g hj) ao) ?_;rintro _ ⟨_,_,_,rfl,ap,aq,_⟩;obtain ⟨rfl,ar⟩:=W_ aq;refine dR z z (l0 g_3 z<|ap.at0 z) ?_;have hw:=lt_ (lt_ (lt_ h4.s h3.s) s7.s) s8.s;obtain ⟨rk,au,a4⟩:=bdS a3;refine dE z z (fc call249 z<|m_x au (zt' hBw hw) (p1_0.g hj) ar) (.inr fun _ _ h=>F_<|h.1) ?_;rintro _ wa ⟨sb,rfl,av⟩;refine dQ z z z<|pD<|Wo<|Wq<|Ws<|Rf z b_s z ?_
 have hx:=hv.e sb;refine R z (l0 I_ z<|hx.at z) ?_;have hy:=hj.e sb;refine R z (lnR z_ z<|p2_6.g hy)<|Rm z<|Wn ?_
 obtain ⟨_,a5,hms⟩:=bdS a4;refine Wf (σ:=Unit) (ρ:=Bool) (fun (kf:Nat)(_:Unit) a w=>Sat 57 [(3,pt J.z),(5,vI rk),(29,sl A2 N2 C2),(30,vI (x2.tags.length:Int)),(31,vI ((kf:Nat):Int))] a/\Below wa.z wa w) (fun (_:Unit) a w=>Sat 57 [(5,vI rk)] a/\Below wa.z wa w) (fun r ex a w=>ex = .ret/\w_ prog fn (Q11 w0 B r) a w) a5 ?_ ?_ ?_ ?_ ?_
 ·exact fun _ q=>⟨q.k<|s5 z z z z z,br wa⟩
 ·rintro kf _ _ wz _ L ⟨a6,sc⟩ a7;refine Wu ?_ a6;refine Ws<|Rl z z z<|Wn<|Wq<|Wc z (fun _=>?_) (fun hc=>(P_ L hc).elim)
  refine Wk<|Wq<|Wb<|Wm z ?_
  obtain ⟨aw,ax,a8⟩:=bdS a7;have Y:=hy.e sc;refine RX z (at_ (α:=Int) z_ z_3 z z z (p2_6.g Y) ax) ?_;rintro _ ⟨_,_,_,rfl,ay,az,_⟩;obtain ⟨rfl,aA⟩:=W_ az;refine R z (l0 g_3 z<|ay.at0 z)<|Ra z<|Rw z<|Wq ?_
  obtain ⟨aB,a9,O⟩:=bdS a8;refine Wt (fun a w=>∃(xl:Bool),xl=aB/\Sat 57 [(3,pt J.z),(5,vI rk),(29,sl A2 N2 C2),(30,vI (x2.tags.length:Int)),(31,vI ((kf:Nat):Int)),(53,vB xl)] a/\Below wz.z wz w) ?_ ?_
  ·refine Wg<|RM z z ?_
   obtain ⟨aC,aD,V⟩:=bdS a9;refine E z (fc call168 z<|d_X aD (zt' hBw<|lt_ (lt_ hw sb.s) sc.s) aA (ii z) av) ?_;rintro _ _ ⟨sd,rfl⟩;refine R z (not_ z)<|Rm z ?_
   rcases bs (!aC) with H | H
   ·iterate 3 refine Nh z H ?_
    exact Nv z<|Nv z<|Nv z<|Nv z<|Nv z<|Nv z<|Nv z<|Nv z<|Nh z H<|R z (pT z H z)<|Wl (fun _ q=>⟨true,som<|ifT V H,q.k<|s6 z z z z z z,sd⟩)
   have W:=ifF V H;refine Rh z H (mv z)<|Rh z H (Z_ z z)<|Rh z H (mv z) ?_
   rcases bs (decide<|0<((kf:Nat):Int)) with G | G
   ·refine Rh z G (fd b_s z)<|Rh z G (l0 I_ z<|((hx.e sc).e sd).at z)<|Rh z G (mv z)<|Rh z G (sb_ z z) ?_
    obtain ⟨aE,aF,aa⟩:=bdS<|ifT W G;refine RXg z z G z (at_ (α:=Int) z_ z_3 z z z (p2_6.g<|Y.e sd) aF) ?_;rintro _ ⟨_,_,_,rfl,aG,aH,_⟩;obtain ⟨rfl,_⟩:=W_ aH;exact Rh z G (l0 g_3 z<|aG.at0 z)<|Rh z G (mv z)<|Rh z G (b_l z z)<|Rh z H (pT z G z)<|R z (pF z H z)<|Wl (fun _ q=>⟨decide<|aw<=aE,som aa,q.k<|s6 z z z z z z,sd⟩)
   iterate 8 refine Nh z G ?_
   exact Rh z H (pF z G z)<|R z (pF z H z)<|Wl (fun _ q=>⟨false,som<|ifF W G,q.k<|s6 z z z z z z,sd⟩)
  rintro aI _ ⟨xl,rfl,_,a0⟩;revert aI;refine Wo<|Wc z (fun hcm=>?_) (fun hcm=>?_)
  ·exact Ws<|Rw z<|Wr<|rtO<|qL (som<|ifT O hcm).symm<|c_ hr z ⟨bup (bup (bup (bup (bup (bup h4 h3) s7) s8) sb) sc) a0,z⟩
  exact Wk<|Wg<|R z (inc_ L (lt_ (repS.len p2_6) A_) z z)<|Rm z<|Wl (fun _ q=>⟨(),(som<|ifF O hcm).symm,⟨q.k<|s5 z z z z z,bup sc a0⟩⟩)
 ·rintro _ _ _ ⟨ab,aJ⟩;refine Wu ?_ ab;refine Ws<|Rl z z z<|Wn<|Wq<|Wc z (fun hc=>(Q_ hc).elim) (fun _=>?_)
  exact We<|fun a' ha'=>⟨rfl,⟨Sat.weaken ha'<|s1 z,aJ⟩⟩
 ·rintro _ aK _ rfl ⟨_,aL⟩;have ad:=elL hms;revert aK;refine Wo<|Wm z<|R z (Z_ z z)<|Rw z ?_
  obtain rfl:=som ad;exact Wr<|c_ hr z ⟨bup (bup (bup (bup (bup h4 h3) s7) s8) sb) aL,z⟩
 rintro _ _ _ _ rfl ⟨rfl,ae⟩;have af:=elR hms;obtain rfl:=som af;exact ⟨ae,z⟩
theorem W_w3f {x1:e_}{x2:g_}{res:Bool}(hm:i_a n x1 x2=some res)(hBw:B<=w0.z)(p1_0:repS w0 B (sl A0 N0 C0) x1.rules)(p2_0:x2.name.b.length<=LEN)(p2_1:inI x2.kind)(p2_2:inI x2.size)(p2_4:repS w0 B (sl A4 N4 C4) x2.bytes)(p2_5:repS w0 B (sl A5 N5 C5) x2.names)(p2_6:repS w0 B (sl A2 N2 C2) x2.tags)(p2_7:repS w0 B (sl A6 N6 C6) x2.kids):h_ prog 200 [(.agg #[sl A0 N0 C0]),(.agg #[Str.v x2.name,vI x2.kind,vI x2.size,vB x2.little,sl A4 N4 C4,sl A5 N5 C5,sl A2 N2 C2,sl A6 N6 C6])] w0 (Q11 w0 B res):=by
 unfold i_a at hm
 refine goF func200 z z (lb z) fun fn hr=>Ws<|E z (fb z) ?_
 rintro _ ww ⟨rfl,aA⟩;have h1:=aA.below;have hx:Blk ww w0.z [sl A0 N0 C0]:=aA.blk;refine E z (fb z) ?_;rintro _ J ⟨rfl,aB⟩;have G:=aB.below;have h6:Blk J ww.z (vR x2 A4 N4 C4 A5 N5 C5 A2 N2 C2 A6 N6 C6):=aB.blk;refine Rw z<|Wq<|Ws<|Rf z a_M z<|R z (l0 g_3 z<|h6.at z)<|Wn<|Wb<|Ws<|Rq z z z<|Rw z<|Wc z (fun hcy=>?_) (fun hcy=>?_)
 ·refine Wq ?_;obtain ⟨bf,aS,aT⟩:=bdS<|ifT hm hcy;refine Wt (fun a w=>∃(xz:Bool),xz=bf/\Sat 102 [(4,vB xz)] a/\Below J.z J w) ?_ ?_
  ·refine Wg<|R z (lN (vs:=vR x2 A4 N4 C4 A5 N5 C5 A2 N2 C2 A6 N6 C6) R_ u_ z z fid<|h6.row 0 8 z) ?_
   have hq:=(h1.ag B).e G;have aC:=lt_ h1.s G.s;obtain ⟨bg,bh,af⟩:=bdS aS;refine E z (fc call248 z<|e_q bh (zt' hBw aC) p2_0 p2_1 p2_2 (p2_4.g hq) (p2_5.g hq) (p2_6.g hq) (p2_7.g hq)<|ii z) ?_;rintro _ _ ⟨se,rfl⟩;refine Rm z ?_
   rcases bs bg with hca | hca
   ·refine Rh z hca (fd b_3 z) ?_;have aD:=h6.e se;refine Rh z hca (l0 g_3 z<|aD.at z) ?_;obtain ⟨bi,bj,ah⟩:=bdS<|ifT af hca;refine Eg z z hca z (fc call168 z<|d_X bj (zt' hBw<|lt_ aC se.s) p2_2 (ii z)<|ii z) ?_;rintro _ _ ⟨sr,rfl⟩;refine R z (pT z hca z)<|Rm z ?_
    rcases bs bi with L | L
    ·have ai:=ifT ah L;refine Rh z L (fd d_c z) ?_;have aE:=aD.e sr;refine Rh z L (l0 g_4 z<|aE.at z)<|Rh z L (not_ z)<|Rh z L (mv z) ?_
     rcases bs (!x2.little) with hcb | hcb
     ·iterate 3 refine Nh z hcb ?_
      exact Rh z L (pT z hcb z)<|R z (pT z L z)<|Ra z<|Wl (fun _ q=>⟨true,som<|ifT ai hcb,q.k<|s1 z,bup se sr⟩)
     exact Rh z hcb (fd b_3 z)<|Rh z hcb (l0 g_3 z<|aE.at z)<|Rh z hcb (Z_ z z)<|Rh z L (pF z hcb z)<|R z (pT z L z)<|Ra z<|Wl (fun _ q=>⟨decide<|1<x2.size,som<|ifF ai hcb,q.k<|s1 z,bup se sr⟩)
    iterate 4 refine Nh z L ?_
    exact Nv z<|Nv z<|Nv z<|Nh z L<|R z (pF z L z)<|Ra z<|Wl (fun _ q=>⟨false,som<|ifF ah L,q.k<|s1 z,bup se sr⟩)
   iterate 3 refine Nh z hca ?_
   exact R z (pF z hca z)<|Rm z<|Nh z z<|Nh z z<|Nh z z<|Nh z z<|Nv z<|Nv z<|Nv z<|Nh z z<|R z (pF z z z)<|Ra z<|Wl (fun _ q=>⟨false,som<|ifF af hca,q.k<|s1 z,se⟩)
  rintro bk _ ⟨xz,rfl,_,bm⟩;revert bk;refine Wo ?_;obtain rfl:=som aT;exact Wr<|rtO<|c_ hr z ⟨bup (bup h1 G) bm,z⟩
 have aj:=ifF hm hcy;refine Ws<|Rq z z z<|Rw z<|Wc z (fun Y=>?_) (fun Y=>?_)
 ·refine Wq ?_;obtain ⟨bn,aU,aV⟩:=bdS<|ifT aj Y;refine Wt (fun a w=>∃(a8:Bool),a8=bn/\Sat 102 [(4,vB a8)] a/\Below J.z J w) ?_ ?_
  ·refine Wg<|R z (lN (vs:=vR x2 A4 N4 C4 A5 N5 C5 A2 N2 C2 A6 N6 C6) R_ u_ z z fid<|h6.row 0 8 z) ?_
   have hj:=(h1.ag B).e G;have aF:=lt_ h1.s G.s;obtain ⟨bo,bp,ak⟩:=bdS aU;refine E z (fc call248 z<|e_q bp (zt' hBw aF) p2_0 p2_1 p2_2 (p2_4.g hj) (p2_5.g hj) (p2_6.g hj) (p2_7.g hj)<|ii z) ?_;rintro _ _ ⟨sk,rfl⟩;refine Rm z ?_
   rcases bs bo with V | V
   ·refine Rh z V (fd b_r z)<|Rh z V (l0 M_ z<|(h6.e sk).at z) ?_
    have aG:=p2_4.g<|hj.e sk
    refine Rh z V (lnR j_ z aG) ?_;obtain ⟨bq,bt,aW⟩:=bdS<|ifT ak V;refine Eg z z V z (fc call168 z<|d_X bt (zt' hBw<|lt_ aF sk.s) (b_W<|repS.len aG) (ii z)<|ii z) ?_;rintro _ _ ⟨bu,rfl⟩;exact R z (pT z V z)<|Ra z<|Wl (fun _ q=>⟨bq,som aW,q.k<|s1 z,bup sk bu⟩)
   iterate 4 refine Nh z V ?_
   exact R z (pF z V z)<|Ra z<|Wl (fun _ q=>⟨false,som<|ifF ak V,q.k<|s1 z,sk⟩)
  rintro bv _ ⟨a8,rfl,_,bw⟩;revert bv;refine Wo ?_;obtain rfl:=som aV;exact Wr<|rtO<|c_ hr z ⟨bup (bup h1 G) bw,z⟩
 have al:=ifF aj Y;refine Ws<|Rq z z z<|Rw z<|Wc z (fun a0=>?_) (fun a0=>?_)
 ·refine Wq ?_;obtain ⟨bx,aX,aY⟩:=bdS<|ifT al a0;refine Wt (fun a w=>∃(a9:Bool),a9=bx/\Sat 102 [(4,vB a9)] a/\Below J.z J w) ?_ ?_
  ·refine Wg<|R z (lN (vs:=vR x2 A4 N4 C4 A5 N5 C5 A2 N2 C2 A6 N6 C6) R_ u_ z z fid<|h6.row 0 8 z) ?_
   have ht:=(h1.ag B).e G;have aH:=lt_ h1.s G.s;obtain ⟨bz,bA,am⟩:=bdS aX;refine E z (fc call248 z<|e_q bA (zt' hBw aH) p2_0 p2_1 p2_2 (p2_4.g ht) (p2_5.g ht) (p2_6.g ht) (p2_7.g ht)<|ii z) ?_;rintro _ _ ⟨ss,rfl⟩;refine Rm z ?_
   rcases bs bz with hcc | hcc
   ·refine Rh z hcc (fd b_3 z)<|Rh z hcc (l0 g_3 z<|(h6.e ss).at z) ?_
    obtain ⟨bB,bC,aZ⟩:=bdS<|ifT am hcc;refine Eg z z hcc z (fc call168 z<|d_X bC (zt' hBw<|lt_ aH ss.s) p2_2 (ii z)<|ii z) ?_;rintro _ _ ⟨bD,rfl⟩;exact R z (pT z hcc z)<|Ra z<|Wl (fun _ q=>⟨bB,som aZ,q.k<|s1 z,bup ss bD⟩)
   iterate 3 refine Nh z hcc ?_
   exact R z (pF z hcc z)<|Ra z<|Wl (fun _ q=>⟨false,som<|ifF am hcc,q.k<|s1 z,ss⟩)
  rintro bE _ ⟨a9,rfl,_,bF⟩;revert bE;refine Wo ?_;obtain rfl:=som aY;exact Wr<|rtO<|c_ hr z ⟨bup (bup h1 G) bF,z⟩
 have an:=ifF al a0;refine Ws<|Rq z z z<|Rw z<|Wc z (fun a1=>?_) (fun a1=>?_)
 ·refine Wq ?_;obtain ⟨bG,b0,b1⟩:=bdS<|ifT an a1;refine Wt (fun a w=>∃(aa:Bool),aa=bG/\Sat 102 [(4,vB aa)] a/\Below J.z J w) ?_ ?_
  ·refine Wd (X:=noX) 0 (pl_ 12 [1,8]) mo (by kernel_rfl) fun cl sf _=>?_
   have aI:=h6.e sf;refine dR z z (lN (vs:=vR x2 A4 N4 C4 A5 N5 C5 A2 N2 C2 A6 N6 C6) R_ u_ z z fid<|aI.row 0 8 z) ?_;have hl:=((h1.ag B).e G).e sf;have aJ:=lt_ (lt_ h1.s G.s) sf.s;obtain ⟨bH,bI,ao⟩:=bdS b0;refine dE z z (fc call248 z<|e_q bI (zt' hBw aJ) p2_0 p2_1 p2_2 (p2_4.g hl) (p2_5.g hl) (p2_6.g hl) (p2_7.g hl)<|ii z) (.inr fun _ _ h=>F_<|h.1) ?_;rintro _ _ ⟨sg,rfl⟩;refine dM z z z ?_
   rcases bs bH with H | H
   ·refine dRg z z z H z (lN (vs:=[sl A0 N0 C0]) J_ E_ z z fid<|(((hx.e G).e sf).e sg).row 0 1 z)<|dRg z z z H z (fd a_2 z)<|dRg z z z H z (l0 I_ z<|(aI.e sg).at z) ?_
    obtain ⟨_,bJ,b2⟩:=bdS<|ifT ao H;have aK:=hl.e sg;refine a_K z z z H z (at_ (α:=Int) z_ z_3 z z z (p2_7.g aK) bJ) ?_;rintro _ ⟨_,_,_,rfl,bK,bL,_⟩;obtain ⟨rfl,bM⟩:=W_ bL;refine dRg z z z H z (l0 g_3 z<|bK.at0 z) ?_;obtain ⟨bN,bO,b3⟩:=bdS b2;refine dEg z z z H z (fc call249 z<|m_x bO (zt' hBw<|lt_ aJ sg.s) (p1_0.g aK) bM) (.inr fun _ _ h=>F_<|h.1) ?_;rintro _ _ ⟨bP,rfl,_⟩;exact dRg z z z H z (Z_ z z)<|dR z z (pT z H z)<|dQ z z z<|pD (fun _ q=>⟨decide<|0<bN,som b3,q.k<|s1 z,bup (bup sf sg) bP⟩)
   iterate 5 refine dRn z z z H z ?_
   exact dEn z z z H z<|dRn z z z H z<|dR z z (pF z H z)<|dQ z z z<|pD (fun _ q=>⟨false,som<|ifF ao H,q.k<|s1 z,bup sf sg⟩)
  rintro bQ _ ⟨aa,rfl,_,bR⟩;revert bQ;refine Wo ?_;obtain rfl:=som b1;exact Wr<|rtO<|c_ hr z ⟨bup (bup h1 G) bR,z⟩
 have ap:=ifF an a1;refine Ws<|Rq z z z<|Rw z<|Wc z (fun a2=>?_) (fun a2=>?_)
 ·refine Wq ?_;obtain ⟨bS,b4,b5⟩:=bdS<|ifT ap a2;refine Wt (fun a w=>∃(ab:Bool),ab=bS/\Sat 102 [(4,vB ab)] a/\Below J.z J w) ?_ ?_
  ·refine Wd (X:=noX) 0 (pl_ 12 [1,8]) mo (by kernel_rfl) fun cm sh _=>?_
   have aL:=h6.e sh;refine dR z z (lN (vs:=vR x2 A4 N4 C4 A5 N5 C5 A2 N2 C2 A6 N6 C6) R_ u_ z z fid<|aL.row 0 8 z) ?_;have hn:=((h1.ag B).e G).e sh;have aM:=lt_ (lt_ h1.s G.s) sh.s;obtain ⟨bT,bU,aq⟩:=bdS b4;refine dE z z (fc call248 z<|e_q bU (zt' hBw aM) p2_0 p2_1 p2_2 (p2_4.g hn) (p2_5.g hn) (p2_6.g hn) (p2_7.g hn)<|ii z) (.inr fun _ _ h=>F_<|h.1) ?_;rintro _ _ ⟨si,rfl⟩;refine dM z z z ?_
   rcases bs bT with I | I
   ·refine dRg z z z I z (lN (vs:=[sl A0 N0 C0]) J_ E_ z z fid<|(((hx.e G).e sh).e si).row 0 1 z)<|dRg z z z I z (fd a_2 z)<|dRg z z z I z (l0 I_ z<|(aL.e si).at z) ?_
    obtain ⟨_,bV,b6⟩:=bdS<|ifT aq I;have aN:=hn.e si;refine a_K z z z I z (at_ (α:=Int) z_ z_3 z z z (p2_7.g aN) bV) ?_;rintro _ ⟨_,_,_,rfl,bW,bX,_⟩;obtain ⟨rfl,bY⟩:=W_ bX;refine dRg z z z I z (l0 g_3 z<|bW.at0 z) ?_;obtain ⟨bZ,c0,b7⟩:=bdS b6;refine dEg z z z I z (fc call249 z<|m_x c0 (zt' hBw<|lt_ aM si.s) (p1_0.g aN) bY) (.inr fun _ _ h=>F_<|h.1) ?_;rintro _ _ ⟨c1,rfl,_⟩;exact dRg z z z I z (Z_ z z)<|dR z z (pT z I z)<|dQ z z z<|pD (fun _ q=>⟨decide<|0<bZ,som b7,q.k<|s1 z,bup (bup sh si) c1⟩)
   iterate 5 refine dRn z z z I z ?_
   exact dEn z z z I z<|dRn z z z I z<|dR z z (pF z I z)<|dQ z z z<|pD (fun _ q=>⟨false,som<|ifF aq I,q.k<|s1 z,bup sh si⟩)
  rintro c2 _ ⟨ab,rfl,_,c3⟩;revert c2;refine Wo ?_;obtain rfl:=som b5;exact Wr<|rtO<|c_ hr z ⟨bup (bup h1 G) c3,z⟩
 have ar:=ifF ap a2;refine Ws<|Rq z z z<|Rw z<|Wc z (fun a3=>?_) (fun a3=>?_)
 ·refine Ws<|R z (lN (vs:=vR x2 A4 N4 C4 A5 N5 C5 A2 N2 C2 A6 N6 C6) R_ u_ z z fid<|h6.row 0 8 z) ?_
  have hu:=(h1.ag B).e G;obtain ⟨_,c4,b8⟩:=bdS<|ifT ar a3;refine E z (fc call250 z<|W_w3d c4 (zt' hBw<|lt_ h1.s G.s) p2_0 p2_1 p2_2 (p2_4.g hu) (p2_5.g hu) (p2_6.g hu)<|p2_7.g hu) ?_;rintro _ _ ⟨c5,rfl⟩;refine Rw z ?_
  obtain rfl:=som b8;exact Wr<|rtO<|c_ hr z ⟨bup (bup h1 G) c5,z⟩
 have au:=ifF ar a3;refine Ws<|Rq z z z<|Rw z<|Wc z (fun a4=>?_) (fun a4=>?_)
 ·refine Ws<|R z (lN (vs:=[sl A0 N0 C0]) J_ E_ z z fid<|(hx.e G).row 0 1 z)<|R z (lN (vs:=vR x2 A4 N4 C4 A5 N5 C5 A2 N2 C2 A6 N6 C6) R_ u_ z z fid<|h6.row 0 8 z) ?_
  have ho:=(h1.ag B).e G;obtain ⟨_,c6,b9⟩:=bdS<|ifT au a4;refine E z (fc call251 z<|W_w3e c6 (zt' hBw<|lt_ h1.s G.s) (p1_0.g ho) p2_0 p2_1 p2_2 (p2_4.g ho) (p2_5.g ho) (p2_6.g ho)<|p2_7.g ho) ?_;rintro _ _ ⟨c7,rfl⟩;refine Rw z ?_
  obtain rfl:=som b9;exact Wr<|rtO<|c_ hr z ⟨bup (bup h1 G) c7,z⟩
 refine Wq<|Ws<|Rq z z z<|Rw z ?_
 obtain ⟨c8,av,aw⟩:=bdS<|ifF au a4;refine Wt (fun a w=>∃(ad:Bool),ad=c8/\Sat 102 [(3,pt ww.z),(6,vI x2.kind),(80,vB ad)] a/\Below J.z J w) ?_ ?_
 ·refine Wc z (fun a5=>?_)<|fun a5=>?_
  ·exact a_e<|fun _ q=>⟨x2.kind==8,som<|ifT av a5,q.k<|s3 z z z,br J⟩
  exact Wg<|Rq z z z<|Ra z<|Wl (fun _ q=>⟨x2.kind==9,som<|ifF av a5,q.k<|s3 z z z,br J⟩)
 rintro c9 aO ⟨ad,rfl,_,sd⟩;revert c9;refine Wo<|Wc z (fun a6=>?_) (fun a6=>?_)
 ·refine Ws<|R z (lN (vs:=vR x2 A4 N4 C4 A5 N5 C5 A2 N2 C2 A6 N6 C6) R_ u_ z z fid<|(h6.e sd).row 0 8 z) ?_
  have hv:=((h1.ag B).e G).e sd;obtain ⟨_,ca,ba⟩:=bdS<|ifT aw a6;refine E z (fc call248 z<|e_q ca (zt' hBw<|lt_ (lt_ h1.s G.s) sd.s) p2_0 p2_1 p2_2 (p2_4.g hv) (p2_5.g hv) (p2_6.g hv) (p2_7.g hv)<|ii z) ?_;rintro _ _ ⟨cb,rfl⟩;refine Rw z ?_
  obtain rfl:=som ba;exact Wr<|rtO<|c_ hr z ⟨bup (bup (bup h1 G) sd) cb,z⟩
 have ax:=ifF aw a6;refine Ws<|Rq z z z<|Rw z<|Wc z (fun a7=>?_) (fun a7=>?_)
 ·refine Wq ?_;obtain ⟨cc,bb,bc⟩:=bdS<|ifT ax a7;refine Wt (fun a w=>∃(ae:Bool),ae=cc/\Sat 102 [(4,vB ae)] a/\Below aO.z aO w) ?_ ?_
  ·refine Wg ?_;have aP:=h6.e sd;refine R z (lN (vs:=vR x2 A4 N4 C4 A5 N5 C5 A2 N2 C2 A6 N6 C6) R_ u_ z z fid<|aP.row 0 8 z) ?_;have hp:=((h1.ag B).e G).e sd;obtain ⟨cd,ce,ay⟩:=bdS bb;refine E z (fc call248 z<|e_q ce (zt' hBw<|lt_ (lt_ h1.s G.s) sd.s) p2_0 p2_1 p2_2 (p2_4.g hp) (p2_5.g hp) (p2_6.g hp) (p2_7.g hp)<|ii z) ?_;rintro _ _ ⟨sm,rfl⟩;refine Rm z ?_
   rcases bs cd with W | W
   ·have az:=ifT ay W;refine Rh z W (fd b_r z) ?_;have aQ:=aP.e sm;refine Rh z W (l0 M_ z<|aQ.at z) ?_;have aR:=p2_4.g<|hp.e sm
    refine Rh z W (lnR j_ z aR)<|Rh z W (eql z z)<|R z (pT z W z)<|Rm z ?_
    rcases bs ((x2.bytes.length:Int)==1) with O | O
    ·refine Rh z O (fd b_r z)<|Rh z O (l0 M_ z<|aQ.at z) ?_
     obtain ⟨cf,cg,be⟩:=bdS<|ifT az O;refine RXg z z O z (at_ (α:=UInt8) j_ z_5 z z z aR cg) ?_;rintro _ ⟨_,_,_,rfl,ch,ci,_⟩;obtain rfl:=u8 ci;exact Rh z O (l0 g_5 z<|ch.at0 z)<|Rh z O (nq z z)<|R z (pT z O z)<|Ra z<|Wl (fun _ q=>⟨(byteI cf) != (byteI (92:UInt8)),som be,q.k<|s1 z,sm⟩)
    iterate 5 refine Nh z O ?_
    exact R z (pF z O z)<|Ra z<|Wl (fun _ q=>⟨false,som<|ifF az O,q.k<|s1 z,sm⟩)
   iterate 4 refine Nh z W ?_
   exact R z (pF z W z)<|Rm z<|Nh z z<|Nh z z<|Nh z z<|Nh z z<|Nh z z<|R z (pF z z z)<|Ra z<|Wl (fun _ q=>⟨false,som<|ifF ay W,q.k<|s1 z,sm⟩)
  rintro cj _ ⟨ae,rfl,_,ck⟩;revert cj;refine Wo ?_;obtain rfl:=som bc;exact Wr<|rtO<|c_ hr z ⟨bup (bup (bup h1 G) sd) ck,z⟩
 refine Wk<|Ws<|Rw z ?_
 obtain rfl:=som<|ifF ax a7;exact Wr<|c_ hr z ⟨bup (bup h1 G) sd,z⟩
theorem W_w3g {x1:e_}{x2:Int}{res:Bool}(hm:i_b n x1 x2=some res)(hBw:B<=w0.z)(p1_0:repS w0 B (sl A0 N0 C0) x1.rules)(p2_0:inI x2):h_ prog 169 [(.agg #[sl A0 N0 C0]),vI x2] w0 (Q11 w0 B res):=by
 unfold i_b at hm
 refine goF func169 z z (lb z) fun fn hr=>Ws<|E z (fb z) ?_
 rintro _ ba ⟨rfl,aj⟩;have h2:=aj.below;have ho:Blk ba w0.z [sl A0 N0 C0]:=aj.blk;refine Rw z<|Wq<|Ws<|R z (lN (vs:=[sl A0 N0 C0]) J_ E_ z z fid<|ho.row 0 1 z)<|Rm z ?_
 obtain ⟨_,bb,a5⟩:=bdS hm;refine E z (fc call199 z<|m_w bb (zt' hBw h2.s) (p1_0.e h2) p2_0) ?_;rintro _ I ⟨s5,rfl⟩;refine R z (not_ z)<|Wx z (fun hcp=>?_) (fun hcp=>?_)
 ·refine Ws<|Rw z ?_
  obtain rfl:=som<|ifT a5 hcp;exact Wr<|c_ hr z ⟨bup h2 s5,z⟩
 refine Wk<|Ws<|Rf z a_o z ?_
 have ak:=ho.e s5;refine R z (l0 a_q z<|ak.at z)<|Rm z ?_
 obtain ⟨J,bc,aR⟩:=bdS<|ifF a5 hcp;have al:=(h2.ag B).e s5;refine RX z (at_ (α:=g_) a_b u_ z z z (p1_0.g al) bc) ?_;rintro _ ⟨_,_,_,rfl,be,bf,_⟩;obtain ⟨aq,nr,cs,au,nt,cv,aw,nx,cy,ae,nf,cg,rfl,am,bg,bh,bi,bj,bk,hj⟩:=a_N bf;refine R z (lN (vs:=vR J aq nr cs au nt cv aw nx cy ae nf cg) R_ u_ z z fid be)<|E z (fa c_x) ?_
 rintro _ bm ⟨rfl,an⟩;have h4:=an.below;have ao:Blk bm I.z [(Str.v (⟨[]⟩:Str)),vI 0,vI 0,vB false,sl none 0 0,sl none 0 0,sl none 0 0,sl none 0 0]:=an.blk;refine E0 (fs (cur':=vR J aq nr cs au nt cv aw nx cy ae nf cg) u_ z z ao z (lb z) (oA z) z) ?_;rintro _ ap ⟨hk,bn⟩;have h3:=bn.one;refine Wn<|Wq<|Wq ?_
 obtain ⟨bo,aS,a6⟩:=bdS aR;refine Wt (fun a w=>∃(xz:Bool),xz=bo/\Sat 65 [(1,vI x2),(2,pt w0.z),(5,pt I.z),(31,vB xz)] a/\Below ap.z ap w) ?_ ?_
 ·refine Wg<|Rf z e_k z<|R z (l0 g_9 z<|hk.at z) ?_
  obtain ⟨bp,bq,a7⟩:=bdS aS;refine E z (fc call197 z<|k_A bq (zt' hBw<|lt_ (lt_ (lt_ h2.s s5.s) h4.s) h3.s) am) ?_;rintro _ _ ⟨sm,rfl⟩;refine R z (not_ z)<|Rm z ?_
  rcases bs (!bp) with h | h
  ·iterate 3 refine Nh z h ?_
   exact Nv z<|Nv z<|Nv z<|Nh z h<|R z (pT z h z)<|Wl (fun _ q=>⟨true,som<|ifT a7 h,q.k<|s4 z z z z,sm⟩)
  have a8:=ifF a7 h;refine Rh z h (fd d_c z) ?_;have ar:=hk.e sm;refine Rh z h (l0 g_4 z<|ar.at z)<|Rh z h (mv z) ?_
  rcases bs J.little with G | G
  ·exact Rh z G (fd a_M z)<|Rh z G (l0 g_3 z<|ar.at z)<|Rh z G (nq z z)<|Rh z h (pT z G z)<|R z (pF z h z)<|Wl (fun _ q=>⟨J.kind != 1,som<|ifT a8 G,q.k<|s4 z z z z,sm⟩)
  iterate 3 refine Nh z G ?_
  exact Rh z h (pF z G z)<|R z (pF z h z)<|Wl (fun _ q=>⟨false,som<|ifF a8 G,q.k<|s4 z z z z,sm⟩)
 rintro bt wh ⟨xz,rfl,_,s1⟩;revert bt;refine Wo<|Wc z (fun L=>?_) (fun L=>?_)
 ·refine Ws<|Rw z ?_
  obtain rfl:=som<|ifT a6 L;exact Wr<|c_ hr z ⟨bup (bM (bup (bup h2 s5) h4) h3<|m1<|lt_ h2.s s5.s) s1,z⟩
 refine Wk<|Wq<|Ws<|Rf z a_o z ?_
 have av:=((ak.e h4).c h3<|djs<|mm1 ho.lt s5.s).e s1;refine R z (l0 a_q z<|av.at z)<|Rm z ?_
 obtain ⟨bu,bv,aT⟩:=bdS<|ifF a6 L;have hd:=lt_ h2.s s5.s;have ax:∀k∈[I.z],¬B k:=or0 (d_ lr)<|n_<|zt' hBw hd;have ay:=((al.e h4).c h3<|f_ ax).e s1;refine RX z (rX a_b u_ z z (p1_0.g ay) z z bv) ?_;rintro _ ⟨bw,bx,bz,rfl,W⟩;refine R z (lnR a_b z W)<|Rm z<|Wn ?_
 obtain ⟨_,aU,a9⟩:=bdS aT;refine Wf (σ:=Unit) (ρ:=Bool) (fun (az:Nat)(_:Unit) a w=>Sat 65 [(1,vI x2),(2,pt w0.z),(5,pt I.z),(35,sl bw bx bz),(36,vI (bu.length:Int)),(37,vI ((az:Nat):Int))] a/\Below wh.z wh w) (fun (_:Unit) a w=>Sat 65 [(1,vI x2),(2,pt w0.z),(5,pt I.z)] a/\Below wh.z wh w) (fun r ex a w=>ex = .ret/\w_ prog fn (Q11 w0 B r) a w) aU ?_ ?_ ?_ ?_ ?_
 ·exact fun _ q=>⟨q.k<|s6 z z z z z z,br wh⟩
 ·rintro az _ _ bA _ aa ⟨aV,sa⟩ aW;refine Wu ?_ aV;refine Ws<|Rl z z z<|Wn<|Wq<|Wc z (fun _=>?_) (fun hc=>(P_ aa hc).elim)
  refine Wk<|Wq<|Wb<|Ws ?_
  obtain ⟨aA,bB,ab⟩:=bdS aW;refine RX z (at_ (α:=g_) a_b u_ z z z (W.e sa) bB) ?_;rintro _ ⟨_,_,_,rfl,bC,bD,_⟩;obtain ⟨aB,aC,aD,aE,aF,aG,aH,aI,aJ,aK,aL,aM,rfl,_,_,_,_,_,_,_⟩:=a_N bD;refine R z (lN (vs:=vR aA aB aC aD aE aF aG aH aI aJ aK aL aM) R_ u_ z z fid bC)<|E z (fa c_x) ?_
  rintro _ bE ⟨rfl,aN⟩;have Y:=aN.below;refine E0 (fs (cur':=vR aA aB aC aD aE aF aG aH aI aJ aK aL aM) u_ z z (aN.blk:Blk bE bA.z [(Str.v (⟨[]⟩:Str)),vI 0,vI 0,vB false,sl none 0 0,sl none 0 0,sl none 0 0,sl none 0 0]) z (lb z) (oA z) z) ?_;rintro _ _ ⟨bF,bG⟩;have a0:=bG.one;refine Wn<|Ws<|Rf z e_k z<|R z (l0 g_9 z<|bF.at z)<|Rf z e_k z<|R z (l0 g_9 z<|((((hk.e s1).e sa).e Y).c a0<|djs<|mm1 ao.lt<|lt_ (lt_ h3.s s1.s) sa.s).at z)<|R z (a_R z z)<|Wx z (fun O=>?_) (fun O=>?_)
  ·exact Ws<|Rw z<|Wr<|rtO<|qL (som<|ifT ab O).symm<|c_ hr z ⟨bM (bup (bup (bup (bM (bup (bup h2 s5) h4) h3<|m1 hd) s1) sa) Y) a0<|m1<|lt_ (lt_ (lt_ (lt_ hd h4.s) h3.s) s1.s) sa.s,z⟩
  exact Wk<|Wg<|R z (inc_ aa (lt_ (repS.len W) A_) z z)<|Rm z<|Wl (fun _ q=>⟨(),(som<|ifF ab O).symm,⟨q.k<|s6 z z z z z z,bM (bup sa Y) a0<|m1 sa.s⟩⟩)
 ·rintro _ _ _ ⟨aX,bH⟩;refine Wu ?_ aX;refine Ws<|Rl z z z<|Wn<|Wq<|Wc z (fun hc=>(Q_ hc).elim) (fun _=>?_)
  exact We<|fun a' ha'=>⟨rfl,⟨Sat.weaken ha'<|s3 z z z,bH⟩⟩
 ·rintro _ bI wi rfl ⟨_,sb⟩;have aY:=elL a9;revert bI;refine Wo<|Wq<|Ws<|Rf z a_2 z ?_
  have aO:=(hk.e s1).e sb;refine R z (l0 I_ z<|aO.at z) ?_;have a1:=(((h4.ag B).c h3<|f_ ax).e s1).e sb;refine R z (lnR z_ z<|hj.g a1)<|Rm z<|Wn ?_
  obtain ⟨_,aZ,ad⟩:=bdS aY;refine Wf (σ:=Unit) (ρ:=Bool) (fun (a2:Nat)(_:Unit) a w=>Sat 65 [(1,vI x2),(2,pt w0.z),(5,pt I.z),(48,sl ae nf cg),(49,vI (J.kids.length:Int)),(50,vI ((a2:Nat):Int))] a/\Below wi.z wi w) (fun (_:Unit) a w=>Sat 65 [(2,pt w0.z),(5,pt I.z)] a/\Below wi.z wi w) (fun r ex a w=>ex = .ret/\w_ prog fn (Q11 w0 B r) a w) aZ ?_ ?_ ?_ ?_ ?_
  ·exact fun _ q=>⟨q.k<|s6 z z z z z z,br wi⟩
  ·rintro a2 _ _ wl _ af ⟨b0,a3⟩ b1;refine Wu ?_ b0;refine Ws<|Rl z z z<|Wn<|Wq<|Wc z (fun _=>?_) (fun hc=>(P_ af hc).elim)
   refine Wk<|Wq<|Wb<|Ws ?_
   obtain ⟨aP,bJ,b2⟩:=bdS b1;refine RX z (at_ (α:=Int) z_ z_3 z z z (hj.g<|a1.e a3) bJ) ?_;rintro _ ⟨_,_,_,rfl,bK,bL,_⟩;obtain ⟨rfl,_⟩:=W_ bL;refine R z (l0 g_3 z<|bK.at0 z)<|Rw z<|Wq ?_
   obtain ⟨bN,ah,ai⟩:=bdS b2;refine Wt (fun a w=>∃(a4:Bool),a4=bN/\Sat 65 [(1,vI x2),(2,pt w0.z),(5,pt I.z),(48,sl ae nf cg),(49,vI (J.kids.length:Int)),(50,vI ((a2:Nat):Int)),(60,vB a4)] a/\Below wl.z wl w) ?_ ?_
   ·refine Wg<|Rm z<|Rl z z z<|Rm z ?_
    rcases bs (decide<|aP<0) with H | H
    ·iterate 3 refine Nh z H ?_
     exact R z (pT z H z)<|Wl (fun _ q=>⟨true,som<|ifT ah H,q.k<|s7 z z z z z z z,br wl⟩)
    exact Rh z H (mv z)<|Rh z H (mv z)<|Rh z H (b_l z z)<|R z (pF z H z)<|Wl (fun _ q=>⟨decide<|x2<=aP,som<|ifF ah H,q.k<|s7 z z z z z z z,br wl⟩)
   rintro bO _ ⟨a4,rfl,_,aQ⟩;revert bO;refine Wo<|Wc z (fun V=>?_) (fun V=>?_)
   ·exact Ws<|Rw z<|Wr<|rtO<|qL (som<|ifT ai V).symm<|c_ hr z ⟨bup (bup (bup (bup (bM (bup (bup h2 s5) h4) h3<|m1 hd) s1) sb) a3) aQ,z⟩
   exact Wk<|Wg<|R z (inc_ af (lt_ (repS.len hj) A_) z z)<|Rm z<|Wl (fun _ q=>⟨(),(som<|ifF ai V).symm,⟨q.k<|s6 z z z z z z,bup a3 aQ⟩⟩)
  ·rintro _ _ _ ⟨b3,bP⟩;refine Wu ?_ b3;refine Ws<|Rl z z z<|Wn<|Wq<|Wc z (fun hc=>(Q_ hc).elim) (fun _=>?_)
   exact We<|fun a' ha'=>⟨rfl,⟨Sat.weaken ha'<|s2 z z,bP⟩⟩
  ·rintro _ bQ _ rfl ⟨_,sc⟩;have b4:=elL ad;revert bQ;refine Wo<|Ws<|R z (lN (vs:=[sl A0 N0 C0]) J_ E_ z z fid<|((av.e sb).e sc).row 0 1 z)<|R z (lN (vs:=vR J aq nr cs au nt cv aw nx cy ae nf cg) R_ u_ z z fid<|(aO.e sc).row 0 8 z) ?_
   have hn:=a1.e sc;obtain ⟨_,bR,b5⟩:=bdS b4;refine E z (fc call200 z<|W_w3f bR (zt' hBw<|lt_ (lt_ (lt_ (lt_ (lt_ hd h4.s) h3.s) s1.s) sb.s) sc.s) (p1_0.g<|(ay.e sb).e sc) am bg bh (bi.g hn) (bj.g hn) (bk.g hn)<|hj.g hn) ?_;rintro _ _ ⟨bS,rfl⟩;refine Rw z ?_
   obtain rfl:=som b5;exact Wr<|c_ hr z ⟨bup (bup (bup (bup (bM (bup (bup h2 s5) h4) h3<|m1 hd) s1) sb) sc) bS,z⟩
  rintro _ _ _ _ rfl ⟨rfl,b6⟩;have b7:=elR ad;obtain rfl:=som b7;exact ⟨b6,z⟩
 rintro _ _ _ _ rfl ⟨rfl,b8⟩;have b9:=elR a9;obtain rfl:=som b9;exact ⟨b8,z⟩
theorem W_w1f {x1:e_}{res:Bool}(hm:g_L n x1=some res)(hBw:B<=w0.z)(p1_0:repS w0 B (sl A0 N0 C0) x1.rules):h_ prog 116 [(.agg #[sl A0 N0 C0])] w0 (Q11 w0 B res):=by
 unfold g_L at hm
 refine goF func116 z z (lb z) fun fn hr=>Ws<|E z (fb z) ?_
 rintro _ wh ⟨rfl,L⟩;have h:=L.below;have O:Blk wh w0.z [sl A0 N0 C0]:=L.blk;refine Rw z<|Wq<|Ws<|Rf z a_o z<|R z (l0 a_q z<|O.at z) ?_
 have V:=p1_0.e h;refine R z (lnR a_b z V) ?_;obtain ⟨_,ei,hma⟩:=bdS hm;refine E z (fc call168 z<|d_X ei (zt' hBw h.s) (b_W<|repS.len V) (ii z)<|ii z) ?_;rintro _ G ⟨s1,rfl⟩;refine R z (not_ z)<|Wx z (fun H=>?_) (fun H=>?_)
 ·refine Ws<|Rw z ?_
  obtain rfl:=som<|ifT hma H;exact Wr<|c_ hr z ⟨bup h s1,z⟩
 refine Wk<|Wq<|Ws<|Rf z a_o z ?_
 have hb:=O.e s1;refine R z (l0 a_q z<|hb.at z) ?_;have hd:=(h.ag B).e s1;refine R z (lnR a_b z<|p1_0.g hd)<|Rm z<|Wn ?_
 obtain ⟨_,huj,hmc⟩:=bdS<|ifF hma H;refine Wf (σ:=Unit) (ρ:=Bool) (fun (ke:Nat)(_:Unit) a w=>Sat 20 [(1,pt w0.z),(11,vI (x1.rules.length:Int)),(12,vI ((ke:Nat):Int))] a/\Below G.z G w) (fun (_:Unit) a w=>Sat 20 [] a/\Below G.z G w) (fun r ex a w=>ex = .ret/\w_ prog fn (Q11 w0 B r) a w) huj ?_ ?_ ?_ ?_ ?_
 ·exact fun _ q=>⟨q.k<|s3 z z z,br G⟩
 ·rintro ke _ _ _ _ I ⟨hSk,s4⟩ hml;refine Wu ?_ hSk;refine Ws<|Rl z z z<|Wn<|Wq<|Wc z (fun _=>?_) (fun hc=>(P_ I hc).elim)
  refine Wk<|Wq<|Wb<|Wm z<|Rw z<|Ws<|R z (lN (vs:=[sl A0 N0 C0]) J_ E_ z z fid<|(hb.e s4).row 0 1 z)<|Rm z ?_
  obtain ⟨_,em,hmf⟩:=bdS hml;refine E z (fc call169 z<|W_w3g em (zt' hBw<|lt_ (lt_ h.s s1.s) s4.s) (p1_0.g<|hd.e s4)<|ic (Nat.le_of_lt I)<|lt_ (repS.len p1_0) A_) ?_;rintro _ _ ⟨sg,rfl⟩;refine R z (not_ z)<|Wx z (fun J=>?_) (fun J=>?_)
  ·exact Ws<|Rw z<|Wr<|rtO<|qL (som<|ifT hmf J).symm<|c_ hr z ⟨bup (bup (bup h s1) s4) sg,z⟩
  exact Wk<|Wg<|R z (inc_ I (lt_ (repS.len p1_0) A_) z z)<|Rm z<|Wl (fun _ q=>⟨(),(som<|ifF hmf J).symm,⟨q.k<|s3 z z z,bup s4 sg⟩⟩)
 ·rintro _ _ _ ⟨hSn,so⟩;refine Wu ?_ hSn;refine Ws<|Rl z z z<|Wn<|Wq<|Wc z (fun hc=>(Q_ hc).elim) (fun _=>?_)
  exact We<|fun a' ha'=>⟨rfl,⟨Sat.weaken ha' sn,so⟩⟩
 ·rintro _ ap _ rfl ⟨_,sq⟩;have hmr:=elL hmc;revert ap;refine Wo<|Ws<|Rw z ?_
  obtain rfl:=som hmr;exact Wr<|c_ hr z ⟨bup (bup h s1) sq,z⟩
 rintro _ _ _ _ rfl ⟨rfl,hqs⟩;have hmt:=elR hmc;obtain rfl:=som hmt;exact ⟨hqs,z⟩
theorem W_w3h {x1:a_j}{res:Bool}(hm:i_Y n x1=some res)(hBw:B<=w0.z)(p1_0:repS w0 B (sl A0 N0 C0) x1.versions):h_ prog 181 [(.agg #[sl A0 N0 C0])] w0 (Q11 w0 B res):=by
 unfold i_Y at hm
 refine goF func181 z z (lb z) fun fn hr=>Ws<|E z (fb z) ?_
 rintro _ h ⟨rfl,hb⟩;have G:=hb.below;have hd:Blk h w0.z [sl A0 N0 C0]:=hb.blk;refine Rw z<|Wq<|Ws<|Rf z c_j z<|R z (l0 c_v z<|hd.at z) ?_
 have he:=p1_0.e G;refine R z (lnR b_B z he)<|R z (Z_ z z)<|Wx z (fun H=>?_) (fun H=>?_)
 ·refine Ws<|Rw z ?_
  obtain rfl:=som<|ifT hm H;exact Wr<|c_ hr z ⟨G,z⟩
 refine Wk<|Wq<|Ws<|Rf z c_j z<|R z (l0 c_v z<|hd.at z)<|R z (lnR b_B z he)<|Rm z<|Wn ?_
 obtain ⟨_,hul,hmc⟩:=bdS<|ifF hm H;refine Wf (σ:=Unit) (ρ:=Bool) (fun (kf:Nat)(_:Unit) a w=>Sat 20 [(10,sl A0 N0 C0),(11,vI (x1.versions.length:Int)),(12,vI ((kf:Nat):Int))] a/\Below h.z h w) (fun (_:Unit) a w=>Sat 20 [] a/\Below h.z h w) (fun r ex a w=>ex = .ret/\w_ prog fn (Q11 w0 B r) a w) hul ?_ ?_ ?_ ?_ ?_
 ·exact fun _ q=>⟨q.k<|s3 z z z,br h⟩
 ·rintro kf _ _ wg _ hkh ⟨hSm,s2⟩ hmn;refine Wu ?_ hSm;refine Ws<|Rl z z z<|Wn<|Wq<|Wc z (fun _=>?_) (fun hc=>(P_ hkh hc).elim)
  refine Wk<|Wq<|Wb<|Ws ?_
  obtain ⟨_,eo,hmp⟩:=bdS hmn;refine RX z (at_ (α:=e_) b_B E_ z z z (p1_0.g<|(G.ag B).e s2) eo) ?_;rintro _ ⟨_,_,_,rfl,hq,ht,_⟩;obtain ⟨I,J,L,rfl,hu⟩:=d_B ht;refine R z (lN (vs:=[sl I J L]) J_ E_ z z fid hq)<|E z (fa m_h) ?_
  rintro _ wr ⟨rfl,hi⟩;have h3:=hi.below;refine E0 (fs (cur':=[sl I J L]) E_ z z (hi.blk:Blk wr wg.z [sl none 0 0]) z (lb z) (oA z) z) ?_;rintro _ _ ⟨hw,ss⟩;have h4:=ss.one;refine Wn<|Ws<|R z (lN (vs:=[sl I J L]) J_ E_ z z fid<|hw.row 0 1 z) ?_
  have O:=lt_ G.s s2.s;obtain ⟨_,ey,hmj⟩:=bdS hmp;refine E z (fc call116 z<|W_w1f ey (zt' hBw<|lt_ (lt_ O h3.s) h4.s)<|hu.g<|(h3.ag B).c h4<|f_ (or0 (d_ lr) (n_<|zt' hBw O):∀k∈[wg.z],¬B k)) ?_;rintro _ _ ⟨sk,rfl⟩;refine R z (not_ z)<|Wx z (fun hca=>?_) (fun hca=>?_)
  ·exact Ws<|Rw z<|Wr<|rtO<|qL (som<|ifT hmj hca).symm<|c_ hr z ⟨bup (bM (bup (bup G s2) h3) h4<|m1 O) sk,z⟩
  exact Wk<|Wg<|R z (inc_ hkh (lt_ (repS.len p1_0) A_) z z)<|Rm z<|Wl (fun _ q=>⟨(),(som<|ifF hmj hca).symm,⟨q.k<|s3 z z z,bup (bM (bup s2 h3) h4<|m1 s2.s) sk⟩⟩)
 ·rintro _ _ _ ⟨hSz,a0⟩;refine Wu ?_ hSz;refine Ws<|Rl z z z<|Wn<|Wq<|Wc z (fun hc=>(Q_ hc).elim) (fun _=>?_)
  exact We<|fun a' ha'=>⟨rfl,⟨Sat.weaken ha' sn,a0⟩⟩
 ·rintro _ a1 _ rfl ⟨_,a2⟩;have V:=elL hmc;revert a1;refine Wo<|Ws<|Rw z ?_
  obtain rfl:=som V;exact Wr<|c_ hr z ⟨bup G a2,z⟩
 rintro _ _ _ _ rfl ⟨rfl,W⟩;have Y:=elR hmc;obtain rfl:=som Y;exact ⟨W,z⟩
theorem W_w3i {x1:List UInt8}{res:(List UInt8)×Bool}(hm:i_Z n x1=some res)(hBw:B<=w0.z)(p1_0:repS w0 B (sl A0 N0 C0) x1):h_ prog 257 [sl A0 N0 C0] w0 (Q12 w0 B res):=by
 unfold i_Z at hm
 refine goF func257 z z (lb z) fun fn hr=>Ws<|Ra z<|Rw z<|Ws<|E z (f0 (α:=UInt8) N_) ?_
 rintro _ H ⟨aS,aT,aU,rfl,s7,aV⟩;refine Rw z<|Wq<|Ws<|Rw z ?_
 obtain ⟨_,ax,a6⟩:=bdS hm;refine b_u (σ:=(List UInt8)×Int) (ρ:=(List UInt8)×Bool) (fun s a w=>un2 (fun xk x4=>∃I J L h,Sat 73 [(0,sl A0 N0 C0),(4,sl I J L),(5,vI x4)] a/\Chg (· ∈ [w0.z]) H w/\a_ w h (sl I J L) xk/\h.Nodup/\(∀k∈h,k∈[w0.z]∨H.z<=k)/\inI x4) s) (fun s a w=>un2 (fun xk x4=>∃I J L h,Sat 73 [(4,sl I J L)] a/\Chg (· ∈ [w0.z]) H w/\a_ w h (sl I J L) xk/\h.Nodup/\(∀k∈h,k∈[w0.z]∨H.z<=k)/\inI x4) s) (fun r ex a w=>ex = .ret/\w_ prog fn (Q12 w0 B r) a w) ax ?_ ?_ ?_ ?_
 ·exact fun _ q=>⟨aS,aT,aU,[w0.z],q.k<|s3 z z z,cr [w0.z] H,aV,a_0,io sr,ii z⟩
 ·rintro ⟨xk,x4⟩ _ wg _ ⟨I,J,L,h,ay,sa,hl,hn,hi,ai⟩ az;have a7:=a_5 az;refine Wu ?_ ay;refine Wq<|Wm z<|Rm z ?_
  have aj:∀k∈[w0.z],¬B k:=or0 (d_ lr)<|n_ hBw;have hw:=(s7.ag B).c sa<|f_ aj
  have hx:=p1_0.g hw;refine R z (lnR j_ z hx)<|Rl z z z<|Wx z (fun hcy=>?_) (fun hcy=>?_)
  ·refine Wk<|Wb<|Wm z<|Rm z ?_
   obtain ⟨xm,aW,aA⟩:=bdS<|ifT a7 hcy;refine RX z (at_ (α:=UInt8) j_ z_5 z z z hx aW) ?_;rintro _ ⟨_,_,_,rfl,aX,aY,_⟩;obtain rfl:=u8 aY;refine R z (l0 g_5 z<|aX.at0 z)<|R z (b_i d_5 d_3 z)<|Rw z<|Wm z<|R z (add_ z z)<|Rw z<|Wq<|Wb<|Wq ?_
   obtain ⟨aZ,a8,a9⟩:=bdS aA;refine Wt (fun a w=>∃(xz:Bool),xz=aZ/\Sat 73 [(0,sl A0 N0 C0),(4,sl I J L),(5,vI<|b_ x4 1),(6,vI<|byteI xm),(33,vB xz)] a/\Below wg.z wg w) ?_ ?_
   ·refine Wg<|Rm z<|Rq z z z<|Rm z ?_
    rcases bs ((byteI xm)==0) with hcf | hcf
    ·exact Nh z hcf<|Nh z hcf<|R z (pT z hcf z)<|Rm z<|Nh z z<|Nh z z<|Nh z z<|Nh z z<|R z (pT z z z)<|Ra z<|Wl (fun _ q=>⟨true,som<|ifT a8 hcf,q.k<|s5 z z z z z,br wg⟩)
    have aa:=ifF a8 hcf;refine Rh z hcf (mv z)<|Rh z hcf (eql z z)<|R z (pF z hcf z)<|Rm z ?_
    rcases bs ((byteI xm)==128) with hcb | hcb
    ·iterate 4 refine Nh z hcb ?_
     exact R z (pT z hcb z)<|Ra z<|Wl (fun _ q=>⟨true,som<|ifT aa hcb,q.k<|s5 z z z z z,br wg⟩)
    exact Rh z hcb (mv z)<|Rh z hcb (mv z)<|Rh z hcb (lnR j_ z hx)<|Rh z hcb (eql z z)<|R z (pF z hcb z)<|Ra z<|Wl (fun _ q=>⟨(b_ x4 1)==(x1.length:Int),som<|ifF aa hcb,q.k<|s5 z z z z z,br wg⟩)
   rintro b0 G ⟨xz,rfl,_,s6⟩;revert b0;refine Wo<|Wc z (fun O=>?_) (fun O=>?_)
   ·refine Ws<|E z (f0 (α:=UInt8) N_) ?_
    rintro _ _ ⟨b1,b2,b3,rfl,b4,b5⟩;exact Ra z<|Rw z<|Wr<|rtO<|rtO<|qL (som<|ifT a9 O).symm<|Y_ hr z z ⟨bup (bup (bM s7 sa<|d_ lr) s6) b4,b1,b2,b3,[G.z],z,b5,a_0,m1<|lt_ (lt_ s7.s sa.s) s6.s⟩
   refine Wm z<|Rl z z z<|Rw z ?_
   obtain ⟨b6,ab,V⟩:=bdS<|ifF a9 O;refine Wt (fun a w=>∃(xr:List UInt8)(xo:Int),Sum.inl (xr,xo)=b6/\∃au ns cv Sj,Sat 73 [(0,sl A0 N0 C0),(4,sl au ns cv),(5,vI xo)] a/\Chg (· ∈ h) G w/\a_ w Sj (sl au ns cv) xr/\Sj.Nodup/\(∀k∈Sj,k∈h∨G.z<=k)/\inI xo) ?_ ?_
   ·refine Wc z (fun W=>?_)<|fun W=>?_
    ·have ad:=ifT ab W;refine Wq<|Wm z<|Rm z ?_
     have ak:=p1_0.g<|hw.e s6
     refine R z (lnR j_ z ak)<|Rm z<|R z (sb_ z z)<|R z (Z_ z z)<|Wx z (fun Y=>?_) (fun Y=>?_)
     ·refine Ws<|E z (f0 (α:=UInt8) N_) ?_
      rintro _ _ ⟨b7,b8,b9,rfl,ba,bb⟩;refine Ra z<|Rw z ?_
      obtain rfl:=som<|ifT ad Y;have aB:=elR V;exact Wr<|rtO<|rtO<|qL (som aB).symm<|Y_ hr z z ⟨bup (bup (bM s7 sa<|d_ lr) s6) ba,b7,b8,b9,[G.z],z,bb,a_0,m1<|lt_ (lt_ s7.s sa.s) s6.s⟩
     refine Wk<|Wm z<|RM z z<|RM z z<|R z (add_ z z) ?_
     obtain ⟨_,bc,aC⟩:=bdS<|ifF ad Y;refine RX z (rX j_ z_5 z z ak z z bc) ?_;rintro _ ⟨_,_,_,rfl,be⟩;obtain ⟨bf,bg,aD⟩:=bdS aC;refine E z (fN (α:=UInt8) N_ bg z z (hl.e s6) hn be) ?_;rintro _ bh ⟨al,bi,bj,bk,rfl,bm,bn,bo,bp⟩;refine Rw z<|Wg<|RM z z<|R z (add_ z z)<|Ra z<|Wl ?_
     exact fun _ q=>⟨bf,b_ (b_ x4 1)<|byteI xm,som aD,bi,bj,bk,al,q.k<|s3 z z z,(cM (cr h G) bm (io sr):Chg (· ∈ h) G bh),bn,bo,(or1 bp (io sr) (l_ lr):∀k∈al,k∈h∨G.z<=k),iA _ _⟩
    refine Wq<|Wm z<|R z (sb_ z z)<|Rm z<|Wn ?_
    obtain ⟨_,aE,ae⟩:=bdS<|ifF ab W;refine Wf (σ:=List UInt8) (ρ:=(List UInt8)×Bool) (fun (am:Nat)(xh:List UInt8) a w=>∃ac nd ce S2,Sat 73 [(0,sl A0 N0 C0),(4,sl ac nd ce),(5,vI<|b_ x4 1),(20,vI<|x_ (byteI xm) 128),(21,vI ((am:Nat):Int))] a/\Chg (· ∈ h) G w/\a_ w S2 (sl ac nd ce) xh/\S2.Nodup/\(∀k∈S2,k∈h∨G.z<=k)) (fun (xh:List UInt8) a w=>∃ac nd ce S2,Sat 73 [(0,sl A0 N0 C0),(4,sl ac nd ce),(5,vI<|b_ x4 1)] a/\Chg (· ∈ h) G w/\a_ w S2 (sl ac nd ce) xh/\S2.Nodup/\(∀k∈S2,k∈h∨G.z<=k)) (fun r ex a w=>ex = .ret/\w_ prog fn (Q12 w0 B r) a w) aE ?_ ?_ ?_ ?_ ?_
    ·exact fun _ q=>⟨I,J,L,h,q.k<|s5 z z z z z,cr h G,hl.e s6,hn,io sr⟩
    ·rintro am xh _ an _ af ⟨ac,nd,ce,S2,aF,a1,hp,hq,ht⟩ aG;refine Wu ?_ aF;refine Ws<|Rl z z z<|Wn<|Wq<|Wc z (fun _=>?_) (fun hc=>(j_z af hc).elim)
     refine Wk<|Wq<|Wb<|Wg<|RM z z<|Rm z ?_
     obtain ⟨bq,bt,aH⟩:=bdS aG;refine RX z (at_ (α:=UInt8) j_ z_5 z z z (p1_0.g<|(hw.e s6).c a1<|f_ (or1 hi aj (n_<|zt' hBw s7.s):∀k∈h,¬B k)) bt) ?_;rintro _ ⟨_,_,_,rfl,bu,bv,_⟩;obtain rfl:=u8 bv;refine R z (l0 g_5 z<|bu.at0 z)<|E z (fS [(.tmp 27)] N_ z z z (a_z z) (lb z)<|lb z) ?_
     rintro _ ao ⟨rfl,a2⟩;have a3:=a2.below;have bY:=b_E a2 b_j;obtain ⟨bw,bx,aI⟩:=bdS aH;refine E z (b_d (α:=UInt8) N_ bx z z (hp.e a3) hq (a2.blk:Blk ao an.z [vU (byteI bq)]) b_j an_ H_) ?_;rintro _ bz ⟨ap,bA,bB,bC,rfl,bD,bE,bF,bG⟩;refine Rw z<|Wg<|R z (inc_ af (tl_<|iS _ _) z z)<|Rm z<|Wl ?_
     have aq:∀k∈S2,k∈h∨G.z<=k:=or1 ht (io sr)<|l_ lr;exact fun _ q=>⟨bw,(som aI).symm,⟨bA,bB,bC,ap,q.k<|s5 z z z z z,(cM (i_ (cM (cr h G) a1 (io sr):Chg (· ∈ h) G an) a3:Chg (· ∈ h) G ao) bD aq:Chg (· ∈ h) G bz),bE,bF,(or2 bG aq an_ (l_<|lt_ a1.s a3.s):∀k∈ap,k∈h∨G.z<=k)⟩⟩
    ·rintro xh _ bH ⟨ac,nd,ce,S2,aJ,bI,hp,hq,ht⟩;refine Wu ?_ aJ;refine Ws<|Rl z z z<|Wn<|Wq<|Wc z (fun hc=>(j_A hc).elim) (fun _=>?_)
     exact We<|fun a' ha'=>⟨rfl,⟨ac,nd,ce,S2,Sat.weaken ha'<|s3 z z z,(cM (cr h G) bI (io sr):Chg (· ∈ h) G bH),hp,hq,(or1 ht (io sr) (l_ lr):∀k∈S2,k∈h∨G.z<=k)⟩⟩
    ·rintro xh bJ bK rfl ⟨ac,nd,ce,S2,_,bL,hp,hq,ht⟩;have aK:=elL ae;revert bJ;refine Wo<|Wg<|Rm z<|R z (add_ z z)<|Ra z<|Wl ?_
     exact fun _ q=>⟨xh,b_ (b_ x4 1) 1,som aK,ac,nd,ce,S2,q.k<|s3 z z z,(cM (cr h G) bL (io sr):Chg (· ∈ h) G bK),hp,hq,(or1 ht (io sr) (l_ lr):∀k∈S2,k∈h∨G.z<=k),iA _ _⟩
    rintro _ _ _ _ rfl ⟨rfl,aL⟩;have aM:=elR ae;obtain rfl:=som aM;have aN:=elR V;exact ⟨e_Y<|e_Y<|f_g (som aN).symm ⟨rfl,aL⟩,z⟩
   rintro bN ar ⟨xr,xo,rfl,au,ns,cv,Sj,_,a4,av,bO,bP,bQ⟩;have aO:=elL V;have ah:=a_5 aO;revert bN;refine Wo<|Wm z<|R z (lnR j_ z<|a_.rep av)<|R z (Z_ z z)<|Wx z (fun a0=>?_) (fun a0=>?_)
   ·refine Ws<|E z (f0 (α:=UInt8) N_) ?_
    rintro _ _ ⟨bR,bS,bT,rfl,bU,bV⟩;refine Ra z<|Rw z ?_
    exact Wr<|rtO<|qL (som<|ifT ah a0).symm<|Y_ hr z z ⟨bup (bM (bup (bM s7 sa<|d_ lr) s6) a4 (or1 hi (d_ lr) (a_S s7.s):∀k∈h,w0.z<=k)) bU,bR,bS,bT,[ar.z],z,bV,a_0,m1<|lt_ (lt_ (lt_ s7.s sa.s) s6.s) a4.s⟩
   refine a_e ?_;have aw:∀k∈h,k∈[w0.z]∨H.z<=k:=or1 hi (io sr)<|l_ lr;exact fun _ q=>⟨(xr,xo),(som<|ifF ah a0).symm,⟨au,ns,cv,Sj,q.k<|s3 z z z,(cM (i_ (cM (cr [w0.z] H) sa (io sr):Chg (· ∈ [w0.z]) H wg) s6:Chg (· ∈ [w0.z]) H G) a4 aw:Chg (· ∈ [w0.z]) H ar),av,bO,(or1 bP aw (l_<|lt_ sa.s s6.s):∀k∈Sj,k∈[w0.z]∨H.z<=k),bQ⟩⟩
  exact We<|fun a' ha'=>b_e (som<|ifF a7 hcy).symm ⟨I,J,L,h,Sat.weaken ha'<|s1 z,(cM (cr [w0.z] H) sa (io sr):Chg (· ∈ [w0.z]) H wg),hl,hn,(or1 hi (io sr) (l_ lr):∀k∈h,k∈[w0.z]∨H.z<=k),ai⟩
 ·rintro ⟨xk,x4⟩ bW _ rfl ⟨I,J,L,h,_,bX,hl,hn,hi,ai⟩;have aP:=elL a6;revert bW;refine Wo<|Wm z<|Ra z<|Rw z ?_
  obtain rfl:=som<|a_5 aP;exact Wr<|Y_ hr z z ⟨bM s7 bX<|d_ lr,I,J,L,h,z,hl,hn,(or1 hi (d_ lr) (a_S s7.s):∀k∈h,w0.z<=k)⟩
 rintro _ _ _ _ rfl ⟨rfl,aQ⟩;have aR:=elR a6;obtain rfl:=som aR;exact ⟨aQ,z⟩
theorem W_w1g {x1:o_}{res:Bool}(hm:g_X n x1=some res)(hBw:B<=w0.z)(p1_0:inI x1.kind)(p1_1:x1.name.b.length<=LEN)(p1_2:inI x1.version)(O:repS w0 B (sl AD ND CD) x1.data):h_ prog 258 [(.agg #[vI x1.kind,Str.v x1.name,vI x1.version,sl AD ND CD])] w0 (Q11 w0 B res):=by
 unfold g_X at hm
 refine goF func258 z z (lb z) fun fn hr=>Ws<|E z (fb z) ?_
 rintro _ wb ⟨rfl,hg⟩;have h5:=hg.below;have hc:Blk wb w0.z [vI x1.kind,Str.v x1.name,vI x1.version,sl AD ND CD]:=hg.blk;refine Rw z<|Wq<|Wq ?_
 obtain ⟨uo,hup,hmh⟩:=bdS hm;refine Wt (fun a w=>∃(xd:Bool),xd=uo/\Sat 38 [(1,pt w0.z),(18,vB xd)] a/\Below wb.z wb w) ?_ ?_
 ·refine Wg<|Rf z d_S z<|R z (l0 g_9 z<|hc.at z) ?_
  obtain ⟨rq,er,hmi⟩:=bdS hup;refine E z (fc call197 z<|k_A er (zt' hBw h5.s) p1_1) ?_;rintro _ _ ⟨s6,rfl⟩;refine R z (not_ z)<|Rm z ?_
  rcases bs (!rq) with G | G
  ·iterate 4 refine Nh z G ?_
   exact R z (pT z G z)<|Rm z<|Nh z z<|Nh z z<|Nh z z<|Nh z z<|R z (pT z z z)<|Wl (fun _ q=>⟨true,som<|ifT hmi G,q.k<|s2 z z,s6⟩)
  refine Rh z G (fd d_b z) ?_;have hj:=hc.e s6;refine Rh z G (l0 g_3 z<|hj.at z) ?_;obtain ⟨rs,et,hmk⟩:=bdS<|ifF hmi G;refine Eg z z G z (fc call168 z<|d_X et (zt' hBw<|lt_ h5.s s6.s) p1_2 (ii z)<|ii z) ?_;rintro _ _ ⟨s8,rfl⟩;refine Rh z G (not_ z)<|R z (pF z G z)<|Rm z ?_
  rcases bs (!rs) with H | H
  ·iterate 4 refine Nh z H ?_
   exact R z (pT z H z)<|Wl (fun _ q=>⟨true,som<|ifT hmk H,q.k<|s2 z z,bup s6 s8⟩)
  exact Rh z H (fd d_T z)<|Rh z H (l0 M_ z<|(hj.e s8).at z)<|Rh z H (lnR j_ z<|O.g<|((h5.ag B).e s6).e s8)<|Rh z H (Z_ z z)<|R z (pF z H z)<|Wl (fun _ q=>⟨decide<|400<(x1.data.length:Int),som<|ifF hmk H,q.k<|s2 z z,bup s6 s8⟩)
 rintro au L ⟨xd,rfl,_,s9⟩;revert au;refine Wo<|Wc z (fun hce=>?_) (fun hce=>?_)
 ·refine Ws<|Rw z ?_
  obtain rfl:=som<|ifT hmh hce;exact Wr<|c_ hr z ⟨bup h5 s9,z⟩
 refine Wk<|Wq ?_
 obtain ⟨uv,hul,hmw⟩:=bdS<|ifF hmh hce;refine Wt (fun a w=>∃(xf:Bool),xf=uv/\Sat 38 [(2,vB xf)] a/\Below L.z L w) ?_ ?_
 ·refine Wg<|Rf z d_a z ?_
  have ha:=hc.e s9;refine R z (l0 g_3 z<|ha.at z)<|Rq z z z<|Rm z ?_
  rcases bs (x1.kind==1) with h | h
  ·iterate 4 refine Nh z h ?_
   exact Nv z<|Nv z<|Nv z<|Nh z h<|Nh z h<|Nv z<|Nv z<|Nv z<|Nv z<|Nh z h<|R z (pT z h z)<|Ra z<|Wl (fun _ q=>⟨true,som<|ifT hul h,q.k<|s1 z,br L⟩)
  have hmm:=ifF hul h;refine Rh z h (fd d_a z)<|Rh z h (l0 g_3 z<|ha.at z)<|Rh z h (eql z z)<|Rh z h (mv z) ?_
  rcases bs (x1.kind==2) with J | J
  ·have hmn:=ifT hmm J;refine Rh z J (fd d_b z)<|Rh z J (l0 g_3 z<|ha.at z)<|Rh z J (eql z z)<|Rh z h (pT z J z)<|Rh z h (mv z) ?_
   rcases bs (x1.version==0) with I | I
   ·exact Rh z I (fd d_T z)<|Rh z I (l0 M_ z<|ha.at z)<|Rh z I (lnR j_ z<|O.g<|(h5.ag B).e s9)<|Rh z I (eql z z)<|Rh z h (pT z I z)<|R z (pF z h z)<|Ra z<|Wl (fun _ q=>⟨(x1.data.length:Int)==0,som<|ifT hmn I,q.k<|s1 z,br L⟩)
   iterate 4 refine Nh z I ?_
   exact Rh z h (pF z I z)<|R z (pF z h z)<|Ra z<|Wl (fun _ q=>⟨false,som<|ifF hmn I,q.k<|s1 z,br L⟩)
  iterate 3 refine Nh z J ?_
  exact Rh z h (pF z J z)<|Rh z h (mv z)<|Nh z z<|Nh z z<|Nh z z<|Nh z z<|Rh z h (pF z z z)<|R z (pF z h z)<|Ra z<|Wl (fun _ q=>⟨false,som<|ifF hmm J,q.k<|s1 z,br L⟩)
 rintro ax _ ⟨xf,rfl,_,sy⟩;revert ax;refine Wo ?_;obtain rfl:=som hmw;exact Wr<|c_ hr z ⟨bup (bup h5 s9) sy,z⟩
theorem W_w1h {x1:List UInt8}{x2:Int}{res:Bool}(hm:f_P x1 x2=some res)(hBw:B<=w0.z)(p1_0:repS w0 B (sl A0 N0 C0) x1)(p2_0:inI x2):h_ prog 278 [sl A0 N0 C0,vI x2] w0 (Q11 w0 B res):=by
 unfold f_P at hm
 refine goF func278 z z (lb z) fun fn hr=>Ws<|Rw z<|Wq ?_
 obtain ⟨L,H,J⟩:=bdS hm;refine Wt (fun a w=>∃(x4:Bool),x4=L/\Sat 34 [(4,vB x4)] a/\Below w0.z w0 w) ?_ ?_
 ·refine Wd (X:=noX) 0 (pl_ 30 []) mo (by kernel_rfl) fun wu s3 _=>dM z z z<|dR z z (add_ z z)<|dM z z z ?_
  have h2:=p1_0.e s3;refine dR z z (lnR j_ z h2)<|dR z z (lss z z)<|dM z z z ?_
  rcases bs (decide<|(b_ x2 2)<(x1.length:Int)) with h | h
  ·refine dRg z z z h z (mv z)<|dRg z z z h z (mv z) ?_
   obtain ⟨O,ea,hmb⟩:=bdS<|ifT H h;refine a_K z z z h z (at_ (α:=UInt8) j_ z_5 z z z h2 ea) ?_;rintro _ ⟨_,_,_,rfl,hc,hd,_⟩;obtain rfl:=u8 hd;refine dRg z z z h z (l0 g_5 z<|hc.at0 z)<|dRg z z z h z (mv z)<|dRg z z z h z (mv z)<|dRg z z z h z (add_ z z) ?_
   obtain ⟨xe,ef,I⟩:=bdS hmb;refine a_K z z z h z (at_ (α:=UInt8) j_ z_5 z z z h2 ef) ?_;rintro _ ⟨_,_,_,rfl,hg,hh,_⟩;obtain rfl:=u8 hh;refine dRg z z z h z (l0 g_5 z<|hg.at0 z)<|dRg z z z h z (eql z z)<|dR z z (pT z h z)<|dM z z z ?_
   rcases bs ((byteI O)==(byteI xe)) with G | G
   ·refine dRg z z z G z (mv z)<|dRg z z z G z (mv z) ?_
    obtain ⟨xi,ej,hmk⟩:=bdS<|ifT I G;refine a_K z z z G z (at_ (α:=UInt8) j_ z_5 z z z h2 ej) ?_;rintro _ ⟨_,_,_,rfl,hl,hn,_⟩;obtain rfl:=u8 hn;refine dRg z z z G z (l0 g_5 z<|hl.at0 z)<|dRg z z z G z (mv z)<|dRg z z z G z (mv z)<|dRg z z z G z (add_ z z) ?_
    obtain ⟨xm,eo,hmp⟩:=bdS hmk;refine a_K z z z G z (at_ (α:=UInt8) j_ z_5 z z z h2 eo) ?_;rintro _ ⟨_,_,_,rfl,hq,ht,_⟩;obtain rfl:=u8 ht;exact dRg z z z G z (l0 g_5 z<|hq.at0 z)<|dRg z z z G z (eql z z)<|dR z z (pT z G z)<|dQ z z z<|pD (fun _ q=>⟨(byteI xi)==(byteI xm),som hmp,q.k<|s1 z,s3⟩)
   iterate 10 refine dRn z z z G z ?_
   exact dR z z (pF z G z)<|dQ z z z<|pD (fun _ q=>⟨false,som<|ifF I G,q.k<|s1 z,s3⟩)
  iterate 10 refine dRn z z z h z ?_
  refine dR z z (pF z h z)<|dM z z z ?_
  iterate 10 refine dRn z z z z z ?_
  exact dR z z (pF z z z)<|dQ z z z<|pD (fun _ q=>⟨false,som<|ifF H h,q.k<|s1 z,s3⟩)
 rintro ar _ ⟨x4,rfl,_,ss⟩;revert ar;refine Wo ?_;obtain rfl:=som J;exact Wr<|c_ hr z ⟨ss,z⟩
theorem W_w3j {x1:List UInt8}{x2:Int}{res:Int}(hm:j_0 n x1 x2=some res)(hBw:B<=w0.z)(p1_0:repS w0 B (sl A0 N0 C0) x1)(p2_0:inI x2):h_ prog 280 [sl A0 N0 C0,vI x2] w0 (Q0 w0 B res):=by
 unfold j_0 at hm
 refine goF func280 z z (lb z) fun fn hr=>Ws<|Rw z<|Wq<|Wq ?_
 obtain ⟨uk,hud,hme⟩:=bdS hm;refine Wt (fun a w=>∃(x4:Bool),x4=uk/\Sat 36 [(0,sl A0 N0 C0),(1,vI x2),(13,vB x4)] a/\Below w0.z w0 w) ?_ ?_
 ·refine Wg<|Rm z<|Rl z z z<|Rm z ?_
  rcases bs (decide<|x2<0) with G | G
  ·iterate 4 refine Nh z G ?_
   exact R z (pT z G z)<|Wl (fun _ q=>⟨true,som<|ifT hud G,q.k<|s3 z z z,br w0⟩)
  exact Rh z G (mv z)<|Rh z G (mv z)<|Rh z G (lnR j_ z p1_0)<|Rh z G (b_l z z)<|R z (pF z G z)<|Wl (fun _ q=>⟨decide<|(x1.length:Int)<=x2,som<|ifF hud G,q.k<|s3 z z z,br w0⟩)
 rintro al H ⟨x4,rfl,_,s5⟩;revert al;refine Wo<|Wc z (fun I=>?_) (fun I=>?_)
 ·refine Ws<|Rw z ?_
  obtain rfl:=som<|ifT hme I;exact Wr<|c_ hr z ⟨s5,z,ii z⟩
 refine Wk<|Ws<|Rw z<|Wq ?_
 obtain ⟨_,hum,hmf⟩:=bdS<|ifF hme I;refine b_u (σ:=Int) (ρ:=Int) (fun (x3:Int) a w=>Sat 36 [(0,sl A0 N0 C0),(1,vI x2),(5,vI x3)] a/\Below H.z H w/\inI x3) (fun (x3:Int) a w=>Sat 36 [(5,vI x3)] a/\Below H.z H w/\inI x3) (fun r ex a w=>ex = .ret/\w_ prog fn (Q0 w0 B r) a w) hum ?_ ?_ ?_ ?_
 ·exact fun _ q=>⟨q.k<|s3 z z z,br H,ii z⟩
 ·rintro x3 _ wg _ ⟨hSn,s7,J⟩ hmo;refine Wu ?_ hSn;refine Wq<|Wq ?_
  obtain ⟨up,huh,hmi⟩:=bdS hmo;refine Wt (fun a w=>∃(L:Bool),L=up/\Sat 36 [(0,sl A0 N0 C0),(1,vI x2),(5,vI x3),(32,vB L)] a/\Below wg.z wg w) ?_ ?_
  ·refine Wd (X:=noX) 0 (pl_ 19 []) mo (by kernel_rfl) fun a2 sa _=>dM z z z<|dM z z z<|dR z z (add_ z z)<|dM z z z ?_
   have hb:=p1_0.g<|((s5.ag B).e s7).e sa
   refine dR z z (lnR j_ z hb)<|dR z z (lss z z)<|dM z z z ?_
   rcases bs (decide<|(b_ x2 x3)<(x1.length:Int)) with h | h
   ·iterate 3 refine dRg z z z h z (mv z) ?_
    refine dRg z z z h z (add_ z z) ?_;obtain ⟨xq,er,hms⟩:=bdS<|ifT huh h;refine a_K z z z h z (at_ (α:=UInt8) j_ z_5 z z z hb er) ?_;rintro _ ⟨_,_,_,rfl,ht,hu,_⟩;obtain rfl:=u8 hu;refine dRg z z z h z (l0 g_5 z<|ht.at0 z)<|dRg z z z h z (mv z)<|dRg z z z h z (mv z) ?_
    obtain ⟨xv,ew,hmx⟩:=bdS hms;refine a_K z z z h z (at_ (α:=UInt8) j_ z_5 z z z hb ew) ?_;rintro _ ⟨_,_,_,rfl,hy,hz,_⟩;obtain rfl:=u8 hz;exact dRg z z z h z (l0 g_5 z<|hy.at0 z)<|dRg z z z h z (eql z z)<|dR z z (pT z h z)<|pD (fun _ q=>⟨(byteI xq)==(byteI xv),som hmx,q.k<|s4 z z z z,sa⟩)
   iterate 11 refine dRn z z z h z ?_
   exact dR z z (pF z h z)<|pD (fun _ q=>⟨false,som<|ifF huh h,q.k<|s4 z z z z,sa⟩)
  rintro Y _ ⟨L,rfl,_,sj⟩;revert Y;refine Wo<|Wc z (fun hcc=>?_) (fun hcc=>?_)
  ·exact Wk<|Wb<|Wg<|Rm z<|R z (add_ z z)<|Ra z<|Wl (fun _ q=>⟨b_ x3 1,(som<|ifT hmi hcc).symm,⟨q.k<|s3 z z z,bup s7 sj,iA _ _⟩⟩)
  exact We<|fun a' ha'=>b_e (som<|ifF hmi hcc).symm ⟨Sat.weaken ha'<|s1 z,bup s7 sj,J⟩
 ·rintro x3 a0 _ rfl ⟨_,a1,J⟩;have O:=elL hmf;revert a0;refine Wo<|Wm z<|Rw z ?_
  obtain rfl:=som O;exact Wr<|c_ hr z ⟨bup s5 a1,z,J⟩
 rintro _ _ _ _ rfl ⟨rfl,V⟩;have W:=elR hmf;obtain rfl:=som W;exact ⟨V,z⟩
theorem W_w3k {x1:Int}{x2:Int}{res:Bool}(hm:j_1 x1 x2=some res)(hBw:B<=w0.z)(p1_0:inI x1)(p2_0:inI x2):h_ prog 286 [vI x1,vI x2] w0 (Q11 w0 B res):=by
 unfold j_1 at hm
 refine goF func286 z z (lb z) fun fn hr=>Ws<|Rw z<|Wm z<|Rm z<|Rl z z z<|Rw z ?_
 obtain rfl:=som hm;exact Wr<|c_ hr z ⟨br w0,z⟩
theorem W_w3l {x2:Int}{x3:List Int}{res:Int}(hm:l_1 x2 x3=some res)(hBw:B<=w0.z)(p2_0:inI x2)(p3_0:repS w0 B (sl A7 N7 C7) x3):h_ prog 285 [(.func (.func 286) #[] #[]),vI x2,sl A7 N7 C7] w0 (Q0 w0 B res):=by
 unfold l_1 at hm
 refine goF func285 z z (lb z) fun fn hr=>Ws<|Rw z<|Wq<|Wm z<|R z (lnR z_ z p3_0)<|Rm z<|Wn ?_
 obtain ⟨_,hub,H⟩:=bdS hm;refine Wf (σ:=Int) (ρ:=Int) (fun (k3:Nat)(x0:Int) a w=>Sat 22 [(0,.func (.func 286) #[] #[]),(1,vI x0),(9,sl A7 N7 C7),(10,vI (x3.length:Int)),(11,vI ((k3:Nat):Int))] a/\Below w0.z w0 w/\inI x0) (fun (x0:Int) a w=>Sat 22 [(1,vI x0)] a/\Below w0.z w0 w/\inI x0) (fun r ex a w=>ex = .ret/\w_ prog fn (Q0 w0 B r) a w) hub ?_ ?_ ?_ ?_ ?_
 ·exact fun _ q=>⟨q.k<|s5 z z z z z,br w0,p2_0⟩
 ·rintro k3 x0 _ _ _ I ⟨hSc,s6,h1⟩ hmd;refine Wu ?_ hSc;refine Ws<|Rl z z z<|Wn<|Wq<|Wc z (fun _=>?_) (fun hc=>(P_ I hc).elim)
  refine Wk<|Wq<|Wb<|Ws ?_
  obtain ⟨xe,ef,hmg⟩:=bdS hmd;refine RX z (at_ (α:=Int) z_ z_3 z z z (p3_0.e s6) ef) ?_;rintro _ ⟨_,_,_,rfl,hh,hi,_⟩;obtain ⟨rfl,J⟩:=W_ hi;refine R z (l0 g_3 z<|hh.at0 z)<|Rw z<|Wm z<|RM z z ?_
  obtain ⟨_,ej,hmk⟩:=bdS hmg;refine E z (h_7 call286 z z<|W_w3k ej (zt' hBw s6.s) J h1) ?_;rintro _ h ⟨sm,rfl⟩;refine Wn ?_;obtain ⟨ul,hua,hmn⟩:=bdS hmk;refine Wt (fun a w=>∃(x4:Int),x4=ul/\Sat 22 [(0,.func (.func 286) #[] #[]),(1,vI x4),(9,sl A7 N7 C7),(10,vI (x3.length:Int)),(11,vI ((k3:Nat):Int))] a/\Below h.z h w/\inI x4) ?_ ?_
  ·refine Wc z (fun G=>?_)<|fun G=>?_
   ·exact Wg<|Rm z<|Ra z<|Wl (fun _ q=>⟨xe,som<|ifT hua G,q.k<|s5 z z z z z,br h,J⟩)
   exact a_e<|fun _ q=>⟨x0,som<|ifF hua G,q.k<|s5 z z z z z,br h,h1⟩
  rintro ao _ ⟨x4,rfl,_,sp,hq⟩;revert ao;exact Wo<|Wg<|R z (inc_ I (lt_ (repS.len p3_0) A_) z z)<|Rm z<|Wl (fun _ q=>⟨x4,(som hmn).symm,⟨q.k<|s5 z z z z z,bup (bup s6 sm) sp,hq⟩⟩)
 ·rintro x0 _ _ ⟨hSr,ss,h1⟩;refine Wu ?_ hSr;refine Ws<|Rl z z z<|Wn<|Wq<|Wc z (fun hc=>(Q_ hc).elim) (fun _=>?_)
  exact We<|fun a' ha'=>⟨rfl,⟨Sat.weaken ha'<|s1 z,ss,h1⟩⟩
 ·rintro x0 au _ rfl ⟨_,st,h1⟩;have hmv:=elL H;revert au;refine Wo<|Wm z<|Rw z ?_
  obtain rfl:=som hmv;exact Wr<|c_ hr z ⟨st,z,h1⟩
 rintro _ _ _ _ rfl ⟨rfl,hqw⟩;have hmx:=elR H;obtain rfl:=som hmx;exact ⟨hqw,z⟩
theorem W_w3m {x1:Int}{x2:Int}{res:Int}(hm:j_2 x1 x2=some res)(hBw:B<=w0.z)(p1_0:inI x1)(p2_0:inI x2):h_ prog 279 [vI x1,vI x2] w0 (Q0 w0 B res):=by
 unfold j_2 at hm
 refine goF func279 z z (lb z) fun fn hr=>Ws<|Rw z<|Wm z<|Rm z<|E z (fS [(.tmp 6)] m_d z z z (a_z z) (lb z)<|lb z) ?_
 rintro _ G ⟨rfl,h⟩;have h6:Blk G w0.z [vI x2]:=h.blk;obtain ⟨_,I,H⟩:=bdS hm;refine E z (fc call285 z<|W_w3l (B:=G.z) I zr p1_0<|a_.rep<|b_E h<|c_N p2_0) ?_;rintro _ _ ⟨s4,rfl,h5⟩;refine Rw z ?_
 obtain rfl:=som H;exact Wr<|c_ hr z ⟨bup h.below s4,z,h5⟩
theorem W_w3n {x1:List UInt8}{res:(List UInt8)}(hm:j_3 n x1=some res)(hBw:B<=w0.z)(p1_0:repS w0 B (sl A0 N0 C0) x1):h_ prog 273 [sl A0 N0 C0] w0 (Q1 w0 B res):=by
 unfold j_3 at hm
 refine goF func273 z z (lb z) fun fn hr=>Ws<|Rw z<|Ws<|E z (f0 (α:=UInt8) N_) ?_
 rintro _ H ⟨aV,aW,aX,rfl,sd,aY⟩;refine Rw z<|Wq<|Ws<|Rw z ?_
 obtain ⟨_,ay,a7⟩:=bdS hm;refine b_u (σ:=(List UInt8)×Int) (ρ:=List UInt8) (fun s a w=>un2 (fun xe x4=>∃I J L h,Sat 67 [(0,sl A0 N0 C0),(3,sl I J L),(4,vI x4)] a/\Chg (· ∈ [w0.z]) H w/\a_ w h (sl I J L) xe/\h.Nodup/\(∀k∈h,k∈[w0.z]∨H.z<=k)/\inI x4) s) (fun s a w=>un2 (fun xe x4=>∃I J L h,Sat 67 [(3,sl I J L)] a/\Chg (· ∈ [w0.z]) H w/\a_ w h (sl I J L) xe/\h.Nodup/\(∀k∈h,k∈[w0.z]∨H.z<=k)/\inI x4) s) (fun r ex a w=>ex = .ret/\w_ prog fn (Q1 w0 B r) a w) ay ?_ ?_ ?_ ?_
 ·exact fun _ q=>⟨aV,aW,aX,[w0.z],q.k<|s3 z z z,cr [w0.z] H,aY,a_0,io sr,ii z⟩
 ·rintro ⟨xe,x4⟩ _ G _ ⟨I,J,L,h,az,sf,hg,hh,hi,hl⟩ aA;have a8:=a_5 aA;refine Wu ?_ az;refine Wq<|Wm z<|Rm z ?_
  have ah:∀k∈[w0.z],¬B k:=or0 (d_ lr)<|n_ hBw;have hn:=(sd.ag B).c sf<|f_ ah
  have ai:=p1_0.g hn;refine R z (lnR j_ z ai)<|Rl z z z<|Wx z (fun hcz=>?_) (fun hcz=>?_)
  ·refine Wk ?_;obtain ⟨aZ,aB,a9⟩:=bdS<|ifT a8 hcz;refine Wt (fun a w=>∃(xm:List UInt8)(xj:Int),Sum.inl (xm,xj)=aZ/\∃ao np cq Sc,Sat 67 [(0,sl A0 N0 C0),(3,sl ao np cq),(4,vI xj)] a/\Chg (· ∈ h) G w/\a_ w Sc (sl ao np cq) xm/\Sc.Nodup/\(∀k∈Sc,k∈h∨G.z<=k)/\inI xj) ?_ ?_
   ·refine Wb<|Wq<|Wm z<|Rm z ?_
    have Y:=lt_ sd.s sf.s;obtain ⟨_,b0,aa⟩:=bdS aB;refine E z (fc call278 z<|W_w1h b0 (zt' hBw Y) ai hl) ?_;rintro _ wb ⟨s8,rfl⟩;refine Wx z (fun V=>?_) (fun V=>?_)
    ·refine Wm z<|Rm z ?_
     have aj:=hn.e s8;have ak:=lt_ Y s8.s;obtain ⟨_,b1,aC⟩:=bdS<|ifT aa V;refine E z (fc call280 z<|W_w3j b1 (zt' hBw ak) (p1_0.g aj) hl) ?_;rintro _ b2 ⟨sk,rfl,b3⟩;obtain ⟨rr,b4,aD⟩:=bdS aC;refine E z (fc call279 z<|W_w3m b4 (zt' hBw<|lt_ ak sk.s) b3<|ii z) ?_;rintro _ ws ⟨st,rfl,_⟩;refine Rw z<|Wm z<|Rm z<|R z (add_ z z)<|R z (c_1 d_3 d_5 z)<|RM z z ?_
     obtain ⟨a0,b5,aE⟩:=bdS aD;refine RX z (at_ (α:=UInt8) j_ z_5 z z z (p1_0.g<|(aj.e sk).e st) b5) ?_;rintro _ ⟨_,_,_,rfl,b6,b7,_⟩;obtain rfl:=u8 b7;refine R z (l0 g_5 z<|b6.at0 z)<|E z (fS [(.tmp 22),(.tmp 26)] N_ z z z (a_z z) (lb z)<|lb z) ?_
     rintro _ a1 ⟨rfl,al⟩;have a2:=al.below;obtain ⟨b8,b9,aF⟩:=bdS aE;refine E z (fN (α:=UInt8) N_ b9 z z ((((hg.e s8).e sk).e st).e a2) hh<|a_.rep (h_3 (l:=[mkB (b_ 128 rr),a0]) (al.blk:Blk a1 ws.z [(vU<|byteI<|mkB<|b_ 128 rr),vU<|byteI a0]) z:a_ a1 [ws.z] (sl (some ⟨ws.z,0,none⟩) 2 2) [mkB (b_ 128 rr),a0])) ?_;rintro _ ba ⟨am,bb,bc,be,rfl,bf,bg,bh,bi⟩;refine Rw z<|Wm z<|Rm z<|R z (add_ z z)<|Rw z<|We<|exH ?_
     exact fun _ q=>⟨b8,b_ x4 rr,som aF,bb,bc,be,am,q.k<|s3 z z z,(cM (i_ (i_ (i_ (i_ (cr h G) s8:Chg (· ∈ h) G wb) sk:Chg (· ∈ h) G b2) st:Chg (· ∈ h) G ws) a2:Chg (· ∈ h) G a1) bf (io sr):Chg (· ∈ h) G ba),bg,bh,(or1 bi (io sr) (l_<|lt_ (lt_ (lt_ s8.s sk.s) st.s) a2.s):∀k∈am,k∈h∨G.z<=k),iA _ _⟩
    refine Wk<|Wm z<|R z (add_ z z)<|Rw z<|Wq ?_
    obtain ⟨_,aG,ab⟩:=bdS<|ifF aa V;refine b_u (σ:=Int) (ρ:=List UInt8) (fun (x3:Int) a w=>Sat 67 [(0,sl A0 N0 C0),(3,sl I J L),(4,vI x4),(6,vI x3)] a/\Below wb.z wb w/\inI x3) (fun (x3:Int) a w=>Sat 67 [(0,sl A0 N0 C0),(3,sl I J L),(4,vI x4),(6,vI x3)] a/\Below wb.z wb w/\inI x3) (fun r ex a w=>ex = .ret/\w_ prog fn (Q1 w0 B r) a w) aG ?_ ?_ ?_ ?_
    ·exact fun _ q=>⟨q.k<|s4 z z z z,br wb,iA _ _⟩
    ·rintro x3 _ wu _ ⟨aH,sv,hw⟩ aI;refine Wu ?_ aH;refine Wq<|Wq ?_
     obtain ⟨bj,ad,ae⟩:=bdS aI;refine Wt (fun a w=>∃(a3:Bool),a3=bj/\Sat 67 [(0,sl A0 N0 C0),(3,sl I J L),(4,vI x4),(6,vI x3),(49,vB a3)] a/\Below wu.z wu w) ?_ ?_
     ·refine Wg<|RM z z ?_
      have an:=p1_0.g<|(hn.e s8).e sv
      refine R z (lnR j_ z an)<|Rl z z z<|Rm z ?_
      rcases bs (decide<|x3<(x1.length:Int)) with O | O
      ·have af:=ifT ad O;refine Rh z O (mv z)<|Rh z O (mv z)<|Rh z O (sb_ z z)<|Rh z O (lss z z)<|R z (pT z O z)<|Rm z ?_
       rcases bs (decide<|(x_ x3 x4)<127) with hca | hca
       ·refine Rh z hca (mv z)<|Rh z hca (mv z) ?_
        obtain ⟨bk,bm,aJ⟩:=bdS<|ifT af hca;refine Eg z z hca z (fc call278 z<|W_w1h bm (zt' hBw<|lt_ (lt_ Y s8.s) sv.s) an hw) ?_;rintro _ _ ⟨bn,rfl⟩;exact Rh z hca (not_ z)<|R z (pT z hca z)<|Wl (fun _ q=>⟨!bk,som aJ,q.k<|s5 z z z z z,bn⟩)
       iterate 4 refine Nh z hca ?_
       exact R z (pF z hca z)<|Wl (fun _ q=>⟨false,som<|ifF af hca,q.k<|s5 z z z z z,br wu⟩)
      iterate 4 refine Nh z O ?_
      exact R z (pF z O z)<|Rm z<|Nh z z<|Nh z z<|Nh z z<|Nh z z<|R z (pF z z z)<|Wl (fun _ q=>⟨false,som<|ifF ad O,q.k<|s5 z z z z z,br wu⟩)
     rintro bo _ ⟨a3,rfl,_,ap⟩;revert bo;refine Wo<|Wc z (fun W=>?_) (fun W=>?_)
     ·exact Wk<|Wb<|Wg<|Rm z<|R z (add_ z z)<|Ra z<|Wl (fun _ q=>⟨b_ x3 1,(som<|ifT ae W).symm,⟨q.k<|s4 z z z z,bup sv ap,iA _ _⟩⟩)
     exact We<|fun a' ha'=>b_e (som<|ifF ae W).symm ⟨Sat.weaken ha'<|s4 z z z z,bup sv ap,hw⟩
    ·rintro x3 bp aq rfl ⟨_,sx,hw⟩;have aK:=elL ab;revert bp;refine Wo<|Wm z<|RM z z<|R z (sb_ z z)<|R z (c_1 d_3 d_5 z)<|E z (fS [(.tmp 56)] N_ z z z (a_z z) (lb z)<|lb z) ?_
     rintro _ ar ⟨rfl,a4⟩;have hy:=a4.below;have bV:=b_E a4 b_j;obtain ⟨_,bq,aL⟩:=bdS aK;refine E z (b_d (α:=UInt8) N_ bq z z (((hg.e s8).e sx).e hy) hh (a4.blk:Blk ar aq.z [(vU<|byteI<|mkB<|x_ x3 x4)]) b_j an_ H_) ?_;rintro _ bt ⟨bu,_,_,_,rfl,a6,bv,bw,bx⟩;refine Rw z<|Wm z<|RM z z<|Rm z ?_
     obtain ⟨_,bz,aM⟩:=bdS aL;refine RX z (rX j_ z_5 z z (p1_0.g<|(((hn.e s8).e sx).e hy).c a6<|f_ (or1 hi ah (n_<|zt' hBw sd.s):∀k∈h,¬B k)) z z bz) ?_;rintro _ ⟨_,_,_,rfl,bA⟩;obtain ⟨bB,bC,aN⟩:=bdS aM;refine E z (fN (α:=UInt8) N_ bC z z bv bw bA) ?_;rintro _ bD ⟨au,bE,bF,bG,rfl,bH,bI,bJ,bK⟩;refine Rw z<|Wg<|Rm z<|Ra z<|Wl ?_
     have av:=lt_ (lt_ s8.s sx.s) hy.s;have aw:∀k∈bu,k∈h∨G.z<=k:=or2 bx (io sr) an_<|l_ av;exact fun _ q=>⟨bB,x3,som aN,bE,bF,bG,au,q.k<|s3 z z z,(cM (cM (i_ (i_ (i_ (cr h G) s8:Chg (· ∈ h) G wb) sx:Chg (· ∈ h) G aq) hy:Chg (· ∈ h) G ar) a6 (io sr):Chg (· ∈ h) G bt) bH aw:Chg (· ∈ h) G bD),bI,bJ,(or1 bK aw (l_<|lt_ av a6.s):∀k∈au,k∈h∨G.z<=k),hw⟩
    rintro _ _ _ _ rfl ⟨rfl,aO⟩;have aP:=elR ab;obtain rfl:=som aP;have aQ:=elR a9;exact ⟨e_Y<|f_g (som aQ).symm ⟨rfl,aO⟩,z⟩
   rintro bL bN ⟨xm,xj,rfl,ao,np,cq,Sc,_,bO,bP,bQ,bR,bS⟩;have aR:=elL a9;revert bL;have ax:∀k∈h,k∈[w0.z]∨H.z<=k:=or1 hi (io sr)<|l_ lr;exact fun _ q=>⟨(xm,xj),(som<|a_5 aR).symm,⟨ao,np,cq,Sc,q.k<|s3 z z z,(cM (cM (cr [w0.z] H) sf (io sr):Chg (· ∈ [w0.z]) H G) bO ax:Chg (· ∈ [w0.z]) H bN),bP,bQ,(or1 bR ax (l_ sf.s):∀k∈Sc,k∈[w0.z]∨H.z<=k),bS⟩⟩
  exact We<|fun a' ha'=>b_e (som<|ifF a8 hcz).symm ⟨I,J,L,h,Sat.weaken ha'<|s1 z,(cM (cr [w0.z] H) sf (io sr):Chg (· ∈ [w0.z]) H G),hg,hh,(or1 hi (io sr) (l_ lr):∀k∈h,k∈[w0.z]∨H.z<=k),hl⟩
 ·rintro ⟨xe,x4⟩ bT _ rfl ⟨I,J,L,h,_,bU,hg,hh,hi,hl⟩;have aS:=elL a7;revert bT;refine Wo<|Wm z<|Rw z ?_
  obtain rfl:=som<|a_5 aS;exact Wr<|c_ hr z ⟨bM sd bU<|d_ lr,I,J,L,h,z,hg,hh,(or1 hi (d_ lr) (a_S sd.s):∀k∈h,w0.z<=k)⟩
 rintro _ _ _ _ rfl ⟨rfl,aT⟩;have aU:=elR a7;obtain rfl:=som aU;exact ⟨aT,z⟩
theorem m_y {x1:List UInt8}{res:Int}(hm:f_H x1=some res)(hBw:B<=w0.z)(p1_0:repS w0 B (sl A0 N0 C0) x1):h_ prog 263 [sl A0 N0 C0] w0 (Q0 w0 B res):=by
 unfold f_H at hm
 refine goF func263 z z (lb z) fun fn hr=>Ws<|Rw z<|Ws<|Rw z<|Wq<|Wm z<|R z (lnR j_ z p1_0)<|Rm z<|Wn ?_
 obtain ⟨_,H,h⟩:=bdS hm;refine Wf (σ:=Int) (ρ:=Int) (fun (k3:Nat)(x0:Int) a w=>Sat 19 [(3,vI x0),(6,sl A0 N0 C0),(7,vI (x1.length:Int)),(8,vI ((k3:Nat):Int))] a/\Below w0.z w0 w/\inI x0) (fun (x0:Int) a w=>Sat 19 [(3,vI x0)] a/\Below w0.z w0 w/\inI x0) (fun r ex a w=>ex = .ret/\w_ prog fn (Q0 w0 B r) a w) H ?_ ?_ ?_ ?_ ?_
 ·exact fun _ q=>⟨q.k<|s4 z z z z,br w0,ii z⟩
 ·rintro k3 x0 _ _ _ G ⟨I,s5,h1⟩ J;refine Wu ?_ I;refine Ws<|Rl z z z<|Wn<|Wq<|Wc z (fun _=>?_) (fun hc=>(P_ G hc).elim)
  refine Wk<|Wq<|Wb<|Ws ?_
  obtain ⟨L,ea,hmb⟩:=bdS J;refine RX z (at_ (α:=UInt8) j_ z_5 z z z (p1_0.e s5) ea) ?_;rintro _ ⟨_,_,_,rfl,hd,he,_⟩;obtain rfl:=u8 he;exact R z (l0 g_5 z<|hd.at0 z)<|Rw z<|Wg<|RM z z<|R z (b_i d_5 d_3 z)<|R z (add_ z z)<|Rw z<|Wg<|R z (inc_ G (lt_ (repS.len p1_0) A_) z z)<|Rm z<|Wl (fun _ q=>⟨b_ x0<|byteI L,(som hmb).symm,⟨q.k<|s4 z z z z,s5,iA _ _⟩⟩)
 ·rintro x0 _ _ ⟨hSc,sf,h1⟩;refine Wu ?_ hSc;refine Ws<|Rl z z z<|Wn<|Wq<|Wc z (fun hc=>(Q_ hc).elim) (fun _=>?_)
  exact We<|fun a' ha'=>⟨rfl,⟨Sat.weaken ha'<|s1 z,sf,h1⟩⟩
 ·rintro x0 ag _ rfl ⟨_,sh,h1⟩;have hmi:=elL h;revert ag;refine Wo<|Wm z<|R z (l_n z z (by decide))<|Rw z ?_
  obtain rfl:=som hmi;exact Wr<|c_ hr z ⟨sh,z,l_e h1⟩
 rintro _ _ _ _ rfl ⟨rfl,hqj⟩;have hmk:=elR h;obtain rfl:=som hmk;exact ⟨hqj,z⟩
theorem W_w3o {x1:o_}{res:(List UInt8)}(hm:j_4 n x1=some res)(hBw:B<=w0.z)(p1_0:inI x1.kind)(p1_1:x1.name.b.length<=LEN)(p1_2:inI x1.version)(L:repS w0 B (sl AD ND CD) x1.data):h_ prog 259 [(.agg #[vI x1.kind,Str.v x1.name,vI x1.version,sl AD ND CD])] w0 (Q1 w0 B res):=by
 unfold j_4 at hm
 refine goF func259 z z (lb z) fun fn hr=>Ws<|E z (fb z) ?_
 rintro _ a6 ⟨rfl,hi⟩;have h:=hi.below;have J:Blk a6 w0.z [vI x1.kind,Str.v x1.name,vI x1.version,sl AD ND CD]:=hi.blk;refine Rw z<|Wq<|Ws<|R z (lN (vs:=[vI x1.kind,Str.v x1.name,vI x1.version,sl AD ND CD]) b_p a_9 z z fid<|J.row 0 4 z) ?_
 obtain ⟨_,a7,hmj⟩:=bdS hm;refine E z (fc call258 z<|W_w1g a7 (zt' hBw h.s) p1_0 p1_1 p1_2<|L.e h) ?_;rintro _ a8 ⟨s1,rfl⟩;refine R z (not_ z)<|Wx z (fun I=>?_) (fun I=>?_)
 ·refine Ws<|E z (f0 (α:=UInt8) N_) ?_
  rintro _ _ ⟨a9,aa,ab,rfl,ad,ae⟩;refine Rw z ?_
  obtain rfl:=som<|ifT hmj I;exact Wr<|c_ hr z ⟨bup (bup h s1) ad,a9,aa,ab,[a8.z],z,ae,a_0,m1<|lt_ h.s s1.s⟩
 refine Wk<|Ws<|Rf z d_T z ?_
 have hk:=J.e s1;refine R z (l0 M_ z<|hk.at z) ?_;have hl:=lt_ h.s s1.s;obtain ⟨G,af,a0⟩:=bdS<|ifF hmj I;refine E z (fc call273 z<|W_w3n af (zt' hBw hl)<|L.g<|(h.ag B).e s1) ?_;rintro _ wa ⟨s5,_,_,_,_,rfl,h3,_,_⟩;refine Rw z<|Ws<|Rf z d_a z ?_
 have hb:=hk.e s5;refine R z (l0 g_3 z<|hb.at z)<|R z (c_1 d_3 d_5 z)<|Rf z d_S z<|R z (l0 g_9 z<|hb.at z)<|R z (lnT d_9 z)<|R z (c_1 d_3 d_5 z)<|E z (fS [(.tmp 14),(.tmp 18)] N_ z z z (a_z z) (lb z)<|lb z) ?_
 rintro _ wm ⟨rfl,hn⟩;have h4:=hn.below;refine Rw z<|Wm z<|Rf z d_S z ?_
 have ho:=hb.e h4;refine R z (l0 g_9 z<|ho.at z) ?_;obtain ⟨_,ah,a1⟩:=bdS a0;refine E z (q_t N_ d_9 ah z z (h_3 (l:=[mkB x1.kind,mkB (x1.name.b.length:Int)]) (hn.blk:Blk wm wa.z [(vU<|byteI<|mkB x1.kind),(vU<|byteI<|mkB (x1.name.b.length:Int))]) z:a_ wm [wa.z] (sl (some ⟨wa.z,0,none⟩) 2 2) [mkB x1.kind,mkB (x1.name.b.length:Int)]) a_0) ?_;rintro _ wc ⟨_,_,_,_,rfl,s6,ai,aj,hp⟩;refine Rw z<|Wm z<|Rf z d_b z<|R z (l0 g_3 z<|(ho.c s6<|djs<|mm1 J.lt<|lt_ s1.s s5.s).at z)<|R z (c_1 d_3 d_5 z)<|Rm z ?_
 have hq:=mnr<|a_.lt h3
 have hd:=(h3.e h4).c s6<|ds hq
 refine R z (lnR j_ z<|or_ hd<|a_.lt h3)<|R z (n_m z z (by decide))<|R z (c_1 d_3 d_5 z)<|Rm z<|R z (lnR j_ z<|or_ hd<|a_.lt h3)<|R z (c_1 d_3 d_5 z)<|E z (fS [(.tmp 27),.tmp 31,(.tmp 34)] N_ z z z (a_z z) (lb z)<|lb z) ?_
 rintro _ wr ⟨rfl,ht⟩;have H:=ht.below;obtain ⟨_,ak,a2⟩:=bdS a1;refine E z (fN (α:=UInt8) N_ ak z z (ai.e H) aj<|a_.rep (h_3 (l:=[mkB x1.version,mkB<|c_R .i64 (G.length:Int) 8,mkB (G.length:Int)]) (ht.blk:Blk wr wc.z [(vU<|byteI<|mkB x1.version),vU<|byteI<|mkB<|c_R .i64 (G.length:Int) 8,(vU<|byteI<|mkB (G.length:Int))]) z:a_ wr [wc.z] (sl (some ⟨wc.z,0,none⟩) 3 3) [mkB x1.version,mkB<|c_R .i64 (G.length:Int) 8,mkB (G.length:Int)])) ?_;rintro _ _ ⟨_,_,_,_,rfl,se,al,am,an⟩;refine Rw z<|Wm z<|Rm z ?_
 obtain ⟨_,ao,a3⟩:=bdS a2;refine E z (fN (α:=UInt8) N_ ao z z al am<|or_ ((hd.e H).c se<|ds<|o1no hp hq (a_.lt h3) h4.s)<|a_.lt h3) ?_;rintro _ ap ⟨_,_,_,_,rfl,ss,hu,aq,ar⟩;refine Rw z<|Wm z<|Rm z ?_
 obtain ⟨au,av,a4⟩:=bdS a3;refine E z (fc call263 z<|m_y (B:=ap.z) av zr<|a_.rep hu) ?_;rintro _ aw ⟨sf,rfl,_⟩;refine R z (c_1 d_3 d_5 z)<|E z (fS [(.tmp 43)] N_ z z z (a_z z) (lb z)<|lb z) ?_
 rintro _ ax ⟨rfl,hg⟩;have hh:=hg.below;have aG:=b_E hg b_j;obtain ⟨_,ay,a5⟩:=bdS a4;refine E z (b_d (α:=UInt8) N_ ay z z ((hu.e sf).e hh) aq (hg.blk:Blk ax aw.z [(vU<|byteI<|mkB au)]) b_j an_ H_) ?_;rintro _ _ ⟨Sv,az,aA,aB,rfl,aC,aD,aE,aF⟩;refine Rw z ?_
 obtain rfl:=som a5;have hw:=lt_ hl s5.s;have hx:=m1 hw;have hy:=lt_ hw h4.s;have hz:=a_Y hp hx hy;have O:=lt_ (lt_ hy s6.s) H.s;have V:=a_Y an hz O;have W:=lt_ O se.s;have Y:=a_Y ar V W;exact Wr<|c_ hr z ⟨bM (bup (bup (bM (bM (bup (bM (bup (bup (bup h s1) s5) h4) s6 hx) H) se hz) ss V) sf) hh) aC Y,az,aA,aB,Sv,z,aD,aE,(or2 aF Y an_ (a_S<|lt_ (lt_ (lt_ W ss.s) sf.s) hh.s):∀k∈Sv,w0.z<=k)⟩
theorem W_w3p {x1:List UInt8}{x2:List UInt8}{res:Bool}(hm:m_T x1 x2=some res)(hBw:B<=w0.z)(p1_0:repS w0 B (sl A0 N0 C0) x1)(p2_0:repS w0 B (sl A3 N3 C3) x2):h_ prog 119 [sl A0 N0 C0,sl A3 N3 C3] w0 (Q11 w0 B res):=by
 unfold m_T at hm
 refine goF func119 z z (lb z) fun fn hr=>Ws<|Rw z<|Wm z<|R z (h_d j_ d_9 d_5 z_5 z p1_0)<|Rm z<|R z (h_d j_ d_9 d_5 z_5 z p2_0)<|R z (a_R z z)<|Rw z ?_
 obtain rfl:=som hm;exact Wr<|c_ hr z ⟨br w0,z⟩
theorem W_w3q {x1:List UInt8}{x2:List UInt8}{res:Bool}(hm:k_P x1 x2=some res)(hBw:B<=w0.z)(p1_0:repS w0 B (sl A0 N0 C0) x1)(p2_0:repS w0 B (sl A3 N3 C3) x2):h_ prog 62 [sl A0 N0 C0,sl A3 N3 C3] w0 (Q11 w0 B res):=by
 unfold k_P at hm
 refine goF func62 z z (lb z) fun fn hr=>Ws<|Rw z<|Wm z<|Rm z ?_
 obtain ⟨_,G,h⟩:=bdS hm;refine E z (fc call119 z<|W_w3p (B:=B) G hBw p1_0 p2_0) ?_;rintro _ _ ⟨s2,rfl⟩;refine Rw z ?_
 obtain rfl:=som h;exact Wr<|c_ hr z ⟨s2,z⟩
theorem W_w1i {x1:List UInt8}{x2:Int}{res:o_×Int×Bool}(hm:f_9 n x1 x2=some res)(hBw:B<=w0.z)(p1_0:repS w0 B (sl A0 N0 C0) x1)(p2_0:inI x2):h_ prog 219 [sl A0 N0 C0,vI x2] w0 (Q13 w0 B res):=by
 unfold f_9 at hm
 refine goF func219 z z (lb z) fun fn hr=>Ws<|E z (fa e_o) ?_
 rintro _ wl ⟨rfl,a5⟩;have hd:=a5.below;have h6:Blk wl w0.z [vI 0,Str.v (⟨[]⟩:Str),vI 0,sl none 0 0]:=a5.blk;refine Ra z<|Rw z<|Wq<|Wq ?_
 obtain ⟨aF,V,W⟩:=bdS hm;refine Wt (fun a w=>∃(xr:Bool),xr=aF/\Sat 126 [(0,sl A0 N0 C0),(1,vI x2),(4,pt w0.z),(28,vB xr)] a/\Below wl.z wl w) ?_ ?_
 ·refine Wg<|Rm z<|Rl z z z<|Rm z ?_
  rcases bs (decide<|x2<0) with J | J
  ·iterate 4 refine Nh z J ?_
   exact R z (pT z J z)<|Rm z<|Nh z z<|Nh z z<|Nh z z<|Nh z z<|Nh z z<|R z (pT z z z)<|Wl (fun _ q=>⟨true,som<|ifT V J,q.k<|s4 z z z z,br wl⟩)
  have Y:=ifF V J;refine Rh z J (mv z)<|Rh z J (mv z) ?_
  have a6:=p1_0.e hd;refine Rh z J (lnR j_ z a6)<|Rh z J (Z_ z z)<|R z (pF z J z)<|Rm z ?_
  rcases bs (decide<|(x1.length:Int)<x2) with H | H
  ·iterate 5 refine Nh z H ?_
   exact R z (pT z H z)<|Wl (fun _ q=>⟨true,som<|ifT Y H,q.k<|s4 z z z z,br wl⟩)
  exact Rh z H (mv z)<|Rh z H (lnR j_ z a6)<|Rh z H (mv z)<|Rh z H (sb_ z z)<|Rh z H (lss z z)<|R z (pF z H z)<|Wl (fun _ q=>⟨decide<|(x_ (x1.length:Int) x2)<2,som<|ifF Y H,q.k<|s4 z z z z,br wl⟩)
 rintro aG _ ⟨xr,rfl,_,s2⟩;revert aG;refine Wo<|Wc z (fun hcs=>?_) (fun hcs=>?_)
 ·refine Ws<|R z (bP (parts:=[]) (cs:=[vI 0,Str.v (⟨[]⟩:Str),vI 0,sl none 0 0]) d_R z z)<|Rm z<|E0 (fs (cur':=[vI 0,Str.v (⟨[]⟩:Str),vI 0,sl none 0 0]) a_9 z z (h6.e s2) z (lb z) (oA z) z) ?_
  rintro _ _ ⟨aH,aI⟩;refine Ra z<|Rw z ?_
  obtain rfl:=som<|ifT W hcs;exact Wr<|y_ hr (p_ b_p a_9 z aH z) z z ⟨bM (bup hd s2) aI.one<|d_ lr,none,0,0,[],z,ii z,lb z,ii z,onL,p2_0,H_,an_⟩
 refine Wk<|Wm z<|Rm z ?_
 obtain ⟨_,aJ,au⟩:=bdS<|ifF W hcs;refine RX z (rX j_ z_5 z z (p1_0.g<|(hd.ag B).e s2) z z aJ) ?_;rintro _ ⟨_,_,_,rfl,hn⟩;refine Rw z<|Wm z ?_
 obtain ⟨aK,aL,a0⟩:=bdS au;refine RX z (at_ (α:=UInt8) j_ z_5 z z z hn aL) ?_;rintro _ ⟨_,_,_,rfl,aM,aN,_⟩;obtain rfl:=u8 aN;refine R z (l0 g_5 z<|aM.at0 z)<|R z (b_i d_5 d_3 z)<|Rw z<|Wq<|Wm z<|R z (lnR j_ z hn)<|Rm z<|R z (add_ z z)<|Rl z z z<|Wx z (fun hcu=>?_) (fun hcu=>?_)
 ·refine Ws<|R z (bP (parts:=[]) (cs:=[vI 0,Str.v (⟨[]⟩:Str),vI 0,sl none 0 0]) d_R z z)<|Rm z<|E0 (fs (cur':=[vI 0,Str.v (⟨[]⟩:Str),vI 0,sl none 0 0]) a_9 z z (h6.e s2) z (lb z) (oA z) z) ?_
  rintro _ _ ⟨aO,aP⟩;refine Ra z<|Rw z ?_
  obtain rfl:=som<|ifT a0 hcu;exact Wr<|y_ hr (p_ b_p a_9 z aO z) z z ⟨bM (bup hd s2) aP.one<|d_ lr,none,0,0,[],z,ii z,lb z,ii z,onL,p2_0,H_,an_⟩
 refine Wk<|Wq (Wd (X:=noX) 0 (pl_ 15 []) mo (by kernel_rfl) fun aQ s5 _=>dM z z z<|dM z z z<|dR z z (add_ z z) ?_)
 obtain ⟨aR,aS,av⟩:=bdS<|ifF a0 hcu;have hv:=hn.e s5;refine dRX z z (at_ (α:=UInt8) j_ z_5 z z z hv aS) ?_;rintro _ ⟨_,_,_,rfl,aT,aU,_⟩;obtain rfl:=u8 aU;refine dR z z (l0 g_5 z<|aT.at0 z)<|dR z z (b_i d_5 d_3 z)<|dR z z (h_m z z (by decide))<|dM z z z<|dM z z z<|dR z z (add_ z z) ?_
 obtain ⟨aV,aW,a1⟩:=bdS av;refine dRX z z (at_ (α:=UInt8) j_ z_5 z z z hv aW) ?_;rintro _ ⟨_,_,_,rfl,aX,aY,_⟩;obtain rfl:=u8 aY;refine dR z z (l0 g_5 z<|aX.at0 z)<|dR z z (b_i d_5 d_3 z)<|dR z z (l_o z z)<|dQ z z z<|pD<|Wo<|Wq<|Wm z<|R z (lnR j_ z hv)<|Rm z<|R z (add_ z z)<|Rm z<|R z (add_ z z)<|Rl z z z<|Wx z (fun hcw=>?_) (fun hcw=>?_)
 ·refine Ws<|R z (bP (parts:=[]) (cs:=[vI 0,Str.v (⟨[]⟩:Str),vI 0,sl none 0 0]) d_R z z)<|Rm z<|E0 (fs (cur':=[vI 0,Str.v (⟨[]⟩:Str),vI 0,sl none 0 0]) a_9 z z ((h6.e s2).e s5) z (lb z) (oA z) z) ?_
  rintro _ _ ⟨aZ,b0⟩;refine Ra z<|Rw z ?_
  obtain rfl:=som<|ifT a1 hcw;exact Wr<|y_ hr (p_ b_p a_9 z aZ z) z z ⟨bM (bup (bup hd s2) s5) b0.one<|d_ lr,none,0,0,[],z,ii z,lb z,ii z,onL,p2_0,H_,an_⟩
 refine Wk<|Wm z ?_
 obtain ⟨_,b1,aw⟩:=bdS<|ifF a1 hcw;refine E z (d_j (α:=UInt8) N_ (fun _=>n_f) b1 z z) ?_;rintro _ b2 ⟨_,_,_,rfl,s9,a7⟩;refine Rw z<|Wm z<|RM z z<|R z (add_ z z) ?_
 obtain ⟨_,b3,ax⟩:=bdS aw;have a8:=(s5.ag B).e s9;refine RX z (rX j_ z_5 z z (hn.g a8) z z b3) ?_;rintro _ ⟨_,_,_,rfl,b4⟩;refine E z (q_r j_ z_5 z z a7 b4) ?_;rintro _ _ ⟨rfl,s7,b5⟩;refine Wn<|Wm z ?_
 obtain ⟨a9,b6,b7,ay⟩:=a_k ax;refine E z (fc call257 z<|W_w3i (B:=b2.z) b7 (a_T s7.s)<|or_ b5<|a_.lt a7) ?_;rintro _ aa ⟨sa,ai,nj,ck,b8,rfl,ho,b9,ab⟩;refine Rm z<|Re z z z<|Re z z z<|Ra z<|Rw z<|Wq (Wd (X:=noX) 262144 (pl_ 19 [17,18]) mo (by kernel_rfl) fun wx s1 _=>dM z z z ?_)
 obtain ⟨xe,ba,az⟩:=bdS ay;have hp:=lt_ (lt_ hd.s s2.s) s5.s;have ad:=((a8.c s7<|f_ (or0 (d_ lr) (n_<|zt' hBw hp):∀k∈[aQ.z],¬B k)).e sa).e s1;have hy:=hn.g ad;refine dRX z z (at_ (α:=UInt8) j_ z_5 z z z hy ba) ?_;rintro _ ⟨_,_,_,rfl,bb,bc,_⟩;obtain rfl:=u8 bc;refine dR z z (l0 g_5 z<|bb.at0 z)<|dR z z (b_i d_5 d_3 z)<|dM z z z<|dM z z z<|dR z z (add_ z z) ?_
 obtain ⟨xf,be,aA⟩:=bdS az;refine dRX z z (rX j_ z_5 z z hy z z be) ?_;rintro _ ⟨_,_,_,rfl,ht⟩;refine dR z z (h_d j_ d_9 d_5 z_5 z ht)<|dM z z z<|dM z z z<|dR z z (add_ z z) ?_
 obtain ⟨xg,bf,aB⟩:=bdS aA;refine dRX z z (at_ (α:=UInt8) j_ z_5 z z z hy bf) ?_;rintro _ ⟨_,_,_,rfl,bg,bh,_⟩;obtain rfl:=u8 bh;refine dR z z (l0 g_5 z<|bg.at0 z)<|dR z z (b_i d_5 d_3 z)<|dM z z z<|dR z z (bP (parts:=[(0,.tmp 84),(1,.tmp 89),(2,.tmp 95),(3,.tmp 96)]) (cs:=[vI (byteI xe),Str.v (⟨xf⟩:Str),vI<|byteI xg,sl ai nj ck]) d_R z z)<|dE z z (fa e_o) (.inr fun _ _ h=>F_<|h.2.below) ?_
 rintro _ bi ⟨rfl,ae⟩;have hb:=ae.below;refine dE0 z (fs (cur':=[vI (byteI xe),Str.v (⟨xf⟩:Str),vI<|byteI xg,sl ai nj ck]) a_9 z z (ae.blk:Blk bi wx.z [vI 0,Str.v (⟨[]⟩:Str),vI 0,sl none 0 0]) z (lb z) (oA z) z) (.inl z) ?_;rintro _ af ⟨ah,bj⟩;have hc:=bj.one;refine pD<|Wo<|Wq<|Wq ?_
 obtain ⟨bk,a2,a3⟩:=bdS aB;refine Wt (fun a w=>∃(xz:Bool),xz=bk/\Sat 126 [(1,vI x2),(4,pt w0.z),(8,vI<|byteI aK),(9,vI<|b_Y .i64 (· ||| ·) (b_v .i64 (byteI aR) 8)<|byteI aV),(13,pt wx.z),(116,vB xz)] a/\Below af.z af w) ?_ ?_
 ·refine Wd (X:=noX) 0 (.rd 0<|.rd 1<|.rd 2<|.rd 3<|.ef 4<|.rd 5<|.rd 6<|.rd 7<|.rd 8<|.rd 10<|.rd 11<|.rd 12<|.rd 13<|.rd 14<|.rd 15<|.ef 9<|.ef 16<|.rd 17<|.rd 18 .done) mo (by kernel_rfl) fun bE sh _=>dM z z z<|dR z z (not_ z)<|dM z z z ?_
  rcases bs (!b6) with I | I
  ·refine dRn z z z I z<|dEn z z z I z<|dRn z z z I z<|dR z z (pT z I z)<|dM z z z ?_
   iterate 7 refine dRn z z z z z ?_
   exact dEn z z z z z<|dEn z z z z z<|dRn z z z z z<|dR z z (pT z z z)<|pD (fun _ q=>⟨true,som<|ifT a2 I,q.k<|s6 z z z z z z,sh⟩)
  have aj:=ah.e sh;refine dRg z z z I z (lN (vs:=[vI (byteI xe),Str.v (⟨xf⟩:Str),vI<|byteI xg,sl ai nj ck]) b_p a_9 z z fid<|aj.row 0 4 z) ?_;have ak:=(((ho.e s1).e hb).c hc<|ds<|mno (a_.lt ho) s1.s).e sh;have al:=lt_ (lt_ (lt_ s1.s hb.s) hc.s) sh.s;obtain ⟨bm,bn,a4⟩:=bdS<|ifF a2 I;refine dEg z z z I z (fc call258 z<|W_w1g (B:=aa.z) (x1:=(⟨byteI xe,(⟨xf⟩:Str),byteI xg,a9⟩:o_)) bn (a_T al) (c_M _) (repS.len ht) (c_M _)<|or_ ak<|a_.lt ho) (.inr fun _ _ h=>F_<|h.1) ?_;rintro _ _ ⟨sm,rfl⟩;refine dRg z z z I z (not_ z)<|dR z z (pF z I z)<|dM z z z ?_
  rcases bs (!bm) with G | G
  ·iterate 7 refine dRn z z z G z ?_
   exact dEn z z z G z<|dEn z z z G z<|dRn z z z G z<|dR z z (pT z G z)<|pD (fun _ q=>⟨true,som<|ifT a4 G,q.k<|s6 z z z z z z,bup sh sm⟩)
  refine dRg z z z G z (lN (vs:=[vI (byteI xe),Str.v (⟨xf⟩:Str),vI<|byteI xg,sl ai nj ck]) b_p a_9 z z fid<|(aj.e sm).row 0 4 z)<|dRg z z z G z (mv z)<|dRg z z z G z (mv z)<|dRg z z z G z (add_ z z)<|dRg z z z G z (mv z)<|dRg z z z G z (add_ z z) ?_
  obtain ⟨_,bo,aC⟩:=bdS<|ifF a4 G;have am:=lt_ (lt_ (lt_ (lt_ hp s9.s) s7.s) sa.s) s1.s;refine a_K z z z G z (rX j_ z_5 z z (hn.g<|(((ad.e hb).c hc<|f_ (or0 (d_ lr) (n_<|zt' hBw am):∀k∈[wx.z],¬B k)).e sh).e sm) z z bo) ?_;rintro _ ⟨_,_,_,rfl,bp⟩;obtain ⟨_,bq,aD⟩:=bdS aC;refine dEg z z z G z (fc call259 z<|W_w3o (B:=aa.z) (x1:=(⟨byteI xe,(⟨xf⟩:Str),byteI xg,a9⟩:o_)) bq (a_T<|lt_ al sm.s) (c_M _) (repS.len ht) (c_M _)<|or_ (ak.e sm)<|a_.lt ho) (.inr fun _ _ h=>F_<|h.1) ?_;rintro _ bt ⟨O,_,_,_,_,rfl,bu,_,_⟩;obtain ⟨bv,bw,aE⟩:=bdS aD;refine dEg z z z G z (fc call62 z<|W_w3q (B:=bt.z) bw zr (a_.rep bu)<|repS.mono (bp.e O)<|zt' hBw<|lt_ (lt_ (lt_ (lt_ (lt_ am hb.s) hc.s) sh.s) sm.s) O.s) (.inr fun _ _ h=>F_<|h.1) ?_;rintro _ _ ⟨bx,rfl⟩;exact dRg z z z G z (not_ z)<|dR z z (pF z G z)<|pD (fun _ q=>⟨!bv,som aE,q.k<|s6 z z z z z z,bup (bup (bup sh sm) O) bx⟩)
 rintro bz _ ⟨xz,rfl,_,sq⟩;revert bz;refine Wo<|Wc z (fun L=>?_) (fun L=>?_)
 ·refine Ws<|R z (bP (parts:=[]) (cs:=[vI 0,Str.v (⟨[]⟩:Str),vI 0,sl none 0 0]) d_R z z)<|Rm z ?_
  have an:=lt_ s2.s s5.s;refine E0 (fs (cur':=[vI 0,Str.v (⟨[]⟩:Str),vI 0,sl none 0 0]) a_9 z z (((((((((h6.e s2).e s5).e s9).c s7<|djs<|mm1 h6.lt an).e sa).e s1).e hb).c hc<|djs<|mm1 h6.lt<|lt_ (lt_ (lt_ (lt_ an s9.s) s7.s) sa.s) s1.s).e sq) z (lb z) (oA z) z) ?_;rintro _ _ ⟨bA,bB⟩;refine Ra z<|Rw z ?_
  obtain rfl:=som<|ifT a3 L;exact Wr<|y_ hr (p_ b_p a_9 z bA z) z z ⟨bM (bup (bM (bup (bup (bup (bM (bup (bup (bup hd s2) s5) s9) s7<|m1 hp) sa) s1) hb) hc<|m1<|lt_ (lt_ (lt_ (lt_ hp s9.s) s7.s) sa.s) s1.s) sq) bB.one<|d_ lr,none,0,0,[],z,ii z,lb z,ii z,onL,p2_0,H_,an_⟩
 refine Wk<|Ws<|R z (lN (vs:=[vI (byteI xe),Str.v (⟨xf⟩:Str),vI<|byteI xg,sl ai nj ck]) b_p a_9 z z fid<|(ah.e sq).row 0 4 z)<|RM z z<|R z (add_ z z)<|R z (add_ z z)<|Rm z<|R z (add_ z z) ?_
 have ao:=lt_ s2.s s5.s;have ap:=lt_ (lt_ ao s9.s) s7.s;refine E0 (fs (cur':=[vI (byteI xe),Str.v (⟨xf⟩:Str),vI<|byteI xg,sl ai nj ck]) a_9 z z (((((((((h6.e s2).e s5).e s9).c s7<|djs<|mm1 h6.lt ao).e sa).e s1).e hb).c hc<|djs<|mm1 h6.lt<|lt_ (lt_ ap sa.s) s1.s).e sq) z (lb z) (oA z) z) ?_;rintro _ _ ⟨bC,bD⟩;have aq:=bD.one;refine Ra z<|Rw z ?_
 obtain rfl:=som<|ifF a3 L;have ar:=lt_ (lt_ hp s9.s) s7.s;exact Wr<|y_ hr (p_ b_p a_9 z bC z) z z ⟨bM (bup (bM (bup (bup (bup (bM (bup (bup (bup hd s2) s5) s9) s7<|m1 hp) sa) s1) hb) hc<|m1<|lt_ (lt_ ar sa.s) s1.s) sq) aq<|d_ lr,ai,nj,ck,b8,z,c_M _,repS.len ht,c_M _,((((ho.e s1).e hb).c hc<|ds<|mno (a_.lt ho) s1.s).e sq).c aq<|r_ ab h6.lt ap,iA _ _,b9,s_ ab ar⟩
theorem W_w3r {x1:Log}{res:Bool}(hm:l_2 n x1=some res)(hBw:B<=w0.z)(p1_0:repS w0 B (sl A0 N0 C0) x1.bytes)(p1_1:inI x1.stored):Calls prog 216 [(.agg #[sl A0 N0 C0,vI x1.stored])].toArray w0 (p_t (.iface 252<|.agg #[])<|fun q w'=>q=res/\Bw w0 w'):=by
 unfold l_2 at hm
 obtain ⟨_,hf,hb,hN,hr⟩:=fnE func216;refine u_8 hf (hb.trans z) (hN.trans z) (lb z)<|Ws<|E z (fb z) ?_
 rintro _ wz ⟨rfl,hl⟩;have h1:=hl.below;have I:Blk wz w0.z [sl A0 N0 C0,vI x1.stored]:=hl.blk;refine Wn<|Wq<|Ws<|Rf z e_l z<|R z (l0 g_3 z<|I.at z)<|Rf z c_k z<|R z (l0 M_ z<|I.at z) ?_
 have hn:=p1_0.e h1;refine R z (lnR j_ z hn) ?_;obtain ⟨_,a2,hmm⟩:=bdS hm;refine E z (fc call168 z<|d_X a2 (zt' hBw h1.s) p1_1 (ii z)<|b_W<|repS.len hn) ?_;rintro _ H ⟨s2,rfl⟩;refine R z (not_ z)<|Wx z (fun hcb=>?_) (fun hcb=>?_)
 ·refine Wg<|R z (bP (parts:=[]) (cs:=[]) m_c z z)<|R z (h_o m_g (fun _ h=>by cases h) z) ?_
  obtain rfl:=som<|ifT hmm hcb;exact m_7 z fun _ ha=>⟨false,.inr ⟨rfl,z,ha.defers,z,bup h1 s2⟩⟩
 refine Wk<|Ws<|Rf z e_l z ?_
 have ho:=I.e s2;refine R z (l0 g_3 z<|ho.at z)<|Rq z z z<|Rw z<|Wq<|Ws<|Rw z ?_
 obtain ⟨_,L,hmp⟩:=bdS<|ifF hmm hcb;refine u_9 (σ:=Bool×Int) (ρ:=Bool) (fun s a w=>un2 (fun x3 x5=>Sat 48 [(1,pt w0.z),(2,vB x3),(3,vI x5)] a/\Below H.z H w/\inI x5) s) (fun s a w=>un2 (fun x3 x5=>Sat 48 [(2,vB x3)] a/\Below H.z H w/\inI x5) s) (fun r ex a w=>r=false/\ex = .panic (k_k<|.iface 252<|.agg #[])/\a.defers=[]/\Below w0.z w0 w) L ?_ ?_ ?_ ?_
 ·exact fun _ q=>⟨q.k<|s3 z z z,br H,ii z⟩
 ·rintro ⟨x3,x5⟩ _ _ _ ⟨O,s4,hc⟩ V;have hmq:=a_5 V;refine Wu ?_ O;refine Wq<|Wm z<|Rf z c_k z ?_
  have hd:=ho.e s4;refine R z (l0 M_ z<|hd.at z) ?_;have ht:=p1_0.g<|((h1.ag B).e s2).e s4
  refine R z (lnR j_ z ht)<|Rl z z z<|Wx z (fun hce=>?_) (fun hce=>?_)
  ·refine Wk<|Wb<|Ws<|Rf z c_k z<|R z (l0 M_ z<|hd.at z)<|Rm z ?_
   have hu:=lt_ (lt_ h1.s s2.s) s4.s;obtain ⟨rf,rg,_,a3,hmr⟩:=V_<|ifT hmq hce;refine E z (fc call219 z<|W_w1i a3 (zt' hBw hu) ht hc) ?_;rintro _ a4 ⟨s6,a5,a6,a7,_,rfl,_,_,_,_,a8,_,_⟩;refine Rm z ?_
   iterate 3 refine Re z z z ?_
   refine E z (fa e_o) ?_;rintro _ a9 ⟨rfl,hv⟩;have hh:=hv.below;refine E0 (fs (cur':=[vI rf.kind,Str.v rf.name,vI rf.version,sl a5 a6 a7]) a_9 z z (hv.blk:Blk a9 a4.z [vI 0,Str.v (⟨[]⟩:Str),vI 0,sl none 0 0]) z (lb z) (oA z) z) ?_;rintro _ J ⟨_,aa⟩;have hi:=aa.one;refine Ra z<|Rw z<|Wq<|Wm z<|R z (not_ z)<|Wx z (fun hcj=>?_) (fun hcj=>?_)
   ·exact Wg<|R z (bP (parts:=[]) (cs:=[]) m_c z z)<|R z (h_o m_g (fun _ h=>by cases h) z) (m_7 z fun _ ha=>.inr ⟨false,(som<|ifT hmr hcj).symm,z,z,ha.defers,bM (bup (bup (bup (bup h1 s2) s4) s6) hh) hi<|m1<|lt_ hu s6.s⟩)
   refine Wk<|Wm z<|Rw z ?_
   obtain ⟨ab,hus,W⟩:=bdS<|ifF hmr hcj;refine Wt (fun a w=>∃(xa:Bool),xa=ab/\Sat 48 [(1,pt w0.z),(2,vB xa),(3,vI rg)] a/\Below J.z J w) ?_ ?_
   ·refine Wg<|RM z z ?_
    rcases bs x3 with G | G
    ·iterate 4 refine Nh z G ?_
     exact R z (pT z G z)<|Ra z<|Wl (fun _ q=>⟨true,som<|ifT hus G,q.k<|s3 z z z,br J⟩)
    exact Rh z G (mv z)<|Rh z G (fd e_l z)<|Rh z G (l0 g_3 z<|(((hd.e s6).e hh).c hi<|djs<|mm1 I.lt<|lt_ (lt_ s2.s s4.s) s6.s).at z)<|Rh z G (eql z z)<|R z (pF z G z)<|Ra z<|Wl (fun _ q=>⟨rg==x1.stored,som<|ifF hus G,q.k<|s3 z z z,br J⟩)
   rintro ad _ ⟨xa,rfl,_,ae⟩;revert ad;exact fun _ q=>⟨(xa,rg),(som W).symm,⟨q.k<|s3 z z z,bup (bM (bup (bup s4 s6) hh) hi<|m1<|lt_ s4.s s6.s) ae,a8⟩⟩
  exact We<|fun a' ha'=>b_e (som<|ifF hmq hce).symm ⟨Sat.weaken ha'<|s1 z,s4,hc⟩
 ·rintro ⟨x3,x5⟩ af _ rfl ⟨_,sw,hc⟩;have Y:=elL hmp;have hmx:=a_5 Y;revert af;refine Wo<|Wm z<|R z (not_ z)<|Wx z (fun hck=>?_) (fun hck=>?_)
  ·refine Wg<|R z (bP (parts:=[]) (cs:=[]) m_c z z)<|R z (h_o m_g (fun _ h=>by cases h) z) ?_
   obtain rfl:=som<|ifT hmx hck;exact m_7 z fun _ ha=>⟨false,.inr ⟨rfl,z,ha.defers,z,bup (bup h1 s2) sw⟩⟩
  refine a_e ?_;obtain rfl:=som<|ifF hmx hck;exact ret0 hr ⟨rfl,bup (bup h1 s2) sw⟩
 rintro _ exy _ _ rfl ⟨rfl,rfl,a0,exy⟩;have a1:=elR hmp;obtain rfl:=som a1;exact ⟨⟨false,.inr ⟨rfl,z,a0,z,exy⟩⟩,_,z⟩
theorem u_V (w:World):(Instr.typeAssert (.iface 252<|.agg #[]) 20 252 true).run Tryz.prog w = .ok (.tuple #[.agg #[],.bool true]) w:=by kernel_rfl
theorem u_W (w:World):(Instr.typeAssert .nilIface 20 252 true).run Tryz.prog w = .ok (.tuple #[.agg #[],.bool false]) w:=by kernel_rfl
set_option maxRecDepth 4000 in
theorem u_X (p:Addr)(b:Bool)(older:List PanicEntry)(w:World)(hc:w.cell? p=some (vB b))(hz:w.frozen? p=false)(hp:p.block<w.heap.size) :
    CallsD Tryz.prog 215 #[.pointer (some p)] (.panicking ({ v:=.iface 252<|.agg #[],recovered:=false }::older)) w fun e u' w' =>
      e = .returned (.tuple #[])/\u' = .panicking ({ v:=.iface 252<|.agg #[],recovered:=true }::older)/\w'=(w.alloc<|.cells #[] 252).setCell p (vB false):=by
  refine callsD_of_wpS Tryz.func215 rfl fun c₀ cs hu=>?_
  apply wpS_seq
  apply wpS_region
  simp [wpOpsS,go_sem,recoverD,hu,Tryz.ntmps215,Exit.thenS,u_V]
  apply wpS_seq
  apply wpS_region
  simp [wpOpsS,go_sem,Exit.thenS]
  refine wpS_cond (t:=true) (by simp [Act.eval]) ?_
  simp only [if_true]
  apply wpS_region
  have hb:=b_5 w<|.cells #[] 252;have h:(w.alloc<|.cells #[] 252).cell? p=some (vB b):=(hb.cell (p:=p) hp).trans hc;have G:(w.alloc<|.cells #[] 252).frozen? p=false:=(hb.frozen (p:=p) hp).trans hz
  simp [wpOpsS,go_sem,bodyPostS,results,Tryz.results215,h,G]
set_option maxRecDepth 4000 in
theorem u_Y (p:Addr)(w:World) :
    CallsD Tryz.prog 215 #[.pointer (some p)] .returning w fun e u' w'=>e = .returned (.tuple #[])/\u' = .returning/\w'=w.alloc (.cells #[] 252):=by
  refine callsD_of_wpS Tryz.func215 rfl fun c₀ cs hu=>?_
  apply wpS_seq
  apply wpS_region
  simp [wpOpsS,go_sem,recoverD,hu,Tryz.ntmps215,Exit.thenS,u_W]
  apply wpS_seq
  apply wpS_region
  simp [wpOpsS,go_sem,Exit.thenS]
  refine wpS_cond (t:=false) (by simp [Act.eval]) ?_
  simp only [Bool.false_eq_true,if_false]
  refine wpS_of_wp<|wp_skip ?_
  cases c₀
  simp_all [bodyPostS,results,Tryz.results215]
theorem u_Z {w0:World}{a b:Value}:(∀w',Below ((w0.alloc (.cells #[a,b] 68)).alloc (.cells #[.bool false] 4)).heap.size ((w0.alloc (.cells #[a,b] 68)).alloc (.cells #[.bool false] 4)) w' ->
    (w'.cell? ⟨w0.heap.size+1,0,none⟩=some (vB false)/\w'.frozen? ⟨w0.heap.size+1,0,none⟩=false/\Bw w0 w'/\w0.heap.size+1<w'.heap.size))/\Below w0.heap.size w0 ((w0.alloc (.cells #[a,b] 68)).alloc (.cells #[.bool false] 4)):=by
  have hB1:Below w0.heap.size w0 ((w0.alloc<|.cells #[a,b] 68).alloc (.cells #[.bool false] 4)) :=
    (b_5 w0 _).trans ((b_5 (w0.alloc<|.cells #[a,b] 68)<|.cells #[.bool false] 4).mono (by simp))
  refine ⟨fun w' hb=>?_,hB1⟩;have hs0:((w0.alloc<|.cells #[a,b] 68).alloc (.cells #[.bool false] 4)).heap.size=w0.heap.size+2:=by simp
  have hsz:=hb.size;refine ⟨(hb.cell (p:=⟨w0.heap.size+1,0,none⟩) (by rw [hs0];simp only;omega)).trans (by simp [go_sem]),(hb.frozen (p:=⟨w0.heap.size+1,0,none⟩) (by rw [hs0];simp only;omega)).trans (by simp [go_sem]),hB1.trans<|hb.mono hB1.size,by omega⟩
theorem W_w1j {n:Nat}{B:Zone}{x1:Log}{A0:Option Addr}{N0 C0:Nat}{res:Bool}{w0:World}(hm:j_5 n x1=some res)(hBw:B<=w0.heap.size)(p1_0:repS w0 B (sl A0 N0 C0) x1.bytes)(p1_1:inI x1.stored):h_ Tryz.prog 182 [(.agg #[(sl A0 N0 C0),(vI x1.stored)])] w0 (fun v w'=>Bw w0 w'/\vB res=v):=by
  constructor
  have hmf:∀(fn:Fn)(first cap:Array Value)(w:World),(Instr.makeFunc fn first cap).run Tryz.prog w = .ok (.func fn first cap) w:=fun _ _ _ _=>rfl
  have L:=u_Z (w0:=w0) (a:=sl A0 N0 C0) (b:=vI x1.stored);have hmb:=W_w3r hm (zt' hBw L.2.size) (p1_0.ext L.2) p1_1;have H:=Lib.hid L.1
  clear L hm p1_0 hBw
  go_enter_defers Tryz.func182,Tryz.ntmps182
  go_wp2_with (go_at_call 216;refine hmb.mono ?_;(rintro e w' (⟨v,rfl,rfl,hb⟩ | ⟨rfl,rfl,hb⟩) <;> (obtain ⟨hc,hz,hB,hsz⟩:=H.out _ hb;clear hmb hb H)))
  · refine leaves_cons (f:=215) (args:=#[.pointer (some ⟨w0.heap.size+1,0,none⟩)]) (by simp) (by simp [go_sem]) ?_
    refine (u_Y _ _).mono ?_;rintro e u' w'' ⟨rfl,rfl,rfl⟩;have h:=hB.setCell (p:=⟨w0.heap.size+1,0,none⟩) (by simp)<|vB true;have G:=h.trans<|(b_5 (w'.setCell ⟨w0.heap.size+1,0,none⟩<|vB true)<|.cells #[] 252).mono h.size
    have I:((w'.setCell ⟨w0.heap.size+1,0,none⟩<|vB true).alloc (.cells #[] 252)).cell? ⟨w0.heap.size+1,0,none⟩=some (vB true) :=
      ((b_5 (w'.setCell ⟨w0.heap.size+1,0,none⟩<|vB true)<|.cells #[] 252).cell (p:=⟨w0.heap.size+1,0,none⟩) (by simpa using hsz)).trans (World.cell?_setCell_same _ _ _ hc)
    simp [Leaves,settle,results,Tryz.results182,go_sem,I]
    exact G
  · refine leaves_cons (f:=215) (args:=#[.pointer (some ⟨w0.heap.size+1,0,none⟩)]) (by simp) (by simp [go_sem]) ?_
    refine (u_X ⟨w0.heap.size+1,0,none⟩ false [] _ hc hz hsz).mono ?_;rintro e u' w'' ⟨rfl,rfl,rfl⟩;have h:=hB.trans<|(b_5 w'<|.cells #[] 252).mono hB.size;have G:=h.setCell (p:=⟨w0.heap.size+1,0,none⟩) (by simp)<|vB false
    have J:(w'.alloc<|.cells #[] 252).cell? ⟨w0.heap.size+1,0,none⟩=some (vB false) :=
      ((b_5 w'<|.cells #[] 252).cell (p:=⟨w0.heap.size+1,0,none⟩) hsz).trans hc
    have I:((w'.alloc<|.cells #[] 252).setCell ⟨w0.heap.size+1,0,none⟩ (vB false)).cell? ⟨w0.heap.size+1,0,none⟩=some (vB false):=World.cell?_setCell_same _ _ _ J
    simp [Leaves,settle,results,Tryz.results182,go_sem,I]
    exact G
theorem W_w1k {x1:List UInt8}{res:(List o_)×Int}(hm:g_Y n x1=some res)(hBw:B<=w0.z)(p1_0:repS w0 B (sl A0 N0 C0) x1):h_ prog 184 [sl A0 N0 C0] w0 (Q14 w0 B res):=by
 unfold g_Y at hm
 refine goF func184 z z (lb z) fun fn hr=>Ws<|Ra z<|Rw z<|Ws<|E z (f0 (α:=o_) g_p) ?_
 rintro _ h ⟨a8,a9,aa,rfl,sc,ab⟩;refine Rw z<|Ws<|Rw z ?_
 obtain ⟨_,a0,hmo⟩:=bdS hm;refine b_u (σ:=(List o_)×Int) (ρ:=(List o_)×Int) (fun s a w=>un2 (fun xd W=>∃I J L G,Sat 26 [(0,sl A0 N0 C0),(2,sl none 0 0),(3,vI 0),(4,sl I J L),(5,vI W)] a/\Chg (· ∈ [w0.z]) h w/\a_ w G (sl I J L) xd/\G.Nodup/\(∀k∈G,k∈[w0.z]∨h.z<=k)/\inI W) s) (fun s a w=>un2 (fun xd W=>∃I J L G,Sat 26 [(2,sl none 0 0),(3,vI 0)] a/\Chg (· ∈ [w0.z]) h w/\a_ w G (sl I J L) xd/\G.Nodup/\(∀k∈G,k∈[w0.z]∨h.z<=k)/\inI W) s) (fun r ex a w=>ex = .ret/\w_ prog fn (Q14 w0 B r) a w) a0 ?_ ?_ ?_ ?_
 ·exact fun _ q=>⟨a8,a9,aa,[w0.z],q.k<|s5 z z z z z,cr [w0.z] h,ab,a_0,io sr,ii z⟩
 ·rintro ⟨xd,W⟩ _ ad _ ⟨I,J,L,G,a1,sa,hb,hg,hh,hi⟩ a2;refine Wu ?_ a1;refine Wb<|Wm z<|Rm z ?_
  have hp:=lt_ sc.s sa.s;obtain ⟨H,ae,_,af,hmq⟩:=V_<|a_5 a2;refine E z (fc call219 z<|W_w1i af (zt' hBw hp) (p1_0.g<|(sc.ag B).c sa<|f_ (or0 (d_ lr) (n_ hBw):∀k∈[w0.z],¬B k)) hi) ?_;rintro _ wj ⟨s3,ak,nl,cm,Sr,rfl,ah,ai,aj,he,al,am,ht⟩;refine Rm z ?_
  iterate 3 refine Re z z z ?_
  refine E z (fa e_o) ?_;rintro _ ws ⟨rfl,hu⟩;have O:=hu.below;refine E0 (fs (cur':=[vI H.kind,Str.v H.name,vI H.version,sl ak nl cm]) a_9 z z (hu.blk:Blk ws wj.z [vI 0,Str.v (⟨[]⟩:Str),vI 0,sl none 0 0]) z (lb z) (oA z) z) ?_;rintro _ wv ⟨an,ao⟩;have V:=ao.one;refine Ra z<|Rw z<|Wq<|Wm z<|R z (not_ z)<|Wx z (fun hcn=>?_) (fun hcn=>?_)
  ·refine Wm z<|Rm z<|Ra z<|Rw z ?_
   exact Wr<|rtO<|qL (som<|ifT hmq hcn).symm<|Y_ hr z z ⟨bM (bup (bup (bM sc sa<|d_ lr) s3) O) V<|m1<|lt_ hp s3.s,I,J,L,G,z,((hb.e s3).e O).c V<|ds<|mno (a_.lt hb) s3.s,hi,hg,(or1 hh (d_ lr) (a_S sc.s):∀k∈G,w0.z<=k)⟩
  refine Wk<|Wm z<|R z (lN (vs:=[vI H.kind,Str.v H.name,vI H.version,sl ak nl cm]) b_p a_9 z z fid<|an.row 0 4 z)<|E z (fS [(.tmp 22)] g_p z z z (a_z z) (lb z)<|lb z) ?_
  rintro _ ww ⟨rfl,hx⟩;have hf:=hx.below;have aD:=(he.e O).c V<|ds<|mnr<|a_.lt he
  obtain ⟨ap,aq,a3⟩:=bdS<|ifF hmq hcn;refine E z (b_d (α:=o_) g_p aq z z ((((hb.e s3).e O).c V<|ds<|mno (a_.lt hb) s3.s).e hf) hg (hx.blk:Blk ww wv.z [vI H.kind,Str.v H.name,vI H.version,sl ak nl cm]) (n_9 (x:=H) (S1:=Sr) ah ai aj<|((he.e O).c V<|ds<|mnr<|a_.lt he).e hf) (b_C ht (a_.lt hb) lr) am) ?_;rintro _ ar ⟨Sy,au,av,aw,rfl,ax,ay,az,aA⟩;refine Rw z<|Wg<|Rm z<|Ra z<|Wl ?_
  have hz:=lt_ sa.s s3.s;have Y:∀k∈G,k∈[w0.z]∨h.z<=k:=or1 hh (io sr)<|l_ lr;exact fun _ q=>⟨(ap,ae),(som a3).symm,⟨au,av,aw,Sy,q.k<|s5 z z z z z,(cM (i_ (cM (i_ (i_ (cM (cr [w0.z] h) sa (io sr):Chg (· ∈ [w0.z]) h ad) s3:Chg (· ∈ [w0.z]) h wj) O:Chg (· ∈ [w0.z]) h ws) V (mor hz:∀k∈[wj.z],k∈[w0.z]∨h.z<=k):Chg (· ∈ [w0.z]) h wv) hf:Chg (· ∈ [w0.z]) h ww) ax Y:Chg (· ∈ [w0.z]) h ar),ay,az,(or2 aA Y (or0 ht (l_ sa.s):∀k∈Sr,k∈[w0.z]∨h.z<=k) (l_<|lt_ (lt_ (lt_ hz O.s) V.s) hf.s):∀k∈Sy,k∈[w0.z]∨h.z<=k),al⟩⟩
 ·rintro ⟨xd,W⟩ aB _ rfl ⟨I,J,L,G,_,aC,hb,hg,hh,hi⟩;have a5:=elL hmo;revert aB;obtain rfl:=som<|a_5 a5;exact Y_ hr z z ⟨bM sc aC<|d_ lr,none,0,0,[],z,onL,ii z,H_,an_⟩
 rintro _ _ _ _ rfl ⟨rfl,a6⟩;have a7:=elR hmo;obtain rfl:=som a7;exact ⟨a6,z⟩
theorem W_w3s {x1:q_}{x2:o_}{h G:Nat}{res:Bool}(hm:l_3 x1 x2=some res)(hBw:B<=w0.z)(p1_0:x1.name.b.length<=LEN)(p1_1:inI x1.version)(p1_2:repS w0 B (sl AE NE CE) x1.data)(p2_0:inI x2.kind)(p2_1:x2.name.b.length<=LEN)(p2_2:inI x2.version)(L:repS w0 B (sl AH NH CH) x2.data)(I:S_ w0 h G [vI x2.kind,Str.v x2.name,vI x2.version,sl AH NH CH])(O:B h):h_ prog 218 [(.agg #[Str.v x1.name,vI x1.version,sl AE NE CE]),(.pointer<|some ⟨h,G,none⟩)] w0 (Q11 w0 B res):=by
 unfold l_3 at hm
 refine goF func218 z z (lb z) fun fn hr=>Ws<|E z (fb z) ?_
 rintro _ J ⟨rfl,H⟩;have h1:=H.below;refine Rw z<|Ws<|Rf z p_A z<|R z (l0 g_9 z<|(H.blk:Blk J w0.z [Str.v x1.name,vI x1.version,sl AE NE CE]).at z)<|Rf z d_S z<|R z (l0 g_9 z<|(I.e h1).at (j:=1) z)<|R z (a_R z z)<|Rw z ?_
 obtain rfl:=som hm;exact Wr<|c_ hr z ⟨h1,z⟩
theorem W_w3t {x1:List q_}{G:o_}{pa2c0_3:Option Addr}{pn2c0_3 pc2c0_3:Nat}{H I:Nat}{res:Int}(hm:j_6 x1 G=some res)(hBw:B<=w0.z)(p1_0:repS w0 B (sl A0 N0 C0) x1)(p2c0_0:inI G.kind)(p2c0_1:G.name.b.length<=LEN)(p2c0_2:inI G.version)(p2c0_3:repS w0 B (sl pa2c0_3 pn2c0_3 pc2c0_3) G.data)(a1:S_ w0 H I [vI G.kind,Str.v G.name,vI G.version,sl pa2c0_3 pn2c0_3 pc2c0_3])(a0:B H):h_ prog 217 [sl A0 N0 C0,(.func (.func 218) #[] #[(.pointer<|some ⟨H,I,none⟩)])] w0 (Q0 w0 B res):=by
 unfold j_6 at hm
 refine goF func217 z z (lb z) fun fn hr=>Ws<|Rw z<|Wq<|Wm z<|R z (lnR c_7 z p1_0)<|Rm z<|Wn ?_
 obtain ⟨_,hug,hma⟩:=bdS hm;refine Wf (σ:=Unit) (ρ:=Int) (fun (kb:Nat)(_:Unit) a w=>Sat 19 [(1,.func (.func 218) #[] #[(.pointer<|some ⟨H,I,none⟩)]),(7,sl A0 N0 C0),(8,vI (x1.length:Int)),(9,vI ((kb:Nat):Int))] a/\Below w0.z w0 w) (fun (_:Unit) a w=>Sat 19 [] a/\Below w0.z w0 w) (fun r ex a w=>ex = .ret/\w_ prog fn (Q0 w0 B r) a w) hug ?_ ?_ ?_ ?_ ?_
 ·exact fun _ q=>⟨q.k<|s4 z z z z,br w0⟩
 ·rintro kb _ _ wc _ J ⟨hSh,h⟩ hmi;refine Wu ?_ hSh;refine Ws<|Rl z z z<|Wn<|Wq<|Wc z (fun _=>?_) (fun hc=>(P_ J hc).elim)
  refine Wk<|Wq<|Wb<|Wm z ?_
  obtain ⟨x2,ej,hmk⟩:=bdS hmi;refine RX z (at_ (α:=q_) c_7 b_a z z z (p1_0.e h) ej) ?_;rintro _ ⟨_,_,_,rfl,hl,hn,_⟩;obtain ⟨O,V,W,rfl,ho,hp,hq⟩:=f_R hn;refine R z (lN (vs:=[Str.v x2.name,vI x2.version,sl O V W]) e_R b_a z z fid hl)<|E z (fa g_r) ?_
  rintro _ wm ⟨rfl,hd⟩;have h1:=hd.below;refine Ra z<|E0 (fs (cur':=[Str.v x2.name,vI x2.version,sl O V W]) b_a z z (hd.blk:Blk wm wc.z [(Str.v (⟨[]⟩:Str)),vI 0,sl none 0 0]) z (lb z) (oA z) z) ?_
  rintro _ _ ⟨hu,sr⟩;have h3:=sr.one;refine Wn<|Wm z<|R z (lN (vs:=[Str.v x2.name,vI x2.version,sl O V W]) e_R b_a z z fid<|hu.row 0 3 z) ?_
  have Y:∀k∈[wc.z],¬B k:=or0 (d_ lr)<|n_<|zt' hBw h.s;obtain ⟨_,es,hme⟩:=bdS hmk;refine E z (h_7 call218 z z<|W_w3s es (zt' hBw<|lt_ (lt_ h.s h1.s) h3.s) ho hp (hq.g<|(h1.ag B).c h3<|f_ Y) p2c0_0 p2c0_1 p2c0_2 (p2c0_3.g<|((h.ag B).e h1).c h3<|f_ Y) (((a1.e h).e h1).c h3<|(f_ Y) _ a0) a0) ?_;rintro _ _ ⟨sf,rfl⟩;refine Wx z (fun L=>?_) (fun L=>?_)
  ·exact Wm z<|Rw z<|Wr<|rtO<|qL (som<|ifT hme L).symm<|c_ hr z ⟨bup (bM (bup h h1) h3<|m1 h.s) sf,z,ic (Nat.le_of_lt J)<|lt_ (repS.len p1_0) A_⟩
  exact Wk<|Wg<|R z (inc_ J (lt_ (repS.len p1_0) A_) z z)<|Rm z<|Wl (fun _ q=>⟨(),(som<|ifF hme L).symm,⟨q.k<|s4 z z z z,bup (bM (bup h h1) h3<|m1 h.s) sf⟩⟩)
 ·rintro _ _ _ ⟨hSv,sw⟩;refine Wu ?_ hSv;refine Ws<|Rl z z z<|Wn<|Wq<|Wc z (fun hc=>(Q_ hc).elim) (fun _=>?_)
  exact We<|fun a' ha'=>⟨rfl,⟨Sat.weaken ha' sn,sw⟩⟩
 ·rintro _ ax _ rfl ⟨_,sy⟩;have hmz:=elL hma;revert ax;refine Wo<|Ws<|Rw z ?_
  obtain rfl:=som hmz;exact Wr<|c_ hr z ⟨sy,z,ii z⟩
 rintro _ _ _ _ rfl ⟨rfl,a2⟩;have a3:=elR hma;obtain rfl:=som a3;exact ⟨a2,z⟩
theorem W_w1l {x1:L_}{b1 o1:Nat}{res:(List q_)}(hm:g_Z n x1=some res)(hBw:B<=w0.z)(p1_0:repS w0 B (sl A0 N0 C0) x1.registry.versions)(p1_1:repS w0 B (sl A1 N1 C1) x1.log.bytes)(p1_2:inI x1.log.stored)(hC1:S_ w0 b1 o1 [sl A0 N0 C0,sl A1 N1 C1,vI x1.log.stored])(hC1b:B b1):h_ prog 183 [(.pointer<|some ⟨b1,o1,none⟩)] w0 (Q15 w0 B res):=by
 unfold g_Z at hm
 refine goF func183 z z (lb z) fun fn hr=>Ws<|Rw z<|Ws<|E z (q_k (α:=q_) c_i B) ?_
 rintro _ I ⟨bj,rfl,sn,bk⟩;refine Rw z<|Wm z<|R z (a_6 z)<|Rf z d_d z<|Rf z c_k z<|R z (l0 M_ z<|(hC1.e sn).at (j:=1) z) ?_
 obtain ⟨ru,_,bm,aY⟩:=a_k hm;refine E z (fc call184 z<|W_w1k bm (zt' hBw sn.s)<|p1_1.e sn) ?_;rintro _ H ⟨so,av,nw,cx,_,rfl,hy,_,_,aD⟩;refine Rm z<|Re z z z<|Re z z z<|Ra z<|Rw z<|Wq<|Wm z<|R z (lnR c_I z<|or_ hy<|zin (B:=B) aD<|a_.lt hy)<|Rm z<|Wn ?_
 obtain ⟨_,aZ,ax⟩:=bdS aY;refine Wf (σ:=List q_) (ρ:=List q_) (fun (kp:Nat)(xi:List q_) a w=>∃J L O h,Sat 69 [(3,sl J L O),(20,sl av nw cx),(21,vI (ru.length:Int)),(22,vI ((kp:Nat):Int))] a/\Below H.z H w/\X_ w h (zn B I.z H.z) (sl J L O) xi/\h.Nodup/\(∀k∈h,H.z<=k)) (fun (xi:List q_) a w=>∃J L O h,Sat 69 [(3,sl J L O)] a/\Below H.z H w/\X_ w h (zn B I.z H.z) (sl J L O) xi/\h.Nodup/\(∀k∈h,H.z<=k)) (fun r ex a w=>ex = .ret/\w_ prog fn (Q15 w0 B r) a w) aZ ?_ ?_ ?_ ?_ ?_
 ·exact fun _ q=>⟨bj,0,0,([]:List Nat),q.k<|s4 z z z z,br H,X_.mono (bk.e so) d_k,H_,an_⟩
 ·rintro kp xi _ an _ ay ⟨J,L,O,h,b0,sh,ha,hj,hd⟩ b2;refine Wu ?_ b0;refine Ws<|Rl z z z<|Wn<|Wq<|Wc z (fun _=>?_) (fun hc=>(P_ ay hc).elim)
  refine Wk<|Wq<|Wb<|Ws ?_
  obtain ⟨x2,bn,b3⟩:=bdS b2;refine RX z (at_ (α:=o_) c_I a_9 z z z (or_ (hy.e sh)<|zin (B:=B) aD<|a_.lt hy) bn) ?_;rintro _ ⟨_,_,_,rfl,bo,bp,_⟩;obtain ⟨ak,nl,cm,rfl,bq,ao,ap,aq⟩:=f_c bp;refine R z (lN (vs:=[vI x2.kind,Str.v x2.name,vI x2.version,sl ak nl cm]) b_p a_9 z z fid bo)<|E z (fa e_o) ?_
  rintro _ aE ⟨rfl,aF⟩;have he:=aF.below;have a0:Blk aE an.z [vI 0,Str.v (⟨[]⟩:Str),vI 0,sl none 0 0]:=aF.blk;refine E0 (fs (cur':=[vI x2.kind,Str.v x2.name,vI x2.version,sl ak nl cm]) a_9 z z a0 z (lb z) (oA z) z) ?_;rintro _ _ ⟨aG,bt⟩;have h5:=bt.one;refine Wn<|Wm z<|R z (j_e z) ?_
  have a1:=lt_ sn.s so.s;have aH:=lt_ a1 sh.s;have aI:∀k∈[an.z],¬(zn B I.z H.z) k:=or0 (d_ lr)<|c_Q (n_<|zt' hBw aH) sh.s;have hz:=(ha.e he).c h5 (ds<|mnr<|X_.lt ha)<|f_ aI
  have ar:=(he.ag<|zn B I.z H.z).c h5<|f_ aI
  have hq:=lt_ sh.s he.s;have V:=lt_ (lt_ aH he.s) h5.s;obtain ⟨aJ,bu,b4⟩:=bdS b3;refine E z (fc call217 z<|W_w3t (B:=zn B I.z aE.z) bu (g_6 (zt' hBw V) h5.s) (repS.mono (X_.rep hz (zall (zin (B:=B) hd<|X_.lt ha)<|c_3 so.s lr)<|c_3 lr sh.s)<|c_3 lr he.s) bq ao ap (repS.mono (aq.g ar)<|c_3 lr hq) (aG.row 0 4 z)<|zap' (c_3 (lt_ so.s sh.s) lr)<|atp<|zin (B:=B) (d_ lr)<|d_ a0.lt) ?_;rintro _ wr ⟨s3,rfl,_⟩;refine Rw z<|Ws<|Rf z d_S z ?_
  have W:=aG.e s3;refine R z (l0 g_9 z<|W.at z)<|Rf z d_b z<|R z (l0 g_3 z<|W.at z)<|Rf z d_T z<|R z (l0 M_ z<|W.at z)<|R z (bP (parts:=[(0,.tmp 30),(1,.tmp 32),(2,.tmp 34)]) (cs:=[Str.v x2.name,vI x2.version,sl ak nl cm]) k_l z z)<|E z (fa g_r) ?_
  rintro _ bv ⟨rfl,aK⟩;have hf:=aK.below;refine E0 (fs (cur':=[Str.v x2.name,vI x2.version,sl ak nl cm]) b_a z z (aK.blk:Blk bv wr.z [(Str.v (⟨[]⟩:Str)),vI 0,sl none 0 0]) z (lb z) (oA z) z) ?_;rintro _ a2 ⟨aL,bw⟩;have hg:=bw.one;refine Wn<|Wb<|Wq ?_
  obtain ⟨bx,az,b5⟩:=bdS b4;refine Wt (fun a w=>∃(au:Bool),au=bx/\Sat 69 [(3,sl J L O),(7,pt an.z),(8,vI aJ),(9,pt wr.z),(20,sl av nw cx),(21,vI (ru.length:Int)),(22,vI ((kp:Nat):Int)),(36,vB au)] a/\Below a2.z a2 w) ?_ ?_
  ·refine Wg<|Rf z d_a z<|R z (l0 g_3 z<|((W.e hf).c hg<|djs<|mm1 a0.lt<|lt_ h5.s s3.s).at z)<|Rq z z z<|Rm z ?_
   rcases bs (x2.kind==1) with hcc | hcc
   ·exact Rh z hcc (mv z)<|Rh z hcc (b_l z z)<|R z (pT z hcc z)<|Ra z<|Wl (fun _ q=>⟨decide<|0<=aJ,som<|ifT az hcc,q.k<|s8 z z z z z z z z,br a2⟩)
   exact Nh z hcc<|Nh z hcc<|R z (pF z hcc z)<|Ra z<|Wl (fun _ q=>⟨false,som<|ifF az hcc,q.k<|s8 z z z z z z z z,br a2⟩)
  rintro bz G ⟨au,rfl,_,sb⟩;revert bz;refine Wo ?_;obtain ⟨bA,aA,b6⟩:=bdS b5;refine Wt (fun a w=>∃(a3:List q_),a3=bA/\∃a4 a5 a6 Y,Sat 69 [(3,sl a4 a5 a6),(20,sl av nw cx),(21,vI (ru.length:Int)),(22,vI ((kp:Nat):Int))] a/\Chg (· ∈ h) G w/\X_ w Y (zn B I.z H.z) (sl a4 a5 a6) a3/\Y.Nodup/\(∀k∈Y,k∈h∨G.z<=k)) ?_ ?_
  ·refine Wc z (fun aj=>?_)<|fun aj=>?_
   ·refine Wg<|RM z z<|R z (lN (vs:=[Str.v x2.name,vI x2.version,sl ak nl cm]) e_R b_a z z fid<|(aL.e sb).row 0 3 z) ?_
    obtain ⟨bB,aM,b7⟩:=bdS<|ifT aA aj;have aN:∀k∈[wr.z],¬(zn B I.z H.z) k:=or0 (d_ lr)<|c_Q (n_<|zt' hBw<|lt_ V s3.s)<|lt_ (lt_ hq h5.s) s3.s;have aO:=(((hz.e s3).e hf).c hg (ds<|mno (X_.lt ha)<|lt_ (lt_ he.s h5.s) s3.s)<|f_ aN).e sb;refine RX z (v_k (α:=q_) c_7 b_a z z aO aM) ?_;rintro _ ⟨_,bC,rfl⟩;refine E0 (v_e (α:=q_) b_a z bC z z z aM aO hj (h_6 (x:=(⟨x2.name,x2.version,x2.data⟩:q_)) ao ap<|aq.g<|(((ar.e s3).e hf).c hg<|f_ aN).e sb) (or0 hd (c_Q (n_<|zt' hBw a1) lr):∀k∈h,¬(zn B I.z H.z) k)) ?_;rintro _ bD ⟨aP,bE,bF,bG,bH⟩;refine Wl ?_;exact fun _ q=>⟨bB,som b7,J,L,O,aP,q.k<|s4 z z z z,(cM (cr h G) bE (io sr):Chg (· ∈ h) G bD),bF,bG,(or1 bH (io sr) (l_ lr):∀k∈aP,k∈h∨G.z<=k)⟩
   refine Ws<|Rf z d_a z<|R z (l0 g_3 z<|(((W.e hf).c hg<|djs<|mm1 a0.lt<|lt_ h5.s s3.s).e sb).at z)<|Rq z z z<|Rw z ?_
   obtain ⟨bI,aB,b8⟩:=bdS<|ifF aA aj;refine Wt (fun a w=>∃(a8:List q_),a8=bI/\∃a9 aa ab Ss,Sat 69 [(3,sl a9 aa ab),(20,sl av nw cx),(21,vI (ru.length:Int)),(22,vI ((kp:Nat):Int))] a/\Chg (· ∈ h) G w/\X_ w Ss (zn B I.z H.z) (sl a9 aa ab) a8/\Ss.Nodup/\(∀k∈Ss,k∈h∨G.z<=k)) ?_ ?_
   ·refine Wc z (fun al=>?_)<|fun al=>?_
    ·refine Wg<|Rm z<|R z (lN (vs:=[Str.v x2.name,vI x2.version,sl ak nl cm]) e_R b_a z z fid<|(aL.e sb).row 0 3 z)<|E z (fS [(.tmp 53)] c_i z z z (a_z z) (lb z)<|lb z) ?_
     rintro _ aQ ⟨rfl,aR⟩;have ad:=aR.below;have aS:∀k∈[wr.z],¬(zn B I.z H.z) k:=or0 (d_ lr)<|c_Q (n_<|zt' hBw<|lt_ V s3.s)<|lt_ (lt_ hq h5.s) s3.s;obtain ⟨bJ,bK,b9⟩:=bdS<|ifT aB al;refine E z (k_K (α:=q_) c_i bK z z (((((hz.e s3).e hf).c hg (ds<|mno (X_.lt ha)<|lt_ (lt_ he.s h5.s) s3.s)<|f_ aS).e sb).e ad) hj (aR.blk:Blk aQ G.z [Str.v x2.name,vI x2.version,sl ak nl cm]) (h_6 (x:=(⟨x2.name,x2.version,x2.data⟩:q_)) ao ap<|aq.g<|((((ar.e s3).e hf).c hg<|f_ aS).e sb).e ad) (or0 hd (c_Q (n_<|zt' hBw a1) lr):∀k∈h,¬(zn B I.z H.z) k)) ?_;rintro _ bL ⟨aT,bN,bO,bQ,rfl,bR,bS,bT,bU⟩;refine Ra z<|Wl ?_
     exact fun _ q=>⟨bJ,som b9,bN,bO,bQ,aT,q.k<|s4 z z z z,(cM (i_ (cr h G) ad:Chg (· ∈ h) G aQ) bR (io sr):Chg (· ∈ h) G bL),bS,bT,(or1 bU (io sr) (l_ ad.s):∀k∈aT,k∈h∨G.z<=k)⟩
    refine Wm z<|R z (b_l z z)<|Rw z ?_
    obtain ⟨bV,aC,ba⟩:=bdS<|ifF aB al;refine Wt (fun a w=>∃(ae:List q_),ae=bV/\∃af ah ai St,Sat 69 [(3,sl af ah ai),(20,sl av nw cx),(21,vI (ru.length:Int)),(22,vI ((kp:Nat):Int))] a/\Chg (· ∈ h) G w/\X_ w St (zn B I.z H.z) (sl af ah ai) ae/\St.Nodup/\(∀k∈St,k∈h∨G.z<=k)) ?_ ?_
    ·refine Wc z (fun am=>?_)<|fun am=>?_
     ·refine Wd (X:=noX) 128 (pl_ 9 [7]) mo (by kernel_rfl) fun bW aw _=>dM z z z<|dM z z z ?_
      obtain ⟨_,bX,bb⟩:=bdS<|ifT aC am;have aU:=((((hz.e s3).e hf).c hg (ds<|mno (X_.lt ha)<|lt_ (lt_ he.s h5.s) s3.s)<|f_ (or0 (d_ lr) (c_Q (n_<|zt' hBw<|lt_ V s3.s)<|lt_ (lt_ hq h5.s) s3.s):∀k∈[wr.z],¬(zn B I.z H.z) k)).e sb).e aw;refine dRX z z (v_j c_7 b_a z aU z bX) ?_;rintro _ ⟨_,rfl,bY⟩;refine dM z z z<|dM z z z<|dR z z (add_ z z) ?_
      obtain ⟨_,bZ,bc⟩:=bdS bb;refine dRX z z (v_g c_7 b_a z z aU z z bZ) ?_;rintro _ ⟨_,_,_,rfl,c0⟩;obtain ⟨c1,c2,be⟩:=bdS bc;refine dE z z (v_f (α:=q_) c_i c2 z z bY hj c0 (or0 hd (c_Q (n_<|zt' hBw a1) lr):∀k∈h,¬(zn B I.z H.z) k)) (.inl z) ?_;rintro _ c3 ⟨aV,c4,c5,c6,rfl,c7,c8,ca,cb⟩;refine dQ z z z<|pD ?_
      exact fun _ q=>⟨c1,som be,c4,c5,c6,aV,q.k<|s4 z z z z,(cM (i_ (cr h G) aw:Chg (· ∈ h) G bW) c7 (io sr):Chg (· ∈ h) G c3),c8,ca,(or1 cb (io sr) (l_ aw.s):∀k∈aV,k∈h∨G.z<=k)⟩
     refine a_e ?_;exact fun _ q=>⟨xi,som<|ifF aC am,J,L,O,h,q.k<|s4 z z z z,cr h G,(((hz.e s3).e hf).c hg (ds<|mno (X_.lt ha)<|lt_ (lt_ he.s h5.s) s3.s)<|f_ (or0 (d_ lr) (c_Q (n_<|zt' hBw<|lt_ V s3.s)<|lt_ (lt_ hq h5.s) s3.s):∀k∈[wr.z],¬(zn B I.z H.z) k)).e sb,hj,io sr⟩
    rintro cc cd ⟨ae,rfl,af,ah,ai,St,_,ce,cf,cg,ch⟩;revert cc;exact fun _ q=>⟨ae,som ba,af,ah,ai,St,q.k<|s4 z z z z,(cM (cr h G) ce (io sr):Chg (· ∈ h) G cd),cf,cg,(or1 ch (io sr) (l_ lr):∀k∈St,k∈h∨G.z<=k)⟩
   rintro ci cj ⟨a8,rfl,a9,aa,ab,Ss,_,ck,cl,cn,co⟩;revert ci;exact fun _ q=>⟨a8,som b8,a9,aa,ab,Ss,q.k<|s4 z z z z,(cM (cr h G) ck (io sr):Chg (· ∈ h) G cj),cl,cn,(or1 co (io sr) (l_ lr):∀k∈Ss,k∈h∨G.z<=k)⟩
  rintro cp _ ⟨a3,rfl,a4,a5,a6,Y,_,cq,ct,cu,cv⟩;revert cp;refine Wo<|Wg<|R z (inc_ ay (lt_ (a_.len hy) A_) z z)<|Rm z<|Wl ?_
  have aW:=lt_ (lt_ hq h5.s) s3.s;exact fun _ q=>⟨a3,(som b6).symm,⟨a4,a5,a6,Y,q.k<|s4 z z z z,bM (bup (bM (bup (bup (bM (bup sh he) h5<|m1 sh.s) s3) hf) hg<|m1 aW) sb) cq hd,ct,cu,a_Y cv hd<|lt_ (lt_ (lt_ aW hf.s) hg.s) sb.s⟩⟩
 ·rintro xi _ _ ⟨J,L,O,h,bf,cw,ha,hj,hd⟩;refine Wu ?_ bf;refine Ws<|Rl z z z<|Wn<|Wq<|Wc z (fun hc=>(Q_ hc).elim) (fun _=>?_)
  exact We<|fun a' ha'=>⟨rfl,⟨J,L,O,h,Sat.weaken ha'<|s1 z,cw,ha,hj,hd⟩⟩
 ·rintro xi cy _ rfl ⟨J,L,O,h,_,aX,ha,hj,hd⟩;have bg:=elL ax;revert cy;refine Wo<|Wm z<|Rw z ?_
  obtain rfl:=som bg;exact Wr<|c_ hr z ⟨bup (bup sn so) aX,J,L,O,z,repS.mono (X_.rep ha (zall (zin (B:=B) hd<|X_.lt ha)<|c_3 so.s lr)<|c_3 lr aX.s)<|c_3 sn.s lr⟩
 rintro _ _ _ _ rfl ⟨rfl,bh⟩;have bi:=elR ax;obtain rfl:=som bi;exact ⟨bh,z⟩
theorem W_w3u {x1:a_j}{x2:Int}{res:Bool}(hm:l_4 x1 x2=some res)(hBw:B<=w0.z)(p1_0:repS w0 B (sl A0 N0 C0) x1.versions)(p2_0:inI x2):h_ prog 185 [(.agg #[sl A0 N0 C0]),vI x2] w0 (Q11 w0 B res):=by
 unfold l_4 at hm
 refine goF func185 z z (lb z) fun fn hr=>Ws<|E z (fb z) ?_
 rintro _ G ⟨rfl,h2⟩;have h4:=h2.below;refine Rw z<|Wq ?_
 obtain ⟨J,H,I⟩:=bdS hm;refine Wt (fun a w=>∃(x3:Bool),x3=J/\Sat 14 [(4,vB x3)] a/\Below G.z G w) ?_ ?_
 ·refine Wg<|Rm z<|R z (b_l z z)<|Rm z ?_
  rcases bs (decide<|0<=x2) with h | h
  ·exact Rh z h (mv z)<|Rh z h (fd c_j z)<|Rh z h (l0 c_v z<|(h2.blk:Blk G w0.z [sl A0 N0 C0]).at z)<|Rh z h (lnR b_B z<|p1_0.e h4)<|Rh z h (lss z z)<|R z (pT z h z)<|Ra z<|Wl (fun _ q=>⟨decide<|x2<(x1.versions.length:Int),som<|ifT H h,q.k<|s1 z,br G⟩)
  iterate 5 refine Nh z h ?_
  exact R z (pF z h z)<|Ra z<|Wl (fun _ q=>⟨false,som<|ifF H h,q.k<|s1 z,br G⟩)
 rintro L _ ⟨x3,rfl,_,sa⟩;revert L;refine Wo ?_;obtain rfl:=som I;exact Wr<|c_ hr z ⟨bup h4 sa,z⟩
theorem m_z {x1:e_}{res:Int}(hm:g_M x1=some res)(hBw:B<=w0.z)(p1_0:repS w0 B (sl A0 N0 C0) x1.rules):h_ prog 96 [(.agg #[sl A0 N0 C0])] w0 (Q0 w0 B res):=by
 unfold g_M at hm
 refine goF func96 z z (lb z) fun fn hr=>Ws<|E z (fb z) ?_
 rintro _ G ⟨rfl,h⟩;have h1:=h.below;refine Rw z<|Ws<|Rf z a_o z<|R z (l0 a_q z<|(h.blk:Blk G w0.z [sl A0 N0 C0]).at z)<|R z (lnR a_b z<|p1_0.e h1)<|R z (sb_ z z)<|Rw z ?_
 obtain rfl:=som hm;exact Wr<|c_ hr z ⟨h1,z,iS _ _⟩
theorem m_A {x1:e_}{x2:Int}{res:Bool}(hm:f_F n x1 x2=some res)(hBw:B<=w0.z)(p1_0:repS w0 B (sl A0 N0 C0) x1.rules)(p2_0:inI x2):h_ prog 190 [(.agg #[sl A0 N0 C0]),vI x2] w0 (Q11 w0 B res):=by
 unfold f_F at hm
 refine goF func190 z z (lb z) fun fn hr=>Ws<|E z (fb z) ?_
 rintro _ G ⟨rfl,h5⟩;have h1:=h5.below;have h6:Blk G w0.z [sl A0 N0 C0]:=h5.blk;refine Rw z<|Wq ?_
 obtain ⟨u8,I,hma⟩:=bdS hm;refine Wt (fun a w=>∃(x4:Bool),x4=u8/\Sat 12 [(4,vB x4)] a/\Below G.z G w) ?_ ?_
 ·refine Wg<|R z (lN (vs:=[sl A0 N0 C0]) J_ E_ z z fid<|h6.row 0 1 z) ?_
  obtain ⟨rb,ec,H⟩:=bdS I;refine E z (fc call116 z<|W_w1f ec (zt' hBw h1.s)<|p1_0.e h1) ?_;rintro _ _ ⟨s2,rfl⟩;refine Rm z ?_
  rcases bs rb with h | h
  ·refine Rh z h (lN (vs:=[sl A0 N0 C0]) J_ E_ z z fid<|(h6.e s2).row 0 1 z)<|Rh z h (mv z) ?_
   obtain ⟨rd,ee,hmf⟩:=bdS<|ifT H h;refine Eg z z h z (fc call199 z<|m_w ee (zt' hBw<|lt_ h1.s s2.s) (p1_0.g<|(h1.ag B).e s2) p2_0) ?_;rintro _ _ ⟨sg,rfl⟩;exact R z (pT z h z)<|Ra z<|Wl (fun _ q=>⟨rd,som hmf,q.k<|s1 z,bup s2 sg⟩)
  iterate 3 refine Nh z h ?_
  exact R z (pF z h z)<|Ra z<|Wl (fun _ q=>⟨false,som<|ifF H h,q.k<|s1 z,s2⟩)
 rintro ah _ ⟨x4,rfl,_,si⟩;revert ah;refine Wo ?_;obtain rfl:=som hma;exact Wr<|c_ hr z ⟨bup h1 si,z⟩
def Q25 (w0:World)(B:Zone)(r:(Option<|Int×Int))(v:Value)(w':World):Prop:=Bw w0 w'/\(fun h=>∃(v1:Value)(S1:List Nat),v1=v/\a_I 226 w' S1 v1 h/\(∀k∈S1,w0.z<=k)) r
theorem e_W {x1:Int}{x2:Int}{res:(Option<|Int×Int)}(hm:c_a x1 x2=some res)(hBw:B<=w0.z)(p1_0:inI x1)(p2_0:inI x2):h_ prog 233 [vI x1,vI x2] w0 (Q25 w0 B res):=by
 unfold c_a at hm
 refine goF func233 z z (lb z) fun fn hr=>Ws<|Rw z<|Wm z<|Rm z<|R z (bP (parts:=[(0,.tmp 5),(1,.tmp 6)]) (cs:=[vI x1,vI x2]) u_G z z)<|E z (fb z) ?_
 rintro _ H ⟨rfl,G⟩;refine R z (h_o d_226 (fun _ h=>by cases h) z)<|Rw z ?_
 obtain rfl:=som hm;exact Wr<|c_ hr z ⟨G.below,.iface 226<|pt w0.z,[w0.z],z,r_f (G.blk:Blk H w0.z [vI x1,vI x2]) p1_0 p2_0 z,d_ lr⟩
def Q26 (w0:World)(B:Zone)(r:(List UInt8)×(Option<|Int×Int))(v:Value)(w':World):Prop:=Bw w0 w'/\un2 (fun I J=>∃(h:Option Addr)(G H:Nat)(v2:Value)(S2:List Nat),v = .tuple #[sl h G H,v2]/\repS w' w'.z (sl h G H) I/\a_I 226 w' S2 v2 J/\(∀k∈S2,w0.z<=k)) r
theorem k_B {x1:a_y}{b1 o1:Nat}{x2:Int}{x3:Int}{res:(List UInt8)×(Option<|Int×Int)}(hm:f_4 x1 x2 x3=some res)(hBw:B<=w0.z)(p1_0:repS w0 B (sl A0 N0 C0) x1.d.rules)(p1_1:repS w0 B (sl A1 N1 C1) x1.b)(hC1:S_ w0 b1 o1 [sl A0 N0 C0,sl A1 N1 C1])(hC1b:B b1)(p2_0:inI x2)(p3_0:inI x3):h_ prog 262 [(.pointer<|some ⟨b1,o1,none⟩),vI x2,vI x3] w0 (Q26 w0 B res):=by
 unfold f_4 at hm
 refine goF func262 z z (lb z) fun fn hr=>Ws<|Ra z<|Rw z<|Wq<|Wm z<|Rm z<|R z (a_6 z)<|Rf z g_q z<|R z (l0 M_ z<|hC1.at (j:=1) z)<|R z (lnR j_ z p1_1)<|Rm z<|R z (sb_ z z)<|R z (Z_ z z)<|Wx z (fun h=>?_) (fun h=>?_)
 ·refine Wm z ?_
  obtain ⟨_,I,G⟩:=bdS<|ifT hm h;refine E z (fc call233 z<|e_W (B:=B) I hBw p2_0<|ii z) ?_;rintro _ _ ⟨s1,v4,J,rfl,h6,L⟩;refine Ra z<|Rw z ?_
  obtain rfl:=som G;exact Wr<|Y_ hr z z ⟨s1,none,0,0,v4,J,z,repS.mono (or_ onL an_)<|a_T s1.s,h6,L⟩
 refine Wk<|Wm z<|R z (a_6 z)<|Rf z g_q z<|R z (l0 M_ z<|hC1.at (j:=1) z)<|RM z z<|Rm z<|R z (add_ z z) ?_
 obtain ⟨_,O,H⟩:=bdS<|ifF hm h;refine RX z (rX j_ z_5 z z p1_1 z z O) ?_;rintro _ ⟨aa,nb,cc,rfl,hd⟩;refine Ra z<|Rw z ?_
 obtain rfl:=som H;exact Wr<|Y_ hr z z ⟨br w0,aa,nb,cc,.nilIface,([]:List Nat),z,repS.mono hd hBw,e_A,an_⟩
theorem m_B {x1:List UInt8}{x2:Bool}{res:Int}(hm:f_G x1 x2=some res)(hBw:B<=w0.z)(p1_0:repS w0 B (sl A0 N0 C0) x1):h_ prog 76 [sl A0 N0 C0,vB x2] w0 (Q0 w0 B res):=by
 unfold f_G at hm
 refine goF func76 z z (lb z) fun fn hr=>Ws<|Rw z<|Wq<|Wm z<|R z (lnR j_ z p1_0)<|R z (Z_ z z)<|Wx z (fun G=>?_) (fun G=>?_)
 ·refine Ws<|Rw z ?_
  obtain rfl:=som<|ifT hm G;exact Wr<|c_ hr z ⟨br w0,z,ii z⟩
 refine Wk<|Ws<|Rw z<|Wq<|Wm z<|R z (lnR j_ z p1_0)<|Rm z<|Wn ?_
 obtain ⟨_,huc,I⟩:=bdS<|ifF hm G;refine Wf (σ:=Int) (ρ:=Int) (fun (k5:Nat)(x0:Int) a w=>Sat 38 [(0,sl A0 N0 C0),(1,vB x2),(5,vI x0),(11,vI (x1.length:Int)),(12,vI ((k5:Nat):Int))] a/\Below w0.z w0 w/\inI x0) (fun (x0:Int) a w=>Sat 38 [(5,vI x0)] a/\Below w0.z w0 w/\inI x0) (fun r ex a w=>ex = .ret/\w_ prog fn (Q0 w0 B r) a w) huc ?_ ?_ ?_ ?_ ?_
 ·exact fun _ q=>⟨q.k<|s5 z z z z z,br w0,ii z⟩
 ·rintro k5 x0 _ h _ J ⟨hSd,s6,h2⟩ hme;refine Wu ?_ hSd;refine Ws<|Rl z z z<|Wn<|Wq<|Wc z (fun _=>?_) (fun hc=>(P_ J hc).elim)
  refine Wk<|Wq<|Wb<|Wm z<|Rw z<|Wm z<|Wn ?_
  obtain ⟨uf,hua,hmg⟩:=bdS hme;refine Wt (fun a w=>∃(x3:Int),x3=uf/\Sat 38 [(0,sl A0 N0 C0),(1,vB x2),(5,vI x3),(11,vI (x1.length:Int)),(12,vI ((k5:Nat):Int))] a/\Below h.z h w/\inI x3) ?_ ?_
  ·refine Wc z (fun H=>?_)<|fun H=>?_
   ·refine Wg<|Rm z<|R z (h_m z z (by decide))<|RM z z ?_
    have hb:=p1_0.e s6;refine R z (lnR j_ z hb)<|R z (sb_ z z)<|Rm z<|R z (sb_ z z) ?_
    obtain ⟨xh,ei,hmj⟩:=bdS<|ifT hua H;refine RX z (at_ (α:=UInt8) j_ z_5 z z z hb ei) ?_;rintro _ ⟨_,_,_,rfl,hk,hl,_⟩;obtain rfl:=u8 hl;exact R z (l0 g_5 z<|hk.at0 z)<|R z (b_i d_5 d_3 z)<|R z (l_o z z)<|Ra z<|Wl (fun _ q=>⟨b_Y .i64 (· ||| ·) (b_v .i64 x0 8)<|byteI xh,som hmj,q.k<|s5 z z z z z,br h,n_e _ _ _⟩)
   refine Wg<|Rm z<|R z (h_m z z (by decide))<|RM z z ?_
   obtain ⟨xm,en,hmo⟩:=bdS<|ifF hua H;refine RX z (at_ (α:=UInt8) j_ z_5 z z z (p1_0.e s6) en) ?_;rintro _ ⟨_,_,_,rfl,hp,hq,_⟩;obtain rfl:=u8 hq;exact R z (l0 g_5 z<|hp.at0 z)<|R z (b_i d_5 d_3 z)<|R z (l_o z z)<|Ra z<|Wl (fun _ q=>⟨b_Y .i64 (· ||| ·) (b_v .i64 x0 8)<|byteI xm,som hmo,q.k<|s5 z z z z z,br h,n_e _ _ _⟩)
  rintro ar _ ⟨x3,rfl,_,ss,ht⟩;revert ar;exact Wo<|Wg<|R z (inc_ J (lt_ (repS.len p1_0) A_) z z)<|Rm z<|Wl (fun _ q=>⟨x3,(som hmg).symm,⟨q.k<|s5 z z z z z,bup s6 ss,ht⟩⟩)
 ·rintro x0 _ _ ⟨hSu,sv,h2⟩;refine Wu ?_ hSu;refine Ws<|Rl z z z<|Wn<|Wq<|Wc z (fun hc=>(Q_ hc).elim) (fun _=>?_)
  exact We<|fun a' ha'=>⟨rfl,⟨Sat.weaken ha'<|s1 z,sv,h2⟩⟩
 ·rintro x0 aw _ rfl ⟨_,sx,h2⟩;have hmy:=elL I;revert aw;refine Wo<|Wm z<|Rw z ?_
  obtain rfl:=som hmy;exact Wr<|c_ hr z ⟨sx,z,h2⟩
 rintro _ _ _ _ rfl ⟨rfl,hqz⟩;have L:=elR I;obtain rfl:=som L;exact ⟨hqz,z⟩
def Q27 (w0:World)(B:Zone)(r:Int×Int×(Option<|Int×Int))(v:Value)(w':World):Prop:=Bw w0 w'/\un3 (fun h G H=>∃(v1:Value)(S1:List Nat),v = .tuple #[vI h,vI G,v1]/\inI h/\inI G/\a_I 226 w' S1 v1 H/\(∀k∈S1,w0.z<=k)) r
theorem k_C {x1:a_y}{b1 o1:Nat}{x2:Int}{x3:Int}{res:Int×Int×(Option<|Int×Int)}(hm:f_5 x1 x2 x3=some res)(hBw:B<=w0.z)(p1_0:repS w0 B (sl A0 N0 C0) x1.d.rules)(p1_1:repS w0 B (sl A1 N1 C1) x1.b)(hC1:S_ w0 b1 o1 [sl A0 N0 C0,sl A1 N1 C1])(hC1b:B b1)(p2_0:inI x2)(p3_0:inI x3):h_ prog 224 [(.pointer<|some ⟨b1,o1,none⟩),vI x2,vI x3] w0 (Q27 w0 B res):=by
 unfold f_5 at hm
 refine goF func224 z z (lb z) fun fn hr=>Ws<|RA z z<|Rw z<|Wm z<|R z (a_6 z)<|Rf z p_E z<|Rf z a_o z<|R z (l0 a_q z<|hC1.at (j:=0) z)<|Rm z ?_
 obtain ⟨x5,eq,hmr⟩:=bdS hm;refine RX z (at_ (α:=g_) a_b u_ z z z p1_0 eq) ?_;rintro _ ⟨_,_,_,rfl,ht,hu,_⟩;obtain ⟨I,J,L,O,na,cb,ac,nd,ce,af,ng,ch,rfl,_,_,hv,_,_,_,_⟩:=a_N hu;refine R z (lN (vs:=vR x5 I J L O na cb ac nd ce af ng ch) R_ u_ z z fid ht)<|E z (fa c_x) ?_
 rintro _ ws ⟨rfl,hi⟩;have G:=hi.below;refine E0 (fs (cur':=vR x5 I J L O na cb ac nd ce af ng ch) u_ z z (hi.blk:Blk ws w0.z [(Str.v (⟨[]⟩:Str)),vI 0,vI 0,vB false,sl none 0 0,sl none 0 0,sl none 0 0,sl none 0 0]) z (lb z) (oA z) z) ?_;rintro _ _ ⟨hj,sx⟩;have h1:=sx.one;refine Wn<|Wm z<|Rm z<|Rf z b_3 z<|R z (l0 g_3 z<|hj.at z) ?_
 have hk:∀k∈[w0.z],¬B k:=or0 (d_ lr)<|n_ hBw;have hl:=(G.ag B).c h1<|f_ hk
 have hn:=lt_ G.s h1.s;obtain ⟨_,_,ey,hmm⟩:=a_k hmr;refine E z (fc call262 z<|k_B ey (zt' hBw hn) (p1_0.g hl) (p1_1.g hl) ((hC1.e G).c h1<|(f_ hk) _ hC1b) hC1b p3_0 hv) ?_;rintro _ wz ⟨s3,_,_,_,W,Y,rfl,a0,ho,a1⟩;refine Rm z<|Re z z z<|Re z z z<|Ra z<|Rw z<|Wq<|Wm z<|R z (e_7 e_n z z ho)<|Wx z (fun H=>?_) (fun H=>?_)
 ·refine Wm z<|Rm z<|RA z z<|Rw z ?_
  obtain rfl:=som<|ifT hmm H;exact Wr<|y_ hr z z z ⟨bup (bM G h1<|d_ lr) s3,W,Y,z,ii z,p3_0,ho,s_ a1 hn⟩
 refine Wk<|Wq (Wd (X:=noX) 0 (.rd 0<|.rd 1<|.rd 2<|.rd 4<|.rd 5<|.rd 6<|.rd 7<|.ef 3<|.rd 8<|.rd 9<|.rd 10 .done) mo (by kernel_rfl) fun a5 s2 _=>dM z z z<|dR z z (fd d_c z) ?_)
 have hp:=(hj.e s3).e s2;refine dR z z (l0 g_4 z<|hp.at z)<|dM z z z<|dR z z (fd b_3 z)<|dR z z (l0 g_3 z<|hp.at z)<|dR z z (add_ z z) ?_
 obtain ⟨_,a2,V⟩:=bdS<|ifF hmm H;refine dE z z (fc call76 z<|m_B (B:=wz.z) a2 (a_T s2.s)<|a0.e s2) (.inr fun _ _ h=>F_<|h.1) ?_;rintro _ _ ⟨a3,rfl,a4⟩
 iterate 3 refine dQ z z z ?_
 refine pD<|Wo ?_
 obtain rfl:=som V;exact Wr<|y_ hr z z z ⟨bup (bup (bup (bM G h1<|d_ lr) s3) s2) a3,.nilIface,([]:List Nat),z,a4,iA _ _,e_A,an_⟩
def Q28 (w0:World)(B:Zone)(r:Int×(Option<|Int×Int))(v:Value)(w':World):Prop:=Bw w0 w'/\un2 (fun h G=>∃(v1:Value)(S1:List Nat),v = .tuple #[vI h,v1]/\inI h/\a_I 226 w' S1 v1 G/\(∀k∈S1,w0.z<=k)) r
theorem W_w3v {x1:a_y}{b1 o1:Nat}{x2:g_}{x3:Int}{res:Int×(Option<|Int×Int)}(hm:i_j x1 x2 x3=some res)(hBw:B<=w0.z)(p1_0:repS w0 B (sl A0 N0 C0) x1.d.rules)(p1_1:repS w0 B (sl A1 N1 C1) x1.b)(hC1:S_ w0 b1 o1 [sl A0 N0 C0,sl A1 N1 C1])(hC1b:B b1)(p2_0:x2.name.b.length<=LEN)(p2_1:inI x2.kind)(p2_2:inI x2.size)(p2_4:repS w0 B (sl A4 N4 C4) x2.bytes)(p2_5:repS w0 B (sl A5 N5 C5) x2.names)(p2_6:repS w0 B (sl A2 N2 C2) x2.tags)(p2_7:repS w0 B (sl A6 N6 C6) x2.kids)(p3_0:inI x3):h_ prog 225 [(.pointer<|some ⟨b1,o1,none⟩),.agg #[Str.v x2.name,vI x2.kind,vI x2.size,vB x2.little,sl A4 N4 C4,sl A5 N5 C5,sl A2 N2 C2,sl A6 N6 C6],vI x3] w0 (Q28 w0 B res):=by
 unfold i_j at hm
 refine goF func225 z z (lb z) fun fn hr=>Ws<|E z (fb z) ?_
 rintro _ G ⟨rfl,h6⟩;have h:=h6.below;have L:Blk G w0.z (vR x2 A4 N4 C4 A5 N5 C5 A2 N2 C2 A6 N6 C6):=h6.blk;refine Ra z<|Rw z<|Wq<|Ws<|Rf z b_r z<|R z (l0 M_ z<|L.at z)<|R z (lnR j_ z<|p2_4.e h)<|Rm z<|Wn ?_
 obtain ⟨_,hui,J⟩:=bdS hm;refine Wf (σ:=Unit) (ρ:=Int×(Option<|Int×Int)) (fun (k9:Nat)(_:Unit) a w=>Sat 52 [(0,.pointer<|some ⟨b1,o1,none⟩),(2,vI x3),(4,pt w0.z),(11,sl A4 N4 C4),(12,vI (x2.bytes.length:Int)),(13,vI ((k9:Nat):Int))] a/\Below G.z G w) (fun (_:Unit) a w=>Sat 52 [(2,vI x3),(4,pt w0.z)] a/\Below G.z G w) (fun r ex a w=>ex = .ret/\w_ prog fn (Q28 w0 B r) a w) hui ?_ ?_ ?_ ?_ ?_
 ·exact fun _ q=>⟨q.k<|s6 z z z z z z,br G⟩
 ·rintro k9 _ _ _ _ hka ⟨hSj,s1⟩ hmk;refine Wu ?_ hSj;refine Ws<|Rl z z z<|Wn<|Wq<|Wc z (fun _=>?_) (fun hc=>(P_ hka hc).elim)
  refine Wk<|Wq<|Wb<|Wm z ?_
  obtain ⟨_,el,hmb⟩:=bdS hmk;have hd:=(h.ag B).e s1;refine RX z (at_ (α:=UInt8) j_ z_5 z z z (p2_4.g hd) el) ?_;rintro _ ⟨_,_,_,rfl,hn,ho,_⟩;obtain rfl:=u8 ho;refine R z (l0 g_5 z<|hn.at0 z)<|Ra z<|Rw z<|Wq<|Wm z<|Rm z<|R z (add_ z z)<|Rm z<|R z (a_6 z)<|Rf z g_q z ?_
  have he:=(hC1.e h).e s1;refine R z (l0 M_ z<|he.at (j:=1) z) ?_;have hf:=p1_1.g hd;refine R z (lnR j_ z hf)<|R z (b_l z z)<|Wx z (fun H=>?_) (fun H=>?_)
  ·refine Wm z<|Rm z ?_
   have hg:=lt_ h.s s1.s;obtain ⟨_,em,hmp⟩:=bdS<|ifT hmb H;refine E z (fc call233 z<|e_W em (zt' hBw hg) p3_0<|ii z) ?_;rintro _ _ ⟨sq,vr,Ss,rfl,ht,hu⟩;exact Ra z<|Rw z<|Wr<|rtO<|qL (som hmp).symm<|Y_ hr z z ⟨bup (bup h s1) sq,vr,Ss,z,p3_0,ht,s_ hu hg⟩
  refine Wk<|Wm z<|R z (a_6 z)<|Rf z g_q z<|R z (l0 M_ z<|he.at (j:=1) z)<|RM z z<|R z (add_ z z) ?_
  obtain ⟨_,ev,hmc⟩:=bdS<|ifF hmb H;refine RX z (at_ (α:=UInt8) j_ z_5 z z z hf ev) ?_;rintro _ ⟨_,_,_,rfl,hw,hx,_⟩;obtain rfl:=u8 hx;refine R z (l0 g_5 z<|hw.at0 z)<|Rm z<|R z (nq z z)<|Wx z (fun I=>?_) (fun I=>?_)
  ·refine Wm z<|RM z z<|R z (add_ z z) ?_
   have hh:=lt_ h.s s1.s;obtain ⟨_,ey,hmz⟩:=bdS<|ifT hmc I;refine E z (fc call233 z<|e_W ey (zt' hBw hh) (iA _ _)<|ii z) ?_;rintro _ _ ⟨a0,a1,a2,rfl,a3,a4⟩;exact Ra z<|Rw z<|Wr<|rtO<|qL (som hmz).symm<|Y_ hr z z ⟨bup (bup h s1) a0,a1,a2,z,p3_0,a3,s_ a4 hh⟩
  exact Wk<|Wg<|R z (inc_ hka (lt_ (repS.len p2_4) A_) z z)<|Rm z<|Wl (fun _ q=>⟨(),(som<|ifF hmc I).symm,⟨q.k<|s6 z z z z z z,s1⟩⟩)
 ·rintro _ _ _ ⟨O,a5⟩;refine Wu ?_ O;refine Ws<|Rl z z z<|Wn<|Wq<|Wc z (fun hc=>(Q_ hc).elim) (fun _=>?_)
  exact We<|fun a' ha'=>⟨rfl,⟨Sat.weaken ha'<|s2 z z,a5⟩⟩
 ·rintro _ a6 _ rfl ⟨_,s5⟩;have V:=elL J;revert a6;refine Wo<|Wm z<|Rf z b_r z<|R z (l0 M_ z<|(L.e s5).at z)<|R z (lnR j_ z<|p2_4.g<|(h.ag B).e s5)<|R z (add_ z z)<|Ra z<|Rw z ?_
  obtain rfl:=som V;exact Wr<|Y_ hr z z ⟨bup h s5,.nilIface,([]:List Nat),z,iA _ _,e_A,an_⟩
 rintro _ _ _ _ rfl ⟨rfl,W⟩;have Y:=elR J;obtain rfl:=som Y;exact ⟨W,z⟩
def Q29 (w0:World)(B:Zone)(r:Val×Int×(Option<|Int×Int))(v:Value)(w':World):Prop:=Bw w0 w'/\un3 (fun h G V=>∃(H:Option Addr)(I J:Nat)(S1:List Nat)(a2:Option Addr)(L O:Nat)(S2:List Nat)(v3:Value)(S3:List Nat),v = .tuple #[(.agg #[vI h.number,sl H I J,sl a2 L O]),vI G,v3]/\inI h.number/\a_ w' S1 (sl H I J) h.bytes/\a_ w' S2 (sl a2 L O) h.items/\inI G/\a_I 226 w' S3 v3 V/\(∀k∈S3,w0.z<=k)/\(S1++S2).Nodup/\(∀k∈(S1++S2),w0.z<=k)) r
theorem W_w1m {x1:a_y}{b1 o1:Nat}{x2:Int}{x3:Int}{res:Val×Int×(Option<|Int×Int)}(hm:g_P x1 x2 x3=some res)(hBw:B<=w0.z)(p1_0:repS w0 B (sl A0 N0 C0) x1.d.rules)(p1_1:repS w0 B (sl A1 N1 C1) x1.b)(hC1:S_ w0 b1 o1 [sl A0 N0 C0,sl A1 N1 C1])(hC1b:B b1)(p2_0:inI x2)(p3_0:inI x3):h_ prog 226 [(.pointer<|some ⟨b1,o1,none⟩),vI x2,vI x3] w0 (Q29 w0 B res):=by
 unfold g_P at hm
 refine goF func226 z z (lb z) fun fn hr=>Ws<|E z (fa a_s) ?_
 rintro _ wk ⟨rfl,O⟩;have h:=O.below;have h2:Blk wk w0.z [vI 0,sl none 0 0,sl none 0 0]:=O.blk;refine Ra z<|Rw z<|Wm z<|RM z z ?_
 obtain ⟨_,_,el,L⟩:=a_k hm;refine E z (fc call262 z<|k_B el (zt' hBw h.s) (p1_0.e h) (p1_1.e h) (hC1.e h) hC1b p2_0 p3_0) ?_;rintro _ _ ⟨s1,_,_,_,vm,Sn,rfl,ho,ha,hb⟩;refine Rm z<|Re z z z<|Re z z z<|Ra z<|Rw z<|Wq<|Wm z<|R z (e_7 e_n z z ha)<|Wx z (fun G=>?_) (fun G=>?_)
 ·refine Ws<|R z (bP (parts:=[]) (cs:=[vI 0,sl none 0 0,sl none 0 0]) a_7 z z)<|RM z z<|E0 (fs (cur':=[vI 0,sl none 0 0,sl none 0 0]) k_ z z (h2.e s1) z (lb z) (oA z) z) ?_
  rintro _ _ ⟨hp,sq⟩;have hc:=sq.one;refine Ra z<|Rw z ?_
  obtain rfl:=som<|ifT L G;exact Wr<|y_ hr (p_ D_ k_ z hp z) z z ⟨bM (bup h s1) hc<|d_ lr,none,0,0,[],none,0,0,[],vm,Sn,z,ii z,onL,onL,p2_0,ha.c hc<|r_ hb h2.lt lr,s_ hb h.s,nd0,al0⟩
 refine Wk<|Ws<|E z (f0 (α:=UInt8) N_) ?_
 rintro _ _ ⟨_,_,_,rfl,s3,ht⟩;refine Rm z ?_;obtain ⟨_,er,hms⟩:=bdS<|ifF L G;refine E z (fN (α:=UInt8) N_ er z z ht a_0<|ho.e s3) ?_;rintro _ _ ⟨Sd,H,I,J,rfl,se,hu,hv,hf⟩;refine R z (bP (parts:=[(1,.tmp 25)]) (cs:=[vI 0,sl H I J,sl none 0 0]) a_7 z z)<|RM z z<|R z (add_ z z) ?_
 have hg:=mm1 h2.lt s1.s;refine E0 (fs (cur':=[vI 0,sl H I J,sl none 0 0]) k_ z z (((h2.e s1).e s3).c se<|djs hg) z (lb z) (oA z) z) ?_;rintro _ _ ⟨hw,sx⟩;have hh:=sx.one;refine Ra z<|Rw z ?_
 obtain rfl:=som hms;have hi:=lt_ h.s s1.s;have hj:=m1 hi;exact Wr<|y_ hr (p_ D_ k_ z hw z) z z ⟨bM (bM (bup (bup h s1) s3) se hj) hh<|d_ lr,H,I,J,Sd,none,0,0,[],.nilIface,([]:List Nat),z,ii z,hu.c hh (or1 hf hg (a_O (d_ h2.lt)<|lt_ s1.s s3.s):∀k∈Sd,k∉[w0.z]),onL,iA _ _,e_A,an_,na_ hv H_<|nmN _,aa_ (a_Y hf hj<|lt_ hi s3.s) an_⟩
theorem W_w1n {x1:List UInt8}{x2:Int}{x3:UInt8}{res:(List UInt8)×Int×Bool}(hm:g_N n x1 x2 x3=some res)(hBw:B<=w0.z)(p1_0:repS w0 B (sl A0 N0 C0) x1)(p2_0:inI x2):h_ prog 232 [sl A0 N0 C0,vI x2,vU<|byteI x3] w0 (Q18 w0 B res):=by
 unfold g_N at hm
 refine goF func232 z z (lb z) fun fn hr=>Ws<|RA z z<|Rw z<|Ws<|E z (f0 (α:=UInt8) N_) ?_
 rintro _ wg ⟨aj,nk,cl,rfl,s8,hv⟩;refine Rw z<|Wq<|Wq ?_
 obtain ⟨an,huw,hmx⟩:=bdS hm;refine Wt (fun a w=>∃(xm:Bool),xm=an/\Sat 58 [(0,sl A0 N0 C0),(1,vI x2),(2,vU<|byteI x3),(9,sl aj nk cl),(19,vB xm)] a/\Below wg.z wg w) ?_ ?_
 ·refine Wg<|Rm z<|Rl z z z<|Rm z ?_
  rcases bs (decide<|x2<0) with H | H
  ·iterate 4 refine Nh z H ?_
   exact R z (pT z H z)<|Wl (fun _ q=>⟨true,som<|ifT huw H,q.k<|s5 z z z z z,br wg⟩)
  exact Rh z H (mv z)<|Rh z H (mv z)<|Rh z H (lnR j_ z<|p1_0.e s8)<|Rh z H (Z_ z z)<|R z (pF z H z)<|Wl (fun _ q=>⟨decide<|(x1.length:Int)<x2,som<|ifF huw H,q.k<|s5 z z z z z,br wg⟩)
 rintro ao h ⟨xm,rfl,_,s6⟩;revert ao;refine Wo<|Wc z (fun hcn=>?_) (fun hcn=>?_)
 ·refine Wm z<|Rm z<|RA z z<|Rw z ?_
  obtain rfl:=som<|ifT hmx hcn;exact Wr<|y_ hr z z z ⟨bup s8 s6,aj,nk,cl,[w0.z],z,hv.e s6,p2_0,a_0,d_ lr⟩
 refine Wk<|Wq<|Wm z<|Rw z ?_
 obtain ⟨_,a9,hmy⟩:=bdS<|ifF hmx hcn;refine b_u (σ:=(List UInt8)×Int) (ρ:=(List UInt8)×Int×Bool) (fun s a w=>un2 (fun xb O=>∃I J L G,Sat 58 [(0,sl A0 N0 C0),(1,vI x2),(2,vU<|byteI x3),(9,sl I J L),(10,vI O)] a/\Chg (· ∈ [w0.z]) h w/\a_ w G (sl I J L) xb/\G.Nodup/\(∀k∈G,k∈[w0.z]∨h.z<=k)/\inI O) s) (fun s a w=>un2 (fun xb O=>∃I J L G,Sat 58 [(1,vI x2)] a/\Chg (· ∈ [w0.z]) h w/\a_ w G (sl I J L) xb/\G.Nodup/\(∀k∈G,k∈[w0.z]∨h.z<=k)/\inI O) s) (fun r ex a w=>ex = .ret/\w_ prog fn (Q18 w0 B r) a w) a9 ?_ ?_ ?_ ?_
 ·exact fun _ q=>⟨aj,nk,cl,[w0.z],q.k<|s5 z z z z z,cr [w0.z] h,hv.e s6,a_0,io sr,p2_0⟩
 ·rintro ⟨xb,O⟩ _ V _ ⟨I,J,L,G,aa,sa,hc,hd,he,ho⟩ ab;have hmz:=a_5 ab;refine Wu ?_ aa;refine Wq<|Wm z<|Rm z ?_
  have a2:=((s8.ag B).e s6).c sa<|f_ (or0 (d_ lr) (n_ hBw):∀k∈[w0.z],¬B k)
  have hh:=p1_0.g a2;refine R z (lnR j_ z hh)<|Rl z z z<|Wx z (fun hcp=>?_) (fun hcp=>?_)
  ·refine Wk<|Wq<|Wb<|Wq<|Wm z<|Rm z ?_
   obtain ⟨_,ap,W⟩:=bdS<|ifT hmz hcp;refine RX z (at_ (α:=UInt8) j_ z_5 z z z hh ap) ?_;rintro _ ⟨_,_,_,rfl,aq,ar,_⟩;obtain rfl:=u8 ar;refine R z (l0 g_5 z<|aq.at0 z)<|Rm z<|Rq z z z<|Wx z (fun hcq=>?_) (fun hcq=>?_)
   ·refine Wm z<|Rm z<|R z (add_ z z)<|RA z z<|Rw z ?_
    exact Wr<|rtO<|qL (som<|ifT W hcq).symm<|y_ hr z z z ⟨bM (bup s8 s6) sa<|d_ lr,I,J,L,G,z,hc,iA _ _,hd,(or1 he (d_ lr) (a_S<|lt_ s8.s s6.s):∀k∈G,w0.z<=k)⟩
   refine Wk<|Wq<|Wm z<|Rm z ?_
   obtain ⟨_,au,ad⟩:=bdS<|ifF W hcq;refine RX z (at_ (α:=UInt8) j_ z_5 z z z hh au) ?_;rintro _ ⟨_,_,_,rfl,av,aw,_⟩;obtain rfl:=u8 aw;refine R z (l0 g_5 z<|av.at0 z)<|Rq z z z<|Wn ?_
   obtain ⟨ax,Y,a0⟩:=bdS ad;refine Wt (fun a w=>∃(xf:Int),Sum.inl xf=ax/\Sat 58 [(0,sl A0 N0 C0),(1,vI x2),(2,vU<|byteI x3),(9,sl I J L),(10,vI xf)] a/\Below V.z V w/\inI xf) ?_ ?_
   ·refine Wc z (fun hcr=>?_)<|fun hcr=>?_
    ·have a1:=ifT Y hcr;refine Wm z<|R z (add_ z z)<|Rw z<|Wm z<|Rm z<|R z (lnR j_ z hh)<|Rq z z z<|Wx z (fun hcs=>?_) (fun hcs=>?_)
     ·obtain rfl:=som<|ifT a1 hcs;have ae:=elR a0;exact We<|exO z (fun a' ha'=>b_e (som ae).symm ⟨I,J,L,G,Sat.weaken ha'<|s1 z,(cM (cr [w0.z] h) sa (io sr):Chg (· ∈ [w0.z]) h V),hc,hd,(or1 he (io sr) (l_ lr):∀k∈G,k∈[w0.z]∨h.z<=k),iA _ _⟩)
     exact a_e<|fun _ q=>⟨b_ O 1,som<|ifF a1 hcs,q.k<|s5 z z z z z,br V,iA _ _⟩
    exact a_e<|fun _ q=>⟨O,som<|ifF Y hcr,q.k<|s5 z z z z z,br V,ho⟩
   rintro ay a4 ⟨xf,rfl,_,si,_⟩;have af:=elL a0;revert ay;refine Wo<|Wg<|RM z z<|Rm z ?_
   obtain ⟨az,aA,ah⟩:=bdS af;refine RX z (at_ (α:=UInt8) j_ z_5 z z z (p1_0.g<|a2.e si) aA) ?_;rintro _ ⟨_,_,_,rfl,aB,aC,_⟩;obtain rfl:=u8 aC;refine R z (l0 g_5 z<|aB.at0 z)<|E z (fS [(.tmp 53)] N_ z z z (a_z z) (lb z)<|lb z) ?_
   rintro _ a5 ⟨rfl,ht⟩;have hu:=ht.below;have aU:=b_E ht b_j;obtain ⟨aD,aE,ai⟩:=bdS ah;refine E z (b_d (α:=UInt8) N_ aE z z ((hc.e si).e hu) hd (ht.blk:Blk a5 a4.z [vU (byteI az)]) b_j an_ H_) ?_;rintro _ aF ⟨a6,aG,aH,aI,rfl,aJ,aK,aL,aM⟩;refine Rw z<|Wg<|Rm z<|R z (add_ z z)<|Ra z<|Wl ?_
   have a7:∀k∈G,k∈[w0.z]∨h.z<=k:=or1 he (io sr)<|l_ lr;exact fun _ q=>⟨(aD,b_ xf 1),(som ai).symm,⟨aG,aH,aI,a6,q.k<|s5 z z z z z,(cM (i_ (i_ (cM (cr [w0.z] h) sa (io sr):Chg (· ∈ [w0.z]) h V) si:Chg (· ∈ [w0.z]) h a4) hu:Chg (· ∈ [w0.z]) h a5) aJ a7:Chg (· ∈ [w0.z]) h aF),aK,aL,(or2 aM a7 an_ (l_<|lt_ (lt_ sa.s si.s) hu.s):∀k∈a6,k∈[w0.z]∨h.z<=k),iA _ _⟩⟩
  exact We<|fun a' ha'=>b_e (som<|ifF hmz hcp).symm ⟨I,J,L,G,Sat.weaken ha'<|s1 z,(cM (cr [w0.z] h) sa (io sr):Chg (· ∈ [w0.z]) h V),hc,hd,(or1 he (io sr) (l_ lr):∀k∈G,k∈[w0.z]∨h.z<=k),ho⟩
 ·rintro ⟨xb,O⟩ aN aO rfl ⟨I,J,L,G,_,a8,hc,hd,he,ho⟩;have ak:=elL hmy;revert aN;refine Wo<|Ws<|E z (f0 (α:=UInt8) N_) ?_
  rintro _ _ ⟨aP,aQ,aR,rfl,aS,aT⟩;refine Rm z<|RA z z<|Rw z ?_
  obtain rfl:=som<|a_5 ak;exact Wr<|y_ hr z z z ⟨bup (bM (bup s8 s6) a8<|d_ lr) aS,aP,aQ,aR,[aO.z],z,aT,p2_0,a_0,m1<|lt_ (lt_ s8.s s6.s) a8.s⟩
 rintro _ _ _ _ rfl ⟨rfl,al⟩;have am:=elR hmy;obtain rfl:=som am;exact ⟨al,z⟩
def Q30 (w0:World)(B:Zone)(S2_1:List Nat)(S2_2:List Nat)(r:Val×Int×(Option<|Int×Int))(v:Value)(w':World):Prop:=Chg (· ∈ (S2_1++S2_2)) w0 w'/\un3 (fun h G V=>∃(H:Option Addr)(I J:Nat)(S1:List Nat)(a2:Option Addr)(L O:Nat)(S2:List Nat)(v3:Value)(S3:List Nat),v = .tuple #[(.agg #[vI h.number,sl H I J,sl a2 L O]),vI G,v3]/\inI h.number/\a_ w' S1 (sl H I J) h.bytes/\a_ w' S2 (sl a2 L O) h.items/\inI G/\a_I 226 w' S3 v3 V/\(∀k∈S3,w0.z<=k)/\(S1++S2).Nodup/\(∀k∈(S1++S2),k∈(S2_1++S2_2)∨w0.z<=k)) r
structure m_C (f:a_y->Int->Int->Option (Val×Int×(Option<|Int×Int))):Prop where
  run:∀{A0 A1:Option Addr}{N0 C0 N1 C1 b1 o1:Nat}{B:Zone}{x1:a_y}{x2:Int}{x3:Int}{res:Val×Int×(Option<|Int×Int)}{w0:World}(hm:f x1 x2 x3=some res)(hBw:B<=w0.z)(p1_0:repS w0 B (sl A0 N0 C0) x1.d.rules)(p1_1:repS w0 B (sl A1 N1 C1) x1.b)(hC1:S_ w0 b1 o1 [sl A0 N0 C0,sl A1 N1 C1])(hC1b:B b1)(p2_0:inI x2)(p3_0:inI x3),h_ prog 191 [(.pointer<|some ⟨b1,o1,none⟩),vI x2,vI x3] w0<|Q29 w0 B res
structure m_D (f:a_y->g_->Int->Option (Val×Int×(Option<|Int×Int))):Prop where
  run:∀{A0 A1 A4 A5 A2 A6:Option Addr}{N0 C0 N1 C1 b1 o1 N4 C4 N5 C5 N2 C2 N6 C6:Nat}{B:Zone}{x1:a_y}{x2:g_}{x3:Int}{res:Val×Int×(Option<|Int×Int)}{w0:World}(hm:f x1 x2 x3=some res)(hBw:B<=w0.z)(p1_0:repS w0 B (sl A0 N0 C0) x1.d.rules)(p1_1:repS w0 B (sl A1 N1 C1) x1.b)(hC1:S_ w0 b1 o1 [sl A0 N0 C0,sl A1 N1 C1])(hC1b:B b1)(p2_0:x2.name.b.length<=LEN)(p2_1:inI x2.kind)(p2_2:inI x2.size)(p2_4:repS w0 B (sl A4 N4 C4) x2.bytes)(p2_5:repS w0 B (sl A5 N5 C5) x2.names)(p2_6:repS w0 B (sl A2 N2 C2) x2.tags)(p2_7:repS w0 B (sl A6 N6 C6) x2.kids)(p3_0:inI x3),h_ prog 227 [(.pointer<|some ⟨b1,o1,none⟩),.agg #[Str.v x2.name,vI x2.kind,vI x2.size,vB x2.little,sl A4 N4 C4,sl A5 N5 C5,sl A2 N2 C2,sl A6 N6 C6],vI x3] w0<|Q29 w0 B res
structure m_E (f:a_y->Val->(List Int)->Int->Option (Val×Int×(Option<|Int×Int))):Prop where
  run:∀{A0 A1 AC AG A7:Option Addr}{N0 C0 N1 C1 b1 o1 NC CC NG CG N7 C7:Nat}{S2_1 S2_2:List Nat}{B:Zone}{x1:a_y}{x2:Val}{x3:List Int}{x4:Int}{res:Val×Int×(Option<|Int×Int)}{w0:World}(hm:f x1 x2 x3 x4=some res)(hBw:B<=w0.z)(p1_0:repS w0 B (sl A0 N0 C0) x1.d.rules)(p1_1:repS w0 B (sl A1 N1 C1) x1.b)(hC1:S_ w0 b1 o1 [sl A0 N0 C0,sl A1 N1 C1])(hC1b:B b1)(p2_0:inI x2.number)(p2_1:a_ w0 S2_1 (sl AC NC CC) x2.bytes)(p2_1n:S2_1.Nodup)(p2_1g:∀k∈S2_1,¬B k)(p2_2:a_ w0 S2_2 (sl AG NG CG) x2.items)(p2_2n:S2_2.Nodup)(p2_2g:∀k∈S2_2,¬B k)(p2_2d1:∀k∈S2_2,k∉S2_1)(p3_0:repS w0 B (sl A7 N7 C7) x3)(p4_0:inI x4),h_ prog 228 [(.pointer<|some ⟨b1,o1,none⟩),.agg #[vI x2.number,sl AC NC CC,sl AG NG CG],sl A7 N7 C7,vI x4] w0<|Q30 w0 B S2_1 S2_2 res
end Go.Vw
