
import Derived.Test.YtajhmimbhplkfaaGreatDoorV1
import Derived.Test.YtajhmimbhplkfaaGreatDoorVs
import Derived.ScopeJumps
set_option linter.unusedVariables false
namespace Go.Vw
open Go.RowKit Dat Go.Proofs
open Go.Proofs.Tryz
open Go.Vw renaming a_i->Wq,a_H->Wg,WC.of_KC->Wo,a_l->Wl,c_b->Wc,c_L->Wr,g_2->Wu,j_u->pT,j_v->pF,h_j->fd,b_H->l1,j_H->lN,b_7->mv,c_S->asg,f_V->lnR,f_i->lss,h_n->eql,h_k->ext_,j_w->bP,h_l->add_,f_U->inc_,d_G->not_,f_W->at_,e_y->fc,a_X->fs,e_x->fb,d_D->fa,j_o->sr,j_s->cr,j_t->cM,c_n->bM,j_g->iS,j_f->iA,j_i->br,b_4->oA,j_k->bs,ltge->lg,inor->io,g_a->nq,j_J->lnT,j_K->sb_,j_m->ar_,j_l->al_,j_n->ds,k_J->m1,j_q->nr_,j_p->nl_,h_a->aa_,all_nil->an_,d_h->Wb,h_9->u8,j_d->pD,f_Q->We,j_h->Wt,f_S->fS,f_a->or_,j_F->Wf,j_B->qL,j_c->Wd,h_c->fN,h_b->na_,j_r->nj,e_z->f0,f_X->rX,j_x->tl_,j_y->ic
variable {A0:Option Addr}{N0 C0:Nat}{B:Zone}{w0:World}{A9:Option Addr}{A8:Option Addr}{AA:Option Addr}{AB:Option Addr}{N9 C9:Nat}{N8 C8:Nat}{NA CA:Nat}{NB CB:Nat}{A1:Option Addr}{N1 C1:Nat}{n:Nat}{AD:Option Addr}{ND CD:Nat}{A3:Option Addr}{N3 C3:Nat}{AH:Option Addr}{NH CH:Nat}{A4:Option Addr}{A5:Option Addr}{A2:Option Addr}{A6:Option Addr}{N4 C4:Nat}{N5 C5:Nat}{N2 C2:Nat}{N6 C6:Nat}{A7:Option Addr}{N7 C7:Nat}{AE:Option Addr}{NE CE:Nat}{AK:Option Addr}{AL:Option Addr}{NK CK:Nat}{NL CL:Nat}{AC:Option Addr}{NC CC:Nat}
def Q0 (w0:World)(B:Zone)(r:Int)(v:Value)(w':World):Prop:=Bw w0 w'/\(fun h=>(vI h)=v/\inI h) r
theorem W_w0w {x1:List UInt8}{x2:Int}{res:Int}(hm:h_K x1 x2=some res)(hBw:B<=w0.z)(p1_0:repS w0 B (sl A0 N0 C0) x1)(p2_0:inI x2):h_ prog 140 [sl A0 N0 C0,vI x2] w0 (Q0 w0 B res):=by
 unfold h_K at hm
 refine goF func140 z z (lb z) fun fn hr=>Ws<|Rw z<|Wm z<|Rm z<|R z (lnR j_ z p1_0)<|R z (sb_ z z)<|Rw z<|Wq<|Wm z<|Rl z z z<|Wx z (fun h=>?_) (fun h=>?_)
 ·refine Ws<|Rw z ?_
  obtain rfl:=som<|ifT hm h;exact Wr<|c_ hr z ⟨br w0,z,ii z⟩
 refine Wk<|Wm z<|Rw z ?_
 obtain rfl:=som<|ifF hm h;exact Wr<|c_ hr z ⟨br w0,z,iS _ _⟩
theorem W_w23 {x1:List Str}{x2:Int}{res:Int}(hm:h_L x1 x2=some res)(hBw:B<=w0.z)(p1_0:repS w0 B (sl A0 N0 C0) x1)(p2_0:inI x2):h_ prog 268 [sl A0 N0 C0,vI x2] w0 (Q0 w0 B res):=by
 unfold h_L at hm
 refine goF func268 z z (lb z) fun fn hr=>Ws<|Rw z<|Wm z<|Rm z<|R z (lnR G_ z p1_0)<|R z (sb_ z z)<|Rw z<|Wq<|Wm z<|Rl z z z<|Wx z (fun h=>?_) (fun h=>?_)
 ·refine Ws<|Rw z ?_
  obtain rfl:=som<|ifT hm h;exact Wr<|c_ hr z ⟨br w0,z,ii z⟩
 refine Wk<|Wq<|Ws<|Rw z ?_
 obtain ⟨_,hub,H⟩:=bdS<|ifF hm h;refine Wf (σ:=Int) (ρ:=Int) (fun (k6:Nat)(x0:Int) a w=>Sat 28 [(0,sl A0 N0 C0),(1,vI x0),(5,vI ((k6:Nat):Int))] a/\Below w0.z w0 w/\inI x0) (fun (x0:Int) a w=>Sat 28 [(1,vI x0)] a/\Below w0.z w0 w/\inI x0) (fun r ex a w=>ex = .ret/\w_ prog fn (Q0 w0 B r) a w) hub ?_ ?_ ?_ ?_ ?_
 ·exact fun _ q=>⟨q.k<|s3 z z z,br w0,iS _ _⟩
 ·rintro k6 x0 _ _ _ I ⟨hSc,s4,h1⟩ hmd;refine Wu ?_ hSc;refine Wq<|Wm z<|Rm z ?_
  have L:=p1_0.e s4;refine R z (lnR G_ z L)<|Rl z z z<|Wx z (fun _=>?_) (fun hc=>(P_ I hc).elim)
  refine Wk<|Wq<|Wb<|Wm z<|RM z z ?_
  obtain ⟨xe,ef,J⟩:=bdS hmd;refine RX z (at_ (α:=Str) G_ z_9 z z z L ef) ?_;rintro _ ⟨_,_,_,rfl,hg,hh,_⟩;obtain ⟨rfl,_⟩:=a_r hh;refine R z (l0 g_9 z<|hg.at0 z)<|R z (lnT d_9 z)<|R z (sb_ z z)<|Rw z<|Wm z<|Rl z z z<|Wx z (fun G=>?_) (fun G=>?_)
  ·exact Ws<|Rw z<|Wr<|rtO<|qL (som<|ifT J G).symm<|c_ hr z ⟨s4,z,ii z⟩
  exact Wk<|Wg<|Rm z<|R z (inc_ I (lt_ (repS.len p1_0) A_) z z)<|Ra z<|Wl (fun _ q=>⟨x_ x0 (xe.b.length:Int),(som<|ifF J G).symm,⟨q.k<|s3 z z z,s4,iS _ _⟩⟩)
 ·rintro x0 _ _ ⟨hSi,sa,h1⟩;refine Wu ?_ hSi;refine Wq<|Wm z<|Rm z<|R z (lnR G_ z<|p1_0.e sa)<|Rl z z z<|Wx z (fun hc=>(Q_ hc).elim) (fun _=>?_)
  exact We<|fun a' ha'=>⟨rfl,⟨Sat.weaken ha'<|s1 z,sa,h1⟩⟩
 ·rintro x0 aj _ rfl ⟨_,sk,h1⟩;have hml:=elL H;revert aj;refine Wo<|Wm z<|Rw z ?_
  obtain rfl:=som hml;exact Wr<|c_ hr z ⟨sk,z,h1⟩
 rintro _ _ _ _ rfl ⟨rfl,hqm⟩;have hmn:=elR H;obtain rfl:=som hmn;exact ⟨hqm,z⟩
theorem W_w0x {x1:List Int}{x2:Int}{res:Int}(hm:h_M x1 x2=some res)(hBw:B<=w0.z)(p1_0:repS w0 B (sl A0 N0 C0) x1)(p2_0:inI x2):h_ prog 269 [sl A0 N0 C0,vI x2] w0 (Q0 w0 B res):=by
 unfold h_M at hm
 refine goF func269 z z (lb z) fun fn hr=>Ws<|Rw z<|Wm z<|Rm z<|R z (lnR z_ z p1_0)<|R z (sb_ z z)<|Rw z<|Wq<|Wm z<|Rl z z z<|Wx z (fun h=>?_) (fun h=>?_)
 ·refine Ws<|Rw z ?_
  obtain rfl:=som<|ifT hm h;exact Wr<|c_ hr z ⟨br w0,z,ii z⟩
 refine Wk<|Wm z<|Rw z ?_
 obtain rfl:=som<|ifF hm h;exact Wr<|c_ hr z ⟨br w0,z,iS _ _⟩
theorem W_w24 {x1:g_}{x2:Int}{res:Int}(hm:g_w x1 x2=some res)(hBw:B<=w0.z)(p1_0:x1.name.b.length<=LEN)(p1_1:inI x1.kind)(p1_2:inI x1.size)(O:repS w0 B (sl A9 N9 C9) x1.bytes)(V:repS w0 B (sl A8 N8 C8) x1.names)(W:repS w0 B (sl AA NA CA) x1.tags)(Y:repS w0 B (sl AB NB CB) x1.kids)(p2_0:inI x2):h_ prog 253 [(.agg #[Str.v x1.name,vI x1.kind,vI x1.size,vB x1.little,sl A9 N9 C9,sl A8 N8 C8,sl AA NA CA,sl AB NB CB]),vI x2] w0 (Q0 w0 B res):=by
 unfold g_w at hm
 refine goF func253 z z (lb z) fun fn hr=>Ws<|E z (fb z) ?_
 rintro _ wl ⟨rfl,ha⟩;have h:=ha.below;have h4:Blk wl w0.z (vR x1 A9 N9 C9 A8 N8 C8 AA NA CA AB NB CB):=ha.blk;refine Rw z<|Wm z<|Rf z p_G z<|R z (l0 g_9 z<|h4.at z)<|R z (lnT d_9 z)<|R z (sb_ z z)<|Rw z<|Wq<|Wm z<|Rl z z z<|Wx z (fun G=>?_) (fun G=>?_)
 ·refine Ws<|Rw z ?_
  obtain rfl:=som<|ifT hm G;exact Wr<|c_ hr z ⟨h,z,ii z⟩
 refine Wk<|Ws<|Rf z p_H z<|R z (l0 M_ z<|h4.at z)<|Rm z ?_
 obtain ⟨_,en,hmb⟩:=bdS<|ifF hm G;refine E z (fc call140 z<|W_w0w en (zt' hBw h.s) (O.e h)<|iS _ _) ?_;rintro _ _ ⟨s1,rfl,ho⟩;refine Rw z<|Wq<|Wm z<|Rl z z z<|Wx z (fun H=>?_) (fun H=>?_)
 ·refine Ws<|Rw z ?_
  obtain rfl:=som<|ifT hmb H;exact Wr<|c_ hr z ⟨bup h s1,z,ii z⟩
 refine Wk<|Ws<|Rf z p_I z ?_
 have hc:=h4.e s1;refine R z (l0 a_J z<|hc.at z)<|Rm z ?_
 have hd:=(h.ag B).e s1;have he:=lt_ h.s s1.s;obtain ⟨_,ep,hmf⟩:=bdS<|ifF hmb H;refine E z (fc call268 z<|W_w23 ep (zt' hBw he) (V.g hd) ho) ?_;rintro _ _ ⟨s2,rfl,hq⟩;refine Rw z<|Wq<|Wm z<|Rl z z z<|Wx z (fun I=>?_) (fun I=>?_)
 ·refine Ws<|Rw z ?_
  obtain rfl:=som<|ifT hmf I;exact Wr<|c_ hr z ⟨bup (bup h s1) s2,z,ii z⟩
 refine Wk<|Ws<|Rf z p_J z ?_
 have hg:=hc.e s2;refine R z (l0 I_ z<|hg.at z)<|Rm z ?_
 have hh:=hd.e s2;have hi:=lt_ he s2.s;obtain ⟨_,er,hmj⟩:=bdS<|ifF hmf I;refine E z (fc call269 z<|W_w0x er (zt' hBw hi) (W.g hh) hq) ?_;rintro _ _ ⟨s3,rfl,ht⟩;refine Rw z<|Wq<|Wm z<|Rl z z z<|Wx z (fun J=>?_) (fun J=>?_)
 ·refine Ws<|Rw z ?_
  obtain rfl:=som<|ifT hmj J;exact Wr<|c_ hr z ⟨bup (bup (bup h s1) s2) s3,z,ii z⟩
 refine Wk<|Ws<|Rf z p_K z<|R z (l0 I_ z<|(hg.e s3).at z)<|Rm z ?_
 obtain ⟨_,es,hmk⟩:=bdS<|ifF hmj J;refine E z (fc call269 z<|W_w0x es (zt' hBw<|lt_ hi s3.s) (Y.g<|hh.e s3) ht) ?_;rintro _ _ ⟨sm,rfl,hu⟩;refine Rw z<|Wq<|Wm z<|Rl z z z<|Wx z (fun L=>?_) (fun L=>?_)
 ·refine Ws<|Rw z ?_
  obtain rfl:=som<|ifT hmk L;exact Wr<|c_ hr z ⟨bup (bup (bup (bup h s1) s2) s3) sm,z,ii z⟩
 refine Wk<|Wm z<|Rw z ?_
 obtain rfl:=som<|ifF hmk L;exact Wr<|c_ hr z ⟨bup (bup (bup (bup h s1) s2) s3) sm,z,hu⟩
theorem W_w25 {x1:List g_}{x2:Int}{res:Int}(hm:k_L x1 x2=some res)(hBw:B<=w0.z)(p1_0:repS w0 B (sl A0 N0 C0) x1)(p2_0:inI x2):h_ prog 210 [sl A0 N0 C0,vI x2] w0 (Q0 w0 B res):=by
 unfold k_L at hm
 refine goF func210 z z (lb z) fun fn hr=>Ws<|Rw z<|Wm z<|Rm z<|R z (lnR e_U z p1_0)<|R z (sb_ z z)<|Rw z<|Wq<|Wm z<|Rl z z z<|Wx z (fun h=>?_) (fun h=>?_)
 ·refine Ws<|Rw z ?_
  obtain rfl:=som<|ifT hm h;exact Wr<|c_ hr z ⟨br w0,z,ii z⟩
 refine Wk<|Wq<|Ws<|Rw z ?_
 obtain ⟨_,huc,H⟩:=bdS<|ifF hm h;refine Wf (σ:=Int) (ρ:=Int) (fun (k6:Nat)(x0:Int) a w=>Sat 27 [(0,sl A0 N0 C0),(1,vI x0),(5,vI ((k6:Nat):Int))] a/\Below w0.z w0 w/\inI x0) (fun (x0:Int) a w=>Sat 27 [(1,vI x0)] a/\Below w0.z w0 w/\inI x0) (fun r ex a w=>ex = .ret/\w_ prog fn (Q0 w0 B r) a w) huc ?_ ?_ ?_ ?_ ?_
 ·exact fun _ q=>⟨q.k<|s3 z z z,br w0,iS _ _⟩
 ·rintro k6 x0 _ _ _ I ⟨hSd,s2,h1⟩ hme;refine Wu ?_ hSd;refine Wq<|Wm z<|Rm z ?_
  have L:=p1_0.e s2;refine R z (lnR e_U z L)<|Rl z z z<|Wx z (fun _=>?_) (fun hc=>(P_ I hc).elim)
  refine Wk<|Wq<|Wb<|Wm z<|Rm z ?_
  obtain ⟨xf,eg,hmh⟩:=bdS hme;refine RX z (at_ (α:=g_) e_U k_r z z z L eg) ?_;rintro _ ⟨_,_,_,rfl,hi,hj,_⟩;obtain ⟨ak,nl,cm,an,no,cp,aq,nr,cs,au,nt,cv,rfl,hw,hx,hy,hz,a0,a1,a2⟩:=a_N hj;refine R z (lN (vs:=vR xf ak nl cm an no cp aq nr cs au nt cv) g_285 k_r z z fid hi)<|Rm z ?_
  obtain ⟨a3,a4,J⟩:=bdS hmh;refine E z (fc call253 z<|W_w24 a4 (zt' hBw s2.s) hw hx hy hz a0 a1 a2 h1) ?_;rintro _ _ ⟨sa,rfl,a5⟩;refine Rw z<|Wm z<|Rl z z z<|Wx z (fun G=>?_) (fun G=>?_)
  ·exact Ws<|Rw z<|Wr<|rtO<|qL (som<|ifT J G).symm<|c_ hr z ⟨bup s2 sa,z,ii z⟩
  exact Wk<|Wg<|Rm z<|R z (inc_ I (lt_ (repS.len p1_0) A_) z z)<|Ra z<|Wl (fun _ q=>⟨a3,(som<|ifF J G).symm,⟨q.k<|s3 z z z,bup s2 sa,a5⟩⟩)
 ·rintro x0 _ _ ⟨O,sb,h1⟩;refine Wu ?_ O;refine Wq<|Wm z<|Rm z<|R z (lnR e_U z<|p1_0.e sb)<|Rl z z z<|Wx z (fun hc=>(Q_ hc).elim) (fun _=>?_)
  exact We<|fun a' ha'=>⟨rfl,⟨Sat.weaken ha'<|s1 z,sb,h1⟩⟩
 ·rintro x0 a6 _ rfl ⟨_,a7,h1⟩;have V:=elL H;revert a6;refine Wo<|Wm z<|Rw z ?_
  obtain rfl:=som V;exact Wr<|c_ hr z ⟨a7,z,h1⟩
 rintro _ _ _ _ rfl ⟨rfl,W⟩;have Y:=elR H;obtain rfl:=som Y;exact ⟨W,z⟩
theorem W_w26 {x1:e_}{x2:Int}{res:Int}(hm:g_x x1 x2=some res)(hBw:B<=w0.z)(p1_0:repS w0 B (sl A0 N0 C0) x1.rules)(p2_0:inI x2):h_ prog 177 [(.agg #[sl A0 N0 C0]),vI x2] w0 (Q0 w0 B res):=by
 unfold g_x at hm
 refine goF func177 z z (lb z) fun fn hr=>Ws<|E z (fb z) ?_
 rintro _ I ⟨rfl,h2⟩;have h:=h2.below;refine Rw z<|Ws<|Rf z p_D z<|R z (l0 g_206 z<|(h2.blk:Blk I w0.z [sl A0 N0 C0]).at z)<|Rm z ?_
 obtain ⟨_,J,H⟩:=bdS hm;refine E z (fc call210 z<|W_w25 J (zt' hBw h.s) (p1_0.e h) p2_0) ?_;rintro _ _ ⟨s4,rfl,L⟩;refine Rw z<|Wq<|Wm z<|Rl z z z<|Wx z (fun G=>?_) (fun G=>?_)
 ·refine Ws<|Rw z ?_
  obtain rfl:=som<|ifT H G;exact Wr<|c_ hr z ⟨bup h s4,z,ii z⟩
 refine Wk<|Wm z<|Rw z ?_
 obtain rfl:=som<|ifF H G;exact Wr<|c_ hr z ⟨bup h s4,z,L⟩
theorem W_w27 {x1:List e_}{x2:Int}{res:Int}(hm:i_L x1 x2=some res)(hBw:B<=w0.z)(p1_0:repS w0 B (sl A0 N0 C0) x1)(p2_0:inI x2):h_ prog 139 [sl A0 N0 C0,vI x2] w0 (Q0 w0 B res):=by
 unfold i_L at hm
 refine goF func139 z z (lb z) fun fn hr=>Ws<|Rw z<|Wm z<|Rm z<|R z (lnR e_V z p1_0)<|R z (sb_ z z)<|Rw z<|Wq<|Wm z<|Rl z z z<|Wx z (fun h=>?_) (fun h=>?_)
 ·refine Ws<|Rw z ?_
  obtain rfl:=som<|ifT hm h;exact Wr<|c_ hr z ⟨br w0,z,ii z⟩
 refine Wk<|Wq<|Ws<|Rw z ?_
 obtain ⟨_,huc,H⟩:=bdS<|ifF hm h;refine Wf (σ:=Int) (ρ:=Int) (fun (k6:Nat)(x0:Int) a w=>Sat 27 [(0,sl A0 N0 C0),(1,vI x0),(5,vI ((k6:Nat):Int))] a/\Below w0.z w0 w/\inI x0) (fun (x0:Int) a w=>Sat 27 [(1,vI x0)] a/\Below w0.z w0 w/\inI x0) (fun r ex a w=>ex = .ret/\w_ prog fn (Q0 w0 B r) a w) huc ?_ ?_ ?_ ?_ ?_
 ·exact fun _ q=>⟨q.k<|s3 z z z,br w0,iS _ _⟩
 ·rintro k6 x0 _ _ _ I ⟨hSd,s2,h1⟩ hme;refine Wu ?_ hSd;refine Wq<|Wm z<|Rm z ?_
  have L:=p1_0.e s2;refine R z (lnR e_V z L)<|Rl z z z<|Wx z (fun _=>?_) (fun hc=>(P_ I hc).elim)
  refine Wk<|Wq<|Wb<|Wm z<|Rm z ?_
  obtain ⟨_,ef,hmg⟩:=bdS hme;refine RX z (at_ (α:=e_) e_V k_q z z z L ef) ?_;rintro _ ⟨_,_,_,rfl,hh,hi,_⟩;obtain ⟨aj,nk,cl,rfl,hn⟩:=d_B hi;refine R z (lN (vs:=[sl aj nk cl]) g_208 k_q z z fid hh)<|Rm z ?_
  obtain ⟨rm,eo,J⟩:=bdS hmg;refine E z (fc call177 z<|W_w26 eo (zt' hBw s2.s) hn h1) ?_;rintro _ _ ⟨sa,rfl,hp⟩;refine Rw z<|Wm z<|Rl z z z<|Wx z (fun G=>?_) (fun G=>?_)
  ·exact Ws<|Rw z<|Wr<|rtO<|qL (som<|ifT J G).symm<|c_ hr z ⟨bup s2 sa,z,ii z⟩
  exact Wk<|Wg<|Rm z<|R z (inc_ I (lt_ (repS.len p1_0) A_) z z)<|Ra z<|Wl (fun _ q=>⟨rm,(som<|ifF J G).symm,⟨q.k<|s3 z z z,bup s2 sa,hp⟩⟩)
 ·rintro x0 _ _ ⟨hSq,sb,h1⟩;refine Wu ?_ hSq;refine Wq<|Wm z<|Rm z<|R z (lnR e_V z<|p1_0.e sb)<|Rl z z z<|Wx z (fun hc=>(Q_ hc).elim) (fun _=>?_)
  exact We<|fun a' ha'=>⟨rfl,⟨Sat.weaken ha'<|s1 z,sb,h1⟩⟩
 ·rintro x0 ar _ rfl ⟨_,ss,h1⟩;have hmt:=elL H;revert ar;refine Wo<|Wm z<|Rw z ?_
  obtain rfl:=som hmt;exact Wr<|c_ hr z ⟨ss,z,h1⟩
 rintro _ _ _ _ rfl ⟨rfl,hqu⟩;have hmv:=elR H;obtain rfl:=som hmv;exact ⟨hqu,z⟩
theorem W_w28 {x1:a_j}{x2:Int}{res:Int}(hm:k_X x1 x2=some res)(hBw:B<=w0.z)(p1_0:repS w0 B (sl A0 N0 C0) x1.versions)(p2_0:inI x2):h_ prog 77 [(.agg #[sl A0 N0 C0]),vI x2] w0 (Q0 w0 B res):=by
 unfold k_X at hm
 refine goF func77 z z (lb z) fun fn hr=>Ws<|E z (fb z) ?_
 rintro _ I ⟨rfl,h2⟩;have h:=h2.below;refine Rw z<|Ws<|Rf z p_N z<|R z (l0 g_56 z<|(h2.blk:Blk I w0.z [sl A0 N0 C0]).at z)<|Rm z ?_
 obtain ⟨_,J,H⟩:=bdS hm;refine E z (fc call139 z<|W_w27 J (zt' hBw h.s) (p1_0.e h) p2_0) ?_;rintro _ _ ⟨s4,rfl,L⟩;refine Rw z<|Wq<|Wm z<|Rl z z z<|Wx z (fun G=>?_) (fun G=>?_)
 ·refine Ws<|Rw z ?_
  obtain rfl:=som<|ifT H G;exact Wr<|c_ hr z ⟨bup h s4,z,ii z⟩
 refine Wk<|Wm z<|Rw z ?_
 obtain rfl:=som<|ifF H G;exact Wr<|c_ hr z ⟨bup h s4,z,L⟩
theorem W_w29 {x1:Log}{x2:Int}{res:Int}(hm:k_Y x1 x2=some res)(hBw:B<=w0.z)(p1_0:repS w0 B (sl A0 N0 C0) x1.bytes)(p1_1:inI x1.stored)(p2_0:inI x2):h_ prog 78 [(.agg #[sl A0 N0 C0,vI x1.stored]),vI x2] w0 (Q0 w0 B res):=by
 unfold k_Y at hm
 refine goF func78 z z (lb z) fun fn hr=>Ws<|E z (fb z) ?_
 rintro _ I ⟨rfl,h2⟩;have h:=h2.below;refine Rw z<|Ws<|Rf z p_O z<|R z (l0 M_ z<|(h2.blk:Blk I w0.z [sl A0 N0 C0,vI x1.stored]).at z)<|Rm z ?_
 obtain ⟨_,J,H⟩:=bdS hm;refine E z (fc call140 z<|W_w0w J (zt' hBw h.s) (p1_0.e h) p2_0) ?_;rintro _ _ ⟨s4,rfl,L⟩;refine Rw z<|Wq<|Wm z<|Rl z z z<|Wx z (fun G=>?_) (fun G=>?_)
 ·refine Ws<|Rw z ?_
  obtain rfl:=som<|ifT H G;exact Wr<|c_ hr z ⟨bup h s4,z,ii z⟩
 refine Wk<|Wm z<|Rw z ?_
 obtain rfl:=som<|ifF H G;exact Wr<|c_ hr z ⟨bup h s4,z,L⟩
theorem W_w2a {x1:L_}{x2:Int}{res:Int}(hm:i_M x1 x2=some res)(hBw:B<=w0.z)(p1_0:repS w0 B (sl A0 N0 C0) x1.registry.versions)(p1_1:repS w0 B (sl A1 N1 C1) x1.log.bytes)(p1_2:inI x1.log.stored)(p2_0:inI x2):h_ prog 24 [(.agg #[sl A0 N0 C0,sl A1 N1 C1,vI x1.log.stored]),vI x2] w0 (Q0 w0 B res):=by
 unfold i_M at hm
 refine goF func24 z z (lb z) fun fn hr=>Ws<|E z (fb z) ?_
 rintro _ L ⟨rfl,h4⟩;have h:=h4.below;have h5:Blk L w0.z [sl A0 N0 C0,sl A1 N1 C1,vI x1.log.stored]:=h4.blk;refine Rw z<|Ws<|Rf z p_P z<|R z (lN (vs:=[sl A0 N0 C0]) g_58 z_58 z z fid<|h5.row 0 1 z)<|Rm z ?_
 obtain ⟨_,ea,I⟩:=bdS hm;refine E z (fc call77 z<|W_w28 (B:=B) (x1:=(⟨x1.registry.versions⟩:a_j)) ea (zt' hBw h.s) (p1_0.e h) p2_0) ?_;rintro _ _ ⟨s1,rfl,hb⟩;refine Rw z<|Wq<|Wm z<|Rl z z z<|Wx z (fun G=>?_) (fun G=>?_)
 ·refine Ws<|Rw z ?_
  obtain rfl:=som<|ifT I G;exact Wr<|c_ hr z ⟨bup h s1,z,ii z⟩
 refine Wk<|Ws<|Rf z p_Q z<|R z (lN (vs:=[sl A1 N1 C1,vI x1.log.stored]) g_60 z_60 z z fid<|(h5.e s1).row 1 2 z)<|Rm z ?_
 obtain ⟨_,ec,J⟩:=bdS<|ifF I G;refine E z (fc call78 z<|W_w29 (B:=B) (x1:=(⟨x1.log.bytes,x1.log.stored⟩:Log)) ec (zt' hBw<|lt_ h.s s1.s) (p1_1.g<|(h.ag B).e s1) p1_2 hb) ?_;rintro _ _ ⟨s8,rfl,hd⟩;refine Rw z<|Wq<|Wm z<|Rl z z z<|Wx z (fun H=>?_) (fun H=>?_)
 ·refine Ws<|Rw z ?_
  obtain rfl:=som<|ifT J H;exact Wr<|c_ hr z ⟨bup (bup h s1) s8,z,ii z⟩
 refine Wk<|Wm z<|Rw z ?_
 obtain rfl:=som<|ifF J H;exact Wr<|c_ hr z ⟨bup (bup h s1) s8,z,hd⟩
def Q1 (w0:World)(B:Zone)(r:(List UInt8))(v:Value)(w':World):Prop:=Bw w0 w'/\(fun I=>∃h G H S1,(sl h G H)=v/\a_ w' S1 (sl h G H) I/\S1.Nodup/\(∀k∈S1,w0.z<=k)) r
theorem W_w0y {x1:List UInt8}{res:(List UInt8)}(hm:g_y x1=some res)(hBw:B<=w0.z)(p1_0:repS w0 B (sl A0 N0 C0) x1):h_ prog 147 [sl A0 N0 C0] w0 (Q1 w0 B res):=by
 unfold g_y at hm
 refine goF func147 z z (lb z) fun fn hr=>Ws<|Rw z<|Wm z<|R z (lnR j_ z p1_0) ?_
 obtain ⟨_,ej,hmk⟩:=bdS hm;refine E z (d_j (α:=UInt8) N_ (fun _=>n_f) ej z z) ?_;rintro _ G ⟨H,I,J,rfl,s9,hl⟩;refine Rw z<|Wq<|Ws<|Rw z ?_
 obtain ⟨_,hum,hmb⟩:=bdS hmk;refine Wf (σ:=List UInt8) (ρ:=List UInt8) (fun (kc:Nat)(x2:List UInt8) a w=>∃(h:List Nat),Sat 22 [(0,sl A0 N0 C0),(3,sl H I J),(4,vI ((kc:Nat):Int))] a/\Chg (· ∈ [w0.z]) G w/\a_ w h (sl H I J) x2/\h.Nodup/\(∀k∈h,k∈[w0.z]∨G.z<=k)) (fun (x2:List UInt8) a w=>∃(h:List Nat),Sat 22 [(3,sl H I J)] a/\Chg (· ∈ [w0.z]) G w/\a_ w h (sl H I J) x2/\h.Nodup/\(∀k∈h,k∈[w0.z]∨G.z<=k)) (fun r ex a w=>ex = .ret/\w_ prog fn (Q1 w0 B r) a w) hum ?_ ?_ ?_ ?_ ?_
 ·exact fun _ q=>⟨[w0.z],q.k<|s3 z z z,cr [w0.z] G,hl,a_0,io sr⟩
 ·rintro kc x2 _ wn _ hkd ⟨h,hSo,sa,h3,L,O⟩ hmp;refine Wu ?_ hSo;refine Wq<|Wm z<|Rm z ?_
  have he:=p1_0.g<|(s9.ag B).c sa<|f_ (or0 (d_ lr) (n_ hBw):∀k∈[w0.z],¬B k)
  refine R z (lnR j_ z he)<|Rl z z z<|Wx z (fun _=>?_) (fun hc=>(P_ hkd hc).elim)
  refine Wk<|Wq<|Wb<|Wg<|RM z z<|RM z z ?_
  obtain ⟨_,er,hms⟩:=bdS hmp;refine RX z (at_ (α:=UInt8) j_ z_5 z z z he er) ?_;rintro _ ⟨_,_,_,rfl,ht,hu,_⟩;obtain rfl:=u8 hu;refine R z (l0 g_5 z<|ht.at0 z) ?_;obtain ⟨xv,ef,hmw⟩:=bdS hms;refine RX z (b_t (α:=UInt8) j_ z_5 z z h3 ef) ?_;rintro _ ⟨_,hx,rfl⟩;refine E0 (b_k (α:=UInt8) z_5 z hx z z z ef h3 L b_j an_ H_) ?_;rintro _ wy ⟨Sg,sz,a1,a2,a3⟩;refine Wn<|Wg<|Rm z<|R z (inc_ hkd (lt_ (repS.len p1_0) A_) z z)<|Ra z<|Wl ?_
  have hh:∀k∈h,k∈[w0.z]∨G.z<=k:=or1 O (io sr)<|l_ lr;exact fun _ q=>⟨xv,(som hmw).symm,⟨Sg,q.k<|s3 z z z,(cM (cM (cr [w0.z] G) sa (io sr):Chg (· ∈ [w0.z]) G wn) sz hh:Chg (· ∈ [w0.z]) G wy),a1,a2,(or2 a3 hh an_ (l_ sa.s):∀k∈Sg,k∈[w0.z]∨G.z<=k)⟩⟩
 ·rintro x2 _ a5 ⟨h,V,si,h3,L,O⟩;refine Wu ?_ V;refine Wq<|Wm z<|Rm z ?_
  refine R z (lnR j_ z<|p1_0.g<|(s9.ag B).c si<|f_ (or0 (d_ lr) (n_ hBw):∀k∈[w0.z],¬B k))<|Rl z z z<|Wx z (fun hc=>(Q_ hc).elim) (fun _=>?_)
  exact We<|fun a' ha'=>⟨rfl,⟨h,Sat.weaken ha'<|s1 z,(cM (cr [w0.z] G) si (io sr):Chg (· ∈ [w0.z]) G a5),h3,L,(or1 O (io sr) (l_ lr):∀k∈h,k∈[w0.z]∨G.z<=k)⟩⟩
 ·rintro x2 a6 _ rfl ⟨h,_,a7,h3,L,O⟩;have W:=elL hmb;revert a6;refine Wo<|Wm z<|Rw z ?_
  obtain rfl:=som W;exact Wr<|c_ hr z ⟨bM s9 a7<|d_ lr,H,I,J,h,z,h3,L,(or1 O (d_ lr) (a_S s9.s):∀k∈h,w0.z<=k)⟩
 rintro _ _ _ _ rfl ⟨rfl,Y⟩;have a0:=elR hmb;obtain rfl:=som a0;exact ⟨Y,z⟩
def Q2 (w0:World)(B:Zone)(r:(List Str))(v:Value)(w':World):Prop:=Bw w0 w'/\(fun I=>∃h G H S1,(sl h G H)=v/\a_ w' S1 (sl h G H) I/\S1.Nodup/\(∀k∈S1,w0.z<=k)) r
theorem W_w2b {x1:List Str}{res:(List Str)}(hm:h_N x1=some res)(hBw:B<=w0.z)(p1_0:repS w0 B (sl A0 N0 C0) x1):h_ prog 271 [sl A0 N0 C0] w0 (Q2 w0 B res):=by
 unfold h_N at hm
 refine goF func271 z z (lb z) fun fn hr=>Ws<|Rw z<|Wm z<|R z (lnR G_ z p1_0) ?_
 obtain ⟨_,ej,hmk⟩:=bdS hm;refine E z (d_j (α:=Str) b_q (fun _=>c_y<|lb z) ej z z) ?_;rintro _ G ⟨H,I,J,rfl,s9,hl⟩;refine Rw z<|Wq<|Ws<|Rw z ?_
 obtain ⟨_,hum,hmb⟩:=bdS hmk;refine Wf (σ:=List Str) (ρ:=List Str) (fun (kc:Nat)(x2:List Str) a w=>∃(h:List Nat),Sat 22 [(0,sl A0 N0 C0),(3,sl H I J),(4,vI ((kc:Nat):Int))] a/\Chg (· ∈ [w0.z]) G w/\a_ w h (sl H I J) x2/\h.Nodup/\(∀k∈h,k∈[w0.z]∨G.z<=k)) (fun (x2:List Str) a w=>∃(h:List Nat),Sat 22 [(3,sl H I J)] a/\Chg (· ∈ [w0.z]) G w/\a_ w h (sl H I J) x2/\h.Nodup/\(∀k∈h,k∈[w0.z]∨G.z<=k)) (fun r ex a w=>ex = .ret/\w_ prog fn (Q2 w0 B r) a w) hum ?_ ?_ ?_ ?_ ?_
 ·exact fun _ q=>⟨[w0.z],q.k<|s3 z z z,cr [w0.z] G,hl,a_0,io sr⟩
 ·rintro kc x2 _ wn _ hkd ⟨h,hSo,sa,h3,L,O⟩ hmp;refine Wu ?_ hSo;refine Wq<|Wm z<|Rm z ?_
  have he:=p1_0.g<|(s9.ag B).c sa<|f_ (or0 (d_ lr) (n_ hBw):∀k∈[w0.z],¬B k)
  refine R z (lnR G_ z he)<|Rl z z z<|Wx z (fun _=>?_) (fun hc=>(P_ hkd hc).elim)
  refine Wk<|Wq<|Wb<|Wg<|RM z z<|RM z z ?_
  obtain ⟨_,er,hms⟩:=bdS hmp;refine RX z (at_ (α:=Str) G_ z_9 z z z he er) ?_;rintro _ ⟨_,_,_,rfl,ht,hu,_⟩;obtain ⟨rfl,hv⟩:=a_r hu;refine R z (l0 g_9 z<|ht.at0 z) ?_;obtain ⟨xw,ef,hmx⟩:=bdS hms;refine RX z (b_t (α:=Str) G_ z_9 z z h3 ef) ?_;rintro _ ⟨_,hy,rfl⟩;refine E0 (b_k (α:=Str) z_9 z hy z z z ef h3 L (c_y hv) an_ H_) ?_;rintro _ wz ⟨Sg,a1,a2,a3,a5⟩;refine Wn<|Wg<|Rm z<|R z (inc_ hkd (lt_ (repS.len p1_0) A_) z z)<|Ra z<|Wl ?_
  have hh:∀k∈h,k∈[w0.z]∨G.z<=k:=or1 O (io sr)<|l_ lr;exact fun _ q=>⟨xw,(som hmx).symm,⟨Sg,q.k<|s3 z z z,(cM (cM (cr [w0.z] G) sa (io sr):Chg (· ∈ [w0.z]) G wn) a1 hh:Chg (· ∈ [w0.z]) G wz),a2,a3,(or2 a5 hh an_ (l_ sa.s):∀k∈Sg,k∈[w0.z]∨G.z<=k)⟩⟩
 ·rintro x2 _ a6 ⟨h,V,si,h3,L,O⟩;refine Wu ?_ V;refine Wq<|Wm z<|Rm z ?_
  refine R z (lnR G_ z<|p1_0.g<|(s9.ag B).c si<|f_ (or0 (d_ lr) (n_ hBw):∀k∈[w0.z],¬B k))<|Rl z z z<|Wx z (fun hc=>(Q_ hc).elim) (fun _=>?_)
  exact We<|fun a' ha'=>⟨rfl,⟨h,Sat.weaken ha'<|s1 z,(cM (cr [w0.z] G) si (io sr):Chg (· ∈ [w0.z]) G a6),h3,L,(or1 O (io sr) (l_ lr):∀k∈h,k∈[w0.z]∨G.z<=k)⟩⟩
 ·rintro x2 a7 _ rfl ⟨h,_,a8,h3,L,O⟩;have W:=elL hmb;revert a7;refine Wo<|Wm z<|Rw z ?_
  obtain rfl:=som W;exact Wr<|c_ hr z ⟨bM s9 a8<|d_ lr,H,I,J,h,z,h3,L,(or1 O (d_ lr) (a_S s9.s):∀k∈h,w0.z<=k)⟩
 rintro _ _ _ _ rfl ⟨rfl,Y⟩;have a0:=elR hmb;obtain rfl:=som a0;exact ⟨Y,z⟩
def Q3 (w0:World)(B:Zone)(r:(List Int))(v:Value)(w':World):Prop:=Bw w0 w'/\(fun I=>∃h G H S1,(sl h G H)=v/\a_ w' S1 (sl h G H) I/\S1.Nodup/\(∀k∈S1,w0.z<=k)) r
theorem W_w0z {x1:List Int}{res:(List Int)}(hm:g_z x1=some res)(hBw:B<=w0.z)(p1_0:repS w0 B (sl A0 N0 C0) x1):h_ prog 272 [sl A0 N0 C0] w0 (Q3 w0 B res):=by
 unfold g_z at hm
 refine goF func272 z z (lb z) fun fn hr=>Ws<|Rw z<|Wm z<|R z (lnR z_ z p1_0) ?_
 obtain ⟨_,ej,hmk⟩:=bdS hm;refine E z (d_j (α:=Int) m_d (fun _=>c_N<|ii z) ej z z) ?_;rintro _ G ⟨H,I,J,rfl,s9,hl⟩;refine Rw z<|Wq<|Ws<|Rw z ?_
 obtain ⟨_,hum,hmb⟩:=bdS hmk;refine Wf (σ:=List Int) (ρ:=List Int) (fun (kc:Nat)(x2:List Int) a w=>∃(h:List Nat),Sat 22 [(0,sl A0 N0 C0),(3,sl H I J),(4,vI ((kc:Nat):Int))] a/\Chg (· ∈ [w0.z]) G w/\a_ w h (sl H I J) x2/\h.Nodup/\(∀k∈h,k∈[w0.z]∨G.z<=k)) (fun (x2:List Int) a w=>∃(h:List Nat),Sat 22 [(3,sl H I J)] a/\Chg (· ∈ [w0.z]) G w/\a_ w h (sl H I J) x2/\h.Nodup/\(∀k∈h,k∈[w0.z]∨G.z<=k)) (fun r ex a w=>ex = .ret/\w_ prog fn (Q3 w0 B r) a w) hum ?_ ?_ ?_ ?_ ?_
 ·exact fun _ q=>⟨[w0.z],q.k<|s3 z z z,cr [w0.z] G,hl,a_0,io sr⟩
 ·rintro kc x2 _ wn _ hkd ⟨h,hSo,sa,h3,L,O⟩ hmp;refine Wu ?_ hSo;refine Wq<|Wm z<|Rm z ?_
  have he:=p1_0.g<|(s9.ag B).c sa<|f_ (or0 (d_ lr) (n_ hBw):∀k∈[w0.z],¬B k)
  refine R z (lnR z_ z he)<|Rl z z z<|Wx z (fun _=>?_) (fun hc=>(P_ hkd hc).elim)
  refine Wk<|Wq<|Wb<|Wg<|RM z z<|RM z z ?_
  obtain ⟨_,er,hms⟩:=bdS hmp;refine RX z (at_ (α:=Int) z_ z_3 z z z he er) ?_;rintro _ ⟨_,_,_,rfl,ht,hu,_⟩;obtain ⟨rfl,hv⟩:=W_ hu;refine R z (l0 g_3 z<|ht.at0 z) ?_;obtain ⟨xw,ef,hmx⟩:=bdS hms;refine RX z (b_t (α:=Int) z_ z_3 z z h3 ef) ?_;rintro _ ⟨_,hy,rfl⟩;refine E0 (b_k (α:=Int) z_3 z hy z z z ef h3 L (c_N hv) an_ H_) ?_;rintro _ wz ⟨Sg,a1,a2,a3,a5⟩;refine Wn<|Wg<|Rm z<|R z (inc_ hkd (lt_ (repS.len p1_0) A_) z z)<|Ra z<|Wl ?_
  have hh:∀k∈h,k∈[w0.z]∨G.z<=k:=or1 O (io sr)<|l_ lr;exact fun _ q=>⟨xw,(som hmx).symm,⟨Sg,q.k<|s3 z z z,(cM (cM (cr [w0.z] G) sa (io sr):Chg (· ∈ [w0.z]) G wn) a1 hh:Chg (· ∈ [w0.z]) G wz),a2,a3,(or2 a5 hh an_ (l_ sa.s):∀k∈Sg,k∈[w0.z]∨G.z<=k)⟩⟩
 ·rintro x2 _ a6 ⟨h,V,si,h3,L,O⟩;refine Wu ?_ V;refine Wq<|Wm z<|Rm z ?_
  refine R z (lnR z_ z<|p1_0.g<|(s9.ag B).c si<|f_ (or0 (d_ lr) (n_ hBw):∀k∈[w0.z],¬B k))<|Rl z z z<|Wx z (fun hc=>(Q_ hc).elim) (fun _=>?_)
  exact We<|fun a' ha'=>⟨rfl,⟨h,Sat.weaken ha'<|s1 z,(cM (cr [w0.z] G) si (io sr):Chg (· ∈ [w0.z]) G a6),h3,L,(or1 O (io sr) (l_ lr):∀k∈h,k∈[w0.z]∨G.z<=k)⟩⟩
 ·rintro x2 a7 _ rfl ⟨h,_,a8,h3,L,O⟩;have W:=elL hmb;revert a7;refine Wo<|Wm z<|Rw z ?_
  obtain rfl:=som W;exact Wr<|c_ hr z ⟨bM s9 a8<|d_ lr,H,I,J,h,z,h3,L,(or1 O (d_ lr) (a_S s9.s):∀k∈h,w0.z<=k)⟩
 rintro _ _ _ _ rfl ⟨rfl,Y⟩;have a0:=elR hmb;obtain rfl:=som a0;exact ⟨Y,z⟩
def Q4 (w0:World)(B:Zone)(r:g_)(v:Value)(w':World):Prop:=Bw w0 w'/\(fun h=>∃G H I S1 a2 J L S2 O V W S3 Y n4 c4 S4,(.agg #[Str.v h.name,vI h.kind,vI h.size,vB h.little,sl G H I,sl a2 J L,sl O V W,sl Y n4 c4])=v/\h.name.b.length<=LEN/\inI h.kind/\inI h.size/\a_ w' S1 (sl G H I) h.bytes/\a_ w' S2 (sl a2 J L) h.names/\a_ w' S3 (sl O V W) h.tags/\a_ w' S4 (sl Y n4 c4) h.kids/\(S1++(S2++(S3++S4))).Nodup/\(∀k∈(S1++(S2++(S3++S4))),w0.z<=k)) r
theorem W_w2c {x1:g_}{res:g_}(hm:h_O x1=some res)(hBw:B<=w0.z)(p1_0:x1.name.b.length<=LEN)(p1_1:inI x1.kind)(p1_2:inI x1.size)(aC:repS w0 B (sl A9 N9 C9) x1.bytes)(aD:repS w0 B (sl A8 N8 C8) x1.names)(aE:repS w0 B (sl AA NA CA) x1.tags)(aF:repS w0 B (sl AB NB CB) x1.kids):h_ prog 256 [(.agg #[Str.v x1.name,vI x1.kind,vI x1.size,vB x1.little,sl A9 N9 C9,sl A8 N8 C8,sl AA NA CA,sl AB NB CB])] w0 (Q4 w0 B res):=by
 unfold h_O at hm
 refine goF func256 z z (lb z) fun fn hr=>Ws<|E z (fb z) ?_
 rintro _ a5 ⟨rfl,a6⟩;have hw:=a6.below;have a7:Blk a5 w0.z (vR x1 A9 N9 C9 A8 N8 C8 AA NA CA AB NB CB):=a6.blk;refine E z (fa c_x) ?_;rintro _ V ⟨rfl,a8⟩;have hp:=a8.below;have hh:Blk V a5.z [(Str.v (⟨[]⟩:Str)),vI 0,vI 0,vB false,sl none 0 0,sl none 0 0,sl none 0 0,sl none 0 0]:=a8.blk;refine Wn<|Ws<|E z (fa c_x) ?_
 rintro _ aK ⟨rfl,a9⟩;have hi:=a9.below;have hq:Blk aK V.z [(Str.v (⟨[]⟩:Str)),vI 0,vI 0,vB false,sl none 0 0,sl none 0 0,sl none 0 0,sl none 0 0]:=a9.blk;refine Wn<|Ws<|Rf z p_G z ?_
 have aa:=(a7.e hp).e hi;refine R z (l0 g_9 z<|aa.at z)<|Rf z e_k z<|E0 (fs (cur':=[Str.v x1.name,vI 0,vI 0,vB false,sl none 0 0,sl none 0 0,sl none 0 0,sl none 0 0]) z_9 z z hq z (lb z) (oA z) z) ?_
 rintro _ _ ⟨aL,aM⟩;have H:=aM.one;refine Wn<|Ws<|Rf z u_L z ?_
 have I:=mm1 a7.lt hp.s;have ab:=aa.c H<|djs I
 refine R z (l0 g_3 z<|ab.at z)<|Rf z a_M z<|E0 (fs (cur':=[Str.v x1.name,vI x1.kind,vI 0,vB false,sl none 0 0,sl none 0 0,sl none 0 0,sl none 0 0]) z_3 z z aL z (lb z) (oA z) z) ?_
 rintro _ _ ⟨aN,aO⟩;have ha:=aO.one;refine Wn<|Ws<|Rf z u_M z ?_
 have ad:=ab.c ha<|djs I
 refine R z (l0 g_3 z<|ad.at z)<|Rf z b_3 z<|E0 (fs (cur':=[Str.v x1.name,vI x1.kind,vI x1.size,vB false,sl none 0 0,sl none 0 0,sl none 0 0,sl none 0 0]) z_3 z z aN z (lb z) (oA z) z) ?_
 rintro _ _ ⟨aP,aQ⟩;have hb:=aQ.one;refine Wn<|Ws<|Rf z u_N z ?_
 have af:=ad.c hb<|djs I
 refine R z (l0 g_4 z<|af.at z)<|Rf z d_c z<|E0 (fs (cur':=vR x1 none 0 0 none 0 0 none 0 0 none 0 0) z_4 z z aP z (lb z) (oA z) z) ?_
 rintro _ _ ⟨aR,aS⟩;have hc:=aS.one;refine Wn<|Ws<|Rf z p_H z ?_
 have ah:=af.c hc<|djs I
 refine R z (l0 M_ z<|ah.at z) ?_;have W:=lt_ hw.s hp.s;have hd:∀k∈[V.z],¬B k:=or0 (d_ lr)<|n_<|zt' hBw W;have ai:=((((((hw.ag B).e hp).e hi).c H<|f_ hd).c ha<|f_ hd).c hb<|f_ hd).c hc<|f_ hd
 have Y:=lt_ (lt_ (lt_ (lt_ (lt_ W hi.s) H.s) ha.s) hb.s) hc.s;obtain ⟨_,aT,aG⟩:=bdS hm;refine E z (fc call147 z<|W_w0y aT (zt' hBw Y)<|aC.g ai) ?_;rintro _ _ ⟨s5,ae,nf,cg,aU,rfl,hx,aV,a0⟩;refine Rf z b_r z<|E0 (fs (cur':=vR x1 ae nf cg none 0 0 none 0 0 none 0 0) z_22 z z (aR.e s5) z (lb z) (oA z) z) ?_
 rintro _ _ ⟨aW,aX⟩;have h3:=aX.one;refine Wn<|Ws<|Rf z p_I z ?_
 have ak:=(ah.e s5).c h3<|djs I
 refine R z (l0 a_J z<|ak.at z) ?_;have al:=(ai.e s5).c h3<|f_ hd
 have a1:=lt_ (lt_ Y s5.s) h3.s;obtain ⟨_,aY,aH⟩:=bdS aG;refine E z (fc call271 z<|W_w2b aY (zt' hBw a1)<|aD.g al) ?_;rintro _ _ ⟨s4,aj,nk,cl,aZ,rfl,a2,b0,hy⟩;refine Rf z c_w z<|E0 (fs (cur':=vR x1 ae nf cg aj nk cl none 0 0 none 0 0) c_H z z (aW.e s4) z (lb z) (oA z) z) ?_
 rintro _ _ ⟨b1,b2⟩;have h1:=b2.one;refine Wn<|Ws<|Rf z p_J z ?_
 have am:=(ak.e s4).c h1<|djs I
 refine R z (l0 I_ z<|am.at z) ?_;have an:=(al.e s4).c h1<|f_ hd
 have a3:=lt_ (lt_ a1 s4.s) h1.s;obtain ⟨_,b3,aI⟩:=bdS aH;refine E z (fc call272 z<|W_w0z b3 (zt' hBw a3)<|aE.g an) ?_;rintro _ _ ⟨s2,ar,ns,ct,b4,rfl,ao,b5,hu⟩;refine Rf z b_s z<|E0 (fs (cur':=vR x1 ae nf cg aj nk cl ar ns ct none 0 0) z_52 z z (b1.e s2) z (lb z) (oA z) z) ?_
 rintro _ _ ⟨b6,b7⟩;have h:=b7.one;refine Wn<|Ws<|Rf z p_K z<|R z (l0 I_ z<|((am.e s2).c h<|djs I).at z) ?_
 have ap:=lt_ (lt_ a3 s2.s) h.s;obtain ⟨_,b8,aJ⟩:=bdS aI;refine E z (fc call272 z<|W_w0z b8 (zt' hBw ap)<|aF.g<|(an.e s2).c h<|f_ hd) ?_;rintro _ _ ⟨sm,az,J,L,b9,rfl,ba,bb,hn⟩;refine Rf z a_2 z<|E0 (fs (cur':=vR x1 ae nf cg aj nk cl ar ns ct az J L) z_52 z z (b6.e sm) z (lb z) (oA z) z) ?_
 rintro _ _ ⟨bc,be⟩;have ho:=be.one;refine Wn<|Ws<|R z (lN (vs:=vR x1 ae nf cg aj nk cl ar ns ct az J L) R_ u_ z z fid<|bc.row 0 8 z) ?_
 have h6:=mmr hh.lt;refine E0 (fs (cur':=vR x1 ae nf cg aj nk cl ar ns ct az J L) u_ z z (((((((((((((hh.e hi).c H<|djs h6).c ha<|djs h6).c hb<|djs h6).c hc<|djs h6).e s5).c h3<|djs h6).e s4).c h1<|djs h6).e s2).c h<|djs h6).e sm).c ho<|djs h6) z (lb z) (oA z) z) ?_;rintro _ _ ⟨bf,bg⟩;have hv:=bg.one;refine Wn ?_;obtain rfl:=som aJ;have aq:=lt_ (lt_ (lt_ H.s ha.s) hb.s) hc.s;have O:=r_ a0 hq.lt aq;have au:=lt_ (lt_ (lt_ (lt_ hi.s H.s) ha.s) hb.s) hc.s;have av:=lt_ (lt_ aq s5.s) h3.s;have a4:=r_ hy hq.lt av;have aw:=lt_ (lt_ au s5.s) h3.s;have ax:=lt_ (lt_ av s4.s) h1.s;have ay:=r_ hu hq.lt ax;have aA:=lt_ (lt_ aw s4.s) h1.s;have G:=m1 W;have aB:=lt_ (lt_ h3.s s4.s) h1.s;exact Wr<|c_ hr (p_ R_ u_ z bf z) ⟨bM (bM (bup (bM (bup (bM (bup (bM (bup (bM (bM (bM (bM (bup (bup hw hp) hi) H G) ha G) hb G) hc G) s5) h3 G) s4) h1 G) s2) h G) sm) ho G) hv<|m1 hw.s,ae,nf,cg,aU,aj,nk,cl,aZ,ar,ns,ct,b4,az,J,L,b9,z,p1_0,p1_1,p1_2,(((((((hx.c h3 O).e s4).c h1 O).e s2).c h O).e sm).c ho O).c hv<|r_ a0 hh.lt au,(((((a2.c h1 a4).e s2).c h a4).e sm).c ho a4).c hv<|r_ hy hh.lt aw,(((ao.c h ay).e sm).c ho ay).c hv<|r_ hu hh.lt aA,(ba.c ho<|r_ hn hq.lt<|lt_ (lt_ ax s2.s) h.s).c hv<|r_ hn hh.lt<|lt_ (lt_ aA s2.s) h.s,na_ aV (na_ b0 (na_ b5 bb<|ds<|b_C hn (a_.lt ao) h.s)<|nmA (ds<|b_C hu (a_.lt a2) h1.s)<|ds<|b_C hn (a_.lt a2)<|lt_ (lt_ h1.s s2.s) h.s)<|nmA (ds<|b_C hy (a_.lt hx) h3.s)<|nmA (ds<|b_C hu (a_.lt hx) aB)<|ds<|b_C hn (a_.lt hx)<|lt_ (lt_ aB s2.s) h.s,aa_ (s_ a0 Y)<|aa_ (s_ hy a1)<|aa_ (s_ hu a3)<|s_ hn ap⟩
def Q5 (w0:World)(B:Zone)(r:(List g_))(v:Value)(w':World):Prop:=Bw w0 w'/\(fun I=>∃h G H S1,(sl h G H)=v/\a_ w' S1 (sl h G H) I/\S1.Nodup/\(∀k∈S1,w0.z<=k)) r
theorem W_w2d {x1:List g_}{res:(List g_)}(hm:k_M x1=some res)(hBw:B<=w0.z)(p1_0:repS w0 B (sl A0 N0 C0) x1):h_ prog 214 [sl A0 N0 C0] w0 (Q5 w0 B res):=by
 unfold k_M at hm
 refine goF func214 z z (lb z) fun fn hr=>Ws<|Rw z<|Wm z<|R z (lnR e_U z p1_0) ?_
 obtain ⟨_,er,hms⟩:=bdS hm;refine E z (d_j (α:=g_) el_24 (fun _=>n_4 (x:=(⟨(⟨[]⟩:Str),0,0,false,([]:List UInt8),([]:List Str),([]:List Int),([]:List Int)⟩:g_)) (S1:=([]:List Nat)) (S2:=([]:List Nat)) (S3:=([]:List Nat)) (S4:=([]:List Nat)) (lb z) (ii z) (ii z) onL onL onL onL) er z z) ?_;rintro _ h ⟨H,I,J,rfl,sa,ht⟩;refine Rw z<|Wq<|Ws<|Rw z ?_
 obtain ⟨_,huu,hme⟩:=bdS hms;refine Wf (σ:=List g_) (ρ:=List g_) (fun (kf:Nat)(x6:List g_) a w=>∃(G:List Nat),Sat 23 [(0,sl A0 N0 C0),(3,sl H I J),(4,vI ((kf:Nat):Int))] a/\Chg (· ∈ [w0.z]) h w/\a_ w G (sl H I J) x6/\G.Nodup/\(∀k∈G,k∈[w0.z]∨h.z<=k)) (fun (x6:List g_) a w=>∃(G:List Nat),Sat 23 [(3,sl H I J)] a/\Chg (· ∈ [w0.z]) h w/\a_ w G (sl H I J) x6/\G.Nodup/\(∀k∈G,k∈[w0.z]∨h.z<=k)) (fun r ex a w=>ex = .ret/\w_ prog fn (Q5 w0 B r) a w) huu ?_ ?_ ?_ ?_ ?_
 ·exact fun _ q=>⟨[w0.z],q.k<|s3 z z z,cr [w0.z] h,ht,a_0,io sr⟩
 ·rintro kf x6 _ wv _ hkg ⟨G,hSw,s4,h3,hb,hd⟩ hmx;refine Wu ?_ hSw;refine Wq<|Wm z<|Rm z ?_
  have hh:=p1_0.g<|(sa.ag B).c s4<|f_ (or0 (d_ lr) (n_ hBw):∀k∈[w0.z],¬B k)
  refine R z (lnR e_U z hh)<|Rl z z z<|Wx z (fun _=>?_) (fun hc=>(P_ hkg hc).elim)
  refine Wk<|Wq<|Wb<|Wg<|RM z z<|RM z z ?_
  obtain ⟨xz,a2,L⟩:=bdS hmx;refine RX z (at_ (α:=g_) e_U k_r z z z hh a2) ?_;rintro _ ⟨_,_,_,rfl,a3,a4,_⟩;obtain ⟨a5,a6,a8,a9,aa,ab,ad,ae,af,ah,ai,aj,rfl,ak,al,am,an,ao,ap,aq⟩:=a_N a4;refine R z (lN (vs:=vR xz a5 a6 a8 a9 aa ab ad ae af ah ai aj) g_285 k_r z z fid a3) ?_;obtain ⟨ar,au,O⟩:=bdS L;refine E z (fc call256 z<|W_w2c au (zt' hBw<|lt_ sa.s s4.s) ak al am an ao ap aq) ?_;rintro _ av ⟨sc,_,_,_,Si,_,_,_,Sj,_,_,_,Sk,_,_,_,Sl,rfl,aw,ax,ay,az,aA,aB,aC,h2,h5⟩;obtain ⟨aD,em,V⟩:=bdS O;have hn:=h3.e sc;refine RX z (b_t (α:=g_) a_b u_ z z hn em) ?_;rintro _ ⟨_,aE,rfl⟩;refine E0 (b_k (α:=g_) u_ z aE z z z em hn hb (n_4 (x:=ar) (S1:=Si) (S2:=Sj) (S3:=Sk) (S4:=Sl) aw ax ay az aA aB aC) (aa_ (b_C (al_ h5) (a_.lt h3) lr)<|aa_ (b_C (al_<|ar_ h5) (a_.lt h3) lr)<|aa_ (b_C (al_<|ar_<|ar_ h5) (a_.lt h3) lr)<|b_C (ar_<|ar_<|ar_ h5) (a_.lt h3) lr)<|na_ (nl_ h2) (na_ (nl_<|nr_ h2) (na_ (nl_<|nr_<|nr_ h2) (nr_<|nr_<|nr_ h2)<|nj<|nr_<|nr_ h2)<|nmA (nmL<|nj<|nr_ h2)<|nmR<|nj<|nr_ h2)<|nmA (nmL<|nj h2)<|nmA (nmL<|nmR<|nj h2)<|nmR<|nmR<|nj h2) ?_;rintro _ aF ⟨So,aG,aH,aI,aJ⟩;refine Wn<|Wg<|Rm z<|R z (inc_ hkg (lt_ (repS.len p1_0) A_) z z)<|Ra z<|Wl ?_
  have hp:∀k∈G,k∈[w0.z]∨h.z<=k:=or1 hd (io sr)<|l_ lr;exact fun _ q=>⟨aD,(som V).symm,⟨So,q.k<|s3 z z z,(cM (i_ (cM (cr [w0.z] h) s4 (io sr):Chg (· ∈ [w0.z]) h wv) sc:Chg (· ∈ [w0.z]) h av) aG hp:Chg (· ∈ [w0.z]) h aF),aH,aI,(or2 aJ hp (aa_ (or0 (al_ h5) (l_ s4.s):∀k∈Si,k∈[w0.z]∨h.z<=k)<|aa_ (or0 (al_<|ar_ h5) (l_ s4.s):∀k∈Sj,k∈[w0.z]∨h.z<=k)<|aa_ (or0 (al_<|ar_<|ar_ h5) (l_ s4.s):∀k∈Sk,k∈[w0.z]∨h.z<=k) (or0 (ar_<|ar_<|ar_ h5) (l_ s4.s):∀k∈Sl,k∈[w0.z]∨h.z<=k)) (l_<|lt_ s4.s sc.s):∀k∈So,k∈[w0.z]∨h.z<=k)⟩⟩
 ·rintro x6 _ aK ⟨G,W,sq,h3,hb,hd⟩;refine Wu ?_ W;refine Wq<|Wm z<|Rm z ?_
  refine R z (lnR e_U z<|p1_0.g<|(sa.ag B).c sq<|f_ (or0 (d_ lr) (n_ hBw):∀k∈[w0.z],¬B k))<|Rl z z z<|Wx z (fun hc=>(Q_ hc).elim) (fun _=>?_)
  exact We<|fun a' ha'=>⟨rfl,⟨G,Sat.weaken ha'<|s1 z,(cM (cr [w0.z] h) sq (io sr):Chg (· ∈ [w0.z]) h aK),h3,hb,(or1 hd (io sr) (l_ lr):∀k∈G,k∈[w0.z]∨h.z<=k)⟩⟩
 ·rintro x6 aL _ rfl ⟨G,_,aM,h3,hb,hd⟩;have Y:=elL hme;revert aL;refine Wo<|Wm z<|Rw z ?_
  obtain rfl:=som Y;exact Wr<|c_ hr z ⟨bM sa aM<|d_ lr,H,I,J,G,z,h3,hb,(or1 hd (d_ lr) (a_S sa.s):∀k∈G,w0.z<=k)⟩
 rintro _ _ _ _ rfl ⟨rfl,a0⟩;have a1:=elR hme;obtain rfl:=som a1;exact ⟨a0,z⟩
def Q6 (w0:World)(B:Zone)(r:e_)(v:Value)(w':World):Prop:=Bw w0 w'/\(fun I=>∃h G H S1,(.agg #[.slice h G H])=v/\a_ w' S1 (sl h G H) I.rules/\S1.Nodup/\(∀k∈S1,w0.z<=k)) r
theorem W_w2e {x1:e_}{res:e_}(hm:h_P x1=some res)(hBw:B<=w0.z)(p1_0:repS w0 B (sl A0 N0 C0) x1.rules):h_ prog 180 [(.agg #[sl A0 N0 C0])] w0 (Q6 w0 B res):=by
 unfold h_P at hm
 refine goF func180 z z (lb z) fun fn hr=>Ws<|E z (fb z) ?_
 rintro _ wa ⟨rfl,hb⟩;have h1:=hb.below;refine E z (fa m_h) ?_;rintro _ wc ⟨rfl,hd⟩;have h2:=hd.below;have h6:Blk wc wa.z [sl none 0 0]:=hd.blk;refine Wn<|Ws<|E z (fa m_h) ?_
 rintro _ wk ⟨rfl,he⟩;have h:=he.below;have hf:Blk wk wc.z [sl none 0 0]:=he.blk;refine Wn<|Ws<|Rf z p_D z<|R z (l0 g_206 z<|(((hb.blk:Blk wa w0.z [sl A0 N0 C0]).e h2).e h).at z) ?_
 have hg:=lt_ h1.s h2.s;have hh:=lt_ hg h.s;obtain ⟨_,el,hmm⟩:=bdS hm;refine E z (fc call214 z<|W_w2d el (zt' hBw hh)<|p1_0.g<|((h1.ag B).e h2).e h) ?_;rintro _ _ ⟨s7,G,H,I,Sn,rfl,ho,hp,J⟩;refine Rf z a_o z<|E0 (fs (cur':=[sl G H I]) z_24 z z (hf.e s7) z (lb z) (oA z) z) ?_
 rintro _ _ ⟨hq,sr⟩;have L:=sr.one;refine Wn<|Ws<|R z (lN (vs:=[sl G H I]) J_ E_ z z fid<|hq.row 0 1 z)<|E0 (fs (cur':=[sl G H I]) E_ z z (((h6.e h).e s7).c L<|djs<|mmr h6.lt) z (lb z) (oA z) z) ?_
 rintro _ _ ⟨ht,ss⟩;have hi:=ss.one;refine Wn ?_;obtain rfl:=som hmm;exact Wr<|c_ hr (p_ J_ E_ z ht z) ⟨bM (bM (bup (bup (bup h1 h2) h) s7) L<|m1 hg) hi<|m1 h1.s,G,H,I,Sn,z,(ho.c L<|r_ J hf.lt lr).c hi<|r_ J h6.lt h.s,hp,s_ J hh⟩
def Q7 (w0:World)(B:Zone)(r:(List e_))(v:Value)(w':World):Prop:=Bw w0 w'/\(fun I=>∃h G H S1,(sl h G H)=v/\a_ w' S1 (sl h G H) I/\S1.Nodup/\(∀k∈S1,w0.z<=k)) r
theorem W_w2f {x1:List e_}{res:(List e_)}(hm:i_N x1=some res)(hBw:B<=w0.z)(p1_0:repS w0 B (sl A0 N0 C0) x1):h_ prog 146 [sl A0 N0 C0] w0 (Q7 w0 B res):=by
 unfold i_N at hm
 refine goF func146 z z (lb z) fun fn hr=>Ws<|Rw z<|Wm z<|R z (lnR e_V z p1_0) ?_
 obtain ⟨_,en,hmo⟩:=bdS hm;refine E z (d_j (α:=e_) el_65 (fun _=>n_5 (x:=(⟨([]:List g_)⟩:e_)) (S1:=([]:List Nat)) onL) en z z) ?_;rintro _ h ⟨H,I,J,rfl,s7,hp⟩;refine Rw z<|Wq<|Ws<|Rw z ?_
 obtain ⟨_,huq,hmc⟩:=bdS hmo;refine Wf (σ:=List e_) (ρ:=List e_) (fun (kd:Nat)(x2:List e_) a w=>∃(G:List Nat),Sat 23 [(0,sl A0 N0 C0),(3,sl H I J),(4,vI ((kd:Nat):Int))] a/\Chg (· ∈ [w0.z]) h w/\a_ w G (sl H I J) x2/\G.Nodup/\(∀k∈G,k∈[w0.z]∨h.z<=k)) (fun (x2:List e_) a w=>∃(G:List Nat),Sat 23 [(3,sl H I J)] a/\Chg (· ∈ [w0.z]) h w/\a_ w G (sl H I J) x2/\G.Nodup/\(∀k∈G,k∈[w0.z]∨h.z<=k)) (fun r ex a w=>ex = .ret/\w_ prog fn (Q7 w0 B r) a w) huq ?_ ?_ ?_ ?_ ?_
 ·exact fun _ q=>⟨[w0.z],q.k<|s3 z z z,cr [w0.z] h,hp,a_0,io sr⟩
 ·rintro kd x2 _ wr _ hke ⟨G,hSs,s8,h3,L,ha⟩ hmt;refine Wu ?_ hSs;refine Wq<|Wm z<|Rm z ?_
  have hf:=p1_0.g<|(s7.ag B).c s8<|f_ (or0 (d_ lr) (n_ hBw):∀k∈[w0.z],¬B k)
  refine R z (lnR e_V z hf)<|Rl z z z<|Wx z (fun _=>?_) (fun hc=>(P_ hke hc).elim)
  refine Wk<|Wq<|Wb<|Wg<|RM z z<|RM z z ?_
  obtain ⟨_,ev,hmw⟩:=bdS hmt;refine RX z (at_ (α:=e_) e_V k_q z z z hf ev) ?_;rintro _ ⟨_,_,_,rfl,hx,hy,_⟩;obtain ⟨az,a2,a3,rfl,a5⟩:=d_B hy;refine R z (lN (vs:=[sl az a2 a3]) g_208 k_q z z fid hx) ?_;obtain ⟨a6,a7,O⟩:=bdS hmw;refine E z (fc call180 z<|W_w2e a7 (zt' hBw<|lt_ s7.s s8.s) a5) ?_;rintro _ a8 ⟨sb,_,_,_,Sg,rfl,a9,aa,hh⟩;obtain ⟨ab,ei,V⟩:=bdS O;have hj:=h3.e sb;refine RX z (b_t (α:=e_) b_B E_ z z hj ei) ?_;rintro _ ⟨_,ad,rfl⟩;refine E0 (b_k (α:=e_) E_ z ad z z z ei hj L (n_5 (x:=a6) (S1:=Sg) a9) (b_C hh (a_.lt h3) lr) aa) ?_;rintro _ ae ⟨Sk,af,ah,ai,aj⟩;refine Wn<|Wg<|Rm z<|R z (inc_ hke (lt_ (repS.len p1_0) A_) z z)<|Ra z<|Wl ?_
  have hl:∀k∈G,k∈[w0.z]∨h.z<=k:=or1 ha (io sr)<|l_ lr;exact fun _ q=>⟨ab,(som V).symm,⟨Sk,q.k<|s3 z z z,(cM (i_ (cM (cr [w0.z] h) s8 (io sr):Chg (· ∈ [w0.z]) h wr) sb:Chg (· ∈ [w0.z]) h a8) af hl:Chg (· ∈ [w0.z]) h ae),ah,ai,(or2 aj hl (or0 hh (l_ s8.s):∀k∈Sg,k∈[w0.z]∨h.z<=k) (l_<|lt_ s8.s sb.s):∀k∈Sk,k∈[w0.z]∨h.z<=k)⟩⟩
 ·rintro x2 _ ak ⟨G,W,sm,h3,L,ha⟩;refine Wu ?_ W;refine Wq<|Wm z<|Rm z ?_
  refine R z (lnR e_V z<|p1_0.g<|(s7.ag B).c sm<|f_ (or0 (d_ lr) (n_ hBw):∀k∈[w0.z],¬B k))<|Rl z z z<|Wx z (fun hc=>(Q_ hc).elim) (fun _=>?_)
  exact We<|fun a' ha'=>⟨rfl,⟨G,Sat.weaken ha'<|s1 z,(cM (cr [w0.z] h) sm (io sr):Chg (· ∈ [w0.z]) h ak),h3,L,(or1 ha (io sr) (l_ lr):∀k∈G,k∈[w0.z]∨h.z<=k)⟩⟩
 ·rintro x2 al _ rfl ⟨G,_,am,h3,L,ha⟩;have Y:=elL hmc;revert al;refine Wo<|Wm z<|Rw z ?_
  obtain rfl:=som Y;exact Wr<|c_ hr z ⟨bM s7 am<|d_ lr,H,I,J,G,z,h3,L,(or1 ha (d_ lr) (a_S s7.s):∀k∈G,w0.z<=k)⟩
 rintro _ _ _ _ rfl ⟨rfl,a0⟩;have a1:=elR hmc;obtain rfl:=som a1;exact ⟨a0,z⟩
def Q8 (w0:World)(B:Zone)(r:a_j)(v:Value)(w':World):Prop:=Bw w0 w'/\(fun I=>∃h G H S1,(.agg #[.slice h G H])=v/\a_ w' S1 (sl h G H) I.versions/\S1.Nodup/\(∀k∈S1,w0.z<=k)) r
theorem W_w2g {x1:a_j}{res:a_j}(hm:k_Z x1=some res)(hBw:B<=w0.z)(p1_0:repS w0 B (sl A0 N0 C0) x1.versions):h_ prog 82 [(.agg #[sl A0 N0 C0])] w0 (Q8 w0 B res):=by
 unfold k_Z at hm
 refine goF func82 z z (lb z) fun fn hr=>Ws<|E z (fb z) ?_
 rintro _ wa ⟨rfl,hb⟩;have h1:=hb.below;refine E z (fa p_T) ?_;rintro _ wc ⟨rfl,hd⟩;have h2:=hd.below;have h6:Blk wc wa.z [sl none 0 0]:=hd.blk;refine Wn<|Ws<|E z (fa p_T) ?_
 rintro _ wk ⟨rfl,he⟩;have h:=he.below;have hf:Blk wk wc.z [sl none 0 0]:=he.blk;refine Wn<|Ws<|Rf z p_N z<|R z (l0 g_56 z<|(((hb.blk:Blk wa w0.z [sl A0 N0 C0]).e h2).e h).at z) ?_
 have hg:=lt_ h1.s h2.s;have hh:=lt_ hg h.s;obtain ⟨_,el,hmm⟩:=bdS hm;refine E z (fc call146 z<|W_w2f el (zt' hBw hh)<|p1_0.g<|((h1.ag B).e h2).e h) ?_;rintro _ _ ⟨s7,G,H,I,Sn,rfl,ho,hp,J⟩;refine Rf z c_j z<|E0 (fs (cur':=[sl G H I]) z_65 z z (hf.e s7) z (lb z) (oA z) z) ?_
 rintro _ _ ⟨hq,sr⟩;have L:=sr.one;refine Wn<|Ws<|R z (lN (vs:=[sl G H I]) f_x e_m z z fid<|hq.row 0 1 z)<|E0 (fs (cur':=[sl G H I]) e_m z z (((h6.e h).e s7).c L<|djs<|mmr h6.lt) z (lb z) (oA z) z) ?_
 rintro _ _ ⟨ht,ss⟩;have hi:=ss.one;refine Wn ?_;obtain rfl:=som hmm;exact Wr<|c_ hr (p_ f_x e_m z ht z) ⟨bM (bM (bup (bup (bup h1 h2) h) s7) L<|m1 hg) hi<|m1 h1.s,G,H,I,Sn,z,(ho.c L<|r_ J hf.lt lr).c hi<|r_ J h6.lt h.s,hp,s_ J hh⟩
def Q9 (w0:World)(B:Zone)(r:Log)(v:Value)(w':World):Prop:=Bw w0 w'/\(fun h=>∃G H I S1,(.agg #[.slice G H I,vI h.stored])=v/\a_ w' S1 (sl G H I) h.bytes/\inI h.stored/\S1.Nodup/\(∀k∈S1,w0.z<=k)) r
theorem W_w2h {x1:Log}{res:Log}(hm:l_0 x1=some res)(hBw:B<=w0.z)(p1_0:repS w0 B (sl A0 N0 C0) x1.bytes)(p1_1:inI x1.stored):h_ prog 83 [(.agg #[sl A0 N0 C0,vI x1.stored])] w0 (Q9 w0 B res):=by
 unfold l_0 at hm
 refine goF func83 z z (lb z) fun fn hr=>Ws<|E z (fb z) ?_
 rintro _ wb ⟨rfl,hc⟩;have h5:=hc.below;have hd:Blk wb w0.z [sl A0 N0 C0,vI x1.stored]:=hc.blk;refine E z (fa p_U) ?_;rintro _ we ⟨rfl,hf⟩;have h1:=hf.below;have J:Blk we wb.z [sl none 0 0,vI 0]:=hf.blk;refine Wn<|Ws<|E z (fa p_U) ?_
 rintro _ wm ⟨rfl,hg⟩;have h:=hg.below;have hh:Blk wm we.z [sl none 0 0,vI 0]:=hg.blk;refine Wn<|Ws<|Rf z p_O z ?_
 have hi:=(hd.e h1).e h;refine R z (l0 M_ z<|hi.at z) ?_;have hj:=lt_ h5.s h1.s;have hk:=lt_ hj h.s;obtain ⟨_,eq,hmr⟩:=bdS hm;refine E z (fc call147 z<|W_w0y eq (zt' hBw hk)<|p1_0.g<|((h5.ag B).e h1).e h) ?_;rintro _ _ ⟨s6,a2,G,H,Ss,rfl,ht,hu,L⟩;refine Rf z c_k z<|E0 (fs (cur':=[sl a2 G H,vI 0]) z_22 z z (hh.e s6) z (lb z) (oA z) z) ?_
 rintro _ _ ⟨hv,sw⟩;have I:=sw.one;refine Wn<|Ws<|Rf z f_60_1 z<|R z (l0 g_3 z<|((hi.e s6).c I<|djs<|mm1 hd.lt h1.s).at z)<|Rf z e_l z<|E0 (fs (cur':=[sl a2 G H,vI x1.stored]) z_3 z z hv z (lb z) (oA z) z) ?_
 rintro _ _ ⟨hx,sy⟩;have ha:=sy.one;refine Wn<|Ws<|R z (lN (vs:=[sl a2 G H,vI x1.stored]) e_S d_V z z fid<|hx.row 0 2 z) ?_
 have hl:=mmr J.lt;refine E0 (fs (cur':=[sl a2 G H,vI x1.stored]) d_V z z ((((J.e h).e s6).c I<|djs hl).c ha<|djs hl) z (lb z) (oA z) z) ?_;rintro _ _ ⟨hz,O⟩;have hn:=O.one;refine Wn ?_;obtain rfl:=som hmr;have ho:=r_ L hh.lt lr;have hp:=m1 hj;exact Wr<|c_ hr (p_ e_S d_V z hz z) ⟨bM (bM (bM (bup (bup (bup h5 h1) h) s6) I hp) ha hp) hn<|m1 h5.s,a2,G,H,Ss,z,((ht.c I ho).c ha ho).c hn<|r_ L J.lt h.s,p1_1,hu,s_ L hk⟩
def Q10 (w0:World)(B:Zone)(r:L_)(v:Value)(w':World):Prop:=Bw w0 w'/\(fun h=>∃G H I S1 a2 J L S2,(.agg #[.slice G H I,sl a2 J L,vI h.log.stored])=v/\a_ w' S1 (sl G H I) h.registry.versions/\a_ w' S2 (sl a2 J L) h.log.bytes/\inI h.log.stored/\(S1++S2).Nodup/\(∀k∈(S1++S2),w0.z<=k)) r
theorem m_k {x1:L_}{res:L_}(hm:f_N x1=some res)(hBw:B<=w0.z)(p1_0:repS w0 B (sl A0 N0 C0) x1.registry.versions)(p1_1:repS w0 B (sl A1 N1 C1) x1.log.bytes)(p1_2:inI x1.log.stored):h_ prog 26 [(.agg #[sl A0 N0 C0,sl A1 N1 C1,vI x1.log.stored])] w0 (Q10 w0 B res):=by
 unfold f_N at hm
 refine goF func26 z z (lb z) fun fn hr=>Ws<|E z (fb z) ?_
 rintro _ wm ⟨rfl,hn⟩;have J:=hn.below;have ho:Blk wm w0.z [sl A0 N0 C0,sl A1 N1 C1,vI x1.log.stored]:=hn.blk;refine E z (fa m_i) ?_;rintro _ wf ⟨rfl,hp⟩;have h3:=hp.below;have L:Blk wf wm.z [sl none 0 0,sl none 0 0,vI 0]:=hp.blk;refine Wn<|Ws<|E z (fa m_i) ?_
 rintro _ wr ⟨rfl,hq⟩;have h2:=hq.below;have hg:Blk wr wf.z [sl none 0 0,sl none 0 0,vI 0]:=hq.blk;refine Wn<|Ws<|Rf z p_P z ?_
 have ht:=(ho.e h3).e h2;refine R z (lN (vs:=[sl A0 N0 C0]) g_58 z_58 z z fid<|ht.row 0 1 z) ?_;have hu:=((J.ag B).e h3).e h2;have hh:=lt_ J.s h3.s;have hi:=lt_ hh h2.s;obtain ⟨_,es,O⟩:=bdS hm;refine E z (fc call82 z<|W_w2g (B:=B) (x1:=(⟨x1.registry.versions⟩:a_j)) es (zt' hBw hi)<|p1_0.g hu) ?_;rintro _ _ ⟨s1,G,H,I,W,rfl,hv,Y,hj⟩;refine Rf z d_v z<|E0 (fs (cur':=[sl G H I,sl none 0 0,vI 0]) e_m z z (hg.e s1) z (lb z) (oA z) z) ?_
 rintro _ _ ⟨a0,a1⟩;have h:=a1.one;refine Wn<|Ws<|Rf z p_Q z<|R z (lN (vs:=[sl A1 N1 C1,vI x1.log.stored]) g_60 z_60 z z fid<|((ht.e s1).c h<|djs<|mm1 ho.lt h3.s).row 1 2 z) ?_
 have hw:=lt_ (lt_ hi s1.s) h.s;obtain ⟨rk,a2,V⟩:=bdS O;refine E z (fc call83 z<|W_w2h (B:=B) (x1:=(⟨x1.log.bytes,x1.log.stored⟩:Log)) a2 (zt' hBw hw) (p1_1.g<|(hu.e s1).c h<|f_ (or0 (d_ lr) (n_<|zt' hBw hh):∀k∈[wf.z],¬B k)) p1_2) ?_;rintro _ _ ⟨s9,aa,nb,cc,a3,rfl,a5,a6,a7,hd⟩;refine Rf z d_d z<|E0 (fs (cur':=[sl G H I,sl aa nb cc,vI rk.stored]) d_V z z (a0.e s9) z (lb z) (oA z) z) ?_
 rintro _ _ ⟨a8,a9⟩;have he:=a9.one;refine Wn<|Ws<|R z (lN (vs:=[sl G H I,sl aa nb cc,vI rk.stored]) e_i d_w z z fid<|a8.row 0 3 z) ?_
 have hx:=mmr L.lt;refine E0 (fs (cur':=[sl G H I,sl aa nb cc,vI rk.stored]) d_w z z (((((L.e h2).e s1).c h<|djs hx).e s9).c he<|djs hx) z (lb z) (oA z) z) ?_;rintro _ _ ⟨ab,ad⟩;have hl:=ad.one;refine Wn ?_;obtain rfl:=som V;have hy:=r_ hj hg.lt lr;have hz:=m1 hh;exact Wr<|c_ hr (p_ e_i d_w z ab z) ⟨bM (bM (bup (bM (bup (bup (bup J h3) h2) s1) h hz) s9) he hz) hl<|m1 J.s,G,H,I,W,aa,nb,cc,a3,z,(((hv.c h hy).e s9).c he hy).c hl<|r_ hj L.lt h2.s,(a5.c he<|r_ hd hg.lt<|lt_ s1.s h.s).c hl<|r_ hd L.lt<|lt_ (lt_ h2.s s1.s) h.s,a6,na_ Y a7<|ds<|b_C hd (a_.lt hv) h.s,aa_ (s_ hj hi)<|s_ hd hw⟩
def Q11 (w0:World)(B:Zone)(r:Bool)(v:Value)(w':World):Prop:=Bw w0 w'/\(fun h=>(vB h)=v) r
theorem b_c {x1:Int}{x2:Int}{x3:Int}{res:Bool}(hm:a_G x1 x2 x3=some res)(hBw:B<=w0.z)(p1_0:inI x1)(p2_0:inI x2)(p3_0:inI x3):h_ prog 103 [vI x1,vI x2,vI x3] w0 (Q11 w0 B res):=by
 unfold a_G at hm
 refine goF func103 z z (lb z) fun fn hr=>Ws<|Rw z<|Wq ?_
 obtain ⟨I,G,H⟩:=bdS hm;refine Wt (fun a w=>∃(x4:Bool),x4=I/\Sat 15 [(6,vB x4)] a/\Below w0.z w0 w) ?_ ?_
 ·refine Wg<|RM z z<|R z (b_l z z)<|Rm z ?_
  rcases bs (decide<|x2<=x1) with h | h
  ·exact Rh z h (mv z)<|Rh z h (mv z)<|Rh z h (d_l z z)<|R z (pT z h z)<|Ra z<|Wl (fun _ q=>⟨decide<|x1<=x3,som<|ifT G h,q.k<|s1 z,br w0⟩)
  iterate 3 refine Nh z h ?_
  exact R z (pF z h z)<|Ra z<|Wl (fun _ q=>⟨false,som<|ifF G h,q.k<|s1 z,br w0⟩)
 rintro J _ ⟨x4,rfl,_,s6⟩;revert J;refine Wo ?_;obtain rfl:=som H;exact Wr<|c_ hr z ⟨s6,z⟩
theorem m_l {x1:List UInt8}{x2:Bool}{res:Int}(hm:f_C x1 x2=some res)(hBw:B<=w0.z)(p1_0:repS w0 B (sl A0 N0 C0) x1):h_ prog 145 [sl A0 N0 C0,vB x2] w0 (Q0 w0 B res):=by
 unfold f_C at hm
 refine goF func145 z z (lb z) fun fn hr=>Ws<|Rw z<|Ws<|Rw z<|Wq<|Wm z<|R z (lnR j_ z p1_0)<|R z (Z_ z z)<|Wx z (fun G=>?_) (fun G=>?_)
 ·refine Ws<|Rw z ?_
  obtain rfl:=som<|ifT hm G;exact Wr<|c_ hr z ⟨br w0,z,ii z⟩
 refine Wk<|Wq<|Ws<|Rw z ?_
 obtain ⟨_,hue,J⟩:=bdS<|ifF hm G;refine Wf (σ:=Int) (ρ:=Int) (fun (k1:Nat)(x0:Int) a w=>Sat 33 [(0,sl A0 N0 C0),(1,vB x2),(5,vI x0),(6,vI ((k1:Nat):Int))] a/\Below w0.z w0 w/\inI x0) (fun (x0:Int) a w=>Sat 33 [(5,vI x0)] a/\Below w0.z w0 w/\inI x0) (fun r ex a w=>ex = .ret/\w_ prog fn (Q0 w0 B r) a w) hue ?_ ?_ ?_ ?_ ?_
 ·exact fun _ q=>⟨q.k<|s4 z z z z,br w0,ii z⟩
 ·rintro k1 x0 _ h _ H ⟨hSf,s7,h3⟩ hmg;refine Wu ?_ hSf;refine Wq<|Wm z<|Rm z ?_
  have ha:=p1_0.e s7;refine R z (lnR j_ z ha)<|Rl z z z<|Wx z (fun _=>?_) (fun hc=>(P_ H hc).elim)
  refine Wk<|Wq<|Wb<|Wm z<|Rw z<|Wq<|Wm z<|Wn ?_
  obtain ⟨uh,hub,hmi⟩:=bdS hmg;refine Wt (fun a w=>∃(x4:Int),x4=uh/\Sat 33 [(0,sl A0 N0 C0),(1,vB x2),(5,vI x0),(6,vI ((k1:Nat):Int)),(7,vI x4)] a/\Below h.z h w/\inI x4) ?_ ?_
  ·refine Wc z (fun I=>?_)<|fun I=>?_
   ·exact Wg<|Rm z<|R z (lnR j_ z ha)<|R z (sb_ z z)<|Rm z<|R z (sb_ z z)<|Ra z<|Wl (fun _ q=>⟨x_ (x_ (x1.length:Int) 1) ((k1:Nat):Int),som<|ifT hub I,q.k<|s5 z z z z z,br h,iS _ _⟩)
   exact a_e<|fun _ q=>⟨((k1:Nat):Int),som<|ifF hub I,q.k<|s5 z z z z z,br h,ic (Nat.le_of_lt H)<|lt_ (repS.len p1_0) A_⟩
  rintro aj _ ⟨x4,rfl,_,sc,_⟩;revert aj;refine Wo<|Wg<|Rm z<|R z (g_8 z z)<|RM z z ?_
  obtain ⟨xk,el,hmm⟩:=bdS hmi;refine RX z (at_ (α:=UInt8) j_ z_5 z z z (p1_0.g<|(s7.ag B).e sc) el) ?_;rintro _ ⟨_,_,_,rfl,hn,ho,_⟩;obtain rfl:=u8 ho;exact R z (l0 g_5 z<|hn.at0 z)<|R z (b_i d_5 d_3 z)<|R z (add_ z z)<|Rw z<|Wg<|Rm z<|R z (inc_ H (lt_ (repS.len p1_0) A_) z z)<|Ra z<|Wl (fun _ q=>⟨b_ (b_6 x0 256)<|byteI xk,(som hmm).symm,⟨q.k<|s4 z z z z,bup s7 sc,iA _ _⟩⟩)
 ·rintro x0 _ _ ⟨hSp,sd,h3⟩;refine Wu ?_ hSp;refine Wq<|Wm z<|Rm z<|R z (lnR j_ z<|p1_0.e sd)<|Rl z z z<|Wx z (fun hc=>(Q_ hc).elim) (fun _=>?_)
  exact We<|fun a' ha'=>⟨rfl,⟨Sat.weaken ha'<|s1 z,sd,h3⟩⟩
 ·rintro x0 aq _ rfl ⟨_,sr,h3⟩;have hms:=elL J;revert aq;refine Wo<|Wm z<|Rw z ?_
  obtain rfl:=som hms;exact Wr<|c_ hr z ⟨sr,z,h3⟩
 rintro _ _ _ _ rfl ⟨rfl,hqt⟩;have hmu:=elR J;obtain rfl:=som hmu;exact ⟨hqt,z⟩
def Q12 (w0:World)(B:Zone)(r:(List UInt8)×Bool)(v:Value)(w':World):Prop:=Bw w0 w'/\un2 (fun I J=>∃h G H S1,v = .tuple #[sl h G H,vB J]/\a_ w' S1 (sl h G H) I/\S1.Nodup/\(∀k∈S1,w0.z<=k)) r
theorem W_w2i {x1:List UInt8}{res:(List UInt8)×Bool}(hm:i_O n x1=some res)(hBw:B<=w0.z)(p1_0:repS w0 B (sl A0 N0 C0) x1):h_ prog 211 [sl A0 N0 C0] w0 (Q12 w0 B res):=by
 unfold i_O at hm
 refine goF func211 z z (lb z) fun fn hr=>Ws<|Ra z<|Rw z<|Ws<|E z (f0 (α:=UInt8) N_) ?_
 rintro _ H ⟨aS,aT,aU,rfl,s7,aV⟩;refine Rw z<|Wq<|Ws<|Rw z ?_
 obtain ⟨_,ax,a6⟩:=bdS hm;refine b_u (σ:=(List UInt8)×Int) (ρ:=(List UInt8)×Bool) (fun s a w=>un2 (fun xk x4=>∃I J L h,Sat 79 [(0,sl A0 N0 C0),(4,sl I J L),(5,vI x4)] a/\Chg (· ∈ [w0.z]) H w/\a_ w h (sl I J L) xk/\h.Nodup/\(∀k∈h,k∈[w0.z]∨H.z<=k)/\inI x4) s) (fun s a w=>un2 (fun xk x4=>∃I J L h,Sat 79 [(4,sl I J L)] a/\Chg (· ∈ [w0.z]) H w/\a_ w h (sl I J L) xk/\h.Nodup/\(∀k∈h,k∈[w0.z]∨H.z<=k)/\inI x4) s) (fun r ex a w=>ex = .ret/\w_ prog fn (Q12 w0 B r) a w) ax ?_ ?_ ?_ ?_
 ·exact fun _ q=>⟨aS,aT,aU,[w0.z],q.k<|s3 z z z,cr [w0.z] H,aV,a_0,io sr,ii z⟩
 ·rintro ⟨xk,x4⟩ _ wg _ ⟨I,J,L,h,ay,sb,hl,hn,hi,ai⟩ az;have a7:=a_5 az;refine Wu ?_ ay;refine Wq<|Wm z<|Rm z ?_
  have aj:∀k∈[w0.z],¬B k:=or0 (d_ lr)<|n_ hBw;have hw:=(s7.ag B).c sb<|f_ aj
  have hx:=p1_0.g hw;refine R z (lnR j_ z hx)<|Rl z z z<|Wx z (fun hcy=>?_) (fun hcy=>?_)
  ·refine Wk<|Wb<|Wm z<|Rm z ?_
   obtain ⟨xm,aW,aA⟩:=bdS<|ifT a7 hcy;refine RX z (at_ (α:=UInt8) j_ z_5 z z z hx aW) ?_;rintro _ ⟨_,_,_,rfl,aX,aY,_⟩;obtain rfl:=u8 aY;refine R z (l0 g_5 z<|aX.at0 z)<|R z (b_i d_5 d_3 z)<|Rw z<|Wq<|Wb<|Wq ?_
   obtain ⟨aZ,a8,a9⟩:=bdS aA;refine Wt (fun a w=>∃(xz:Bool),xz=aZ/\Sat 79 [(0,sl A0 N0 C0),(4,sl I J L),(5,vI x4),(6,vI<|byteI xm),(40,vB xz)] a/\Below wg.z wg w) ?_ ?_
   ·refine Wg<|Rm z<|Rq z z z<|Rm z ?_
    rcases bs ((byteI xm)==0) with hcf | hcf
    ·exact Nh z hcf<|Nh z hcf<|R z (pT z hcf z)<|Rm z<|Nh z z<|Nh z z<|Nh z z<|Nh z z<|Nh z z<|R z (pT z z z)<|Ra z<|Wl (fun _ q=>⟨true,som<|ifT a8 hcf,q.k<|s5 z z z z z,br wg⟩)
    have aa:=ifF a8 hcf;refine Rh z hcf (mv z)<|Rh z hcf (eql z z)<|R z (pF z hcf z)<|Rm z ?_
    rcases bs ((byteI xm)==128) with hca | hca
    ·iterate 5 refine Nh z hca ?_
     exact R z (pT z hca z)<|Ra z<|Wl (fun _ q=>⟨true,som<|ifT aa hca,q.k<|s5 z z z z z,br wg⟩)
    exact Rh z hca (mv z)<|Rh z hca (add_ z z)<|Rh z hca (mv z)<|Rh z hca (lnR j_ z hx)<|Rh z hca (b_l z z)<|R z (pF z hca z)<|Ra z<|Wl (fun _ q=>⟨decide<|(x1.length:Int)<=(b_ x4 1),som<|ifF aa hca,q.k<|s5 z z z z z,br wg⟩)
   rintro b0 G ⟨xz,rfl,_,s6⟩;revert b0;refine Wo<|Wc z (fun O=>?_) (fun O=>?_)
   ·refine Ws<|E z (f0 (α:=UInt8) N_) ?_
    rintro _ _ ⟨b1,b2,b3,rfl,b4,b5⟩;exact Ra z<|Rw z<|Wr<|rtO<|rtO<|qL (som<|ifT a9 O).symm<|Y_ hr z z ⟨bup (bup (bM s7 sb<|d_ lr) s6) b4,b1,b2,b3,[G.z],z,b5,a_0,m1<|lt_ (lt_ s7.s sb.s) s6.s⟩
   refine Wm z<|R z (Z_ z z)<|Rw z ?_
   obtain ⟨b6,ab,V⟩:=bdS<|ifF a9 O;refine Wt (fun a w=>∃(xr:List UInt8)(xo:Int),Sum.inl (xr,xo)=b6/\∃au ns cv Sj,Sat 79 [(0,sl A0 N0 C0),(4,sl au ns cv),(5,vI xo)] a/\Chg (· ∈ h) G w/\a_ w Sj (sl au ns cv) xr/\Sj.Nodup/\(∀k∈Sj,k∈h∨G.z<=k)/\inI xo) ?_ ?_
   ·refine Wc z (fun W=>?_)<|fun W=>?_
    ·refine Wq<|Ws<|Rw z ?_
     obtain ⟨_,aB,ad⟩:=bdS<|ifT ab W;refine Wf (σ:=List UInt8) (ρ:=(List UInt8)×Bool) (fun (ak:Nat)(xh:List UInt8) a w=>∃ac nd ce S2,Sat 79 [(0,sl A0 N0 C0),(4,sl ac nd ce),(5,vI x4),(6,vI<|byteI xm),(7,vI ((ak:Nat):Int))] a/\Chg (· ∈ h) G w/\a_ w S2 (sl ac nd ce) xh/\S2.Nodup/\(∀k∈S2,k∈h∨G.z<=k)) (fun (xh:List UInt8) a w=>∃ac nd ce S2,Sat 79 [(0,sl A0 N0 C0),(4,sl ac nd ce),(5,vI x4)] a/\Chg (· ∈ h) G w/\a_ w S2 (sl ac nd ce) xh/\S2.Nodup/\(∀k∈S2,k∈h∨G.z<=k)) (fun r ex a w=>ex = .ret/\w_ prog fn (Q12 w0 B r) a w) aB ?_ ?_ ?_ ?_ ?_
     ·exact fun _ q=>⟨I,J,L,h,q.k<|s5 z z z z z,cr h G,hl.e s6,hn,io sr⟩
     ·rintro ak xh _ al _ ae ⟨ac,nd,ce,S2,aC,a1,hp,hq,ht⟩ aD;refine Wu ?_ aC;refine Wq<|Wm z<|Rm z<|R z (sb_ z z)<|Rl z z z<|Wx z (fun _=>?_) (fun hc=>(j_z ae hc).elim)
      refine Wk<|Wq<|Wb<|Wg<|RM z z<|Rm z<|R z (add_ z z) ?_
      obtain ⟨b7,b8,aE⟩:=bdS aD;refine RX z (at_ (α:=UInt8) j_ z_5 z z z (p1_0.g<|(hw.e s6).c a1<|f_ (or1 hi aj (n_<|zt' hBw s7.s):∀k∈h,¬B k)) b8) ?_;rintro _ ⟨_,_,_,rfl,b9,ba,_⟩;obtain rfl:=u8 ba;refine R z (l0 g_5 z<|b9.at0 z)<|E z (fS [(.tmp 69)] N_ z z z (a_z z) (lb z)<|lb z) ?_
      rintro _ am ⟨rfl,a2⟩;have a3:=a2.below;have bY:=b_E a2 b_j;obtain ⟨bb,bc,aF⟩:=bdS aE;refine E z (b_d (α:=UInt8) N_ bc z z (hp.e a3) hq (a2.blk:Blk am al.z [vU (byteI b7)]) b_j an_ H_) ?_;rintro _ be ⟨an,bf,bg,bh,rfl,bi,bj,bk,bm⟩;refine Rw z<|Wg<|Rm z<|R z (inc_ ae (tl_<|iS _ _) z z)<|Ra z<|Wl ?_
      have ao:∀k∈S2,k∈h∨G.z<=k:=or1 ht (io sr)<|l_ lr;exact fun _ q=>⟨bb,(som aF).symm,⟨bf,bg,bh,an,q.k<|s5 z z z z z,(cM (i_ (cM (cr h G) a1 (io sr):Chg (· ∈ h) G al) a3:Chg (· ∈ h) G am) bi ao:Chg (· ∈ h) G be),bj,bk,(or2 bm ao an_ (l_<|lt_ a1.s a3.s):∀k∈an,k∈h∨G.z<=k)⟩⟩
     ·rintro xh _ bn ⟨ac,nd,ce,S2,aG,bo,hp,hq,ht⟩;refine Wu ?_ aG;refine Wq<|Wm z<|Rm z<|R z (sb_ z z)<|Rl z z z<|Wx z (fun hc=>(j_A hc).elim) (fun _=>?_)
      exact We<|fun a' ha'=>⟨rfl,⟨ac,nd,ce,S2,Sat.weaken ha'<|s3 z z z,(cM (cr h G) bo (io sr):Chg (· ∈ h) G bn),hp,hq,(or1 ht (io sr) (l_ lr):∀k∈S2,k∈h∨G.z<=k)⟩⟩
     ·rintro xh bp bq rfl ⟨ac,nd,ce,S2,_,bt,hp,hq,ht⟩;have aH:=elL ad;revert bp;refine Wo<|Wg<|Rm z<|R z (add_ z z)<|Ra z<|Wl ?_
      exact fun _ q=>⟨xh,b_ x4 2,som aH,ac,nd,ce,S2,q.k<|s3 z z z,(cM (cr h G) bt (io sr):Chg (· ∈ h) G bq),hp,hq,(or1 ht (io sr) (l_ lr):∀k∈S2,k∈h∨G.z<=k),iA _ _⟩
     rintro _ _ _ _ rfl ⟨rfl,aI⟩;have aJ:=elR ad;obtain rfl:=som aJ;have aK:=elR V;exact ⟨e_Y<|e_Y<|f_g (som aK).symm ⟨rfl,aI⟩,z⟩
    have af:=ifF ab W;refine Wq<|Wm z<|R z (add_ z z)<|Rm z<|R z (add_ z z)<|Rm z ?_
    have ap:=p1_0.g<|hw.e s6
    refine R z (lnR j_ z ap)<|R z (Z_ z z)<|Wx z (fun Y=>?_) (fun Y=>?_)
    ·refine Ws<|E z (f0 (α:=UInt8) N_) ?_
     rintro _ _ ⟨bu,bv,bw,rfl,bx,bz⟩;refine Ra z<|Rw z ?_
     obtain rfl:=som<|ifT af Y;have aL:=elR V;exact Wr<|rtO<|rtO<|qL (som aL).symm<|Y_ hr z z ⟨bup (bup (bM s7 sb<|d_ lr) s6) bx,bu,bv,bw,[G.z],z,bz,a_0,m1<|lt_ (lt_ s7.s sb.s) s6.s⟩
    refine Wk<|Wm z<|RM z z<|R z (add_ z z)<|Rm z<|R z (add_ z z)<|Rm z<|R z (add_ z z) ?_
    obtain ⟨_,bA,aM⟩:=bdS<|ifF af Y;refine RX z (rX j_ z_5 z z ap z z bA) ?_;rintro _ ⟨_,_,_,rfl,bB⟩;obtain ⟨bC,bD,aN⟩:=bdS aM;refine E z (fN (α:=UInt8) N_ bD z z (hl.e s6) hn bB) ?_;rintro _ bE ⟨aq,bF,bG,bH,rfl,bI,bJ,bK,bL⟩;refine Rw z<|Wg<|Rm z<|R z (add_ z z)<|Rm z<|R z (add_ z z)<|Ra z<|Wl ?_
    exact fun _ q=>⟨bC,b_ (b_ x4 1)<|byteI xm,som aN,bF,bG,bH,aq,q.k<|s3 z z z,(cM (cr h G) bI (io sr):Chg (· ∈ h) G bE),bJ,bK,(or1 bL (io sr) (l_ lr):∀k∈aq,k∈h∨G.z<=k),iA _ _⟩
   rintro bN ar ⟨xr,xo,rfl,au,ns,cv,Sj,_,a4,av,bO,bP,bQ⟩;have aO:=elL V;have ah:=a_5 aO;revert bN;refine Wo<|Wm z<|R z (lnR j_ z<|a_.rep av)<|R z (Z_ z z)<|Wx z (fun a0=>?_) (fun a0=>?_)
   ·refine Ws<|E z (f0 (α:=UInt8) N_) ?_
    rintro _ _ ⟨bR,bS,bT,rfl,bU,bV⟩;refine Ra z<|Rw z ?_
    exact Wr<|rtO<|qL (som<|ifT ah a0).symm<|Y_ hr z z ⟨bup (bM (bup (bM s7 sb<|d_ lr) s6) a4 (or1 hi (d_ lr) (a_S s7.s):∀k∈h,w0.z<=k)) bU,bR,bS,bT,[ar.z],z,bV,a_0,m1<|lt_ (lt_ (lt_ s7.s sb.s) s6.s) a4.s⟩
   refine a_e ?_;have aw:∀k∈h,k∈[w0.z]∨H.z<=k:=or1 hi (io sr)<|l_ lr;exact fun _ q=>⟨(xr,xo),(som<|ifF ah a0).symm,⟨au,ns,cv,Sj,q.k<|s3 z z z,(cM (i_ (cM (cr [w0.z] H) sb (io sr):Chg (· ∈ [w0.z]) H wg) s6:Chg (· ∈ [w0.z]) H G) a4 aw:Chg (· ∈ [w0.z]) H ar),av,bO,(or1 bP aw (l_<|lt_ sb.s s6.s):∀k∈Sj,k∈[w0.z]∨H.z<=k),bQ⟩⟩
  exact We<|fun a' ha'=>b_e (som<|ifF a7 hcy).symm ⟨I,J,L,h,Sat.weaken ha'<|s1 z,(cM (cr [w0.z] H) sb (io sr):Chg (· ∈ [w0.z]) H wg),hl,hn,(or1 hi (io sr) (l_ lr):∀k∈h,k∈[w0.z]∨H.z<=k),ai⟩
 ·rintro ⟨xk,x4⟩ bW _ rfl ⟨I,J,L,h,_,bX,hl,hn,hi,ai⟩;have aP:=elL a6;revert bW;refine Wo<|Wm z<|Ra z<|Rw z ?_
  obtain rfl:=som<|a_5 aP;exact Wr<|Y_ hr z z ⟨bM s7 bX<|d_ lr,I,J,L,h,z,hl,hn,(or1 hi (d_ lr) (a_S s7.s):∀k∈h,w0.z<=k)⟩
 rintro _ _ _ _ rfl ⟨rfl,aQ⟩;have aR:=elR a6;obtain rfl:=som aR;exact ⟨aQ,z⟩
theorem k_w {x1:Str}{res:Bool}(hm:e_Z x1=some res)(hBw:B<=w0.z)(p1_0:x1.b.length<=LEN):h_ prog 173 [Str.v x1] w0 (Q11 w0 B res):=by
 unfold e_Z at hm
 refine goF func173 z z (lb z) fun fn hr=>Ws<|Rw z<|Wq<|Ws<|Rw z ?_
 obtain ⟨_,hus,hmc⟩:=bdS hm;refine Wf (σ:=Unit) (ρ:=Bool) (fun (k4:Nat)(_:Unit) a w=>Sat 45 [(0,Str.v x1),(3,vI ((k4:Nat):Int))] a/\Below w0.z w0 w) (fun (_:Unit) a w=>Sat 45 [(0,Str.v x1)] a/\Below w0.z w0 w) (fun r ex a w=>ex = .ret/\w_ prog fn (Q11 w0 B r) a w) hus ?_ ?_ ?_ ?_ ?_
 ·exact fun _ q=>⟨q.k<|s2 z z,br w0⟩
 ·rintro k4 _ _ L _ hkd ⟨hSt,se⟩ hmu;refine Wu ?_ hSt;refine Wq<|Wm z<|Rm z<|R z (lnT d_9 z)<|Rl z z z<|Wx z (fun _=>?_) (fun hc=>(P_ hkd hc).elim)
  refine Wk<|Wq<|Wb<|Wq ?_
  obtain ⟨uv,huw,hmx⟩:=bdS hmu;refine Wt (fun a w=>∃(x5:Bool),x5=uv/\Sat 45 [(0,Str.v x1),(3,vI ((k4:Nat):Int)),(4,vB x5)] a/\Below L.z L w) ?_ ?_
  ·refine Wg<|RM z z ?_
   obtain ⟨xy,ef,hmg⟩:=bdS huw;refine R z (c_o d_9 z z (a_A ef).1 (a_A ef).2.1)<|R z (b_l z z)<|Rm z ?_
   rcases bs (decide<|(byteI (97:UInt8))<=(byteI xy)) with G | G
   ·refine Rh z G (mv z)<|Rh z G (mv z) ?_
    obtain ⟨xz,eh,W⟩:=bdS<|ifT hmg G;exact Rh z G (c_o d_9 z z (a_A eh).1 (a_A eh).2.1)<|Rh z G (d_l z z)<|R z (pT z G z)<|Ra z<|Wl (fun _ q=>⟨decide<|(byteI xz)<=(byteI (122:UInt8)),som W,q.k<|s3 z z z,br L⟩)
   iterate 4 refine Nh z G ?_
   exact R z (pF z G z)<|Ra z<|Wl (fun _ q=>⟨false,som<|ifF hmg G,q.k<|s3 z z z,br L⟩)
  rintro a7 O ⟨x5,rfl,_,si⟩;revert a7;refine Wo<|Wq ?_
  obtain ⟨a8,Y,a0⟩:=bdS hmx;refine Wt (fun a w=>∃(V:Bool),V=a8/\Sat 45 [(0,Str.v x1),(3,vI ((k4:Nat):Int)),(4,vB x5),(5,vB V)] a/\Below O.z O w) ?_ ?_
  ·refine Wg<|RM z z ?_
   obtain ⟨a9,ej,hmk⟩:=bdS Y;refine R z (c_o d_9 z z (a_A ej).1 (a_A ej).2.1)<|R z (b_l z z)<|Rm z ?_
   rcases bs (decide<|(byteI (48:UInt8))<=(byteI a9)) with H | H
   ·refine Rh z H (mv z)<|Rh z H (mv z) ?_
    obtain ⟨aa,el,a1⟩:=bdS<|ifT hmk H;exact Rh z H (c_o d_9 z z (a_A el).1 (a_A el).2.1)<|Rh z H (d_l z z)<|R z (pT z H z)<|Ra z<|Wl (fun _ q=>⟨decide<|(byteI aa)<=(byteI (57:UInt8)),som a1,q.k<|s4 z z z z,br O⟩)
   iterate 4 refine Nh z H ?_
   exact R z (pF z H z)<|Ra z<|Wl (fun _ q=>⟨false,som<|ifF hmk H,q.k<|s4 z z z z,br O⟩)
  rintro ab J ⟨V,rfl,_,sm⟩;revert ab;refine Wo<|Wq ?_
  obtain ⟨ad,hun,hmo⟩:=bdS a0;refine Wt (fun a w=>∃(xa:Bool),xa=ad/\Sat 45 [(0,Str.v x1),(3,vI ((k4:Nat):Int)),(41,vB xa)] a/\Below J.z J w) ?_ ?_
  ·refine Wg<|Rm z<|R z (not_ z)<|Rm z ?_
   rcases bs (!x5) with h | h
   ·have hmp:=ifT hun h;refine Rh z h (mv z)<|Rh z h (not_ z)<|Rh z h (mv z) ?_
    rcases bs (!V) with I | I
    ·exact Nh z I<|Nh z I<|Rh z h (pT z I z)<|R z (pT z h z)<|Wl (fun _ q=>⟨true,som<|ifT hmp I,q.k<|s3 z z z,br J⟩)
    exact Rh z I (mv z)<|Rh z I (eql z z)<|Rh z h (pF z I z)<|R z (pT z h z)<|Wl (fun _ q=>⟨((k4:Nat):Int)==0,som<|ifF hmp I,q.k<|s3 z z z,br J⟩)
   iterate 3 refine Nh z h ?_
   exact Nv z<|Nv z<|Nh z h<|R z (pF z h z)<|Wl (fun _ q=>⟨false,som<|ifF hun h,q.k<|s3 z z z,br J⟩)
  rintro ae _ ⟨xa,rfl,_,sq⟩;revert ae;refine Wo<|Wc z (fun hcb=>?_) (fun hcb=>?_)
  ·exact Ws<|Rw z<|Wr<|rtO<|qL (som<|ifT hmo hcb).symm<|c_ hr z ⟨bup (bup (bup se si) sm) sq,z⟩
  exact Wk<|Wg<|Rm z<|R z (inc_ hkd (lt_ p1_0 A_) z z)<|Ra z<|Wl (fun _ q=>⟨(),(som<|ifF hmo hcb).symm,⟨q.k<|s2 z z,bup (bup (bup se si) sm) sq⟩⟩)
 ·rintro _ _ _ ⟨a2,af⟩;refine Wu ?_ a2;refine Wq<|Wm z<|Rm z<|R z (lnT d_9 z)<|Rl z z z<|Wx z (fun hc=>(Q_ hc).elim) (fun _=>?_)
  exact We<|fun a' ha'=>⟨rfl,⟨Sat.weaken ha'<|s1 z,af⟩⟩
 ·rintro _ ah _ rfl ⟨_,sr⟩;have a3:=elL hmc;revert ah;refine Wo<|Wm z<|R z (lnT d_9 z) ?_
  obtain ⟨_,ai,a4⟩:=bdS a3;refine E z (fc call103 z<|b_c ai (zt' hBw sr.s) (b_W p1_0) (ii z)<|ii z) ?_;rintro _ _ ⟨aj,rfl⟩;refine Rw z ?_
  obtain rfl:=som a4;exact Wr<|c_ hr z ⟨bup sr aj,z⟩
 rintro _ _ _ _ rfl ⟨rfl,a5⟩;have a6:=elR hmc;obtain rfl:=som a6;exact ⟨a5,z⟩
theorem W_w2j {x1:o_}{res:Bool}(hm:i_P x1=some res)(hBw:B<=w0.z)(p1_0:inI x1.kind)(p1_1:x1.name.b.length<=LEN)(p1_2:inI x1.version)(V:repS w0 B (sl AD ND CD) x1.data):h_ prog 254 [(.agg #[vI x1.kind,Str.v x1.name,vI x1.version,sl AD ND CD])] w0 (Q11 w0 B res):=by
 unfold i_P at hm
 refine goF func254 z z (lb z) fun fn hr=>Ws<|E z (fb z) ?_
 rintro _ wb ⟨rfl,hd⟩;have O:=hd.below;have he:Blk wb w0.z [vI x1.kind,Str.v x1.name,vI x1.version,sl AD ND CD]:=hd.blk;refine Rw z<|Wq ?_
 obtain ⟨up,huq,hmr⟩:=bdS hm;refine Wt (fun a w=>∃(xc:Bool),xc=up/\Sat 38 [(2,vB xc)] a/\Below wb.z wb w) ?_ ?_
 ·refine Wg<|Rf z d_a z<|R z (l0 g_3 z<|he.at z) ?_
  obtain ⟨rs,et,hmf⟩:=bdS huq;refine E z (fc call103 z<|b_c et (zt' hBw O.s) p1_0 (ii z)<|ii z) ?_;rintro _ _ ⟨s2,rfl⟩;refine Rm z ?_
  rcases bs rs with J | J
  ·refine Rh z J (fd d_S z) ?_;have hg:=he.e s2;refine Rh z J (l0 g_9 z<|hg.at z) ?_;have hh:=lt_ O.s s2.s;obtain ⟨ru,ev,hmi⟩:=bdS<|ifT hmf J;refine Eg z z J z (fc call173 z<|k_w ev (zt' hBw hh) p1_1) ?_;rintro _ _ ⟨s6,rfl⟩;refine R z (pT z J z)<|Rm z ?_
   rcases bs ru with L | L
   ·refine Rh z L (fd d_b z) ?_;have hj:=hg.e s6;refine Rh z L (l0 g_3 z<|hj.at z) ?_;obtain ⟨rx,ew,hmk⟩:=bdS<|ifT hmi L;refine Eg z z L z (fc call103 z<|b_c ew (zt' hBw<|lt_ hh s6.s) p1_2 (ii z)<|ii z) ?_;rintro _ _ ⟨s8,rfl⟩;refine R z (pT z L z)<|Rm z ?_
    rcases bs rx with H | H
    ·have hml:=ifT hmk H;refine Rh z H (fd d_T z) ?_;have ha:=hj.e s8;refine Rh z H (l0 M_ z<|ha.at z) ?_;have hn:=V.g<|(((O.ag B).e s2).e s6).e s8
     refine Rh z H (lnR j_ z hn)<|Rh z H (d_l z z)<|R z (pT z H z)<|Rm z ?_
     rcases bs (decide<|(x1.data.length:Int)<=400) with h | h
     ·have hmm:=ifT hml h;refine Rh z h (fd d_a z)<|Rh z h (l0 g_3 z<|ha.at z)<|Rh z h (eql z z)<|Rh z h (mv z) ?_
      rcases bs (x1.kind==1) with G | G
      ·iterate 4 refine Nh z G ?_
       exact Nv z<|Nv z<|Nv z<|Nv z<|Nh z G<|Rh z h (pT z G z)<|R z (pT z h z)<|Ra z<|Wl (fun _ q=>⟨true,som<|ifT hmm G,q.k<|s1 z,bup (bup s2 s6) s8⟩)
      have hmo:=ifF hmm G;refine Rh z G (fd d_b z)<|Rh z G (l0 g_3 z<|ha.at z)<|Rh z G (eql z z)<|Rh z G (mv z) ?_
      rcases bs (x1.version==0) with I | I
      ·exact Rh z I (fd d_T z)<|Rh z I (l0 M_ z<|ha.at z)<|Rh z I (lnR j_ z hn)<|Rh z I (eql z z)<|Rh z G (pT z I z)<|Rh z h (pF z G z)<|R z (pT z h z)<|Ra z<|Wl (fun _ q=>⟨(x1.data.length:Int)==0,som<|ifT hmo I,q.k<|s1 z,bup (bup s2 s6) s8⟩)
      iterate 4 refine Nh z I ?_
      exact Rh z G (pF z I z)<|Rh z h (pF z G z)<|R z (pT z h z)<|Ra z<|Wl (fun _ q=>⟨false,som<|ifF hmo I,q.k<|s1 z,bup (bup s2 s6) s8⟩)
     iterate 4 refine Nh z h ?_
     exact Nv z<|Nv z<|Nv z<|Nv z<|Nv z<|Nv z<|Nv z<|Nv z<|Nv z<|Nh z h<|R z (pF z h z)<|Ra z<|Wl (fun _ q=>⟨false,som<|ifF hml h,q.k<|s1 z,bup (bup s2 s6) s8⟩)
    iterate 4 refine Nh z H ?_
    exact R z (pF z H z)<|Rm z<|Nh z z<|Nh z z<|Nh z z<|Nh z z<|Nv z<|Nv z<|Nv z<|Nv z<|Nv z<|Nv z<|Nv z<|Nv z<|Nv z<|Nh z z<|R z (pF z z z)<|Ra z<|Wl (fun _ q=>⟨false,som<|ifF hmk H,q.k<|s1 z,bup (bup s2 s6) s8⟩)
   iterate 3 refine Nh z L ?_
   refine R z (pF z L z)<|Rm z<|Nh z z<|Nh z z<|Nh z z<|Nh z z<|R z (pF z z z)<|Rm z<|Nh z z<|Nh z z<|Nh z z<|Nh z z<|Nv z<|Nv z<|Nv z<|Nv z<|Nv z<|Nv z<|Nv z<|Nv z<|Nv z<|Nh z z<|R z (pF z z z)<|Ra z<|Wl ?_
   exact fun _ q=>⟨false,som<|ifF hmi L,q.k<|s1 z,bup s2 s6⟩
  iterate 3 refine Nh z J ?_
  refine R z (pF z J z)<|Rm z<|Nh z z<|Nh z z<|Nh z z<|R z (pF z z z)<|Rm z<|Nh z z<|Nh z z<|Nh z z<|Nh z z<|R z (pF z z z)<|Rm z<|Nh z z<|Nh z z<|Nh z z<|Nh z z<|Nv z<|Nv z<|Nv z<|Nv z<|Nv z<|Nv z<|Nv z<|Nv z ?_
  exact Nv z<|Nh z z<|R z (pF z z z)<|Ra z<|Wl (fun _ q=>⟨false,som<|ifF hmf J,q.k<|s1 z,s2⟩)
 rintro ay _ ⟨xc,rfl,_,sz⟩;revert ay;refine Wo ?_;obtain rfl:=som hmr;exact Wr<|c_ hr z ⟨bup O sz,z⟩
theorem W_w10 {x1:List UInt8}{x2:Int}{res:Int}(hm:f_O n x1 x2=some res)(hBw:B<=w0.z)(p1_0:repS w0 B (sl A0 N0 C0) x1)(p2_0:inI x2):h_ prog 270 [sl A0 N0 C0,vI x2] w0 (Q0 w0 B res):=by
 unfold f_O at hm
 refine goF func270 z z (lb z) fun fn hr=>Ws<|Rw z<|Wq<|Wm z<|Rm z<|R z (lnR j_ z p1_0)<|R z (sb_ z z) ?_
 obtain ⟨_,eh,hmb⟩:=bdS hm;refine E z (fc call103 z<|b_c (B:=B) eh hBw p2_0 (ii z)<|iS _ _) ?_;rintro _ G ⟨s2,rfl⟩;refine R z (not_ z)<|Wx z (fun H=>?_) (fun H=>?_)
 ·refine Ws<|Rw z ?_
  obtain rfl:=som<|ifT hmb H;exact Wr<|c_ hr z ⟨s2,z,ii z⟩
 refine Wk<|Ws<|Rw z<|Wq ?_
 obtain ⟨_,hui,hmc⟩:=bdS<|ifF hmb H;refine b_u (σ:=Int) (ρ:=Int) (fun (x3:Int) a w=>Sat 34 [(0,sl A0 N0 C0),(1,vI x2),(5,vI x3)] a/\Below G.z G w/\inI x3) (fun (x3:Int) a w=>Sat 34 [(5,vI x3)] a/\Below G.z G w/\inI x3) (fun r ex a w=>ex = .ret/\w_ prog fn (Q0 w0 B r) a w) hui ?_ ?_ ?_ ?_
 ·exact fun _ q=>⟨q.k<|s3 z z z,br G,ii z⟩
 ·rintro x3 _ wd _ ⟨hSj,s5,h6⟩ hmk;refine Wu ?_ hSj;refine Wq<|Wq ?_
  obtain ⟨ul,hue,hmf⟩:=bdS hmk;refine Wt (fun a w=>∃(I:Bool),I=ul/\Sat 34 [(0,sl A0 N0 C0),(1,vI x2),(5,vI x3),(30,vB I)] a/\Below wd.z wd w) ?_ ?_
  ·refine Wd (X:=noX) 0 (pl_ 19 []) mo (by kernel_rfl) fun V s8 _=>dM z z z<|dM z z z<|dR z z (add_ z z)<|dM z z z ?_
   have J:=p1_0.g<|((s2.ag B).e s5).e s8
   refine dR z z (lnR j_ z J)<|dR z z (lss z z)<|dM z z z ?_
   rcases bs (decide<|(b_ x2 x3)<(x1.length:Int)) with h | h
   ·iterate 3 refine dRg z z z h z (mv z) ?_
    refine dRg z z z h z (add_ z z) ?_;obtain ⟨xm,en,hmo⟩:=bdS<|ifT hue h;refine a_K z z z h z (at_ (α:=UInt8) j_ z_5 z z z J en) ?_;rintro _ ⟨_,_,_,rfl,hp,hq,_⟩;obtain rfl:=u8 hq;refine dRg z z z h z (l0 g_5 z<|hp.at0 z)<|dRg z z z h z (mv z)<|dRg z z z h z (mv z) ?_
    obtain ⟨xr,es,hmt⟩:=bdS hmo;refine a_K z z z h z (at_ (α:=UInt8) j_ z_5 z z z J es) ?_;rintro _ ⟨_,_,_,rfl,hu,hv,_⟩;obtain rfl:=u8 hv;exact dRg z z z h z (l0 g_5 z<|hu.at0 z)<|dRg z z z h z (eql z z)<|dR z z (pT z h z)<|pD (fun _ q=>⟨(byteI xm)==(byteI xr),som hmt,q.k<|s4 z z z z,s8⟩)
   iterate 11 refine dRn z z z h z ?_
   exact dR z z (pF z h z)<|pD (fun _ q=>⟨false,som<|ifF hue h,q.k<|s4 z z z z,s8⟩)
  rintro aw _ ⟨I,rfl,_,sg⟩;revert aw;refine Wo<|Wc z (fun hca=>?_) (fun hca=>?_)
  ·exact Wk<|Wb<|Wg<|Rm z<|R z (add_ z z)<|Ra z<|Wl (fun _ q=>⟨b_ x3 1,(som<|ifT hmf hca).symm,⟨q.k<|s3 z z z,bup s5 sg,iA _ _⟩⟩)
  exact We<|fun a' ha'=>b_e (som<|ifF hmf hca).symm ⟨Sat.weaken ha'<|s1 z,bup s5 sg,h6⟩
 ·rintro x3 ax _ rfl ⟨_,sy,h6⟩;have hmz:=elL hmc;revert ax;refine Wo<|Wm z<|Rw z ?_
  obtain rfl:=som hmz;exact Wr<|c_ hr z ⟨bup s2 sy,z,h6⟩
 rintro _ _ _ _ rfl ⟨rfl,L⟩;have O:=elR hmc;obtain rfl:=som O;exact ⟨L,z⟩
theorem W_w2k {x1:Int}{x2:Int}{res:Int}(hm:i_Q x1 x2=some res)(hBw:B<=w0.z)(p1_0:inI x1)(p2_0:inI x2):h_ prog 104 [vI x1,vI x2] w0 (Q0 w0 B res):=by
 unfold i_Q at hm
 refine goF func104 z z (lb z) fun fn hr=>Ws<|Rw z<|Wq<|Wm z<|Rm z<|Rl z z z<|Wx z (fun h=>?_) (fun h=>?_)
 ·refine Wm z<|Rw z ?_
  obtain rfl:=som<|ifT hm h;exact Wr<|c_ hr z ⟨br w0,z,p2_0⟩
 refine Wk<|Wm z<|Rw z ?_
 obtain rfl:=som<|ifF hm h;exact Wr<|c_ hr z ⟨br w0,z,p1_0⟩
theorem W_w2l {x1:List UInt8}{res:(List UInt8)}(hm:i_R n x1=some res)(hBw:B<=w0.z)(p1_0:repS w0 B (sl A0 N0 C0) x1):h_ prog 255 [sl A0 N0 C0] w0 (Q1 w0 B res):=by
 unfold i_R at hm
 refine goF func255 z z (lb z) fun fn hr=>Ws<|Rw z<|Ws<|E z (f0 (α:=UInt8) N_) ?_
 rintro _ I ⟨aX,aY,aZ,rfl,se,b0⟩;refine Rw z<|Wq<|Ws<|Rw z ?_
 obtain ⟨_,aB,a7⟩:=bdS hm;refine b_u (σ:=(List UInt8)×Int) (ρ:=List UInt8) (fun s a w=>un2 (fun xf x4=>∃J L O G,Sat 64 [(0,sl A0 N0 C0),(3,sl J L O),(4,vI x4)] a/\Chg (· ∈ [w0.z]) I w/\a_ w G (sl J L O) xf/\G.Nodup/\(∀k∈G,k∈[w0.z]∨I.z<=k)/\inI x4) s) (fun s a w=>un2 (fun xf x4=>∃J L O G,Sat 64 [(3,sl J L O)] a/\Chg (· ∈ [w0.z]) I w/\a_ w G (sl J L O) xf/\G.Nodup/\(∀k∈G,k∈[w0.z]∨I.z<=k)/\inI x4) s) (fun r ex a w=>ex = .ret/\w_ prog fn (Q1 w0 B r) a w) aB ?_ ?_ ?_ ?_
 ·exact fun _ q=>⟨aX,aY,aZ,[w0.z],q.k<|s3 z z z,cr [w0.z] I,b0,a_0,io sr,ii z⟩
 ·rintro ⟨xf,x4⟩ _ H _ ⟨J,L,O,G,aC,sg,hh,hi,hj,hn⟩ aD;have a8:=a_5 aD;refine Wu ?_ aC;refine Wq<|Wm z<|Rm z ?_
  have ah:∀k∈[w0.z],¬B k:=or0 (d_ lr)<|n_ hBw;have ho:=(se.ag B).c sg<|f_ ah
  have ai:=p1_0.g ho;refine R z (lnR j_ z ai)<|Rl z z z<|Wx z (fun hcy=>?_) (fun hcy=>?_)
  ·refine Wk ?_;obtain ⟨b1,aE,a9⟩:=bdS<|ifT a8 hcy;refine Wt (fun a w=>∃(xp:List UInt8)(xk:Int),Sum.inl (xp,xk)=b1/\∃aq nr cs Sd,Sat 64 [(0,sl A0 N0 C0),(3,sl aq nr cs),(4,vI xk)] a/\Chg (· ∈ G) H w/\a_ w Sd (sl aq nr cs) xp/\Sd.Nodup/\(∀k∈Sd,k∈G∨H.z<=k)/\inI xk) ?_ ?_
   ·refine Wb<|Wm z<|Rm z ?_
    have aj:=lt_ se.s sg.s;obtain ⟨_,b2,aF⟩:=bdS aE;refine E z (fc call270 z<|W_w10 b2 (zt' hBw aj) ai hn) ?_;rintro _ ak ⟨s8,rfl,b3⟩;have al:=lt_ aj s8.s;obtain ⟨rt,b4,aa⟩:=bdS aF;refine E z (fc call104 z<|W_w2k b4 (zt' hBw al) b3<|ii z) ?_;rintro _ V ⟨sa,rfl,_⟩;refine Rw z<|Wq<|Wm z<|R z (b_l z z)<|Wx z (fun hcz=>?_) (fun hcz=>?_)
    ·refine Wm z<|Rm z<|R z (add_ z z)<|R z (c_1 d_3 d_5 z)<|RM z z ?_
     obtain ⟨Y,b5,aG⟩:=bdS<|ifT aa hcz;refine RX z (at_ (α:=UInt8) j_ z_5 z z z (p1_0.g<|(ho.e s8).e sa) b5) ?_;rintro _ ⟨_,_,_,rfl,b6,b7,_⟩;obtain rfl:=u8 b7;refine R z (l0 g_5 z<|b6.at0 z)<|E z (fS [(.tmp 21),(.tmp 25)] N_ z z z (a_z z) (lb z)<|lb z) ?_
     rintro _ a0 ⟨rfl,am⟩;have a1:=am.below;obtain ⟨b8,b9,aH⟩:=bdS aG;refine E z (fN (α:=UInt8) N_ b9 z z (((hh.e s8).e sa).e a1) hi<|a_.rep (h_3 (l:=[mkB (b_ 128 rt),Y]) (am.blk:Blk a0 V.z [(vU<|byteI<|mkB<|b_ 128 rt),vU<|byteI Y]) z:a_ a0 [V.z] (sl (some ⟨V.z,0,none⟩) 2 2) [mkB (b_ 128 rt),Y])) ?_;rintro _ ba ⟨an,bb,bc,be,rfl,bf,bg,bh,bi⟩;refine Rw z<|Wm z<|Rm z<|R z (add_ z z)<|Rw z<|We<|exH ?_
     exact fun _ q=>⟨b8,b_ x4 rt,som aH,bb,bc,be,an,q.k<|s3 z z z,(cM (i_ (i_ (i_ (cr G H) s8:Chg (· ∈ G) H ak) sa:Chg (· ∈ G) H V) a1:Chg (· ∈ G) H a0) bf (io sr):Chg (· ∈ G) H ba),bg,bh,(or1 bi (io sr) (l_<|lt_ (lt_ s8.s sa.s) a1.s):∀k∈an,k∈G∨H.z<=k),iA _ _⟩
    refine Wk<|Wm z<|Rw z<|Wq ?_
    obtain ⟨_,aI,ab⟩:=bdS<|ifF aa hcz;refine b_u (σ:=Int) (ρ:=List UInt8) (fun (x3:Int) a w=>Sat 64 [(0,sl A0 N0 C0),(3,sl J L O),(4,vI x4),(6,vI x3)] a/\Below V.z V w/\inI x3) (fun (x3:Int) a w=>Sat 64 [(0,sl A0 N0 C0),(3,sl J L O),(4,vI x4),(6,vI x3)] a/\Below V.z V w/\inI x3) (fun r ex a w=>ex = .ret/\w_ prog fn (Q1 w0 B r) a w) aI ?_ ?_ ?_ ?_
    ·exact fun _ q=>⟨q.k<|s4 z z z z,br V,hn⟩
    ·rintro x3 _ wu _ ⟨aJ,sv,hw⟩ aK;refine Wu ?_ aJ;refine Wq<|Wq ?_
     obtain ⟨bj,ad,ae⟩:=bdS aK;refine Wt (fun a w=>∃(a2:Bool),a2=bj/\Sat 64 [(0,sl A0 N0 C0),(3,sl J L O),(4,vI x4),(6,vI x3),(47,vB a2)] a/\Below wu.z wu w) ?_ ?_
     ·refine Wg<|RM z z ?_
      have ao:=p1_0.g<|((ho.e s8).e sa).e sv
      refine R z (lnR j_ z ao)<|Rl z z z<|Rm z ?_
      rcases bs (decide<|x3<(x1.length:Int)) with hcb | hcb
      ·have af:=ifT ad hcb;refine Rh z hcb (mv z)<|Rh z hcb (mv z)<|Rh z hcb (sb_ z z)<|Rh z hcb (lss z z)<|R z (pT z hcb z)<|Rm z ?_
       rcases bs (decide<|(x_ x3 x4)<127) with hcc | hcc
       ·refine Rh z hcc (mv z)<|Rh z hcc (mv z) ?_
        obtain ⟨bk,bm,aL⟩:=bdS<|ifT af hcc;refine Eg z z hcc z (fc call270 z<|W_w10 bm (zt' hBw<|lt_ (lt_ al sa.s) sv.s) ao hw) ?_;rintro _ _ ⟨bn,rfl,_⟩;exact Rh z hcc (lss z z)<|R z (pT z hcc z)<|Wl (fun _ q=>⟨decide<|bk<3,som aL,q.k<|s5 z z z z z,bn⟩)
       iterate 4 refine Nh z hcc ?_
       exact R z (pF z hcc z)<|Wl (fun _ q=>⟨false,som<|ifF af hcc,q.k<|s5 z z z z z,br wu⟩)
      iterate 4 refine Nh z hcb ?_
      exact R z (pF z hcb z)<|Rm z<|Nh z z<|Nh z z<|Nh z z<|Nh z z<|R z (pF z z z)<|Wl (fun _ q=>⟨false,som<|ifF ad hcb,q.k<|s5 z z z z z,br wu⟩)
     rintro bo _ ⟨a2,rfl,_,ap⟩;revert bo;refine Wo<|Wc z (fun W=>?_) (fun W=>?_)
     ·exact Wk<|Wb<|Wg<|Rm z<|R z (add_ z z)<|Ra z<|Wl (fun _ q=>⟨b_ x3 1,(som<|ifT ae W).symm,⟨q.k<|s4 z z z z,bup sv ap,iA _ _⟩⟩)
     exact We<|fun a' ha'=>b_e (som<|ifF ae W).symm ⟨Sat.weaken ha'<|s4 z z z z,bup sv ap,hw⟩
    ·rintro x3 bp a3 rfl ⟨_,sx,hw⟩;have aM:=elL ab;revert bp;refine Wo<|Wq (Wd (X:=fun k=>k∈G∨a3.z<=k) 0 (.rd 0<|.rd 1<|.rd 2<|.rd 3<|.rd 4<|.rd 7<|.rd 8<|.rd 9<|.rd 10<|.ef 5<|.ef 6<|.ef 11<|.rd 12 .done) mo (by kernel_rfl) fun ar sm _=>?_)
     iterate 3 refine dM z z z ?_
     refine dR z z (sb_ z z)<|dR z z (c_1 d_3 d_5 z) ?_
     iterate 3 refine dM z z z ?_
     obtain ⟨_,bq,aN⟩:=bdS aM;refine dRX z z (rX j_ z_5 z z (p1_0.g<|(((ho.e s8).e sa).e sx).e sm) z z bq) ?_;rintro _ ⟨_,_,_,rfl,bt⟩;refine dE z z (fS [(.tmp 54)] N_ z z z (a_z z) (lb z)<|lb z) (.inr fun _ _ h=>F_<|h.2.below) ?_;rintro _ au ⟨rfl,a4⟩;have hl:=a4.below;have bT:=b_E a4 b_j;obtain ⟨_,bu,aO⟩:=bdS aN;refine dE z z (b_d (α:=UInt8) N_ bu z z (((((hh.e s8).e sa).e sx).e sm).e hl) hi (a4.blk:Blk au ar.z [(vU<|byteI<|mkB<|x_ x3 x4)]) b_j an_ H_) (.inr fun _ _ h=>by obtain ⟨_,_,_,_,_,h,_⟩:=h;exact h.mono fun k _ hk=>(io sr) k hk) ?_;rintro _ bv ⟨av,_,_,_,rfl,a6,bw,bx,aw⟩;obtain ⟨bz,bA,aP⟩:=bdS aO;refine dE z z (fN (α:=UInt8) N_ bA z z bw bx<|bt.g<|(hl.ag B).c a6<|f_ (or1 hj ah (n_<|zt' hBw se.s):∀k∈G,¬B k)) (.inr fun _ _ h=>by obtain ⟨_,_,_,_,_,h,_⟩:=h;exact h.mono fun k _ hk=>(or2 aw (io sr) an_ (l_<|lt_ sm.s hl.s):∀k∈av,k∈G∨a3.z<=k) k hk) ?_;rintro _ bB ⟨ax,bC,bD,bE,rfl,bF,bG,bH,bI⟩;refine dQ z z z<|pD<|Wo<|Wg<|Rm z<|Ra z<|Wl ?_
     have ay:=lt_ (lt_ (lt_ (lt_ s8.s sa.s) sx.s) sm.s) hl.s;have az:∀k∈av,k∈G∨H.z<=k:=or2 aw (io sr) an_<|l_ ay;exact fun _ q=>⟨bz,x3,som aP,bC,bD,bE,ax,q.k<|s3 z z z,(cM (cM (i_ (i_ (i_ (i_ (i_ (cr G H) s8:Chg (· ∈ G) H ak) sa:Chg (· ∈ G) H V) sx:Chg (· ∈ G) H a3) sm:Chg (· ∈ G) H ar) hl:Chg (· ∈ G) H au) a6 (io sr):Chg (· ∈ G) H bv) bF az:Chg (· ∈ G) H bB),bG,bH,(or1 bI az (l_<|lt_ ay a6.s):∀k∈ax,k∈G∨H.z<=k),hw⟩
    rintro _ _ _ _ rfl ⟨rfl,aQ⟩;have aR:=elR ab;obtain rfl:=som aR;have aS:=elR a9;exact ⟨e_Y<|f_g (som aS).symm ⟨rfl,aQ⟩,z⟩
   rintro bJ bK ⟨xp,xk,rfl,aq,nr,cs,Sd,_,bL,bN,bO,bP,bQ⟩;have aT:=elL a9;revert bJ;have aA:∀k∈G,k∈[w0.z]∨I.z<=k:=or1 hj (io sr)<|l_ lr;exact fun _ q=>⟨(xp,xk),(som<|a_5 aT).symm,⟨aq,nr,cs,Sd,q.k<|s3 z z z,(cM (cM (cr [w0.z] I) sg (io sr):Chg (· ∈ [w0.z]) I H) bL aA:Chg (· ∈ [w0.z]) I bK),bN,bO,(or1 bP aA (l_ sg.s):∀k∈Sd,k∈[w0.z]∨I.z<=k),bQ⟩⟩
  exact We<|fun a' ha'=>b_e (som<|ifF a8 hcy).symm ⟨J,L,O,G,Sat.weaken ha'<|s1 z,(cM (cr [w0.z] I) sg (io sr):Chg (· ∈ [w0.z]) I H),hh,hi,(or1 hj (io sr) (l_ lr):∀k∈G,k∈[w0.z]∨I.z<=k),hn⟩
 ·rintro ⟨xf,x4⟩ bR _ rfl ⟨J,L,O,G,_,bS,hh,hi,hj,hn⟩;have aU:=elL a7;revert bR;refine Wo<|Wm z<|Rw z ?_
  obtain rfl:=som<|a_5 aU;exact Wr<|c_ hr z ⟨bM se bS<|d_ lr,J,L,O,G,z,hh,hi,(or1 hj (d_ lr) (a_S se.s):∀k∈G,w0.z<=k)⟩
 rintro _ _ _ _ rfl ⟨rfl,aV⟩;have aW:=elR a7;obtain rfl:=som aW;exact ⟨aV,z⟩
theorem W_w11 {x1:Int}{res:Int}(hm:f_A x1=some res)(hBw:B<=w0.z)(p1_0:inI x1):h_ prog 107 [vI x1] w0 (Q0 w0 B res):=by
 unfold f_A at hm
 refine goF func107 z z (lb z) fun fn hr=>Ws<|Rw z<|Wm z<|R z (g_8 z z) ?_
 obtain ⟨_,G,h⟩:=bdS hm;refine R z (h_m z z<|nnS G)<|Rw z ?_
 obtain rfl:=som h;exact Wr<|c_ hr z ⟨br w0,z,r_c<|ii z⟩
theorem W_w2m {x1:Int}{x2:Int}{res:(List UInt8)}(hm:i_S n x1 x2=some res)(hBw:B<=w0.z)(p1_0:inI x1)(p2_0:inI x2):h_ prog 165 [vI x1,vI x2] w0 (Q1 w0 B res):=by
 unfold i_S at hm
 refine goF func165 z z (lb z) fun fn hr=>Ws<|Rw z<|Ws<|E z (f0 (α:=UInt8) N_) ?_
 rintro _ wm ⟨ad,ne,cf,rfl,s7,hp⟩;refine Rw z<|Wq<|Wq ?_
 obtain ⟨a9,V,hmq⟩:=bdS hm;refine Wt (fun a w=>∃(xg:Bool),xg=a9/\Sat 35 [(0,vI x1),(1,vI x2),(5,sl ad ne cf),(18,vB xg)] a/\Below wm.z wm w) ?_ ?_
 ·refine Wg<|Rm z ?_
  obtain ⟨aa,ab,hmr⟩:=bdS V;refine E z (fc call103 z<|b_c ab (zt' hBw s7.s) p2_0 (ii z)<|ii z) ?_;rintro _ _ ⟨sh,rfl⟩;refine R z (not_ z)<|Rm z ?_
  rcases bs (!aa) with H | H
  ·iterate 6 refine Nh z H ?_
   exact R z (pT z H z)<|Wl (fun _ q=>⟨true,som<|ifT hmr H,q.k<|s4 z z z z,sh⟩)
  refine Rh z H (mv z)<|Rh z H (mv z) ?_
  have ht:=lt_ s7.s sh.s;obtain ⟨_,ae,W⟩:=bdS<|ifF hmr H;refine Eg z z H z (fc call107 z<|W_w11 ae (zt' hBw ht) p2_0) ?_;rintro _ _ ⟨ss,rfl,_⟩;refine Rh z H (sb_ z z) ?_;obtain ⟨af,ah,Y⟩:=bdS W;refine Eg z z H z (fc call103 z<|b_c ah (zt' hBw<|lt_ ht ss.s) p1_0 (ii z)<|iS _ _) ?_;rintro _ _ ⟨ai,rfl⟩;exact Rh z H (not_ z)<|R z (pF z H z)<|Wl (fun _ q=>⟨!af,som Y,q.k<|s4 z z z z,bup (bup sh ss) ai⟩)
 rintro aj h ⟨xg,rfl,_,s8⟩;revert aj;refine Wo<|Wc z (fun hci=>?_) (fun hci=>?_)
 ·refine Wm z<|Rw z ?_
  obtain rfl:=som<|ifT hmq hci;exact Wr<|c_ hr z ⟨bup s7 s8,ad,ne,cf,[w0.z],z,hp.e s8,a_0,d_ lr⟩
 refine Wk<|Wq<|Wm z<|R z (sb_ z z)<|Rw z ?_
 obtain ⟨_,a0,hmu⟩:=bdS<|ifF hmq hci;refine b_u (σ:=(List UInt8)×Int) (ρ:=List UInt8) (fun s a w=>un2 (fun O x6=>∃I J L G,Sat 35 [(0,vI x1),(5,sl I J L),(6,vI x6)] a/\Chg (· ∈ [w0.z]) h w/\a_ w G (sl I J L) O/\G.Nodup/\(∀k∈G,k∈[w0.z]∨h.z<=k)/\inI x6) s) (fun s a w=>un2 (fun O x6=>∃I J L G,Sat 35 [(5,sl I J L)] a/\Chg (· ∈ [w0.z]) h w/\a_ w G (sl I J L) O/\G.Nodup/\(∀k∈G,k∈[w0.z]∨h.z<=k)/\inI x6) s) (fun r ex a w=>ex = .ret/\w_ prog fn (Q1 w0 B r) a w) a0 ?_ ?_ ?_ ?_
 ·exact fun _ q=>⟨ad,ne,cf,[w0.z],q.k<|s3 z z z,cr [w0.z] h,hp.e s8,a_0,io sr,iS _ _⟩
 ·rintro ⟨O,x6⟩ _ wj _ ⟨I,J,L,G,a1,sk,ha,hb,hc,hv⟩ a2;have hmw:=a_5 a2;refine Wu ?_ a1;refine Wq<|Wm z<|R z (b_l z z)<|Wx z (fun hcl=>?_) (fun hcl=>?_)
  ·refine Wk<|Wq<|Wb<|Wg<|RM z z<|Rm z<|R z (g_8 z z) ?_
   obtain ⟨_,ak,a4⟩:=bdS<|ifT hmw hcl;refine R z (n_m z z<|nnS ak)<|R z (c_1 d_3 d_5 z)<|E z (fS [(.tmp 31)] N_ z z z (a_z z) (lb z)<|lb z) ?_
   rintro _ wx ⟨rfl,hn⟩;have ho:=hn.below;have az:=b_E hn b_j;obtain ⟨al,am,a5⟩:=bdS a4;refine E z (b_d (α:=UInt8) N_ am z z (ha.e ho) hb (hn.blk:Blk wx wj.z [(vU<|byteI<|mkB<|c_R .i64 x1<|b_6 8 x6)]) b_j an_ H_) ?_;rintro _ an ⟨Sy,ao,ap,aq,rfl,ar,au,av,aw⟩;refine Rw z<|Wg<|Rm z<|R z (sb_ z z)<|Ra z<|Wl ?_
   have hz:∀k∈G,k∈[w0.z]∨h.z<=k:=or1 hc (io sr)<|l_ lr;exact fun _ q=>⟨(al,x_ x6 1),(som a5).symm,⟨ao,ap,aq,Sy,q.k<|s3 z z z,(cM (i_ (cM (cr [w0.z] h) sk (io sr):Chg (· ∈ [w0.z]) h wj) ho:Chg (· ∈ [w0.z]) h wx) ar hz:Chg (· ∈ [w0.z]) h an),au,av,(or2 aw hz an_ (l_<|lt_ sk.s ho.s):∀k∈Sy,k∈[w0.z]∨h.z<=k),iS _ _⟩⟩
  exact We<|fun a' ha'=>b_e (som<|ifF hmw hcl).symm ⟨I,J,L,G,Sat.weaken ha'<|s1 z,(cM (cr [w0.z] h) sk (io sr):Chg (· ∈ [w0.z]) h wj),ha,hb,(or1 hc (io sr) (l_ lr):∀k∈G,k∈[w0.z]∨h.z<=k),hv⟩
 ·rintro ⟨O,x6⟩ ax _ rfl ⟨I,J,L,G,_,ay,ha,hb,hc,hv⟩;have a6:=elL hmu;revert ax;refine Wo<|Wm z<|Rw z ?_
  obtain rfl:=som<|a_5 a6;exact Wr<|c_ hr z ⟨bM (bup s7 s8) ay<|d_ lr,I,J,L,G,z,ha,hb,(or1 hc (d_ lr) (a_S<|lt_ s7.s s8.s):∀k∈G,w0.z<=k)⟩
 rintro _ _ _ _ rfl ⟨rfl,a7⟩;have a8:=elR hmu;obtain rfl:=som a8;exact ⟨a7,z⟩
theorem W_w12 {x1:List UInt8}{res:Int}(hm:g_G x1=some res)(hBw:B<=w0.z)(p1_0:repS w0 B (sl A0 N0 C0) x1):h_ prog 111 [sl A0 N0 C0] w0 (Q0 w0 B res):=by
 unfold g_G at hm
 refine goF func111 z z (lb z) fun fn hr=>Ws<|Rw z<|Ws<|Rw z<|Wq<|Ws<|Rw z ?_
 obtain ⟨_,H,h⟩:=bdS hm;refine Wf (σ:=Int) (ρ:=Int) (fun (k3:Nat)(x0:Int) a w=>Sat 20 [(0,sl A0 N0 C0),(3,vI x0),(4,vI ((k3:Nat):Int))] a/\Below w0.z w0 w/\inI x0) (fun (x0:Int) a w=>Sat 20 [(3,vI x0)] a/\Below w0.z w0 w/\inI x0) (fun r ex a w=>ex = .ret/\w_ prog fn (Q0 w0 B r) a w) H ?_ ?_ ?_ ?_ ?_
 ·exact fun _ q=>⟨q.k<|s3 z z z,br w0,ii z⟩
 ·rintro k3 x0 _ _ _ G ⟨I,s5,h1⟩ hma;refine Wu ?_ I;refine Wq<|Wm z<|Rm z ?_
  have h6:=p1_0.e s5;refine R z (lnR j_ z h6)<|Rl z z z<|Wx z (fun _=>?_) (fun hc=>(P_ G hc).elim)
  refine Wk<|Wq<|Wb<|Wg<|RM z z<|Rm z ?_
  obtain ⟨xb,ec,hmd⟩:=bdS hma;refine RX z (at_ (α:=UInt8) j_ z_5 z z z h6 ec) ?_;rintro _ ⟨_,_,_,rfl,he,hf,_⟩;obtain rfl:=u8 hf;exact R z (l0 g_5 z<|he.at0 z)<|R z (b_i d_5 d_3 z)<|R z (add_ z z)<|R z (l_n z z (by decide))<|Rw z<|Wg<|Rm z<|R z (inc_ G (lt_ (repS.len p1_0) A_) z z)<|Ra z<|Wl (fun _ q=>⟨b_L (b_ x0<|byteI xb) 256,(som hmd).symm,⟨q.k<|s3 z z z,s5,l_e<|iA _ _⟩⟩)
 ·rintro x0 _ _ ⟨hSg,s7,h1⟩;refine Wu ?_ hSg;refine Wq<|Wm z<|Rm z<|R z (lnR j_ z<|p1_0.e s7)<|Rl z z z<|Wx z (fun hc=>(Q_ hc).elim) (fun _=>?_)
  exact We<|fun a' ha'=>⟨rfl,⟨Sat.weaken ha'<|s1 z,s7,h1⟩⟩
 ·rintro x0 ah _ rfl ⟨_,si,h1⟩;have hmj:=elL h;revert ah;refine Wo<|Wm z<|Rw z ?_
  obtain rfl:=som hmj;exact Wr<|c_ hr z ⟨si,z,h1⟩
 rintro _ _ _ _ rfl ⟨rfl,hqk⟩;have hml:=elR h;obtain rfl:=som hml;exact ⟨hqk,z⟩
theorem W_w2n {x1:o_}{res:(List UInt8)}(hm:i_T n x1=some res)(hBw:B<=w0.z)(p1_0:inI x1.kind)(p1_1:x1.name.b.length<=LEN)(p1_2:inI x1.version)(H:repS w0 B (sl AD ND CD) x1.data):h_ prog 212 [(.agg #[vI x1.kind,Str.v x1.name,vI x1.version,sl AD ND CD])] w0 (Q1 w0 B res):=by
 unfold i_T at hm
 refine goF func212 z z (lb z) fun fn hr=>Ws<|E z (fb z) ?_
 rintro _ ad ⟨rfl,hk⟩;have h:=hk.below;have G:Blk ad w0.z [vI x1.kind,Str.v x1.name,vI x1.version,sl AD ND CD]:=hk.blk;refine Rw z<|Wq<|Ws<|R z (lN (vs:=[vI x1.kind,Str.v x1.name,vI x1.version,sl AD ND CD]) b_p a_9 z z fid<|G.row 0 4 z) ?_
 obtain ⟨_,ae,hml⟩:=bdS hm;refine E z (fc call254 z<|W_w2j ae (zt' hBw h.s) p1_0 p1_1 p1_2<|H.e h) ?_;rintro _ af ⟨s1,rfl⟩;refine R z (not_ z)<|Wx z (fun hca=>?_) (fun hca=>?_)
 ·refine Ws<|E z (f0 (α:=UInt8) N_) ?_
  rintro _ _ ⟨ah,ai,aj,rfl,ak,al⟩;refine Rw z ?_
  obtain rfl:=som<|ifT hml hca;exact Wr<|c_ hr z ⟨bup (bup h s1) ak,ah,ai,aj,[af.z],z,al,a_0,m1<|lt_ h.s s1.s⟩
 refine Wk<|Ws<|Rf z d_T z ?_
 have hn:=G.e s1;refine R z (l0 M_ z<|hn.at z) ?_;have ho:=lt_ h.s s1.s;obtain ⟨_,am,a4⟩:=bdS<|ifF hml hca;refine E z (fc call255 z<|W_w2l am (zt' hBw ho)<|H.g<|(h.ag B).e s1) ?_;rintro _ wb ⟨s7,_,_,_,an,rfl,h2,_,_⟩;refine Rw z<|Ws<|Rf z d_a z ?_
 have hc:=hn.e s7;refine R z (l0 g_3 z<|hc.at z)<|R z (c_1 d_3 d_5 z)<|Rf z d_S z<|R z (l0 g_9 z<|hc.at z)<|R z (lnT d_9 z)<|R z (c_1 d_3 d_5 z)<|E z (fS [(.tmp 14),(.tmp 18)] N_ z z z (a_z z) (lb z)<|lb z) ?_
 rintro _ wm ⟨rfl,hp⟩;have h4:=hp.below;refine Rf z d_S z ?_;have hq:=hc.e h4;refine R z (l0 g_9 z<|hq.at z)<|E z (q_s d_9 j_ d_5 z p1_1) ?_
 rintro _ _ ⟨_,_,_,rfl,s3,ao⟩;obtain ⟨_,ap,a5⟩:=bdS a4;refine E z (fN (α:=UInt8) N_ ap z z ((h_3 (l:=[mkB x1.kind,mkB (x1.name.b.length:Int)]) (hp.blk:Blk wm wb.z [(vU<|byteI<|mkB x1.kind),(vU<|byteI<|mkB (x1.name.b.length:Int))]) z:a_ wm [wb.z] (sl (some ⟨wb.z,0,none⟩) 2 2) [mkB x1.kind,mkB (x1.name.b.length:Int)]).e s3) a_0<|a_.rep ao) ?_;rintro _ aq ⟨_,_,_,_,rfl,s5,ar,au,ht⟩;refine Rw z<|Wm z<|Rf z d_b z<|R z (l0 g_3 z<|((hq.e s3).c s5<|djs<|mm1 G.lt<|lt_ s1.s s7.s).at z)<|R z (c_1 d_3 d_5 z)<|E z (fS [(.tmp 27)] N_ z z z (a_z z) (lb z)<|lb z) ?_
 rintro _ av ⟨rfl,hd⟩;have h6:=hd.below;have aV:=b_E hd b_j;obtain ⟨_,aw,a6⟩:=bdS a5;refine E z (b_d (α:=UInt8) N_ aw z z (ar.e h6) au (hd.blk:Blk av aq.z [(vU<|byteI<|mkB x1.version)]) b_j an_ H_) ?_;rintro _ _ ⟨Sr,_,_,_,rfl,se,ax,ay,hu⟩;refine Rm z ?_;have hv:=mnr<|a_.lt h2
 have hw:=lt_ h4.s s3.s;have hx:=o1no ht hv (a_.lt h2) hw;have hf:=((((h2.e h4).e s3).c s5<|ds hv).e h6).c se<|ds hx
 refine R z (lnR j_ z<|or_ hf<|a_.lt h2) ?_;have hy:=lt_ ho s7.s;have hz:=lt_ (lt_ hy h4.s) s3.s;have I:=lt_ (lt_ hz s5.s) h6.s;have J:=lt_ I se.s;obtain ⟨_,az,a7⟩:=bdS a6;refine E z (fc call165 z<|W_w2m az (zt' hBw J) (b_W<|repS.len<|or_ hf<|a_.lt h2)<|ii z) ?_;rintro _ _ ⟨s8,_,_,_,_,rfl,aA,_,_⟩;obtain ⟨_,aB,a8⟩:=bdS a7;refine E z (fN (α:=UInt8) N_ aB z z (ax.e s8) ay<|a_.rep aA) ?_;rintro _ _ ⟨_,_,_,_,rfl,sg,aC,aD,aE⟩;refine Rm z ?_;obtain ⟨_,aF,a9⟩:=bdS a8;refine E z (fN (α:=UInt8) N_ aF z z aC aD<|or_ ((hf.e s8).c sg<|ds (or2 hu hx an_ (a_O (a_.lt h2)<|lt_ (lt_ hw s5.s) h6.s):∀k∈Sr,k∉an))<|a_.lt h2) ?_;rintro _ aG ⟨_,_,_,_,rfl,ss,L,aH,aI⟩;refine Rw z<|Wm z<|Rm z ?_
 obtain ⟨aJ,aK,aa⟩:=bdS a9;refine E z (fc call111 z<|W_w12 (B:=aG.z) aK zr<|a_.rep L) ?_;rintro _ aL ⟨sh,rfl,_⟩;refine R z (c_1 d_3 d_5 z)<|E z (fS [(.tmp 39)] N_ z z z (a_z z) (lb z)<|lb z) ?_
 rintro _ aM ⟨rfl,hi⟩;have hj:=hi.below;have aW:=b_E hi b_j;obtain ⟨_,aN,ab⟩:=bdS aa;refine E z (b_d (α:=UInt8) N_ aN z z ((L.e sh).e hj) aH (hi.blk:Blk aM aL.z [(vU<|byteI<|mkB aJ)]) b_j an_ H_) ?_;rintro _ _ ⟨O,aO,aP,aQ,rfl,aR,aS,aT,aU⟩;refine Rw z ?_
 obtain rfl:=som ab;have V:=m1 hy;have W:=a_Y ht V hz;have Y:∀k∈Sr,w0.z<=k:=or2 hu W an_<|a_S I;have a0:=lt_ J s8.s;have a1:=a_Y aE Y a0;have a2:=lt_ a0 sg.s;have a3:=a_Y aI a1 a2;exact Wr<|c_ hr z ⟨bM (bup (bup (bM (bM (bup (bM (bup (bM (bup (bup (bup (bup h s1) s7) h4) s3) s5 V) h6) se W) s8) sg Y) ss a1) sh) hj) aR a3,aO,aP,aQ,O,z,aS,aT,(or2 aU a3 an_ (a_S<|lt_ (lt_ (lt_ a2 ss.s) sh.s) hj.s):∀k∈O,w0.z<=k)⟩
theorem W_w2o {x1:List UInt8}{x2:List UInt8}{res:Bool}(hm:g_T x1 x2=some res)(hBw:B<=w0.z)(p1_0:repS w0 B (sl A0 N0 C0) x1)(p2_0:repS w0 B (sl A3 N3 C3) x2):h_ prog 213 [sl A0 N0 C0,sl A3 N3 C3] w0 (Q11 w0 B res):=by
 unfold g_T at hm
 refine goF func213 z z (lb z) fun fn hr=>Ws<|Rw z<|Wq<|Wm z<|R z (lnR j_ z p1_0)<|Rm z<|R z (lnR j_ z p2_0)<|R z (nq z z)<|Wx z (fun G=>?_) (fun G=>?_)
 ·refine Ws<|Rw z ?_
  obtain rfl:=som<|ifT hm G;exact Wr<|c_ hr z ⟨br w0,z⟩
 refine Wk<|Wq<|Ws<|Rw z ?_
 obtain ⟨_,hua,I⟩:=bdS<|ifF hm G;refine Wf (σ:=Unit) (ρ:=Bool) (fun (k5:Nat)(_:Unit) a w=>Sat 26 [(0,sl A0 N0 C0),(1,sl A3 N3 C3),(5,vI ((k5:Nat):Int))] a/\Below w0.z w0 w) (fun (_:Unit) a w=>Sat 26 [] a/\Below w0.z w0 w) (fun r ex a w=>ex = .ret/\w_ prog fn (Q11 w0 B r) a w) hua ?_ ?_ ?_ ?_ ?_
 ·exact fun _ q=>⟨q.k<|s3 z z z,br w0⟩
 ·rintro k5 _ _ _ _ J ⟨hSb,h⟩ hmc;refine Wu ?_ hSb;refine Wq<|Wm z<|Rm z<|R z (lnR j_ z<|p1_0.e h)<|Rl z z z<|Wx z (fun _=>?_) (fun hc=>(P_ J hc).elim)
  refine Wk<|Wq<|Wb<|Wq (Wd (X:=noX) 0 (pl_ 9 []) mo (by kernel_rfl) fun wu s2 _=>dM z z z<|dM z z z ?_)
  obtain ⟨_,ed,hme⟩:=bdS hmc;have O:=(h.ag B).e s2;refine dRX z z (at_ (α:=UInt8) j_ z_5 z z z (p1_0.g O) ed) ?_;rintro _ ⟨_,_,_,rfl,hf,hg,_⟩;obtain rfl:=u8 hg;refine dR z z (l0 g_5 z<|hf.at0 z)<|dM z z z<|dM z z z ?_
  obtain ⟨_,eh,L⟩:=bdS hme;refine dRX z z (at_ (α:=UInt8) j_ z_5 z z z (p2_0.g O) eh) ?_;rintro _ ⟨_,_,_,rfl,hi,hj,_⟩;obtain rfl:=u8 hj;refine dR z z (l0 g_5 z<|hi.at0 z)<|dR z z (nq z z)<|pD<|Wo<|Wc z (fun H=>?_) (fun H=>?_)
  ·exact Ws<|Rw z<|Wr<|rtO<|qL (som<|ifT L H).symm<|c_ hr z ⟨bup h s2,z⟩
  exact Wk<|Wg<|Rm z<|R z (inc_ J (lt_ (repS.len p1_0) A_) z z)<|Ra z<|Wl (fun _ q=>⟨(),(som<|ifF L H).symm,⟨q.k<|s3 z z z,bup h s2⟩⟩)
 ·rintro _ _ _ ⟨hSk,s9⟩;refine Wu ?_ hSk;refine Wq<|Wm z<|Rm z<|R z (lnR j_ z<|p1_0.e s9)<|Rl z z z<|Wx z (fun hc=>(Q_ hc).elim) (fun _=>?_)
  exact We<|fun a' ha'=>⟨rfl,⟨Sat.weaken ha' sn,s9⟩⟩
 ·rintro _ al _ rfl ⟨_,sm⟩;have hmn:=elL I;revert al;refine Wo<|Ws<|Rw z ?_
  obtain rfl:=som hmn;exact Wr<|c_ hr z ⟨sm,z⟩
 rintro _ _ _ _ rfl ⟨rfl,hqo⟩;have hmp:=elR I;obtain rfl:=som hmp;exact ⟨hqo,z⟩
def Q13 (w0:World)(B:Zone)(r:o_×Int×Bool)(v:Value)(w':World):Prop:=Bw w0 w'/\un3 (fun h G L=>∃H I J S1,v = .tuple #[(.agg #[vI h.kind,Str.v h.name,vI h.version,sl H I J]),vI G,vB L]/\inI h.kind/\h.name.b.length<=LEN/\inI h.version/\a_ w' S1 (sl H I J) h.data/\inI G/\S1.Nodup/\(∀k∈S1,w0.z<=k)) r
theorem W_w2p {x1:List UInt8}{x2:Int}{res:o_×Int×Bool}(hm:g_U n x1 x2=some res)(hBw:B<=w0.z)(p1_0:repS w0 B (sl A0 N0 C0) x1)(p2_0:inI x2):h_ prog 179 [sl A0 N0 C0,vI x2] w0 (Q13 w0 B res):=by
 unfold g_U at hm
 refine goF func179 z z (lb z) fun fn hr=>Ws<|E z (fa e_o) ?_
 rintro _ aj ⟨rfl,ht⟩;have h5:=ht.below;have h6:Blk aj w0.z [vI 0,Str.v (⟨[]⟩:Str),vI 0,sl none 0 0]:=ht.blk;refine Ra z<|Rw z<|Wq<|Wm z<|Rm z<|R z (lnR j_ z<|p1_0.e h5)<|R z (sb_ z z) ?_
 obtain ⟨_,ak,hmu⟩:=bdS hm;refine E z (fc call103 z<|b_c ak (zt' hBw h5.s) p2_0 (ii z)<|iS _ _) ?_;rintro _ _ ⟨G,rfl⟩;refine R z (not_ z)<|Wx z (fun hcj=>?_) (fun hcj=>?_)
 ·refine Ws<|R z (bP (parts:=[]) (cs:=[vI 0,Str.v (⟨[]⟩:Str),vI 0,sl none 0 0]) d_R z z)<|Rm z<|E0 (fs (cur':=[vI 0,Str.v (⟨[]⟩:Str),vI 0,sl none 0 0]) a_9 z z (h6.e G) z (lb z) (oA z) z) ?_
  rintro _ _ ⟨al,am⟩;refine Ra z<|Rw z ?_
  obtain rfl:=som<|ifT hmu hcj;exact Wr<|y_ hr (p_ b_p a_9 z al z) z z ⟨bM (bup h5 G) am.one<|d_ lr,none,0,0,[],z,ii z,lb z,ii z,onL,p2_0,H_,an_⟩
 refine Wk<|Wm z<|R z (add_ z z)<|Rw z<|Wm z<|RM z z<|R z (add_ z z) ?_
 obtain ⟨an,ao,hmv⟩:=bdS<|ifF hmu hcj;have hw:=(h5.ag B).e G;have hk:=p1_0.g hw;refine RX z (at_ (α:=UInt8) j_ z_5 z z z hk ao) ?_;rintro _ ⟨_,_,_,rfl,ap,aq,_⟩;obtain rfl:=u8 aq;refine R z (l0 g_5 z<|ap.at0 z)<|R z (b_i d_5 d_3 z)<|R z (add_ z z)<|Rw z<|Wq<|Wm z<|R z (add_ z z)<|Rm z<|R z (lnR j_ z hk)<|R z (Z_ z z)<|Wx z (fun hcl=>?_) (fun hcl=>?_)
 ·refine Ws<|R z (bP (parts:=[]) (cs:=[vI 0,Str.v (⟨[]⟩:Str),vI 0,sl none 0 0]) d_R z z)<|Rm z<|E0 (fs (cur':=[vI 0,Str.v (⟨[]⟩:Str),vI 0,sl none 0 0]) a_9 z z (h6.e G) z (lb z) (oA z) z) ?_
  rintro _ _ ⟨ar,au⟩;refine Ra z<|Rw z ?_
  obtain rfl:=som<|ifT hmv hcl;exact Wr<|y_ hr (p_ b_p a_9 z ar z) z z ⟨bM (bup h5 G) au.one<|d_ lr,none,0,0,[],z,ii z,lb z,ii z,onL,p2_0,H_,an_⟩
 refine Wk<|Wm z<|Rm z<|R z (add_ z z)<|Rm z<|R z (add_ z z) ?_
 obtain ⟨_,av,a7⟩:=bdS<|ifF hmv hcl;refine RX z (rX j_ z_5 z z hk z z av) ?_;rintro _ ⟨_,_,_,rfl,aw⟩;have hx:=lt_ h5.s G.s;obtain ⟨ax,ay,hmy⟩:=bdS a7;refine E z (fc call145 z<|m_l ay (zt' hBw hx) aw) ?_;rintro _ _ ⟨s3,rfl,_⟩;refine Rw z<|Wm z<|R z (add_ z z)<|Rm z<|R z (add_ z z)<|Rw z<|Wq<|Wm z<|Rm z ?_
 have hz:=hw.e s3;have V:=p1_0.g hz;refine R z (lnR j_ z V)<|R z (b_l z z)<|Wx z (fun hcm=>?_) (fun hcm=>?_)
 ·refine Ws<|R z (bP (parts:=[]) (cs:=[vI 0,Str.v (⟨[]⟩:Str),vI 0,sl none 0 0]) d_R z z)<|Rm z<|E0 (fs (cur':=[vI 0,Str.v (⟨[]⟩:Str),vI 0,sl none 0 0]) a_9 z z ((h6.e G).e s3) z (lb z) (oA z) z) ?_
  rintro _ _ ⟨az,aA⟩;refine Ra z<|Rw z ?_
  obtain rfl:=som<|ifT hmy hcm;exact Wr<|y_ hr (p_ b_p a_9 z az z) z z ⟨bM (bup (bup h5 G) s3) aA.one<|d_ lr,none,0,0,[],z,ii z,lb z,ii z,onL,p2_0,H_,an_⟩
 refine Wk<|Wm z<|Rm z<|R z (add_ z z)<|Rm z ?_
 obtain ⟨_,aB,a8⟩:=bdS<|ifF hmy hcm;refine RX z (rX j_ z_5 z z V z z aB) ?_;rintro _ ⟨_,_,_,rfl,aC⟩;have hh:=lt_ hx s3.s;obtain ⟨aD,_,aE,a9⟩:=a_k a8;refine E z (fc call211 z<|W_w2i aE (zt' hBw hh) aC) ?_;rintro _ aF ⟨s4,aa,nb,cc,aG,rfl,hn,aH,W⟩;refine Rm z<|Re z z z<|Re z z z<|Ra z<|Rw z<|Wq (Wd (X:=noX) 262144 (pl_ 19 [17,18]) mo (by kernel_rfl) fun wo s1 _=>dM z z z<|dM z z z ?_)
 obtain ⟨xd,aI,ab⟩:=bdS a9;have Y:=(hz.e s4).e s1;have hp:=p1_0.g Y;refine dRX z z (at_ (α:=UInt8) j_ z_5 z z z hp aI) ?_;rintro _ ⟨_,_,_,rfl,aJ,aK,_⟩;obtain rfl:=u8 aK;refine dR z z (l0 g_5 z<|aJ.at0 z)<|dR z z (b_i d_5 d_3 z) ?_
 iterate 3 refine dM z z z ?_
 obtain ⟨xe,aL,ad⟩:=bdS ab;refine dRX z z (rX j_ z_5 z z hp z z aL) ?_;rintro _ ⟨_,_,_,rfl,hq⟩;refine dR z z (h_d j_ d_9 d_5 z_5 z hq)<|dM z z z<|dM z z z ?_
 obtain ⟨xf,aM,ae⟩:=bdS ad;refine dRX z z (at_ (α:=UInt8) j_ z_5 z z z hp aM) ?_;rintro _ ⟨_,_,_,rfl,aN,aO,_⟩;obtain rfl:=u8 aO;refine dR z z (l0 g_5 z<|aN.at0 z)<|dR z z (b_i d_5 d_3 z)<|dM z z z<|dR z z (bP (parts:=[(0,.tmp 70),(1,.tmp 75),(2,.tmp 80),(3,.tmp 81)]) (cs:=[vI (byteI xd),Str.v (⟨xe⟩:Str),vI<|byteI xf,sl aa nb cc]) d_R z z)<|dE z z (fa e_o) (.inr fun _ _ h=>F_<|h.2.below) ?_
 rintro _ aP ⟨rfl,a0⟩;have I:=a0.below;refine dE0 z (fs (cur':=[vI (byteI xd),Str.v (⟨xe⟩:Str),vI<|byteI xf,sl aa nb cc]) a_9 z z (a0.blk:Blk aP wo.z [vI 0,Str.v (⟨[]⟩:Str),vI 0,sl none 0 0]) z (lb z) (oA z) z) (.inl z) ?_;rintro _ _ ⟨a1,aQ⟩;have J:=aQ.one;refine pD<|Wo<|Wq<|Ws<|R z (lN (vs:=[vI (byteI xd),Str.v (⟨xe⟩:Str),vI<|byteI xf,sl aa nb cc]) b_p a_9 z z fid<|a1.row 0 4 z) ?_
 have a2:=((hn.e s1).e I).c J<|ds<|mno (a_.lt hn) s1.s
 obtain ⟨aR,aS,af⟩:=bdS ae;refine E z (fc call212 z<|W_w2n (B:=aF.z) (x1:=(⟨byteI xd,(⟨xe⟩:Str),byteI xf,aD⟩:o_)) aS (a_T<|lt_ (lt_ s1.s I.s) J.s) (c_M _) (repS.len hq) (c_M _)<|or_ a2<|a_.lt hn) ?_;rintro _ wi ⟨s9,_,_,_,_,rfl,a3,_,_⟩;refine Rw z<|Wq ?_
 obtain ⟨aT,L,O⟩:=bdS af;refine Wt (fun a w=>∃(xr:Bool),xr=aT/\Sat 103 [(1,vI x2),(4,pt w0.z),(10,vI<|b_ (b_ (b_ (b_ x2 2)<|byteI an) 3) ax),(13,pt wo.z),(97,vB xr)] a/\Below wi.z wi w) ?_ ?_
 ·refine Wg<|Rm z<|R z (lnR j_ z<|a_.rep a3)<|Rq z z z<|Rm z ?_
  rcases bs ((aR.length:Int)==0) with H | H
  ·iterate 8 refine Nh z H ?_
   exact R z (pT z H z)<|Wl (fun _ q=>⟨true,som<|ifT L H,q.k<|s5 z z z z z,br wi⟩)
  iterate 4 refine Rh z H (mv z) ?_
  refine Rh z H (add_ z z) ?_;obtain ⟨_,aU,ah⟩:=bdS<|ifF L H;have a4:=lt_ (lt_ hh s4.s) s1.s;refine RXg z z H z (rX j_ z_5 z z (p1_0.g<|((Y.e I).c J<|f_ (or0 (d_ lr) (n_<|zt' hBw a4):∀k∈[wo.z],¬B k)).e s9) z z aU) ?_;rintro _ ⟨_,_,_,rfl,aV⟩;obtain ⟨aW,aX,ai⟩:=bdS ah;refine Eg z z H z (fc call213 z<|W_w2o (B:=wi.z) aX zr (a_.rep a3)<|repS.mono aV<|zt' hBw<|lt_ (lt_ (lt_ a4 I.s) J.s) s9.s) ?_;rintro _ _ ⟨aY,rfl⟩;exact Rh z H (not_ z)<|R z (pF z H z)<|Wl (fun _ q=>⟨!aW,som ai,q.k<|s5 z z z z z,aY⟩)
 rintro aZ _ ⟨xr,rfl,_,sg⟩;revert aZ;refine Wo<|Wc z (fun hcs=>?_) (fun hcs=>?_)
 ·refine Ws<|R z (bP (parts:=[]) (cs:=[vI 0,Str.v (⟨[]⟩:Str),vI 0,sl none 0 0]) d_R z z)<|Rm z<|E0 (fs (cur':=[vI 0,Str.v (⟨[]⟩:Str),vI 0,sl none 0 0]) a_9 z z ((((((((h6.e G).e s3).e s4).e s1).e I).c J<|djs<|mm1 h6.lt<|lt_ (lt_ (lt_ G.s s3.s) s4.s) s1.s).e s9).e sg) z (lb z) (oA z) z) ?_
  rintro _ _ ⟨b0,b1⟩;refine Ra z<|Rw z ?_
  obtain rfl:=som<|ifT O hcs;exact Wr<|y_ hr (p_ b_p a_9 z b0 z) z z ⟨bM (bup (bup (bM (bup (bup (bup (bup (bup h5 G) s3) s4) s1) I) J<|m1<|lt_ (lt_ hh s4.s) s1.s) s9) sg) b1.one<|d_ lr,none,0,0,[],z,ii z,lb z,ii z,onL,p2_0,H_,an_⟩
 refine Wk<|Ws<|R z (lN (vs:=[vI (byteI xd),Str.v (⟨xe⟩:Str),vI<|byteI xf,sl aa nb cc]) b_p a_9 z z fid<|((a1.e s9).e sg).row 0 4 z)<|Rm z<|R z (add_ z z) ?_
 have a5:=lt_ G.s s3.s;refine E0 (fs (cur':=[vI (byteI xd),Str.v (⟨xe⟩:Str),vI<|byteI xf,sl aa nb cc]) a_9 z z ((((((((h6.e G).e s3).e s4).e s1).e I).c J<|djs<|mm1 h6.lt<|lt_ (lt_ a5 s4.s) s1.s).e s9).e sg) z (lb z) (oA z) z) ?_;rintro _ _ ⟨b2,b3⟩;have a6:=b3.one;refine Ra z<|Rw z ?_
 obtain rfl:=som<|ifF O hcs;exact Wr<|y_ hr (p_ b_p a_9 z b2 z) z z ⟨bM (bup (bup (bM (bup (bup (bup (bup (bup h5 G) s3) s4) s1) I) J<|m1<|lt_ (lt_ hh s4.s) s1.s) s9) sg) a6<|d_ lr,aa,nb,cc,aG,z,c_M _,repS.len hq,c_M _,((a2.e s9).e sg).c a6<|r_ W h6.lt a5,iA _ _,aH,s_ W hh⟩
def Q14 (w0:World)(B:Zone)(r:(List o_)×Int)(v:Value)(w':World):Prop:=Bw w0 w'/\un2 (fun J h=>∃G H I S1,v = .tuple #[sl G H I,vI h]/\a_ w' S1 (sl G H I) J/\inI h/\S1.Nodup/\(∀k∈S1,w0.z<=k)) r
theorem k_x {x1:List UInt8}{res:(List o_)×Int}(hm:f_8 n x1=some res)(hBw:B<=w0.z)(p1_0:repS w0 B (sl A0 N0 C0) x1):h_ prog 144 [sl A0 N0 C0] w0 (Q14 w0 B res):=by
 unfold f_8 at hm
 refine goF func144 z z (lb z) fun fn hr=>Ws<|Ra z<|Rw z<|Ws<|E z (f0 (α:=o_) g_p) ?_
 rintro _ h ⟨a8,a9,aa,rfl,sc,ab⟩;refine Rw z<|Ws<|Rw z ?_
 obtain ⟨_,a0,hmo⟩:=bdS hm;refine b_u (σ:=(List o_)×Int) (ρ:=(List o_)×Int) (fun s a w=>un2 (fun xd W=>∃I J L G,Sat 26 [(0,sl A0 N0 C0),(2,sl none 0 0),(3,vI 0),(4,sl I J L),(5,vI W)] a/\Chg (· ∈ [w0.z]) h w/\a_ w G (sl I J L) xd/\G.Nodup/\(∀k∈G,k∈[w0.z]∨h.z<=k)/\inI W) s) (fun s a w=>un2 (fun xd W=>∃I J L G,Sat 26 [(2,sl none 0 0),(3,vI 0)] a/\Chg (· ∈ [w0.z]) h w/\a_ w G (sl I J L) xd/\G.Nodup/\(∀k∈G,k∈[w0.z]∨h.z<=k)/\inI W) s) (fun r ex a w=>ex = .ret/\w_ prog fn (Q14 w0 B r) a w) a0 ?_ ?_ ?_ ?_
 ·exact fun _ q=>⟨a8,a9,aa,[w0.z],q.k<|s5 z z z z z,cr [w0.z] h,ab,a_0,io sr,ii z⟩
 ·rintro ⟨xd,W⟩ _ ad _ ⟨I,J,L,G,a1,sa,hb,hg,hh,hi⟩ a2;refine Wu ?_ a1;refine Wb<|Wm z<|Rm z ?_
  have hp:=lt_ sc.s sa.s;obtain ⟨H,ae,_,af,hmq⟩:=V_<|a_5 a2;refine E z (fc call179 z<|W_w2p af (zt' hBw hp) (p1_0.g<|(sc.ag B).c sa<|f_ (or0 (d_ lr) (n_ hBw):∀k∈[w0.z],¬B k)) hi) ?_;rintro _ wj ⟨s3,ak,nl,cm,Sr,rfl,ah,ai,aj,he,al,am,ht⟩;refine Rm z ?_
  iterate 3 refine Re z z z ?_
  refine E z (fa e_o) ?_;rintro _ ws ⟨rfl,hu⟩;have O:=hu.below;refine E0 (fs (cur':=[vI H.kind,Str.v H.name,vI H.version,sl ak nl cm]) a_9 z z (hu.blk:Blk ws wj.z [vI 0,Str.v (⟨[]⟩:Str),vI 0,sl none 0 0]) z (lb z) (oA z) z) ?_;rintro _ wv ⟨an,ao⟩;have V:=ao.one;refine Ra z<|Rw z<|Wq<|Wm z<|R z (not_ z)<|Wx z (fun hcn=>?_) (fun hcn=>?_)
  ·refine Wm z<|Rm z<|Ra z<|Rw z ?_
   exact Wr<|rtO<|qL (som<|ifT hmq hcn).symm<|Y_ hr z z ⟨bM (bup (bup (bM sc sa<|d_ lr) s3) O) V<|m1<|lt_ hp s3.s,I,J,L,G,z,((hb.e s3).e O).c V<|ds<|mno (a_.lt hb) s3.s,hi,hg,(or1 hh (d_ lr) (a_S sc.s):∀k∈G,w0.z<=k)⟩
  refine Wk<|Wm z<|R z (lN (vs:=[vI H.kind,Str.v H.name,vI H.version,sl ak nl cm]) b_p a_9 z z fid<|an.row 0 4 z)<|E z (fS [(.tmp 22)] g_p z z z (a_z z) (lb z)<|lb z) ?_
  rintro _ ww ⟨rfl,hx⟩;have hf:=hx.below;have aD:=(he.e O).c V<|ds<|mnr<|a_.lt he
  obtain ⟨ap,aq,a3⟩:=bdS<|ifF hmq hcn;refine E z (b_d (α:=o_) g_p aq z z ((((hb.e s3).e O).c V<|ds<|mno (a_.lt hb) s3.s).e hf) hg (hx.blk:Blk ww wv.z [vI H.kind,Str.v H.name,vI H.version,sl ak nl cm]) (n_9 (x:=H) (S1:=Sr) ah ai aj<|((he.e O).c V<|ds<|mnr<|a_.lt he).e hf) (b_C ht (a_.lt hb) lr) am) ?_;rintro _ ar ⟨Sy,au,av,aw,rfl,ax,ay,az,aA⟩;refine Rw z<|Wg<|Rm z<|Ra z<|Wl ?_
  have hz:=lt_ sa.s s3.s;have Y:∀k∈G,k∈[w0.z]∨h.z<=k:=or1 hh (io sr)<|l_ lr;exact fun _ q=>⟨(ap,ae),(som a3).symm,⟨au,av,aw,Sy,q.k<|s5 z z z z z,(cM (i_ (cM (i_ (i_ (cM (cr [w0.z] h) sa (io sr):Chg (· ∈ [w0.z]) h ad) s3:Chg (· ∈ [w0.z]) h wj) O:Chg (· ∈ [w0.z]) h ws) V (mor hz:∀k∈[wj.z],k∈[w0.z]∨h.z<=k):Chg (· ∈ [w0.z]) h wv) hf:Chg (· ∈ [w0.z]) h ww) ax Y:Chg (· ∈ [w0.z]) h ar),ay,az,(or2 aA Y (or0 ht (l_ sa.s):∀k∈Sr,k∈[w0.z]∨h.z<=k) (l_<|lt_ (lt_ (lt_ hz O.s) V.s) hf.s):∀k∈Sy,k∈[w0.z]∨h.z<=k),al⟩⟩
 ·rintro ⟨xd,W⟩ aB _ rfl ⟨I,J,L,G,_,aC,hb,hg,hh,hi⟩;have a5:=elL hmo;revert aB;obtain rfl:=som<|a_5 a5;exact Y_ hr z z ⟨bM sc aC<|d_ lr,none,0,0,[],z,onL,ii z,H_,an_⟩
 rintro _ _ _ _ rfl ⟨rfl,a6⟩;have a7:=elR hmo;obtain rfl:=som a7;exact ⟨a6,z⟩
theorem W_w13 {x1:Log}{res:Bool}(hm:g_V n x1=some res)(hBw:B<=w0.z)(p1_0:repS w0 B (sl A0 N0 C0) x1.bytes)(p1_1:inI x1.stored):h_ prog 141 [(.agg #[sl A0 N0 C0,vI x1.stored])] w0 (Q11 w0 B res):=by
 unfold g_V at hm
 refine goF func141 z z (lb z) fun fn hr=>Ws<|E z (fb z) ?_
 rintro _ wj ⟨rfl,ha⟩;have h1:=ha.below;have h5:Blk wj w0.z [sl A0 N0 C0,vI x1.stored]:=ha.blk;refine Rw z<|Wq<|Ws<|Rf z e_l z<|R z (l0 g_3 z<|h5.at z)<|Rf z c_k z<|R z (l0 M_ z<|h5.at z) ?_
 have hb:=p1_0.e h1;refine R z (lnR j_ z hb) ?_;obtain ⟨_,ek,hmc⟩:=bdS hm;refine E z (fc call103 z<|b_c ek (zt' hBw h1.s) p1_1 (ii z)<|b_W<|repS.len hb) ?_;rintro _ _ ⟨s2,rfl⟩;refine R z (not_ z)<|Wx z (fun H=>?_) (fun H=>?_)
 ·refine Ws<|Rw z ?_
  obtain rfl:=som<|ifT hmc H;exact Wr<|c_ hr z ⟨bup h1 s2,z⟩
 refine Wk<|Ws<|Rf z c_k z ?_
 have hd:=h5.e s2;refine R z (l0 M_ z<|hd.at z) ?_;have he:=(h1.ag B).e s2;have hf:=lt_ h1.s s2.s;obtain ⟨_,rl,em,hmn⟩:=a_k<|ifF hmc H;refine E z (fc call144 z<|k_x em (zt' hBw hf)<|p1_0.g he) ?_;rintro _ _ ⟨s3,_,_,_,_,rfl,_,_,_,_⟩;refine Rm z<|Re z z z<|Re z z z<|Ra z<|Rw z<|Ws<|Rf z c_k z ?_
 have I:=hd.e s3;refine R z (l0 M_ z<|I.at z)<|Rf z e_l z<|R z (l0 g_3 z<|I.at z) ?_
 obtain ⟨_,eo,hmp⟩:=bdS hmn;have hg:=he.e s3;refine RX z (rX j_ z_5 z z (p1_0.g hg) z z eo) ?_;rintro _ ⟨_,_,_,rfl,hq⟩;obtain ⟨_,rr,es,hmt⟩:=a_k hmp;refine E z (fc call144 z<|k_x es (zt' hBw<|lt_ hf s3.s) hq) ?_;rintro _ G ⟨s8,_,_,_,_,rfl,_,_,_,_⟩;refine Rm z<|Re z z z<|Re z z z<|Ra z<|Rw z<|Wq ?_
 obtain ⟨uu,huh,hmv⟩:=bdS hmt;refine Wt (fun a w=>∃(J:Bool),J=uu/\Sat 40 [(2,vB J)] a/\Below G.z G w) ?_ ?_
 ·refine Wg<|Rm z<|Rf z c_k z ?_
  have hi:=I.e s8;refine R z (l0 M_ z<|hi.at z)<|R z (lnR j_ z<|p1_0.g<|hg.e s8)<|Rq z z z<|Rm z ?_
  rcases bs (rl==(x1.bytes.length:Int)) with h | h
  ·exact Rh z h (mv z)<|Rh z h (fd e_l z)<|Rh z h (l0 g_3 z<|hi.at z)<|Rh z h (eql z z)<|R z (pT z h z)<|Ra z<|Wl (fun _ q=>⟨rr==x1.stored,som<|ifT huh h,q.k<|s1 z,br G⟩)
  iterate 4 refine Nh z h ?_
  exact R z (pF z h z)<|Ra z<|Wl (fun _ q=>⟨false,som<|ifF huh h,q.k<|s1 z,br G⟩)
 rintro aw _ ⟨J,rfl,_,sx⟩;revert aw;refine Wo ?_;obtain rfl:=som hmv;exact Wr<|c_ hr z ⟨bup (bup (bup (bup h1 s2) s3) s8) sx,z⟩
def Q15 (w0:World)(B:Zone)(r:(List q_))(v:Value)(w':World):Prop:=Bw w0 w'/\(fun I=>∃h G H,(sl h G H)=v/\repS w' (zn B w0.z w'.z) (sl h G H) I) r
theorem W_w2q {x1:List q_}{x2:o_}{res:(List q_)}(hm:i_U x1 x2=some res)(hBw:B<=w0.z)(p1_0:repS w0 B (sl A0 N0 C0) x1)(p2_0:inI x2.kind)(p2_1:x2.name.b.length<=LEN)(p2_2:inI x2.version)(ap:repS w0 B (sl AH NH CH) x2.data):h_ prog 178 [sl A0 N0 C0,(.agg #[vI x2.kind,Str.v x2.name,vI x2.version,sl AH NH CH])] w0 (Q15 w0 B res):=by
 unfold i_U at hm
 refine goF func178 z z (lb z) fun fn hr=>Ws<|E z (fb z) ?_
 rintro _ ch ⟨rfl,aW⟩;have W:=aW.below;have ht:Blk ch w0.z [vI x2.kind,Str.v x2.name,vI x2.version,sl AH NH CH]:=aW.blk;refine Rw z<|Ws<|E z (q_k (α:=q_) c_i B) ?_
 rintro _ I ⟨aX,rfl,s5,ci⟩;refine Rw z<|Wq ?_
 obtain ⟨cj,aq,bW⟩:=bdS hm;refine Wt (fun a w=>∃(xa:Str)(xb:Int)(xw:List UInt8),(xa,xb,xw)=cj/\∃an no cp Sx gc,Sat 61 [(0,sl A0 N0 C0),(3,pt w0.z),(5,sl aX 0 0),(6,pt gc)] a/\Below I.z I w/\xa.b.length<=LEN/\inI xb/\a_ w Sx (sl an no cp) xw/\Sx.Nodup/\(∀k∈Sx,I.z<=k)/\Blk w gc [Str.v xa,vI xb,sl an no cp]/\I.z<=gc/\(∀k∈Sx,k∉[gc])) ?_ ?_
 ·refine Wd (X:=fun k=>k∈([]:List Nat)∨I.z<=k) 1024 (.rd 0<|.rd 1<|.rd 2<|.rd 3<|.rd 5<|.rd 6<|.br 4 (.br 7 (.rd 8<|.ef 9<|.ef 10 .done) 9<|.ef 7<|.rd 8<|.ef 10 .done) 9<|.ef 4<|.ef 7<|.rd 8<|.ef 10 .done) mo (by kernel_rfl) fun wy s7 _=>dR z z (fd d_S z) ?_
  have aw:=(ht.e s5).e s7;refine dR z z (l1 g_9 z (e_6 nm0<|Nat.lt_of_lt_of_le ht.lt s5.s)<|aw.at z)<|dR z z (fd d_b z)<|dR z z (l1 g_3 z (e_6 nm0<|Nat.lt_of_lt_of_le ht.lt s5.s)<|aw.at z)<|dR z z (fd d_T z)<|dR z z (l1 M_ z (e_6 nm0<|Nat.lt_of_lt_of_le ht.lt s5.s)<|aw.at z)<|e_u ?_ ?_
  ·refine dE z z (f0 (α:=UInt8) N_) (.inr fun _ _ h=>F_ (by obtain ⟨_,_,_,_,h,_⟩:=h;exact h)) ?_;rintro _ ax ⟨_,_,_,rfl,su,ay⟩;refine e_u ?_ ?_
   ·obtain ⟨ck,cl,bX⟩:=bdS aq;refine dE z z (fN (α:=UInt8) N_ cl z z ay a_0<|ap.g<|(((W.ag B).e s5).e s7).e su) (.inr fun _ _ h=>by obtain ⟨_,_,_,_,_,h,_⟩:=h;exact h.mono fun k _ hk=>(mor s7.s:∀k∈[wy.z],k∈([]:List Nat)∨I.z<=k) k hk) ?_;rintro _ aY ⟨cm,az,aA,aB,rfl,aZ,b0,cn,co⟩;refine dR z z (bP (parts:=[(0,.tmp 11),(1,.tmp 13),(2,.tmp 17)]) (cs:=[Str.v x2.name,vI x2.version,sl az aA aB]) k_l z z)<|dE z z (fa g_r) (.inr fun _ _ h=>F_<|h.2.below) ?_
    rintro _ cq ⟨rfl,b1⟩;have b2:=b1.below;have b3:=lt_ s7.s su.s;have aC:=m1<|lt_ b3 aZ.s
    refine dE0 z (fs (cur':=[Str.v x2.name,vI x2.version,sl az aA aB]) b_a z z (b1.blk:Blk cq aY.z [(Str.v (⟨[]⟩:Str)),vI 0,sl none 0 0]) z (lb z) (oA z) z) (.inr fun _ _ h=>c_P (atp aC) h.2) ?_;rintro _ _ ⟨ct,cu⟩;have b4:=cu.one;refine pD ?_;have b5:=mnr<|a_.lt b0
    have b6:=m1 s7.s;exact fun _ q=>⟨x2.name,x2.version,ck,som bX,az,aA,aB,cm,aY.z,q.k<|s4 z z z z,bM (bup (bM (bup s7 su) aZ b6) b2) b4 aC,p2_1,p2_2,(b0.e b2).c b4<|ds b5,cn,a_Y co b6 b3,ct,atp aC,ds b5⟩
   refine dE z z (fa g_r) (.inr fun _ _ h=>F_<|h.2.below) ?_;rintro _ cv ⟨rfl,b7⟩;have a1:=b7.below;have b8:Blk cv ax.z [(Str.v (⟨[]⟩:Str)),vI 0,sl none 0 0]:=b7.blk;obtain ⟨cw,cx,bY⟩:=bdS aq;refine dE z z (fN (α:=UInt8) N_ cx z z (ay.e a1) a_0<|ap.g<|((((W.ag B).e s5).e s7).e su).e a1) (.inr fun _ _ h=>by obtain ⟨_,_,_,_,_,h,_⟩:=h;exact h.mono fun k _ hk=>(mor s7.s:∀k∈[wy.z],k∈([]:List Nat)∨I.z<=k) k hk) ?_;rintro _ _ ⟨b9,aD,aE,aF,rfl,ba,cy,cz,bb⟩;refine dR z z (bP (parts:=[(0,.tmp 11),(1,.tmp 13),(2,.tmp 17)]) (cs:=[Str.v x2.name,vI x2.version,sl aD aE aF]) k_l z z) ?_;have bc:=mnr<|a_.lt ay
   have be:=lt_ s7.s su.s;have aG:=m1 be;refine dE0 z (fs (cur':=[Str.v x2.name,vI x2.version,sl aD aE aF]) b_a z z (b8.c ba<|atp bc) z (lb z) (oA z) z) (.inr fun _ _ h=>c_P (atp aG) h.2) ?_;rintro _ _ ⟨cA,cB⟩;have bf:=cB.one;refine pD ?_;have bg:∀k∈b9,k∉[ax.z]:=or1 bb (ds bc)<|a_O (d_ b8.lt) lr;have bh:=m1 s7.s;exact fun _ q=>⟨x2.name,x2.version,cw,som bY,aD,aE,aF,b9,ax.z,q.k<|s4 z z z z,bM (bM (bup (bup s7 su) a1) ba bh) bf aG,p2_1,p2_2,cy.c bf bg,cz,a_Y bb bh<|lt_ be a1.s,cA,atp aG,bg⟩
  refine dE z z (fa g_r) (.inr fun _ _ h=>F_<|h.2.below) ?_;rintro _ bi ⟨rfl,bj⟩;have aH:=bj.below;have aI:Blk bi wy.z [(Str.v (⟨[]⟩:Str)),vI 0,sl none 0 0]:=bj.blk;refine dE z z (f0 (α:=UInt8) N_) (.inr fun _ _ h=>F_ (by obtain ⟨_,_,_,_,h,_⟩:=h;exact h)) ?_;rintro _ _ ⟨_,_,_,rfl,sz,cC⟩;obtain ⟨cD,cE,bZ⟩:=bdS aq;have aJ:=lt_ s7.s aH.s;refine dE z z (fN (α:=UInt8) N_ cE z z cC a_0<|ap.g<|((((W.ag B).e s5).e s7).e aH).e sz) (.inr fun _ _ h=>by obtain ⟨_,_,_,_,_,h,_⟩:=h;exact h.mono fun k _ hk=>(mor aJ:∀k∈[bi.z],k∈([]:List Nat)∨I.z<=k) k hk) ?_;rintro _ _ ⟨bk,aK,aL,aM,rfl,bm,cF,cG,bn⟩;refine dR z z (bP (parts:=[(0,.tmp 11),(1,.tmp 13),(2,.tmp 17)]) (cs:=[Str.v x2.name,vI x2.version,sl aK aL aM]) k_l z z) ?_;have bo:=mmr aI.lt;have aN:=m1 s7.s;refine dE0 z (fs (cur':=[Str.v x2.name,vI x2.version,sl aK aL aM]) b_a z z ((aI.e sz).c bm<|djs bo) z (lb z) (oA z) z) (.inr fun _ _ h=>c_P (atp aN) h.2) ?_;rintro _ _ ⟨cH,cI⟩;have bp:=cI.one;refine pD ?_;have bq:∀k∈bk,k∉[wy.z]:=or1 bn bo<|a_O (d_ aI.lt) sz.s;have bt:=m1 aJ;exact fun _ q=>⟨x2.name,x2.version,cD,som bZ,aK,aL,aM,bk,wy.z,q.k<|s4 z z z z,bM (bM (bup (bup s7 aH) sz) bm bt) bp aN,p2_1,p2_2,cF.c bp bq,cG,a_Y bn bt<|lt_ aJ sz.s,cH,atp aN,bq⟩
 rintro cJ J ⟨xa,xb,xw,rfl,an,no,cp,Sx,gc,_,sd,bu,bv,hv,_,bw,bx,_,_⟩;revert cJ;refine Wo<|Ws<|Rw z<|Wq<|Ws<|Rw z ?_
 obtain ⟨_,c0,aQ⟩:=bdS<|un3S bW;refine Wf (σ:=(List q_)×Bool) (ρ:=List q_) (fun (a2:Nat) s a w=>un2 (fun xi xf=>∃L O V G,Sat 61 [(0,sl A0 N0 C0),(3,pt w0.z),(5,sl L O V),(6,pt gc),(7,vB xf),(8,vI ((a2:Nat):Int))] a/\Below J.z J w/\X_ w G (zn B I.z J.z) (sl L O V) xi/\G.Nodup/\(∀k∈G,J.z<=k)) s) (fun s a w=>un2 (fun xi xf=>∃L O V G,Sat 61 [(3,pt w0.z),(5,sl L O V),(6,pt gc),(7,vB xf)] a/\Below J.z J w/\X_ w G (zn B I.z J.z) (sl L O V) xi/\G.Nodup/\(∀k∈G,J.z<=k)) s) (fun r ex a w=>ex = .ret/\w_ prog fn (Q15 w0 B r) a w) c0 ?_ ?_ ?_ ?_ ?_
 ·exact fun _ q=>⟨aX,0,0,([]:List Nat),q.k<|s6 z z z z z z,br J,X_.mono (ci.e sd) d_k,H_,an_⟩
 ·rintro a2 ⟨xi,xf⟩ _ _ _ aR ⟨L,O,V,G,c1,sq,hj,hl,hg⟩ c2;refine Wu ?_ c1;refine Wq<|Wm z<|Rm z ?_
  have bz:=(((W.ag B).e s5).e sd).e sq;refine R z (lnR c_7 z<|p1_0.g bz)<|Rl z z z<|Wx z (fun _=>?_) (fun hc=>(P_ aR hc).elim)
  refine Wk<|Wq<|Wb<|Wb<|Wq (Wd (X:=noX) 0 (pl_ 9 []) mo (by kernel_rfl) fun H se _=>dM z z z<|dM z z z ?_)
  obtain ⟨_,cK,c3⟩:=bdS<|a_5 c2;have bA:=p1_0.g<|bz.e se
  refine dRX z z (at_ (α:=q_) c_7 b_a z z z bA cK) ?_;rintro _ ⟨_,_,_,rfl,cL,cN,_⟩;obtain ⟨_,_,_,rfl,_,_,_⟩:=f_R cN;refine dR z z (fd p_A z)<|dR z z (l0 g_9 z<|cL.at (j:=0) z)<|dR z z (fd d_S z) ?_
  have bB:=(((ht.e s5).e sd).e sq).e se;refine dR z z (l0 g_9 z<|bB.at z)<|dR z z (e_9 z z)<|dQ z z z<|pD<|Wo ?_
  obtain ⟨cO,aS,c4⟩:=bdS c3;refine Wt (fun a w=>∃(a3:List q_)(a5:Bool),(a3,a5)=cO/\∃a6 a7 a8 Y,Sat 61 [(0,sl A0 N0 C0),(3,pt w0.z),(5,sl a6 a7 a8),(6,pt gc),(7,vB a5),(8,vI ((a2:Nat):Int))] a/\Chg (· ∈ G) H w/\X_ w Y (zn B I.z J.z) (sl a6 a7 a8) a3/\Y.Nodup/\(∀k∈Y,k∈G∨H.z<=k)) ?_ ?_
  ·refine Wc z (fun ar=>?_)<|fun ar=>?_
   ·refine Wg<|RM z z<|Rm z ?_
    obtain ⟨a0,cP,c5⟩:=bdS<|ifT aS ar;refine RX z (at_ (α:=q_) c_7 b_a z z z bA cP) ?_;rintro _ ⟨_,_,_,rfl,cQ,cR,_⟩;obtain ⟨bC,bD,bE,rfl,cS,cT,cU⟩:=f_R cR;refine R z (lN (vs:=[Str.v a0.name,vI a0.version,sl bC bD bE]) e_R b_a z z fid cQ)<|E z (fS [(.tmp 38)] c_i z z z (a_z z) (lb z)<|lb z) ?_
    rintro _ bF ⟨rfl,bG⟩;have a9:=bG.below;obtain ⟨cV,cW,c6⟩:=bdS c5;refine E z (k_K (α:=q_) c_i cW z z ((hj.e se).e a9) hl (bG.blk:Blk bF H.z [Str.v a0.name,vI a0.version,sl bC bD bE]) (h_6 (x:=a0) cS cT<|repS.mono (cU.e a9) d_k) (or0 hg (c_Q (n_<|zt' hBw<|lt_ (lt_ W.s s5.s) sd.s) lr):∀k∈G,¬(zn B I.z J.z) k)) ?_;rintro _ cX ⟨bH,cY,cZ,d0,rfl,d1,d2,d3,d4⟩;refine Ra z<|Wl ?_
    exact fun _ q=>⟨cV,xf,som c6,cY,cZ,d0,bH,q.k<|s6 z z z z z z,(cM (i_ (cr G H) a9:Chg (· ∈ G) H bF) d1 (io sr):Chg (· ∈ G) H cX),d2,d3,(or1 d4 (io sr) (l_ a9.s):∀k∈bH,k∈G∨H.z<=k)⟩
   refine Ws<|Rf z d_a z<|R z (l0 g_3 z<|bB.at z)<|Rq z z z<|Rw z ?_
   obtain ⟨d5,aT,c7⟩:=bdS<|ifF aS ar;refine Wt (fun a w=>∃(aa:List q_)(ab:Bool),(aa,ab)=d5/\∃ad ae af Sr,Sat 61 [(0,sl A0 N0 C0),(3,pt w0.z),(5,sl ad ae af),(6,pt gc),(7,vB ab),(8,vI ((a2:Nat):Int))] a/\Chg (· ∈ G) H w/\X_ w Sr (zn B I.z J.z) (sl ad ae af) aa/\Sr.Nodup/\(∀k∈Sr,k∈G∨H.z<=k)) ?_ ?_
   ·refine Wc z (fun au=>?_)<|fun au=>?_
    ·refine Wm z<|R z (lN (vs:=[Str.v xa,vI xb,sl an no cp]) e_R b_a z z fid<|((bx.e sq).e se).row 0 3 z)<|E z (fS [(.tmp 46)] c_i z z z (a_z z) (lb z)<|lb z) ?_
     rintro _ bI ⟨rfl,bJ⟩;have ah:=bJ.below;have dK:=(hv.e sq).e se;obtain ⟨d6,d7,c9⟩:=bdS<|ifT aT au;refine E z (k_K (α:=q_) c_i d7 z z ((hj.e se).e ah) hl (bJ.blk:Blk bI H.z [Str.v xa,vI xb,sl an no cp]) (h_6 (x:=(⟨xa,xb,xw⟩:q_)) bu bv<|or_ (((hv.e sq).e se).e ah)<|zin (B:=B) bw<|a_.lt hv) (or0 hg (c_Q (n_<|zt' hBw<|lt_ (lt_ W.s s5.s) sd.s) lr):∀k∈G,¬(zn B I.z J.z) k)) ?_;rintro _ d8 ⟨bK,d9,da,db,rfl,dc,dd,de,df⟩;refine Rw z<|Wg<|Ra z<|Wl ?_
     exact fun _ q=>⟨d6,true,som c9,d9,da,db,bK,q.k<|s6 z z z z z z,(cM (i_ (cr G H) ah:Chg (· ∈ G) H bI) dc (io sr):Chg (· ∈ G) H d8),dd,de,(or1 df (io sr) (l_ ah.s):∀k∈bK,k∈G∨H.z<=k)⟩
    exact a_e<|fun _ q=>⟨xi,xf,som<|ifF aT au,L,O,V,G,q.k<|s6 z z z z z z,cr G H,hj.e se,hl,io sr⟩
   rintro dg dh ⟨aa,ab,rfl,ad,ae,af,Sr,_,di,dj,dk,dl⟩;revert dg;exact fun _ q=>⟨aa,ab,som<|a_5 c7,ad,ae,af,Sr,q.k<|s6 z z z z z z,(cM (cr G H) di (io sr):Chg (· ∈ G) H dh),dj,dk,(or1 dl (io sr) (l_ lr):∀k∈Sr,k∈G∨H.z<=k)⟩
  rintro dm _ ⟨a3,a5,rfl,a6,a7,a8,Y,_,dn,dp,dq,dr⟩;revert dm;exact Wo<|Wg<|Rm z<|R z (inc_ aR (lt_ (repS.len p1_0) A_) z z)<|Ra z<|Wl (fun _ q=>⟨(a3,a5),(som<|a_5 c4).symm,⟨a6,a7,a8,Y,q.k<|s6 z z z z z z,bM (bup sq se) dn hg,dp,dq,a_Y dr hg<|lt_ sq.s se.s⟩⟩)
 ·rintro ⟨xi,xf⟩ _ _ ⟨L,O,V,G,ca,bL,hj,hl,hg⟩;refine Wu ?_ ca;refine Wq<|Wm z<|Rm z<|R z (lnR c_7 z<|p1_0.g<|(((W.ag B).e s5).e sd).e bL)<|Rl z z z<|Wx z (fun hc=>(Q_ hc).elim) (fun _=>?_)
  exact We<|fun a' ha'=>⟨rfl,⟨L,O,V,G,Sat.weaken ha'<|s4 z z z z,bL,hj,hl,hg⟩⟩
 ·rintro ⟨xi,xf⟩ dt ai rfl ⟨L,O,V,G,_,ss,hj,hl,hg⟩;have cb:=elL aQ;revert dt;refine Wo<|Wq<|Wq ?_
  obtain ⟨du,aU,cc⟩:=bdS<|a_5 cb;refine Wt (fun a w=>∃(aO:Bool),aO=du/\Sat 61 [(5,sl L O V),(6,pt gc),(55,vB aO)] a/\Below ai.z ai w) ?_ ?_
  ·refine Wg<|Rf z d_a z<|R z (l0 g_3 z<|(((ht.e s5).e sd).e ss).at z)<|Rq z z z<|Rm z ?_
   rcases bs (x2.kind==1) with hch | hch
   ·exact Rh z hch (mv z)<|Rh z hch (not_ z)<|R z (pT z hch z)<|Wl (fun _ q=>⟨!xf,som<|ifT aU hch,q.k<|s3 z z z,br ai⟩)
   exact Nh z hch<|Nh z hch<|R z (pF z hch z)<|Wl (fun _ q=>⟨false,som<|ifF aU hch,q.k<|s3 z z z,br ai⟩)
  rintro dv wk ⟨aO,rfl,_,sm⟩;revert dv;refine Wo ?_;obtain ⟨dw,aV,cd⟩:=bdS cc;refine Wt (fun a w=>∃(aP:List q_),aP=dw/\∃aj ak al am,Sat 61 [(5,sl aj ak al)] a/\Chg (· ∈ G) wk w/\X_ w am (zn B I.z J.z) (sl aj ak al) aP/\am.Nodup/\(∀k∈am,k∈G∨wk.z<=k)) ?_ ?_
  ·refine Wc z (fun av=>?_)<|fun av=>?_
   ·refine Wg<|Rm z<|R z (lN (vs:=[Str.v xa,vI xb,sl an no cp]) e_R b_a z z fid<|((bx.e ss).e sm).row 0 3 z)<|E z (fS [(.tmp 57)] c_i z z z (a_z z) (lb z)<|lb z) ?_
    rintro _ bN ⟨rfl,bO⟩;have ao:=bO.below;have dL:=(hv.e ss).e sm;obtain ⟨dx,dy,ce⟩:=bdS<|ifT aV av;refine E z (k_K (α:=q_) c_i dy z z ((hj.e sm).e ao) hl (bO.blk:Blk bN wk.z [Str.v xa,vI xb,sl an no cp]) (h_6 (x:=(⟨xa,xb,xw⟩:q_)) bu bv<|or_ (((hv.e ss).e sm).e ao)<|zin (B:=B) bw<|a_.lt hv) (or0 hg (c_Q (n_<|zt' hBw<|lt_ (lt_ W.s s5.s) sd.s) lr):∀k∈G,¬(zn B I.z J.z) k)) ?_;rintro _ dz ⟨bQ,dA,dB,dC,rfl,dD,dF,dG,dH⟩;refine Ra z<|Wl ?_
    exact fun _ q=>⟨dx,som ce,dA,dB,dC,bQ,q.k<|s1 z,(cM (i_ (cr G wk) ao:Chg (· ∈ G) wk bN) dD (io sr):Chg (· ∈ G) wk dz),dF,dG,(or1 dH (io sr) (l_ ao.s):∀k∈bQ,k∈G∨wk.z<=k)⟩
   exact a_e<|fun _ q=>⟨xi,som<|ifF aV av,L,O,V,G,q.k<|s1 z,cr G wk,hj.e sm,hl,io sr⟩
  rintro dI _ ⟨aP,rfl,aj,ak,al,am,_,bR,bS,_,dJ⟩;revert dI;refine Wo<|Wm z<|Rw z ?_
  obtain rfl:=som cd;have bT:=lt_ W.s s5.s;have bU:=lt_ bT sd.s;have bV:=s_ hg bU;exact Wr<|c_ hr z ⟨bM (bup (bup (bup (bup W s5) sd) ss) sm) bR bV,aj,ak,al,z,X_.rep bS (zin (B:=B) (a_Y dJ bV<|lt_ (lt_ bU ss.s) sm.s)<|X_.lt bS)<|c_3 bT<|lt_ (lt_ ss.s sm.s) bR.s⟩
 rintro _ _ _ _ rfl ⟨rfl,cf⟩;have cg:=elR aQ;obtain rfl:=som cg;exact ⟨cf,z⟩
theorem W_w14 {x1:List UInt8}{res:(List q_)}(hm:g_W n x1=some res)(hBw:B<=w0.z)(p1_0:repS w0 B (sl A0 N0 C0) x1):h_ prog 142 [sl A0 N0 C0] w0 (Q15 w0 B res):=by
 unfold g_W at hm
 refine goF func142 z z (lb z) fun fn hr=>Ws<|Rw z<|Ws<|E z (f0 (α:=q_) c_i) ?_
 rintro _ _ ⟨ak,nl,cm,rfl,s5,ha⟩;refine Rw z<|Wm z ?_
 obtain ⟨_,_,en,hmo⟩:=a_k hm;refine E z (fc call144 z<|k_x en (zt' hBw s5.s)<|p1_0.e s5) ?_;rintro _ I ⟨s7,ap,nq,cr,_,rfl,h3,_,_,hb⟩;refine Rm z<|Re z z z<|Re z z z<|Ra z<|Rw z<|Wq<|Ws<|Rw z ?_
 have ai:=ha.e s7;obtain ⟨_,hus,hmd⟩:=bdS hmo;refine Wf (σ:=List q_) (ρ:=List q_) (fun (ke:Nat)(x4:List q_) a w=>∃h G H,Sat 26 [(3,sl h G H),(4,sl ap nq cr),(6,vI ((ke:Nat):Int))] a/\Below I.z I w/\repS w (zn B w0.z w.z) (sl h G H) x4) (fun (x4:List q_) a w=>∃h G H,Sat 26 [(3,sl h G H)] a/\Below I.z I w/\repS w (zn B w0.z w.z) (sl h G H) x4) (fun r ex a w=>ex = .ret/\w_ prog fn (Q15 w0 B r) a w) hus ?_ ?_ ?_ ?_ ?_
 ·exact fun _ q=>⟨ak,nl,cm,q.k<|s3 z z z,br I,repS.mono (or_ (ha.e s7)<|zin (B:=B) (d_ lr)<|a_.lt ha)<|c_3 lr s7.s⟩
 ·rintro ke x4 _ wt _ hkf ⟨h,G,H,hSu,s9,J⟩ hmv;refine Wu ?_ hSu;refine Wq<|Wm z<|Rm z ?_
  have hg:=h3.e s9;refine R z (lnR c_I z<|or_ hg<|zin (B:=B) hb<|a_.lt h3)<|Rl z z z<|Wx z (fun _=>?_) (fun hc=>(P_ hkf hc).elim)
  refine Wk<|Wq<|Wb<|Wg<|RM z z<|Rm z ?_
  obtain ⟨xc,ew,hmx⟩:=bdS hmv;refine RX z (at_ (α:=o_) c_I a_9 z z z (or_ hg<|zin (B:=B) hb<|a_.lt h3) ew) ?_;rintro _ ⟨_,_,_,rfl,hy,hz,_⟩;obtain ⟨a1,a2,a3,rfl,a4,a5,a6,a7⟩:=f_c hz;refine R z (lN (vs:=[vI xc.kind,Str.v xc.name,vI xc.version,sl a1 a2 a3]) b_p a_9 z z fid hy) ?_;have hh:=lt_ (lt_ s5.s s7.s) s9.s;obtain ⟨a8,a9,L⟩:=bdS hmx;refine E z (fc call178 z<|W_w2q (B:=zn B w0.z wt.z) a9 (g_6 (zt' hBw hh) lr) J a4 a5 a6<|repS.mono a7<|c_3 s5.s s9.s) ?_;rintro _ _ ⟨si,aa,ab,ad,rfl,ae⟩;exact Rw z<|Wg<|Rm z<|R z (inc_ hkf (lt_ (a_.len h3) A_) z z)<|Ra z<|Wl (fun _ q=>⟨a8,(som L).symm,⟨aa,ab,ad,q.k<|s3 z z z,bup s9 si,repS.mono ae<|zn_zn hh si.s⟩⟩)
 ·rintro x4 _ _ ⟨h,G,H,O,sj,J⟩;refine Wu ?_ O;refine Wq<|Wm z<|Rm z<|R z (lnR c_I z<|or_ (h3.e sj)<|zin (B:=B) hb<|a_.lt h3)<|Rl z z z<|Wx z (fun hc=>(Q_ hc).elim) (fun _=>?_)
  exact We<|fun a' ha'=>⟨rfl,⟨h,G,H,Sat.weaken ha'<|s1 z,sj,J⟩⟩
 ·rintro x4 af _ rfl ⟨h,G,H,_,ah,J⟩;have V:=elL hmd;revert af;refine Wo<|Wm z<|Rw z ?_
  obtain rfl:=som V;exact Wr<|c_ hr z ⟨bup (bup s5 s7) ah,h,G,H,z,J⟩
 rintro _ _ _ _ rfl ⟨rfl,W⟩;have Y:=elR hmd;obtain rfl:=som Y;exact ⟨W,z⟩
theorem W_w2r {x1:L_}{res:(List q_)}(hm:i_V n x1=some res)(hBw:B<=w0.z)(p1_0:repS w0 B (sl A0 N0 C0) x1.registry.versions)(p1_1:repS w0 B (sl A1 N1 C1) x1.log.bytes)(p1_2:inI x1.log.stored):h_ prog 79 [(.agg #[sl A0 N0 C0,sl A1 N1 C1,vI x1.log.stored])] w0 (Q15 w0 B res):=by
 unfold i_V at hm
 refine goF func79 z z (lb z) fun fn hr=>Ws<|E z (fb z) ?_
 rintro _ J ⟨rfl,h3⟩;have h:=h3.below;have h4:Blk J w0.z [sl A0 N0 C0,sl A1 N1 C1,vI x1.log.stored]:=h3.blk;refine Rw z<|Wq<|Ws<|Rf z d_d z<|R z (lN (vs:=[sl A1 N1 C1,vI x1.log.stored]) e_S d_V z z fid<|h4.row 1 2 z) ?_
 obtain ⟨_,L,H⟩:=bdS hm;refine E z (fc call141 z<|W_w13 (B:=B) (x1:=(⟨x1.log.bytes,x1.log.stored⟩:Log)) L (zt' hBw h.s) (p1_1.e h) p1_2) ?_;rintro _ _ ⟨s1,rfl⟩;refine R z (not_ z)<|Wx z (fun G=>?_) (fun G=>?_)
 ·refine Ws<|E z (f0 (α:=q_) c_i) ?_
  rintro _ _ ⟨aa,nb,cc,rfl,sd,h6⟩;refine Rw z ?_
  obtain rfl:=som<|ifT H G;exact Wr<|c_ hr z ⟨bup (bup h s1) sd,aa,nb,cc,z,repS.mono (or_ h6<|zin (B:=B) (d_ lr)<|a_.lt h6)<|c_3 (lt_ h.s s1.s) lr⟩
 refine Wk<|Ws<|Rf z d_d z<|Rf z c_k z<|R z (l0 M_ z<|(h4.e s1).at z) ?_
 have I:=lt_ h.s s1.s;obtain ⟨_,ee,hmf⟩:=bdS<|ifF H G;refine E z (fc call142 z<|W_w14 ee (zt' hBw I)<|p1_1.g<|(h.ag B).e s1) ?_;rintro _ _ ⟨sg,ah,ni,cj,rfl,hk⟩;refine Rw z ?_
 obtain rfl:=som hmf;exact Wr<|c_ hr z ⟨bup (bup h s1) sg,ah,ni,cj,z,repS.mono hk<|c_3 I lr⟩
theorem e_p {x1:g_}{x2:Bool}{x3:Bool}{x4:Bool}{x5:Bool}{x6:Int}{res:Bool}(hm:c_J x1 x2 x3 x4 x5 x6=some res)(hBw:B<=w0.z)(p1_0:x1.name.b.length<=LEN)(p1_1:inI x1.kind)(p1_2:inI x1.size)(a0:repS w0 B (sl A9 N9 C9) x1.bytes)(a1:repS w0 B (sl A8 N8 C8) x1.names)(a2:repS w0 B (sl AA NA CA) x1.tags)(a3:repS w0 B (sl AB NB CB) x1.kids)(p6_0:inI x6):h_ prog 205 [(.agg #[Str.v x1.name,vI x1.kind,vI x1.size,vB x1.little,sl A9 N9 C9,sl A8 N8 C8,sl AA NA CA,sl AB NB CB]),vB x2,vB x3,vB x4,vB x5,vI x6] w0 (Q11 w0 B res):=by
 unfold c_J at hm
 refine goF func205 z z (lb z) fun fn hr=>Ws<|E z (fb z) ?_
 rintro _ wc ⟨rfl,hf⟩;have hd:=hf.below;have hb:Blk wc w0.z (vR x1 A9 N9 C9 A8 N8 C8 AA NA CA AB NB CB):=hf.blk;refine Rw z<|Wq ?_
 obtain ⟨uw,hux,hmy⟩:=bdS hm;refine Wt (fun a w=>∃(xe:Bool),xe=uw/\Sat 67 [(12,vB xe)] a/\Below wc.z wc w) ?_ ?_
 ·refine Wg<|RM z z ?_
  obtain ⟨ug,huh,hmz⟩:=bdS hux;refine e_2 18 ug 4 ?_ ?_
  ·rcases bs x2 with Y | Y
   ·iterate 3 refine Nh z Y ?_
    exact R z (pT z Y z)<|WLq 4 (ifT huh Y) z z z
   exact Rh z Y (fd b_3 z)<|Rh z Y (l0 g_3 z<|hb.at z)<|Rh z Y (eql z z)<|R z (pF z Y z)<|WLq 4 (ifF huh Y) z z z
  refine Rm z ?_;obtain ⟨ui,huj,a4⟩:=bdS hmz;refine e_2 27 ui 8 ?_ ?_
  ·rcases bs ug with G | G
   ·have hmk:=ifT huj G;refine Rh z G (mv z)<|Rh z G (mv z) ?_
    rcases bs x3 with O | O
    ·iterate 4 refine Nh z O ?_
     exact Rh z G (pT z O z)<|R z (pT z G z)<|WLq 8 (ifT hmk O) z z z
    exact Rh z O (fd b_r z)<|Rh z O (l0 M_ z<|hb.at z)<|Rh z O (lnR j_ z<|a0.e hd)<|Rh z O (eql z z)<|Rh z G (pF z O z)<|R z (pT z G z)<|WLq 8 (ifF hmk O) z z z
   exact Nh z G<|Nh z G<|Nv z<|Nv z<|Nv z<|Nv z<|Nh z G<|R z (pF z G z)<|WLq 8 (ifF huj G) z z z
  refine Rm z ?_;obtain ⟨ul,hum,a5⟩:=bdS a4;refine e_2 36 ul 8 ?_ ?_
  ·rcases bs ui with H | H
   ·have hmn:=ifT hum H;refine Rh z H (mv z)<|Rh z H (mv z) ?_
    rcases bs x4 with V | V
    ·iterate 4 refine Nh z V ?_
     exact Rh z H (pT z V z)<|R z (pT z H z)<|WLq 8 (ifT hmn V) z z z
    exact Rh z V (fd c_w z)<|Rh z V (l0 a_J z<|hb.at z)<|Rh z V (lnR G_ z<|a1.e hd)<|Rh z V (eql z z)<|Rh z H (pF z V z)<|R z (pT z H z)<|WLq 8 (ifF hmn V) z z z
   exact Nh z H<|Nh z H<|Nv z<|Nv z<|Nv z<|Nv z<|Nh z H<|R z (pF z H z)<|WLq 8 (ifF hum H) z z z
  refine Rm z ?_;obtain ⟨uo,hup,a6⟩:=bdS a5;refine e_2 45 uo 8 ?_ ?_
  ·rcases bs ul with I | I
   ·have hmq:=ifT hup I;refine Rh z I (mv z)<|Rh z I (mv z) ?_
    rcases bs x5 with W | W
    ·iterate 4 refine Nh z W ?_
     exact Rh z I (pT z W z)<|R z (pT z I z)<|WLq 8 (ifT hmq W) z z z
    exact Rh z W (fd b_s z)<|Rh z W (l0 I_ z<|hb.at z)<|Rh z W (lnR z_ z<|a2.e hd)<|Rh z W (eql z z)<|Rh z I (pF z W z)<|R z (pT z I z)<|WLq 8 (ifF hmq W) z z z
   exact Nh z I<|Nh z I<|Nv z<|Nv z<|Nv z<|Nv z<|Nh z I<|R z (pF z I z)<|WLq 8 (ifF hup I) z z z
  refine Rm z ?_;obtain ⟨ur,hus,hmt⟩:=bdS a6;refine e_2 56 ur 10 ?_ ?_
  ·rcases bs uo with J | J
   ·have hmu:=ifT hus J;refine Rh z J (mv z)<|Rh z J (lss z z)<|Rh z J (mv z) ?_
    rcases bs (decide<|x6<0) with L | L
    ·iterate 5 refine Nh z L ?_
     exact Rh z J (pT z L z)<|R z (pT z J z)<|WLq 10 (ifT hmu L) z z z
    exact Rh z L (fd a_2 z)<|Rh z L (l0 I_ z<|hb.at z)<|Rh z L (lnR z_ z<|a3.e hd)<|Rh z L (mv z)<|Rh z L (eql z z)<|Rh z J (pF z L z)<|R z (pT z J z)<|WLq 10 (ifF hmu L) z z z
   iterate 3 refine Nh z J ?_
   exact Nv z<|Nv z<|Nv z<|Nv z<|Nv z<|Nh z J<|R z (pF z J z)<|WLq 10 (ifF hus J) z z z
  refine Rm z ?_
  rcases bs ur with h | h
  ·have hmv:=ifT hmt h;refine Rh z h (fd d_c z)<|Rh z h (l0 g_4 z<|hb.at z)<|Rh z h (not_ z)<|Rh z h (mv z) ?_
   rcases bs (!x1.little) with hca | hca
   ·iterate 3 refine Nh z hca ?_
    exact Rh z h (pT z hca z)<|R z (pT z h z)<|Ra z<|Wl (fun _ q=>⟨true,som<|ifT hmv hca,q.k<|s1 z,br wc⟩)
   exact Rh z hca (fd a_M z)<|Rh z hca (l0 g_3 z<|hb.at z)<|Rh z hca (eql z z)<|Rh z h (pF z hca z)<|R z (pT z h z)<|Ra z<|Wl (fun _ q=>⟨x1.kind==1,som<|ifF hmv hca,q.k<|s1 z,br wc⟩)
  iterate 4 refine Nh z h ?_
  exact Nv z<|Nv z<|Nv z<|Nh z h<|R z (pF z h z)<|Ra z<|Wl (fun _ q=>⟨false,som<|ifF hmt h,q.k<|s1 z,br wc⟩)
 rintro a7 _ ⟨xe,rfl,_,a8⟩;revert a7;refine Wo ?_;obtain rfl:=som hmy;exact Wr<|c_ hr z ⟨bup hd a8,z⟩
theorem m_m {x1:e_}{x2:Int}{res:Int}(hm:f_B x1 x2=some res)(hBw:B<=w0.z)(p1_0:repS w0 B (sl A0 N0 C0) x1.rules)(p2_0:inI x2):h_ prog 206 [(.agg #[sl A0 N0 C0]),vI x2] w0 (Q0 w0 B res):=by
 unfold f_B at hm
 refine goF func206 z z (lb z) fun fn hr=>Ws<|E z (fb z) ?_
 rintro _ I ⟨rfl,L⟩;have h2:=L.below;have h6:Blk I w0.z [sl A0 N0 C0]:=L.blk;refine Rw z<|Wq<|Wq ?_
 obtain ⟨uf,hug,hma⟩:=bdS hm;refine Wt (fun a w=>∃(J:Bool),J=uf/\Sat 39 [(1,vI x2),(2,pt w0.z),(30,vB J)] a/\Below I.z I w) ?_ ?_
 ·refine Wg<|Rm z<|Rf z a_o z<|R z (l0 a_q z<|h6.at z)<|R z (lnR a_b z<|p1_0.e h2)<|R z (sb_ z z) ?_
  obtain ⟨rh,ei,hmb⟩:=bdS hug;refine E z (fc call103 z<|b_c ei (zt' hBw h2.s) p2_0 (ii z)<|iS _ _) ?_;rintro _ _ ⟨s4,rfl⟩;refine R z (not_ z)<|Rm z ?_
  rcases bs (!rh) with G | G
  ·iterate 7 refine Nh z G ?_
   exact R z (pT z G z)<|Rm z<|Nh z z<|Nh z z<|Nh z z<|Nh z z<|Nh z z<|Nh z z<|Nh z z<|Nh z z<|R z (pT z z z)<|Wl (fun _ q=>⟨true,som<|ifT hmb G,q.k<|s3 z z z,s4⟩)
  refine Rh z G (fd a_o z) ?_;have hc:=h6.e s4;refine Rh z G (l0 a_q z<|hc.at z)<|Rh z G (mv z) ?_
  obtain ⟨xj,ek,hmd⟩:=bdS<|ifF hmb G;have he:=p1_0.g<|(h2.ag B).e s4
  refine RXg z z G z (at_ (α:=g_) a_b u_ z z z he ek) ?_;rintro _ ⟨_,_,_,rfl,hl,hn,_⟩;obtain ⟨_,_,_,_,_,_,_,_,_,_,_,_,rfl,_,_,_,_,_,_,_⟩:=a_N hn;refine Rh z G (fd a_M z)<|Rh z G (l0 g_3 z<|hl.at (j:=1) z)<|Rh z G (nq z z)<|R z (pF z G z)<|Rm z ?_
  rcases bs (xj.kind != 1) with h | h
  ·iterate 8 refine Nh z h ?_
   exact R z (pT z h z)<|Wl (fun _ q=>⟨true,som<|ifT hmd h,q.k<|s3 z z z,s4⟩)
  refine Rh z h (fd a_o z)<|Rh z h (l0 a_q z<|hc.at z)<|Rh z h (mv z) ?_
  obtain ⟨_,em,hmo⟩:=bdS<|ifF hmd h;refine RXg z z h z (at_ (α:=g_) a_b u_ z z z he em) ?_;rintro _ ⟨_,_,_,rfl,hp,hq,_⟩;obtain ⟨_,_,_,_,_,_,_,_,_,_,_,_,rfl,_,_,ht,_,_,_,_⟩:=a_N hq;refine Rh z h (fd b_3 z)<|Rh z h (l0 g_3 z<|hp.at (j:=2) z) ?_
  obtain ⟨rr,es,hmu⟩:=bdS hmo;refine Eg z z h z (fc call103 z<|b_c es (zt' hBw<|lt_ h2.s s4.s) ht (ii z)<|ii z) ?_;rintro _ _ ⟨sv,rfl⟩;exact Rh z h (not_ z)<|R z (pF z h z)<|Wl (fun _ q=>⟨!rr,som hmu,q.k<|s3 z z z,bup s4 sv⟩)
 rintro aw _ ⟨J,rfl,_,s5⟩;revert aw;refine Wo<|Wc z (fun H=>?_) (fun H=>?_)
 ·refine Ws<|Rw z ?_
  obtain rfl:=som<|ifT hma H;exact Wr<|c_ hr z ⟨bup h2 s5,z,ii z⟩
 refine Wk<|Ws<|Rf z a_o z<|R z (l0 a_q z<|(h6.e s5).at z)<|Rm z ?_
 obtain ⟨_,ex,hmy⟩:=bdS<|ifF hma H;refine RX z (at_ (α:=g_) a_b u_ z z z (p1_0.g<|(h2.ag B).e s5) ex) ?_;rintro _ ⟨_,_,_,rfl,hz,V,_⟩;obtain ⟨_,_,_,_,_,_,_,_,_,_,_,_,rfl,_,_,W,_,_,_,_⟩:=a_N V;refine Rf z b_3 z<|R z (l0 g_3 z<|hz.at (j:=2) z) ?_
 obtain ⟨_,Y,O⟩:=bdS hmy;refine E z (fc call107 z<|W_w11 Y (zt' hBw<|lt_ h2.s s5.s) W) ?_;rintro _ _ ⟨a0,rfl,_⟩;refine R z (sb_ z z)<|Rw z ?_
 obtain rfl:=som O;exact Wr<|c_ hr z ⟨bup (bup h2 s5) a0,z,iS _ _⟩
theorem W_w2s {x1:List Str}{x2:Str}{res:Bool}(hm:h_R x1 x2=some res)(hBw:B<=w0.z)(p1_0:repS w0 B (sl A0 N0 C0) x1)(p2_0:x2.b.length<=LEN):h_ prog 252 [sl A0 N0 C0,Str.v x2] w0 (Q11 w0 B res):=by
 unfold h_R at hm
 refine goF func252 z z (lb z) fun fn hr=>Ws<|Rw z<|Wq<|Ws<|Rw z ?_
 obtain ⟨_,L,H⟩:=bdS hm;refine Wf (σ:=Unit) (ρ:=Bool) (fun (k3:Nat)(_:Unit) a w=>Sat 18 [(0,sl A0 N0 C0),(1,Str.v x2),(5,vI ((k3:Nat):Int))] a/\Below w0.z w0 w) (fun (_:Unit) a w=>Sat 18 [] a/\Below w0.z w0 w) (fun r ex a w=>ex = .ret/\w_ prog fn (Q11 w0 B r) a w) L ?_ ?_ ?_ ?_ ?_
 ·exact fun _ q=>⟨q.k<|s3 z z z,br w0⟩
 ·rintro k3 _ _ _ _ I ⟨O,G⟩ hma;refine Wu ?_ O;refine Wq<|Wm z<|Rm z ?_
  have h5:=p1_0.e G;refine R z (lnR G_ z h5)<|Rl z z z<|Wx z (fun _=>?_) (fun hc=>(P_ I hc).elim)
  refine Wk<|Wq<|Wb<|Wm z<|Rm z ?_
  obtain ⟨_,eb,J⟩:=bdS hma;refine RX z (at_ (α:=Str) G_ z_9 z z z h5 eb) ?_;rintro _ ⟨_,_,_,rfl,hd,he,_⟩;obtain ⟨rfl,_⟩:=a_r he;refine R z (l0 g_9 z<|hd.at0 z)<|Rm z<|R z (a_R z z)<|Wx z (fun h=>?_) (fun h=>?_)
  ·exact Ws<|Rw z<|Wr<|rtO<|qL (som<|ifT J h).symm<|c_ hr z ⟨G,z⟩
  exact Wk<|Wg<|Rm z<|R z (inc_ I (lt_ (repS.len p1_0) A_) z z)<|Ra z<|Wl (fun _ q=>⟨(),(som<|ifF J h).symm,⟨q.k<|s3 z z z,G⟩⟩)
 ·rintro _ _ _ ⟨hSc,s7⟩;refine Wu ?_ hSc;refine Wq<|Wm z<|Rm z<|R z (lnR G_ z<|p1_0.e s7)<|Rl z z z<|Wx z (fun hc=>(Q_ hc).elim) (fun _=>?_)
  exact We<|fun a' ha'=>⟨rfl,⟨Sat.weaken ha' sn,s7⟩⟩
 ·rintro _ af _ rfl ⟨_,sg⟩;have hmh:=elL H;revert af;refine Wo<|Ws<|Rw z ?_
  obtain rfl:=som hmh;exact Wr<|c_ hr z ⟨sg,z⟩
 rintro _ _ _ _ rfl ⟨rfl,hqi⟩;have hmj:=elR H;obtain rfl:=som hmj;exact ⟨hqi,z⟩
theorem W_w2t {x1:List Str}{res:Bool}(hm:h_S x1=some res)(hBw:B<=w0.z)(p1_0:repS w0 B (sl A0 N0 C0) x1):h_ prog 207 [sl A0 N0 C0] w0 (Q11 w0 B res):=by
 unfold h_S at hm
 refine goF func207 z z (lb z) fun fn hr=>Ws<|Rw z<|Wq<|Ws<|Rw z ?_
 obtain ⟨_,huj,I⟩:=bdS hm;refine Wf (σ:=Unit) (ρ:=Bool) (fun (k1:Nat)(_:Unit) a w=>Sat 29 [(0,sl A0 N0 C0),(3,vI ((k1:Nat):Int))] a/\Below w0.z w0 w) (fun (_:Unit) a w=>Sat 29 [(0,sl A0 N0 C0)] a/\Below w0.z w0 w) (fun r ex a w=>ex = .ret/\w_ prog fn (Q11 w0 B r) a w) huj ?_ ?_ ?_ ?_ ?_
 ·exact fun _ q=>⟨q.k<|s2 z z,br w0⟩
 ·rintro k1 _ _ J _ hka ⟨hSk,s4⟩ hml;refine Wu ?_ hSk;refine Wq<|Wm z<|Rm z<|R z (lnR G_ z<|p1_0.e s4)<|Rl z z z<|Wx z (fun _=>?_) (fun hc=>(P_ hka hc).elim)
  refine Wk<|Wq<|Wb<|Wq ?_
  obtain ⟨um,hun,hmb⟩:=bdS hml;refine Wt (fun a w=>∃(x2:Bool),x2=um/\Sat 29 [(0,sl A0 N0 C0),(3,vI ((k1:Nat):Int)),(25,vB x2)] a/\Below J.z J w) ?_ ?_
  ·refine Wd (X:=noX) 0 (pl_ 16 [4,14]) mo (by kernel_rfl) fun ab s5 _=>dM z z z<|dM z z z ?_
   obtain ⟨_,eo,hmp⟩:=bdS hun;have hd:=(s4.ag B).e s5;refine dRX z z (at_ (α:=Str) G_ z_9 z z z (p1_0.g hd) eo) ?_;rintro _ ⟨_,_,_,rfl,hq,ht,_⟩;obtain ⟨rfl,hu⟩:=a_r ht;refine dR z z (l0 g_9 z<|hq.at0 z) ?_;have he:=lt_ s4.s s5.s;obtain ⟨rr,es,hmc⟩:=bdS hmp;refine dE z z (fc call173 z<|k_w es (zt' hBw he) hu) (.inr fun _ _ h=>F_<|h.1) ?_;rintro _ _ ⟨s6,rfl⟩;refine dR z z (not_ z)<|dM z z z ?_
   rcases bs (!rr) with G | G
   ·iterate 7 refine dRn z z z G z ?_
    exact dEn z z z G z<|dR z z (pT z G z)<|pD (fun _ q=>⟨true,som<|ifT hmc G,q.k<|s3 z z z,bup s5 s6⟩)
   refine dRg z z z G z (mv z)<|dRg z z z G z (mv z) ?_
   obtain ⟨_,ev,hmw⟩:=bdS<|ifF hmc G;have hf:=p1_0.g<|hd.e s6
   refine a_K z z z G z (rX G_ z_9 z z hf z z ev) ?_;rintro _ ⟨_,_,_,rfl,hx⟩;refine dRg z z z G z (mv z)<|dRg z z z G z (mv z) ?_
   obtain ⟨_,ey,hmz⟩:=bdS hmw;refine a_K z z z G z (at_ (α:=Str) G_ z_9 z z z hf ey) ?_;rintro _ ⟨_,_,_,rfl,a1,a2,_⟩;obtain ⟨rfl,a3⟩:=a_r a2;refine dRg z z z G z (l0 g_9 z<|a1.at0 z) ?_;obtain ⟨a4,a5,L⟩:=bdS hmz;refine dEg z z z G z (fc call252 z<|W_w2s a5 (zt' hBw<|lt_ he s6.s) hx a3) (.inr fun _ _ h=>F_<|h.1) ?_;rintro _ _ ⟨a6,rfl⟩;exact dR z z (pF z G z)<|pD (fun _ q=>⟨a4,som L,q.k<|s3 z z z,bup (bup s5 s6) a6⟩)
  rintro a7 _ ⟨x2,rfl,_,sg⟩;revert a7;refine Wo<|Wc z (fun H=>?_) (fun H=>?_)
  ·exact Ws<|Rw z<|Wr<|rtO<|qL (som<|ifT hmb H).symm<|c_ hr z ⟨bup s4 sg,z⟩
  exact Wk<|Wg<|Rm z<|R z (inc_ hka (lt_ (repS.len p1_0) A_) z z)<|Ra z<|Wl (fun _ q=>⟨(),(som<|ifF hmb H).symm,⟨q.k<|s2 z z,bup s4 sg⟩⟩)
 ·rintro _ _ _ ⟨O,sh⟩;refine Wu ?_ O;refine Wq<|Wm z<|Rm z<|R z (lnR G_ z<|p1_0.e sh)<|Rl z z z<|Wx z (fun hc=>(Q_ hc).elim) (fun _=>?_)
  exact We<|fun a' ha'=>⟨rfl,⟨Sat.weaken ha'<|s1 z,sh⟩⟩
 ·rintro _ a8 _ rfl ⟨_,s7⟩;have V:=elL I;revert a8;refine Wo<|Wm z ?_
  have hi:=p1_0.e s7;refine R z (lnR G_ z hi) ?_;obtain ⟨_,a9,W⟩:=bdS V;refine E z (fc call103 z<|b_c a9 (zt' hBw s7.s) (b_W<|repS.len hi) (ii z)<|ii z) ?_;rintro _ _ ⟨aa,rfl⟩;refine Rw z ?_
  obtain rfl:=som W;exact Wr<|c_ hr z ⟨bup s7 aa,z⟩
 rintro _ _ _ _ rfl ⟨rfl,Y⟩;have a0:=elR I;obtain rfl:=som a0;exact ⟨Y,z⟩
theorem W_w2u {x1:e_}{x2:g_}{res:Bool}(hm:h_T x1 x2=some res)(hBw:B<=w0.z)(p1_0:repS w0 B (sl A0 N0 C0) x1.rules)(p2_0:x2.name.b.length<=LEN)(p2_1:inI x2.kind)(p2_2:inI x2.size)(p2_4:repS w0 B (sl A4 N4 C4) x2.bytes)(p2_5:repS w0 B (sl A5 N5 C5) x2.names)(p2_6:repS w0 B (sl A2 N2 C2) x2.tags)(p2_7:repS w0 B (sl A6 N6 C6) x2.kids):h_ prog 208 [(.agg #[sl A0 N0 C0]),(.agg #[Str.v x2.name,vI x2.kind,vI x2.size,vB x2.little,sl A4 N4 C4,sl A5 N5 C5,sl A2 N2 C2,sl A6 N6 C6])] w0 (Q11 w0 B res):=by
 unfold h_T at hm
 refine goF func208 z z (lb z) fun fn hr=>Ws<|E z (fb z) ?_
 rintro _ J ⟨rfl,hn⟩;have h4:=hn.below;refine E z (fb z) ?_;rintro _ wd ⟨rfl,ho⟩;have h3:=ho.below;have ha:Blk wd J.z (vR x2 A4 N4 C4 A5 N5 C5 A2 N2 C2 A6 N6 C6):=ho.blk;refine Rw z<|Wq<|Wq ?_
 obtain ⟨ae,hup,hmq⟩:=bdS hm;refine Wt (fun a w=>∃(xg:Bool),xg=ae/\Sat 59 [(2,pt w0.z),(3,pt J.z),(20,vB xg)] a/\Below wd.z wd w) ?_ ?_
 ·refine Wg<|Rf z a_2 z<|R z (l0 I_ z<|ha.at z) ?_
  have ht:=(h4.ag B).e h3;refine R z (lnR z_ z<|p2_7.g ht)<|Rf z b_s z<|R z (l0 I_ z<|ha.at z) ?_
  have hh:=p2_6.g ht;refine R z (lnR z_ z hh)<|R z (add_ z z)<|R z (nq z z)<|Rm z ?_
  rcases bs ((x2.kids.length:Int) != (b_ (x2.tags.length:Int) 1)) with I | I
  ·iterate 5 refine Nh z I ?_
   exact R z (pT z I z)<|Wl (fun _ q=>⟨true,som<|ifT hup I,q.k<|s3 z z z,br wd⟩)
  refine Rh z I (fd b_s z)<|Rh z I (l0 I_ z<|ha.at z)<|Rh z I (lnR z_ z hh) ?_
  obtain ⟨af,ah,Y⟩:=bdS<|ifF hup I;refine Eg z z I z (fc call103 z<|b_c ah (zt' hBw<|lt_ h4.s h3.s) (b_W<|repS.len hh) (ii z)<|ii z) ?_;rintro _ _ ⟨ai,rfl⟩;exact Rh z I (not_ z)<|R z (pF z I z)<|Wl (fun _ q=>⟨!af,som Y,q.k<|s3 z z z,ai⟩)
 rintro aj wb ⟨xg,rfl,_,s5⟩;revert aj;refine Wo<|Wc z (fun hci=>?_) (fun hci=>?_)
 ·refine Ws<|Rw z ?_
  obtain rfl:=som<|ifT hmq hci;exact Wr<|c_ hr z ⟨bup (bup h4 h3) s5,z⟩
 refine Wk<|Wq<|Ws<|Rw z ?_
 obtain ⟨_,a0,hmr⟩:=bdS<|ifF hmq hci;refine Wf (σ:=Unit) (ρ:=Bool) (fun (ke:Nat)(_:Unit) a w=>Sat 59 [(2,pt w0.z),(3,pt J.z),(5,vI ((ke:Nat):Int))] a/\Below wb.z wb w) (fun (_:Unit) a w=>Sat 59 [] a/\Below wb.z wb w) (fun r ex a w=>ex = .ret/\w_ prog fn (Q11 w0 B r) a w) a0 ?_ ?_ ?_ ?_ ?_
 ·exact fun _ q=>⟨q.k<|s3 z z z,br wb⟩
 ·rintro ke _ _ ws _ hku ⟨a1,s7⟩ a2;refine Wu ?_ a1;refine Wq<|Wm z<|Rf z b_s z ?_
  have hv:=(ha.e s5).e s7;refine R z (l0 I_ z<|hv.at z) ?_;have hw:=(((h4.ag B).e h3).e s5).e s7;refine R z (lnR z_ z<|p2_6.g hw)<|Rl z z z<|Wx z (fun _=>?_) (fun hc=>(P_ hku hc).elim)
  refine Wk<|Wq<|Wb<|Wq ?_
  obtain ⟨ak,a3,hmx⟩:=bdS a2;refine Wt (fun a w=>∃(xj:Bool),xj=ak/\Sat 59 [(2,pt w0.z),(3,pt J.z),(5,vI ((ke:Nat):Int)),(58,vB xj)] a/\Below ws.z ws w) ?_ ?_
  ·refine Wd (X:=noX) 0 (pl_ 31 [10,11]) mo (by kernel_rfl) fun aK s6 _=>dR z z (fd b_s z) ?_
   have hk:=hv.e s6;refine dR z z (l0 I_ z<|hk.at z)<|dM z z z ?_
   obtain ⟨_,al,a4⟩:=bdS a3;have hf:=hw.e s6;refine dRX z z (at_ (α:=Int) z_ z_3 z z z (p2_6.g hf) al) ?_;rintro _ ⟨_,_,_,rfl,am,an,_⟩;obtain ⟨rfl,ao⟩:=W_ an;refine dR z z (l0 g_3 z<|am.at0 z)<|dR z z (lN (vs:=[sl A0 N0 C0]) J_ E_ z z fid<|(((((hn.blk:Blk J w0.z [sl A0 N0 C0]).e h3).e s5).e s7).e s6).row 0 1 z)<|dR z z (fd a_2 z)<|dR z z (l0 I_ z<|hk.at z) ?_
   obtain ⟨_,ap,a5⟩:=bdS a4;refine dRX z z (at_ (α:=Int) z_ z_3 z z z (p2_7.g hf) ap) ?_;rintro _ ⟨_,_,_,rfl,aq,ar,_⟩;obtain ⟨rfl,au⟩:=W_ ar;refine dR z z (l0 g_3 z<|aq.at0 z) ?_;have hy:=lt_ (lt_ (lt_ (lt_ h4.s h3.s) s5.s) s7.s) s6.s;obtain ⟨_,av,a6⟩:=bdS a5;refine dE z z (fc call206 z<|m_m av (zt' hBw hy) (p1_0.g hf) au) (.inr fun _ _ h=>F_<|h.1) ?_;rintro _ _ ⟨s8,rfl,aw⟩;obtain ⟨ax,ay,hmz⟩:=bdS a6;refine dE z z (fc call103 z<|b_c ay (zt' hBw<|lt_ hy s8.s) ao (ii z) aw) (.inr fun _ _ h=>F_<|h.1) ?_;rintro _ _ ⟨sc,rfl⟩;refine dR z z (not_ z)<|dM z z z ?_
   rcases bs (!ax) with H | H
   ·iterate 3 refine dRn z z z H z ?_
    iterate 12 refine dRu z z z z ?_
    exact dRn z z z H z<|dR z z (pT z H z)<|pD (fun _ q=>⟨true,som<|ifT hmz H,q.k<|s4 z z z z,bup (bup s6 s8) sc⟩)
   have L:=ifF hmz H;refine dRg z z z H z (mv z)<|dRg z z z H z (Z_ z z)<|dRg z z z H z (mv z) ?_
   rcases bs (decide<|0<((ke:Nat):Int)) with G | G
   ·refine dRg z z z G z (fd b_s z) ?_;have O:=(hk.e s8).e sc;refine dRg z z z G z (l0 I_ z<|O.at z)<|dRg z z z G z (mv z)<|dRg z z z G z (sb_ z z) ?_
    obtain ⟨az,aA,a7⟩:=bdS<|ifT L G;have V:=p2_6.g<|(hf.e s8).e sc
    refine a_K z z z G z (at_ (α:=Int) z_ z_3 z z z V aA) ?_;rintro _ ⟨_,_,_,rfl,aB,aC,_⟩;obtain ⟨rfl,_⟩:=W_ aC;refine dRg z z z G z (l0 g_3 z<|aB.at0 z)<|dRg z z z G z (fd b_s z)<|dRg z z z G z (l0 I_ z<|O.at z)<|dRg z z z G z (mv z) ?_
    obtain ⟨aD,aE,a8⟩:=bdS a7;refine a_K z z z G z (at_ (α:=Int) z_ z_3 z z z V aE) ?_;rintro _ ⟨_,_,_,rfl,aF,aG,_⟩;obtain ⟨rfl,_⟩:=W_ aG;exact dRg z z z G z (l0 g_3 z<|aF.at0 z)<|dRg z z z G z (b_l z z)<|dRg z z z H z (pT z G z)<|dR z z (pF z H z)<|pD (fun _ q=>⟨decide<|aD<=az,som a8,q.k<|s4 z z z z,bup (bup s6 s8) sc⟩)
   iterate 12 refine dRn z z z G z ?_
   exact dRg z z z H z (pF z G z)<|dR z z (pF z H z)<|pD (fun _ q=>⟨false,som<|ifF L G,q.k<|s4 z z z z,bup (bup s6 s8) sc⟩)
  rintro aH _ ⟨xj,rfl,_,W⟩;revert aH;refine Wo<|Wc z (fun hcl=>?_) (fun hcl=>?_)
  ·exact Ws<|Rw z<|Wr<|rtO<|qL (som<|ifT hmx hcl).symm<|c_ hr z ⟨bup (bup (bup (bup h4 h3) s5) s7) W,z⟩
  exact Wk<|Wg<|Rm z<|R z (inc_ hku (lt_ (repS.len p2_6) A_) z z)<|Ra z<|Wl (fun _ q=>⟨(),(som<|ifF hmx hcl).symm,⟨q.k<|s3 z z z,bup s7 W⟩⟩)
 ·rintro _ _ _ ⟨a9,sm⟩;refine Wu ?_ a9;refine Wq<|Wm z<|Rf z b_s z<|R z (l0 I_ z<|((ha.e s5).e sm).at z)<|R z (lnR z_ z<|p2_6.g<|(((h4.ag B).e h3).e s5).e sm)<|Rl z z z<|Wx z (fun hc=>(Q_ hc).elim) (fun _=>?_)
  exact We<|fun a' ha'=>⟨rfl,⟨Sat.weaken ha' sn,sm⟩⟩
 ·rintro _ aI _ rfl ⟨_,aJ⟩;have aa:=elL hmr;revert aI;refine Wo<|Ws<|Rw z ?_
  obtain rfl:=som aa;exact Wr<|c_ hr z ⟨bup (bup (bup h4 h3) s5) aJ,z⟩
 rintro _ _ _ _ rfl ⟨rfl,ab⟩;have ad:=elR hmr;obtain rfl:=som ad;exact ⟨ab,z⟩
theorem W_w2v {x1:e_}{x2:g_}{res:Bool}(hm:h_U x1 x2=some res)(hBw:B<=w0.z)(p1_0:repS w0 B (sl A0 N0 C0) x1.rules)(p2_0:x2.name.b.length<=LEN)(p2_1:inI x2.kind)(p2_2:inI x2.size)(p2_4:repS w0 B (sl A4 N4 C4) x2.bytes)(p2_5:repS w0 B (sl A5 N5 C5) x2.names)(p2_6:repS w0 B (sl A2 N2 C2) x2.tags)(p2_7:repS w0 B (sl A6 N6 C6) x2.kids):h_ prog 174 [(.agg #[sl A0 N0 C0]),(.agg #[Str.v x2.name,vI x2.kind,vI x2.size,vB x2.little,sl A4 N4 C4,sl A5 N5 C5,sl A2 N2 C2,sl A6 N6 C6])] w0 (Q11 w0 B res):=by
 unfold h_U at hm
 refine goF func174 z z (lb z) fun fn hr=>Ws<|E z (fb z) ?_
 rintro _ aa ⟨rfl,aK⟩;have h1:=aK.below;have ab:Blk aa w0.z [sl A0 N0 C0]:=aK.blk;refine E z (fb z) ?_;rintro _ H ⟨rfl,aL⟩;have G:=aL.below;have h3:Blk H aa.z (vR x2 A4 N4 C4 A5 N5 C5 A2 N2 C2 A6 N6 C6):=aL.blk;refine Rw z<|Wq<|Ws<|Rf z a_M z<|R z (l0 g_3 z<|h3.at z)<|Wn<|Wb<|Ws<|Rq z z z<|Rw z<|Wc z (fun a0=>?_) (fun a0=>?_)
 ·refine Wq ?_;obtain ⟨bz,b4,b5⟩:=bdS<|ifT hm a0;refine Wt (fun a w=>∃(ad:Bool),ad=bz/\Sat 114 [(4,vB ad)] a/\Below H.z H w) ?_ ?_
  ·refine Wg<|R z (lN (vs:=vR x2 A4 N4 C4 A5 N5 C5 A2 N2 C2 A6 N6 C6) R_ u_ z z fid<|h3.row 0 8 z) ?_
   have hw:=(h1.ag B).e G;have aM:=lt_ h1.s G.s;obtain ⟨bA,bB,ao⟩:=bdS b4;refine E z (fc call205 z<|e_p bB (zt' hBw aM) p2_0 p2_1 p2_2 (p2_4.g hw) (p2_5.g hw) (p2_6.g hw) (p2_7.g hw)<|ii z) ?_;rintro _ _ ⟨sg,rfl⟩;refine Rm z ?_
   rcases bs bA with hca | hca
   ·refine Rh z hca (fd b_3 z) ?_;have aN:=h3.e sg;refine Rh z hca (l0 g_3 z<|aN.at z) ?_;obtain ⟨bC,bD,ap⟩:=bdS<|ifT ao hca;refine Eg z z hca z (fc call103 z<|b_c bD (zt' hBw<|lt_ aM sg.s) p2_2 (ii z)<|ii z) ?_;rintro _ _ ⟨sx,rfl⟩;refine R z (pT z hca z)<|Rm z ?_
    rcases bs bC with L | L
    ·have aq:=ifT ap L;refine Rh z L (fd d_c z) ?_;have aO:=aN.e sx;refine Rh z L (l0 g_4 z<|aO.at z)<|Rh z L (not_ z)<|Rh z L (mv z) ?_
     rcases bs (!x2.little) with hcb | hcb
     ·iterate 3 refine Nh z hcb ?_
      exact Rh z L (pT z hcb z)<|R z (pT z L z)<|Ra z<|Wl (fun _ q=>⟨true,som<|ifT aq hcb,q.k<|s1 z,bup sg sx⟩)
     exact Rh z hcb (fd b_3 z)<|Rh z hcb (l0 g_3 z<|aO.at z)<|Rh z hcb (Z_ z z)<|Rh z L (pF z hcb z)<|R z (pT z L z)<|Ra z<|Wl (fun _ q=>⟨decide<|1<x2.size,som<|ifF aq hcb,q.k<|s1 z,bup sg sx⟩)
    iterate 4 refine Nh z L ?_
    exact Nv z<|Nv z<|Nv z<|Nh z L<|R z (pF z L z)<|Ra z<|Wl (fun _ q=>⟨false,som<|ifF ap L,q.k<|s1 z,bup sg sx⟩)
   iterate 3 refine Nh z hca ?_
   exact R z (pF z hca z)<|Rm z<|Nh z z<|Nh z z<|Nh z z<|Nh z z<|Nv z<|Nv z<|Nv z<|Nh z z<|R z (pF z z z)<|Ra z<|Wl (fun _ q=>⟨false,som<|ifF ao hca,q.k<|s1 z,sg⟩)
  rintro bE _ ⟨ad,rfl,_,bF⟩;revert bE;refine Wo ?_;obtain rfl:=som b5;exact Wr<|rtO<|c_ hr z ⟨bup (bup h1 G) bF,z⟩
 have ar:=ifF hm a0;refine Ws<|Rq z z z<|Rw z<|Wc z (fun a1=>?_) (fun a1=>?_)
 ·refine Wq ?_;obtain ⟨bG,b6,b7⟩:=bdS<|ifT ar a1;refine Wt (fun a w=>∃(ae:Bool),ae=bG/\Sat 114 [(4,vB ae)] a/\Below H.z H w) ?_ ?_
  ·refine Wg<|R z (lN (vs:=vR x2 A4 N4 C4 A5 N5 C5 A2 N2 C2 A6 N6 C6) R_ u_ z z fid<|h3.row 0 8 z) ?_
   have hl:=(h1.ag B).e G;have aP:=lt_ h1.s G.s;obtain ⟨bH,bI,au⟩:=bdS b6;refine E z (fc call205 z<|e_p bI (zt' hBw aP) p2_0 p2_1 p2_2 (p2_4.g hl) (p2_5.g hl) (p2_6.g hl) (p2_7.g hl)<|ii z) ?_;rintro _ _ ⟨sn,rfl⟩;refine Rm z ?_
   rcases bs bH with V | V
   ·refine Rh z V (fd b_r z)<|Rh z V (l0 M_ z<|(h3.e sn).at z) ?_
    have aQ:=p2_4.g<|hl.e sn
    refine Rh z V (lnR j_ z aQ) ?_;obtain ⟨bJ,bK,b8⟩:=bdS<|ifT au V;refine Eg z z V z (fc call103 z<|b_c bK (zt' hBw<|lt_ aP sn.s) (b_W<|repS.len aQ) (ii z)<|ii z) ?_;rintro _ _ ⟨bL,rfl⟩;exact R z (pT z V z)<|Ra z<|Wl (fun _ q=>⟨bJ,som b8,q.k<|s1 z,bup sn bL⟩)
   iterate 4 refine Nh z V ?_
   exact R z (pF z V z)<|Ra z<|Wl (fun _ q=>⟨false,som<|ifF au V,q.k<|s1 z,sn⟩)
  rintro bM _ ⟨ae,rfl,_,bN⟩;revert bM;refine Wo ?_;obtain rfl:=som b7;exact Wr<|rtO<|c_ hr z ⟨bup (bup h1 G) bN,z⟩
 have av:=ifF ar a1;refine Ws<|Rq z z z<|Rw z<|Wc z (fun a2=>?_) (fun a2=>?_)
 ·refine Wq ?_;obtain ⟨bO,b9,ba⟩:=bdS<|ifT av a2;refine Wt (fun a w=>∃(af:Bool),af=bO/\Sat 114 [(4,vB af)] a/\Below H.z H w) ?_ ?_
  ·refine Wg<|R z (lN (vs:=vR x2 A4 N4 C4 A5 N5 C5 A2 N2 C2 A6 N6 C6) R_ u_ z z fid<|h3.row 0 8 z) ?_
   have hy:=(h1.ag B).e G;have aR:=lt_ h1.s G.s;obtain ⟨bP,bQ,aw⟩:=bdS b9;refine E z (fc call205 z<|e_p bQ (zt' hBw aR) p2_0 p2_1 p2_2 (p2_4.g hy) (p2_5.g hy) (p2_6.g hy) (p2_7.g hy)<|ii z) ?_;rintro _ _ ⟨sz,rfl⟩;refine Rm z ?_
   rcases bs bP with hcc | hcc
   ·refine Rh z hcc (fd b_3 z)<|Rh z hcc (l0 g_3 z<|(h3.e sz).at z) ?_
    obtain ⟨bR,bS,bb⟩:=bdS<|ifT aw hcc;refine Eg z z hcc z (fc call103 z<|b_c bS (zt' hBw<|lt_ aR sz.s) p2_2 (ii z)<|ii z) ?_;rintro _ _ ⟨bT,rfl⟩;exact R z (pT z hcc z)<|Ra z<|Wl (fun _ q=>⟨bR,som bb,q.k<|s1 z,bup sz bT⟩)
   iterate 3 refine Nh z hcc ?_
   exact R z (pF z hcc z)<|Ra z<|Wl (fun _ q=>⟨false,som<|ifF aw hcc,q.k<|s1 z,sz⟩)
  rintro bU _ ⟨af,rfl,_,bV⟩;revert bU;refine Wo ?_;obtain rfl:=som ba;exact Wr<|rtO<|c_ hr z ⟨bup (bup h1 G) bV,z⟩
 have ax:=ifF av a2;refine Ws<|Rq z z z<|Rw z<|Wc z (fun a3=>?_) (fun a3=>?_)
 ·refine Wq ?_;obtain ⟨bW,bc,be⟩:=bdS<|ifT ax a3;refine Wt (fun a w=>∃(ah:Bool),ah=bW/\Sat 114 [(4,vB ah)] a/\Below H.z H w) ?_ ?_
  ·refine Wd (X:=noX) 0 (pl_ 12 [1,8]) mo (by kernel_rfl) fun cO sh _=>?_
   have aS:=h3.e sh;refine dR z z (lN (vs:=vR x2 A4 N4 C4 A5 N5 C5 A2 N2 C2 A6 N6 C6) R_ u_ z z fid<|aS.row 0 8 z) ?_;have ho:=((h1.ag B).e G).e sh;have aT:=lt_ (lt_ h1.s G.s) sh.s;obtain ⟨bX,bY,ay⟩:=bdS bc;refine dE z z (fc call205 z<|e_p bY (zt' hBw aT) p2_0 p2_1 p2_2 (p2_4.g ho) (p2_5.g ho) (p2_6.g ho) (p2_7.g ho)<|ii z) (.inr fun _ _ h=>F_<|h.1) ?_;rintro _ _ ⟨si,rfl⟩;refine dM z z z ?_
   rcases bs bX with I | I
   ·refine dRg z z z I z (lN (vs:=[sl A0 N0 C0]) J_ E_ z z fid<|(((ab.e G).e sh).e si).row 0 1 z)<|dRg z z z I z (fd a_2 z)<|dRg z z z I z (l0 I_ z<|(aS.e si).at z) ?_
    obtain ⟨_,bZ,bf⟩:=bdS<|ifT ay I;have aU:=ho.e si;refine a_K z z z I z (at_ (α:=Int) z_ z_3 z z z (p2_7.g aU) bZ) ?_;rintro _ ⟨_,_,_,rfl,c0,c1,_⟩;obtain ⟨rfl,c2⟩:=W_ c1;refine dRg z z z I z (l0 g_3 z<|c0.at0 z) ?_;obtain ⟨c3,c4,bg⟩:=bdS bf;refine dEg z z z I z (fc call206 z<|m_m c4 (zt' hBw<|lt_ aT si.s) (p1_0.g aU) c2) (.inr fun _ _ h=>F_<|h.1) ?_;rintro _ _ ⟨c5,rfl,_⟩;exact dRg z z z I z (Z_ z z)<|dR z z (pT z I z)<|dQ z z z<|pD (fun _ q=>⟨decide<|0<c3,som bg,q.k<|s1 z,bup (bup sh si) c5⟩)
   iterate 5 refine dRn z z z I z ?_
   exact dEn z z z I z<|dRn z z z I z<|dR z z (pF z I z)<|dQ z z z<|pD (fun _ q=>⟨false,som<|ifF ay I,q.k<|s1 z,bup sh si⟩)
  rintro c6 _ ⟨ah,rfl,_,c7⟩;revert c6;refine Wo ?_;obtain rfl:=som be;exact Wr<|rtO<|c_ hr z ⟨bup (bup h1 G) c7,z⟩
 have az:=ifF ax a3;refine Ws<|Rq z z z<|Rw z<|Wc z (fun a4=>?_) (fun a4=>?_)
 ·refine Wq ?_;obtain ⟨c8,bh,bi⟩:=bdS<|ifT az a4;refine Wt (fun a w=>∃(ai:Bool),ai=c8/\Sat 114 [(4,vB ai)] a/\Below H.z H w) ?_ ?_
  ·refine Wd (X:=noX) 0 (pl_ 12 [1,8]) mo (by kernel_rfl) fun cP sj _=>?_
   have aV:=h3.e sj;refine dR z z (lN (vs:=vR x2 A4 N4 C4 A5 N5 C5 A2 N2 C2 A6 N6 C6) R_ u_ z z fid<|aV.row 0 8 z) ?_;have hp:=((h1.ag B).e G).e sj;have aW:=lt_ (lt_ h1.s G.s) sj.s;obtain ⟨c9,ca,aA⟩:=bdS bh;refine dE z z (fc call205 z<|e_p ca (zt' hBw aW) p2_0 p2_1 p2_2 (p2_4.g hp) (p2_5.g hp) (p2_6.g hp) (p2_7.g hp)<|ii z) (.inr fun _ _ h=>F_<|h.1) ?_;rintro _ _ ⟨sk,rfl⟩;refine dM z z z ?_
   rcases bs c9 with J | J
   ·refine dRg z z z J z (lN (vs:=[sl A0 N0 C0]) J_ E_ z z fid<|(((ab.e G).e sj).e sk).row 0 1 z)<|dRg z z z J z (fd a_2 z)<|dRg z z z J z (l0 I_ z<|(aV.e sk).at z) ?_
    obtain ⟨_,cb,bj⟩:=bdS<|ifT aA J;have aX:=hp.e sk;refine a_K z z z J z (at_ (α:=Int) z_ z_3 z z z (p2_7.g aX) cb) ?_;rintro _ ⟨_,_,_,rfl,cc,cd,_⟩;obtain ⟨rfl,ce⟩:=W_ cd;refine dRg z z z J z (l0 g_3 z<|cc.at0 z) ?_;obtain ⟨cf,cg,bk⟩:=bdS bj;refine dEg z z z J z (fc call206 z<|m_m cg (zt' hBw<|lt_ aW sk.s) (p1_0.g aX) ce) (.inr fun _ _ h=>F_<|h.1) ?_;rintro _ _ ⟨ch,rfl,_⟩;exact dRg z z z J z (Z_ z z)<|dR z z (pT z J z)<|dQ z z z<|pD (fun _ q=>⟨decide<|0<cf,som bk,q.k<|s1 z,bup (bup sj sk) ch⟩)
   iterate 5 refine dRn z z z J z ?_
   exact dEn z z z J z<|dRn z z z J z<|dR z z (pF z J z)<|dQ z z z<|pD (fun _ q=>⟨false,som<|ifF aA J,q.k<|s1 z,bup sj sk⟩)
  rintro ci _ ⟨ai,rfl,_,cj⟩;revert ci;refine Wo ?_;obtain rfl:=som bi;exact Wr<|rtO<|c_ hr z ⟨bup (bup h1 G) cj,z⟩
 have aB:=ifF az a4;refine Ws<|Rq z z z<|Rw z<|Wc z (fun a5=>?_) (fun a5=>?_)
 ·refine Wq ?_;obtain ⟨ck,bm,bn⟩:=bdS<|ifT aB a5;refine Wt (fun a w=>∃(aj:Bool),aj=ck/\Sat 114 [(4,vB aj)] a/\Below H.z H w) ?_ ?_
  ·refine Wg<|R z (lN (vs:=vR x2 A4 N4 C4 A5 N5 C5 A2 N2 C2 A6 N6 C6) R_ u_ z z fid<|h3.row 0 8 z)<|Rf z c_w z<|R z (l0 a_J z<|h3.at z) ?_
   have hq:=(h1.ag B).e G;have ak:=p2_5.g hq;refine R z (lnR G_ z ak) ?_;have aY:=lt_ h1.s G.s;obtain ⟨cl,cm,aC⟩:=bdS bm;refine E z (fc call205 z<|e_p cm (zt' hBw aY) p2_0 p2_1 p2_2 (p2_4.g hq) ak (p2_6.g hq) (p2_7.g hq)<|b_W<|repS.len ak) ?_;rintro _ _ ⟨sr,rfl⟩;refine Rm z ?_
   rcases bs cl with hcd | hcd
   ·refine Rh z hcd (fd c_w z)<|Rh z hcd (l0 a_J z<|(h3.e sr).at z) ?_
    obtain ⟨cn,co,bo⟩:=bdS<|ifT aC hcd;refine Eg z z hcd z (fc call207 z<|W_w2t co (zt' hBw<|lt_ aY sr.s)<|p2_5.g<|hq.e sr) ?_;rintro _ _ ⟨cp,rfl⟩;exact R z (pT z hcd z)<|Ra z<|Wl (fun _ q=>⟨cn,som bo,q.k<|s1 z,bup sr cp⟩)
   iterate 3 refine Nh z hcd ?_
   exact R z (pF z hcd z)<|Ra z<|Wl (fun _ q=>⟨false,som<|ifF aC hcd,q.k<|s1 z,sr⟩)
  rintro cq _ ⟨aj,rfl,_,cr⟩;revert cq;refine Wo ?_;obtain rfl:=som bn;exact Wr<|rtO<|c_ hr z ⟨bup (bup h1 G) cr,z⟩
 have aD:=ifF aB a5;refine Ws<|Rq z z z<|Rw z<|Wc z (fun a6=>?_) (fun a6=>?_)
 ·refine Wq ?_;obtain ⟨ct,bp,bq⟩:=bdS<|ifT aD a6;refine Wt (fun a w=>∃(al:Bool),al=ct/\Sat 114 [(4,vB al)] a/\Below H.z H w) ?_ ?_
  ·refine Wg<|R z (lN (vs:=vR x2 A4 N4 C4 A5 N5 C5 A2 N2 C2 A6 N6 C6) R_ u_ z z fid<|h3.row 0 8 z) ?_
   have ht:=(h1.ag B).e G;have aZ:=lt_ h1.s G.s;obtain ⟨cu,cv,aE⟩:=bdS bp;refine E z (fc call205 z<|e_p cv (zt' hBw aZ) p2_0 p2_1 p2_2 (p2_4.g ht) (p2_5.g ht) (p2_6.g ht) (p2_7.g ht)<|ii z) ?_;rintro _ _ ⟨sm,rfl⟩;refine Rm z ?_
   rcases bs cu with hce | hce
   ·refine Rh z hce (lN (vs:=[sl A0 N0 C0]) J_ E_ z z fid<|((ab.e G).e sm).row 0 1 z)<|Rh z hce (lN (vs:=vR x2 A4 N4 C4 A5 N5 C5 A2 N2 C2 A6 N6 C6) R_ u_ z z fid<|(h3.e sm).row 0 8 z) ?_
    have hu:=ht.e sm;obtain ⟨cw,cx,bt⟩:=bdS<|ifT aE hce;refine Eg z z hce z (fc call208 z<|W_w2u cx (zt' hBw<|lt_ aZ sm.s) (p1_0.g hu) p2_0 p2_1 p2_2 (p2_4.g hu) (p2_5.g hu) (p2_6.g hu)<|p2_7.g hu) ?_;rintro _ _ ⟨cy,rfl⟩;exact R z (pT z hce z)<|Ra z<|Wl (fun _ q=>⟨cw,som bt,q.k<|s1 z,bup sm cy⟩)
   iterate 3 refine Nh z hce ?_
   exact R z (pF z hce z)<|Ra z<|Wl (fun _ q=>⟨false,som<|ifF aE hce,q.k<|s1 z,sm⟩)
  rintro cz _ ⟨al,rfl,_,cA⟩;revert cz;refine Wo ?_;obtain rfl:=som bq;exact Wr<|rtO<|c_ hr z ⟨bup (bup h1 G) cA,z⟩
 refine Wq<|Ws<|Rq z z z<|Rw z ?_
 obtain ⟨cB,aF,aG⟩:=bdS<|ifF aD a6;refine Wt (fun a w=>∃(am:Bool),am=cB/\Sat 114 [(3,pt aa.z),(6,vI x2.kind),(92,vB am)] a/\Below H.z H w) ?_ ?_
 ·refine Wc z (fun a7=>?_)<|fun a7=>?_
  ·exact a_e<|fun _ q=>⟨x2.kind==8,som<|ifT aF a7,q.k<|s3 z z z,br H⟩
  exact Wg<|Rq z z z<|Ra z<|Wl (fun _ q=>⟨x2.kind==9,som<|ifF aF a7,q.k<|s3 z z z,br H⟩)
 rintro cC b0 ⟨am,rfl,_,sf⟩;revert cC;refine Wo<|Wc z (fun a8=>?_) (fun a8=>?_)
 ·refine Ws<|R z (lN (vs:=vR x2 A4 N4 C4 A5 N5 C5 A2 N2 C2 A6 N6 C6) R_ u_ z z fid<|(h3.e sf).row 0 8 z) ?_
  have Y:=((h1.ag B).e G).e sf;obtain ⟨_,cD,bu⟩:=bdS<|ifT aG a8;refine E z (fc call205 z<|e_p cD (zt' hBw<|lt_ (lt_ h1.s G.s) sf.s) p2_0 p2_1 p2_2 (p2_4.g Y) (p2_5.g Y) (p2_6.g Y) (p2_7.g Y)<|ii z) ?_;rintro _ _ ⟨cE,rfl⟩;refine Rw z ?_
  obtain rfl:=som bu;exact Wr<|rtO<|c_ hr z ⟨bup (bup (bup h1 G) sf) cE,z⟩
 have aH:=ifF aG a8;refine Ws<|Rq z z z<|Rw z<|Wc z (fun a9=>?_) (fun a9=>?_)
 ·refine Wq ?_;obtain ⟨cF,bv,bw⟩:=bdS<|ifT aH a9;refine Wt (fun a w=>∃(an:Bool),an=cF/\Sat 114 [(4,vB an)] a/\Below b0.z b0 w) ?_ ?_
  ·refine Wg ?_;have b1:=h3.e sf;refine R z (lN (vs:=vR x2 A4 N4 C4 A5 N5 C5 A2 N2 C2 A6 N6 C6) R_ u_ z z fid<|b1.row 0 8 z) ?_;have hv:=((h1.ag B).e G).e sf;obtain ⟨cG,cH,aI⟩:=bdS bv;refine E z (fc call205 z<|e_p cH (zt' hBw<|lt_ (lt_ h1.s G.s) sf.s) p2_0 p2_1 p2_2 (p2_4.g hv) (p2_5.g hv) (p2_6.g hv) (p2_7.g hv)<|ii z) ?_;rintro _ _ ⟨ss,rfl⟩;refine Rm z ?_
   rcases bs cG with W | W
   ·have aJ:=ifT aI W;refine Rh z W (fd b_r z) ?_;have b2:=b1.e ss;refine Rh z W (l0 M_ z<|b2.at z) ?_;have b3:=p2_4.g<|hv.e ss
    refine Rh z W (lnR j_ z b3)<|Rh z W (eql z z)<|R z (pT z W z)<|Rm z ?_
    rcases bs ((x2.bytes.length:Int)==1) with O | O
    ·refine Rh z O (fd b_r z)<|Rh z O (l0 M_ z<|b2.at z) ?_
     obtain ⟨cI,cJ,bx⟩:=bdS<|ifT aJ O;refine RXg z z O z (at_ (α:=UInt8) j_ z_5 z z z b3 cJ) ?_;rintro _ ⟨_,_,_,rfl,cK,cL,_⟩;obtain rfl:=u8 cL;exact Rh z O (l0 g_5 z<|cK.at0 z)<|Rh z O (nq z z)<|R z (pT z O z)<|Ra z<|Wl (fun _ q=>⟨(byteI cI) != (byteI (92:UInt8)),som bx,q.k<|s1 z,ss⟩)
    iterate 5 refine Nh z O ?_
    exact R z (pF z O z)<|Ra z<|Wl (fun _ q=>⟨false,som<|ifF aJ O,q.k<|s1 z,ss⟩)
   iterate 4 refine Nh z W ?_
   exact R z (pF z W z)<|Rm z<|Nh z z<|Nh z z<|Nh z z<|Nh z z<|Nh z z<|R z (pF z z z)<|Ra z<|Wl (fun _ q=>⟨false,som<|ifF aI W,q.k<|s1 z,ss⟩)
  rintro cM _ ⟨an,rfl,_,cN⟩;revert cM;refine Wo ?_;obtain rfl:=som bw;exact Wr<|rtO<|c_ hr z ⟨bup (bup (bup h1 G) sf) cN,z⟩
 refine Wk<|Ws<|Rw z ?_
 obtain rfl:=som<|ifF aH a9;exact Wr<|c_ hr z ⟨bup (bup h1 G) sf,z⟩
theorem W_w2w {x1:e_}{x2:Int}{res:Bool}(hm:h_V x1 x2=some res)(hBw:B<=w0.z)(p1_0:repS w0 B (sl A0 N0 C0) x1.rules)(p2_0:inI x2):h_ prog 122 [(.agg #[sl A0 N0 C0]),vI x2] w0 (Q11 w0 B res):=by
 unfold h_V at hm
 refine goF func122 z z (lb z) fun fn hr=>Ws<|E z (fb z) ?_
 rintro _ aK ⟨rfl,a5⟩;have h1:=a5.below;have he:Blk aK w0.z [sl A0 N0 C0]:=a5.blk;refine Rw z<|Wq<|Wm z<|Rf z a_o z<|R z (l0 a_q z<|he.at z)<|R z (lnR a_b z<|p1_0.e h1)<|R z (sb_ z z) ?_
 obtain ⟨_,aL,V⟩:=bdS hm;refine E z (fc call103 z<|b_c aL (zt' hBw h1.s) p2_0 (ii z)<|iS _ _) ?_;rintro _ H ⟨h,rfl⟩;refine R z (not_ z)<|Wx z (fun hci=>?_) (fun hci=>?_)
 ·refine Ws<|Rw z ?_
  obtain rfl:=som<|ifT V hci;exact Wr<|c_ hr z ⟨bup h1 h,z⟩
 refine Wk<|Ws<|Rf z a_o z ?_
 have hj:=he.e h;refine R z (l0 a_q z<|hj.at z)<|Rm z ?_
 obtain ⟨xk,aM,al⟩:=bdS<|ifF V hci;have hl:=(h1.ag B).e h;refine RX z (at_ (α:=g_) a_b u_ z z z (p1_0.g hl) aM) ?_;rintro _ ⟨_,_,_,rfl,aN,aO,_⟩;obtain ⟨am,nn,co,ap,nq,cr,au,ns,ct,av,nw,cx,rfl,a6,aP,aQ,aR,aS,aT,hf⟩:=a_N aO;refine R z (lN (vs:=vR xk am nn co ap nq cr au ns ct av nw cx) R_ u_ z z fid aN)<|E z (fa c_x) ?_
 rintro _ aU ⟨rfl,a7⟩;have h2:=a7.below;refine E0 (fs (cur':=vR xk am nn co ap nq cr au ns ct av nw cx) u_ z z (a7.blk:Blk aU H.z [(Str.v (⟨[]⟩:Str)),vI 0,vI 0,vB false,sl none 0 0,sl none 0 0,sl none 0 0,sl none 0 0]) z (lb z) (oA z) z) ?_;rintro _ I ⟨hg,aV⟩;have h3:=aV.one;refine Wn<|Wq<|Ws<|Rw z ?_
 obtain ⟨_,an,W⟩:=bdS al;refine Wf (σ:=Unit) (ρ:=Bool) (fun (a8:Nat)(_:Unit) a w=>Sat 58 [(1,vI x2),(2,pt w0.z),(5,pt H.z),(6,vI ((a8:Nat):Int))] a/\Below I.z I w) (fun (_:Unit) a w=>Sat 58 [(1,vI x2),(2,pt w0.z),(5,pt H.z)] a/\Below I.z I w) (fun r ex a w=>ex = .ret/\w_ prog fn (Q11 w0 B r) a w) an ?_ ?_ ?_ ?_ ?_
 ·exact fun _ q=>⟨q.k<|s4 z z z z,br I⟩
 ·rintro a8 _ _ _ _ Y ⟨ao,sa⟩ aq;refine Wu ?_ ao;refine Wq<|Wm z<|Rm z<|Rl z z z<|Wx z (fun _=>?_) (fun hc=>(j_z Y hc).elim)
  refine Wk<|Wq<|Wb<|Wq (Wd (X:=noX) 0 (pl_ 9 []) mo (by kernel_rfl) fun bg sb _=>dR z z (fd a_o z)<|dR z z (l0 a_q z<|((((hj.e h2).c h3<|djs<|mm1 he.lt h.s).e sa).e sb).at z)<|dM z z z ?_)
  obtain ⟨_,aW,a0⟩:=bdS aq;have a9:=lt_ h1.s h.s;refine dRX z z (at_ (α:=g_) a_b u_ z z z (p1_0.g<|(((hl.e h2).c h3<|f_ (or0 (d_ lr) (n_<|zt' hBw a9):∀k∈[H.z],¬B k)).e sa).e sb) aW) ?_;rintro _ ⟨_,_,_,rfl,aX,aY,_⟩;obtain ⟨_,_,_,_,_,_,_,_,_,_,_,_,rfl,_,_,_,_,_,_,_⟩:=a_N aY;refine dR z z (fd e_k z)<|dR z z (l0 g_9 z<|aX.at (j:=0) z)<|dR z z (fd e_k z)<|dR z z (l0 g_9 z<|((hg.e sa).e sb).at z)<|dR z z (a_R z z)<|pD<|Wo<|Wc z (fun hcy=>?_) (fun hcy=>?_)
  ·exact Ws<|Rw z<|Wr<|rtO<|qL (som<|ifT a0 hcy).symm<|c_ hr z ⟨bup (bup (bM (bup (bup h1 h) h2) h3<|m1 a9) sa) sb,z⟩
  exact Wk<|Wg<|Rm z<|R z (inc_ Y (tl_ p2_0) z z)<|Ra z<|Wl (fun _ q=>⟨(),(som<|ifF a0 hcy).symm,⟨q.k<|s4 z z z z,bup sa sb⟩⟩)
 ·rintro _ _ _ ⟨ar,aZ⟩;refine Wu ?_ ar;refine Wq<|Wm z<|Rm z<|Rl z z z<|Wx z (fun hc=>(j_A hc).elim) (fun _=>?_)
  exact We<|fun a' ha'=>⟨rfl,⟨Sat.weaken ha'<|s3 z z z,aZ⟩⟩
 ·rintro _ b0 wc rfl ⟨_,s5⟩;have aw:=elL W;revert b0;refine Wo<|Wq<|Ws<|Rw z ?_
  obtain ⟨_,ax,a1⟩:=bdS aw;refine Wf (σ:=Unit) (ρ:=Bool) (fun (aa:Nat)(_:Unit) a w=>Sat 58 [(1,vI x2),(2,pt w0.z),(5,pt H.z),(7,vI ((aa:Nat):Int))] a/\Below wc.z wc w) (fun (_:Unit) a w=>Sat 58 [(2,pt w0.z),(5,pt H.z)] a/\Below wc.z wc w) (fun r ex a w=>ex = .ret/\w_ prog fn (Q11 w0 B r) a w) ax ?_ ?_ ?_ ?_ ?_
  ·exact fun _ q=>⟨q.k<|s4 z z z z,br wc⟩
  ·rintro aa _ _ _ _ a2 ⟨ay,sd⟩ az;refine Wu ?_ ay;refine Wq<|Wm z<|Rf z a_2 z ?_
   have ab:=(hg.e s5).e sd;refine R z (l0 I_ z<|ab.at z) ?_;have hz:=lt_ h1.s h.s;have ad:=hf.g<|(((h2.ag B).c h3<|f_ (or0 (d_ lr) (n_<|zt' hBw hz):∀k∈[H.z],¬B k)).e s5).e sd
   refine R z (lnR z_ z ad)<|Rl z z z<|Wx z (fun _=>?_) (fun hc=>(P_ a2 hc).elim)
   refine Wk<|Wq<|Wb<|Ws<|Rf z a_2 z<|R z (l0 I_ z<|ab.at z)<|Rm z ?_
   obtain ⟨_,b1,aA⟩:=bdS az;refine RX z (at_ (α:=Int) z_ z_3 z z z ad b1) ?_;rintro _ ⟨_,_,_,rfl,b2,b3,_⟩;obtain ⟨rfl,b4⟩:=W_ b3;refine R z (l0 g_3 z<|b2.at0 z)<|Rm z<|R z (sb_ z z) ?_
   obtain ⟨_,b5,a3⟩:=bdS aA;refine E z (fc call103 z<|b_c b5 (zt' hBw<|lt_ (lt_ (lt_ (lt_ hz h2.s) h3.s) s5.s) sd.s) b4 (ii z)<|iS _ _) ?_;rintro _ _ ⟨ae,rfl⟩;refine R z (not_ z)<|Wx z (fun J=>?_) (fun J=>?_)
   ·exact Ws<|Rw z<|Wr<|rtO<|qL (som<|ifT a3 J).symm<|c_ hr z ⟨bup (bup (bup (bM (bup (bup h1 h) h2) h3<|m1 hz) s5) sd) ae,z⟩
   exact Wk<|Wg<|Rm z<|R z (inc_ a2 (lt_ (repS.len hf) A_) z z)<|Ra z<|Wl (fun _ q=>⟨(),(som<|ifF a3 J).symm,⟨q.k<|s4 z z z z,bup sd ae⟩⟩)
  ·rintro _ _ _ ⟨aB,L⟩;refine Wu ?_ aB;refine Wq<|Wm z<|Rf z a_2 z<|R z (l0 I_ z<|((hg.e s5).e L).at z) ?_
   refine R z (lnR z_ z<|hf.g<|(((h2.ag B).c h3<|f_ (or0 (d_ lr) (n_<|zt' hBw<|lt_ h1.s h.s):∀k∈[H.z],¬B k)).e s5).e L)<|Rl z z z<|Wx z (fun hc=>(Q_ hc).elim) (fun _=>?_)
   exact We<|fun a' ha'=>⟨rfl,⟨Sat.weaken ha'<|s2 z z,L⟩⟩
  ·rintro _ b6 af rfl ⟨_,s8⟩;have aC:=elL a1;revert b6;refine Wo<|Wq ?_
   obtain ⟨b7,aD,aE⟩:=bdS aC;refine Wt (fun a w=>∃(O:Bool),O=b7/\Sat 58 [(4,vB O)] a/\Below af.z af w) ?_ ?_
   ·refine Wg<|Rf z e_k z ?_
    have ah:=(hg.e s5).e s8;refine R z (l0 g_9 z<|ah.at z) ?_;have ai:=lt_ h1.s h.s;have aj:=lt_ (lt_ (lt_ (lt_ ai h2.s) h3.s) s5.s) s8.s;obtain ⟨b8,b9,a4⟩:=bdS aD;refine E z (fc call173 z<|k_w b9 (zt' hBw aj) a6) ?_;rintro _ _ ⟨s7,rfl⟩;refine Rm z ?_
    rcases bs b8 with G | G
    ·refine Rh z G (lN (vs:=[sl A0 N0 C0]) J_ E_ z z fid<|(((((hj.e h2).c h3<|djs<|mm1 he.lt h.s).e s5).e s8).e s7).row 0 1 z)<|Rh z G (lN (vs:=vR xk am nn co ap nq cr au ns ct av nw cx) R_ u_ z z fid<|(ah.e s7).row 0 8 z) ?_
     have ak:∀k∈[H.z],¬B k:=or0 (d_ lr)<|n_<|zt' hBw ai;have hh:=((((h2.ag B).c h3<|f_ ak).e s5).e s8).e s7;obtain ⟨ba,bb,aF⟩:=bdS<|ifT a4 G;refine Eg z z G z (fc call174 z<|W_w2v bb (zt' hBw<|lt_ aj s7.s) (p1_0.g<|((((hl.e h2).c h3<|f_ ak).e s5).e s8).e s7) a6 aP aQ (aR.g hh) (aS.g hh) (aT.g hh)<|hf.g hh) ?_;rintro _ _ ⟨bc,rfl⟩;exact R z (pT z G z)<|Ra z<|Wl (fun _ q=>⟨ba,som aF,q.k<|s1 z,bup s7 bc⟩)
    iterate 3 refine Nh z G ?_
    exact R z (pF z G z)<|Ra z<|Wl (fun _ q=>⟨false,som<|ifF a4 G,q.k<|s1 z,s7⟩)
   rintro be _ ⟨O,rfl,_,bf⟩;revert be;refine Wo ?_;obtain rfl:=som aE;exact Wr<|c_ hr z ⟨bup (bup (bup (bM (bup (bup h1 h) h2) h3<|m1<|lt_ h1.s h.s) s5) s8) bf,z⟩
  rintro _ _ _ _ rfl ⟨rfl,aG⟩;have aH:=elR a1;obtain rfl:=som aH;exact ⟨aG,z⟩
 rintro _ _ _ _ rfl ⟨rfl,aI⟩;have aJ:=elR W;obtain rfl:=som aJ;exact ⟨aI,z⟩
theorem W_w15 {x1:e_}{res:Bool}(hm:g_C x1=some res)(hBw:B<=w0.z)(p1_0:repS w0 B (sl A0 N0 C0) x1.rules):h_ prog 64 [(.agg #[sl A0 N0 C0])] w0 (Q11 w0 B res):=by
 unfold g_C at hm
 refine goF func64 z z (lb z) fun fn hr=>Ws<|E z (fb z) ?_
 rintro _ G ⟨rfl,L⟩;have h:=L.below;have h2:Blk G w0.z [sl A0 N0 C0]:=L.blk;refine Rw z<|Wq<|Ws<|Rw z ?_
 obtain ⟨_,hug,J⟩:=bdS hm;refine Wf (σ:=Unit) (ρ:=Bool) (fun (ka:Nat)(_:Unit) a w=>Sat 19 [(1,pt w0.z),(3,vI ((ka:Nat):Int))] a/\Below G.z G w) (fun (_:Unit) a w=>Sat 19 [(1,pt w0.z)] a/\Below G.z G w) (fun r ex a w=>ex = .ret/\w_ prog fn (Q11 w0 B r) a w) hug ?_ ?_ ?_ ?_ ?_
 ·exact fun _ q=>⟨q.k<|s2 z z,br G⟩
 ·rintro ka _ _ _ _ H ⟨hSh,s3⟩ hmi;refine Wu ?_ hSh;refine Wq<|Wm z<|Rf z a_o z ?_
  have hb:=h2.e s3;refine R z (l0 a_q z<|hb.at z) ?_;have hd:=p1_0.g<|(h.ag B).e s3
  refine R z (lnR a_b z hd)<|Rl z z z<|Wx z (fun _=>?_) (fun hc=>(P_ H hc).elim)
  refine Wk<|Wq<|Wb<|Ws<|R z (lN (vs:=[sl A0 N0 C0]) J_ E_ z z fid<|hb.row 0 1 z)<|Rm z ?_
  obtain ⟨_,ej,hmc⟩:=bdS hmi;refine E z (fc call122 z<|W_w2w ej (zt' hBw<|lt_ h.s s3.s) hd<|ic (Nat.le_of_lt H)<|lt_ (repS.len p1_0) A_) ?_;rintro _ _ ⟨se,rfl⟩;refine R z (not_ z)<|Wx z (fun I=>?_) (fun I=>?_)
  ·exact Ws<|Rw z<|Wr<|rtO<|qL (som<|ifT hmc I).symm<|c_ hr z ⟨bup (bup h s3) se,z⟩
  exact Wk<|Wg<|Rm z<|R z (inc_ H (lt_ (repS.len p1_0) A_) z z)<|Ra z<|Wl (fun _ q=>⟨(),(som<|ifF hmc I).symm,⟨q.k<|s2 z z,bup s3 se⟩⟩)
 ·rintro _ _ _ ⟨hSk,s7⟩;refine Wu ?_ hSk;refine Wq<|Wm z<|Rf z a_o z<|R z (l0 a_q z<|(h2.e s7).at z)<|R z (lnR a_b z<|p1_0.g<|(h.ag B).e s7)<|Rl z z z<|Wx z (fun hc=>(Q_ hc).elim) (fun _=>?_)
  exact We<|fun a' ha'=>⟨rfl,⟨Sat.weaken ha'<|s1 z,s7⟩⟩
 ·rintro _ al _ rfl ⟨_,s4⟩;have hmm:=elL J;revert al;refine Wo<|Ws<|Rf z a_o z<|R z (l0 a_q z<|(h2.e s4).at z) ?_
  have hf:=p1_0.g<|(h.ag B).e s4
  refine R z (lnR a_b z hf) ?_;obtain ⟨_,en,hmo⟩:=bdS hmm;refine E z (fc call103 z<|b_c en (zt' hBw<|lt_ h.s s4.s) (b_W<|repS.len hf) (ii z)<|ii z) ?_;rintro _ _ ⟨sp,rfl⟩;refine Rw z ?_
  obtain rfl:=som hmo;exact Wr<|c_ hr z ⟨bup (bup h s4) sp,z⟩
 rintro _ _ _ _ rfl ⟨rfl,hqq⟩;have hmr:=elR J;obtain rfl:=som hmr;exact ⟨hqq,z⟩
theorem W_w2x {x1:a_j}{res:Bool}(hm:i_W x1=some res)(hBw:B<=w0.z)(p1_0:repS w0 B (sl A0 N0 C0) x1.versions):h_ prog 143 [(.agg #[sl A0 N0 C0])] w0 (Q11 w0 B res):=by
 unfold i_W at hm
 refine goF func143 z z (lb z) fun fn hr=>Ws<|E z (fb z) ?_
 rintro _ h ⟨rfl,J⟩;have G:=J.below;have h2:Blk h w0.z [sl A0 N0 C0]:=J.blk;refine Rw z<|Wq<|Ws<|Rw z ?_
 obtain ⟨_,huf,I⟩:=bdS hm;refine Wf (σ:=Unit) (ρ:=Bool) (fun (k9:Nat)(_:Unit) a w=>Sat 22 [(1,pt w0.z),(3,vI ((k9:Nat):Int))] a/\Below h.z h w) (fun (_:Unit) a w=>Sat 22 [(1,pt w0.z)] a/\Below h.z h w) (fun r ex a w=>ex = .ret/\w_ prog fn (Q11 w0 B r) a w) huf ?_ ?_ ?_ ?_ ?_
 ·exact fun _ q=>⟨q.k<|s2 z z,br h⟩
 ·rintro k9 _ _ _ _ hka ⟨hSg,s3⟩ hmh;refine Wu ?_ hSg;refine Wq<|Wm z<|Rf z c_j z ?_
  have hb:=h2.e s3;refine R z (l0 c_v z<|hb.at z) ?_;have hd:=p1_0.g<|(G.ag B).e s3
  refine R z (lnR b_B z hd)<|Rl z z z<|Wx z (fun _=>?_) (fun hc=>(P_ hka hc).elim)
  refine Wk<|Wq<|Wb<|Ws<|Rf z c_j z<|R z (l0 c_v z<|hb.at z)<|Rm z ?_
  obtain ⟨_,ei,hmj⟩:=bdS hmh;refine RX z (at_ (α:=e_) b_B E_ z z z hd ei) ?_;rintro _ ⟨_,_,_,rfl,hk,hl,_⟩;obtain ⟨am,nn,co,rfl,hp⟩:=d_B hl;refine R z (lN (vs:=[sl am nn co]) J_ E_ z z fid hk) ?_;obtain ⟨_,eq,hmc⟩:=bdS hmj;refine E z (fc call64 z<|W_w15 eq (zt' hBw<|lt_ G.s s3.s) hp) ?_;rintro _ _ ⟨se,rfl⟩;refine R z (not_ z)<|Wx z (fun H=>?_) (fun H=>?_)
  ·exact Ws<|Rw z<|Wr<|rtO<|qL (som<|ifT hmc H).symm<|c_ hr z ⟨bup (bup G s3) se,z⟩
  exact Wk<|Wg<|Rm z<|R z (inc_ hka (lt_ (repS.len p1_0) A_) z z)<|Ra z<|Wl (fun _ q=>⟨(),(som<|ifF hmc H).symm,⟨q.k<|s2 z z,bup s3 se⟩⟩)
 ·rintro _ _ _ ⟨hSr,s5⟩;refine Wu ?_ hSr;refine Wq<|Wm z<|Rf z c_j z<|R z (l0 c_v z<|(h2.e s5).at z)<|R z (lnR b_B z<|p1_0.g<|(G.ag B).e s5)<|Rl z z z<|Wx z (fun hc=>(Q_ hc).elim) (fun _=>?_)
  exact We<|fun a' ha'=>⟨rfl,⟨Sat.weaken ha'<|s1 z,s5⟩⟩
 ·rintro _ au _ rfl ⟨_,s6⟩;have hms:=elL I;revert au;refine Wo<|Ws<|Rf z c_j z<|R z (l0 c_v z<|(h2.e s6).at z)<|R z (lnR b_B z<|p1_0.g<|(G.ag B).e s6)<|R z (d_l z z)<|Rw z ?_
  obtain rfl:=som hms;exact Wr<|c_ hr z ⟨bup G s6,z⟩
 rintro _ _ _ _ rfl ⟨rfl,hqt⟩;have hmv:=elR I;obtain rfl:=som hmv;exact ⟨hqt,z⟩
theorem m_n {x1:e_}{res:Int}(hm:g_D x1=some res)(hBw:B<=w0.z)(p1_0:repS w0 B (sl A0 N0 C0) x1.rules):h_ prog 65 [(.agg #[sl A0 N0 C0])] w0 (Q0 w0 B res):=by
 unfold g_D at hm
 refine goF func65 z z (lb z) fun fn hr=>Ws<|E z (fb z) ?_
 rintro _ G ⟨rfl,h⟩;have h1:=h.below;refine Rw z<|Ws<|Rf z a_o z<|R z (l0 a_q z<|(h.blk:Blk G w0.z [sl A0 N0 C0]).at z)<|R z (lnR a_b z<|p1_0.e h1)<|R z (sb_ z z)<|Rw z ?_
 obtain rfl:=som hm;exact Wr<|c_ hr z ⟨h1,z,iS _ _⟩
theorem W_w2y {x1:e_}{x2:Int}{res:Bool}(hm:i_4 x1 x2=some res)(hBw:B<=w0.z)(p1_0:repS w0 B (sl A0 N0 C0) x1.rules)(p2_0:inI x2):h_ prog 160 [(.agg #[sl A0 N0 C0]),vI x2] w0 (Q11 w0 B res):=by
 unfold i_4 at hm
 refine goF func160 z z (lb z) fun fn hr=>Ws<|E z (fb z) ?_
 rintro _ G ⟨rfl,h5⟩;have h1:=h5.below;have h6:Blk G w0.z [sl A0 N0 C0]:=h5.blk;refine Rw z<|Wq ?_
 obtain ⟨u8,I,hma⟩:=bdS hm;refine Wt (fun a w=>∃(x4:Bool),x4=u8/\Sat 15 [(4,vB x4)] a/\Below G.z G w) ?_ ?_
 ·refine Wg<|Rm z<|Rf z a_o z<|R z (l0 a_q z<|h6.at z)<|R z (lnR a_b z<|p1_0.e h1)<|R z (sb_ z z) ?_
  obtain ⟨rb,ec,H⟩:=bdS I;refine E z (fc call103 z<|b_c ec (zt' hBw h1.s) p2_0 (ii z)<|iS _ _) ?_;rintro _ _ ⟨s2,rfl⟩;refine Rm z ?_
  rcases bs rb with h | h
  ·refine Rh z h (lN (vs:=[sl A0 N0 C0]) J_ E_ z z fid<|(h6.e s2).row 0 1 z) ?_;obtain ⟨rd,ee,hmf⟩:=bdS<|ifT H h;refine Eg z z h z (fc call64 z<|W_w15 ee (zt' hBw<|lt_ h1.s s2.s)<|p1_0.g<|(h1.ag B).e s2) ?_;rintro _ _ ⟨sg,rfl⟩;exact R z (pT z h z)<|Ra z<|Wl (fun _ q=>⟨rd,som hmf,q.k<|s1 z,bup s2 sg⟩)
  exact Nh z h<|Nh z h<|R z (pF z h z)<|Ra z<|Wl (fun _ q=>⟨false,som<|ifF H h,q.k<|s1 z,s2⟩)
 rintro ah _ ⟨x4,rfl,_,si⟩;revert ah;refine Wo ?_;obtain rfl:=som hma;exact Wr<|c_ hr z ⟨bup h1 si,z⟩
def Q16 (w0:World)(B:Zone)(r:Int×Int×Bool)(v:Value)(w':World):Prop:=Bw w0 w'/\un3 (fun h G H=>v = .tuple #[vI h,vI G,vB H]/\inI h/\inI G) r
theorem k_y {x1:e_}{x2:Int}{x3:List UInt8}{x4:Int}{res:Int×Int×Bool}(hm:d_f x1 x2 x3 x4=some res)(hBw:B<=w0.z)(p1_0:repS w0 B (sl A0 N0 C0) x1.rules)(p2_0:inI x2)(p3_0:repS w0 B (sl A7 N7 C7) x3)(p4_0:inI x4):h_ prog 125 [(.agg #[sl A0 N0 C0]),vI x2,sl A7 N7 C7,vI x4] w0 (Q16 w0 B res):=by
 unfold d_f at hm
 refine goF func125 z z (lb z) fun fn hr=>Ws<|E z (fb z) ?_
 rintro _ I ⟨rfl,L⟩;have G:=L.below;refine RA z z<|Rw z<|Ws<|Rf z a_o z<|R z (l0 a_q z<|(L.blk:Blk I w0.z [sl A0 N0 C0]).at z)<|Rm z ?_
 obtain ⟨O,em,J⟩:=bdS hm;refine RX z (at_ (α:=g_) a_b u_ z z z (p1_0.e G) em) ?_;rintro _ ⟨_,_,_,rfl,ht,hu,_⟩;obtain ⟨aa,nb,cc,ad,ne,cf,ah,ng,ci,aj,nk,cl,rfl,_,_,_,_,_,_,_⟩:=a_N hu;refine R z (lN (vs:=vR O aa nb cc ad ne cf ah ng ci aj nk cl) R_ u_ z z fid ht)<|E z (fa c_x) ?_
 rintro _ wr ⟨rfl,hn⟩;have h1:=hn.below;refine E0 (fs (cur':=vR O aa nb cc ad ne cf ah ng ci aj nk cl) u_ z z (hn.blk:Blk wr I.z [(Str.v (⟨[]⟩:Str)),vI 0,vI 0,vB false,sl none 0 0,sl none 0 0,sl none 0 0,sl none 0 0]) z (lb z) (oA z) z) ?_;rintro _ _ ⟨ho,ss⟩;have h2:=ss.one;refine Wn<|Wq<|Wm z ?_
 have hp:=((G.ag B).e h1).c h2<|f_ (or0 (d_ lr) (n_<|zt' hBw G.s):∀k∈[I.z],¬B k)
 refine R z (lnR j_ z<|p3_0.g hp)<|Rm z<|R z (sb_ z z)<|Rf z b_3 z<|R z (l0 g_3 z<|ho.at z)<|Rl z z z<|Wx z (fun H=>?_) (fun H=>?_)
 ·refine Wm z<|RA z z<|Rw z ?_
  obtain rfl:=som<|ifT J H;exact Wr<|y_ hr z z z ⟨bM (bup G h1) h2<|m1 G.s,z,ii z,p4_0⟩
 refine Wk<|Wq (Wd (X:=noX) 0 (.rd 0<|.rd 1<|.rd 2<|.rd 3<|.rd 4<|.rd 5<|.rd 6<|.rd 7<|.rd 8<|.rd 10<|.rd 11<|.rd 12<|.rd 13<|.ef 9<|.rd 14<|.rd 15<|.rd 16 .done) mo (by kernel_rfl) fun a1 s3 _=>?_)
 iterate 3 refine dM z z z ?_
 refine dR z z (fd b_3 z) ?_;have h6:=ho.e s3;refine dR z z (l0 g_3 z<|h6.at z)<|dR z z (add_ z z) ?_
 obtain ⟨_,ex,hmy⟩:=bdS<|ifF J H;refine dRX z z (rX j_ z_5 z z (p3_0.g<|hp.e s3) z z ex) ?_;rintro _ ⟨_,_,_,rfl,hz⟩;refine dR z z (fd d_c z)<|dR z z (l0 g_4 z<|h6.at z)<|dM z z z<|dR z z (fd b_3 z)<|dR z z (l0 g_3 z<|h6.at z)<|dR z z (add_ z z) ?_
 obtain ⟨_,W,V⟩:=bdS hmy;refine dE z z (fc call145 z<|m_l W (zt' hBw<|lt_ (lt_ (lt_ G.s h1.s) h2.s) s3.s) hz) (.inr fun _ _ h=>F_<|h.1) ?_;rintro _ _ ⟨Y,rfl,a0⟩
 iterate 3 refine dQ z z z ?_
 refine pD<|Wo ?_
 obtain rfl:=som V;exact Wr<|y_ hr z z z ⟨bup (bup (bM (bup G h1) h2<|m1 G.s) s3) Y,z,a0,iA _ _⟩
def Q17 (w0:World)(B:Zone)(r:Val×Int×Int)(v:Value)(w':World):Prop:=Bw w0 w'/\un3 (fun h G H=>∃I J L S1 a2 O V S2,v = .tuple #[(.agg #[vI h.number,sl I J L,sl a2 O V]),vI G,vI H]/\inI h.number/\a_ w' S1 (sl I J L) h.bytes/\a_ w' S2 (sl a2 O V) h.items/\inI G/\inI H/\(S1++S2).Nodup/\(∀k∈(S1++S2),w0.z<=k)) r
theorem W_w2z {x1:g_}{x2:List UInt8}{x3:Int}{res:Val×Int×Int}(hm:h_W x1 x2 x3=some res)(hBw:B<=w0.z)(p1_0:x1.name.b.length<=LEN)(p1_1:inI x1.kind)(p1_2:inI x1.size)(I:repS w0 B (sl A9 N9 C9) x1.bytes)(a3:repS w0 B (sl A8 N8 C8) x1.names)(a4:repS w0 B (sl AA NA CA) x1.tags)(a5:repS w0 B (sl AB NB CB) x1.kids)(p2_0:repS w0 B (sl A3 N3 C3) x2)(p3_0:inI x3):h_ prog 126 [(.agg #[Str.v x1.name,vI x1.kind,vI x1.size,vB x1.little,sl A9 N9 C9,sl A8 N8 C8,sl AA NA CA,sl AB NB CB]),sl A3 N3 C3,vI x3] w0 (Q17 w0 B res):=by
 unfold h_W at hm
 refine goF func126 z z (lb z) fun fn hr=>Ws<|E z (fb z) ?_
 rintro _ J ⟨rfl,he⟩;have G:=he.below;have h5:Blk J w0.z (vR x1 A9 N9 C9 A8 N8 C8 AA NA CA AB NB CB):=he.blk;refine E z (fa a_s) ?_;rintro _ H ⟨rfl,hf⟩;have h1:=hf.below;have L:Blk H J.z [vI 0,sl none 0 0,sl none 0 0]:=hf.blk;refine Ra z<|Rw z<|Wq<|Ws<|Rw z ?_
 obtain ⟨_,hun,hmg⟩:=bdS hm;refine Wf (σ:=Unit) (ρ:=Val×Int×Int) (fun (kh:Nat)(_:Unit) a w=>Sat 47 [(1,sl A3 N3 C3),(2,vI x3),(3,pt w0.z),(6,pt J.z),(9,vI ((kh:Nat):Int))] a/\Below H.z H w) (fun (_:Unit) a w=>Sat 47 [(2,vI x3),(3,pt w0.z),(6,pt J.z)] a/\Below H.z H w) (fun r ex a w=>ex = .ret/\w_ prog fn (Q17 w0 B r) a w) hun ?_ ?_ ?_ ?_ ?_
 ·exact fun _ q=>⟨q.k<|s5 z z z z z,br H⟩
 ·rintro kh _ _ _ _ hki ⟨hSo,s2⟩ hmj;refine Wu ?_ hSo;refine Wq<|Wm z<|Rf z b_r z ?_
  have hk:=(h5.e h1).e s2;refine R z (l0 M_ z<|hk.at z) ?_;have ha:=((G.ag B).e h1).e s2;refine R z (lnR j_ z<|I.g ha)<|Rl z z z<|Wx z (fun _=>?_) (fun hc=>(P_ hki hc).elim)
  refine Wk<|Wq<|Wb<|Wq<|Wm z<|Rm z<|R z (add_ z z)<|Rm z<|R z (lnR j_ z<|p2_0.g ha)<|R z (b_l z z)<|Wx z (fun hcb=>?_) (fun hcb=>?_)
  ·refine Ws<|R z (bP (parts:=[]) (cs:=[vI 0,sl none 0 0,sl none 0 0]) a_7 z z)<|Rm z<|E0 (fs (cur':=[vI 0,sl none 0 0,sl none 0 0]) k_ z z (L.e s2) z (lb z) (oA z) z) ?_
   rintro _ _ ⟨hp,sq⟩;exact Ra z<|Rw z<|Wr<|rtO<|qL (som<|ifT hmj hcb).symm<|y_ hr (p_ D_ k_ z hp z) z z ⟨bM (bup (bup G h1) s2) sq.one<|m1 G.s,none,0,0,[],none,0,0,[],z,ii z,onL,onL,p3_0,ii z,nd0,al0⟩
  refine Wk<|Wq (Wd (X:=noX) 0 (pl_ 12 []) mo (by kernel_rfl) fun a6 s6 _=>?_)
  iterate 3 refine dM z z z ?_
  refine dR z z (add_ z z) ?_;obtain ⟨_,er,hms⟩:=bdS<|ifF hmj hcb;have hl:=ha.e s6;refine dRX z z (at_ (α:=UInt8) j_ z_5 z z z (p2_0.g hl) er) ?_;rintro _ ⟨_,_,_,rfl,ht,hu,_⟩;obtain rfl:=u8 hu;refine dR z z (l0 g_5 z<|ht.at0 z)<|dR z z (fd b_r z)<|dR z z (l0 M_ z<|(hk.e s6).at z)<|dM z z z ?_
  obtain ⟨_,ev,hmm⟩:=bdS hms;refine dRX z z (at_ (α:=UInt8) j_ z_5 z z z (I.g hl) ev) ?_;rintro _ ⟨_,_,_,rfl,hw,hx,_⟩;obtain rfl:=u8 hx;refine dR z z (l0 g_5 z<|hw.at0 z)<|dR z z (nq z z)<|pD<|Wo<|Wc z (fun hcc=>?_) (fun hcc=>?_)
  ·refine Ws<|R z (bP (parts:=[]) (cs:=[vI 0,sl none 0 0,sl none 0 0]) a_7 z z)<|RM z z<|R z (add_ z z)<|E0 (fs (cur':=[vI 0,sl none 0 0,sl none 0 0]) k_ z z ((L.e s2).e s6) z (lb z) (oA z) z) ?_
   rintro _ _ ⟨hy,sz⟩;exact Ra z<|Rw z<|Wr<|rtO<|qL (som<|ifT hmm hcc).symm<|y_ hr (p_ D_ k_ z hy z) z z ⟨bM (bup (bup (bup G h1) s2) s6) sz.one<|m1 G.s,none,0,0,[],none,0,0,[],z,ii z,onL,onL,iA _ _,ii z,nd0,al0⟩
  exact Wk<|Wg<|Rm z<|R z (inc_ hki (lt_ (repS.len I) A_) z z)<|Ra z<|Wl (fun _ q=>⟨(),(som<|ifF hmm hcc).symm,⟨q.k<|s5 z z z z z,bup s2 s6⟩⟩)
 ·rintro _ _ _ ⟨O,sd⟩;refine Wu ?_ O;refine Wq<|Wm z<|Rf z b_r z<|R z (l0 M_ z<|((h5.e h1).e sd).at z)<|R z (lnR j_ z<|I.g<|((G.ag B).e h1).e sd)<|Rl z z z<|Wx z (fun hc=>(Q_ hc).elim) (fun _=>?_)
  exact We<|fun a' ha'=>⟨rfl,⟨Sat.weaken ha'<|s3 z z z,sd⟩⟩
 ·rintro _ a0 _ rfl ⟨_,s7⟩;have V:=elL hmg;revert a0;refine Wo<|Wq (Wd (X:=(· ∈ [J.z])) 0 (pl_ 9 [6]) mo (by kernel_rfl) fun a7 s8 _=>dR z z (bP (parts:=[]) (cs:=[vI 0,sl none 0 0,sl none 0 0]) a_7 z z)<|dM z z z<|dR z z (fd b_r z)<|dR z z (l1 M_ z (djs<|mmr h5.lt)<|(((h5.e h1).e s7).e s8).at z)<|dR z z (lnR j_ z<|I.g<|(((G.ag B).e h1).e s7).e s8)<|dR z z (add_ z z)<|dE0 z (fs (cur':=[vI 0,sl none 0 0,sl none 0 0]) k_ z z ((L.e s7).e s8) z (lb z) (oA z) z) (.inr fun _ _ h=>chgIn (List.mem_singleton.2 z) h.2) ?_)
  rintro _ _ ⟨a1,a2⟩;refine dQ z z z<|dQ z z z<|pD<|Wo ?_
  obtain rfl:=som V;exact Wr<|y_ hr (p_ D_ k_ z a1 z) z z ⟨bM (bup (bup (bup G h1) s7) s8) a2.one<|m1 G.s,none,0,0,[],none,0,0,[],z,ii z,onL,onL,iA _ _,ii z,nd0,al0⟩
 rintro _ _ _ _ rfl ⟨rfl,W⟩;have Y:=elR hmg;obtain rfl:=som Y;exact ⟨W,z⟩
theorem W_w16 {x1:List UInt8}{x2:Int}{x3:Int}{res:Val×Int×Int}(hm:g_F x1 x2 x3=some res)(hBw:B<=w0.z)(p1_0:repS w0 B (sl A0 N0 C0) x1)(p2_0:inI x2)(p3_0:inI x3):h_ prog 127 [sl A0 N0 C0,vI x2,vI x3] w0 (Q17 w0 B res):=by
 unfold g_F at hm
 refine goF func127 z z (lb z) fun fn hr=>Ws<|E z (fa a_s) ?_
 rintro _ we ⟨rfl,L⟩;have h:=L.below;have h2:Blk we w0.z [vI 0,sl none 0 0,sl none 0 0]:=L.blk;refine Ra z<|Rw z<|Wq<|Wm z<|R z (lnR j_ z<|p1_0.e h)<|Rm z<|R z (sb_ z z)<|Rm z<|Rl z z z<|Wx z (fun G=>?_) (fun G=>?_)
 ·refine Ws<|R z (bP (parts:=[]) (cs:=[vI 0,sl none 0 0,sl none 0 0]) a_7 z z)<|Rm z<|E0 (fs (cur':=[vI 0,sl none 0 0,sl none 0 0]) k_ z z h2 z (lb z) (oA z) z) ?_
  rintro _ _ ⟨hf,sg⟩;refine Ra z<|Rw z ?_
  obtain rfl:=som<|ifT hm G;exact Wr<|y_ hr (p_ D_ k_ z hf z) z z ⟨bM h sg.one<|d_ lr,none,0,0,[],none,0,0,[],z,ii z,onL,onL,p2_0,ii z,nd0,al0⟩
 refine Wk<|Ws<|E z (f0 (α:=UInt8) N_) ?_
 rintro _ _ ⟨_,_,_,rfl,s1,hh⟩;refine RM z z<|RM z z<|R z (add_ z z) ?_
 obtain ⟨_,ei,hmj⟩:=bdS<|ifF hm G;refine RX z (rX j_ z_5 z z (p1_0.g<|(h.ag B).e s1) z z ei) ?_;rintro _ ⟨_,_,_,rfl,hk⟩;obtain ⟨_,el,hmm⟩:=bdS hmj;refine E z (fN (α:=UInt8) N_ el z z hh a_0 hk) ?_;rintro _ _ ⟨O,H,I,J,rfl,s9,hn,ho,ha⟩;refine R z (bP (parts:=[(1,.tmp 24)]) (cs:=[vI 0,sl H I J,sl none 0 0]) a_7 z z)<|RM z z<|R z (add_ z z) ?_
 have hb:=mmr h2.lt;refine E0 (fs (cur':=[vI 0,sl H I J,sl none 0 0]) k_ z z ((h2.e s1).c s9<|djs hb) z (lb z) (oA z) z) ?_;rintro _ _ ⟨hp,sq⟩;have hc:=sq.one;refine Ra z<|Rw z ?_
 obtain rfl:=som hmm;have hd:=m1 h.s;exact Wr<|y_ hr (p_ D_ k_ z hp z) z z ⟨bM (bM (bup h s1) s9 hd) hc<|d_ lr,H,I,J,O,none,0,0,[],z,ii z,hn.c hc (or1 ha hb (a_O (d_ h2.lt) s1.s):∀k∈O,k∉[w0.z]),onL,iA _ _,ii z,na_ ho H_<|nmN _,aa_ (a_Y ha hd<|lt_ h.s s1.s) an_⟩
def Q18 (w0:World)(B:Zone)(r:(List UInt8)×Int×Bool)(v:Value)(w':World):Prop:=Bw w0 w'/\un3 (fun J h L=>∃G H I S1,v = .tuple #[sl G H I,vI h,vB L]/\a_ w' S1 (sl G H I) J/\inI h/\S1.Nodup/\(∀k∈S1,w0.z<=k)) r
theorem W_w30 {x1:List UInt8}{x2:Int}{x3:UInt8}{res:(List UInt8)×Int×Bool}(hm:h_X n x1 x2 x3=some res)(hBw:B<=w0.z)(p1_0:repS w0 B (sl A0 N0 C0) x1)(p2_0:inI x2):h_ prog 128 [sl A0 N0 C0,vI x2,vU<|byteI x3] w0 (Q18 w0 B res):=by
 unfold h_X at hm
 refine goF func128 z z (lb z) fun fn hr=>Ws<|RA z z<|Rw z<|Ws<|E z (f0 (α:=UInt8) N_) ?_
 rintro _ h ⟨ah,ai,aj,rfl,s9,ak⟩;refine Rw z<|Wq<|Wm z<|Rw z ?_
 obtain ⟨_,a3,hmr⟩:=bdS hm;refine b_u (σ:=(List UInt8)×Int) (ρ:=(List UInt8)×Int×Bool) (fun s a w=>un2 (fun xb x5=>∃a2 H I G,Sat 54 [(0,sl A0 N0 C0),(1,vI x2),(2,vU<|byteI x3),(9,sl a2 H I),(10,vI x5)] a/\Chg (· ∈ [w0.z]) h w/\a_ w G (sl a2 H I) xb/\G.Nodup/\(∀k∈G,k∈[w0.z]∨h.z<=k)/\inI x5) s) (fun s a w=>un2 (fun xb x5=>∃a2 H I G,Sat 54 [(1,vI x2)] a/\Chg (· ∈ [w0.z]) h w/\a_ w G (sl a2 H I) xb/\G.Nodup/\(∀k∈G,k∈[w0.z]∨h.z<=k)/\inI x5) s) (fun r ex a w=>ex = .ret/\w_ prog fn (Q18 w0 B r) a w) a3 ?_ ?_ ?_ ?_
 ·exact fun _ q=>⟨ah,ai,aj,[w0.z],q.k<|s5 z z z z z,cr [w0.z] h,ak,a_0,io sr,p2_0⟩
 ·rintro ⟨xb,x5⟩ _ wc _ ⟨a2,H,I,G,a4,s8,hd,he,hf,hi⟩ a5;refine Wu ?_ a4;refine Wq<|Wq ?_
  obtain ⟨al,a6,hms⟩:=bdS<|a_5 a5;refine Wt (fun a w=>∃(xj:Bool),xj=al/\Sat 54 [(0,sl A0 N0 C0),(1,vI x2),(2,vU<|byteI x3),(9,sl a2 H I),(10,vI x5),(22,vB xj)] a/\Below wc.z wc w) ?_ ?_
  ·refine Wg<|RM z z ?_
   have hu:=(s9.ag B).c s8<|f_ (or0 (d_ lr) (n_ hBw):∀k∈[w0.z],¬B k)
   have hv:=p1_0.g hu;refine R z (lnR j_ z hv) ?_;obtain ⟨am,an,hmw⟩:=bdS a6;refine E z (fc call103 z<|b_c an (zt' hBw<|lt_ s9.s s8.s) p2_0 (ii z)<|b_W<|repS.len hv) ?_;rintro _ _ ⟨sk,rfl⟩;refine Rm z ?_
   rcases bs am with J | J
   ·exact Rh z J (mv z)<|Rh z J (mv z)<|Rh z J (lnR j_ z<|p1_0.g<|hu.e sk)<|Rh z J (lss z z)<|R z (pT z J z)<|Wl (fun _ q=>⟨decide<|x5<(x1.length:Int),som<|ifT hmw J,q.k<|s6 z z z z z z,sk⟩)
   iterate 4 refine Nh z J ?_
   exact R z (pF z J z)<|Wl (fun _ q=>⟨false,som<|ifF hmw J,q.k<|s6 z z z z z z,sk⟩)
  rintro ao wa ⟨xj,rfl,_,s7⟩;revert ao;refine Wo<|Wc z (fun hcl=>?_) (fun hcl=>?_)
  ·refine Wk<|Wq<|Wb<|Wq<|Wm z<|Rm z ?_
   obtain ⟨_,ap,hmx⟩:=bdS<|ifT hms hcl;have hy:=((s9.ag B).c s8<|f_ (or0 (d_ lr) (n_ hBw):∀k∈[w0.z],¬B k)).e s7;have hn:=p1_0.g hy;refine RX z (at_ (α:=UInt8) j_ z_5 z z z hn ap) ?_;rintro _ ⟨_,_,_,rfl,aq,ar,_⟩;obtain rfl:=u8 ar;refine R z (l0 g_5 z<|aq.at0 z)<|Rm z<|Rq z z z<|Wx z (fun hcm=>?_) (fun hcm=>?_)
   ·refine Wm z<|Rm z<|R z (add_ z z)<|RA z z<|Rw z ?_
    exact Wr<|rtO<|qL (som<|ifT hmx hcm).symm<|y_ hr z z z ⟨bup (bM s9 s8<|d_ lr) s7,a2,H,I,G,z,hd.e s7,iA _ _,he,(or1 hf (d_ lr) (a_S s9.s):∀k∈G,w0.z<=k)⟩
   refine Wk<|Wq<|Wm z<|Rm z ?_
   obtain ⟨_,au,a7⟩:=bdS<|ifF hmx hcm;refine RX z (at_ (α:=UInt8) j_ z_5 z z z hn au) ?_;rintro _ ⟨_,_,_,rfl,av,aw,_⟩;obtain rfl:=u8 aw;refine R z (l0 g_5 z<|av.at0 z)<|Rq z z z<|Wn ?_
   obtain ⟨ax,huz,L⟩:=bdS a7;refine Wt (fun a w=>∃(xg:Int),Sum.inl xg=ax/\Sat 54 [(0,sl A0 N0 C0),(1,vI x2),(2,vU<|byteI x3),(9,sl a2 H I),(10,vI xg)] a/\Below wa.z wa w/\inI xg) ?_ ?_
   ·refine Wc z (fun hco=>?_)<|fun hco=>?_
    ·have O:=ifT huz hco;refine Wm z<|R z (add_ z z)<|Rw z<|Wm z<|Rm z<|R z (lnR j_ z hn)<|Rq z z z<|Wx z (fun hcp=>?_) (fun hcp=>?_)
     ·obtain rfl:=som<|ifT O hcp;have a8:=elR L;exact We<|exO z (fun a' ha'=>b_e (som a8).symm ⟨a2,H,I,G,Sat.weaken ha'<|s1 z,(i_ (cM (cr [w0.z] h) s8 (io sr):Chg (· ∈ [w0.z]) h wc) s7:Chg (· ∈ [w0.z]) h wa),hd.e s7,he,(or1 hf (io sr) (l_ lr):∀k∈G,k∈[w0.z]∨h.z<=k),iA _ _⟩)
     exact a_e<|fun _ q=>⟨b_ x5 1,som<|ifF O hcp,q.k<|s5 z z z z z,br wa,iA _ _⟩
    exact a_e<|fun _ q=>⟨x5,som<|ifF huz hco,q.k<|s5 z z z z z,br wa,hi⟩
   rintro ay V ⟨xg,rfl,_,sh,_⟩;have a9:=elL L;revert ay;refine Wo<|Wg<|RM z z<|Rm z ?_
   obtain ⟨az,aA,aa⟩:=bdS a9;refine RX z (at_ (α:=UInt8) j_ z_5 z z z (p1_0.g<|hy.e sh) aA) ?_;rintro _ ⟨_,_,_,rfl,aB,aC,_⟩;obtain rfl:=u8 aC;refine R z (l0 g_5 z<|aB.at0 z)<|E z (fS [(.tmp 49)] N_ z z z (a_z z) (lb z)<|lb z) ?_
   rintro _ W ⟨rfl,hq⟩;have ht:=hq.below;have aU:=b_E hq b_j;obtain ⟨aD,aE,ab⟩:=bdS aa;refine E z (b_d (α:=UInt8) N_ aE z z (((hd.e s7).e sh).e ht) he (hq.blk:Blk W V.z [vU (byteI az)]) b_j an_ H_) ?_;rintro _ aF ⟨Y,aG,aH,aI,rfl,aJ,aK,aL,aM⟩;refine Rw z<|Wg<|Rm z<|R z (add_ z z)<|Ra z<|Wl ?_
   have a0:∀k∈G,k∈[w0.z]∨h.z<=k:=or1 hf (io sr)<|l_ lr;exact fun _ q=>⟨(aD,b_ xg 1),(som ab).symm,⟨aG,aH,aI,Y,q.k<|s5 z z z z z,(cM (i_ (i_ (i_ (cM (cr [w0.z] h) s8 (io sr):Chg (· ∈ [w0.z]) h wc) s7:Chg (· ∈ [w0.z]) h wa) sh:Chg (· ∈ [w0.z]) h V) ht:Chg (· ∈ [w0.z]) h W) aJ a0:Chg (· ∈ [w0.z]) h aF),aK,aL,(or2 aM a0 an_ (l_<|lt_ (lt_ (lt_ s8.s s7.s) sh.s) ht.s):∀k∈Y,k∈[w0.z]∨h.z<=k),iA _ _⟩⟩
  exact We<|fun a' ha'=>b_e (som<|ifF hms hcl).symm ⟨a2,H,I,G,Sat.weaken ha'<|s1 z,(i_ (cM (cr [w0.z] h) s8 (io sr):Chg (· ∈ [w0.z]) h wc) s7:Chg (· ∈ [w0.z]) h wa),hd.e s7,he,(or1 hf (io sr) (l_ lr):∀k∈G,k∈[w0.z]∨h.z<=k),hi⟩
 ·rintro ⟨xb,x5⟩ aN aO rfl ⟨a2,H,I,G,_,a1,hd,he,hf,hi⟩;have ad:=elL hmr;revert aN;refine Wo<|Ws<|E z (f0 (α:=UInt8) N_) ?_
  rintro _ _ ⟨aP,aQ,aR,rfl,aS,aT⟩;refine Rm z<|RA z z<|Rw z ?_
  obtain rfl:=som<|a_5 ad;exact Wr<|y_ hr z z z ⟨bup (bM s9 a1<|d_ lr) aS,aP,aQ,aR,[aO.z],z,aT,p2_0,a_0,m1<|lt_ s9.s a1.s⟩
 rintro _ _ _ _ rfl ⟨rfl,ae⟩;have af:=elR hmr;obtain rfl:=som af;exact ⟨ae,z⟩
theorem k_z {x1:g_}{x2:Int}{x3:Int}{res:Int}(hm:d_z x1 x2 x3=some res)(hBw:B<=w0.z)(p1_0:x1.name.b.length<=LEN)(p1_1:inI x1.kind)(p1_2:inI x1.size)(aI:repS w0 B (sl A9 N9 C9) x1.bytes)(aJ:repS w0 B (sl A8 N8 C8) x1.names)(H:repS w0 B (sl AA NA CA) x1.tags)(I:repS w0 B (sl AB NB CB) x1.kids)(p2_0:inI x2)(p3_0:inI x3):h_ prog 109 [(.agg #[Str.v x1.name,vI x1.kind,vI x1.size,vB x1.little,sl A9 N9 C9,sl A8 N8 C8,sl AA NA CA,sl AB NB CB]),vI x2,vI x3] w0 (Q0 w0 B res):=by
 unfold d_z at hm
 refine goF func109 z z (lb z) fun fn hr=>Ws<|E z (fb z) ?_
 rintro _ h ⟨rfl,hi⟩;have G:=hi.below;have h2:Blk h w0.z (vR x1 A9 N9 C9 A8 N8 C8 AA NA CA AB NB CB):=hi.blk;refine Rw z<|Wq<|Ws<|Rf z a_M z<|R z (l0 g_3 z<|h2.at z)<|Wn<|Wb<|Ws<|Rq z z z<|Rw z<|Wc z (fun L=>?_) (fun L=>?_)
 ·refine Ws<|Rf z a_2 z<|R z (l0 I_ z<|h2.at z) ?_
  obtain ⟨_,eu,hmv⟩:=bdS<|ifT hm L;refine RX z (at_ (α:=Int) z_ z_3 z z z (I.e G) eu) ?_;rintro _ ⟨_,_,_,rfl,hw,hx,_⟩;obtain ⟨rfl,hy⟩:=W_ hx;refine R z (l0 g_3 z<|hw.at0 z)<|Rw z ?_
  obtain rfl:=som hmv;exact Wr<|rtO<|c_ hr z ⟨G,z,hy⟩
 refine Ws<|Rq z z z<|Rw z ?_
 obtain ⟨uz,huj,J⟩:=bdS<|ifF hm L;refine Wt (fun a w=>Sum.inl ()=uz/\Sat 57 [] a/\Below h.z h w) ?_ ?_
 ·refine Wc z (fun O=>?_)<|fun O=>?_
  ·have hmk:=ifT huj O;refine Wm z<|Rf z a_2 z<|R z (l0 I_ z<|h2.at z) ?_
   have hl:=I.e G;refine R z (lnR z_ z hl)<|Rl z z z<|Wx z (fun V=>?_) (fun V=>?_)
   ·refine Ws<|Rf z a_2 z<|R z (l0 I_ z<|h2.at z)<|Rm z ?_
    obtain ⟨_,ai,Y⟩:=bdS<|ifT hmk V;refine RX z (at_ (α:=Int) z_ z_3 z z z hl ai) ?_;rintro _ ⟨_,_,_,rfl,aj,ak,_⟩;obtain ⟨rfl,al⟩:=W_ ak;refine R z (l0 g_3 z<|aj.at0 z)<|Rw z ?_
    obtain rfl:=som Y;have a0:=elR J;obtain rfl:=som a0;exact Wr<|rtO<|c_ hr z ⟨G,z,al⟩
   exact a_e<|fun _ q=>⟨som<|ifF hmk V,q.k sn,br h⟩
  refine Ws<|Rq z z z<|Rw z ?_
  obtain ⟨am,hum,W⟩:=bdS<|ifF huj O;refine Wt (fun a w=>Sum.inl ()=am/\Sat 57 [] a/\Below h.z h w) ?_ ?_
  ·refine Wc z (fun hca=>?_)<|fun hca=>?_
   ·refine Ws<|Rw z ?_
    obtain ⟨_,a1,hmn⟩:=bdS<|ifT hum hca;refine Wf (σ:=Unit) (ρ:=Int) (fun (ko:Nat)(_:Unit) a w=>Sat 57 [(1,vI x2),(3,pt w0.z),(7,vI ((ko:Nat):Int))] a/\Below h.z h w) (fun (_:Unit) a w=>Sat 57 [] a/\Below h.z h w) (fun r ex a w=>ex = .ret/\w_ prog fn (Q0 w0 B r) a w) a1 ?_ ?_ ?_ ?_ ?_
    ·exact fun _ q=>⟨q.k<|s3 z z z,br h⟩
    ·rintro ko _ _ _ _ hkb ⟨a2,s4⟩ a3;refine Wu ?_ a2;refine Wq<|Wm z<|Rf z b_s z ?_
     have hd:=h2.e s4;refine R z (l0 I_ z<|hd.at z) ?_;have hp:=(G.ag B).e s4;have hq:=H.g hp;refine R z (lnR z_ z hq)<|Rl z z z<|Wx z (fun _=>?_) (fun hc=>(P_ hkb hc).elim)
     refine Wk<|Wq<|Wb<|Ws<|Rf z b_s z<|R z (l0 I_ z<|hd.at z)<|Rm z ?_
     obtain ⟨_,an,hmr⟩:=bdS a3;refine RX z (at_ (α:=Int) z_ z_3 z z z hq an) ?_;rintro _ ⟨_,_,_,rfl,ao,ap,_⟩;obtain ⟨rfl,_⟩:=W_ ap;refine R z (l0 g_3 z<|ao.at0 z)<|Rm z<|Rq z z z<|Wx z (fun hcc=>?_) (fun hcc=>?_)
     ·refine Ws<|Rf z a_2 z<|R z (l0 I_ z<|hd.at z)<|Rm z<|R z (inc_ hkb (lt_ (repS.len H) A_) z z) ?_
      obtain ⟨_,aq,a4⟩:=bdS<|ifT hmr hcc;refine RX z (at_ (α:=Int) z_ z_3 z z z (I.g hp) aq) ?_;rintro _ ⟨_,_,_,rfl,ar,au,_⟩;obtain ⟨rfl,av⟩:=W_ au;exact R z (l0 g_3 z<|ar.at0 z)<|Rw z<|Wr<|rtO<|qL (som a4).symm<|c_ hr z ⟨bup G s4,z,av⟩
     exact Wk<|Wg<|Rm z<|R z (inc_ hkb (lt_ (repS.len H) A_) z z)<|Ra z<|Wl (fun _ q=>⟨(),(som<|ifF hmr hcc).symm,⟨q.k<|s3 z z z,s4⟩⟩)
    ·rintro _ _ _ ⟨a5,se⟩;refine Wu ?_ a5;refine Wq<|Wm z<|Rf z b_s z<|R z (l0 I_ z<|(h2.e se).at z)<|R z (lnR z_ z<|H.g<|(G.ag B).e se)<|Rl z z z<|Wx z (fun hc=>(Q_ hc).elim) (fun _=>?_)
     exact We<|fun a' ha'=>⟨rfl,⟨Sat.weaken ha' sn,se⟩⟩
    ·rintro _ aw _ rfl ⟨_,ax⟩;have a6:=elL hmn;revert aw;exact fun _ q=>⟨som a6,q.k sn,ax⟩
    rintro _ _ _ _ rfl ⟨rfl,a7⟩;have a8:=elR hmn;obtain rfl:=som a8;have a9:=elR W;obtain rfl:=som a9;have aa:=elR J;obtain rfl:=som aa;exact ⟨a7,z⟩
   refine Wq<|Ws<|Rq z z z<|Rw z ?_
   obtain ⟨ay,hus,hmt⟩:=bdS<|ifF hum hca;refine Wt (fun a w=>∃(xf:Bool),xf=ay/\Sat 57 [(3,pt w0.z),(50,vB xf)] a/\Below h.z h w) ?_ ?_
   ·refine Wc z (fun hcg=>?_)<|fun hcg=>?_
    ·exact a_e<|fun _ q=>⟨x1.kind==8,som<|ifT hus hcg,q.k<|s2 z z,br h⟩
    exact Wg<|Rq z z z<|Ra z<|Wl (fun _ q=>⟨x1.kind==9,som<|ifF hus hcg,q.k<|s2 z z,br h⟩)
   rintro az _ ⟨xf,rfl,_,s5⟩;revert az;refine Wo<|Wc z (fun hch=>?_) (fun hch=>?_)
   ·refine Ws<|Rf z a_2 z<|R z (l0 I_ z<|(h2.e s5).at z) ?_
    obtain ⟨_,aA,ab⟩:=bdS<|ifT hmt hch;refine RX z (at_ (α:=Int) z_ z_3 z z z (I.g<|(G.ag B).e s5) aA) ?_;rintro _ ⟨_,_,_,rfl,aB,aC,_⟩;obtain ⟨rfl,aD⟩:=W_ aC;refine R z (l0 g_3 z<|aB.at0 z)<|Rw z ?_
    obtain rfl:=som ab;have ad:=elR W;obtain rfl:=som ad;have ae:=elR J;obtain rfl:=som ae;exact Wr<|rtO<|c_ hr z ⟨bup G s5,z,aD⟩
   exact a_e<|fun _ q=>⟨som<|ifF hmt hch,q.k sn,s5⟩
  rintro aE _ ⟨rfl,_,aF⟩;have af:=elL W;revert aE;exact fun _ q=>⟨som af,q.k sn,aF⟩
 rintro aG _ ⟨rfl,_,aH⟩;have ah:=elL J;revert aG;refine Wo<|Ws<|Rw z ?_
 obtain rfl:=som ah;exact Wr<|c_ hr z ⟨bup G aH,z,ii z⟩
structure m_o (f:e_->Int->(List UInt8)->Int->Option (Val×Int×Int)):Prop where
  run:∀{A0 A7:Option Addr}{N0 C0 N7 C7:Nat}{B:Zone}{x1:e_}{x2:Int}{x3:List UInt8}{x4:Int}{res:Val×Int×Int}{w0:World}(hm:f x1 x2 x3 x4=some res)(hBw:B<=w0.z)(p1_0:repS w0 B (sl A0 N0 C0) x1.rules)(p2_0:inI x2)(p3_0:repS w0 B (sl A7 N7 C7) x3)(p4_0:inI x4),h_ prog 67 [(.agg #[sl A0 N0 C0]),vI x2,sl A7 N7 C7,vI x4] w0<|Q17 w0 B res
structure m_p (f:e_->g_->Int->Int->(List UInt8)->Int->Option (Val×Int×Int)):Prop where
  run:∀{A0 A4 A5 A2 A6 AF:Option Addr}{N0 C0 N4 C4 N5 C5 N2 C2 N6 C6 NF CF:Nat}{B:Zone}{x1:e_}{x2:g_}{x3:Int}{x4:Int}{x5:List UInt8}{x6:Int}{res:Val×Int×Int}{w0:World}(hm:f x1 x2 x3 x4 x5 x6=some res)(hBw:B<=w0.z)(p1_0:repS w0 B (sl A0 N0 C0) x1.rules)(p2_0:x2.name.b.length<=LEN)(p2_1:inI x2.kind)(p2_2:inI x2.size)(p2_4:repS w0 B (sl A4 N4 C4) x2.bytes)(p2_5:repS w0 B (sl A5 N5 C5) x2.names)(p2_6:repS w0 B (sl A2 N2 C2) x2.tags)(p2_7:repS w0 B (sl A6 N6 C6) x2.kids)(p3_0:inI x3)(p4_0:inI x4)(p5_0:repS w0 B (sl AF NF CF) x5)(p6_0:inI x6),h_ prog 129 [(.agg #[sl A0 N0 C0]),.agg #[Str.v x2.name,vI x2.kind,vI x2.size,vB x2.little,sl A4 N4 C4,sl A5 N5 C5,sl A2 N2 C2,sl A6 N6 C6],vI x3,vI x4,sl AF NF CF,vI x6] w0<|Q17 w0 B res
structure m_q (f:e_->g_->(List UInt8)->Int->Option (Val×Int×Int)):Prop where
  run:∀{A0 A4 A5 A2 A6 A7:Option Addr}{N0 C0 N4 C4 N5 C5 N2 C2 N6 C6 N7 C7:Nat}{B:Zone}{x1:e_}{x2:g_}{x3:List UInt8}{x4:Int}{res:Val×Int×Int}{w0:World}(hm:f x1 x2 x3 x4=some res)(hBw:B<=w0.z)(p1_0:repS w0 B (sl A0 N0 C0) x1.rules)(p2_0:x2.name.b.length<=LEN)(p2_1:inI x2.kind)(p2_2:inI x2.size)(p2_4:repS w0 B (sl A4 N4 C4) x2.bytes)(p2_5:repS w0 B (sl A5 N5 C5) x2.names)(p2_6:repS w0 B (sl A2 N2 C2) x2.tags)(p2_7:repS w0 B (sl A6 N6 C6) x2.kids)(p3_0:repS w0 B (sl A7 N7 C7) x3)(p4_0:inI x4),h_ prog 130 [(.agg #[sl A0 N0 C0]),.agg #[Str.v x2.name,vI x2.kind,vI x2.size,vB x2.little,sl A4 N4 C4,sl A5 N5 C5,sl A2 N2 C2,sl A6 N6 C6],sl A7 N7 C7,vI x4] w0<|Q17 w0 B res
structure m_r (f:e_->g_->(List UInt8)->Int->Option (Val×Int×Int)):Prop where
  run:∀{A0 A4 A5 A2 A6 A7:Option Addr}{N0 C0 N4 C4 N5 C5 N2 C2 N6 C6 N7 C7:Nat}{B:Zone}{x1:e_}{x2:g_}{x3:List UInt8}{x4:Int}{res:Val×Int×Int}{w0:World}(hm:f x1 x2 x3 x4=some res)(hBw:B<=w0.z)(p1_0:repS w0 B (sl A0 N0 C0) x1.rules)(p2_0:x2.name.b.length<=LEN)(p2_1:inI x2.kind)(p2_2:inI x2.size)(p2_4:repS w0 B (sl A4 N4 C4) x2.bytes)(p2_5:repS w0 B (sl A5 N5 C5) x2.names)(p2_6:repS w0 B (sl A2 N2 C2) x2.tags)(p2_7:repS w0 B (sl A6 N6 C6) x2.kids)(p3_0:repS w0 B (sl A7 N7 C7) x3)(p4_0:inI x4),h_ prog 131 [(.agg #[sl A0 N0 C0]),.agg #[Str.v x2.name,vI x2.kind,vI x2.size,vB x2.little,sl A4 N4 C4,sl A5 N5 C5,sl A2 N2 C2,sl A6 N6 C6],sl A7 N7 C7,vI x4] w0<|Q17 w0 B res
structure m_s (f:e_->g_->(List UInt8)->Int->Option (Val×Int×Int)):Prop where
  run:∀{A0 A4 A5 A2 A6 A7:Option Addr}{N0 C0 N4 C4 N5 C5 N2 C2 N6 C6 N7 C7:Nat}{B:Zone}{x1:e_}{x2:g_}{x3:List UInt8}{x4:Int}{res:Val×Int×Int}{w0:World}(hm:f x1 x2 x3 x4=some res)(hBw:B<=w0.z)(p1_0:repS w0 B (sl A0 N0 C0) x1.rules)(p2_0:x2.name.b.length<=LEN)(p2_1:inI x2.kind)(p2_2:inI x2.size)(p2_4:repS w0 B (sl A4 N4 C4) x2.bytes)(p2_5:repS w0 B (sl A5 N5 C5) x2.names)(p2_6:repS w0 B (sl A2 N2 C2) x2.tags)(p2_7:repS w0 B (sl A6 N6 C6) x2.kids)(p3_0:repS w0 B (sl A7 N7 C7) x3)(p4_0:inI x4),h_ prog 132 [(.agg #[sl A0 N0 C0]),.agg #[Str.v x2.name,vI x2.kind,vI x2.size,vB x2.little,sl A4 N4 C4,sl A5 N5 C5,sl A2 N2 C2,sl A6 N6 C6],sl A7 N7 C7,vI x4] w0<|Q17 w0 B res
abbrev g_s (n:Nat):Prop:=m_o (a_t n).spec_l11Read/\m_p (a_t n).spec_l11Items/\m_q (a_t n).spec_l11Choice/\m_r (a_t n).spec_l11Option/\m_s (a_t n).spec_l11Checked
theorem T_w02 (ih:g_s n):m_o (h_Y n<|a_t n):=by
 obtain ⟨_,bj,d6,d7,d8⟩:=ih
 constructor
 intro A0 A7 N0 C0 N7 C7 B x1 x2 x3 x4 res w0 hm hBw p1_0 p2_0 p3_0 p4_0;unfold h_Y at hm
 refine goF func67 z z (lb z) fun fn hr=>Ws<|E z (fb z) ?_
 rintro _ bk ⟨rfl,bm⟩;have h3:=bm.below;have hn:Blk bk w0.z [sl A0 N0 C0]:=bm.blk;refine E z (fa a_s) ?_;rintro _ H ⟨rfl,bn⟩;have h4:=bn.below;have h2:Blk H bk.z [vI 0,sl none 0 0,sl none 0 0]:=bn.blk;refine Ra z<|Rw z<|Ws<|Rf z a_o z ?_
 have ho:=hn.e h4;refine R z (l0 a_q z<|ho.at z)<|Rm z ?_
 obtain ⟨xa,d9,b5⟩:=bdS hm;have I:=(h3.ag B).e h4;refine RX z (at_ (α:=g_) a_b u_ z z z (p1_0.g I) d9) ?_;rintro _ ⟨_,_,_,rfl,da,db,_⟩;obtain ⟨ab,nc,cd,ae,nf,cg,ah,ni,cj,ak,nl,cm,rfl,hu,hv,hp,hq,hw,hx,ht⟩:=a_N db;refine R z (lN (vs:=vR xa ab nc cd ae nf cg ah ni cj ak nl cm) R_ u_ z z fid da)<|E z (fa c_x) ?_
 rintro _ dc ⟨rfl,bo⟩;have G:=bo.below;refine E0 (fs (cur':=vR xa ab nc cd ae nf cg ah ni cj ak nl cm) u_ z z (bo.blk:Blk dc H.z [(Str.v (⟨[]⟩:Str)),vI 0,vI 0,vB false,sl none 0 0,sl none 0 0,sl none 0 0,sl none 0 0]) z (lb z) (oA z) z) ?_;rintro _ _ ⟨J,dd⟩;have h1:=dd.one;refine Wn<|Wq<|Ws<|Rf z a_M z<|R z (l0 g_3 z<|J.at z)<|Wn<|Wb<|Ws<|Rq z z z<|Rw z<|Wc z (fun ad=>?_) (fun ad=>?_)
 ·refine Ws<|R z (lN (vs:=[sl A0 N0 C0]) J_ E_ z z fid<|((ho.e G).c h1<|djs<|mm1 hn.lt h4.s).row 0 1 z)<|RM z z<|Rm z ?_
  have hz:=lt_ h3.s h4.s;have bp:=(I.e G).c h1<|f_ (or0 (d_ lr) (n_<|zt' hBw hz):∀k∈[H.z],¬B k)
  obtain ⟨bq,_,_,de,b6⟩:=V_<|ifT b5 ad;refine E z (fc call125 z<|k_y de (zt' hBw<|lt_ (lt_ hz G.s) h1.s) (p1_0.g bp) p2_0 (p3_0.g bp) p4_0) ?_;rintro _ _ ⟨sr,rfl,df,dg⟩;refine Rm z ?_
  iterate 3 refine Re z z z ?_
  refine RA z z<|Rw z<|Wq<|Wm z<|R z (not_ z)<|Wx z (fun af=>?_) (fun af=>?_)
  ·refine Ws<|R z (bP (parts:=[]) (cs:=[vI 0,sl none 0 0,sl none 0 0]) a_7 z z)<|Rm z<|E0 (fs (cur':=[vI 0,sl none 0 0,sl none 0 0]) k_ z z (((h2.e G).c h1<|djs<|mmr h2.lt).e sr) z (lb z) (oA z) z) ?_
   rintro _ _ ⟨dh,di⟩;refine Ra z<|Rw z ?_
   obtain rfl:=som<|ifT b6 af;exact Wr<|rtO<|y_ hr (p_ D_ k_ z dh z) z z ⟨bM (bup (bM (bup (bup h3 h4) G) h1<|m1 hz) sr) di.one<|m1 h3.s,none,0,0,[],none,0,0,[],z,ii z,onL,onL,p4_0,ii z,nd0,al0⟩
  refine Wk<|Wm z<|R z (bP (parts:=[(0,.tmp 43)]) (cs:=[vI bq,sl none 0 0,sl none 0 0]) a_7 z z)<|Rm z<|E0 (fs (cur':=[vI bq,sl none 0 0,sl none 0 0]) k_ z z (((h2.e G).c h1<|djs<|mmr h2.lt).e sr) z (lb z) (oA z) z) ?_
  rintro _ _ ⟨dj,dk⟩;refine Ra z<|Rw z ?_
  obtain rfl:=som<|ifF b6 af;exact Wr<|rtO<|y_ hr (p_ D_ k_ z dj z) z z ⟨bM (bup (bM (bup (bup h3 h4) G) h1<|m1 hz) sr) dk.one<|m1 h3.s,none,0,0,[],none,0,0,[],z,df,onL,onL,dg,ii z,nd0,al0⟩
 have b7:=ifF b5 ad;refine Ws<|Rq z z z<|Rw z<|Wc z (fun ai=>?_) (fun ai=>?_)
 ·refine Ws<|R z (lN (vs:=vR xa ab nc cd ae nf cg ah ni cj ak nl cm) R_ u_ z z fid<|J.row 0 8 z)<|RM z z ?_
  have aw:=lt_ h3.s h4.s;have br:∀k∈[H.z],¬B k:=or0 (d_ lr)<|n_<|zt' hBw aw;have L:=(G.ag B).c h1<|f_ br
  have ax:=lt_ (lt_ aw G.s) h1.s;obtain ⟨dl,_,_,dm,cW⟩:=V_<|ifT b7 ai;refine E z (fc call126 z<|W_w2z dm (zt' hBw ax) hu hv hp (hq.g L) (hw.g L) (hx.g L) (ht.g L) (p3_0.g<|(I.e G).c h1<|f_ br) p4_0) ?_;rintro _ _ ⟨bs,bt,bu,bv,dn,bw,bx,bz,dp,rfl,dq,dr,ds,dt,du,ay,O⟩
  iterate 3 refine Re z z z ?_
  refine E0 (fs (cur':=[vI dl.number,sl bt bu bv,sl bw bx bz]) k_ z z (((h2.e G).c h1<|djs<|mmr h2.lt).e bs) z (lb z) (oA z) z) ?_;rintro _ _ ⟨dv,dw⟩;have az:=dw.one;refine Ra z<|Rw z ?_
  obtain rfl:=som cW;have bA:=lt_ G.s h1.s;exact Wr<|rtO<|y_ hr (p_ D_ k_ z dv z) z z ⟨bM (bup (bM (bup (bup h3 h4) G) h1<|m1 aw) bs) az<|m1 h3.s,bt,bu,bv,dn,bw,bx,bz,dp,z,dq,dr.c az<|r_ (al_ O) h2.lt bA,ds.c az<|r_ (ar_ O) h2.lt bA,dt,du,na_ (nl_ ay) (nr_ ay)<|nj ay,aa_ (s_ (al_ O) ax)<|s_ (ar_ O) ax⟩
 have b8:=ifF b7 ai;refine Ws<|Rq z z z<|Rw z<|Wc z (fun aj=>?_) (fun aj=>?_)
 ·refine Wm z<|Rm z<|Rf z b_3 z<|R z (l0 g_3 z<|J.at z) ?_
  have aA:=lt_ h3.s h4.s;have aB:=lt_ (lt_ aA G.s) h1.s;obtain ⟨dx,_,_,dy,cX⟩:=V_<|ifT b8 aj;refine E z (fc call127 z<|W_w16 dy (zt' hBw aB) (p3_0.g<|(I.e G).c h1<|f_ (or0 (d_ lr) (n_<|zt' hBw aA):∀k∈[H.z],¬B k)) p4_0 hp) ?_;rintro _ _ ⟨bB,bC,bD,bE,dz,bF,bG,bH,dA,rfl,dB,dC,dD,dF,dG,aC,V⟩
  iterate 3 refine Re z z z ?_
  refine E0 (fs (cur':=[vI dx.number,sl bC bD bE,sl bF bG bH]) k_ z z (((h2.e G).c h1<|djs<|mmr h2.lt).e bB) z (lb z) (oA z) z) ?_;rintro _ _ ⟨dH,dI⟩;have aD:=dI.one;refine Ra z<|Rw z ?_
  obtain rfl:=som cX;have bI:=lt_ G.s h1.s;exact Wr<|rtO<|y_ hr (p_ D_ k_ z dH z) z z ⟨bM (bup (bM (bup (bup h3 h4) G) h1<|m1 aA) bB) aD<|m1 h3.s,bC,bD,bE,dz,bF,bG,bH,dA,z,dB,dC.c aD<|r_ (al_ V) h2.lt bI,dD.c aD<|r_ (ar_ V) h2.lt bI,dF,dG,na_ (nl_ aC) (nr_ aC)<|nj aC,aa_ (s_ (al_ V) aB)<|s_ (ar_ V) aB⟩
 have b9:=ifF b8 aj;refine Ws<|Rq z z z<|Rw z<|Wc z (fun al=>?_) (fun al=>?_)
 ·refine Wm z<|Rm z<|Rf z b_r z<|R z (l0 M_ z<|J.at z) ?_
  obtain ⟨_,dJ,cY⟩:=bdS<|ifT b9 al;have W:=lt_ h3.s h4.s;have bJ:∀k∈[H.z],¬B k:=or0 (d_ lr)<|n_<|zt' hBw W;refine RX z (at_ (α:=UInt8) j_ z_5 z z z (hq.g<|(G.ag B).c h1<|f_ bJ) dJ) ?_;rintro _ ⟨_,_,_,rfl,dK,dL,_⟩;obtain rfl:=u8 dL;refine R z (l0 g_5 z<|dK.at0 z) ?_;have bK:=lt_ (lt_ W G.s) h1.s;obtain ⟨_,_,_,dN,ba⟩:=V_ cY;refine E z (fc call128 z<|W_w30 dN (zt' hBw bK) (p3_0.g<|(I.e G).c h1<|f_ bJ) p4_0) ?_;rintro _ _ ⟨ss,aE,aF,aG,dO,rfl,dP,dS,dT,bL⟩;refine Rm z ?_
  iterate 3 refine Re z z z ?_
  refine RA z z<|Rw z<|Wq<|Wm z<|R z (not_ z)<|Wx z (fun am=>?_) (fun am=>?_)
  ·refine Ws<|R z (bP (parts:=[]) (cs:=[vI 0,sl none 0 0,sl none 0 0]) a_7 z z)<|Rm z<|E0 (fs (cur':=[vI 0,sl none 0 0,sl none 0 0]) k_ z z (((h2.e G).c h1<|djs<|mmr h2.lt).e ss) z (lb z) (oA z) z) ?_
   rintro _ _ ⟨dU,dV⟩;refine Ra z<|Rw z ?_
   obtain rfl:=som<|ifT ba am;exact Wr<|rtO<|y_ hr (p_ D_ k_ z dU z) z z ⟨bM (bup (bM (bup (bup h3 h4) G) h1<|m1 W) ss) dV.one<|m1 h3.s,none,0,0,[],none,0,0,[],z,ii z,onL,onL,p4_0,ii z,nd0,al0⟩
  refine Wk<|Wm z<|R z (bP (parts:=[(1,.tmp 82)]) (cs:=[vI 0,sl aE aF aG,sl none 0 0]) a_7 z z)<|Rm z<|E0 (fs (cur':=[vI 0,sl aE aF aG,sl none 0 0]) k_ z z (((h2.e G).c h1<|djs<|mmr h2.lt).e ss) z (lb z) (oA z) z) ?_
  rintro _ _ ⟨dW,dX⟩;have bN:=dX.one;refine Ra z<|Rw z ?_
  obtain rfl:=som<|ifF ba am;exact Wr<|rtO<|y_ hr (p_ D_ k_ z dW z) z z ⟨bM (bup (bM (bup (bup h3 h4) G) h1<|m1 W) ss) bN<|m1 h3.s,aE,aF,aG,dO,none,0,0,[],z,ii z,dP.c bN<|r_ bL h2.lt<|lt_ G.s h1.s,onL,dS,ii z,na_ dT H_<|nmN _,aa_ (s_ bL bK) an_⟩
 have bb:=ifF b9 al;refine Ws<|Rq z z z<|Rw z<|Wc z (fun an=>?_) (fun an=>?_)
 ·refine Ws<|R z (lN (vs:=[sl A0 N0 C0]) J_ E_ z z fid<|((ho.e G).c h1<|djs<|mm1 hn.lt h4.s).row 0 1 z)<|R z (lN (vs:=vR xa ab nc cd ae nf cg ah ni cj ak nl cm) R_ u_ z z fid<|J.row 0 8 z)<|Rf z a_2 z<|R z (l0 I_ z<|J.at z) ?_
  have aH:=lt_ h3.s h4.s;have bO:∀k∈[H.z],¬B k:=or0 (d_ lr)<|n_<|zt' hBw aH;have Y:=(G.ag B).c h1<|f_ bO
  have aI:=ht.g Y;refine R z (lnR z_ z aI)<|RM z z ?_
  have bQ:=(I.e G).c h1<|f_ bO
  have aJ:=lt_ (lt_ aH G.s) h1.s;obtain ⟨dY,_,_,dZ,cZ⟩:=V_<|ifT bb an;refine E z (fc call129 z<|bj.run dZ (zt' hBw aJ) (p1_0.g bQ) hu hv hp (hq.g Y) (hw.g Y) (hx.g Y) aI (ii z) (b_W<|repS.len aI) (p3_0.g bQ) p4_0) ?_;rintro _ _ ⟨bR,bS,bT,bU,e0,bV,bW,bX,e1,rfl,e2,e3,e4,e5,e6,aK,a0⟩
  iterate 3 refine Re z z z ?_
  refine E0 (fs (cur':=[vI dY.number,sl bS bT bU,sl bV bW bX]) k_ z z (((h2.e G).c h1<|djs<|mmr h2.lt).e bR) z (lb z) (oA z) z) ?_;rintro _ _ ⟨e7,e8⟩;have aL:=e8.one;refine Ra z<|Rw z ?_
  obtain rfl:=som cZ;have bY:=lt_ G.s h1.s;exact Wr<|rtO<|y_ hr (p_ D_ k_ z e7 z) z z ⟨bM (bup (bM (bup (bup h3 h4) G) h1<|m1 aH) bR) aL<|m1 h3.s,bS,bT,bU,e0,bV,bW,bX,e1,z,e2,e3.c aL<|r_ (al_ a0) h2.lt bY,e4.c aL<|r_ (ar_ a0) h2.lt bY,e5,e6,na_ (nl_ aK) (nr_ aK)<|nj aK,aa_ (s_ (al_ a0) aJ)<|s_ (ar_ a0) aJ⟩
 have bc:=ifF bb an;refine Ws<|Rq z z z<|Rw z<|Wc z (fun ao=>?_) (fun ao=>?_)
 ·refine Ws<|R z (lN (vs:=[sl A0 N0 C0]) J_ E_ z z fid<|((ho.e G).c h1<|djs<|mm1 hn.lt h4.s).row 0 1 z)<|R z (lN (vs:=vR xa ab nc cd ae nf cg ah ni cj ak nl cm) R_ u_ z z fid<|J.row 0 8 z)<|RM z z ?_
  have aM:=lt_ h3.s h4.s;have bZ:∀k∈[H.z],¬B k:=or0 (d_ lr)<|n_<|zt' hBw aM;have c0:=(I.e G).c h1<|f_ bZ
  have a1:=(G.ag B).c h1<|f_ bZ
  have aN:=lt_ (lt_ aM G.s) h1.s;obtain ⟨e9,_,_,ea,d0⟩:=V_<|ifT bc ao;refine E z (fc call130 z<|d6.run ea (zt' hBw aN) (p1_0.g c0) hu hv hp (hq.g a1) (hw.g a1) (hx.g a1) (ht.g a1) (p3_0.g c0) p4_0) ?_;rintro _ _ ⟨c1,c2,c3,c4,eb,c5,c6,c7,ec,rfl,ed,ee,ef,eg,eh,aO,a2⟩
  iterate 3 refine Re z z z ?_
  refine E0 (fs (cur':=[vI e9.number,sl c2 c3 c4,sl c5 c6 c7]) k_ z z (((h2.e G).c h1<|djs<|mmr h2.lt).e c1) z (lb z) (oA z) z) ?_;rintro _ _ ⟨ei,ej⟩;have aP:=ej.one;refine Ra z<|Rw z ?_
  obtain rfl:=som d0;have c8:=lt_ G.s h1.s;exact Wr<|rtO<|y_ hr (p_ D_ k_ z ei z) z z ⟨bM (bup (bM (bup (bup h3 h4) G) h1<|m1 aM) c1) aP<|m1 h3.s,c2,c3,c4,eb,c5,c6,c7,ec,z,ed,ee.c aP<|r_ (al_ a2) h2.lt c8,ef.c aP<|r_ (ar_ a2) h2.lt c8,eg,eh,na_ (nl_ aO) (nr_ aO)<|nj aO,aa_ (s_ (al_ a2) aN)<|s_ (ar_ a2) aN⟩
 have be:=ifF bc ao;refine Ws<|Rq z z z<|Rw z<|Wc z (fun ap=>?_) (fun ap=>?_)
 ·refine Ws<|R z (lN (vs:=[sl A0 N0 C0]) J_ E_ z z fid<|((ho.e G).c h1<|djs<|mm1 hn.lt h4.s).row 0 1 z)<|R z (lN (vs:=vR xa ab nc cd ae nf cg ah ni cj ak nl cm) R_ u_ z z fid<|J.row 0 8 z)<|RM z z ?_
  have aQ:=lt_ h3.s h4.s;have c9:∀k∈[H.z],¬B k:=or0 (d_ lr)<|n_<|zt' hBw aQ;have ca:=(I.e G).c h1<|f_ c9
  have a3:=(G.ag B).c h1<|f_ c9
  have aR:=lt_ (lt_ aQ G.s) h1.s;obtain ⟨ek,_,_,em,d1⟩:=V_<|ifT be ap;refine E z (fc call131 z<|d7.run em (zt' hBw aR) (p1_0.g ca) hu hv hp (hq.g a3) (hw.g a3) (hx.g a3) (ht.g a3) (p3_0.g ca) p4_0) ?_;rintro _ _ ⟨cb,cc,ce,cf,en,ch,ci,ck,eo,rfl,ep,er,es,eu,ew,aS,a4⟩
  iterate 3 refine Re z z z ?_
  refine E0 (fs (cur':=[vI ek.number,sl cc ce cf,sl ch ci ck]) k_ z z (((h2.e G).c h1<|djs<|mmr h2.lt).e cb) z (lb z) (oA z) z) ?_;rintro _ _ ⟨ex,ey⟩;have aT:=ey.one;refine Ra z<|Rw z ?_
  obtain rfl:=som d1;have cl:=lt_ G.s h1.s;exact Wr<|rtO<|y_ hr (p_ D_ k_ z ex z) z z ⟨bM (bup (bM (bup (bup h3 h4) G) h1<|m1 aQ) cb) aT<|m1 h3.s,cc,ce,cf,en,ch,ci,ck,eo,z,ep,er.c aT<|r_ (al_ a4) h2.lt cl,es.c aT<|r_ (ar_ a4) h2.lt cl,eu,ew,na_ (nl_ aS) (nr_ aS)<|nj aS,aa_ (s_ (al_ a4) aR)<|s_ (ar_ a4) aR⟩
 have bf:=ifF be ap;refine Ws<|Rq z z z<|Rw z<|Wc z (fun aq=>?_) (fun aq=>?_)
 ·refine Ws<|R z (lN (vs:=[sl A0 N0 C0]) J_ E_ z z fid<|((ho.e G).c h1<|djs<|mm1 hn.lt h4.s).row 0 1 z)<|R z (lN (vs:=vR xa ab nc cd ae nf cg ah ni cj ak nl cm) R_ u_ z z fid<|J.row 0 8 z)<|RM z z ?_
  have aU:=lt_ h3.s h4.s;have cn:∀k∈[H.z],¬B k:=or0 (d_ lr)<|n_<|zt' hBw aU;have co:=(I.e G).c h1<|f_ cn
  have a5:=(G.ag B).c h1<|f_ cn
  have aV:=lt_ (lt_ aU G.s) h1.s;obtain ⟨ez,_,_,eA,d2⟩:=V_<|ifT bf aq;refine E z (fc call132 z<|d8.run eA (zt' hBw aV) (p1_0.g co) hu hv hp (hq.g a5) (hw.g a5) (hx.g a5) (ht.g a5) (p3_0.g co) p4_0) ?_;rintro _ _ ⟨cp,cq,cr,ct,eB,cu,cv,cw,eC,rfl,eD,eE,eF,eG,eH,aW,a6⟩
  iterate 3 refine Re z z z ?_
  refine E0 (fs (cur':=[vI ez.number,sl cq cr ct,sl cu cv cw]) k_ z z (((h2.e G).c h1<|djs<|mmr h2.lt).e cp) z (lb z) (oA z) z) ?_;rintro _ _ ⟨eI,eJ⟩;have aX:=eJ.one;refine Ra z<|Rw z ?_
  obtain rfl:=som d2;have cx:=lt_ G.s h1.s;exact Wr<|rtO<|y_ hr (p_ D_ k_ z eI z) z z ⟨bM (bup (bM (bup (bup h3 h4) G) h1<|m1 aU) cp) aX<|m1 h3.s,cq,cr,ct,eB,cu,cv,cw,eC,z,eD,eE.c aX<|r_ (al_ a6) h2.lt cx,eF.c aX<|r_ (ar_ a6) h2.lt cx,eG,eH,na_ (nl_ aW) (nr_ aW)<|nj aW,aa_ (s_ (al_ a6) aV)<|s_ (ar_ a6) aV⟩
 refine Wk<|Wq (Wd (X:=noX) 0 (pl_ 15 [7]) mo (by kernel_rfl) fun fj s6 _=>?_)
 have cy:=((ho.e G).c h1<|djs<|mm1 hn.lt h4.s).e s6;refine dR z z (lN (vs:=[sl A0 N0 C0]) J_ E_ z z fid<|cy.row 0 1 z)<|dR z z (fd a_2 z) ?_
 have cz:=J.e s6;refine dR z z (l0 I_ z<|cz.at z) ?_;obtain ⟨_,eK,d3⟩:=bdS<|ifF bf aq;have hy:=lt_ h3.s h4.s;have cA:∀k∈[H.z],¬B k:=or0 (d_ lr)<|n_<|zt' hBw hy;have cB:=((G.ag B).c h1<|f_ cA).e s6;refine dRX z z (at_ (α:=Int) z_ z_3 z z z (ht.g cB) eK) ?_;rintro _ ⟨_,_,_,rfl,eL,eM,_⟩;obtain ⟨rfl,eN⟩:=W_ eM;refine dR z z (l0 g_3 z<|eL.at0 z)<|dM z z z<|dM z z z ?_
 have a7:=((I.e G).c h1<|f_ cA).e s6;have aY:=lt_ (lt_ (lt_ hy G.s) h1.s) s6.s;obtain ⟨_,_,_,eO,bg⟩:=V_ d3;refine dE z z (fc call125 z<|k_y eO (zt' hBw aY) (p1_0.g a7) eN (p3_0.g a7) p4_0) (.inr fun _ _ h=>F_<|h.1) ?_;rintro _ _ ⟨s5,rfl,cC,cD⟩;refine dM z z z ?_
 iterate 3 refine dR z z (ext_ z z) ?_
 iterate 3 refine dQ z z z ?_
 refine pD<|Wo<|Wq<|Wb<|Wm z<|R z (not_ z)<|Rw z<|Wc z (fun ar=>?_) (fun ar=>?_)
 ·refine Ws<|R z (bP (parts:=[]) (cs:=[vI 0,sl none 0 0,sl none 0 0]) a_7 z z)<|Rm z<|E0 (fs (cur':=[vI 0,sl none 0 0,sl none 0 0]) k_ z z ((((h2.e G).c h1<|djs<|mmr h2.lt).e s6).e s5) z (lb z) (oA z) z) ?_
  rintro _ _ ⟨eP,eQ⟩;refine Ra z<|Rw z ?_
  obtain rfl:=som<|ifT bg ar;exact Wr<|rtO<|y_ hr (p_ D_ k_ z eP z) z z ⟨bM (bup (bup (bM (bup (bup h3 h4) G) h1<|m1 hy) s6) s5) eQ.one<|m1 h3.s,none,0,0,[],none,0,0,[],z,ii z,onL,onL,p4_0,ii z,nd0,al0⟩
 have bh:=ifF bg ar;refine Ws<|Rf z a_M z ?_
 have cE:=cz.e s5;refine R z (l0 g_3 z<|cE.at z)<|Rq z z z<|Rw z<|Wc z (fun au=>?_) (fun au=>?_)
 ·refine Wm z<|RM z z ?_
  have aZ:=lt_ aY s5.s;obtain ⟨eR,_,_,eS,d4⟩:=V_<|ifT bh au;refine E z (fc call127 z<|W_w16 eS (zt' hBw aZ) (p3_0.g<|a7.e s5) cD cC) ?_;rintro _ _ ⟨cF,cG,cH,cI,eT,cJ,cK,cL,eU,rfl,eV,eW,eX,eY,eZ,b0,a8⟩
  iterate 3 refine Re z z z ?_
  refine E0 (fs (cur':=[vI eR.number,sl cG cH cI,sl cJ cK cL]) k_ z z (((((h2.e G).c h1<|djs<|mmr h2.lt).e s6).e s5).e cF) z (lb z) (oA z) z) ?_;rintro _ _ ⟨f0,f1⟩;have b1:=f1.one;refine Ra z<|Rw z ?_
  obtain rfl:=som d4;have cM:=lt_ (lt_ (lt_ G.s h1.s) s6.s) s5.s;exact Wr<|rtO<|y_ hr (p_ D_ k_ z f0 z) z z ⟨bM (bup (bup (bup (bM (bup (bup h3 h4) G) h1<|m1 hy) s6) s5) cF) b1<|m1 h3.s,cG,cH,cI,eT,cJ,cK,cL,eU,z,eV,eW.c b1<|r_ (al_ a8) h2.lt cM,eX.c b1<|r_ (ar_ a8) h2.lt cM,eY,eZ,na_ (nl_ b0) (nr_ b0)<|nj b0,aa_ (s_ (al_ a8) aZ)<|s_ (ar_ a8) aZ⟩
 have bi:=ifF bh au;refine Wm z<|R z (Z_ z z)<|Rw z<|Wc z (fun av=>?_) (fun av=>?_)
 ·refine Ws<|R z (bP (parts:=[]) (cs:=[vI 0,sl none 0 0,sl none 0 0]) a_7 z z)<|Rm z<|E0 (fs (cur':=[vI 0,sl none 0 0,sl none 0 0]) k_ z z ((((h2.e G).c h1<|djs<|mmr h2.lt).e s6).e s5) z (lb z) (oA z) z) ?_
  rintro _ _ ⟨f2,f3⟩;refine Ra z<|Rw z ?_
  obtain rfl:=som<|ifT bi av;exact Wr<|rtO<|y_ hr (p_ D_ k_ z f2 z) z z ⟨bM (bup (bup (bM (bup (bup h3 h4) G) h1<|m1 hy) s6) s5) f3.one<|m1 h3.s,none,0,0,[],none,0,0,[],z,ii z,onL,onL,p4_0,ii z,nd0,al0⟩
 refine Wk<|Ws<|R z (lN (vs:=[sl A0 N0 C0]) J_ E_ z z fid<|(cy.e s5).row 0 1 z)<|R z (lN (vs:=vR xa ab nc cd ae nf cg ah ni cj ak nl cm) R_ u_ z z fid<|cE.row 0 8 z)<|RM z z<|Rm z ?_
 have cN:=a7.e s5;have a9:=cB.e s5;have b2:=lt_ aY s5.s;obtain ⟨f4,_,_,f5,d5⟩:=V_<|ifF bi av;refine E z (fc call129 z<|bj.run f5 (zt' hBw b2) (p1_0.g cN) hu hv hp (hq.g a9) (hw.g a9) (hx.g a9) (ht.g a9) (ii z) cC (p3_0.g cN) cD) ?_;rintro _ _ ⟨cO,cP,cQ,cR,f6,cS,cT,cU,f7,rfl,f8,f9,fe,ff,fg,b3,aa⟩
 iterate 3 refine Re z z z ?_
 refine E0 (fs (cur':=[vI f4.number,sl cP cQ cR,sl cS cT cU]) k_ z z (((((h2.e G).c h1<|djs<|mmr h2.lt).e s6).e s5).e cO) z (lb z) (oA z) z) ?_;rintro _ _ ⟨fh,fi⟩;have b4:=fi.one;refine Ra z<|Rw z ?_
 obtain rfl:=som d5;have cV:=lt_ (lt_ (lt_ G.s h1.s) s6.s) s5.s;exact Wr<|y_ hr (p_ D_ k_ z fh z) z z ⟨bM (bup (bup (bup (bM (bup (bup h3 h4) G) h1<|m1 hy) s6) s5) cO) b4<|m1 h3.s,cP,cQ,cR,f6,cS,cT,cU,f7,z,f8,f9.c b4<|r_ (al_ aa) h2.lt cV,fe.c b4<|r_ (ar_ aa) h2.lt cV,ff,fg,na_ (nl_ b3) (nr_ b3)<|nj b3,aa_ (s_ (al_ aa) b2)<|s_ (ar_ aa) b2⟩
theorem T_w17 (ih:g_s n):m_p (h_Z n<|a_t n):=by
 obtain ⟨ai,_,_,_,_⟩:=ih
 constructor
 intro A0 A4 A5 A2 A6 AF N0 C0 N4 C4 N5 C5 N2 C2 N6 C6 NF CF B x1 x2 x3 x4 x5 x6 res w0 hm hBw p1_0 p2_0 p2_1 p2_2 p2_4 p2_5 p2_6 p2_7 p3_0 p4_0 p5_0 p6_0;unfold h_Z at hm
 refine goF func129 z z (lb z) fun fn hr=>Ws<|E z (fb z) ?_
 rintro _ a3 ⟨rfl,aL⟩;have hd:=aL.below;have aj:Blk a3 w0.z [sl A0 N0 C0]:=aL.blk;refine E z (fb z) ?_;rintro _ wr ⟨rfl,aM⟩;have hb:=aM.below;have ak:Blk wr a3.z (vR x2 A4 N4 C4 A5 N5 C5 A2 N2 C2 A6 N6 C6):=aM.blk;refine E z (fa a_s) ?_;rintro _ G ⟨rfl,aN⟩;have h5:=aN.below;have hu:Blk G wr.z [vI 0,sl none 0 0,sl none 0 0]:=aN.blk;refine Ra z<|Rw z<|Ws<|R z (bP (parts:=[]) (cs:=[vI 0,sl none 0 0,sl none 0 0]) a_7 z z)<|E z (fa a_s) ?_
 rintro _ cj ⟨rfl,aO⟩;have h3:=aO.below;have hv:Blk cj G.z [vI 0,sl none 0 0,sl none 0 0]:=aO.blk;refine E0 (fs (cur':=[vI 0,sl none 0 0,sl none 0 0]) k_ z z hv z (lb z) (oA z) z) ?_;rintro _ I ⟨ck,cl⟩;have H:=cl.one;refine Wn<|Wq<|Ws<|Rw z ?_
 obtain ⟨_,c5,aH⟩:=bdS hm;refine Wf (σ:=Int×(List Val)) (ρ:=Val×Int×Int) (fun (al:Nat) s a w=>un2 (fun xc xp=>∃L O ca J,Sat 52 [(2,vI x3),(3,vI x4),(4,sl AF NF CF),(5,vI xc),(6,pt w0.z),(7,pt a3.z),(12,pt wr.z),(15,pt G.z),(16,vI ((al:Nat):Int))] a/\Chg (· ∈ [G.z]) I w/\inI xc/\a_ w J (sl L O ca) xp/\J.Nodup/\(∀k∈J,I.z<=k)/\Blk w G.z [vI 0,sl none 0 0,sl L O ca]) s) (fun s a w=>un2 (fun xc xp=>∃L O ca J,Sat 52 [(5,vI xc),(12,pt wr.z),(15,pt G.z)] a/\Chg (· ∈ [G.z]) I w/\inI xc/\a_ w J (sl L O ca) xp/\J.Nodup/\(∀k∈J,I.z<=k)/\Blk w G.z [vI 0,sl none 0 0,sl L O ca]) s) (fun r ex a w=>ex = .ret/\w_ prog fn (Q17 w0 B r) a w) c5 ?_ ?_ ?_ ?_ ?_
 ·exact fun _ q=>⟨none,0,0,[],q.k<|s9 z z z z z z z z z,cr [G.z] I,p6_0,onL,H_,an_,ck⟩
 ·rintro al ⟨xc,xp⟩ _ wg _ a2 ⟨L,O,ca,J,c6,s4,hh,hi,hw,he,hx⟩ c7;refine Wu ?_ c6;refine Wq<|Wm z<|Rm z<|Rl z z z<|Wx z (fun _=>?_) (fun hc=>(j_z a2 hc).elim)
  refine Wk<|Wq<|Wb<|Wq ?_
  obtain ⟨cm,aI,c8⟩:=bdS<|a_5 c7;refine Wt (fun a w=>∃(xj:Int)(a4:List UInt8)(a5:List Val)(xs:Int)(a6:Int),(xj,a4,a5,xs,a6)=cm/\∃ay nz V Sk W Y a0 Sl gq,Sat 52 [(2,vI x3),(3,vI x4),(4,sl AF NF CF),(6,pt w0.z),(7,pt a3.z),(12,pt wr.z),(15,pt G.z),(16,vI ((al:Nat):Int)),(17,pt gq),(18,vI xs),(19,vI a6)] a/\Below wg.z wg w/\inI xj/\a_ w Sk (sl ay nz V) a4/\Sk.Nodup/\(∀k∈Sk,wg.z<=k)/\a_ w Sl (sl W Y a0) a5/\Sl.Nodup/\(∀k∈Sl,wg.z<=k)/\(∀k∈Sl,k∉Sk)/\inI xs/\inI a6/\Blk w gq [vI xj,sl ay nz V,sl W Y a0]/\wg.z<=gq/\(∀k∈Sk,k∉[gq])/\(∀k∈Sl,k∉[gq])) ?_ ?_
  ·refine Wd (X:=fun k=>k∈([]:List Nat)∨wg.z<=k) 0 (.rd 0<|.rd 1<|.rd 2<|.rd 3<|.rd 5<|.rd 6<|.br 4 (.br 7 (.rd 8<|.rd 9<|.rd 10<|.rd 11<|.ef 12<|.ef 13<|.rd 14<|.rd 15 .done) 12<|.ef 7<|.rd 8<|.rd 9<|.rd 10<|.rd 11<|.ef 13<|.rd 14<|.rd 15 .done) 12<|.ef 4<|.ef 7<|.rd 8<|.rd 9<|.rd 10<|.rd 11<|.ef 13<|.rd 14<|.rd 15 .done) mo (by kernel_rfl) fun aP s7 _=>?_
   have aQ:=lt_ hb.s h5.s;have aR:=mm1 aj.lt aQ;refine dR z z (lN (vs:=[sl A0 N0 C0]) J_ E_ z z (e_6 nm0<|Nat.lt_of_lt_of_le aj.lt<|lt_ (lt_ (lt_ aQ h3.s) H.s) s4.s)<|((((((aj.e hb).e h5).e h3).c H<|djs aR).c s4<|djs aR).e s7).row 0 1 z) ?_;have aS:=mm1 ak.lt h5.s;refine dR z z (lN (vs:=vR x2 A4 N4 C4 A5 N5 C5 A2 N2 C2 A6 N6 C6) R_ u_ z z (e_6 nm0<|Nat.lt_of_lt_of_le ak.lt<|lt_ (lt_ (lt_ h5.s h3.s) H.s) s4.s)<|(((((ak.e h5).e h3).c H<|djs aS).c s4<|djs aS).e s7).row 0 8 z) ?_
   iterate 4 refine dM z z z ?_
   refine e_u ?_ ?_
   ·have aT:=lt_ (lt_ hd.s hb.s) h5.s;have aU:∀k∈[G.z],¬B k:=or0 (d_ lr)<|n_<|zt' hBw aT;have ht:=((((((hd.ag B).e hb).e h5).e h3).c H<|f_ aU).c s4<|f_ aU).e s7;have am:=lt_ (lt_ (lt_ (lt_ aT h3.s) H.s) s4.s) s7.s;obtain ⟨_,cn,aJ⟩:=bdS aI;refine dE z z (fc call109 z<|k_z cn (zt' hBw am) p2_0 p2_1 p2_2 (p2_4.g ht) (p2_5.g ht) (p2_6.g ht) (p2_7.g ht) p3_0<|ic (Nat.le_of_lt a2)<|tl_ p4_0) (.inr fun _ _ h=>F_<|h.1) ?_;rintro _ aV ⟨sf,rfl,aW⟩;refine e_u ?_ ?_
    ·have aX:=ht.e sf;obtain ⟨a7,co,cp,cq,c9⟩:=V_ aJ;refine dE z z (fc call67 z<|ai.run cq (zt' hBw<|lt_ am sf.s) (p1_0.g aX) aW (p5_0.g aX) hh) (.inr fun _ _ h=>F_<|h.1) ?_;rintro _ aY ⟨aZ,b0,b1,b2,ct,b3,b4,b5,cu,rfl,cv,b6,b7,cw,cx,an,b8⟩;refine dM z z z ?_
     iterate 3 refine dR z z (ext_ z z) ?_
     refine dE z z (fa a_s) (.inr fun _ _ h=>F_<|h.2.below) ?_;rintro _ cy ⟨rfl,b9⟩;have ao:=b9.below;have ap:=lt_ s7.s sf.s;have aq:=m1<|lt_ ap aZ.s
     refine dE0 z (fs (cur':=[vI a7.number,sl b0 b1 b2,sl b3 b4 b5]) k_ z z (b9.blk:Blk cy aY.z [vI 0,sl none 0 0,sl none 0 0]) z (lb z) (oA z) z) (.inr fun _ _ h=>c_P (atp aq) h.2) ?_;rintro _ _ ⟨cz,cA⟩;have ar:=cA.one;refine dQ z z z<|dQ z z z<|pD ?_
     have ba:=mnr<|a_.lt b6
     have bb:=mnr<|a_.lt b7
     exact fun _ q=>⟨a7.number,a7.bytes,a7.items,co,cp,som c9,b0,b1,b2,ct,b3,b4,b5,cu,aY.z,q.k<|sc z<|sc z<|sc z<|sc z<|sc z<|sc z<|sc z<|sc z<|sc z<|sc z<|sc z sn,bM (bup (bup (bup s7 sf) aZ) ao) ar aq,cv,(b6.e ao).c ar<|ds ba,nl_ an,s_ (al_ b8) ap,(b7.e ao).c ar<|ds bb,nr_ an,s_ (ar_ b8) ap,ds<|nj an,cw,cx,cz,atp aq,ds ba,ds bb⟩
    refine dE z z (fa a_s) (.inr fun _ _ h=>F_<|h.2.below) ?_;rintro _ cB ⟨rfl,bc⟩;have a9:=bc.below;have au:Blk cB aV.z [vI 0,sl none 0 0,sl none 0 0]:=bc.blk;have be:=(ht.e sf).e a9;obtain ⟨aa,cC,cD,cE,cb⟩:=V_ aJ;refine dE z z (fc call67 z<|ai.run cE (zt' hBw<|lt_ (lt_ am sf.s) a9.s) (p1_0.g be) aW (p5_0.g be) hh) (.inr fun _ _ h=>F_<|h.1) ?_;rintro _ _ ⟨bf,bg,bh,bi,cF,bj,bk,bm,cG,rfl,cH,cI,cJ,cK,cL,av,ab⟩;refine dM z z z ?_
    iterate 3 refine dR z z (ext_ z z) ?_
    have bn:=lt_ s7.s sf.s;have aw:=m1 bn;refine dE0 z (fs (cur':=[vI aa.number,sl bg bh bi,sl bj bk bm]) k_ z z (au.e bf) z (lb z) (oA z) z) (.inr fun _ _ h=>c_P (atp aw) h.2) ?_;rintro _ _ ⟨cN,cO⟩;have ax:=cO.one;refine dQ z z z<|dQ z z z<|pD ?_
    have bo:=r_ (al_ ab) au.lt lr;have bp:=lt_ bn a9.s;have bq:=r_ (ar_ ab) au.lt lr;exact fun _ q=>⟨aa.number,aa.bytes,aa.items,cC,cD,som cb,bg,bh,bi,cF,bj,bk,bm,cG,aV.z,q.k<|sc z<|sc z<|sc z<|sc z<|sc z<|sc z<|sc z<|sc z<|sc z<|sc z<|sc z sn,bM (bup (bup (bup s7 sf) a9) bf) ax aw,cH,cI.c ax bo,nl_ av,s_ (al_ ab) bp,cJ.c ax bq,nr_ av,s_ (ar_ ab) bp,ds<|nj av,cK,cL,cN,atp aw,bo,bq⟩
   refine dE z z (fa a_s) (.inr fun _ _ h=>F_<|h.2.below) ?_;rintro _ cP ⟨rfl,bs⟩;have ad:=bs.below;have az:Blk cP aP.z [vI 0,sl none 0 0,sl none 0 0]:=bs.blk;have bt:=lt_ (lt_ hd.s hb.s) h5.s;have bu:∀k∈[G.z],¬B k:=or0 (d_ lr)<|n_<|zt' hBw bt;have a1:=(((((((hd.ag B).e hb).e h5).e h3).c H<|f_ bu).c s4<|f_ bu).e s7).e ad;have bv:=lt_ (lt_ (lt_ (lt_ (lt_ bt h3.s) H.s) s4.s) s7.s) ad.s;obtain ⟨_,cQ,cc⟩:=bdS aI;refine dE z z (fc call109 z<|k_z cQ (zt' hBw bv) p2_0 p2_1 p2_2 (p2_4.g a1) (p2_5.g a1) (p2_6.g a1) (p2_7.g a1) p3_0<|ic (Nat.le_of_lt a2)<|tl_ p4_0) (.inr fun _ _ h=>F_<|h.1) ?_;rintro _ _ ⟨sm,rfl,cR⟩;have bw:=a1.e sm;obtain ⟨ae,cS,cT,cU,cd⟩:=V_ cc;refine dE z z (fc call67 z<|ai.run cU (zt' hBw<|lt_ bv sm.s) (p1_0.g bw) cR (p5_0.g bw) hh) (.inr fun _ _ h=>F_<|h.1) ?_;rintro _ _ ⟨bx,bz,bA,bB,cV,bC,bD,bE,cW,rfl,cX,cY,cZ,d0,d1,aA,af⟩;refine dM z z z ?_
   iterate 3 refine dR z z (ext_ z z) ?_
   have aB:=m1 s7.s;refine dE0 z (fs (cur':=[vI ae.number,sl bz bA bB,sl bC bD bE]) k_ z z ((az.e sm).e bx) z (lb z) (oA z) z) (.inr fun _ _ h=>c_P (atp aB) h.2) ?_;rintro _ _ ⟨d2,d3⟩;have aC:=d3.one;refine dQ z z z<|dQ z z z<|pD ?_
   have bF:=r_ (al_ af) az.lt sm.s;have bG:=lt_ (lt_ s7.s ad.s) sm.s;have bH:=r_ (ar_ af) az.lt sm.s;exact fun _ q=>⟨ae.number,ae.bytes,ae.items,cS,cT,som cd,bz,bA,bB,cV,bC,bD,bE,cW,aP.z,q.k<|sc z<|sc z<|sc z<|sc z<|sc z<|sc z<|sc z<|sc z<|sc z<|sc z<|sc z sn,bM (bup (bup (bup s7 ad) sm) bx) aC aB,cX,cY.c aC bF,nl_ aA,s_ (al_ af) bG,cZ.c aC bH,nr_ aA,s_ (ar_ af) bG,ds<|nj aA,d0,d1,d2,atp aB,bF,bH⟩
  rintro d4 bI ⟨xj,a4,a5,xs,a6,rfl,ay,nz,V,Sk,W,Y,a0,Sl,gq,_,so,d5,d6,d7,aD,d8,d9,aE,da,bJ,db,dc,_,_,_⟩;have aK:=un5S c8;revert d4;refine Wo<|Wq<|Wm z<|R z (nq z z)<|Wx z (fun ah=>?_) (fun ah=>?_)
  ·refine Ws<|R z (bP (parts:=[]) (cs:=[vI 0,sl none 0 0,sl none 0 0]) a_7 z z)<|RM z z ?_
   have bK:=mmr hu.lt;refine E0 (fs (cur':=[vI 0,sl none 0 0,sl none 0 0]) k_ z z ((((hu.e h3).c H<|djs bK).c s4<|djs bK).e so) z (lb z) (oA z) z) ?_;rintro _ _ ⟨dd,de⟩;refine Ra z<|Rw z ?_
   have bL:=lt_ hd.s hb.s;have bN:=m1<|lt_ bL h5.s
   exact Wr<|rtO<|qL (som<|ifT aK ah).symm<|y_ hr (p_ D_ k_ z dd z) z z ⟨bM (bup (bM (bM (bup (bup (bup hd hb) h5) h3) H bN) s4 bN) so) de.one<|m1 bL,none,0,0,[],none,0,0,[],z,ii z,onL,onL,bJ,db,nd0,al0⟩
  refine Wk<|Ws<|Rf z e_T z ?_
  have bO:=hx.e so;refine R z (l0 g_o z<|bO.at z)<|R z (lN (vs:=[vI xj,sl ay nz V,sl W Y a0]) D_ k_ z z fid<|dc.row 0 3 z)<|E z (fS [(.tmp 45)] k_n z z z (a_z z) (lb z)<|lb z) ?_
  rintro _ bQ ⟨rfl,bR⟩;have hn:=bR.below;obtain ⟨df,dg,ce⟩:=bdS<|ifF aK ah;refine E z (b_d (α:=Val) k_n dg z z ((hi.e so).e hn) hw (bR.blk:Blk bQ bI.z [vI xj,sl ay nz V,sl W Y a0]) (q_p (x:=(⟨xj,a4,a5⟩:Val)) (S1:=Sk) (S2:=Sl) d5 (d6.e hn)<|d8.e hn) (aa_ (b_C aD (a_.lt hi) lr)<|b_C aE (a_.lt hi) lr)<|na_ d7 d9<|ds da) ?_;rintro _ dh ⟨aF,bS,bT,bU,rfl,bV,di,dj,bW⟩;refine Rf z e_T z ?_;have bX:=r_ he hv.lt H.s;refine E0 (fs (cur':=[vI 0,sl none 0 0,sl bS bT bU]) z_46 z z ((bO.e hn).c bV<|djs bX) z (lb z) (oA z) z) ?_;rintro _ dk ⟨dl,dm⟩;have bY:=dm.one;refine Wn<|Wg<|Rm z<|Rw z<|Wg<|Rm z<|R z (inc_ a2 (tl_ p4_0) z z)<|Ra z<|Wl ?_
  have aG:=lt_ H.s s4.s;exact fun _ q=>⟨(xs,df),(som ce).symm,⟨bS,bT,bU,aF,q.k<|s9 z z z z z z z z z,(cM (cM (i_ (i_ (cM (cr [G.z] I) s4 (io sr):Chg (· ∈ [G.z]) I wg) so:Chg (· ∈ [G.z]) I bI) hn:Chg (· ∈ [G.z]) I bQ) bV (or0 he (l_ lr):∀k∈J,k∈[G.z]∨I.z<=k):Chg (· ∈ [G.z]) I dh) bY (io sr):Chg (· ∈ [G.z]) I dk),bJ,di.c bY (or2 bW bX (aa_ (r_ aD hv.lt aG)<|r_ aE hv.lt aG) (a_O (d_ hv.lt)<|lt_ (lt_ aG so.s) hn.s):∀k∈aF,k∉[G.z]),dj,(or2 bW he (aa_ (s_ aD s4.s)<|s_ aE s4.s) (a_S<|lt_ (lt_ s4.s so.s) hn.s):∀k∈aF,I.z<=k),dl⟩⟩
 ·rintro ⟨xc,xp⟩ _ dn ⟨L,O,ca,J,cf,dp,hh,hi,hw,he,hx⟩;refine Wu ?_ cf;refine Wq<|Wm z<|Rm z<|Rl z z z<|Wx z (fun hc=>(j_A hc).elim) (fun _=>?_)
  exact We<|fun a' ha'=>⟨rfl,⟨L,O,ca,J,Sat.weaken ha'<|s3 z z z,(cM (cr [G.z] I) dp (io sr):Chg (· ∈ [G.z]) I dn),hh,hi,hw,he,hx⟩⟩
 ·rintro ⟨xc,xp⟩ dq _ rfl ⟨L,O,ca,J,_,bZ,hh,hi,hw,he,hx⟩;have cg:=elL aH;revert dq;refine Wo<|Ws<|R z (lN (vs:=[vI 0,sl none 0 0,sl L O ca]) D_ k_ z z fid<|hx.row 0 3 z)<|Rm z ?_
  have c0:=mmr hu.lt;refine E0 (fs (cur':=[vI 0,sl none 0 0,sl L O ca]) k_ z z (((hu.e h3).c H<|djs c0).c bZ<|djs c0) z (lb z) (oA z) z) ?_;rintro _ _ ⟨dr,dt⟩;have c1:=dt.one;refine Ra z<|Rw z ?_
  obtain rfl:=som<|a_5 cg;have c2:=lt_ hd.s hb.s;have c3:=lt_ c2 h5.s;have c4:=m1 c3;exact Wr<|y_ hr (p_ D_ k_ z dr z) z z ⟨bM (bM (bM (bup (bup (bup hd hb) h5) h3) H c4) bZ c4) c1<|m1 c2,none,0,0,[],L,O,ca,J,z,ii z,onL,hi.c c1<|r_ he hu.lt<|lt_ h3.s H.s,hh,ii z,na_ H_ hw an_,aa_ an_<|s_ he<|lt_ (lt_ c3 h3.s) H.s⟩
 rintro _ _ _ _ rfl ⟨rfl,ch⟩;have ci:=elR aH;obtain rfl:=som ci;exact ⟨ch,z⟩
theorem T_w18 (ih:g_s n):m_q (i_0 n<|a_t n):=by
 obtain ⟨_,an,_,_,_⟩:=ih
 constructor
 intro A0 A4 A5 A2 A6 A7 N0 C0 N4 C4 N5 C5 N2 C2 N6 C6 N7 C7 B x1 x2 x3 x4 res w0 hm hBw p1_0 p2_0 p2_1 p2_2 p2_4 p2_5 p2_6 p2_7 p3_0 p4_0;unfold i_0 at hm
 refine goF func130 z z (lb z) fun fn hr=>Ws<|E z (fb z) ?_
 rintro _ wy ⟨rfl,hz⟩;have hf:=hz.below;refine E z (fb z) ?_;rintro _ wq ⟨rfl,Y⟩;have h5:=Y.below;refine E z (fa a_s) ?_;rintro _ ao ⟨rfl,a0⟩;have h3:=a0.below;have h6:Blk ao wq.z [vI 0,sl none 0 0,sl none 0 0]:=a0.blk;refine Ra z<|Rw z<|Wq (Wd (X:=noX) 0 (pl_ 15 [7]) mo (by kernel_rfl) fun aV G _=>?_)
 have a1:=(((hz.blk:Blk wy w0.z [sl A0 N0 C0]).e h5).e h3).e G;refine dR z z (lN (vs:=[sl A0 N0 C0]) J_ E_ z z fid<|a1.row 0 1 z)<|dR z z (fd a_2 z) ?_
 have a2:=((Y.blk:Blk wq wy.z (vR x2 A4 N4 C4 A5 N5 C5 A2 N2 C2 A6 N6 C6)).e h3).e G;refine dR z z (l0 I_ z<|a2.at z) ?_;obtain ⟨_,ap,ak⟩:=bdS hm;have hh:=(((hf.ag B).e h5).e h3).e G;refine dRX z z (at_ (α:=Int) z_ z_3 z z z (p2_7.g hh) ap) ?_;rintro _ ⟨_,_,_,rfl,aq,ar,_⟩;obtain ⟨rfl,au⟩:=W_ ar;refine dR z z (l0 g_3 z<|aq.at0 z)<|dM z z z<|dM z z z ?_
 have hi:=lt_ hf.s h5.s;have a3:=lt_ (lt_ hi h3.s) G.s;obtain ⟨a4,_,_,av,O⟩:=V_ ak;refine dE z z (fc call125 z<|k_y av (zt' hBw a3) (p1_0.g hh) au (p3_0.g hh) p4_0) (.inr fun _ _ h=>F_<|h.1) ?_;rintro _ _ ⟨s1,rfl,ht,aw⟩;refine dM z z z ?_
 iterate 3 refine dR z z (ext_ z z) ?_
 iterate 3 refine dQ z z z ?_
 refine pD<|Wo<|Wq<|Wm z<|R z (not_ z)<|Wx z (fun hcr=>?_) (fun hcr=>?_)
 ·refine Ws<|R z (bP (parts:=[]) (cs:=[vI 0,sl none 0 0,sl none 0 0]) a_7 z z)<|Rm z<|E0 (fs (cur':=[vI 0,sl none 0 0,sl none 0 0]) k_ z z ((h6.e G).e s1) z (lb z) (oA z) z) ?_
  rintro _ _ ⟨ax,ay⟩;refine Ra z<|Rw z ?_
  obtain rfl:=som<|ifT O hcr;exact Wr<|y_ hr (p_ D_ k_ z ax z) z z ⟨bM (bup (bup (bup (bup hf h5) h3) G) s1) ay.one<|m1 hi,none,0,0,[],none,0,0,[],z,ii z,onL,onL,p4_0,ii z,nd0,al0⟩
 refine Wk<|Wq<|Ws ?_
 have a5:=a2.e s1;refine R z (lN (vs:=vR x2 A4 N4 C4 A5 N5 C5 A2 N2 C2 A6 N6 C6) R_ u_ z z fid<|a5.row 0 8 z)<|Rm z ?_
 have hg:=hh.e s1;have a6:=lt_ a3 s1.s;obtain ⟨_,az,V⟩:=bdS<|ifF O hcr;refine E z (fc call109 z<|k_z az (zt' hBw a6) p2_0 p2_1 p2_2 (p2_4.g hg) (p2_5.g hg) (p2_6.g hg) (p2_7.g hg) ht<|ii z) ?_;rintro _ _ ⟨s2,rfl,_⟩;refine Rl z z z<|Wx z (fun hcs=>?_) (fun hcs=>?_)
 ·refine Ws<|R z (bP (parts:=[]) (cs:=[vI 0,sl none 0 0,sl none 0 0]) a_7 z z)<|Rm z<|E0 (fs (cur':=[vI 0,sl none 0 0,sl none 0 0]) k_ z z (((h6.e G).e s1).e s2) z (lb z) (oA z) z) ?_
  rintro _ _ ⟨aA,aB⟩;refine Ra z<|Rw z ?_
  obtain rfl:=som<|ifT V hcs;exact Wr<|y_ hr (p_ D_ k_ z aA z) z z ⟨bM (bup (bup (bup (bup (bup hf h5) h3) G) s1) s2) aB.one<|m1 hi,none,0,0,[],none,0,0,[],z,ii z,onL,onL,p4_0,ii z,nd0,al0⟩
 refine Wk<|Ws<|R z (lN (vs:=[sl A0 N0 C0]) J_ E_ z z fid<|((a1.e s1).e s2).row 0 1 z)<|R z (lN (vs:=vR x2 A4 N4 C4 A5 N5 C5 A2 N2 C2 A6 N6 C6) R_ u_ z z fid<|(a5.e s2).row 0 8 z)<|RM z z<|Rm z ?_
 have I:=hg.e s2;have hj:=lt_ a6 s2.s;obtain ⟨a7,aC,aD,aE,al⟩:=V_<|ifF V hcs;refine E z (fc call129 z<|an.run aE (zt' hBw hj) (p1_0.g I) p2_0 p2_1 p2_2 (p2_4.g I) (p2_5.g I) (p2_6.g I) (p2_7.g I) ht (ii z) (p3_0.g I) aw) ?_;rintro _ H ⟨sk,J,L,ca,aF,ab,nc,cd,aG,rfl,aH,a9,aa,aI,aJ,hu,hl⟩;refine Rm z ?_
 iterate 3 refine Re z z z ?_
 refine E z (fa a_s) ?_;rintro _ aK ⟨rfl,ad⟩;have hn:=ad.below;refine E0 (fs (cur':=[vI a7.number,sl J L ca,sl ab nc cd]) k_ z z (ad.blk:Blk aK H.z [vI 0,sl none 0 0,sl none 0 0]) z (lb z) (oA z) z) ?_;rintro _ wm ⟨ae,aL⟩;have ho:=aL.one;refine Ra z<|Rw z<|Wq<|Wm z<|Rq z z z<|Wn ?_
 obtain ⟨aM,W,am⟩:=bdS al;refine Wt (fun a w=>∃(xe:Int),xe=aM/\Sat 56 [(8,pt wq.z),(14,pt H.z),(15,vI aC),(16,vI aD)] a/\Chg (· ∈ [H.z]) wm w/\inI xe/\Blk w H.z [vI xe,sl J L ca,sl ab nc cd]) ?_ ?_
 ·refine Wc z (fun hcv=>?_)<|fun hcv=>?_
  ·refine Wg<|Rm z<|Rf z m_f z<|E0 (fs (cur':=[vI a4,sl J L ca,sl ab nc cd]) z_3 z z ae z (lb z) (oA z) z) ?_
   rintro _ aN ⟨aO,aP⟩;refine Wl ?_;exact fun _ q=>⟨a4,som<|ifT W hcv,q.k<|s4 z z z z,(cM (cr [H.z] wm) aP.one (io sr):Chg (· ∈ [H.z]) wm aN),ht,aO⟩
  exact a_e<|fun _ q=>⟨a7.number,som<|ifF W hcv,q.k<|s4 z z z z,cr [H.z] wm,aH,ae⟩
 rintro aQ _ ⟨xe,rfl,_,sp,aR,aS⟩;revert aQ;refine Wo<|Ws<|R z (lN (vs:=[vI xe,sl J L ca,sl ab nc cd]) D_ k_ z z fid<|aS.row 0 3 z)<|RM z z ?_
 have hw:=lt_ (lt_ G.s s1.s) s2.s;have af:=mm1 h6.lt<|lt_ hw sk.s
 refine E0 (fs (cur':=[vI xe,sl J L ca,sl ab nc cd]) k_ z z (((((((h6.e G).e s1).e s2).e sk).e hn).c ho<|djs af).c sp<|djs af) z (lb z) (oA z) z) ?_;rintro _ _ ⟨aT,aU⟩;have hx:=aU.one;refine Ra z<|Rw z ?_
 obtain rfl:=som am;have ah:=mnr<|a_.lt a9
 have ai:=mnr<|a_.lt aa
 have aj:=m1<|lt_ hj sk.s
 exact Wr<|y_ hr (p_ D_ k_ z aT z) z z ⟨bM (bM (bM (bup (bup (bup (bup (bup (bup (bup hf h5) h3) G) s1) s2) sk) hn) ho aj) sp aj) hx<|m1 hi,J,L,ca,aF,ab,nc,cd,aG,z,aR,(((a9.e hn).c ho<|ds ah).c sp<|ds ah).c hx<|r_ (al_ hl) h6.lt hw,(((aa.e hn).c ho<|ds ai).c sp<|ds ai).c hx<|r_ (ar_ hl) h6.lt hw,aI,aJ,na_ (nl_ hu) (nr_ hu)<|nj hu,aa_ (s_ (al_ hl) hj)<|s_ (ar_ hl) hj⟩
theorem T_w19 (ih:g_s n):m_r (i_1 n<|a_t n):=by
 obtain ⟨_,V,_,_,_⟩:=ih
 constructor
 intro A0 A4 A5 A2 A6 A7 N0 C0 N4 C4 N5 C5 N2 C2 N6 C6 N7 C7 B x1 x2 x3 x4 res w0 hm hBw p1_0 p2_0 p2_1 p2_2 p2_4 p2_5 p2_6 p2_7 p3_0 p4_0;unfold i_1 at hm
 refine goF func131 z z (lb z) fun fn hr=>Ws<|E z (fb z) ?_
 rintro _ wc ⟨rfl,hd⟩;have h2:=hd.below;refine E z (fb z) ?_;rintro _ we ⟨rfl,hf⟩;have G:=hf.below;refine E z (fa a_s) ?_;rintro _ ws ⟨rfl,hg⟩;have h3:=hg.below;have h5:Blk ws we.z [vI 0,sl none 0 0,sl none 0 0]:=hg.blk;refine Ra z<|Rw z<|Wq<|Wb<|Wm z<|Rm z ?_
 have hh:=((h2.ag B).e G).e h3;have hi:=p3_0.g hh;refine R z (lnR j_ z hi)<|R z (b_l z z)<|Rw z<|Wc z (fun H=>?_) (fun H=>?_)
 ·refine Ws<|R z (bP (parts:=[]) (cs:=[vI 0,sl none 0 0,sl none 0 0]) a_7 z z)<|Rm z<|E0 (fs (cur':=[vI 0,sl none 0 0,sl none 0 0]) k_ z z h5 z (lb z) (oA z) z) ?_
  rintro _ _ ⟨hw,sx⟩;refine Ra z<|Rw z ?_
  obtain rfl:=som<|ifT hm H;exact Wr<|rtO<|y_ hr (p_ D_ k_ z hw z) z z ⟨bM (bup (bup h2 G) h3) sx.one<|m1<|lt_ h2.s G.s,none,0,0,[],none,0,0,[],z,ii z,onL,onL,p4_0,ii z,nd0,al0⟩
 refine Wm z<|Rm z ?_
 obtain ⟨_,ey,hmj⟩:=bdS<|ifF hm H;refine RX z (at_ (α:=UInt8) j_ z_5 z z z hi ey) ?_;rintro _ ⟨_,_,_,rfl,hz,W,_⟩;obtain rfl:=u8 W;refine R z (l0 g_5 z<|hz.at0 z)<|R z (Z_ z z)<|Rw z<|Wc z (fun I=>?_) (fun I=>?_)
 ·refine Ws<|R z (bP (parts:=[]) (cs:=[vI 0,sl none 0 0,sl none 0 0]) a_7 z z)<|Rm z<|E0 (fs (cur':=[vI 0,sl none 0 0,sl none 0 0]) k_ z z h5 z (lb z) (oA z) z) ?_
  rintro _ _ ⟨Y,a0⟩;refine Ra z<|Rw z ?_
  obtain rfl:=som<|ifT hmj I;exact Wr<|rtO<|y_ hr (p_ D_ k_ z Y z) z z ⟨bM (bup (bup h2 G) h3) a0.one<|m1<|lt_ h2.s G.s,none,0,0,[],none,0,0,[],z,ii z,onL,onL,p4_0,ii z,nd0,al0⟩
 refine Wk<|Wq (Wd (X:=noX) 16384 (pl_ 17 [10,14]) mo (by kernel_rfl) fun ah s1 _=>dR z z (lN (vs:=[sl A0 N0 C0]) J_ E_ z z fid<|((((hd.blk:Blk wc w0.z [sl A0 N0 C0]).e G).e h3).e s1).row 0 1 z)<|dR z z (lN (vs:=vR x2 A4 N4 C4 A5 N5 C5 A2 N2 C2 A6 N6 C6) R_ u_ z z fid<|(((hf.blk:Blk we wc.z (vR x2 A4 N4 C4 A5 N5 C5 A2 N2 C2 A6 N6 C6)).e h3).e s1).row 0 8 z)<|dM z z z<|dM z z z ?_)
 obtain ⟨_,a1,L⟩:=bdS<|ifF hmj I;have h4:=hh.e s1;have hk:=p3_0.g h4;refine dRX z z (at_ (α:=UInt8) j_ z_5 z z z hk a1) ?_;rintro _ ⟨_,_,_,rfl,a2,a3,_⟩;obtain rfl:=u8 a3;refine dR z z (l0 g_5 z<|a2.at0 z)<|dR z z (b_i d_5 d_3 z)<|dM z z z<|dM z z z<|dR z z (add_ z z) ?_
 have hl:=lt_ h2.s G.s;have J:=lt_ (lt_ hl h3.s) s1.s;obtain ⟨a4,_,_,a5,O⟩:=V_ L;refine dE z z (fc call129 z<|V.run a5 (zt' hBw J) (p1_0.g h4) p2_0 p2_1 p2_2 (p2_4.g h4) (p2_5.g h4) (p2_6.g h4) (p2_7.g h4) (ii z) (c_M _) hk<|iA _ _) (.inr fun _ _ h=>F_<|h.1) ?_;rintro _ _ ⟨sm,an,no,cp,a6,aq,nr,ct,a7,rfl,a8,a9,aa,ab,ad,ha,h6⟩
 iterate 3 refine dR z z (ext_ z z) ?_
 refine dE0 z (fs (cur':=[vI a4.number,sl an no cp,sl aq nr ct]) k_ z z ((h5.e s1).e sm) z (lb z) (oA z) z) (.inl z) ?_;rintro _ _ ⟨ae,af⟩;have hb:=af.one;refine dQ z z z<|dQ z z z<|pD<|Wo ?_
 obtain rfl:=som O;exact Wr<|y_ hr (p_ D_ k_ z ae z) z z ⟨bM (bup (bup (bup (bup h2 G) h3) s1) sm) hb<|m1 hl,an,no,cp,a6,aq,nr,ct,a7,z,a8,a9.c hb<|r_ (al_ h6) h5.lt s1.s,aa.c hb<|r_ (ar_ h6) h5.lt s1.s,ab,ad,na_ (nl_ ha) (nr_ ha)<|nj ha,aa_ (s_ (al_ h6) J)<|s_ (ar_ h6) J⟩
theorem T_w1a (ih:g_s n):m_s (i_2 n<|a_t n):=by
 obtain ⟨_,a7,_,_,_⟩:=ih
 constructor
 intro A0 A4 A5 A2 A6 A7 N0 C0 N4 C4 N5 C5 N2 C2 N6 C6 N7 C7 B x1 x2 x3 x4 res w0 hm hBw p1_0 p2_0 p2_1 p2_2 p2_4 p2_5 p2_6 p2_7 p3_0 p4_0;unfold i_2 at hm
 refine goF func132 z z (lb z) fun fn hr=>Ws<|E z (fb z) ?_
 rintro _ wu ⟨rfl,hv⟩;have hh:=hv.below;refine E z (fb z) ?_;rintro _ ww ⟨rfl,hx⟩;have H:=hx.below;refine E z (fa a_s) ?_;rintro _ a8 ⟨rfl,hy⟩;have h5:=hy.below;have h3:Blk a8 ww.z [vI 0,sl none 0 0,sl none 0 0]:=hy.blk;refine Ra z<|Rw z<|Ws<|R z (lN (vs:=[sl A0 N0 C0]) J_ E_ z z fid<|(((hv.blk:Blk wu w0.z [sl A0 N0 C0]).e H).e h5).row 0 1 z)<|R z (lN (vs:=vR x2 A4 N4 C4 A5 N5 C5 A2 N2 C2 A6 N6 C6) R_ u_ z z fid<|((hx.blk:Blk ww wu.z (vR x2 A4 N4 C4 A5 N5 C5 A2 N2 C2 A6 N6 C6)).e h5).row 0 8 z)<|RM z z ?_
 have I:=((hh.ag B).e H).e h5;have hj:=lt_ hh.s H.s;have J:=lt_ hj h5.s;obtain ⟨rk,_,_,a9,hmz⟩:=V_ hm;refine E z (fc call129 z<|a7.run a9 (zt' hBw J) (p1_0.g I) p2_0 p2_1 p2_2 (p2_4.g I) (p2_5.g I) (p2_6.g I) (p2_7.g I) (ii z) (ii z) (p3_0.g I) p4_0) ?_;rintro _ V ⟨G,aa,nb,cc,W,ad,ne,cf,Y,rfl,a0,hn,ho,hp,ab,hi,h6⟩;refine Rm z ?_
 iterate 3 refine Re z z z ?_
 refine E z (fa a_s) ?_;rintro _ ae ⟨rfl,a1⟩;have h1:=a1.below;refine E0 (fs (cur':=[vI rk.number,sl aa nb cc,sl ad ne cf]) k_ z z (a1.blk:Blk ae V.z [vI 0,sl none 0 0,sl none 0 0]) z (lb z) (oA z) z) ?_;rintro _ _ ⟨a2,af⟩;have h2:=af.one;refine Ra z<|Rw z<|Wq<|Wb<|Wm z<|R z (nq z z)<|Rw z<|Wc z (fun hcm=>?_) (fun hcm=>?_)
 ·refine Ws<|R z (lN (vs:=[vI rk.number,sl aa nb cc,sl ad ne cf]) D_ k_ z z fid<|a2.row 0 3 z)<|RM z z<|E0 (fs (cur':=[vI rk.number,sl aa nb cc,sl ad ne cf]) k_ z z (((h3.e G).e h1).c h2<|djs<|mm1 h3.lt G.s) z (lb z) (oA z) z) ?_
  rintro _ _ ⟨ah,ai⟩;have hq:=ai.one;refine Ra z<|Rw z ?_
  obtain rfl:=som<|ifT hmz hcm;exact Wr<|rtO<|y_ hr (p_ D_ k_ z ah z) z z ⟨bM (bM (bup (bup (bup (bup hh H) h5) G) h1) h2<|m1<|lt_ J G.s) hq<|m1 hj,aa,nb,cc,W,ad,ne,cf,Y,z,a0,((hn.e h1).c h2<|ds<|mnr<|a_.lt hn).c hq<|r_ (al_ h6) h3.lt lr,((ho.e h1).c h2<|ds<|mnr<|a_.lt ho).c hq<|r_ (ar_ h6) h3.lt lr,hp,ab,na_ (nl_ hi) (nr_ hi)<|nj hi,aa_ (s_ (al_ h6) J)<|s_ (ar_ h6) J⟩
 have L:=ifF hmz hcm;refine Wm z<|Rm z ?_
 have hl:=lt_ J G.s;have a3:=((I.e G).e h1).c h2<|f_ (or0 (d_ lr) (n_<|zt' hBw hl):∀k∈[V.z],¬B k)
 refine R z (lnR j_ z<|p3_0.g a3)<|R z (b_l z z)<|Rw z<|Wc z (fun hcr=>?_) (fun hcr=>?_)
 ·refine Ws<|R z (bP (parts:=[]) (cs:=[vI 0,sl none 0 0,sl none 0 0]) a_7 z z)<|Rm z<|E0 (fs (cur':=[vI 0,sl none 0 0,sl none 0 0]) k_ z z (((h3.e G).e h1).c h2<|djs<|mm1 h3.lt G.s) z (lb z) (oA z) z) ?_
  rintro _ _ ⟨aj,ak⟩;refine Ra z<|Rw z ?_
  obtain rfl:=som<|ifT L hcr;exact Wr<|rtO<|y_ hr (p_ D_ k_ z aj z) z z ⟨bM (bM (bup (bup (bup (bup hh H) h5) G) h1) h2<|m1 hl) ak.one<|m1 hj,none,0,0,[],none,0,0,[],z,ii z,onL,onL,hp,ii z,nd0,al0⟩
 refine Wq (Wd (X:=noX) 0 (pl_ 12 [9]) mo (by kernel_rfl) fun ax s4 _=>dM z z z<|dM z z z ?_);obtain ⟨_,al,a5⟩:=bdS<|ifF L hcr;have a4:=p3_0.g<|a3.e s4
 refine dRX z z (at_ (α:=UInt8) j_ z_5 z z z a4 al) ?_;rintro _ ⟨_,_,_,rfl,am,an,_⟩;obtain rfl:=u8 an;refine dR z z (l0 g_5 z<|am.at0 z)<|dR z z (b_i d_5 d_3 z) ?_
 iterate 3 refine dM z z z ?_
 obtain ⟨_,ao,a6⟩:=bdS a5;refine dRX z z (rX j_ z_5 z z a4 z z ao) ?_;rintro _ ⟨_,_,_,rfl,ap⟩;obtain ⟨_,aq,O⟩:=bdS a6;refine dE z z (fc call111 z<|W_w12 aq (zt' hBw<|lt_ (lt_ (lt_ hl h1.s) h2.s) s4.s) ap) (.inr fun _ _ h=>F_<|h.1) ?_;rintro _ _ ⟨sg,rfl,_⟩;refine dR z z (nq z z)<|dQ z z z<|pD<|Wo<|Wc z (fun hcs=>?_) (fun hcs=>?_)
 ·refine Ws<|R z (bP (parts:=[]) (cs:=[vI 0,sl none 0 0,sl none 0 0]) a_7 z z)<|Rm z<|E0 (fs (cur':=[vI 0,sl none 0 0,sl none 0 0]) k_ z z (((((h3.e G).e h1).c h2<|djs<|mm1 h3.lt G.s).e s4).e sg) z (lb z) (oA z) z) ?_
  rintro _ _ ⟨ar,au⟩;refine Ra z<|Rw z ?_
  obtain rfl:=som<|ifT O hcs;exact Wr<|rtO<|y_ hr (p_ D_ k_ z ar z) z z ⟨bM (bup (bup (bM (bup (bup (bup (bup hh H) h5) G) h1) h2<|m1 hl) s4) sg) au.one<|m1 hj,none,0,0,[],none,0,0,[],z,ii z,onL,onL,hp,ii z,nd0,al0⟩
 refine Wk<|Ws<|R z (lN (vs:=[vI rk.number,sl aa nb cc,sl ad ne cf]) D_ k_ z z fid<|((a2.e s4).e sg).row 0 3 z)<|Rm z<|R z (add_ z z)<|E0 (fs (cur':=[vI rk.number,sl aa nb cc,sl ad ne cf]) k_ z z (((((h3.e G).e h1).c h2<|djs<|mm1 h3.lt G.s).e s4).e sg) z (lb z) (oA z) z) ?_
 rintro _ _ ⟨av,aw⟩;have ht:=aw.one;refine Ra z<|Rw z ?_
 obtain rfl:=som<|ifF O hcs;exact Wr<|y_ hr (p_ D_ k_ z av z) z z ⟨bM (bup (bup (bM (bup (bup (bup (bup hh H) h5) G) h1) h2<|m1 hl) s4) sg) ht<|m1 hj,aa,nb,cc,W,ad,ne,cf,Y,z,a0,((((hn.e h1).c h2<|ds<|mnr<|a_.lt hn).e s4).e sg).c ht<|r_ (al_ h6) h3.lt lr,((((ho.e h1).c h2<|ds<|mnr<|a_.lt ho).e s4).e sg).c ht<|r_ (ar_ h6) h3.lt lr,iA _ _,ii z,na_ (nl_ hi) (nr_ hi)<|nj hi,aa_ (s_ (al_ h6) J)<|s_ (ar_ h6) J⟩
theorem d_W:∀n,g_s n
  | 0=>⟨⟨fun hm=>by intros;exact nomatch (show none=some _ from hm)⟩,⟨fun hm=>by intros;exact nomatch (show none=some _ from hm)⟩,⟨fun hm=>by intros;exact nomatch (show none=some _ from hm)⟩,⟨fun hm=>by intros;exact nomatch (show none=some _ from hm)⟩,⟨fun hm=>by intros;exact nomatch (show none=some _ from hm)⟩⟩
  | n+1=>⟨T_w02<|d_W n,T_w17<|d_W n,T_w18<|d_W n,T_w19<|d_W n,T_w1a<|d_W n⟩
theorem W_w02:m_o (a_t n).spec_l11Read:=(d_W n).1
theorem W_w17:m_p (a_t n).spec_l11Items:=(d_W n).2.1
theorem W_w18:m_q (a_t n).spec_l11Choice:=(d_W n).2.2.1
theorem W_w19:m_r (a_t n).spec_l11Option:=(d_W n).2.2.2.1
theorem W_w1a:m_s (a_t n).spec_l11Checked:=(d_W n).2.2.2.2
theorem m_t {x1:e_}{x2:Int}{x3:List UInt8}{x4:Int}{res:Val×Int×Int}(hm:i_5 n x1 x2 x3 x4=some res)(hBw:B<=w0.z)(p1_0:repS w0 B (sl A0 N0 C0) x1.rules)(p2_0:inI x2)(p3_0:repS w0 B (sl A7 N7 C7) x3)(p4_0:inI x4):h_ prog 98 [(.agg #[sl A0 N0 C0]),vI x2,sl A7 N7 C7,vI x4] w0 (Q17 w0 B res):=by
 unfold i_5 at hm
 refine goF func98 z z (lb z) fun fn hr=>Ws<|E z (fb z) ?_
 rintro _ I ⟨rfl,hg⟩;have h3:=hg.below;have hh:Blk I w0.z [sl A0 N0 C0]:=hg.blk;refine E z (fa a_s) ?_;rintro _ J ⟨rfl,hi⟩;have h4:=hi.below;have h6:Blk J I.z [vI 0,sl none 0 0,sl none 0 0]:=hi.blk;refine Ra z<|Rw z<|Wq<|Wq ?_
 obtain ⟨uy,huz,hmj⟩:=bdS hm;refine Wt (fun a w=>∃(xa:Bool),xa=uy/\Sat 36 [(1,vI x2),(2,sl A7 N7 C7),(3,vI x4),(4,pt w0.z),(8,pt I.z),(26,vB xa)] a/\Below J.z J w) ?_ ?_
 ·refine Wg<|R z (lN (vs:=[sl A0 N0 C0]) J_ E_ z z fid<|(hh.e h4).row 0 1 z)<|Rm z ?_
  have hk:=(h3.ag B).e h4;have hl:=lt_ h3.s h4.s;obtain ⟨O,V,hmm⟩:=bdS huz;refine E z (fc call160 z<|W_w2y V (zt' hBw hl) (p1_0.g hk) p2_0) ?_;rintro _ _ ⟨s5,rfl⟩;refine R z (not_ z)<|Rm z ?_
  rcases bs (!O) with h | h
  ·iterate 5 refine Nh z h ?_
   exact R z (pT z h z)<|Rm z<|Nh z z<|Nh z z<|Nh z z<|R z (pT z z z)<|Wl (fun _ q=>⟨true,som<|ifT hmm h,q.k<|s6 z z z z z z,s5⟩)
  refine Rh z h (mv z)<|Rh z h (mv z) ?_
  have hn:=hk.e s5;have ho:=p3_0.g hn;refine Rh z h (lnR j_ z ho) ?_;obtain ⟨W,Y,hmp⟩:=bdS<|ifF hmm h;refine Eg z z h z (fc call103 z<|b_c Y (zt' hBw<|lt_ hl s5.s) p4_0 (ii z)<|b_W<|repS.len ho) ?_;rintro _ _ ⟨sb,rfl⟩;refine Rh z h (not_ z)<|R z (pF z h z)<|Rm z ?_
  rcases bs (!W) with G | G
  ·iterate 3 refine Nh z G ?_
   exact R z (pT z G z)<|Wl (fun _ q=>⟨true,som<|ifT hmp G,q.k<|s6 z z z z z z,bup s5 sb⟩)
  exact Rh z G (mv z)<|Rh z G (lnR j_ z<|p3_0.g<|hn.e sb)<|Rh z G (Z_ z z)<|R z (pF z G z)<|Wl (fun _ q=>⟨decide<|400<(x3.length:Int),som<|ifF hmp G,q.k<|s6 z z z z z z,bup s5 sb⟩)
 rintro a0 _ ⟨xa,rfl,_,s2⟩;revert a0;refine Wo<|Wc z (fun hcc=>?_) (fun hcc=>?_)
 ·refine Ws<|R z (bP (parts:=[]) (cs:=[vI 0,sl none 0 0,sl none 0 0]) a_7 z z)<|E0 (fs (cur':=[vI 0,sl none 0 0,sl none 0 0]) k_ z z (h6.e s2) z (lb z) (oA z) z) ?_
  rintro _ _ ⟨a1,a2⟩;refine Ra z<|Rw z ?_
  obtain rfl:=som<|ifT hmj hcc;exact Wr<|y_ hr (p_ D_ k_ z a1 z) z z ⟨bM (bup (bup h3 h4) s2) a2.one<|m1 h3.s,none,0,0,[],none,0,0,[],z,ii z,onL,onL,ii z,ii z,nd0,al0⟩
 refine Wk<|Ws<|R z (lN (vs:=[sl A0 N0 C0]) J_ E_ z z fid<|((hh.e h4).e s2).row 0 1 z)<|RM z z<|Rm z ?_
 have hq:=((h3.ag B).e h4).e s2;have hd:=lt_ (lt_ h3.s h4.s) s2.s;obtain ⟨a3,_,_,a4,L⟩:=V_<|ifF hmj hcc;refine E z (fc call67 z<|W_w02.run a4 (zt' hBw hd) (p1_0.g hq) p2_0 (p3_0.g hq) p4_0) ?_;rintro _ _ ⟨sr,au,ns,ct,a5,av,nw,cx,a6,rfl,a7,a8,a9,aa,ab,he,H⟩
 iterate 3 refine Re z z z ?_
 refine E0 (fs (cur':=[vI a3.number,sl au ns ct,sl av nw cx]) k_ z z ((h6.e s2).e sr) z (lb z) (oA z) z) ?_;rintro _ _ ⟨ad,ae⟩;have hf:=ae.one;refine Ra z<|Rw z ?_
 obtain rfl:=som L;exact Wr<|y_ hr (p_ D_ k_ z ad z) z z ⟨bM (bup (bup (bup h3 h4) s2) sr) hf<|m1 h3.s,au,ns,ct,a5,av,nw,cx,a6,z,a7,a8.c hf<|r_ (al_ H) h6.lt s2.s,a9.c hf<|r_ (ar_ H) h6.lt s2.s,aa,ab,na_ (nl_ he) (nr_ he)<|nj he,aa_ (s_ (al_ H) hd)<|s_ (ar_ H) hd⟩
end Go.Vw
