
import Derived.Test.YtgpgenigfncgeaaGreatDoorV1
import Derived.Test.YtgpgenigfncgeaaGreatDoorVt
import Derived.Test.YtgpgenigfncgeaaGreatDoorVu
import Derived.ScopeJumps
set_option linter.unusedVariables false
namespace Go.Vw
open Go.RowKit Dat Go.Proofs
open Go.Proofs.Tryz
open Go.Vw renaming a_i->Wq,a_J->Wg,WC.of_KC->Wo,a_k->Wl,c_e->Wc,c_N->Wr,g_l->Wu,k_h->pT,k_i->pF,h_H->fd,b_J->l1,k_t->lN,b_g->mv,c_Z->asg,g_e->lnR,f_t->lss,h_M->eql,h_I->ext_,k_j->bP,h_J->add_,g_c->inc_,d_W->not_,g_f->at_,e_F->fc,a_V->fs,e_E->fb,d_J->fa,k_b->sr,k_f->cr,k_g->cM,c_s->bM,k_4->iS,k_3->iA,k_6->br,b_6->oA,k_7->bs,ltge->lg,inor->io,g_o->nq,k_v->lnT,k_w->sb_,k_9->ar_,k_8->al_,k_a->ds,l_a->m1,k_d->nr_,k_c->nl_,h_v->aa_,all_nil->an_,d_h->Wb,h_u->u8,j_E->pD,f_X->We,k_5->Wt,f_Y->fS,f_j->or_,k_r->Wf,k_o->qL,j_D->Wd,h_x->fN,h_w->na_,k_e->nj,e_M->f0,g_g->rX,k_k->tl_,k_l->ic
variable {A0:Option Addr}{N0 C0:Nat}{B:Zone}{w0:World}{A9:Option Addr}{A8:Option Addr}{AA:Option Addr}{AB:Option Addr}{N9 C9:Nat}{N8 C8:Nat}{NA CA:Nat}{NB CB:Nat}{A1:Option Addr}{N1 C1:Nat}{n:Nat}{AD:Option Addr}{ND CD:Nat}{A4:Option Addr}{N4 C4:Nat}{AH:Option Addr}{NH CH:Nat}{A3:Option Addr}{A5:Option Addr}{A2:Option Addr}{A6:Option Addr}{N3 C3:Nat}{N5 C5:Nat}{N2 C2:Nat}{N6 C6:Nat}{A7:Option Addr}{N7 C7:Nat}{AE:Option Addr}{NE CE:Nat}{AK:Option Addr}{AL:Option Addr}{NK CK:Nat}{NL CL:Nat}{AC:Option Addr}{NC CC:Nat}
def Q0 (w0:World)(B:Zone)(r:Int)(v:Value)(w':World):Prop:=Bw w0 w'/\(λh=>(vI h)=v/\inI h) r
theorem W_w0w {x1:Bt}{x2:Int}{res:Int}(hm:i_6 x1 x2=some res)(I:B<=w0.z)(G:repS w0 B (sl A0 N0 C0) x1)(H:inI x2):h_ prog 30 [sl A0 N0 C0,vI x2] w0 (Q0 w0 B res):=by
 unfold i_6 at hm
 refine goG func30 z z z λfn hr=>Ws<|Rw z<|Wm z<|Rm z<|R z (lnR k_ z G)<|R z (sb_ z z)<|Rw z<|Wq<|Wm z<|Rl z z z<|Wx z (λh=>?_) (λh=>?_)
 .refine Ws<|Rw z ?_
  obtain rfl:=som<|ifT hm h;exact Wr<|c_ hr z ⟨br w0,z,ii z⟩
 refine Wk<|Wm z<|Rw z ?_
 obtain rfl:=som<|ifF hm h;exact Wr<|c_ hr z ⟨br w0,z,iS _ _⟩
theorem W_w29 {x1:List Str}{x2:Int}{res:Int}(hm:i_7 x1 x2=some res)(W:B<=w0.z)(h:repS w0 B (sl A0 N0 C0) x1)(V:inI x2):h_ prog 141 [sl A0 N0 C0,vI x2] w0 (Q0 w0 B res):=by
 unfold i_7 at hm
 refine goG func141 z z z λfn hr=>Ws<|Rw z<|Wm z<|Rm z<|R z (lnR F_ z h)<|R z (sb_ z z)<|Rw z<|Wq<|Wm z<|Rl z z z<|Wx z (λG=>?_) (λG=>?_)
 .refine Ws<|Rw z ?_
  obtain rfl:=som<|ifT hm G;exact Wr<|c_ hr z ⟨br w0,z,ii z⟩
 refine Wk<|Wq<|Ws<|Rw z ?_
 obtain ⟨_,hub,I⟩:=bdS<|ifF hm G;refine Wf (σ:=Int) (ρ:=Int) (λ(k6:Nat)(x0:Int) a w=>Sat 28 [(0,sl A0 N0 C0),(1,vI x0),(5,vI ((k6:Nat):Int))] a/\Below w0.z w0 w/\inI x0) (λ(x0:Int) a w=>Sat 28 [(1,vI x0)] a/\Below w0.z w0 w/\inI x0) (rQ prog fn<|Q0 w0 B) hub ?_ ?_ ?_ ?_ ?_
 .exact λ_ q=>⟨q.k<|s3 z z z,br w0,iS _ _⟩
 .rintro k6 x0 _ _ _ J ⟨hSc,s4,h1⟩ hmd;refine Wu ?_ hSc;refine Wq<|Wm z<|Rm z ?_
  have O:=h.e s4;refine R z (lnR F_ z O)<|Rl z z z<|Wx z (λ_=>?_) (λhc=>(O_ J hc).elim)
  refine Wk<|Wq<|Wb<|Wm z<|RM z z ?_
  obtain ⟨xe,ef,L⟩:=bdS hmd;refine RX z (at_ (α:=Str) F_ z_9 z z z O ef) ?_;rintro _ ⟨_,_,_,rfl,hg,hh,_⟩;obtain ⟨rfl,_⟩:=a_n hh;refine R z (l0 g_9 z<|hg.at0 z)<|R z (lnT d_9 z)<|R z (sb_ z z)<|Rw z<|Wm z<|Rl z z z<|Wx z (λH=>?_) (λH=>?_)
  .exact Ws<|Rw z<|Wr<|rtO<|qL (som<|ifT L H).symm<|c_ hr z ⟨s4,z,ii z⟩
  exact Wk<|Wg<|Rm z<|R z (inc_ J (lt_ (repS.len h) z_) z z)<|Ra z<|Wl (λ_ q=>⟨w_ x0 (xe.b.length:Int),(som<|ifF L H).symm,⟨q.k<|s3 z z z,s4,iS _ _⟩⟩)
 .rintro x0 _ _ ⟨hSi,sa,h1⟩;refine Wu ?_ hSi;refine Wq<|Wm z<|Rm z<|R z (lnR F_ z<|h.e sa)<|Rl z z z<|Wx z (λhc=>(P_ hc).elim) (λ_=>?_)
  exact We<|λ_ q=>⟨rfl,⟨q.k<|s1 z,sa,h1⟩⟩
 .rintro x0 aj _ rfl ⟨_,sk,h1⟩;have hml:=elL I;revert aj;refine Wo<|Wm z<|Rw z ?_
  obtain rfl:=som hml;exact Wr<|c_ hr z ⟨sk,z,h1⟩
 rintro _ _ _ _ rfl ⟨rfl,hqm⟩;have hmn:=elR I;obtain rfl:=som hmn;exact ⟨hqm,z⟩
theorem W_w0x {x1:List Int}{x2:Int}{res:Int}(hm:i_8 x1 x2=some res)(I:B<=w0.z)(G:repS w0 B (sl A0 N0 C0) x1)(H:inI x2):h_ prog 142 [sl A0 N0 C0,vI x2] w0 (Q0 w0 B res):=by
 unfold i_8 at hm
 refine goG func142 z z z λfn hr=>Ws<|Rw z<|Wm z<|Rm z<|R z (lnR y_ z G)<|R z (sb_ z z)<|Rw z<|Wq<|Wm z<|Rl z z z<|Wx z (λh=>?_) (λh=>?_)
 .refine Ws<|Rw z ?_
  obtain rfl:=som<|ifT hm h;exact Wr<|c_ hr z ⟨br w0,z,ii z⟩
 refine Wk<|Wm z<|Rw z ?_
 obtain rfl:=som<|ifF hm h;exact Wr<|c_ hr z ⟨br w0,z,iS _ _⟩
theorem W_w2a {x1:d_}{x2:Int}{res:Int}(hm:g_I x1 x2=some res)(G:B<=w0.z)(a1:x1.name.b.length<=LEN)(a2:inI x1.kind)(a3:inI x1.size)(V:repS w0 B (sl A9 N9 C9) x1.bytes)(W:repS w0 B (sl A8 N8 C8) x1.names)(Y:repS w0 B (sl AA NA CA) x1.tags)(a0:repS w0 B (sl AB NB CB) x1.kids)(a4:inI x2):h_ prog 108 [(.agg #[Str.v x1.name,vI x1.kind,vI x1.size,vB x1.little,sl A9 N9 C9,sl A8 N8 C8,sl AA NA CA,sl AB NB CB]),vI x2] w0 (Q0 w0 B res):=by
 unfold g_I at hm
 refine goG func108 z z z λfn hr=>Ws<|E z (fb z) ?_
 rintro _ wl ⟨rfl,ha⟩;have h:=ha.below;have h4:Blk wl w0.z (vR x1 A9 N9 C9 A8 N8 C8 AA NA CA AB NB CB):=ha.blk;refine Rw z<|Wm z<|Rf z n_D z<|R z (l0 g_9 z<|h4.at z)<|R z (lnT d_9 z)<|R z (sb_ z z)<|Rw z<|Wq<|Wm z<|Rl z z z<|Wx z (λH=>?_) (λH=>?_)
 .refine Ws<|Rw z ?_
  obtain rfl:=som<|ifT hm H;exact Wr<|c_ hr z ⟨h,z,ii z⟩
 refine Wk<|Ws<|Rf z n_E z<|R z (l0 K_ z<|h4.at z)<|Rm z ?_
 obtain ⟨_,en,hmb⟩:=bdS<|ifF hm H;refine E z (fc call30 z<|W_w0w en (zt' G h.s) (V.e h)<|iS _ _) ?_;rintro _ _ ⟨s1,rfl,ho⟩;refine Rw z<|Wq<|Wm z<|Rl z z z<|Wx z (λI=>?_) (λI=>?_)
 .refine Ws<|Rw z ?_
  obtain rfl:=som<|ifT hmb I;exact Wr<|c_ hr z ⟨bup h s1,z,ii z⟩
 refine Wk<|Ws<|Rf z n_F z ?_
 have hc:=h4.e s1;refine R z (l0 a_G z<|hc.at z)<|Rm z ?_
 have hd:=(h.ag B).e s1;have he:=lt_ h.s s1.s;obtain ⟨_,ep,hmf⟩:=bdS<|ifF hmb I;refine E z (fc call141 z<|W_w29 ep (zt' G he) (W.g hd) ho) ?_;rintro _ _ ⟨s2,rfl,hq⟩;refine Rw z<|Wq<|Wm z<|Rl z z z<|Wx z (λJ=>?_) (λJ=>?_)
 .refine Ws<|Rw z ?_
  obtain rfl:=som<|ifT hmf J;exact Wr<|c_ hr z ⟨bup (bup h s1) s2,z,ii z⟩
 refine Wk<|Ws<|Rf z n_G z ?_
 have hg:=hc.e s2;refine R z (l0 H_ z<|hg.at z)<|Rm z ?_
 have hh:=hd.e s2;have hi:=lt_ he s2.s;obtain ⟨_,er,hmj⟩:=bdS<|ifF hmf J;refine E z (fc call142 z<|W_w0x er (zt' G hi) (Y.g hh) hq) ?_;rintro _ _ ⟨s3,rfl,ht⟩;refine Rw z<|Wq<|Wm z<|Rl z z z<|Wx z (λL=>?_) (λL=>?_)
 .refine Ws<|Rw z ?_
  obtain rfl:=som<|ifT hmj L;exact Wr<|c_ hr z ⟨bup (bup (bup h s1) s2) s3,z,ii z⟩
 refine Wk<|Ws<|Rf z n_H z<|R z (l0 H_ z<|(hg.e s3).at z)<|Rm z ?_
 obtain ⟨_,es,hmk⟩:=bdS<|ifF hmj L;refine E z (fc call142 z<|W_w0x es (zt' G<|lt_ hi s3.s) (a0.g<|hh.e s3) ht) ?_;rintro _ _ ⟨sm,rfl,hu⟩;refine Rw z<|Wq<|Wm z<|Rl z z z<|Wx z (λO=>?_) (λO=>?_)
 .refine Ws<|Rw z ?_
  obtain rfl:=som<|ifT hmk O;exact Wr<|c_ hr z ⟨bup (bup (bup (bup h s1) s2) s3) sm,z,ii z⟩
 refine Wk<|Wm z<|Rw z ?_
 obtain rfl:=som<|ifF hmk O;exact Wr<|c_ hr z ⟨bup (bup (bup (bup h s1) s2) s3) sm,z,hu⟩
theorem W_w2b {x1:List d_}{x2:Int}{res:Int}(hm:l_c x1 x2=some res)(a1:B<=w0.z)(h:repS w0 B (sl A0 N0 C0) x1)(aa:inI x2):h_ prog 76 [sl A0 N0 C0,vI x2] w0 (Q0 w0 B res):=by
 unfold l_c at hm
 refine goG func76 z z z λfn hr=>Ws<|Rw z<|Wm z<|Rm z<|R z (lnR e_K z h)<|R z (sb_ z z)<|Rw z<|Wq<|Wm z<|Rl z z z<|Wx z (λG=>?_) (λG=>?_)
 .refine Ws<|Rw z ?_
  obtain rfl:=som<|ifT hm G;exact Wr<|c_ hr z ⟨br w0,z,ii z⟩
 refine Wk<|Wq<|Ws<|Rw z ?_
 obtain ⟨_,huc,I⟩:=bdS<|ifF hm G;refine Wf (σ:=Int) (ρ:=Int) (λ(k6:Nat)(x0:Int) a w=>Sat 27 [(0,sl A0 N0 C0),(1,vI x0),(5,vI ((k6:Nat):Int))] a/\Below w0.z w0 w/\inI x0) (λ(x0:Int) a w=>Sat 27 [(1,vI x0)] a/\Below w0.z w0 w/\inI x0) (rQ prog fn<|Q0 w0 B) huc ?_ ?_ ?_ ?_ ?_
 .exact λ_ q=>⟨q.k<|s3 z z z,br w0,iS _ _⟩
 .rintro k6 x0 _ _ _ J ⟨hSd,s2,h1⟩ hme;refine Wu ?_ hSd;refine Wq<|Wm z<|Rm z ?_
  have O:=h.e s2;refine R z (lnR e_K z O)<|Rl z z z<|Wx z (λ_=>?_) (λhc=>(O_ J hc).elim)
  refine Wk<|Wq<|Wb<|Wm z<|Rm z ?_
  obtain ⟨xf,eg,hmh⟩:=bdS hme;refine RX z (at_ (α:=d_) e_K j_N z z z O eg) ?_;rintro _ ⟨_,_,_,rfl,hi,hj,_⟩;obtain ⟨ak,nl,cm,an,no,cp,aq,nr,cs,au,nt,cv,rfl,hw,hx,hy,hz,a2,a3,a4⟩:=b_3 hj;refine R z (lN (vs:=vR xf ak nl cm an no cp aq nr cs au nt cv) g_157 j_N z z fid hi)<|Rm z ?_
  obtain ⟨a5,a6,L⟩:=bdS hmh;refine E z (fc call108 z<|W_w2a a6 (zt' a1 s2.s) hw hx hy hz a2 a3 a4 h1) ?_;rintro _ _ ⟨sa,rfl,a7⟩;refine Rw z<|Wm z<|Rl z z z<|Wx z (λH=>?_) (λH=>?_)
  .exact Ws<|Rw z<|Wr<|rtO<|qL (som<|ifT L H).symm<|c_ hr z ⟨bup s2 sa,z,ii z⟩
  exact Wk<|Wg<|Rm z<|R z (inc_ J (lt_ (repS.len h) z_) z z)<|Ra z<|Wl (λ_ q=>⟨a5,(som<|ifF L H).symm,⟨q.k<|s3 z z z,bup s2 sa,a7⟩⟩)
 .rintro x0 _ _ ⟨V,sb,h1⟩;refine Wu ?_ V;refine Wq<|Wm z<|Rm z<|R z (lnR e_K z<|h.e sb)<|Rl z z z<|Wx z (λhc=>(P_ hc).elim) (λ_=>?_)
  exact We<|λ_ q=>⟨rfl,⟨q.k<|s1 z,sb,h1⟩⟩
 .rintro x0 a8 _ rfl ⟨_,a9,h1⟩;have W:=elL I;revert a8;refine Wo<|Wm z<|Rw z ?_
  obtain rfl:=som W;exact Wr<|c_ hr z ⟨a9,z,h1⟩
 rintro _ _ _ _ rfl ⟨rfl,Y⟩;have a0:=elR I;obtain rfl:=som a0;exact ⟨Y,z⟩
theorem W_w2c {x1:f_}{x2:Int}{res:Int}(hm:g_J x1 x2=some res)(L:B<=w0.z)(I:repS w0 B (sl A0 N0 C0) x1.rules)(J:inI x2):h_ prog 50 [(.agg #[sl A0 N0 C0]),vI x2] w0 (Q0 w0 B res):=by
 unfold g_J at hm
 refine goG func50 z z z λfn hr=>Ws<|E z (fb z) ?_
 rintro _ O ⟨rfl,h2⟩;have h:=h2.below;refine Rw z<|Ws<|Rf z n_Q z<|R z (l0 g_89 z<|(h2.blk:Blk O w0.z [sl A0 N0 C0]).at z)<|Rm z ?_
 obtain ⟨_,V,H⟩:=bdS hm;refine E z (fc call76 z<|W_w2b V (zt' L h.s) (I.e h) J) ?_;rintro _ _ ⟨s4,rfl,W⟩;refine Rw z<|Wq<|Wm z<|Rl z z z<|Wx z (λG=>?_) (λG=>?_)
 .refine Ws<|Rw z ?_
  obtain rfl:=som<|ifT H G;exact Wr<|c_ hr z ⟨bup h s4,z,ii z⟩
 refine Wk<|Wm z<|Rw z ?_
 obtain rfl:=som<|ifF H G;exact Wr<|c_ hr z ⟨bup h s4,z,W⟩
theorem W_w2d {x1:List f_}{x2:Int}{res:Int}(hm:j_9 x1 x2=some res)(V:B<=w0.z)(h:repS w0 B (sl A0 N0 C0) x1)(W:inI x2):h_ prog 29 [sl A0 N0 C0,vI x2] w0 (Q0 w0 B res):=by
 unfold j_9 at hm
 refine goG func29 z z z λfn hr=>Ws<|Rw z<|Wm z<|Rm z<|R z (lnR e_J z h)<|R z (sb_ z z)<|Rw z<|Wq<|Wm z<|Rl z z z<|Wx z (λG=>?_) (λG=>?_)
 .refine Ws<|Rw z ?_
  obtain rfl:=som<|ifT hm G;exact Wr<|c_ hr z ⟨br w0,z,ii z⟩
 refine Wk<|Wq<|Ws<|Rw z ?_
 obtain ⟨_,huc,I⟩:=bdS<|ifF hm G;refine Wf (σ:=Int) (ρ:=Int) (λ(k6:Nat)(x0:Int) a w=>Sat 27 [(0,sl A0 N0 C0),(1,vI x0),(5,vI ((k6:Nat):Int))] a/\Below w0.z w0 w/\inI x0) (λ(x0:Int) a w=>Sat 27 [(1,vI x0)] a/\Below w0.z w0 w/\inI x0) (rQ prog fn<|Q0 w0 B) huc ?_ ?_ ?_ ?_ ?_
 .exact λ_ q=>⟨q.k<|s3 z z z,br w0,iS _ _⟩
 .rintro k6 x0 _ _ _ J ⟨hSd,s2,h1⟩ hme;refine Wu ?_ hSd;refine Wq<|Wm z<|Rm z ?_
  have O:=h.e s2;refine R z (lnR e_J z O)<|Rl z z z<|Wx z (λ_=>?_) (λhc=>(O_ J hc).elim)
  refine Wk<|Wq<|Wb<|Wm z<|Rm z ?_
  obtain ⟨_,ef,hmg⟩:=bdS hme;refine RX z (at_ (α:=f_) e_J z_91 z z z O ef) ?_;rintro _ ⟨_,_,_,rfl,hh,hi,_⟩;obtain ⟨aj,nk,cl,rfl,hn⟩:=d_H hi;refine R z (lN (vs:=[sl aj nk cl]) g_91 z_91 z z fid hh)<|Rm z ?_
  obtain ⟨rm,eo,L⟩:=bdS hmg;refine E z (fc call50 z<|W_w2c eo (zt' V s2.s) hn h1) ?_;rintro _ _ ⟨sa,rfl,hp⟩;refine Rw z<|Wm z<|Rl z z z<|Wx z (λH=>?_) (λH=>?_)
  .exact Ws<|Rw z<|Wr<|rtO<|qL (som<|ifT L H).symm<|c_ hr z ⟨bup s2 sa,z,ii z⟩
  exact Wk<|Wg<|Rm z<|R z (inc_ J (lt_ (repS.len h) z_) z z)<|Ra z<|Wl (λ_ q=>⟨rm,(som<|ifF L H).symm,⟨q.k<|s3 z z z,bup s2 sa,hp⟩⟩)
 .rintro x0 _ _ ⟨hSq,sb,h1⟩;refine Wu ?_ hSq;refine Wq<|Wm z<|Rm z<|R z (lnR e_J z<|h.e sb)<|Rl z z z<|Wx z (λhc=>(P_ hc).elim) (λ_=>?_)
  exact We<|λ_ q=>⟨rfl,⟨q.k<|s1 z,sb,h1⟩⟩
 .rintro x0 ar _ rfl ⟨_,ss,h1⟩;have hmt:=elL I;revert ar;refine Wo<|Wm z<|Rw z ?_
  obtain rfl:=som hmt;exact Wr<|c_ hr z ⟨ss,z,h1⟩
 rintro _ _ _ _ rfl ⟨rfl,hqu⟩;have hmv:=elR I;obtain rfl:=som hmv;exact ⟨hqu,z⟩
theorem W_w2e {x1:a_c}{x2:Int}{res:Int}(hm:l_o x1 x2=some res)(L:B<=w0.z)(I:repS w0 B (sl A0 N0 C0) x1.versions)(J:inI x2):h_ prog 13 [(.agg #[sl A0 N0 C0]),vI x2] w0 (Q0 w0 B res):=by
 unfold l_o at hm
 refine goG func13 z z z λfn hr=>Ws<|E z (fb z) ?_
 rintro _ O ⟨rfl,h2⟩;have h:=h2.below;refine Rw z<|Ws<|Rf z n_K z<|R z (l0 g_22 z<|(h2.blk:Blk O w0.z [sl A0 N0 C0]).at z)<|Rm z ?_
 obtain ⟨_,V,H⟩:=bdS hm;refine E z (fc call29 z<|W_w2d V (zt' L h.s) (I.e h) J) ?_;rintro _ _ ⟨s4,rfl,W⟩;refine Rw z<|Wq<|Wm z<|Rl z z z<|Wx z (λG=>?_) (λG=>?_)
 .refine Ws<|Rw z ?_
  obtain rfl:=som<|ifT H G;exact Wr<|c_ hr z ⟨bup h s4,z,ii z⟩
 refine Wk<|Wm z<|Rw z ?_
 obtain rfl:=som<|ifF H G;exact Wr<|c_ hr z ⟨bup h s4,z,W⟩
theorem W_w2f {x1:Log}{x2:Int}{res:Int}(hm:l_p x1 x2=some res)(L:B<=w0.z)(I:repS w0 B (sl A0 N0 C0) x1.bytes)(Y:inI x1.stored)(J:inI x2):h_ prog 14 [(.agg #[sl A0 N0 C0,vI x1.stored]),vI x2] w0 (Q0 w0 B res):=by
 unfold l_p at hm
 refine goG func14 z z z λfn hr=>Ws<|E z (fb z) ?_
 rintro _ O ⟨rfl,h2⟩;have h:=h2.below;refine Rw z<|Ws<|Rf z n_L z<|R z (l0 K_ z<|(h2.blk:Blk O w0.z [sl A0 N0 C0,vI x1.stored]).at z)<|Rm z ?_
 obtain ⟨_,V,H⟩:=bdS hm;refine E z (fc call30 z<|W_w0w V (zt' L h.s) (I.e h) J) ?_;rintro _ _ ⟨s4,rfl,W⟩;refine Rw z<|Wq<|Wm z<|Rl z z z<|Wx z (λG=>?_) (λG=>?_)
 .refine Ws<|Rw z ?_
  obtain rfl:=som<|ifT H G;exact Wr<|c_ hr z ⟨bup h s4,z,ii z⟩
 refine Wk<|Wm z<|Rw z ?_
 obtain rfl:=som<|ifF H G;exact Wr<|c_ hr z ⟨bup h s4,z,W⟩
theorem W_w2g {x1:J_}{x2:Int}{res:Int}(hm:j_a x1 x2=some res)(I:B<=w0.z)(O:repS w0 B (sl A0 N0 C0) x1.registry.versions)(V:repS w0 B (sl A1 N1 C1) x1.log.bytes)(W:inI x1.log.stored)(Y:inI x2):h_ prog 4 [(.agg #[sl A0 N0 C0,sl A1 N1 C1,vI x1.log.stored]),vI x2] w0 (Q0 w0 B res):=by
 unfold j_a at hm
 refine goG func4 z z z λfn hr=>Ws<|E z (fb z) ?_
 rintro _ w9 ⟨rfl,h4⟩;have h:=h4.below;have h5:Blk w9 w0.z [sl A0 N0 C0,sl A1 N1 C1,vI x1.log.stored]:=h4.blk;refine Rw z<|Ws<|Rf z n_M z<|R z (lN (vs:=[sl A0 N0 C0]) g_24 z_24 z z fid<|h5.row 0 1 z)<|Rm z ?_
 obtain ⟨_,ea,J⟩:=bdS hm;refine E z (fc call13 z<|W_w2e (B:=B) (x1:=(⟨x1.registry.versions⟩:a_c)) ea (zt' I h.s) (O.e h) Y) ?_;rintro _ _ ⟨s1,rfl,hb⟩;refine Rw z<|Wq<|Wm z<|Rl z z z<|Wx z (λG=>?_) (λG=>?_)
 .refine Ws<|Rw z ?_
  obtain rfl:=som<|ifT J G;exact Wr<|c_ hr z ⟨bup h s1,z,ii z⟩
 refine Wk<|Ws<|Rf z n_N z<|R z (lN (vs:=[sl A1 N1 C1,vI x1.log.stored]) g_27 z_27 z z fid<|(h5.e s1).row 1 2 z)<|Rm z ?_
 obtain ⟨_,ec,L⟩:=bdS<|ifF J G;refine E z (fc call14 z<|W_w2f (B:=B) (x1:=(⟨x1.log.bytes,x1.log.stored⟩:Log)) ec (zt' I<|lt_ h.s s1.s) (V.g<|(h.ag B).e s1) W hb) ?_;rintro _ _ ⟨s8,rfl,hd⟩;refine Rw z<|Wq<|Wm z<|Rl z z z<|Wx z (λH=>?_) (λH=>?_)
 .refine Ws<|Rw z ?_
  obtain rfl:=som<|ifT L H;exact Wr<|c_ hr z ⟨bup (bup h s1) s8,z,ii z⟩
 refine Wk<|Wm z<|Rw z ?_
 obtain rfl:=som<|ifF L H;exact Wr<|c_ hr z ⟨bup (bup h s1) s8,z,hd⟩
def Q1 (w0:World)(B:Zone)(r:Bt)(v:Value)(w':World):Prop:=Bw w0 w'/\(λI=>∃h G H S1,(sl h G H)=v/\a_ w' S1 (sl h G H) I/\S1.Nodup/\(∀k∈S1,w0.z<=k)) r
theorem W_w0y {x1:Bt}{res:Bt}(hm:g_K x1=some res)(W:B<=w0.z)(V:repS w0 B (sl A0 N0 C0) x1):h_ prog 39 [sl A0 N0 C0] w0 (Q1 w0 B res):=by
 unfold g_K at hm
 refine goG func39 z z z λfn hr=>Ws<|Rw z<|Wm z<|R z (lnR k_ z V) ?_
 obtain ⟨_,ej,hmk⟩:=bdS hm;refine E z (d_n (α:=UInt8) M_ (λ_=>o_7) ej z z) ?_;rintro _ G ⟨H,I,J,rfl,s9,hl⟩;refine Rw z<|Wq<|Ws<|Rw z ?_
 obtain ⟨_,hum,hmb⟩:=bdS hmk;refine Wf (σ:=Bt) (ρ:=Bt) (λ(kc:Nat)(x2:Bt) a w=>∃(h:List Nat),Sat 22 [(0,sl A0 N0 C0),(3,sl H I J),(4,vI ((kc:Nat):Int))] a/\Cg [w0.z] G w/\a_ w h (sl H I J) x2/\h.Nodup/\(∀k∈h,k∈[w0.z]∨G.z<=k)) (λ(x2:Bt) a w=>∃(h:List Nat),Sat 22 [(3,sl H I J)] a/\Cg [w0.z] G w/\a_ w h (sl H I J) x2/\h.Nodup/\(∀k∈h,k∈[w0.z]∨G.z<=k)) (rQ prog fn<|Q1 w0 B) hum ?_ ?_ ?_ ?_ ?_
 .exact λ_ q=>⟨[w0.z],q.k<|s3 z z z,cr [w0.z] G,hl,Z_,io sr⟩
 .rintro kc x2 _ wn _ hkd ⟨h,hSo,sa,h3,L,O⟩ hmp;refine Wu ?_ hSo;refine Wq<|Wm z<|Rm z ?_
  have he:=V.g<|(s9.ag B).c sa<|g_ (or0 (e_ lr) (n_ W):∀k∈[w0.z],¬B k)
  refine R z (lnR k_ z he)<|Rl z z z<|Wx z (λ_=>?_) (λhc=>(O_ hkd hc).elim)
  refine Wk<|Wq<|Wb<|Wg<|RM z z<|RM z z ?_
  obtain ⟨_,er,hms⟩:=bdS hmp;refine RX z (at_ (α:=UInt8) k_ z_5 z z z he er) ?_;rintro _ ⟨_,_,_,rfl,ht,hu,_⟩;obtain rfl:=u8 hu;refine R z (l0 g_5 z<|ht.at0 z) ?_;obtain ⟨xv,ef,hmw⟩:=bdS hms;refine RX z (b_c (α:=UInt8) k_ z_5 z z h3 ef) ?_;rintro _ ⟨_,hx,rfl⟩;refine E0 (b_7 (α:=UInt8) z_5 z hx z z z ef h3 L b_b an_ G_) ?_;rintro _ wy ⟨Sg,sz,a3,a5,a6⟩;refine Wn<|Wg<|Rm z<|R z (inc_ hkd (lt_ (repS.len V) z_) z z)<|Ra z<|Wl ?_
  have hh:∀k∈h,k∈[w0.z]∨G.z<=k:=or1 O (io sr)<|j_ lr;exact λ_ q=>⟨xv,(som hmw).symm,⟨Sg,q.k<|s3 z z z,(cM (cM (cr [w0.z] G) sa (io sr):Cg [w0.z] G wn) sz hh:Cg [w0.z] G wy),a3,a5,(or2 a6 hh an_ (j_ sa.s):∀k∈Sg,k∈[w0.z]∨G.z<=k)⟩⟩
 .rintro x2 _ a7 ⟨h,Y,si,h3,L,O⟩;refine Wu ?_ Y;refine Wq<|Wm z<|Rm z ?_
  refine R z (lnR k_ z<|V.g<|(s9.ag B).c si<|g_ (or0 (e_ lr) (n_ W):∀k∈[w0.z],¬B k))<|Rl z z z<|Wx z (λhc=>(P_ hc).elim) (λ_=>?_)
  exact We<|λ_ q=>⟨rfl,⟨h,q.k<|s1 z,(cM (cr [w0.z] G) si (io sr):Cg [w0.z] G a7),h3,L,(or1 O (io sr) (j_ lr):∀k∈h,k∈[w0.z]∨G.z<=k)⟩⟩
 .rintro x2 a8 _ rfl ⟨h,_,a9,h3,L,O⟩;have a0:=elL hmb;revert a8;refine Wo<|Wm z<|Rw z ?_
  obtain rfl:=som a0;exact Wr<|c_ hr z ⟨bM s9 a9<|e_ lr,H,I,J,h,z,h3,L,(or1 O (e_ lr) (a_W s9.s):∀k∈h,w0.z<=k)⟩
 rintro _ _ _ _ rfl ⟨rfl,a1⟩;have a2:=elR hmb;obtain rfl:=som a2;exact ⟨a1,z⟩
def Q2 (w0:World)(B:Zone)(r:(List Str))(v:Value)(w':World):Prop:=Bw w0 w'/\(λI=>∃h G H S1,(sl h G H)=v/\a_ w' S1 (sl h G H) I/\S1.Nodup/\(∀k∈S1,w0.z<=k)) r
theorem W_w2h {x1:List Str}{res:(List Str)}(hm:i_9 x1=some res)(W:B<=w0.z)(V:repS w0 B (sl A0 N0 C0) x1):h_ prog 150 [sl A0 N0 C0] w0 (Q2 w0 B res):=by
 unfold i_9 at hm
 refine goG func150 z z z λfn hr=>Ws<|Rw z<|Wm z<|R z (lnR F_ z V) ?_
 obtain ⟨_,ej,hmk⟩:=bdS hm;refine E z (d_n (α:=Str) b_q (λ_=>c_r<|lb z) ej z z) ?_;rintro _ G ⟨H,I,J,rfl,s9,hl⟩;refine Rw z<|Wq<|Ws<|Rw z ?_
 obtain ⟨_,hum,hmb⟩:=bdS hmk;refine Wf (σ:=List Str) (ρ:=List Str) (λ(kc:Nat)(x2:List Str) a w=>∃(h:List Nat),Sat 22 [(0,sl A0 N0 C0),(3,sl H I J),(4,vI ((kc:Nat):Int))] a/\Cg [w0.z] G w/\a_ w h (sl H I J) x2/\h.Nodup/\(∀k∈h,k∈[w0.z]∨G.z<=k)) (λ(x2:List Str) a w=>∃(h:List Nat),Sat 22 [(3,sl H I J)] a/\Cg [w0.z] G w/\a_ w h (sl H I J) x2/\h.Nodup/\(∀k∈h,k∈[w0.z]∨G.z<=k)) (rQ prog fn<|Q2 w0 B) hum ?_ ?_ ?_ ?_ ?_
 .exact λ_ q=>⟨[w0.z],q.k<|s3 z z z,cr [w0.z] G,hl,Z_,io sr⟩
 .rintro kc x2 _ wn _ hkd ⟨h,hSo,sa,h3,L,O⟩ hmp;refine Wu ?_ hSo;refine Wq<|Wm z<|Rm z ?_
  have he:=V.g<|(s9.ag B).c sa<|g_ (or0 (e_ lr) (n_ W):∀k∈[w0.z],¬B k)
  refine R z (lnR F_ z he)<|Rl z z z<|Wx z (λ_=>?_) (λhc=>(O_ hkd hc).elim)
  refine Wk<|Wq<|Wb<|Wg<|RM z z<|RM z z ?_
  obtain ⟨_,er,hms⟩:=bdS hmp;refine RX z (at_ (α:=Str) F_ z_9 z z z he er) ?_;rintro _ ⟨_,_,_,rfl,ht,hu,_⟩;obtain ⟨rfl,hv⟩:=a_n hu;refine R z (l0 g_9 z<|ht.at0 z) ?_;obtain ⟨xw,ef,hmx⟩:=bdS hms;refine RX z (b_c (α:=Str) F_ z_9 z z h3 ef) ?_;rintro _ ⟨_,hy,rfl⟩;refine E0 (b_7 (α:=Str) z_9 z hy z z z ef h3 L (c_r hv) an_ G_) ?_;rintro _ wz ⟨Sg,a3,a5,a6,a7⟩;refine Wn<|Wg<|Rm z<|R z (inc_ hkd (lt_ (repS.len V) z_) z z)<|Ra z<|Wl ?_
  have hh:∀k∈h,k∈[w0.z]∨G.z<=k:=or1 O (io sr)<|j_ lr;exact λ_ q=>⟨xw,(som hmx).symm,⟨Sg,q.k<|s3 z z z,(cM (cM (cr [w0.z] G) sa (io sr):Cg [w0.z] G wn) a3 hh:Cg [w0.z] G wz),a5,a6,(or2 a7 hh an_ (j_ sa.s):∀k∈Sg,k∈[w0.z]∨G.z<=k)⟩⟩
 .rintro x2 _ a8 ⟨h,Y,si,h3,L,O⟩;refine Wu ?_ Y;refine Wq<|Wm z<|Rm z ?_
  refine R z (lnR F_ z<|V.g<|(s9.ag B).c si<|g_ (or0 (e_ lr) (n_ W):∀k∈[w0.z],¬B k))<|Rl z z z<|Wx z (λhc=>(P_ hc).elim) (λ_=>?_)
  exact We<|λ_ q=>⟨rfl,⟨h,q.k<|s1 z,(cM (cr [w0.z] G) si (io sr):Cg [w0.z] G a8),h3,L,(or1 O (io sr) (j_ lr):∀k∈h,k∈[w0.z]∨G.z<=k)⟩⟩
 .rintro x2 a9 _ rfl ⟨h,_,aa,h3,L,O⟩;have a0:=elL hmb;revert a9;refine Wo<|Wm z<|Rw z ?_
  obtain rfl:=som a0;exact Wr<|c_ hr z ⟨bM s9 aa<|e_ lr,H,I,J,h,z,h3,L,(or1 O (e_ lr) (a_W s9.s):∀k∈h,w0.z<=k)⟩
 rintro _ _ _ _ rfl ⟨rfl,a1⟩;have a2:=elR hmb;obtain rfl:=som a2;exact ⟨a1,z⟩
def Q3 (w0:World)(B:Zone)(r:(List Int))(v:Value)(w':World):Prop:=Bw w0 w'/\(λI=>∃h G H S1,(sl h G H)=v/\a_ w' S1 (sl h G H) I/\S1.Nodup/\(∀k∈S1,w0.z<=k)) r
theorem W_w0z {x1:List Int}{res:(List Int)}(hm:g_L x1=some res)(W:B<=w0.z)(V:repS w0 B (sl A0 N0 C0) x1):h_ prog 151 [sl A0 N0 C0] w0 (Q3 w0 B res):=by
 unfold g_L at hm
 refine goG func151 z z z λfn hr=>Ws<|Rw z<|Wm z<|R z (lnR y_ z V) ?_
 obtain ⟨_,ej,hmk⟩:=bdS hm;refine E z (d_n (α:=Int) l_I (λ_=>c_E<|ii z) ej z z) ?_;rintro _ G ⟨H,I,J,rfl,s9,hl⟩;refine Rw z<|Wq<|Ws<|Rw z ?_
 obtain ⟨_,hum,hmb⟩:=bdS hmk;refine Wf (σ:=List Int) (ρ:=List Int) (λ(kc:Nat)(x2:List Int) a w=>∃(h:List Nat),Sat 22 [(0,sl A0 N0 C0),(3,sl H I J),(4,vI ((kc:Nat):Int))] a/\Cg [w0.z] G w/\a_ w h (sl H I J) x2/\h.Nodup/\(∀k∈h,k∈[w0.z]∨G.z<=k)) (λ(x2:List Int) a w=>∃(h:List Nat),Sat 22 [(3,sl H I J)] a/\Cg [w0.z] G w/\a_ w h (sl H I J) x2/\h.Nodup/\(∀k∈h,k∈[w0.z]∨G.z<=k)) (rQ prog fn<|Q3 w0 B) hum ?_ ?_ ?_ ?_ ?_
 .exact λ_ q=>⟨[w0.z],q.k<|s3 z z z,cr [w0.z] G,hl,Z_,io sr⟩
 .rintro kc x2 _ wn _ hkd ⟨h,hSo,sa,h3,L,O⟩ hmp;refine Wu ?_ hSo;refine Wq<|Wm z<|Rm z ?_
  have he:=V.g<|(s9.ag B).c sa<|g_ (or0 (e_ lr) (n_ W):∀k∈[w0.z],¬B k)
  refine R z (lnR y_ z he)<|Rl z z z<|Wx z (λ_=>?_) (λhc=>(O_ hkd hc).elim)
  refine Wk<|Wq<|Wb<|Wg<|RM z z<|RM z z ?_
  obtain ⟨_,er,hms⟩:=bdS hmp;refine RX z (at_ (α:=Int) y_ z_3 z z z he er) ?_;rintro _ ⟨_,_,_,rfl,ht,hu,_⟩;obtain ⟨rfl,hv⟩:=V_ hu;refine R z (l0 g_3 z<|ht.at0 z) ?_;obtain ⟨xw,ef,hmx⟩:=bdS hms;refine RX z (b_c (α:=Int) y_ z_3 z z h3 ef) ?_;rintro _ ⟨_,hy,rfl⟩;refine E0 (b_7 (α:=Int) z_3 z hy z z z ef h3 L (c_E hv) an_ G_) ?_;rintro _ wz ⟨Sg,a3,a5,a6,a7⟩;refine Wn<|Wg<|Rm z<|R z (inc_ hkd (lt_ (repS.len V) z_) z z)<|Ra z<|Wl ?_
  have hh:∀k∈h,k∈[w0.z]∨G.z<=k:=or1 O (io sr)<|j_ lr;exact λ_ q=>⟨xw,(som hmx).symm,⟨Sg,q.k<|s3 z z z,(cM (cM (cr [w0.z] G) sa (io sr):Cg [w0.z] G wn) a3 hh:Cg [w0.z] G wz),a5,a6,(or2 a7 hh an_ (j_ sa.s):∀k∈Sg,k∈[w0.z]∨G.z<=k)⟩⟩
 .rintro x2 _ a8 ⟨h,Y,si,h3,L,O⟩;refine Wu ?_ Y;refine Wq<|Wm z<|Rm z ?_
  refine R z (lnR y_ z<|V.g<|(s9.ag B).c si<|g_ (or0 (e_ lr) (n_ W):∀k∈[w0.z],¬B k))<|Rl z z z<|Wx z (λhc=>(P_ hc).elim) (λ_=>?_)
  exact We<|λ_ q=>⟨rfl,⟨h,q.k<|s1 z,(cM (cr [w0.z] G) si (io sr):Cg [w0.z] G a8),h3,L,(or1 O (io sr) (j_ lr):∀k∈h,k∈[w0.z]∨G.z<=k)⟩⟩
 .rintro x2 a9 _ rfl ⟨h,_,aa,h3,L,O⟩;have a0:=elL hmb;revert a9;refine Wo<|Wm z<|Rw z ?_
  obtain rfl:=som a0;exact Wr<|c_ hr z ⟨bM s9 aa<|e_ lr,H,I,J,h,z,h3,L,(or1 O (e_ lr) (a_W s9.s):∀k∈h,w0.z<=k)⟩
 rintro _ _ _ _ rfl ⟨rfl,a1⟩;have a2:=elR hmb;obtain rfl:=som a2;exact ⟨a1,z⟩
def Q4 (w0:World)(B:Zone)(r:d_)(v:Value)(w':World):Prop:=Bw w0 w'/\(λh=>∃G H I S1 a2 J L S2 O V W S3 Y n4 c4 S4,(.agg #[Str.v h.name,vI h.kind,vI h.size,vB h.little,sl G H I,sl a2 J L,sl O V W,sl Y n4 c4])=v/\h.name.b.length<=LEN/\inI h.kind/\inI h.size/\a_ w' S1 (sl G H I) h.bytes/\a_ w' S2 (sl a2 J L) h.names/\a_ w' S3 (sl O V W) h.tags/\a_ w' S4 (sl Y n4 c4) h.kids/\(S1++(S2++(S3++S4))).Nodup/\(∀k∈(S1++(S2++(S3++S4))),w0.z<=k)) r
theorem W_w2i {x1:d_}{res:d_}(hm:i_a x1=some res)(J:B<=w0.z)(aD:x1.name.b.length<=LEN)(aE:inI x1.kind)(aF:inI x1.size)(aG:repS w0 B (sl A9 N9 C9) x1.bytes)(aH:repS w0 B (sl A8 N8 C8) x1.names)(aI:repS w0 B (sl AA NA CA) x1.tags)(aJ:repS w0 B (sl AB NB CB) x1.kids):h_ prog 124 [(.agg #[Str.v x1.name,vI x1.kind,vI x1.size,vB x1.little,sl A9 N9 C9,sl A8 N8 C8,sl AA NA CA,sl AB NB CB])] w0 (Q4 w0 B res):=by
 unfold i_a at hm
 refine goG func124 z z z λfn hr=>Ws<|E z (fb z) ?_
 rintro _ a6 ⟨rfl,a7⟩;have hw:=a7.below;have a8:Blk a6 w0.z (vR x1 A9 N9 C9 A8 N8 C8 AA NA CA AB NB CB):=a7.blk;refine E z (fa c_q) ?_;rintro _ W ⟨rfl,a9⟩;have hp:=a9.below;have hh:Blk W a6.z [(Str.v (⟨[]⟩:Str)),vI 0,vI 0,vB false,sN,sN,sN,sN]:=a9.blk;refine Wn<|Ws<|E z (fa c_q) ?_
 rintro _ aO ⟨rfl,aa⟩;have hi:=aa.below;have hq:Blk aO W.z [(Str.v (⟨[]⟩:Str)),vI 0,vI 0,vB false,sN,sN,sN,sN]:=aa.blk;refine Wn<|Ws<|Rf z n_D z ?_
 have ab:=(a8.e hp).e hi;refine R z (l0 g_9 z<|ab.at z)<|Rf z d_M z<|E0 (fs0 (cur':=[Str.v x1.name,vI 0,vI 0,vB false,sN,sN,sN,sN]) z_9 z z hq z z z z) ?_
 rintro _ _ ⟨aP,aQ⟩;have H:=aQ.one;refine Wn<|Ws<|Rf z s_1 z ?_
 have I:=mm1 a8.lt hp.s;have ad:=ab.c H<|djs I
 refine R z (l0 g_3 z<|ad.at z)<|Rf z a_O z<|E0 (fs0 (cur':=[Str.v x1.name,vI x1.kind,vI 0,vB false,sN,sN,sN,sN]) z_3 z z aP z z z z) ?_
 rintro _ _ ⟨aR,aS⟩;have ha:=aS.one;refine Wn<|Ws<|Rf z s_2 z ?_
 have af:=ad.c ha<|djs I
 refine R z (l0 g_3 z<|af.at z)<|Rf z b_1 z<|E0 (fs0 (cur':=[Str.v x1.name,vI x1.kind,vI x1.size,vB false,sN,sN,sN,sN]) z_3 z z aR z z z z) ?_
 rintro _ _ ⟨aT,aU⟩;have hb:=aU.one;refine Wn<|Ws<|Rf z s_3 z ?_
 have ah:=af.c hb<|djs I
 refine R z (l0 g_4 z<|ah.at z)<|Rf z d_j z<|E0 (fs0 (cur':=vR x1 none 0 0 none 0 0 none 0 0 none 0 0) z_4 z z aT z z z z) ?_
 rintro _ _ ⟨aV,aW⟩;have hc:=aW.one;refine Wn<|Ws<|Rf z n_E z ?_
 have ai:=ah.c hc<|djs I
 refine R z (l0 K_ z<|ai.at z) ?_;have Y:=lt_ hw.s hp.s;have hd:∀k∈[W.z],¬B k:=or0 (e_ lr)<|n_<|zt' J Y;have ak:=((((((hw.ag B).e hp).e hi).c H<|g_ hd).c ha<|g_ hd).c hb<|g_ hd).c hc<|g_ hd
 have a0:=lt_ (lt_ (lt_ (lt_ (lt_ Y hi.s) H.s) ha.s) hb.s) hc.s;obtain ⟨_,aX,aK⟩:=bdS hm;refine E z (fc call39 z<|W_w0y aX (zt' J a0)<|aG.g ak) ?_;rintro _ _ ⟨s5,ae,nf,cg,aY,rfl,hx,aZ,a1⟩;refine Rf z b_j z<|E0 (fs0 (cur':=vR x1 ae nf cg none 0 0 none 0 0 none 0 0) z_25 z z (aV.e s5) z z z z) ?_
 rintro _ _ ⟨b0,b1⟩;have h3:=b1.one;refine Wn<|Ws<|Rf z n_F z ?_
 have al:=(ai.e s5).c h3<|djs I
 refine R z (l0 a_G z<|al.at z) ?_;have am:=(ak.e s5).c h3<|g_ hd
 have a2:=lt_ (lt_ a0 s5.s) h3.s;obtain ⟨_,b2,aL⟩:=bdS aK;refine E z (fc call150 z<|W_w2h b2 (zt' J a2)<|aH.g am) ?_;rintro _ _ ⟨s4,aj,nk,cl,b3,rfl,a3,b4,hy⟩;refine Rf z c_i z<|E0 (fs0 (cur':=vR x1 ae nf cg aj nk cl none 0 0 none 0 0) c_C z z (b0.e s4) z z z z) ?_
 rintro _ _ ⟨b5,b6⟩;have h1:=b6.one;refine Wn<|Ws<|Rf z n_G z ?_
 have an:=(al.e s4).c h1<|djs I
 refine R z (l0 H_ z<|an.at z) ?_;have ao:=(am.e s4).c h1<|g_ hd
 have a4:=lt_ (lt_ a2 s4.s) h1.s;obtain ⟨_,b7,aM⟩:=bdS aL;refine E z (fc call151 z<|W_w0z b7 (zt' J a4)<|aI.g ao) ?_;rintro _ _ ⟨s2,ar,ns,ct,b8,rfl,ap,b9,hu⟩;refine Rf z b_k z<|E0 (fs0 (cur':=vR x1 ae nf cg aj nk cl ar ns ct none 0 0) z_127 z z (b5.e s2) z z z z) ?_
 rintro _ _ ⟨ba,bb⟩;have h:=bb.one;refine Wn<|Ws<|Rf z n_H z<|R z (l0 H_ z<|((an.e s2).c h<|djs I).at z) ?_
 have aq:=lt_ (lt_ a4 s2.s) h.s;obtain ⟨_,bc,aN⟩:=bdS aM;refine E z (fc call151 z<|W_w0z bc (zt' J aq)<|aJ.g<|(ao.e s2).c h<|g_ hd) ?_;rintro _ _ ⟨sm,az,L,O,be,rfl,bf,bg,hn⟩;refine Rf z a_1 z<|E0 (fs0 (cur':=vR x1 ae nf cg aj nk cl ar ns ct az L O) z_127 z z (ba.e sm) z z z z) ?_
 rintro _ _ ⟨bh,bi⟩;have ho:=bi.one;refine Wn<|Ws<|R z (lN (vs:=vR x1 ae nf cg aj nk cl ar ns ct az L O) Q_ t_ z z fid<|bh.row 0 8 z) ?_
 have h6:=mmr hh.lt;refine E0 (fs0 (cur':=vR x1 ae nf cg aj nk cl ar ns ct az L O) t_ z z (((((((((((((hh.e hi).c H<|djs h6).c ha<|djs h6).c hb<|djs h6).c hc<|djs h6).e s5).c h3<|djs h6).e s4).c h1<|djs h6).e s2).c h<|djs h6).e sm).c ho<|djs h6) z z z z) ?_;rintro _ _ ⟨bj,bk⟩;have hv:=bk.one;refine Wn ?_;obtain rfl:=som aN;have au:=lt_ (lt_ (lt_ H.s ha.s) hb.s) hc.s;have V:=s_ a1 hq.lt au;have av:=lt_ (lt_ (lt_ (lt_ hi.s H.s) ha.s) hb.s) hc.s;have aw:=lt_ (lt_ au s5.s) h3.s;have a5:=s_ hy hq.lt aw;have ax:=lt_ (lt_ av s5.s) h3.s;have ay:=lt_ (lt_ aw s4.s) h1.s;have aA:=s_ hu hq.lt ay;have aB:=lt_ (lt_ ax s4.s) h1.s;have G:=m1 Y;have aC:=lt_ (lt_ h3.s s4.s) h1.s;exact Wr<|c_ hr (q_ Q_ t_ z bj z) ⟨bM (bM (bup (bM (bup (bM (bup (bM (bup (bM (bM (bM (bM (bup (bup hw hp) hi) H G) ha G) hb G) hc G) s5) h3 G) s4) h1 G) s2) h G) sm) ho G) hv<|m1 hw.s,ae,nf,cg,aY,aj,nk,cl,b3,ar,ns,ct,b8,az,L,O,be,z,aD,aE,aF,(((((((hx.c h3 V).e s4).c h1 V).e s2).c h V).e sm).c ho V).c hv<|s_ a1 hh.lt av,(((((a3.c h1 a5).e s2).c h a5).e sm).c ho a5).c hv<|s_ hy hh.lt ax,(((ap.c h aA).e sm).c ho aA).c hv<|s_ hu hh.lt aB,(bf.c ho<|s_ hn hq.lt<|lt_ (lt_ ay s2.s) h.s).c hv<|s_ hn hh.lt<|lt_ (lt_ aB s2.s) h.s,na_ aZ (na_ b4 (na_ b9 bg<|ds<|a_T hn (a_.lt ap) h.s)<|nmA (ds<|a_T hu (a_.lt a3) h1.s)<|ds<|a_T hn (a_.lt a3)<|lt_ (lt_ h1.s s2.s) h.s)<|nmA (ds<|a_T hy (a_.lt hx) h3.s)<|nmA (ds<|a_T hu (a_.lt hx) aC)<|ds<|a_T hn (a_.lt hx)<|lt_ (lt_ aC s2.s) h.s,aa_ (o_ a1 a0)<|aa_ (o_ hy a2)<|aa_ (o_ hu a4)<|o_ hn aq⟩
def Q5 (w0:World)(B:Zone)(r:(List d_))(v:Value)(w':World):Prop:=Bw w0 w'/\(λI=>∃h G H S1,(sl h G H)=v/\a_ w' S1 (sl h G H) I/\S1.Nodup/\(∀k∈S1,w0.z<=k)) r
theorem W_w2j {x1:List d_}{res:(List d_)}(hm:l_d x1=some res)(O:B<=w0.z)(L:repS w0 B (sl A0 N0 C0) x1):h_ prog 90 [sl A0 N0 C0] w0 (Q5 w0 B res):=by
 unfold l_d at hm
 refine goG func90 z z z λfn hr=>Ws<|Rw z<|Wm z<|R z (lnR e_K z L) ?_
 obtain ⟨_,er,hms⟩:=bdS hm;refine E z (d_n (α:=d_) el_52 (λ_=>d_G (x:=(⟨(⟨[]⟩:Str),0,0,false,([]:Bt),([]:List Str),([]:List Int),([]:List Int)⟩:d_)) (S1:=([]:List Nat)) (S2:=([]:List Nat)) (S3:=([]:List Nat)) (S4:=([]:List Nat)) (lb z) (ii z) (ii z) onL onL onL onL) er z z) ?_;rintro _ h ⟨H,I,J,rfl,sa,ht⟩;refine Rw z<|Wq<|Ws<|Rw z ?_
 obtain ⟨_,huu,hme⟩:=bdS hms;refine Wf (σ:=List d_) (ρ:=List d_) (λ(kf:Nat)(x6:List d_) a w=>∃(G:List Nat),Sat 23 [(0,sl A0 N0 C0),(3,sl H I J),(4,vI ((kf:Nat):Int))] a/\Cg [w0.z] h w/\a_ w G (sl H I J) x6/\G.Nodup/\(∀k∈G,k∈[w0.z]∨h.z<=k)) (λ(x6:List d_) a w=>∃(G:List Nat),Sat 23 [(3,sl H I J)] a/\Cg [w0.z] h w/\a_ w G (sl H I J) x6/\G.Nodup/\(∀k∈G,k∈[w0.z]∨h.z<=k)) (rQ prog fn<|Q5 w0 B) huu ?_ ?_ ?_ ?_ ?_
 .exact λ_ q=>⟨[w0.z],q.k<|s3 z z z,cr [w0.z] h,ht,Z_,io sr⟩
 .rintro kf x6 _ wv _ hkg ⟨G,hSw,s4,h3,hb,hd⟩ hmx;refine Wu ?_ hSw;refine Wq<|Wm z<|Rm z ?_
  have hh:=L.g<|(sa.ag B).c s4<|g_ (or0 (e_ lr) (n_ O):∀k∈[w0.z],¬B k)
  refine R z (lnR e_K z hh)<|Rl z z z<|Wx z (λ_=>?_) (λhc=>(O_ hkg hc).elim)
  refine Wk<|Wq<|Wb<|Wg<|RM z z<|RM z z ?_
  obtain ⟨xz,a4,V⟩:=bdS hmx;refine RX z (at_ (α:=d_) e_K j_N z z z hh a4) ?_;rintro _ ⟨_,_,_,rfl,a5,a6,_⟩;obtain ⟨a8,a9,aa,ab,ad,ae,af,ah,ai,aj,ak,al,rfl,am,an,ao,ap,aq,ar,au⟩:=b_3 a6;refine R z (lN (vs:=vR xz a8 a9 aa ab ad ae af ah ai aj ak al) g_157 j_N z z fid a5) ?_;obtain ⟨av,aw,W⟩:=bdS V;refine E z (fc call124 z<|W_w2i aw (zt' O<|lt_ sa.s s4.s) am an ao ap aq ar au) ?_;rintro _ ax ⟨sc,_,_,_,Si,_,_,_,Sj,_,_,_,Sk,_,_,_,Sl,rfl,ay,az,aA,aB,aC,aD,aE,h2,h5⟩;obtain ⟨aF,em,Y⟩:=bdS W;have hn:=h3.e sc;refine RX z (b_c (α:=d_) a_2 t_ z z hn em) ?_;rintro _ ⟨_,aG,rfl⟩;refine E0 (b_7 (α:=d_) t_ z aG z z z em hn hb (d_G (x:=av) (S1:=Si) (S2:=Sj) (S3:=Sk) (S4:=Sl) ay az aA aB aC aD aE) (aa_ (a_T (al_ h5) (a_.lt h3) lr)<|aa_ (a_T (al_<|ar_ h5) (a_.lt h3) lr)<|aa_ (a_T (al_<|ar_<|ar_ h5) (a_.lt h3) lr)<|a_T (ar_<|ar_<|ar_ h5) (a_.lt h3) lr)<|na_ (nl_ h2) (na_ (nl_<|nr_ h2) (na_ (nl_<|nr_<|nr_ h2) (nr_<|nr_<|nr_ h2)<|nj<|nr_<|nr_ h2)<|nmA (nmL<|nj<|nr_ h2)<|nmR<|nj<|nr_ h2)<|nmA (nmL<|nj h2)<|nmA (nmL<|nmR<|nj h2)<|nmR<|nmR<|nj h2) ?_;rintro _ aH ⟨So,aI,aJ,aK,aL⟩;refine Wn<|Wg<|Rm z<|R z (inc_ hkg (lt_ (repS.len L) z_) z z)<|Ra z<|Wl ?_
  have hp:∀k∈G,k∈[w0.z]∨h.z<=k:=or1 hd (io sr)<|j_ lr;exact λ_ q=>⟨aF,(som Y).symm,⟨So,q.k<|s3 z z z,(cM (i_ (cM (cr [w0.z] h) s4 (io sr):Cg [w0.z] h wv) sc:Cg [w0.z] h ax) aI hp:Cg [w0.z] h aH),aJ,aK,(or2 aL hp (aa_ (or0 (al_ h5) (j_ s4.s):∀k∈Si,k∈[w0.z]∨h.z<=k)<|aa_ (or0 (al_<|ar_ h5) (j_ s4.s):∀k∈Sj,k∈[w0.z]∨h.z<=k)<|aa_ (or0 (al_<|ar_<|ar_ h5) (j_ s4.s):∀k∈Sk,k∈[w0.z]∨h.z<=k) (or0 (ar_<|ar_<|ar_ h5) (j_ s4.s):∀k∈Sl,k∈[w0.z]∨h.z<=k)) (j_<|lt_ s4.s sc.s):∀k∈So,k∈[w0.z]∨h.z<=k)⟩⟩
 .rintro x6 _ aM ⟨G,a0,sq,h3,hb,hd⟩;refine Wu ?_ a0;refine Wq<|Wm z<|Rm z ?_
  refine R z (lnR e_K z<|L.g<|(sa.ag B).c sq<|g_ (or0 (e_ lr) (n_ O):∀k∈[w0.z],¬B k))<|Rl z z z<|Wx z (λhc=>(P_ hc).elim) (λ_=>?_)
  exact We<|λ_ q=>⟨rfl,⟨G,q.k<|s1 z,(cM (cr [w0.z] h) sq (io sr):Cg [w0.z] h aM),h3,hb,(or1 hd (io sr) (j_ lr):∀k∈G,k∈[w0.z]∨h.z<=k)⟩⟩
 .rintro x6 aN _ rfl ⟨G,_,aO,h3,hb,hd⟩;have a1:=elL hme;revert aN;refine Wo<|Wm z<|Rw z ?_
  obtain rfl:=som a1;exact Wr<|c_ hr z ⟨bM sa aO<|e_ lr,H,I,J,G,z,h3,hb,(or1 hd (e_ lr) (a_W sa.s):∀k∈G,w0.z<=k)⟩
 rintro _ _ _ _ rfl ⟨rfl,a2⟩;have a3:=elR hme;obtain rfl:=som a3;exact ⟨a2,z⟩
def Q6 (w0:World)(B:Zone)(r:f_)(v:Value)(w':World):Prop:=Bw w0 w'/\(λI=>∃h G H S1,(.agg #[.slice h G H])=v/\a_ w' S1 (sl h G H) I.rules/\S1.Nodup/\(∀k∈S1,w0.z<=k)) r
theorem W_w2k {x1:f_}{res:f_}(hm:i_b x1=some res)(V:B<=w0.z)(O:repS w0 B (sl A0 N0 C0) x1.rules):h_ prog 61 [(.agg #[sl A0 N0 C0])] w0 (Q6 w0 B res):=by
 unfold i_b at hm
 refine goG func61 z z z λfn hr=>Ws<|E z (fb z) ?_
 rintro _ wa ⟨rfl,hb⟩;have h1:=hb.below;refine E z (fa l_M) ?_;rintro _ wc ⟨rfl,hd⟩;have h2:=hd.below;have h6:Blk wc wa.z [sN]:=hd.blk;refine Wn<|Ws<|E z (fa l_M) ?_
 rintro _ wk ⟨rfl,he⟩;have h:=he.below;have hf:Blk wk wc.z [sN]:=he.blk;refine Wn<|Ws<|Rf z n_Q z<|R z (l0 g_89 z<|(((hb.blk:Blk wa w0.z [sl A0 N0 C0]).e h2).e h).at z) ?_
 have hg:=lt_ h1.s h2.s;have hh:=lt_ hg h.s;obtain ⟨_,el,hmm⟩:=bdS hm;refine E z (fc call90 z<|W_w2j el (zt' V hh)<|O.g<|((h1.ag B).e h2).e h) ?_;rintro _ _ ⟨s7,G,H,I,Sn,rfl,ho,hp,J⟩;refine Rf z a_s z<|E0 (fs0 (cur':=[sl G H I]) z_52 z z (hf.e s7) z z z z) ?_
 rintro _ _ ⟨hq,sr⟩;have L:=sr.one;refine Wn<|Ws<|R z (lN (vs:=[sl G H I]) L_ D_ z z fid<|hq.row 0 1 z)<|E0 (fs0 (cur':=[sl G H I]) D_ z z (((h6.e h).e s7).c L<|djs<|mmr h6.lt) z z z z) ?_
 rintro _ _ ⟨ht,ss⟩;have hi:=ss.one;refine Wn ?_;obtain rfl:=som hmm;exact Wr<|c_ hr (q_ L_ D_ z ht z) ⟨bM (bM (bup (bup (bup h1 h2) h) s7) L<|m1 hg) hi<|m1 h1.s,G,H,I,Sn,z,(ho.c L<|s_ J hf.lt lr).c hi<|s_ J h6.lt h.s,hp,o_ J hh⟩
def Q7 (w0:World)(B:Zone)(r:(List f_))(v:Value)(w':World):Prop:=Bw w0 w'/\(λI=>∃h G H S1,(sl h G H)=v/\a_ w' S1 (sl h G H) I/\S1.Nodup/\(∀k∈S1,w0.z<=k)) r
theorem W_w2l {x1:List f_}{res:(List f_)}(hm:j_b x1=some res)(V:B<=w0.z)(O:repS w0 B (sl A0 N0 C0) x1):h_ prog 38 [sl A0 N0 C0] w0 (Q7 w0 B res):=by
 unfold j_b at hm
 refine goG func38 z z z λfn hr=>Ws<|Rw z<|Wm z<|R z (lnR e_J z O) ?_
 obtain ⟨_,en,hmo⟩:=bdS hm;refine E z (d_n (α:=f_) el_33 (λ_=>l_G (x:=(⟨([]:List d_)⟩:f_)) (S1:=([]:List Nat)) onL) en z z) ?_;rintro _ h ⟨H,I,J,rfl,s7,hp⟩;refine Rw z<|Wq<|Ws<|Rw z ?_
 obtain ⟨_,huq,hmc⟩:=bdS hmo;refine Wf (σ:=List f_) (ρ:=List f_) (λ(kd:Nat)(x2:List f_) a w=>∃(G:List Nat),Sat 23 [(0,sl A0 N0 C0),(3,sl H I J),(4,vI ((kd:Nat):Int))] a/\Cg [w0.z] h w/\a_ w G (sl H I J) x2/\G.Nodup/\(∀k∈G,k∈[w0.z]∨h.z<=k)) (λ(x2:List f_) a w=>∃(G:List Nat),Sat 23 [(3,sl H I J)] a/\Cg [w0.z] h w/\a_ w G (sl H I J) x2/\G.Nodup/\(∀k∈G,k∈[w0.z]∨h.z<=k)) (rQ prog fn<|Q7 w0 B) huq ?_ ?_ ?_ ?_ ?_
 .exact λ_ q=>⟨[w0.z],q.k<|s3 z z z,cr [w0.z] h,hp,Z_,io sr⟩
 .rintro kd x2 _ wr _ hke ⟨G,hSs,s8,h3,L,ha⟩ hmt;refine Wu ?_ hSs;refine Wq<|Wm z<|Rm z ?_
  have hf:=O.g<|(s7.ag B).c s8<|g_ (or0 (e_ lr) (n_ V):∀k∈[w0.z],¬B k)
  refine R z (lnR e_J z hf)<|Rl z z z<|Wx z (λ_=>?_) (λhc=>(O_ hke hc).elim)
  refine Wk<|Wq<|Wb<|Wg<|RM z z<|RM z z ?_
  obtain ⟨_,ev,hmw⟩:=bdS hmt;refine RX z (at_ (α:=f_) e_J z_91 z z z hf ev) ?_;rintro _ ⟨_,_,_,rfl,hx,hy,_⟩;obtain ⟨az,a5,a6,rfl,a7⟩:=d_H hy;refine R z (lN (vs:=[sl az a5 a6]) g_91 z_91 z z fid hx) ?_;obtain ⟨a8,a9,W⟩:=bdS hmw;refine E z (fc call61 z<|W_w2k a9 (zt' V<|lt_ s7.s s8.s) a7) ?_;rintro _ aa ⟨sb,_,_,_,Sg,rfl,ab,ad,hh⟩;obtain ⟨ae,ei,Y⟩:=bdS W;have hj:=h3.e sb;refine RX z (b_c (α:=f_) b_r D_ z z hj ei) ?_;rintro _ ⟨_,af,rfl⟩;refine E0 (b_7 (α:=f_) D_ z af z z z ei hj L (l_G (x:=a8) (S1:=Sg) ab) (a_T hh (a_.lt h3) lr) ad) ?_;rintro _ ah ⟨Sk,ai,aj,ak,al⟩;refine Wn<|Wg<|Rm z<|R z (inc_ hke (lt_ (repS.len O) z_) z z)<|Ra z<|Wl ?_
  have hl:∀k∈G,k∈[w0.z]∨h.z<=k:=or1 ha (io sr)<|j_ lr;exact λ_ q=>⟨ae,(som Y).symm,⟨Sk,q.k<|s3 z z z,(cM (i_ (cM (cr [w0.z] h) s8 (io sr):Cg [w0.z] h wr) sb:Cg [w0.z] h aa) ai hl:Cg [w0.z] h ah),aj,ak,(or2 al hl (or0 hh (j_ s8.s):∀k∈Sg,k∈[w0.z]∨h.z<=k) (j_<|lt_ s8.s sb.s):∀k∈Sk,k∈[w0.z]∨h.z<=k)⟩⟩
 .rintro x2 _ am ⟨G,a0,sm,h3,L,ha⟩;refine Wu ?_ a0;refine Wq<|Wm z<|Rm z ?_
  refine R z (lnR e_J z<|O.g<|(s7.ag B).c sm<|g_ (or0 (e_ lr) (n_ V):∀k∈[w0.z],¬B k))<|Rl z z z<|Wx z (λhc=>(P_ hc).elim) (λ_=>?_)
  exact We<|λ_ q=>⟨rfl,⟨G,q.k<|s1 z,(cM (cr [w0.z] h) sm (io sr):Cg [w0.z] h am),h3,L,(or1 ha (io sr) (j_ lr):∀k∈G,k∈[w0.z]∨h.z<=k)⟩⟩
 .rintro x2 an _ rfl ⟨G,_,ao,h3,L,ha⟩;have a1:=elL hmc;revert an;refine Wo<|Wm z<|Rw z ?_
  obtain rfl:=som a1;exact Wr<|c_ hr z ⟨bM s7 ao<|e_ lr,H,I,J,G,z,h3,L,(or1 ha (e_ lr) (a_W s7.s):∀k∈G,w0.z<=k)⟩
 rintro _ _ _ _ rfl ⟨rfl,a2⟩;have a3:=elR hmc;obtain rfl:=som a3;exact ⟨a2,z⟩
def Q8 (w0:World)(B:Zone)(r:a_c)(v:Value)(w':World):Prop:=Bw w0 w'/\(λI=>∃h G H S1,(.agg #[.slice h G H])=v/\a_ w' S1 (sl h G H) I.versions/\S1.Nodup/\(∀k∈S1,w0.z<=k)) r
theorem W_w2m {x1:a_c}{res:a_c}(hm:l_q x1=some res)(V:B<=w0.z)(O:repS w0 B (sl A0 N0 C0) x1.versions):h_ prog 19 [(.agg #[sl A0 N0 C0])] w0 (Q8 w0 B res):=by
 unfold l_q at hm
 refine goG func19 z z z λfn hr=>Ws<|E z (fb z) ?_
 rintro _ wa ⟨rfl,hb⟩;have h1:=hb.below;refine E z (fa n_R) ?_;rintro _ wc ⟨rfl,hd⟩;have h2:=hd.below;have h6:Blk wc wa.z [sN]:=hd.blk;refine Wn<|Ws<|E z (fa n_R) ?_
 rintro _ wk ⟨rfl,he⟩;have h:=he.below;have hf:Blk wk wc.z [sN]:=he.blk;refine Wn<|Ws<|Rf z n_K z<|R z (l0 g_22 z<|(((hb.blk:Blk wa w0.z [sl A0 N0 C0]).e h2).e h).at z) ?_
 have hg:=lt_ h1.s h2.s;have hh:=lt_ hg h.s;obtain ⟨_,el,hmm⟩:=bdS hm;refine E z (fc call38 z<|W_w2l el (zt' V hh)<|O.g<|((h1.ag B).e h2).e h) ?_;rintro _ _ ⟨s7,G,H,I,Sn,rfl,ho,hp,J⟩;refine Rf z c_5 z<|E0 (fs0 (cur':=[sl G H I]) z_33 z z (hf.e s7) z z z z) ?_
 rintro _ _ ⟨hq,sr⟩;have L:=sr.one;refine Wn<|Ws<|R z (lN (vs:=[sl G H I]) e_G d_Q z z fid<|hq.row 0 1 z)<|E0 (fs0 (cur':=[sl G H I]) d_Q z z (((h6.e h).e s7).c L<|djs<|mmr h6.lt) z z z z) ?_
 rintro _ _ ⟨ht,ss⟩;have hi:=ss.one;refine Wn ?_;obtain rfl:=som hmm;exact Wr<|c_ hr (q_ e_G d_Q z ht z) ⟨bM (bM (bup (bup (bup h1 h2) h) s7) L<|m1 hg) hi<|m1 h1.s,G,H,I,Sn,z,(ho.c L<|s_ J hf.lt lr).c hi<|s_ J h6.lt h.s,hp,o_ J hh⟩
def Q9 (w0:World)(B:Zone)(r:Log)(v:Value)(w':World):Prop:=Bw w0 w'/\(λh=>∃G H I S1,(.agg #[.slice G H I,vI h.stored])=v/\a_ w' S1 (sl G H I) h.bytes/\inI h.stored/\S1.Nodup/\(∀k∈S1,w0.z<=k)) r
theorem W_w2n {x1:Log}{res:Log}(hm:l_r x1=some res)(W:B<=w0.z)(O:repS w0 B (sl A0 N0 C0) x1.bytes)(V:inI x1.stored):h_ prog 20 [(.agg #[sl A0 N0 C0,vI x1.stored])] w0 (Q9 w0 B res):=by
 unfold l_r at hm
 refine goG func20 z z z λfn hr=>Ws<|E z (fb z) ?_
 rintro _ wb ⟨rfl,hc⟩;have h5:=hc.below;have hd:Blk wb w0.z [sl A0 N0 C0,vI x1.stored]:=hc.blk;refine E z (fa n_S) ?_;rintro _ we ⟨rfl,hf⟩;have h1:=hf.below;have J:Blk we wb.z [sN,vI 0]:=hf.blk;refine Wn<|Ws<|E z (fa n_S) ?_
 rintro _ wm ⟨rfl,hg⟩;have h:=hg.below;have hh:Blk wm we.z [sN,vI 0]:=hg.blk;refine Wn<|Ws<|Rf z n_L z ?_
 have hi:=(hd.e h1).e h;refine R z (l0 K_ z<|hi.at z) ?_;have hj:=lt_ h5.s h1.s;have hk:=lt_ hj h.s;obtain ⟨_,eq,hmr⟩:=bdS hm;refine E z (fc call39 z<|W_w0y eq (zt' W hk)<|O.g<|((h5.ag B).e h1).e h) ?_;rintro _ _ ⟨s6,a2,G,H,Ss,rfl,ht,hu,L⟩;refine Rf z c_6 z<|E0 (fs0 (cur':=[sl a2 G H,vI 0]) z_25 z z (hh.e s6) z z z z) ?_
 rintro _ _ ⟨hv,sw⟩;have I:=sw.one;refine Wn<|Ws<|Rf z f_27_1 z<|R z (l0 g_3 z<|((hi.e s6).c I<|djs<|mm1 hd.lt h1.s).at z)<|Rf z e_h z<|E0 (fs0 (cur':=[sl a2 G H,vI x1.stored]) z_3 z z hv z z z z) ?_
 rintro _ _ ⟨hx,sy⟩;have ha:=sy.one;refine Wn<|Ws<|R z (lN (vs:=[sl a2 G H,vI x1.stored]) e_f d_l z z fid<|hx.row 0 2 z) ?_
 have hl:=mmr J.lt;refine E0 (fs0 (cur':=[sl a2 G H,vI x1.stored]) d_l z z ((((J.e h).e s6).c I<|djs hl).c ha<|djs hl) z z z z) ?_;rintro _ _ ⟨hz,Y⟩;have hn:=Y.one;refine Wn ?_;obtain rfl:=som hmr;have ho:=s_ L hh.lt lr;have hp:=m1 hj;exact Wr<|c_ hr (q_ e_f d_l z hz z) ⟨bM (bM (bM (bup (bup (bup h5 h1) h) s6) I hp) ha hp) hn<|m1 h5.s,a2,G,H,Ss,z,((ht.c I ho).c ha ho).c hn<|s_ L J.lt h.s,V,hu,o_ L hk⟩
def Q10 (w0:World)(B:Zone)(r:J_)(v:Value)(w':World):Prop:=Bw w0 w'/\(λh=>∃G H I S1 a2 J L S2,(.agg #[.slice G H I,sl a2 J L,vI h.log.stored])=v/\a_ w' S1 (sl G H I) h.registry.versions/\a_ w' S2 (sl a2 J L) h.log.bytes/\inI h.log.stored/\(S1++S2).Nodup/\(∀k∈(S1++S2),w0.z<=k)) r
theorem j_S {x1:J_}{res:J_}(hm:f_g x1=some res)(O:B<=w0.z)(V:repS w0 B (sl A0 N0 C0) x1.registry.versions)(W:repS w0 B (sl A1 N1 C1) x1.log.bytes)(Y:inI x1.log.stored):h_ prog 6 [(.agg #[sl A0 N0 C0,sl A1 N1 C1,vI x1.log.stored])] w0 (Q10 w0 B res):=by
 unfold f_g at hm
 refine goG func6 z z z λfn hr=>Ws<|E z (fb z) ?_
 rintro _ wm ⟨rfl,hn⟩;have J:=hn.below;have ho:Blk wm w0.z [sl A0 N0 C0,sl A1 N1 C1,vI x1.log.stored]:=hn.blk;refine E z (fa l_L) ?_;rintro _ wf ⟨rfl,hp⟩;have h3:=hp.below;have L:Blk wf wm.z [sN,sN,vI 0]:=hp.blk;refine Wn<|Ws<|E z (fa l_L) ?_
 rintro _ wr ⟨rfl,hq⟩;have h2:=hq.below;have hg:Blk wr wf.z [sN,sN,vI 0]:=hq.blk;refine Wn<|Ws<|Rf z n_M z ?_
 have ht:=(ho.e h3).e h2;refine R z (lN (vs:=[sl A0 N0 C0]) g_24 z_24 z z fid<|ht.row 0 1 z) ?_;have hu:=((J.ag B).e h3).e h2;have hh:=lt_ J.s h3.s;have hi:=lt_ hh h2.s;obtain ⟨_,es,a0⟩:=bdS hm;refine E z (fc call19 z<|W_w2m (B:=B) (x1:=(⟨x1.registry.versions⟩:a_c)) es (zt' O hi)<|V.g hu) ?_;rintro _ _ ⟨s1,G,H,I,a2,rfl,hv,a3,hj⟩;refine Rf z c_P z<|E0 (fs0 (cur':=[sl G H I,sN,vI 0]) d_Q z z (hg.e s1) z z z z) ?_
 rintro _ _ ⟨a5,a6⟩;have h:=a6.one;refine Wn<|Ws<|Rf z n_N z<|R z (lN (vs:=[sl A1 N1 C1,vI x1.log.stored]) g_27 z_27 z z fid<|((ht.e s1).c h<|djs<|mm1 ho.lt h3.s).row 1 2 z) ?_
 have hw:=lt_ (lt_ hi s1.s) h.s;obtain ⟨rk,a7,a1⟩:=bdS a0;refine E z (fc call20 z<|W_w2n (B:=B) (x1:=(⟨x1.log.bytes,x1.log.stored⟩:Log)) a7 (zt' O hw) (W.g<|(hu.e s1).c h<|g_ (or0 (e_ lr) (n_<|zt' O hh):∀k∈[wf.z],¬B k)) Y) ?_;rintro _ _ ⟨s9,aa,nb,cc,a8,rfl,a9,ab,ad,hd⟩;refine Rf z c_B z<|E0 (fs0 (cur':=[sl G H I,sl aa nb cc,vI rk.stored]) d_l z z (a5.e s9) z z z z) ?_
 rintro _ _ ⟨ae,af⟩;have he:=af.one;refine Wn<|Ws<|R z (lN (vs:=[sl G H I,sl aa nb cc,vI rk.stored]) d_K c_S z z fid<|ae.row 0 3 z) ?_
 have hx:=mmr L.lt;refine E0 (fs0 (cur':=[sl G H I,sl aa nb cc,vI rk.stored]) c_S z z (((((L.e h2).e s1).c h<|djs hx).e s9).c he<|djs hx) z z z z) ?_;rintro _ _ ⟨ah,ai⟩;have hl:=ai.one;refine Wn ?_;obtain rfl:=som a1;have hy:=s_ hj hg.lt lr;have hz:=m1 hh;exact Wr<|c_ hr (q_ d_K c_S z ah z) ⟨bM (bM (bup (bM (bup (bup (bup J h3) h2) s1) h hz) s9) he hz) hl<|m1 J.s,G,H,I,a2,aa,nb,cc,a8,z,(((hv.c h hy).e s9).c he hy).c hl<|s_ hj L.lt h2.s,(a9.c he<|s_ hd hg.lt<|lt_ s1.s h.s).c hl<|s_ hd L.lt<|lt_ (lt_ h2.s s1.s) h.s,ab,na_ a3 ad<|ds<|a_T hd (a_.lt hv) h.s,aa_ (o_ hj hi)<|o_ hd hw⟩
def Q11 (w0:World)(B:Zone)(r:Bool)(v:Value)(w':World):Prop:=Bw w0 w'/\(λh=>(vB h)=v) r
theorem b_a {x1:Int}{x2:Int}{x3:Int}{res:Bool}(hm:a_I x1 x2 x3=some res)(W:B<=w0.z)(L:inI x1)(O:inI x2)(V:inI x3):h_ prog 51 [vI x1,vI x2,vI x3] w0 (Q11 w0 B res):=by
 unfold a_I at hm
 refine goG func51 z z z λfn hr=>Ws<|Rw z<|Wq ?_
 obtain ⟨I,G,H⟩:=bdS hm;refine Wt (λa w=>∃(x4:Bool),x4=I/\Sat 15 [(6,vB x4)] a/\Below w0.z w0 w) ?_ ?_
 .refine Wg<|RM z z<|R z (b_t z z)<|Rm z ?_
  rcases bs (decide<|x2<=x1) with h | h
  .exact Rh z h (mv z)<|Rh z h (mv z)<|Rh z h (d_0 z z)<|R z (pT z h z)<|Ra z<|Wl (λ_ q=>⟨decide<|x1<=x3,som<|ifT G h,q.k<|s1 z,br w0⟩)
  iterate 3 refine Nh z h ?_
  exact R z (pF z h z)<|Ra z<|Wl (λ_ q=>⟨false,som<|ifF G h,q.k<|s1 z,br w0⟩)
 rintro J _ ⟨x4,rfl,_,s6⟩;revert J;refine Wo ?_;obtain rfl:=som H;exact Wr<|c_ hr z ⟨s6,z⟩
theorem W_w10 {x1:Bt}{x2:Bool}{res:Int}(hm:g_Q x1 x2=some res)(O:B<=w0.z)(h:repS w0 B (sl A0 N0 C0) x1):h_ prog 78 [sl A0 N0 C0,vB x2] w0 (Q0 w0 B res):=by
 unfold g_Q at hm
 refine goG func78 z z z λfn hr=>Ws<|Rw z<|Ws<|Rw z<|Wq<|Wm z<|R z (lnR k_ z h)<|R z (X_ z z)<|Wx z (λH=>?_) (λH=>?_)
 .refine Ws<|Rw z ?_
  obtain rfl:=som<|ifT hm H;exact Wr<|c_ hr z ⟨br w0,z,ii z⟩
 refine Wk<|Wq<|Ws<|Rw z ?_
 obtain ⟨_,hue,L⟩:=bdS<|ifF hm H;refine Wf (σ:=Int) (ρ:=Int) (λ(k1:Nat)(x0:Int) a w=>Sat 33 [(0,sl A0 N0 C0),(1,vB x2),(5,vI x0),(6,vI ((k1:Nat):Int))] a/\Below w0.z w0 w/\inI x0) (λ(x0:Int) a w=>Sat 33 [(5,vI x0)] a/\Below w0.z w0 w/\inI x0) (rQ prog fn<|Q0 w0 B) hue ?_ ?_ ?_ ?_ ?_
 .exact λ_ q=>⟨q.k<|s4 z z z z,br w0,ii z⟩
 .rintro k1 x0 _ G _ I ⟨hSf,s7,h3⟩ hmg;refine Wu ?_ hSf;refine Wq<|Wm z<|Rm z ?_
  have ha:=h.e s7;refine R z (lnR k_ z ha)<|Rl z z z<|Wx z (λ_=>?_) (λhc=>(O_ I hc).elim)
  refine Wk<|Wq<|Wb<|Wm z<|Rw z<|Wq<|Wm z<|Wn ?_
  obtain ⟨uh,hub,hmi⟩:=bdS hmg;refine Wt (λa w=>∃(x4:Int),x4=uh/\Sat 33 [(0,sl A0 N0 C0),(1,vB x2),(5,vI x0),(6,vI ((k1:Nat):Int)),(7,vI x4)] a/\Below G.z G w/\inI x4) ?_ ?_
  .refine Wc z (λJ=>?_)<|λJ=>?_
   .exact Wg<|Rm z<|R z (lnR k_ z ha)<|R z (sb_ z z)<|Rm z<|R z (sb_ z z)<|Ra z<|Wl (λ_ q=>⟨w_ (w_ (x1.length:Int) 1) ((k1:Nat):Int),som<|ifT hub J,q.k<|s5 z z z z z,br G,iS _ _⟩)
   exact a_j<|λ_ q=>⟨((k1:Nat):Int),som<|ifF hub J,q.k<|s5 z z z z z,br G,ic (Nat.le_of_lt I)<|lt_ (repS.len h) z_⟩
  rintro aj _ ⟨x4,rfl,_,sc,_⟩;revert aj;refine Wo<|Wg<|Rm z<|R z (g_n z z)<|RM z z ?_
  obtain ⟨xk,el,hmm⟩:=bdS hmi;refine RX z (at_ (α:=UInt8) k_ z_5 z z z (h.g<|(s7.ag B).e sc) el) ?_;rintro _ ⟨_,_,_,rfl,hn,ho,_⟩;obtain rfl:=u8 ho;exact R z (l0 g_5 z<|hn.at0 z)<|R z (b_s d_5 d_3 z)<|R z (add_ z z)<|Rw z<|Wg<|Rm z<|R z (inc_ I (lt_ (repS.len h) z_) z z)<|Ra z<|Wl (λ_ q=>⟨b_ (b_e x0 256)<|byteI xk,(som hmm).symm,⟨q.k<|s4 z z z z,bup s7 sc,iA _ _⟩⟩)
 .rintro x0 _ _ ⟨hSp,sd,h3⟩;refine Wu ?_ hSp;refine Wq<|Wm z<|Rm z<|R z (lnR k_ z<|h.e sd)<|Rl z z z<|Wx z (λhc=>(P_ hc).elim) (λ_=>?_)
  exact We<|λ_ q=>⟨rfl,⟨q.k<|s1 z,sd,h3⟩⟩
 .rintro x0 aq _ rfl ⟨_,sr,h3⟩;have hms:=elL L;revert aq;refine Wo<|Wm z<|Rw z ?_
  obtain rfl:=som hms;exact Wr<|c_ hr z ⟨sr,z,h3⟩
 rintro _ _ _ _ rfl ⟨rfl,hqt⟩;have hmu:=elR L;obtain rfl:=som hmu;exact ⟨hqt,z⟩
def Q12 (w0:World)(B:Zone)(r:Bt×Bool)(v:Value)(w':World):Prop:=Bw w0 w'/\un2 (λI J=>∃h G H S1,v = .tuple #[sl h G H,vB J]/\a_ w' S1 (sl h G H) I/\S1.Nodup/\(∀k∈S1,w0.z<=k)) r
theorem W_w2o {x1:Bt}{res:Bt×Bool}(hm:j_c n x1=some res)(aj:B<=w0.z)(O:repS w0 B (sl A0 N0 C0) x1):h_ prog 79 [sl A0 N0 C0] w0 (Q12 w0 B res):=by
 unfold j_c at hm
 refine goG func79 z z z λfn hr=>Ws<|Ra z<|Rw z<|Ws<|E z (f0 (α:=UInt8) M_) ?_
 rintro _ H ⟨aU,aV,aW,rfl,s7,aX⟩;refine Rw z<|Wq<|Ws<|Rw z ?_
 obtain ⟨_,az,a7⟩:=bdS hm;refine a_X (σ:=Bt×Int) (ρ:=Bt×Bool) (λs a w=>un2 (λxk x4=>∃I J L h,Sat 79 [(0,sl A0 N0 C0),(4,sl I J L),(5,vI x4)] a/\Cg [w0.z] H w/\a_ w h (sl I J L) xk/\h.Nodup/\(∀k∈h,k∈[w0.z]∨H.z<=k)/\inI x4) s) (λs a w=>un2 (λxk x4=>∃I J L h,Sat 79 [(4,sl I J L)] a/\Cg [w0.z] H w/\a_ w h (sl I J L) xk/\h.Nodup/\(∀k∈h,k∈[w0.z]∨H.z<=k)/\inI x4) s) (rQ prog fn<|Q12 w0 B) az ?_ ?_ ?_ ?_
 .exact λ_ q=>⟨aU,aV,aW,[w0.z],q.k<|s3 z z z,cr [w0.z] H,aX,Z_,io sr,ii z⟩
 .rintro ⟨xk,x4⟩ _ wg _ ⟨I,J,L,h,aA,sb,hl,hn,hi,ak⟩ aB;have a8:=a_7 aB;refine Wu ?_ aA;refine Wq<|Wm z<|Rm z ?_
  have al:∀k∈[w0.z],¬B k:=or0 (e_ lr)<|n_ aj;have hw:=(s7.ag B).c sb<|g_ al
  have hx:=O.g hw;refine R z (lnR k_ z hx)<|Rl z z z<|Wx z (λhcy=>?_) (λhcy=>?_)
  .refine Wk<|Wb<|Wm z<|Rm z ?_
   obtain ⟨xm,aY,aC⟩:=bdS<|ifT a8 hcy;refine RX z (at_ (α:=UInt8) k_ z_5 z z z hx aY) ?_;rintro _ ⟨_,_,_,rfl,aZ,b0,_⟩;obtain rfl:=u8 b0;refine R z (l0 g_5 z<|aZ.at0 z)<|R z (b_s d_5 d_3 z)<|Rw z<|Wq<|Wb<|Wq ?_
   obtain ⟨b1,a9,aa⟩:=bdS aC;refine Wt (λa w=>∃(xz:Bool),xz=b1/\Sat 79 [(0,sl A0 N0 C0),(4,sl I J L),(5,vI x4),(6,vI<|byteI xm),(40,vB xz)] a/\Below wg.z wg w) ?_ ?_
   .refine Wg<|Rm z<|Rq z z z<|Rm z ?_
    rcases bs ((byteI xm)==0) with hcf | hcf
    .exact Nh z hcf<|Nh z hcf<|R z (pT z hcf z)<|Rm z<|Nh z z<|Nh z z<|Nh z z<|Nh z z<|Nh z z<|R z (pT z z z)<|Ra z<|Wl (λ_ q=>⟨true,som<|ifT a9 hcf,q.k<|s5 z z z z z,br wg⟩)
    have ab:=ifF a9 hcf;refine Rh z hcf (mv z)<|Rh z hcf (eql z z)<|R z (pF z hcf z)<|Rm z ?_
    rcases bs ((byteI xm)==128) with hca | hca
    .iterate 5 refine Nh z hca ?_
     exact R z (pT z hca z)<|Ra z<|Wl (λ_ q=>⟨true,som<|ifT ab hca,q.k<|s5 z z z z z,br wg⟩)
    exact Rh z hca (mv z)<|Rh z hca (add_ z z)<|Rh z hca (mv z)<|Rh z hca (lnR k_ z hx)<|Rh z hca (b_t z z)<|R z (pF z hca z)<|Ra z<|Wl (λ_ q=>⟨decide<|(x1.length:Int)<=(b_ x4 1),som<|ifF ab hca,q.k<|s5 z z z z z,br wg⟩)
   rintro b2 G ⟨xz,rfl,_,s6⟩;revert b2;refine Wo<|Wc z (λV=>?_) (λV=>?_)
   .refine Ws<|E z (f0 (α:=UInt8) M_) ?_
    rintro _ _ ⟨b3,b4,b5,rfl,b6,b7⟩;exact Ra z<|Rw z<|Wr<|rtO<|rtO<|qL (som<|ifT aa V).symm<|a_0 hr z z ⟨bup (bup (bM s7 sb<|e_ lr) s6) b6,b3,b4,b5,[G.z],z,b7,Z_,m1<|lt_ (lt_ s7.s sb.s) s6.s⟩
   refine Wm z<|R z (X_ z z)<|Rw z ?_
   obtain ⟨b8,ad,W⟩:=bdS<|ifF aa V;refine Wt (λa w=>∃(xr:Bt)(xo:Int),Sum.inl (xr,xo)=b8/\∃au ns cv Sj,Sat 79 [(0,sl A0 N0 C0),(4,sl au ns cv),(5,vI xo)] a/\Cg h G w/\a_ w Sj (sl au ns cv) xr/\Sj.Nodup/\(∀k∈Sj,k∈h∨G.z<=k)/\inI xo) ?_ ?_
   .refine Wc z (λY=>?_)<|λY=>?_
    .refine Wq<|Ws<|Rw z ?_
     obtain ⟨_,aD,ae⟩:=bdS<|ifT ad Y;refine Wf (σ:=Bt) (ρ:=Bt×Bool) (λ(am:Nat)(xh:Bt) a w=>∃ac nd ce S2,Sat 79 [(0,sl A0 N0 C0),(4,sl ac nd ce),(5,vI x4),(6,vI<|byteI xm),(7,vI ((am:Nat):Int))] a/\Cg h G w/\a_ w S2 (sl ac nd ce) xh/\S2.Nodup/\(∀k∈S2,k∈h∨G.z<=k)) (λ(xh:Bt) a w=>∃ac nd ce S2,Sat 79 [(0,sl A0 N0 C0),(4,sl ac nd ce),(5,vI x4)] a/\Cg h G w/\a_ w S2 (sl ac nd ce) xh/\S2.Nodup/\(∀k∈S2,k∈h∨G.z<=k)) (rQ prog fn<|Q12 w0 B) aD ?_ ?_ ?_ ?_ ?_
     .exact λ_ q=>⟨I,J,L,h,q.k<|s5 z z z z z,cr h G,hl.e s6,hn,io sr⟩
     .rintro am xh _ an _ af ⟨ac,nd,ce,S2,aE,a2,hp,hq,ht⟩ aF;refine Wu ?_ aE;refine Wq<|Wm z<|Rm z<|R z (sb_ z z)<|Rl z z z<|Wx z (λ_=>?_) (λhc=>(k_m af hc).elim)
      refine Wk<|Wq<|Wb<|Wg<|RM z z<|Rm z<|R z (add_ z z) ?_
      obtain ⟨b9,ba,aG⟩:=bdS aF;refine RX z (at_ (α:=UInt8) k_ z_5 z z z (O.g<|(hw.e s6).c a2<|g_ (or1 hi al (n_<|zt' aj s7.s):∀k∈h,¬B k)) ba) ?_;rintro _ ⟨_,_,_,rfl,bb,bc,_⟩;obtain rfl:=u8 bc;refine R z (l0 g_5 z<|bb.at0 z)<|E z (fS [(.tmp 69)] M_ z z z (a_v z) (lb z)<|lb z) ?_
      rintro _ ao ⟨rfl,a3⟩;have a4:=a3.below;have c0:=b_D a3 b_b;obtain ⟨be,bf,aH⟩:=bdS aG;refine E z (b_l (α:=UInt8) M_ bf z z (hp.e a4) hq (a3.blk:Blk ao an.z [vU (byteI b9)]) b_b an_ G_) ?_;rintro _ bg ⟨ap,bh,bi,bj,rfl,bk,bm,bn,bo⟩;refine Rw z<|Wg<|Rm z<|R z (inc_ af (tl_<|iS _ _) z z)<|Ra z<|Wl ?_
      have aq:∀k∈S2,k∈h∨G.z<=k:=or1 ht (io sr)<|j_ lr;exact λ_ q=>⟨be,(som aH).symm,⟨bh,bi,bj,ap,q.k<|s5 z z z z z,(cM (i_ (cM (cr h G) a2 (io sr):Cg h G an) a4:Cg h G ao) bk aq:Cg h G bg),bm,bn,(or2 bo aq an_ (j_<|lt_ a2.s a4.s):∀k∈ap,k∈h∨G.z<=k)⟩⟩
     .rintro xh _ bp ⟨ac,nd,ce,S2,aI,bq,hp,hq,ht⟩;refine Wu ?_ aI;refine Wq<|Wm z<|Rm z<|R z (sb_ z z)<|Rl z z z<|Wx z (λhc=>(k_n hc).elim) (λ_=>?_)
      exact We<|λ_ q=>⟨rfl,⟨ac,nd,ce,S2,q.k<|s3 z z z,(cM (cr h G) bq (io sr):Cg h G bp),hp,hq,(or1 ht (io sr) (j_ lr):∀k∈S2,k∈h∨G.z<=k)⟩⟩
     .rintro xh bt bu rfl ⟨ac,nd,ce,S2,_,bv,hp,hq,ht⟩;have aJ:=elL ae;revert bt;refine Wo<|Wg<|Rm z<|R z (add_ z z)<|Ra z<|Wl ?_
      exact λ_ q=>⟨xh,b_ x4 2,som aJ,ac,nd,ce,S2,q.k<|s3 z z z,(cM (cr h G) bv (io sr):Cg h G bu),hp,hq,(or1 ht (io sr) (j_ lr):∀k∈S2,k∈h∨G.z<=k),iA _ _⟩
     rintro _ _ _ _ rfl ⟨rfl,aK⟩;have aL:=elR ae;obtain rfl:=som aL;have aM:=elR W;exact ⟨f_6<|f_6<|f_r (som aM).symm ⟨rfl,aK⟩,z⟩
    have ah:=ifF ad Y;refine Wq<|Wm z<|R z (add_ z z)<|Rm z<|R z (add_ z z)<|Rm z ?_
    have ar:=O.g<|hw.e s6
    refine R z (lnR k_ z ar)<|R z (X_ z z)<|Wx z (λa0=>?_) (λa0=>?_)
    .refine Ws<|E z (f0 (α:=UInt8) M_) ?_
     rintro _ _ ⟨bw,bx,bz,rfl,bA,bB⟩;refine Ra z<|Rw z ?_
     obtain rfl:=som<|ifT ah a0;have aN:=elR W;exact Wr<|rtO<|rtO<|qL (som aN).symm<|a_0 hr z z ⟨bup (bup (bM s7 sb<|e_ lr) s6) bA,bw,bx,bz,[G.z],z,bB,Z_,m1<|lt_ (lt_ s7.s sb.s) s6.s⟩
    refine Wk<|Wm z<|RM z z<|R z (add_ z z)<|Rm z<|R z (add_ z z)<|Rm z<|R z (add_ z z) ?_
    obtain ⟨_,bC,aO⟩:=bdS<|ifF ah a0;refine RX z (rX k_ z_5 z z ar z z bC) ?_;rintro _ ⟨_,_,_,rfl,bD⟩;obtain ⟨bE,bF,aP⟩:=bdS aO;refine E z (fN (α:=UInt8) M_ bF z z (hl.e s6) hn bD) ?_;rintro _ bG ⟨av,bH,bI,bJ,rfl,bK,bL,bN,bO⟩;refine Rw z<|Wg<|Rm z<|R z (add_ z z)<|Rm z<|R z (add_ z z)<|Ra z<|Wl ?_
    exact λ_ q=>⟨bE,b_ (b_ x4 1)<|byteI xm,som aP,bH,bI,bJ,av,q.k<|s3 z z z,(cM (cr h G) bK (io sr):Cg h G bG),bL,bN,(or1 bO (io sr) (j_ lr):∀k∈av,k∈h∨G.z<=k),iA _ _⟩
   rintro bP aw ⟨xr,xo,rfl,au,ns,cv,Sj,_,a6,ax,bQ,bR,bS⟩;have aQ:=elL W;have ai:=a_7 aQ;revert bP;refine Wo<|Wm z<|R z (lnR k_ z<|a_.rep ax)<|R z (X_ z z)<|Wx z (λa1=>?_) (λa1=>?_)
   .refine Ws<|E z (f0 (α:=UInt8) M_) ?_
    rintro _ _ ⟨bT,bU,bV,rfl,bW,bX⟩;refine Ra z<|Rw z ?_
    exact Wr<|rtO<|qL (som<|ifT ai a1).symm<|a_0 hr z z ⟨bup (bM (bup (bM s7 sb<|e_ lr) s6) a6 (or1 hi (e_ lr) (a_W s7.s):∀k∈h,w0.z<=k)) bW,bT,bU,bV,[aw.z],z,bX,Z_,m1<|lt_ (lt_ (lt_ s7.s sb.s) s6.s) a6.s⟩
   refine a_j ?_;have ay:∀k∈h,k∈[w0.z]∨H.z<=k:=or1 hi (io sr)<|j_ lr;exact λ_ q=>⟨(xr,xo),(som<|ifF ai a1).symm,⟨au,ns,cv,Sj,q.k<|s3 z z z,(cM (i_ (cM (cr [w0.z] H) sb (io sr):Cg [w0.z] H wg) s6:Cg [w0.z] H G) a6 ay:Cg [w0.z] H aw),ax,bQ,(or1 bR ay (j_<|lt_ sb.s s6.s):∀k∈Sj,k∈[w0.z]∨H.z<=k),bS⟩⟩
  exact We<|λ_ q=>a_Q (som<|ifF a8 hcy).symm ⟨I,J,L,h,q.k<|s1 z,(cM (cr [w0.z] H) sb (io sr):Cg [w0.z] H wg),hl,hn,(or1 hi (io sr) (j_ lr):∀k∈h,k∈[w0.z]∨H.z<=k),ak⟩
 .rintro ⟨xk,x4⟩ bY _ rfl ⟨I,J,L,h,_,bZ,hl,hn,hi,ak⟩;have aR:=elL a7;revert bY;refine Wo<|Wm z<|Ra z<|Rw z ?_
  obtain rfl:=som<|a_7 aR;exact Wr<|a_0 hr z z ⟨bM s7 bZ<|e_ lr,I,J,L,h,z,hl,hn,(or1 hi (e_ lr) (a_W s7.s):∀k∈h,w0.z<=k)⟩
 rintro _ _ _ _ rfl ⟨rfl,aS⟩;have aT:=elR a7;obtain rfl:=som aT;exact ⟨aS,z⟩
theorem j_T {x1:Str}{res:Bool}(hm:f_7 x1=some res)(a8:B<=w0.z)(W:x1.b.length<=LEN):h_ prog 109 [Str.v x1] w0 (Q11 w0 B res):=by
 unfold f_7 at hm
 refine goG func109 z z z λfn hr=>Ws<|Rw z<|Wq<|Ws<|Rw z ?_
 obtain ⟨_,hus,hmc⟩:=bdS hm;refine Wf (σ:=Unit) (ρ:=Bool) (λ(k4:Nat)(_:Unit) a w=>Sat 45 [(0,Str.v x1),(3,vI ((k4:Nat):Int))] a/\Below w0.z w0 w) (λ(_:Unit) a w=>Sat 45 [(0,Str.v x1)] a/\Below w0.z w0 w) (rQ prog fn<|Q11 w0 B) hus ?_ ?_ ?_ ?_ ?_
 .exact λ_ q=>⟨q.k<|s2 z z,br w0⟩
 .rintro k4 _ _ L _ hkd ⟨hSt,se⟩ hmu;refine Wu ?_ hSt;refine Wq<|Wm z<|Rm z<|R z (lnT d_9 z)<|Rl z z z<|Wx z (λ_=>?_) (λhc=>(O_ hkd hc).elim)
  refine Wk<|Wq<|Wb<|Wq ?_
  obtain ⟨uv,huw,hmx⟩:=bdS hmu;refine Wt (λa w=>∃(x5:Bool),x5=uv/\Sat 45 [(0,Str.v x1),(3,vI ((k4:Nat):Int)),(4,vB x5)] a/\Below L.z L w) ?_ ?_
  .refine Wg<|RM z z ?_
   obtain ⟨xy,ef,hmg⟩:=bdS huw;refine R z (c_u d_9 z z (a_A ef).1 (a_A ef).2.1)<|R z (b_t z z)<|Rm z ?_
   rcases bs (decide<|(byteI (97:UInt8))<=(byteI xy)) with G | G
   .refine Rh z G (mv z)<|Rh z G (mv z) ?_
    obtain ⟨xz,eh,Y⟩:=bdS<|ifT hmg G;exact Rh z G (c_u d_9 z z (a_A eh).1 (a_A eh).2.1)<|Rh z G (d_0 z z)<|R z (pT z G z)<|Ra z<|Wl (λ_ q=>⟨decide<|(byteI xz)<=(byteI (122:UInt8)),som Y,q.k<|s3 z z z,br L⟩)
   iterate 4 refine Nh z G ?_
   exact R z (pF z G z)<|Ra z<|Wl (λ_ q=>⟨false,som<|ifF hmg G,q.k<|s3 z z z,br L⟩)
  rintro a9 O ⟨x5,rfl,_,si⟩;revert a9;refine Wo<|Wq ?_
  obtain ⟨aa,a0,a1⟩:=bdS hmx;refine Wt (λa w=>∃(V:Bool),V=aa/\Sat 45 [(0,Str.v x1),(3,vI ((k4:Nat):Int)),(4,vB x5),(5,vB V)] a/\Below O.z O w) ?_ ?_
  .refine Wg<|RM z z ?_
   obtain ⟨ab,ej,hmk⟩:=bdS a0;refine R z (c_u d_9 z z (a_A ej).1 (a_A ej).2.1)<|R z (b_t z z)<|Rm z ?_
   rcases bs (decide<|(byteI (48:UInt8))<=(byteI ab)) with H | H
   .refine Rh z H (mv z)<|Rh z H (mv z) ?_
    obtain ⟨ad,el,a2⟩:=bdS<|ifT hmk H;exact Rh z H (c_u d_9 z z (a_A el).1 (a_A el).2.1)<|Rh z H (d_0 z z)<|R z (pT z H z)<|Ra z<|Wl (λ_ q=>⟨decide<|(byteI ad)<=(byteI (57:UInt8)),som a2,q.k<|s4 z z z z,br O⟩)
   iterate 4 refine Nh z H ?_
   exact R z (pF z H z)<|Ra z<|Wl (λ_ q=>⟨false,som<|ifF hmk H,q.k<|s4 z z z z,br O⟩)
  rintro ae J ⟨V,rfl,_,sm⟩;revert ae;refine Wo<|Wq ?_
  obtain ⟨af,hun,hmo⟩:=bdS a1;refine Wt (λa w=>∃(xa:Bool),xa=af/\Sat 45 [(0,Str.v x1),(3,vI ((k4:Nat):Int)),(41,vB xa)] a/\Below J.z J w) ?_ ?_
  .refine Wg<|Rm z<|R z (not_ z)<|Rm z ?_
   rcases bs (!x5) with h | h
   .have hmp:=ifT hun h;refine Rh z h (mv z)<|Rh z h (not_ z)<|Rh z h (mv z) ?_
    rcases bs (!V) with I | I
    .exact Nh z I<|Nh z I<|Rh z h (pT z I z)<|R z (pT z h z)<|Wl (λ_ q=>⟨true,som<|ifT hmp I,q.k<|s3 z z z,br J⟩)
    exact Rh z I (mv z)<|Rh z I (eql z z)<|Rh z h (pF z I z)<|R z (pT z h z)<|Wl (λ_ q=>⟨((k4:Nat):Int)==0,som<|ifF hmp I,q.k<|s3 z z z,br J⟩)
   iterate 3 refine Nh z h ?_
   exact Nv z<|Nv z<|Nh z h<|R z (pF z h z)<|Wl (λ_ q=>⟨false,som<|ifF hun h,q.k<|s3 z z z,br J⟩)
  rintro ah _ ⟨xa,rfl,_,sq⟩;revert ah;refine Wo<|Wc z (λhcb=>?_) (λhcb=>?_)
  .exact Ws<|Rw z<|Wr<|rtO<|qL (som<|ifT hmo hcb).symm<|c_ hr z ⟨bup (bup (bup se si) sm) sq,z⟩
  exact Wk<|Wg<|Rm z<|R z (inc_ hkd (lt_ W z_) z z)<|Ra z<|Wl (λ_ q=>⟨(),(som<|ifF hmo hcb).symm,⟨q.k<|s2 z z,bup (bup (bup se si) sm) sq⟩⟩)
 .rintro _ _ _ ⟨a3,ai⟩;refine Wu ?_ a3;refine Wq<|Wm z<|Rm z<|R z (lnT d_9 z)<|Rl z z z<|Wx z (λhc=>(P_ hc).elim) (λ_=>?_)
  exact We<|λ_ q=>⟨rfl,⟨q.k<|s1 z,ai⟩⟩
 .rintro _ aj _ rfl ⟨_,sr⟩;have a4:=elL hmc;revert aj;refine Wo<|Wm z<|R z (lnT d_9 z) ?_
  obtain ⟨_,ak,a5⟩:=bdS a4;refine E z (fc call51 z<|b_a ak (zt' a8 sr.s) (b_Y W) (ii z)<|ii z) ?_;rintro _ _ ⟨al,rfl⟩;refine Rw z ?_
  obtain rfl:=som a5;exact Wr<|c_ hr z ⟨bup sr al,z⟩
 rintro _ _ _ _ rfl ⟨rfl,a6⟩;have a7:=elR hmc;obtain rfl:=som a7;exact ⟨a6,z⟩
theorem W_w2p {x1:p_}{res:Bool}(hm:j_d x1=some res)(V:B<=w0.z)(W:inI x1.kind)(Y:x1.name.b.length<=LEN)(a0:inI x1.version)(a1:repS w0 B (sl AD ND CD) x1.data):h_ prog 111 [(.agg #[vI x1.kind,Str.v x1.name,vI x1.version,sl AD ND CD])] w0 (Q11 w0 B res):=by
 unfold j_d at hm
 refine goG func111 z z z λfn hr=>Ws<|E z (fb z) ?_
 rintro _ wb ⟨rfl,hd⟩;have O:=hd.below;have he:Blk wb w0.z [vI x1.kind,Str.v x1.name,vI x1.version,sl AD ND CD]:=hd.blk;refine Rw z<|Wq ?_
 obtain ⟨up,huq,hmr⟩:=bdS hm;refine Wt (λa w=>∃(xc:Bool),xc=up/\Sat 38 [(2,vB xc)] a/\Below wb.z wb w) ?_ ?_
 .refine Wg<|Rf z c_Q z<|R z (l0 g_3 z<|he.at z) ?_
  obtain ⟨rs,et,hmf⟩:=bdS huq;refine E z (fc call51 z<|b_a et (zt' V O.s) W (ii z)<|ii z) ?_;rintro _ _ ⟨s2,rfl⟩;refine Rm z ?_
  rcases bs rs with J | J
  .refine Rh z J (fd d_O z) ?_;have hg:=he.e s2;refine Rh z J (l0 g_9 z<|hg.at z) ?_;have hh:=lt_ O.s s2.s;obtain ⟨ru,ev,hmi⟩:=bdS<|ifT hmf J;refine Eg z z J z (fc call109 z<|j_T ev (zt' V hh) Y) ?_;rintro _ _ ⟨s6,rfl⟩;refine R z (pT z J z)<|Rm z ?_
   rcases bs ru with L | L
   .refine Rh z L (fd c_R z) ?_;have hj:=hg.e s6;refine Rh z L (l0 g_3 z<|hj.at z) ?_;obtain ⟨rx,ew,hmk⟩:=bdS<|ifT hmi L;refine Eg z z L z (fc call51 z<|b_a ew (zt' V<|lt_ hh s6.s) a0 (ii z)<|ii z) ?_;rintro _ _ ⟨s8,rfl⟩;refine R z (pT z L z)<|Rm z ?_
    rcases bs rx with H | H
    .have hml:=ifT hmk H;refine Rh z H (fd d_P z) ?_;have ha:=hj.e s8;refine Rh z H (l0 K_ z<|ha.at z) ?_;have hn:=a1.g<|(((O.ag B).e s2).e s6).e s8
     refine Rh z H (lnR k_ z hn)<|Rh z H (d_0 z z)<|R z (pT z H z)<|Rm z ?_
     rcases bs (decide<|(x1.data.length:Int)<=400) with h | h
     .have hmm:=ifT hml h;refine Rh z h (fd c_Q z)<|Rh z h (l0 g_3 z<|ha.at z)<|Rh z h (eql z z)<|Rh z h (mv z) ?_
      rcases bs (x1.kind==1) with G | G
      .iterate 4 refine Nh z G ?_
       exact Nv z<|Nv z<|Nv z<|Nv z<|Nh z G<|Rh z h (pT z G z)<|R z (pT z h z)<|Ra z<|Wl (λ_ q=>⟨true,som<|ifT hmm G,q.k<|s1 z,bup (bup s2 s6) s8⟩)
      have hmo:=ifF hmm G;refine Rh z G (fd c_R z)<|Rh z G (l0 g_3 z<|ha.at z)<|Rh z G (eql z z)<|Rh z G (mv z) ?_
      rcases bs (x1.version==0) with I | I
      .exact Rh z I (fd d_P z)<|Rh z I (l0 K_ z<|ha.at z)<|Rh z I (lnR k_ z hn)<|Rh z I (eql z z)<|Rh z G (pT z I z)<|Rh z h (pF z G z)<|R z (pT z h z)<|Ra z<|Wl (λ_ q=>⟨(x1.data.length:Int)==0,som<|ifT hmo I,q.k<|s1 z,bup (bup s2 s6) s8⟩)
      iterate 4 refine Nh z I ?_
      exact Rh z G (pF z I z)<|Rh z h (pF z G z)<|R z (pT z h z)<|Ra z<|Wl (λ_ q=>⟨false,som<|ifF hmo I,q.k<|s1 z,bup (bup s2 s6) s8⟩)
     iterate 4 refine Nh z h ?_
     exact Nv z<|Nv z<|Nv z<|Nv z<|Nv z<|Nv z<|Nv z<|Nv z<|Nv z<|Nh z h<|R z (pF z h z)<|Ra z<|Wl (λ_ q=>⟨false,som<|ifF hml h,q.k<|s1 z,bup (bup s2 s6) s8⟩)
    iterate 4 refine Nh z H ?_
    exact R z (pF z H z)<|Rm z<|Nh z z<|Nh z z<|Nh z z<|Nh z z<|Nv z<|Nv z<|Nv z<|Nv z<|Nv z<|Nv z<|Nv z<|Nv z<|Nv z<|Nh z z<|R z (pF z z z)<|Ra z<|Wl (λ_ q=>⟨false,som<|ifF hmk H,q.k<|s1 z,bup (bup s2 s6) s8⟩)
   iterate 3 refine Nh z L ?_
   refine R z (pF z L z)<|Rm z<|Nh z z<|Nh z z<|Nh z z<|Nh z z<|R z (pF z z z)<|Rm z<|Nh z z<|Nh z z<|Nh z z<|Nh z z<|Nv z<|Nv z<|Nv z<|Nv z<|Nv z<|Nv z<|Nv z<|Nv z<|Nv z<|Nh z z<|R z (pF z z z)<|Ra z<|Wl ?_
   exact λ_ q=>⟨false,som<|ifF hmi L,q.k<|s1 z,bup s2 s6⟩
  iterate 3 refine Nh z J ?_
  refine R z (pF z J z)<|Rm z<|Nh z z<|Nh z z<|Nh z z<|R z (pF z z z)<|Rm z<|Nh z z<|Nh z z<|Nh z z<|Nh z z<|R z (pF z z z)<|Rm z<|Nh z z<|Nh z z<|Nh z z<|Nh z z<|Nv z<|Nv z<|Nv z<|Nv z<|Nv z<|Nv z<|Nv z<|Nv z ?_
  exact Nv z<|Nh z z<|R z (pF z z z)<|Ra z<|Wl (λ_ q=>⟨false,som<|ifF hmf J,q.k<|s1 z,s2⟩)
 rintro ay _ ⟨xc,rfl,_,sz⟩;revert ay;refine Wo ?_;obtain rfl:=som hmr;exact Wr<|c_ hr z ⟨bup O sz,z⟩
theorem W_w11 {x1:Bt}{x2:Int}{res:Int}(hm:f_V n x1 x2=some res)(Y:B<=w0.z)(L:repS w0 B (sl A0 N0 C0) x1)(O:inI x2):h_ prog 148 [sl A0 N0 C0,vI x2] w0 (Q0 w0 B res):=by
 unfold f_V at hm
 refine goG func148 z z z λfn hr=>Ws<|Rw z<|Wq<|Wm z<|Rm z<|R z (lnR k_ z L)<|R z (sb_ z z) ?_
 obtain ⟨_,eh,hmb⟩:=bdS hm;refine E z (fc call51 z<|b_a (B:=B) eh Y O (ii z)<|iS _ _) ?_;rintro _ G ⟨s2,rfl⟩;refine R z (not_ z)<|Wx z (λH=>?_) (λH=>?_)
 .refine Ws<|Rw z ?_
  obtain rfl:=som<|ifT hmb H;exact Wr<|c_ hr z ⟨s2,z,ii z⟩
 refine Wk<|Ws<|Rw z<|Wq ?_
 obtain ⟨_,hui,hmc⟩:=bdS<|ifF hmb H;refine a_X (σ:=Int) (ρ:=Int) (λ(x3:Int) a w=>Sat 34 [(0,sl A0 N0 C0),(1,vI x2),(5,vI x3)] a/\Below G.z G w/\inI x3) (λ(x3:Int) a w=>Sat 34 [(5,vI x3)] a/\Below G.z G w/\inI x3) (rQ prog fn<|Q0 w0 B) hui ?_ ?_ ?_ ?_
 .exact λ_ q=>⟨q.k<|s3 z z z,br G,ii z⟩
 .rintro x3 _ wd _ ⟨hSj,s5,h6⟩ hmk;refine Wu ?_ hSj;refine Wq<|Wq ?_
  obtain ⟨ul,hue,hmf⟩:=bdS hmk;refine Wt (λa w=>∃(I:Bool),I=ul/\Sat 34 [(0,sl A0 N0 C0),(1,vI x2),(5,vI x3),(30,vB I)] a/\Below wd.z wd w) ?_ ?_
  .refine Wd (X:=noX) 0 (pl_ 19 []) mo (by kernel_rfl) λa0 s8 _=>dM z z z<|dM z z z<|dR z z (add_ z z)<|dM z z z ?_
   have J:=L.g<|((s2.ag B).e s5).e s8
   refine dR z z (lnR k_ z J)<|dR z z (lss z z)<|dM z z z ?_
   rcases bs (decide<|(b_ x2 x3)<(x1.length:Int)) with h | h
   .iterate 3 refine dRg z z z h z (mv z) ?_
    refine dRg z z z h z (add_ z z) ?_;obtain ⟨xm,en,hmo⟩:=bdS<|ifT hue h;refine a_L z z z h z (at_ (α:=UInt8) k_ z_5 z z z J en) ?_;rintro _ ⟨_,_,_,rfl,hp,hq,_⟩;obtain rfl:=u8 hq;refine dRg z z z h z (l0 g_5 z<|hp.at0 z)<|dRg z z z h z (mv z)<|dRg z z z h z (mv z) ?_
    obtain ⟨xr,es,hmt⟩:=bdS hmo;refine a_L z z z h z (at_ (α:=UInt8) k_ z_5 z z z J es) ?_;rintro _ ⟨_,_,_,rfl,hu,hv,_⟩;obtain rfl:=u8 hv;exact dRg z z z h z (l0 g_5 z<|hu.at0 z)<|dRg z z z h z (eql z z)<|dR z z (pT z h z)<|pD (λ_ q=>⟨(byteI xm)==(byteI xr),som hmt,q.k<|s4 z z z z,s8⟩)
   iterate 11 refine dRn z z z h z ?_
   exact dR z z (pF z h z)<|pD (λ_ q=>⟨false,som<|ifF hue h,q.k<|s4 z z z z,s8⟩)
  rintro aw _ ⟨I,rfl,_,sg⟩;revert aw;refine Wo<|Wc z (λhca=>?_) (λhca=>?_)
  .exact Wk<|Wb<|Wg<|Rm z<|R z (add_ z z)<|Ra z<|Wl (λ_ q=>⟨b_ x3 1,(som<|ifT hmf hca).symm,⟨q.k<|s3 z z z,bup s5 sg,iA _ _⟩⟩)
  exact We<|λ_ q=>a_Q (som<|ifF hmf hca).symm ⟨q.k<|s1 z,bup s5 sg,h6⟩
 .rintro x3 ax _ rfl ⟨_,sy,h6⟩;have hmz:=elL hmc;revert ax;refine Wo<|Wm z<|Rw z ?_
  obtain rfl:=som hmz;exact Wr<|c_ hr z ⟨bup s2 sy,z,h6⟩
 rintro _ _ _ _ rfl ⟨rfl,V⟩;have W:=elR hmc;obtain rfl:=som W;exact ⟨V,z⟩
theorem W_w2q {x1:Int}{x2:Int}{res:Int}(hm:j_e x1 x2=some res)(I:B<=w0.z)(G:inI x1)(H:inI x2):h_ prog 147 [vI x1,vI x2] w0 (Q0 w0 B res):=by
 unfold j_e at hm
 refine goG func147 z z z λfn hr=>Ws<|Rw z<|Wq<|Wm z<|Rm z<|Rl z z z<|Wx z (λh=>?_) (λh=>?_)
 .refine Wm z<|Rw z ?_
  obtain rfl:=som<|ifT hm h;exact Wr<|c_ hr z ⟨br w0,z,H⟩
 refine Wk<|Wm z<|Rw z ?_
 obtain rfl:=som<|ifF hm h;exact Wr<|c_ hr z ⟨br w0,z,G⟩
theorem W_w2r {x1:Bt}{res:Bt}(hm:j_f n x1=some res)(W:B<=w0.z)(Y:repS w0 B (sl A0 N0 C0) x1):h_ prog 112 [sl A0 N0 C0] w0 (Q1 w0 B res):=by
 unfold j_f at hm
 refine goG func112 z z z λfn hr=>Ws<|Rw z<|Ws<|E z (f0 (α:=UInt8) M_) ?_
 rintro _ I ⟨aZ,b0,b1,rfl,se,b2⟩;refine Rw z<|Wq<|Ws<|Rw z ?_
 obtain ⟨_,aD,a9⟩:=bdS hm;refine a_X (σ:=Bt×Int) (ρ:=Bt) (λs a w=>un2 (λxf x4=>∃J L O G,Sat 64 [(0,sl A0 N0 C0),(3,sl J L O),(4,vI x4)] a/\Cg [w0.z] I w/\a_ w G (sl J L O) xf/\G.Nodup/\(∀k∈G,k∈[w0.z]∨I.z<=k)/\inI x4) s) (λs a w=>un2 (λxf x4=>∃J L O G,Sat 64 [(3,sl J L O)] a/\Cg [w0.z] I w/\a_ w G (sl J L O) xf/\G.Nodup/\(∀k∈G,k∈[w0.z]∨I.z<=k)/\inI x4) s) (rQ prog fn<|Q1 w0 B) aD ?_ ?_ ?_ ?_
 .exact λ_ q=>⟨aZ,b0,b1,[w0.z],q.k<|s3 z z z,cr [w0.z] I,b2,Z_,io sr,ii z⟩
 .rintro ⟨xf,x4⟩ _ H _ ⟨J,L,O,G,aE,sg,hh,hi,hj,hn⟩ aF;have aa:=a_7 aF;refine Wu ?_ aE;refine Wq<|Wm z<|Rm z ?_
  have aj:∀k∈[w0.z],¬B k:=or0 (e_ lr)<|n_ W;have ho:=(se.ag B).c sg<|g_ aj
  have ak:=Y.g ho;refine R z (lnR k_ z ak)<|Rl z z z<|Wx z (λhcy=>?_) (λhcy=>?_)
  .refine Wk ?_;obtain ⟨b3,aG,ab⟩:=bdS<|ifT aa hcy;refine Wt (λa w=>∃(xp:Bt)(xk:Int),Sum.inl (xp,xk)=b3/\∃aq nr cs Sd,Sat 64 [(0,sl A0 N0 C0),(3,sl aq nr cs),(4,vI xk)] a/\Cg G H w/\a_ w Sd (sl aq nr cs) xp/\Sd.Nodup/\(∀k∈Sd,k∈G∨H.z<=k)/\inI xk) ?_ ?_
   .refine Wb<|Wm z<|Rm z ?_
    have al:=lt_ se.s sg.s;obtain ⟨_,b4,aH⟩:=bdS aG;refine E z (fc call148 z<|W_w11 b4 (zt' W al) ak hn) ?_;rintro _ am ⟨s8,rfl,b5⟩;have an:=lt_ al s8.s;obtain ⟨rt,b6,ad⟩:=bdS aH;refine E z (fc call147 z<|W_w2q b6 (zt' W an) b5<|ii z) ?_;rintro _ V ⟨sa,rfl,_⟩;refine Rw z<|Wq<|Wm z<|R z (b_t z z)<|Wx z (λhcz=>?_) (λhcz=>?_)
    .refine Wm z<|Rm z<|R z (add_ z z)<|R z (b_Q d_3 d_5 z)<|RM z z ?_
     obtain ⟨a1,b7,aI⟩:=bdS<|ifT ad hcz;refine RX z (at_ (α:=UInt8) k_ z_5 z z z (Y.g<|(ho.e s8).e sa) b7) ?_;rintro _ ⟨_,_,_,rfl,b8,b9,_⟩;obtain rfl:=u8 b9;refine R z (l0 g_5 z<|b8.at0 z)<|E z (fS [(.tmp 21),(.tmp 25)] M_ z z z (a_v z) (lb z)<|lb z) ?_
     rintro _ a2 ⟨rfl,ao⟩;have a3:=ao.below;obtain ⟨ba,bb,aJ⟩:=bdS aI;refine E z (fN (α:=UInt8) M_ bb z z (((hh.e s8).e sa).e a3) hi<|a_.rep (h_k (l:=[mkB (b_ 128 rt),a1]) (ao.blk:Blk a2 V.z [(vU<|byteI<|mkB<|b_ 128 rt),vU<|byteI a1]) z:a_ a2 [V.z] (sl (some ⟨V.z,0,none⟩) 2 2) [mkB (b_ 128 rt),a1])) ?_;rintro _ bc ⟨ap,be,bf,bg,rfl,bh,bi,bj,bk⟩;refine Rw z<|Wm z<|Rm z<|R z (add_ z z)<|Rw z<|We<|exH ?_
     exact λ_ q=>⟨ba,b_ x4 rt,som aJ,be,bf,bg,ap,q.k<|s3 z z z,(cM (i_ (i_ (i_ (cr G H) s8:Cg G H am) sa:Cg G H V) a3:Cg G H a2) bh (io sr):Cg G H bc),bi,bj,(or1 bk (io sr) (j_<|lt_ (lt_ s8.s sa.s) a3.s):∀k∈ap,k∈G∨H.z<=k),iA _ _⟩
    refine Wk<|Wm z<|Rw z<|Wq ?_
    obtain ⟨_,aK,ae⟩:=bdS<|ifF ad hcz;refine a_X (σ:=Int) (ρ:=Bt) (λ(x3:Int) a w=>Sat 64 [(0,sl A0 N0 C0),(3,sl J L O),(4,vI x4),(6,vI x3)] a/\Below V.z V w/\inI x3) (λ(x3:Int) a w=>Sat 64 [(0,sl A0 N0 C0),(3,sl J L O),(4,vI x4),(6,vI x3)] a/\Below V.z V w/\inI x3) (rQ prog fn<|Q1 w0 B) aK ?_ ?_ ?_ ?_
    .exact λ_ q=>⟨q.k<|s4 z z z z,br V,hn⟩
    .rintro x3 _ wu _ ⟨aL,sv,hw⟩ aM;refine Wu ?_ aL;refine Wq<|Wq ?_
     obtain ⟨bm,af,ah⟩:=bdS aM;refine Wt (λa w=>∃(a4:Bool),a4=bm/\Sat 64 [(0,sl A0 N0 C0),(3,sl J L O),(4,vI x4),(6,vI x3),(47,vB a4)] a/\Below wu.z wu w) ?_ ?_
     .refine Wg<|RM z z ?_
      have ar:=Y.g<|((ho.e s8).e sa).e sv
      refine R z (lnR k_ z ar)<|Rl z z z<|Rm z ?_
      rcases bs (decide<|x3<(x1.length:Int)) with hcb | hcb
      .have ai:=ifT af hcb;refine Rh z hcb (mv z)<|Rh z hcb (mv z)<|Rh z hcb (sb_ z z)<|Rh z hcb (lss z z)<|R z (pT z hcb z)<|Rm z ?_
       rcases bs (decide<|(w_ x3 x4)<127) with hcc | hcc
       .refine Rh z hcc (mv z)<|Rh z hcc (mv z) ?_
        obtain ⟨bn,bo,aN⟩:=bdS<|ifT ai hcc;refine Eg z z hcc z (fc call148 z<|W_w11 bo (zt' W<|lt_ (lt_ an sa.s) sv.s) ar hw) ?_;rintro _ _ ⟨bp,rfl,_⟩;exact Rh z hcc (lss z z)<|R z (pT z hcc z)<|Wl (λ_ q=>⟨decide<|bn<3,som aN,q.k<|s5 z z z z z,bp⟩)
       iterate 4 refine Nh z hcc ?_
       exact R z (pF z hcc z)<|Wl (λ_ q=>⟨false,som<|ifF ai hcc,q.k<|s5 z z z z z,br wu⟩)
      iterate 4 refine Nh z hcb ?_
      exact R z (pF z hcb z)<|Rm z<|Nh z z<|Nh z z<|Nh z z<|Nh z z<|R z (pF z z z)<|Wl (λ_ q=>⟨false,som<|ifF af hcb,q.k<|s5 z z z z z,br wu⟩)
     rintro bq _ ⟨a4,rfl,_,au⟩;revert bq;refine Wo<|Wc z (λa0=>?_) (λa0=>?_)
     .exact Wk<|Wb<|Wg<|Rm z<|R z (add_ z z)<|Ra z<|Wl (λ_ q=>⟨b_ x3 1,(som<|ifT ah a0).symm,⟨q.k<|s4 z z z z,bup sv au,iA _ _⟩⟩)
     exact We<|λ_ q=>a_Q (som<|ifF ah a0).symm ⟨q.k<|s4 z z z z,bup sv au,hw⟩
    .rintro x3 bt a6 rfl ⟨_,sx,hw⟩;have aO:=elL ae;revert bt;refine Wo<|Wq (Wd (X:=λk=>k∈G∨a6.z<=k) 0 (.rd 0<|.rd 1<|.rd 2<|.rd 3<|.rd 4<|.rd 7<|.rd 8<|.rd 9<|.rd 10<|.ef 5<|.ef 6<|.ef 11<|.rd 12 .done) mo (by kernel_rfl) λav sm _=>?_)
     iterate 3 refine dM z z z ?_
     refine dR z z (sb_ z z)<|dR z z (b_Q d_3 d_5 z) ?_
     iterate 3 refine dM z z z ?_
     obtain ⟨_,bu,aP⟩:=bdS aO;refine dRX z z (rX k_ z_5 z z (Y.g<|(((ho.e s8).e sa).e sx).e sm) z z bu) ?_;rintro _ ⟨_,_,_,rfl,bv⟩;refine dE z z (fS [(.tmp 54)] M_ z z z (a_v z) (lb z)<|lb z) (.inr λ_ _ h=>E_<|h.2.below) ?_;rintro _ aw ⟨rfl,a7⟩;have hl:=a7.below;have bV:=b_D a7 b_b;obtain ⟨_,bw,aQ⟩:=bdS aP;refine dE z z (b_l (α:=UInt8) M_ bw z z (((((hh.e s8).e sa).e sx).e sm).e hl) hi (a7.blk:Blk aw av.z [(vU<|byteI<|mkB<|w_ x3 x4)]) b_b an_ G_) (.inr λ_ _ h=>by obtain ⟨_,_,_,_,_,h,_⟩:=h;exact h.mono λk _ hk=>(io sr) k hk) ?_;rintro _ bx ⟨ax,_,_,_,rfl,a8,bz,bA,ay⟩;obtain ⟨bB,bC,aR⟩:=bdS aQ;refine dE z z (fN (α:=UInt8) M_ bC z z bz bA<|bv.g<|(hl.ag B).c a8<|g_ (or1 hj aj (n_<|zt' W se.s):∀k∈G,¬B k)) (.inr λ_ _ h=>by obtain ⟨_,_,_,_,_,h,_⟩:=h;exact h.mono λk _ hk=>(or2 ay (io sr) an_ (j_<|lt_ sm.s hl.s):∀k∈ax,k∈G∨a6.z<=k) k hk) ?_;rintro _ bD ⟨az,bE,bF,bG,rfl,bH,bI,bJ,bK⟩;refine dQ z z z<|pD<|Wo<|Wg<|Rm z<|Ra z<|Wl ?_
     have aA:=lt_ (lt_ (lt_ (lt_ s8.s sa.s) sx.s) sm.s) hl.s;have aB:∀k∈ax,k∈G∨H.z<=k:=or2 ay (io sr) an_<|j_ aA;exact λ_ q=>⟨bB,x3,som aR,bE,bF,bG,az,q.k<|s3 z z z,(cM (cM (i_ (i_ (i_ (i_ (i_ (cr G H) s8:Cg G H am) sa:Cg G H V) sx:Cg G H a6) sm:Cg G H av) hl:Cg G H aw) a8 (io sr):Cg G H bx) bH aB:Cg G H bD),bI,bJ,(or1 bK aB (j_<|lt_ aA a8.s):∀k∈az,k∈G∨H.z<=k),hw⟩
    rintro _ _ _ _ rfl ⟨rfl,aS⟩;have aT:=elR ae;obtain rfl:=som aT;have aU:=elR ab;exact ⟨f_6<|f_r (som aU).symm ⟨rfl,aS⟩,z⟩
   rintro bL bN ⟨xp,xk,rfl,aq,nr,cs,Sd,_,bO,bP,bQ,bR,bS⟩;have aV:=elL ab;revert bL;have aC:∀k∈G,k∈[w0.z]∨I.z<=k:=or1 hj (io sr)<|j_ lr;exact λ_ q=>⟨(xp,xk),(som<|a_7 aV).symm,⟨aq,nr,cs,Sd,q.k<|s3 z z z,(cM (cM (cr [w0.z] I) sg (io sr):Cg [w0.z] I H) bO aC:Cg [w0.z] I bN),bP,bQ,(or1 bR aC (j_ sg.s):∀k∈Sd,k∈[w0.z]∨I.z<=k),bS⟩⟩
  exact We<|λ_ q=>a_Q (som<|ifF aa hcy).symm ⟨J,L,O,G,q.k<|s1 z,(cM (cr [w0.z] I) sg (io sr):Cg [w0.z] I H),hh,hi,(or1 hj (io sr) (j_ lr):∀k∈G,k∈[w0.z]∨I.z<=k),hn⟩
 .rintro ⟨xf,x4⟩ bT _ rfl ⟨J,L,O,G,_,bU,hh,hi,hj,hn⟩;have aW:=elL a9;revert bT;refine Wo<|Wm z<|Rw z ?_
  obtain rfl:=som<|a_7 aW;exact Wr<|c_ hr z ⟨bM se bU<|e_ lr,J,L,O,G,z,hh,hi,(or1 hj (e_ lr) (a_W se.s):∀k∈G,w0.z<=k)⟩
 rintro _ _ _ _ rfl ⟨rfl,aX⟩;have aY:=elR a9;obtain rfl:=som aY;exact ⟨aX,z⟩
theorem W_w12 {x1:Int}{res:Int}(hm:f_J x1=some res)(I:B<=w0.z)(H:inI x1):h_ prog 149 [vI x1] w0 (Q0 w0 B res):=by
 unfold f_J at hm
 refine goG func149 z z z λfn hr=>Ws<|Rw z<|Wm z<|R z (g_n z z) ?_
 obtain ⟨_,G,h⟩:=bdS hm;refine R z (h_L z z<|nnS G)<|Rw z ?_
 obtain rfl:=som h;exact Wr<|c_ hr z ⟨br w0,z,s_E<|ii z⟩
theorem W_w2s {x1:Int}{x2:Int}{res:Bt}(hm:j_g n x1 x2=some res)(V:B<=w0.z)(Y:inI x1)(W:inI x2):h_ prog 113 [vI x1,vI x2] w0 (Q1 w0 B res):=by
 unfold j_g at hm
 refine goG func113 z z z λfn hr=>Ws<|Rw z<|Ws<|E z (f0 (α:=UInt8) M_) ?_
 rintro _ wm ⟨ad,ne,cf,rfl,s7,hp⟩;refine Rw z<|Wq<|Wq ?_
 obtain ⟨ae,a0,hmq⟩:=bdS hm;refine Wt (λa w=>∃(xg:Bool),xg=ae/\Sat 35 [(0,vI x1),(1,vI x2),(5,sl ad ne cf),(18,vB xg)] a/\Below wm.z wm w) ?_ ?_
 .refine Wg<|Rm z ?_
  obtain ⟨af,ah,hmr⟩:=bdS a0;refine E z (fc call51 z<|b_a ah (zt' V s7.s) W (ii z)<|ii z) ?_;rintro _ _ ⟨sh,rfl⟩;refine R z (not_ z)<|Rm z ?_
  rcases bs (!af) with H | H
  .iterate 6 refine Nh z H ?_
   exact R z (pT z H z)<|Wl (λ_ q=>⟨true,som<|ifT hmr H,q.k<|s4 z z z z,sh⟩)
  refine Rh z H (mv z)<|Rh z H (mv z) ?_
  have ht:=lt_ s7.s sh.s;obtain ⟨_,ai,a1⟩:=bdS<|ifF hmr H;refine Eg z z H z (fc call149 z<|W_w12 ai (zt' V ht) W) ?_;rintro _ _ ⟨ss,rfl,_⟩;refine Rh z H (sb_ z z) ?_;obtain ⟨aj,ak,a2⟩:=bdS a1;refine Eg z z H z (fc call51 z<|b_a ak (zt' V<|lt_ ht ss.s) Y (ii z)<|iS _ _) ?_;rintro _ _ ⟨al,rfl⟩;exact Rh z H (not_ z)<|R z (pF z H z)<|Wl (λ_ q=>⟨!aj,som a2,q.k<|s4 z z z z,bup (bup sh ss) al⟩)
 rintro am h ⟨xg,rfl,_,s8⟩;revert am;refine Wo<|Wc z (λhci=>?_) (λhci=>?_)
 .refine Wm z<|Rw z ?_
  obtain rfl:=som<|ifT hmq hci;exact Wr<|c_ hr z ⟨bup s7 s8,ad,ne,cf,[w0.z],z,hp.e s8,Z_,e_ lr⟩
 refine Wk<|Wq<|Wm z<|R z (sb_ z z)<|Rw z ?_
 obtain ⟨_,a4,hmu⟩:=bdS<|ifF hmq hci;refine a_X (σ:=Bt×Int) (ρ:=Bt) (λs a w=>un2 (λO x6=>∃I J L G,Sat 35 [(0,vI x1),(5,sl I J L),(6,vI x6)] a/\Cg [w0.z] h w/\a_ w G (sl I J L) O/\G.Nodup/\(∀k∈G,k∈[w0.z]∨h.z<=k)/\inI x6) s) (λs a w=>un2 (λO x6=>∃I J L G,Sat 35 [(5,sl I J L)] a/\Cg [w0.z] h w/\a_ w G (sl I J L) O/\G.Nodup/\(∀k∈G,k∈[w0.z]∨h.z<=k)/\inI x6) s) (rQ prog fn<|Q1 w0 B) a4 ?_ ?_ ?_ ?_
 .exact λ_ q=>⟨ad,ne,cf,[w0.z],q.k<|s3 z z z,cr [w0.z] h,hp.e s8,Z_,io sr,iS _ _⟩
 .rintro ⟨O,x6⟩ _ wj _ ⟨I,J,L,G,a5,sk,ha,hb,hc,hv⟩ a6;have hmw:=a_7 a6;refine Wu ?_ a5;refine Wq<|Wm z<|R z (b_t z z)<|Wx z (λhcl=>?_) (λhcl=>?_)
  .refine Wk<|Wq<|Wb<|Wg<|RM z z<|Rm z<|R z (g_n z z) ?_
   obtain ⟨_,an,a7⟩:=bdS<|ifT hmw hcl;refine R z (o_i z z<|nnS an)<|R z (b_Q d_3 d_5 z)<|E z (fS [(.tmp 31)] M_ z z z (a_v z) (lb z)<|lb z) ?_
   rintro _ wx ⟨rfl,hn⟩;have ho:=hn.below;have aC:=b_D hn b_b;obtain ⟨ao,ap,a8⟩:=bdS a7;refine E z (b_l (α:=UInt8) M_ ap z z (ha.e ho) hb (hn.blk:Blk wx wj.z [(vU<|byteI<|mkB<|c_Y .i64 x1<|b_e 8 x6)]) b_b an_ G_) ?_;rintro _ aq ⟨Sy,ar,au,av,rfl,aw,ax,ay,az⟩;refine Rw z<|Wg<|Rm z<|R z (sb_ z z)<|Ra z<|Wl ?_
   have hz:∀k∈G,k∈[w0.z]∨h.z<=k:=or1 hc (io sr)<|j_ lr;exact λ_ q=>⟨(ao,w_ x6 1),(som a8).symm,⟨ar,au,av,Sy,q.k<|s3 z z z,(cM (i_ (cM (cr [w0.z] h) sk (io sr):Cg [w0.z] h wj) ho:Cg [w0.z] h wx) aw hz:Cg [w0.z] h aq),ax,ay,(or2 az hz an_ (j_<|lt_ sk.s ho.s):∀k∈Sy,k∈[w0.z]∨h.z<=k),iS _ _⟩⟩
  exact We<|λ_ q=>a_Q (som<|ifF hmw hcl).symm ⟨I,J,L,G,q.k<|s1 z,(cM (cr [w0.z] h) sk (io sr):Cg [w0.z] h wj),ha,hb,(or1 hc (io sr) (j_ lr):∀k∈G,k∈[w0.z]∨h.z<=k),hv⟩
 .rintro ⟨O,x6⟩ aA _ rfl ⟨I,J,L,G,_,aB,ha,hb,hc,hv⟩;have a9:=elL hmu;revert aA;refine Wo<|Wm z<|Rw z ?_
  obtain rfl:=som<|a_7 a9;exact Wr<|c_ hr z ⟨bM (bup s7 s8) aB<|e_ lr,I,J,L,G,z,ha,hb,(or1 hc (e_ lr) (a_W<|lt_ s7.s s8.s):∀k∈G,w0.z<=k)⟩
 rintro _ _ _ _ rfl ⟨rfl,aa⟩;have ab:=elR hmu;obtain rfl:=som ab;exact ⟨aa,z⟩
theorem W_w13 {x1:Bt}{res:Int}(hm:g_T x1=some res)(L:B<=w0.z)(h:repS w0 B (sl A0 N0 C0) x1):h_ prog 114 [sl A0 N0 C0] w0 (Q0 w0 B res):=by
 unfold g_T at hm
 refine goG func114 z z z λfn hr=>Ws<|Rw z<|Ws<|Rw z<|Wq<|Ws<|Rw z ?_
 obtain ⟨_,I,G⟩:=bdS hm;refine Wf (σ:=Int) (ρ:=Int) (λ(k3:Nat)(x0:Int) a w=>Sat 20 [(0,sl A0 N0 C0),(3,vI x0),(4,vI ((k3:Nat):Int))] a/\Below w0.z w0 w/\inI x0) (λ(x0:Int) a w=>Sat 20 [(3,vI x0)] a/\Below w0.z w0 w/\inI x0) (rQ prog fn<|Q0 w0 B) I ?_ ?_ ?_ ?_ ?_
 .exact λ_ q=>⟨q.k<|s3 z z z,br w0,ii z⟩
 .rintro k3 x0 _ _ _ H ⟨J,s5,h1⟩ hma;refine Wu ?_ J;refine Wq<|Wm z<|Rm z ?_
  have h6:=h.e s5;refine R z (lnR k_ z h6)<|Rl z z z<|Wx z (λ_=>?_) (λhc=>(O_ H hc).elim)
  refine Wk<|Wq<|Wb<|Wg<|RM z z<|Rm z ?_
  obtain ⟨xb,ec,hmd⟩:=bdS hma;refine RX z (at_ (α:=UInt8) k_ z_5 z z z h6 ec) ?_;rintro _ ⟨_,_,_,rfl,he,hf,_⟩;obtain rfl:=u8 hf;exact R z (l0 g_5 z<|he.at0 z)<|R z (b_s d_5 d_3 z)<|R z (add_ z z)<|R z (h_K z z (by decide))<|Rw z<|Wg<|Rm z<|R z (inc_ H (lt_ (repS.len h) z_) z z)<|Ra z<|Wl (λ_ q=>⟨b_f (b_ x0<|byteI xb) 256,(som hmd).symm,⟨q.k<|s3 z z z,s5,m_i<|iA _ _⟩⟩)
 .rintro x0 _ _ ⟨hSg,s7,h1⟩;refine Wu ?_ hSg;refine Wq<|Wm z<|Rm z<|R z (lnR k_ z<|h.e s7)<|Rl z z z<|Wx z (λhc=>(P_ hc).elim) (λ_=>?_)
  exact We<|λ_ q=>⟨rfl,⟨q.k<|s1 z,s7,h1⟩⟩
 .rintro x0 ah _ rfl ⟨_,si,h1⟩;have hmj:=elL G;revert ah;refine Wo<|Wm z<|Rw z ?_
  obtain rfl:=som hmj;exact Wr<|c_ hr z ⟨si,z,h1⟩
 rintro _ _ _ _ rfl ⟨rfl,hqk⟩;have hml:=elR G;obtain rfl:=som hml;exact ⟨hqk,z⟩
theorem W_w2t {x1:p_}{res:Bt}(hm:j_h n x1=some res)(G:B<=w0.z)(a6:inI x1.kind)(I:x1.name.b.length<=LEN)(a7:inI x1.version)(J:repS w0 B (sl AD ND CD) x1.data):h_ prog 80 [(.agg #[vI x1.kind,Str.v x1.name,vI x1.version,sl AD ND CD])] w0 (Q1 w0 B res):=by
 unfold j_h at hm
 refine goG func80 z z z λfn hr=>Ws<|E z (fb z) ?_
 rintro _ ai ⟨rfl,hk⟩;have h:=hk.below;have H:Blk ai w0.z [vI x1.kind,Str.v x1.name,vI x1.version,sl AD ND CD]:=hk.blk;refine Rw z<|Wq<|Ws<|R z (lN (vs:=[vI x1.kind,Str.v x1.name,vI x1.version,sl AD ND CD]) b_p a_a z z fid<|H.row 0 4 z) ?_
 obtain ⟨_,aj,hml⟩:=bdS hm;refine E z (fc call111 z<|W_w2p aj (zt' G h.s) a6 I a7<|J.e h) ?_;rintro _ ak ⟨s1,rfl⟩;refine R z (not_ z)<|Wx z (λhca=>?_) (λhca=>?_)
 .refine Ws<|E z (f0 (α:=UInt8) M_) ?_
  rintro _ _ ⟨al,am,an,rfl,ao,ap⟩;refine Rw z ?_
  obtain rfl:=som<|ifT hml hca;exact Wr<|c_ hr z ⟨bup (bup h s1) ao,al,am,an,[ak.z],z,ap,Z_,m1<|lt_ h.s s1.s⟩
 refine Wk<|Ws<|Rf z d_P z ?_
 have hn:=H.e s1;refine R z (l0 K_ z<|hn.at z) ?_;have ho:=lt_ h.s s1.s;obtain ⟨_,aq,a8⟩:=bdS<|ifF hml hca;refine E z (fc call112 z<|W_w2r aq (zt' G ho)<|J.g<|(h.ag B).e s1) ?_;rintro _ wb ⟨s7,_,_,_,ar,rfl,h2,_,_⟩;refine Rw z<|Ws<|Rf z c_Q z ?_
 have hc:=hn.e s7;refine R z (l0 g_3 z<|hc.at z)<|R z (b_Q d_3 d_5 z)<|Rf z d_O z<|R z (l0 g_9 z<|hc.at z)<|R z (lnT d_9 z)<|R z (b_Q d_3 d_5 z)<|E z (fS [(.tmp 14),(.tmp 18)] M_ z z z (a_v z) (lb z)<|lb z) ?_
 rintro _ wm ⟨rfl,hp⟩;have h4:=hp.below;refine Rf z d_O z ?_;have hq:=hc.e h4;refine R z (l0 g_9 z<|hq.at z)<|E z (q_V d_9 k_ d_5 z I) ?_
 rintro _ _ ⟨_,_,_,rfl,s3,au⟩;obtain ⟨_,av,a9⟩:=bdS a8;refine E z (fN (α:=UInt8) M_ av z z ((h_k (l:=[mkB x1.kind,mkB (x1.name.b.length:Int)]) (hp.blk:Blk wm wb.z [(vU<|byteI<|mkB x1.kind),(vU<|byteI<|mkB (x1.name.b.length:Int))]) z:a_ wm [wb.z] (sl (some ⟨wb.z,0,none⟩) 2 2) [mkB x1.kind,mkB (x1.name.b.length:Int)]).e s3) Z_<|a_.rep au) ?_;rintro _ aw ⟨_,_,_,_,rfl,s5,ax,ay,ht⟩;refine Rw z<|Wm z<|Rf z c_R z<|R z (l0 g_3 z<|((hq.e s3).c s5<|djs<|mm1 H.lt<|lt_ s1.s s7.s).at z)<|R z (b_Q d_3 d_5 z)<|E z (fS [(.tmp 27)] M_ z z z (a_v z) (lb z)<|lb z) ?_
 rintro _ az ⟨rfl,hd⟩;have h6:=hd.below;have aZ:=b_D hd b_b;obtain ⟨_,aA,aa⟩:=bdS a9;refine E z (b_l (α:=UInt8) M_ aA z z (ax.e h6) ay (hd.blk:Blk az aw.z [(vU<|byteI<|mkB x1.version)]) b_b an_ G_) ?_;rintro _ _ ⟨Sr,_,_,_,rfl,se,aB,aC,hu⟩;refine Rm z ?_;have hv:=mnr<|a_.lt h2
 have hw:=lt_ h4.s s3.s;have hx:=c_c ht hv (a_.lt h2) hw;have hf:=((((h2.e h4).e s3).c s5<|ds hv).e h6).c se<|ds hx
 refine R z (lnR k_ z<|or_ hf<|a_.lt h2) ?_;have hy:=lt_ ho s7.s;have hz:=lt_ (lt_ hy h4.s) s3.s;have L:=lt_ (lt_ hz s5.s) h6.s;have O:=lt_ L se.s;obtain ⟨_,aD,ab⟩:=bdS aa;refine E z (fc call113 z<|W_w2s aD (zt' G O) (b_Y<|repS.len<|or_ hf<|a_.lt h2)<|ii z) ?_;rintro _ _ ⟨s8,_,_,_,_,rfl,aE,_,_⟩;obtain ⟨_,aF,ad⟩:=bdS ab;refine E z (fN (α:=UInt8) M_ aF z z (aB.e s8) aC<|a_.rep aE) ?_;rintro _ _ ⟨_,_,_,_,rfl,sg,aG,aH,aI⟩;refine Rm z ?_;obtain ⟨_,aJ,ae⟩:=bdS ad;refine E z (fN (α:=UInt8) M_ aJ z z aG aH<|or_ ((hf.e s8).c sg<|ds (or2 hu hx an_ (a_P (a_.lt h2)<|lt_ (lt_ hw s5.s) h6.s):∀k∈Sr,k∉ar))<|a_.lt h2) ?_;rintro _ aK ⟨_,_,_,_,rfl,ss,V,aL,aM⟩;refine Rw z<|Wm z<|Rm z ?_
 obtain ⟨aN,aO,af⟩:=bdS ae;refine E z (fc call114 z<|W_w13 (B:=aK.z) aO zr<|a_.rep V) ?_;rintro _ aP ⟨sh,rfl,_⟩;refine R z (b_Q d_3 d_5 z)<|E z (fS [(.tmp 39)] M_ z z z (a_v z) (lb z)<|lb z) ?_
 rintro _ aQ ⟨rfl,hi⟩;have hj:=hi.below;have b0:=b_D hi b_b;obtain ⟨_,aR,ah⟩:=bdS af;refine E z (b_l (α:=UInt8) M_ aR z z ((V.e sh).e hj) aL (hi.blk:Blk aQ aP.z [(vU<|byteI<|mkB aN)]) b_b an_ G_) ?_;rintro _ _ ⟨W,aS,aT,aU,rfl,aV,aW,aX,aY⟩;refine Rw z ?_
 obtain rfl:=som ah;have Y:=m1 hy;have a0:=b_2 ht Y hz;have a1:∀k∈Sr,w0.z<=k:=or2 hu a0 an_<|a_W L;have a2:=lt_ O s8.s;have a3:=b_2 aI a1 a2;have a4:=lt_ a2 sg.s;have a5:=b_2 aM a3 a4;exact Wr<|c_ hr z ⟨bM (bup (bup (bM (bM (bup (bM (bup (bM (bup (bup (bup (bup h s1) s7) h4) s3) s5 Y) h6) se a0) s8) sg a1) ss a3) sh) hj) aV a5,aS,aT,aU,W,z,aW,aX,(or2 aY a5 an_ (a_W<|lt_ (lt_ (lt_ a4 ss.s) sh.s) hj.s):∀k∈W,w0.z<=k)⟩
theorem W_w2u {x1:Bt}{x2:Bt}{res:Bool}(hm:h_a x1 x2=some res)(Y:B<=w0.z)(h:repS w0 B (sl A0 N0 C0) x1)(J:repS w0 B (sl A4 N4 C4) x2):h_ prog 81 [sl A0 N0 C0,sl A4 N4 C4] w0 (Q11 w0 B res):=by
 unfold h_a at hm
 refine goG func81 z z z λfn hr=>Ws<|Rw z<|Wq<|Wm z<|R z (lnR k_ z h)<|Rm z<|R z (lnR k_ z J)<|R z (nq z z)<|Wx z (λH=>?_) (λH=>?_)
 .refine Ws<|Rw z ?_
  obtain rfl:=som<|ifT hm H;exact Wr<|c_ hr z ⟨br w0,z⟩
 refine Wk<|Wq<|Ws<|Rw z ?_
 obtain ⟨_,hua,L⟩:=bdS<|ifF hm H;refine Wf (σ:=Unit) (ρ:=Bool) (λ(k5:Nat)(_:Unit) a w=>Sat 26 [(0,sl A0 N0 C0),(1,sl A4 N4 C4),(5,vI ((k5:Nat):Int))] a/\Below w0.z w0 w) (λ(_:Unit) a w=>Sat 26 [] a/\Below w0.z w0 w) (rQ prog fn<|Q11 w0 B) hua ?_ ?_ ?_ ?_ ?_
 .exact λ_ q=>⟨q.k<|s3 z z z,br w0⟩
 .rintro k5 _ _ _ _ O ⟨hSb,G⟩ hmc;refine Wu ?_ hSb;refine Wq<|Wm z<|Rm z<|R z (lnR k_ z<|h.e G)<|Rl z z z<|Wx z (λ_=>?_) (λhc=>(O_ O hc).elim)
  refine Wk<|Wq<|Wb<|Wq (Wd (X:=noX) 0 (pl_ 9 []) mo (by kernel_rfl) λwu s2 _=>dM z z z<|dM z z z ?_)
  obtain ⟨_,ed,hme⟩:=bdS hmc;have W:=(G.ag B).e s2;refine dRX z z (at_ (α:=UInt8) k_ z_5 z z z (h.g W) ed) ?_;rintro _ ⟨_,_,_,rfl,hf,hg,_⟩;obtain rfl:=u8 hg;refine dR z z (l0 g_5 z<|hf.at0 z)<|dM z z z<|dM z z z ?_
  obtain ⟨_,eh,V⟩:=bdS hme;refine dRX z z (at_ (α:=UInt8) k_ z_5 z z z (J.g W) eh) ?_;rintro _ ⟨_,_,_,rfl,hi,hj,_⟩;obtain rfl:=u8 hj;refine dR z z (l0 g_5 z<|hi.at0 z)<|dR z z (nq z z)<|pD<|Wo<|Wc z (λI=>?_) (λI=>?_)
  .exact Ws<|Rw z<|Wr<|rtO<|qL (som<|ifT V I).symm<|c_ hr z ⟨bup G s2,z⟩
  exact Wk<|Wg<|Rm z<|R z (inc_ O (lt_ (repS.len h) z_) z z)<|Ra z<|Wl (λ_ q=>⟨(),(som<|ifF V I).symm,⟨q.k<|s3 z z z,bup G s2⟩⟩)
 .rintro _ _ _ ⟨hSk,s9⟩;refine Wu ?_ hSk;refine Wq<|Wm z<|Rm z<|R z (lnR k_ z<|h.e s9)<|Rl z z z<|Wx z (λhc=>(P_ hc).elim) (λ_=>?_)
  exact We<|λ_ q=>⟨rfl,⟨q.k sn,s9⟩⟩
 .rintro _ al _ rfl ⟨_,sm⟩;have hmn:=elL L;revert al;refine Wo<|Ws<|Rw z ?_
  obtain rfl:=som hmn;exact Wr<|c_ hr z ⟨sm,z⟩
 rintro _ _ _ _ rfl ⟨rfl,hqo⟩;have hmp:=elR L;obtain rfl:=som hmp;exact ⟨hqo,z⟩
def Q13 (w0:World)(B:Zone)(r:p_×Int×Bool)(v:Value)(w':World):Prop:=Bw w0 w'/\un3 (λh G L=>∃H I J S1,v = .tuple #[(.agg #[vI h.kind,Str.v h.name,vI h.version,sl H I J]),vI G,vB L]/\inI h.kind/\h.name.b.length<=LEN/\inI h.version/\a_ w' S1 (sl H I J) h.data/\inI G/\S1.Nodup/\(∀k∈S1,w0.z<=k)) r
theorem W_w2v {x1:Bt}{x2:Int}{res:p_×Int×Bool}(hm:h_b n x1 x2=some res)(V:B<=w0.z)(L:repS w0 B (sl A0 N0 C0) x1)(O:inI x2):h_ prog 54 [sl A0 N0 C0,vI x2] w0 (Q13 w0 B res):=by
 unfold h_b at hm
 refine goG func54 z z z λfn hr=>Ws<|E z (fa e_j) ?_
 rintro _ am ⟨rfl,ht⟩;have h5:=ht.below;have h6:Blk am w0.z [vI 0,Str.v (⟨[]⟩:Str),vI 0,sN]:=ht.blk;refine Ra z<|Rw z<|Wq<|Wm z<|Rm z<|R z (lnR k_ z<|L.e h5)<|R z (sb_ z z) ?_
 obtain ⟨_,an,hmu⟩:=bdS hm;refine E z (fc call51 z<|b_a an (zt' V h5.s) O (ii z)<|iS _ _) ?_;rintro _ _ ⟨G,rfl⟩;refine R z (not_ z)<|Wx z (λhcj=>?_) (λhcj=>?_)
 .refine Ws<|R z (bP (parts:=[]) (cs:=[vI 0,Str.v (⟨[]⟩:Str),vI 0,sN]) d_L z z)<|Rm z<|E0 (fs0 (cur':=[vI 0,Str.v (⟨[]⟩:Str),vI 0,sN]) a_a z z (h6.e G) z z z z) ?_
  rintro _ _ ⟨ao,ap⟩;refine Ra z<|Rw z ?_
  obtain rfl:=som<|ifT hmu hcj;exact Wr<|x_ hr (q_ b_p a_a z ao z) z z ⟨bM (bup h5 G) ap.one<|e_ lr,none,0,0,[],z,ii z,lb z,ii z,onL,O,G_,an_⟩
 refine Wk<|Wm z<|R z (add_ z z)<|Rw z<|Wm z<|RM z z<|R z (add_ z z) ?_
 obtain ⟨aq,ar,hmv⟩:=bdS<|ifF hmu hcj;have hw:=(h5.ag B).e G;have hk:=L.g hw;refine RX z (at_ (α:=UInt8) k_ z_5 z z z hk ar) ?_;rintro _ ⟨_,_,_,rfl,au,av,_⟩;obtain rfl:=u8 av;refine R z (l0 g_5 z<|au.at0 z)<|R z (b_s d_5 d_3 z)<|R z (add_ z z)<|Rw z<|Wq<|Wm z<|R z (add_ z z)<|Rm z<|R z (lnR k_ z hk)<|R z (X_ z z)<|Wx z (λhcl=>?_) (λhcl=>?_)
 .refine Ws<|R z (bP (parts:=[]) (cs:=[vI 0,Str.v (⟨[]⟩:Str),vI 0,sN]) d_L z z)<|Rm z<|E0 (fs0 (cur':=[vI 0,Str.v (⟨[]⟩:Str),vI 0,sN]) a_a z z (h6.e G) z z z z) ?_
  rintro _ _ ⟨aw,ax⟩;refine Ra z<|Rw z ?_
  obtain rfl:=som<|ifT hmv hcl;exact Wr<|x_ hr (q_ b_p a_a z aw z) z z ⟨bM (bup h5 G) ax.one<|e_ lr,none,0,0,[],z,ii z,lb z,ii z,onL,O,G_,an_⟩
 refine Wk<|Wm z<|Rm z<|R z (add_ z z)<|Rm z<|R z (add_ z z) ?_
 obtain ⟨_,ay,ab⟩:=bdS<|ifF hmv hcl;refine RX z (rX k_ z_5 z z hk z z ay) ?_;rintro _ ⟨_,_,_,rfl,az⟩;have hx:=lt_ h5.s G.s;obtain ⟨aA,aB,hmy⟩:=bdS ab;refine E z (fc call78 z<|W_w10 aB (zt' V hx) az) ?_;rintro _ _ ⟨s3,rfl,_⟩;refine Rw z<|Wm z<|R z (add_ z z)<|Rm z<|R z (add_ z z)<|Rw z<|Wq<|Wm z<|Rm z ?_
 have hz:=hw.e s3;have a0:=L.g hz;refine R z (lnR k_ z a0)<|R z (b_t z z)<|Wx z (λhcm=>?_) (λhcm=>?_)
 .refine Ws<|R z (bP (parts:=[]) (cs:=[vI 0,Str.v (⟨[]⟩:Str),vI 0,sN]) d_L z z)<|Rm z<|E0 (fs0 (cur':=[vI 0,Str.v (⟨[]⟩:Str),vI 0,sN]) a_a z z ((h6.e G).e s3) z z z z) ?_
  rintro _ _ ⟨aC,aD⟩;refine Ra z<|Rw z ?_
  obtain rfl:=som<|ifT hmy hcm;exact Wr<|x_ hr (q_ b_p a_a z aC z) z z ⟨bM (bup (bup h5 G) s3) aD.one<|e_ lr,none,0,0,[],z,ii z,lb z,ii z,onL,O,G_,an_⟩
 refine Wk<|Wm z<|Rm z<|R z (add_ z z)<|Rm z ?_
 obtain ⟨_,aE,ad⟩:=bdS<|ifF hmy hcm;refine RX z (rX k_ z_5 z z a0 z z aE) ?_;rintro _ ⟨_,_,_,rfl,aF⟩;have hh:=lt_ hx s3.s;obtain ⟨aG,_,aH,ae⟩:=Y_ ad;refine E z (fc call79 z<|W_w2o aH (zt' V hh) aF) ?_;rintro _ aI ⟨s4,aa,nb,cc,aJ,rfl,hn,aK,a1⟩;refine Rm z<|Re z z z<|Re z z z<|Ra z<|Rw z<|Wq (Wd (X:=noX) 262144 (pl_ 19 [17,18]) mo (by kernel_rfl) λwo s1 _=>dM z z z<|dM z z z ?_)
 obtain ⟨xd,aL,af⟩:=bdS ae;have a2:=(hz.e s4).e s1;have hp:=L.g a2;refine dRX z z (at_ (α:=UInt8) k_ z_5 z z z hp aL) ?_;rintro _ ⟨_,_,_,rfl,aM,aN,_⟩;obtain rfl:=u8 aN;refine dR z z (l0 g_5 z<|aM.at0 z)<|dR z z (b_s d_5 d_3 z) ?_
 iterate 3 refine dM z z z ?_
 obtain ⟨xe,aO,ah⟩:=bdS af;refine dRX z z (rX k_ z_5 z z hp z z aO) ?_;rintro _ ⟨_,_,_,rfl,hq⟩;refine dR z z (g_j k_ d_9 d_5 z_5 z hq)<|dM z z z<|dM z z z ?_
 obtain ⟨xf,aP,ai⟩:=bdS ah;refine dRX z z (at_ (α:=UInt8) k_ z_5 z z z hp aP) ?_;rintro _ ⟨_,_,_,rfl,aQ,aR,_⟩;obtain rfl:=u8 aR;refine dR z z (l0 g_5 z<|aQ.at0 z)<|dR z z (b_s d_5 d_3 z)<|dM z z z<|dR z z (bP (parts:=[(0,.tmp 70),(1,.tmp 75),(2,.tmp 80),(3,.tmp 81)]) (cs:=[vI (byteI xd),Str.v (⟨xe⟩:Str),vI<|byteI xf,sl aa nb cc]) d_L z z)<|dE z z (fa e_j) (.inr λ_ _ h=>E_<|h.2.below) ?_
 rintro _ aS ⟨rfl,a3⟩;have I:=a3.below;refine dE0 z (fs0 (cur':=[vI (byteI xd),Str.v (⟨xe⟩:Str),vI<|byteI xf,sl aa nb cc]) a_a z z (a3.blk:Blk aS wo.z [vI 0,Str.v (⟨[]⟩:Str),vI 0,sN]) z z z z) (.inl z) ?_;rintro _ _ ⟨a4,aT⟩;have J:=aT.one;refine pD<|Wo<|Wq<|Ws<|R z (lN (vs:=[vI (byteI xd),Str.v (⟨xe⟩:Str),vI<|byteI xf,sl aa nb cc]) b_p a_a z z fid<|a4.row 0 4 z) ?_
 have a5:=((hn.e s1).e I).c J<|ds<|mno (a_.lt hn) s1.s
 obtain ⟨aU,aV,aj⟩:=bdS ai;refine E z (fc call80 z<|W_w2t (B:=aI.z) (x1:=(⟨byteI xd,(⟨xe⟩:Str),byteI xf,aG⟩:p_)) aV (a_K<|lt_ (lt_ s1.s I.s) J.s) (c_U _) (repS.len hq) (c_U _)<|or_ a5<|a_.lt hn) ?_;rintro _ wi ⟨s9,_,_,_,_,rfl,a6,_,_⟩;refine Rw z<|Wq ?_
 obtain ⟨aW,W,Y⟩:=bdS aj;refine Wt (λa w=>∃(xr:Bool),xr=aW/\Sat 103 [(1,vI x2),(4,pt w0.z),(10,vI<|b_ (b_ (b_ (b_ x2 2)<|byteI aq) 3) aA),(13,pt wo.z),(97,vB xr)] a/\Below wi.z wi w) ?_ ?_
 .refine Wg<|Rm z<|R z (lnR k_ z<|a_.rep a6)<|Rq z z z<|Rm z ?_
  rcases bs ((aU.length:Int)==0) with H | H
  .iterate 8 refine Nh z H ?_
   exact R z (pT z H z)<|Wl (λ_ q=>⟨true,som<|ifT W H,q.k<|s5 z z z z z,br wi⟩)
  iterate 4 refine Rh z H (mv z) ?_
  refine Rh z H (add_ z z) ?_;obtain ⟨_,aX,ak⟩:=bdS<|ifF W H;have a7:=lt_ (lt_ hh s4.s) s1.s;refine RXg z z H z (rX k_ z_5 z z (L.g<|((a2.e I).c J<|g_ (or0 (e_ lr) (n_<|zt' V a7):∀k∈[wo.z],¬B k)).e s9) z z aX) ?_;rintro _ ⟨_,_,_,rfl,aY⟩;obtain ⟨aZ,b0,al⟩:=bdS ak;refine Eg z z H z (fc call81 z<|W_w2u (B:=wi.z) b0 zr (a_.rep a6)<|repS.mono aY<|zt' V<|lt_ (lt_ (lt_ a7 I.s) J.s) s9.s) ?_;rintro _ _ ⟨b1,rfl⟩;exact Rh z H (not_ z)<|R z (pF z H z)<|Wl (λ_ q=>⟨!aZ,som al,q.k<|s5 z z z z z,b1⟩)
 rintro b2 _ ⟨xr,rfl,_,sg⟩;revert b2;refine Wo<|Wc z (λhcs=>?_) (λhcs=>?_)
 .refine Ws<|R z (bP (parts:=[]) (cs:=[vI 0,Str.v (⟨[]⟩:Str),vI 0,sN]) d_L z z)<|Rm z<|E0 (fs0 (cur':=[vI 0,Str.v (⟨[]⟩:Str),vI 0,sN]) a_a z z ((((((((h6.e G).e s3).e s4).e s1).e I).c J<|djs<|mm1 h6.lt<|lt_ (lt_ (lt_ G.s s3.s) s4.s) s1.s).e s9).e sg) z z z z) ?_
  rintro _ _ ⟨b3,b4⟩;refine Ra z<|Rw z ?_
  obtain rfl:=som<|ifT Y hcs;exact Wr<|x_ hr (q_ b_p a_a z b3 z) z z ⟨bM (bup (bup (bM (bup (bup (bup (bup (bup h5 G) s3) s4) s1) I) J<|m1<|lt_ (lt_ hh s4.s) s1.s) s9) sg) b4.one<|e_ lr,none,0,0,[],z,ii z,lb z,ii z,onL,O,G_,an_⟩
 refine Wk<|Ws<|R z (lN (vs:=[vI (byteI xd),Str.v (⟨xe⟩:Str),vI<|byteI xf,sl aa nb cc]) b_p a_a z z fid<|((a4.e s9).e sg).row 0 4 z)<|Rm z<|R z (add_ z z) ?_
 have a8:=lt_ G.s s3.s;refine E0 (fs0 (cur':=[vI (byteI xd),Str.v (⟨xe⟩:Str),vI<|byteI xf,sl aa nb cc]) a_a z z ((((((((h6.e G).e s3).e s4).e s1).e I).c J<|djs<|mm1 h6.lt<|lt_ (lt_ a8 s4.s) s1.s).e s9).e sg) z z z z) ?_;rintro _ _ ⟨b5,b6⟩;have a9:=b6.one;refine Ra z<|Rw z ?_
 obtain rfl:=som<|ifF Y hcs;exact Wr<|x_ hr (q_ b_p a_a z b5 z) z z ⟨bM (bup (bup (bM (bup (bup (bup (bup (bup h5 G) s3) s4) s1) I) J<|m1<|lt_ (lt_ hh s4.s) s1.s) s9) sg) a9<|e_ lr,aa,nb,cc,aJ,z,c_U _,repS.len hq,c_U _,((a5.e s9).e sg).c a9<|s_ a1 h6.lt a8,iA _ _,aK,o_ a1 hh⟩
def Q14 (w0:World)(B:Zone)(r:(List p_)×Int)(v:Value)(w':World):Prop:=Bw w0 w'/\un2 (λJ h=>∃G H I S1,v = .tuple #[sl G H I,vI h]/\a_ w' S1 (sl G H I) J/\inI h/\S1.Nodup/\(∀k∈S1,w0.z<=k)) r
theorem j_U {x1:Bt}{res:(List p_)×Int}(hm:f_h n x1=some res)(Y:B<=w0.z)(a1:repS w0 B (sl A0 N0 C0) x1):h_ prog 34 [sl A0 N0 C0] w0 (Q14 w0 B res):=by
 unfold f_h at hm
 refine goG func34 z z z λfn hr=>Ws<|Ra z<|Rw z<|Ws<|E z (f0 (α:=p_) g_1) ?_
 rintro _ h ⟨aa,ab,ad,rfl,sc,ae⟩;refine Rw z<|Ws<|Rw z ?_
 obtain ⟨_,a2,hmo⟩:=bdS hm;refine a_X (σ:=(List p_)×Int) (ρ:=(List p_)×Int) (λs a w=>un2 (λxd W=>∃I J L G,Sat 26 [(0,sl A0 N0 C0),(2,sN),(3,vI 0),(4,sl I J L),(5,vI W)] a/\Cg [w0.z] h w/\a_ w G (sl I J L) xd/\G.Nodup/\(∀k∈G,k∈[w0.z]∨h.z<=k)/\inI W) s) (λs a w=>un2 (λxd W=>∃I J L G,Sat 26 [(2,sN),(3,vI 0)] a/\Cg [w0.z] h w/\a_ w G (sl I J L) xd/\G.Nodup/\(∀k∈G,k∈[w0.z]∨h.z<=k)/\inI W) s) (rQ prog fn<|Q14 w0 B) a2 ?_ ?_ ?_ ?_
 .exact λ_ q=>⟨aa,ab,ad,[w0.z],q.k<|s5 z z z z z,cr [w0.z] h,ae,Z_,io sr,ii z⟩
 .rintro ⟨xd,W⟩ _ af _ ⟨I,J,L,G,a3,sa,hb,hg,hh,hi⟩ a5;refine Wu ?_ a3;refine Wb<|Wm z<|Rm z ?_
  have hp:=lt_ sc.s sa.s;obtain ⟨H,ah,_,ai,hmq⟩:=U_<|a_7 a5;refine E z (fc call54 z<|W_w2v ai (zt' Y hp) (a1.g<|(sc.ag B).c sa<|g_ (or0 (e_ lr) (n_ Y):∀k∈[w0.z],¬B k)) hi) ?_;rintro _ wj ⟨s3,ak,nl,cm,Sr,rfl,aj,al,am,he,an,ao,ht⟩;refine Rm z ?_
  iterate 3 refine Re z z z ?_
  refine E z (fa e_j) ?_;rintro _ ws ⟨rfl,hu⟩;have O:=hu.below;refine E0 (fs0 (cur':=[vI H.kind,Str.v H.name,vI H.version,sl ak nl cm]) a_a z z (hu.blk:Blk ws wj.z [vI 0,Str.v (⟨[]⟩:Str),vI 0,sN]) z z z z) ?_;rintro _ wv ⟨ap,aq⟩;have V:=aq.one;refine Ra z<|Rw z<|Wq<|Wm z<|R z (not_ z)<|Wx z (λhcn=>?_) (λhcn=>?_)
  .refine Wm z<|Rm z<|Ra z<|Rw z ?_
   exact Wr<|rtO<|qL (som<|ifT hmq hcn).symm<|a_0 hr z z ⟨bM (bup (bup (bM sc sa<|e_ lr) s3) O) V<|m1<|lt_ hp s3.s,I,J,L,G,z,((hb.e s3).e O).c V<|ds<|mno (a_.lt hb) s3.s,hi,hg,(or1 hh (e_ lr) (a_W sc.s):∀k∈G,w0.z<=k)⟩
  refine Wk<|Wm z<|R z (lN (vs:=[vI H.kind,Str.v H.name,vI H.version,sl ak nl cm]) b_p a_a z z fid<|ap.row 0 4 z)<|E z (fS [(.tmp 22)] g_1 z z z (a_v z) (lb z)<|lb z) ?_
  rintro _ ww ⟨rfl,hx⟩;have hf:=hx.below;have aF:=(he.e O).c V<|ds<|mnr<|a_.lt he
  obtain ⟨ar,au,a6⟩:=bdS<|ifF hmq hcn;refine E z (b_l (α:=p_) g_1 au z z ((((hb.e s3).e O).c V<|ds<|mno (a_.lt hb) s3.s).e hf) hg (hx.blk:Blk ww wv.z [vI H.kind,Str.v H.name,vI H.version,sl ak nl cm]) (n_x (x:=H) (S1:=Sr) aj al am<|((he.e O).c V<|ds<|mnr<|a_.lt he).e hf) (a_T ht (a_.lt hb) lr) ao) ?_;rintro _ av ⟨Sy,aw,ax,ay,rfl,az,aA,aB,aC⟩;refine Rw z<|Wg<|Rm z<|Ra z<|Wl ?_
  have hz:=lt_ sa.s s3.s;have a0:∀k∈G,k∈[w0.z]∨h.z<=k:=or1 hh (io sr)<|j_ lr;exact λ_ q=>⟨(ar,ah),(som a6).symm,⟨aw,ax,ay,Sy,q.k<|s5 z z z z z,(cM (i_ (cM (i_ (i_ (cM (cr [w0.z] h) sa (io sr):Cg [w0.z] h af) s3:Cg [w0.z] h wj) O:Cg [w0.z] h ws) V (mor hz:∀k∈[wj.z],k∈[w0.z]∨h.z<=k):Cg [w0.z] h wv) hf:Cg [w0.z] h ww) az a0:Cg [w0.z] h av),aA,aB,(or2 aC a0 (or0 ht (j_ sa.s):∀k∈Sr,k∈[w0.z]∨h.z<=k) (j_<|lt_ (lt_ (lt_ hz O.s) V.s) hf.s):∀k∈Sy,k∈[w0.z]∨h.z<=k),an⟩⟩
 .rintro ⟨xd,W⟩ aD _ rfl ⟨I,J,L,G,_,aE,hb,hg,hh,hi⟩;have a7:=elL hmo;revert aD;obtain rfl:=som<|a_7 a7;exact a_0 hr z z ⟨bM sc aE<|e_ lr,none,0,0,[],z,onL,ii z,G_,an_⟩
 rintro _ _ _ _ rfl ⟨rfl,a8⟩;have a9:=elR hmo;obtain rfl:=som a9;exact ⟨a8,z⟩
theorem W_w14 {x1:Log}{res:Bool}(hm:h_c n x1=some res)(I:B<=w0.z)(G:repS w0 B (sl A0 N0 C0) x1.bytes)(V:inI x1.stored):h_ prog 31 [(.agg #[sl A0 N0 C0,vI x1.stored])] w0 (Q11 w0 B res):=by
 unfold h_c at hm
 refine goG func31 z z z λfn hr=>Ws<|E z (fb z) ?_
 rintro _ wj ⟨rfl,ha⟩;have h1:=ha.below;have h5:Blk wj w0.z [sl A0 N0 C0,vI x1.stored]:=ha.blk;refine Rw z<|Wq<|Ws<|Rf z e_h z<|R z (l0 g_3 z<|h5.at z)<|Rf z c_6 z<|R z (l0 K_ z<|h5.at z) ?_
 have hb:=G.e h1;refine R z (lnR k_ z hb) ?_;obtain ⟨_,ek,hmc⟩:=bdS hm;refine E z (fc call51 z<|b_a ek (zt' I h1.s) V (ii z)<|b_Y<|repS.len hb) ?_;rintro _ _ ⟨s2,rfl⟩;refine R z (not_ z)<|Wx z (λJ=>?_) (λJ=>?_)
 .refine Ws<|Rw z ?_
  obtain rfl:=som<|ifT hmc J;exact Wr<|c_ hr z ⟨bup h1 s2,z⟩
 refine Wk<|Ws<|Rf z c_6 z ?_
 have hd:=h5.e s2;refine R z (l0 K_ z<|hd.at z) ?_;have he:=(h1.ag B).e s2;have hf:=lt_ h1.s s2.s;obtain ⟨_,rl,em,hmn⟩:=Y_<|ifF hmc J;refine E z (fc call34 z<|j_U em (zt' I hf)<|G.g he) ?_;rintro _ _ ⟨s3,_,_,_,_,rfl,_,_,_,_⟩;refine Rm z<|Re z z z<|Re z z z<|Ra z<|Rw z<|Ws<|Rf z c_6 z ?_
 have L:=hd.e s3;refine R z (l0 K_ z<|L.at z)<|Rf z e_h z<|R z (l0 g_3 z<|L.at z) ?_
 obtain ⟨_,eo,hmp⟩:=bdS hmn;have hg:=he.e s3;refine RX z (rX k_ z_5 z z (G.g hg) z z eo) ?_;rintro _ ⟨_,_,_,rfl,hq⟩;obtain ⟨_,rr,es,hmt⟩:=Y_ hmp;refine E z (fc call34 z<|j_U es (zt' I<|lt_ hf s3.s) hq) ?_;rintro _ H ⟨s8,_,_,_,_,rfl,_,_,_,_⟩;refine Rm z<|Re z z z<|Re z z z<|Ra z<|Rw z<|Wq ?_
 obtain ⟨uu,huh,hmv⟩:=bdS hmt;refine Wt (λa w=>∃(O:Bool),O=uu/\Sat 40 [(2,vB O)] a/\Below H.z H w) ?_ ?_
 .refine Wg<|Rm z<|Rf z c_6 z ?_
  have hi:=L.e s8;refine R z (l0 K_ z<|hi.at z)<|R z (lnR k_ z<|G.g<|hg.e s8)<|Rq z z z<|Rm z ?_
  rcases bs (rl==(x1.bytes.length:Int)) with h | h
  .exact Rh z h (mv z)<|Rh z h (fd e_h z)<|Rh z h (l0 g_3 z<|hi.at z)<|Rh z h (eql z z)<|R z (pT z h z)<|Ra z<|Wl (λ_ q=>⟨rr==x1.stored,som<|ifT huh h,q.k<|s1 z,br H⟩)
  iterate 4 refine Nh z h ?_
  exact R z (pF z h z)<|Ra z<|Wl (λ_ q=>⟨false,som<|ifF huh h,q.k<|s1 z,br H⟩)
 rintro aw _ ⟨O,rfl,_,sx⟩;revert aw;refine Wo ?_;obtain rfl:=som hmv;exact Wr<|c_ hr z ⟨bup (bup (bup (bup h1 s2) s3) s8) sx,z⟩
def Q15 (w0:World)(B:Zone)(r:(List r_))(v:Value)(w':World):Prop:=Bw w0 w'/\(λI=>∃h G H,(sl h G H)=v/\repS w' (zn B w0.z w'.z) (sl h G H) I) r
theorem W_w2w {x1:List r_}{x2:p_}{res:(List r_)}(hm:j_i x1 x2=some res)(az:B<=w0.z)(a1:repS w0 B (sl A0 N0 C0) x1)(dP:inI x2.kind)(aq:x2.name.b.length<=LEN)(ar:inI x2.version)(au:repS w0 B (sl AH NH CH) x2.data):h_ prog 52 [sl A0 N0 C0,(.agg #[vI x2.kind,Str.v x2.name,vI x2.version,sl AH NH CH])] w0 (Q15 w0 B res):=by
 unfold j_i at hm
 refine goG func52 z z z λfn hr=>Ws<|E z (fb z) ?_
 rintro _ cl ⟨rfl,b0⟩;have W:=b0.below;have ht:Blk cl w0.z [vI x2.kind,Str.v x2.name,vI x2.version,sl AH NH CH]:=b0.blk;refine Rw z<|Ws<|E z (q_N (α:=r_) c_h B) ?_
 rintro _ I ⟨b1,rfl,s5,cm⟩;refine Rw z<|Wq ?_
 obtain ⟨cn,av,c0⟩:=bdS hm;refine Wt (λa w=>∃(xa:Str)(xb:Int)(xw:Bt),(xa,xb,xw)=cn/\∃an no cp Sx gc,Sat 61 [(0,sl A0 N0 C0),(3,pt w0.z),(5,sl b1 0 0),(6,pt gc)] a/\Below I.z I w/\xa.b.length<=LEN/\inI xb/\a_ w Sx (sl an no cp) xw/\Sx.Nodup/\(∀k∈Sx,I.z<=k)/\Blk w gc [Str.v xa,vI xb,sl an no cp]/\I.z<=gc/\(∀k∈Sx,k∉[gc])) ?_ ?_
 .refine Wd (X:=λk=>k∈([]:List Nat)∨I.z<=k) 1024 (.rd 0<|.rd 1<|.rd 2<|.rd 3<|.rd 5<|.rd 6<|.br 4 (.br 7 (.rd 8<|.ef 9<|.ef 10 .done) 9<|.ef 7<|.rd 8<|.ef 10 .done) 9<|.ef 4<|.ef 7<|.rd 8<|.ef 10 .done) mo (by kernel_rfl) λwy s7 _=>dR z z (fd d_O z) ?_
  have aA:=(ht.e s5).e s7;refine dR z z (l1 g_9 z (e_o nm0<|Nat.lt_of_lt_of_le ht.lt s5.s)<|aA.at z)<|dR z z (fd c_R z)<|dR z z (l1 g_3 z (e_o nm0<|Nat.lt_of_lt_of_le ht.lt s5.s)<|aA.at z)<|dR z z (fd d_P z)<|dR z z (l1 K_ z (e_o nm0<|Nat.lt_of_lt_of_le ht.lt s5.s)<|aA.at z)<|e_C ?_ ?_
  .refine dE z z (f0 (α:=UInt8) M_) (.inr λ_ _ h=>E_ (by obtain ⟨_,_,_,_,h,_⟩:=h;exact h)) ?_;rintro _ aB ⟨_,_,_,rfl,su,aC⟩;refine e_C ?_ ?_
   .obtain ⟨co,cq,c1⟩:=bdS av;refine dE z z (fN (α:=UInt8) M_ cq z z aC Z_<|au.g<|(((W.ag B).e s5).e s7).e su) (.inr λ_ _ h=>by obtain ⟨_,_,_,_,_,h,_⟩:=h;exact h.mono λk _ hk=>(mor s7.s:∀k∈[wy.z],k∈([]:List Nat)∨I.z<=k) k hk) ?_;rintro _ b2 ⟨ct,aD,aE,aF,rfl,b3,b4,cu,cv⟩;refine dR z z (bP (parts:=[(0,.tmp 11),(1,.tmp 13),(2,.tmp 17)]) (cs:=[Str.v x2.name,vI x2.version,sl aD aE aF]) j_G z z)<|dE z z (fa g_7) (.inr λ_ _ h=>E_<|h.2.below) ?_
    rintro _ cw ⟨rfl,b5⟩;have b6:=b5.below;have b7:=lt_ s7.s su.s;have aG:=m1<|lt_ b7 b3.s
    refine dE0 z (fs0 (cur':=[Str.v x2.name,vI x2.version,sl aD aE aF]) b_4 z z (b5.blk:Blk cw b2.z [(Str.v (⟨[]⟩:Str)),vI 0,sN]) z z z z) (.inr λ_ _ h=>c_W (atp aG) h.2) ?_;rintro _ _ ⟨cx,cy⟩;have b8:=cy.one;refine pD ?_;have b9:=mnr<|a_.lt b4
    have ba:=m1 s7.s;exact λ_ q=>⟨x2.name,x2.version,co,som c1,aD,aE,aF,ct,b2.z,q.k<|s4 z z z z,bM (bup (bM (bup s7 su) b3 ba) b6) b8 aG,aq,ar,(b4.e b6).c b8<|ds b9,cu,b_2 cv ba b7,cx,atp aG,ds b9⟩
   refine dE z z (fa g_7) (.inr λ_ _ h=>E_<|h.2.below) ?_;rintro _ cz ⟨rfl,bb⟩;have a2:=bb.below;have bc:Blk cz aB.z [(Str.v (⟨[]⟩:Str)),vI 0,sN]:=bb.blk;obtain ⟨cA,cB,c2⟩:=bdS av;refine dE z z (fN (α:=UInt8) M_ cB z z (aC.e a2) Z_<|au.g<|((((W.ag B).e s5).e s7).e su).e a2) (.inr λ_ _ h=>by obtain ⟨_,_,_,_,_,h,_⟩:=h;exact h.mono λk _ hk=>(mor s7.s:∀k∈[wy.z],k∈([]:List Nat)∨I.z<=k) k hk) ?_;rintro _ _ ⟨be,aH,aI,aJ,rfl,bf,cC,cD,bg⟩;refine dR z z (bP (parts:=[(0,.tmp 11),(1,.tmp 13),(2,.tmp 17)]) (cs:=[Str.v x2.name,vI x2.version,sl aH aI aJ]) j_G z z) ?_;have bh:=mnr<|a_.lt aC
   have bi:=lt_ s7.s su.s;have aK:=m1 bi;refine dE0 z (fs0 (cur':=[Str.v x2.name,vI x2.version,sl aH aI aJ]) b_4 z z (bc.c bf<|atp bh) z z z z) (.inr λ_ _ h=>c_W (atp aK) h.2) ?_;rintro _ _ ⟨cE,cF⟩;have bj:=cF.one;refine pD ?_;have bk:∀k∈be,k∉[aB.z]:=or1 bg (ds bh)<|a_P (e_ bc.lt) lr;have bm:=m1 s7.s;exact λ_ q=>⟨x2.name,x2.version,cA,som c2,aH,aI,aJ,be,aB.z,q.k<|s4 z z z z,bM (bM (bup (bup s7 su) a2) bf bm) bj aK,aq,ar,cC.c bj bk,cD,b_2 bg bm<|lt_ bi a2.s,cE,atp aK,bk⟩
  refine dE z z (fa g_7) (.inr λ_ _ h=>E_<|h.2.below) ?_;rintro _ bn ⟨rfl,bo⟩;have aL:=bo.below;have aM:Blk bn wy.z [(Str.v (⟨[]⟩:Str)),vI 0,sN]:=bo.blk;refine dE z z (f0 (α:=UInt8) M_) (.inr λ_ _ h=>E_ (by obtain ⟨_,_,_,_,h,_⟩:=h;exact h)) ?_;rintro _ _ ⟨_,_,_,rfl,sz,cG⟩;obtain ⟨cH,cI,c3⟩:=bdS av;have aN:=lt_ s7.s aL.s;refine dE z z (fN (α:=UInt8) M_ cI z z cG Z_<|au.g<|((((W.ag B).e s5).e s7).e aL).e sz) (.inr λ_ _ h=>by obtain ⟨_,_,_,_,_,h,_⟩:=h;exact h.mono λk _ hk=>(mor aN:∀k∈[bn.z],k∈([]:List Nat)∨I.z<=k) k hk) ?_;rintro _ _ ⟨bp,aO,aP,aQ,rfl,bq,cJ,cK,bt⟩;refine dR z z (bP (parts:=[(0,.tmp 11),(1,.tmp 13),(2,.tmp 17)]) (cs:=[Str.v x2.name,vI x2.version,sl aO aP aQ]) j_G z z) ?_;have bu:=mmr aM.lt;have aR:=m1 s7.s;refine dE0 z (fs0 (cur':=[Str.v x2.name,vI x2.version,sl aO aP aQ]) b_4 z z ((aM.e sz).c bq<|djs bu) z z z z) (.inr λ_ _ h=>c_W (atp aR) h.2) ?_;rintro _ _ ⟨cL,cN⟩;have bv:=cN.one;refine pD ?_;have bw:∀k∈bp,k∉[wy.z]:=or1 bt bu<|a_P (e_ aM.lt) sz.s;have bx:=m1 aN;exact λ_ q=>⟨x2.name,x2.version,cH,som c3,aO,aP,aQ,bp,wy.z,q.k<|s4 z z z z,bM (bM (bup (bup s7 aL) sz) bq bx) bv aR,aq,ar,cJ.c bv bw,cK,b_2 bt bx<|lt_ aN sz.s,cL,atp aR,bw⟩
 rintro cO J ⟨xa,xb,xw,rfl,an,no,cp,Sx,gc,_,sd,bz,bA,hv,_,bB,bC,_,_⟩;revert cO;refine Wo<|Ws<|Rw z<|Wq<|Ws<|Rw z ?_
 obtain ⟨_,c4,aU⟩:=bdS<|b_Z c0;refine Wf (σ:=(List r_)×Bool) (ρ:=List r_) (λ(a3:Nat) s a w=>un2 (λxi xf=>∃L O V G,Sat 61 [(0,sl A0 N0 C0),(3,pt w0.z),(5,sl L O V),(6,pt gc),(7,vB xf),(8,vI ((a3:Nat):Int))] a/\Below J.z J w/\W_ w G (zn B I.z J.z) (sl L O V) xi/\G.Nodup/\(∀k∈G,J.z<=k)) s) (λs a w=>un2 (λxi xf=>∃L O V G,Sat 61 [(3,pt w0.z),(5,sl L O V),(6,pt gc),(7,vB xf)] a/\Below J.z J w/\W_ w G (zn B I.z J.z) (sl L O V) xi/\G.Nodup/\(∀k∈G,J.z<=k)) s) (rQ prog fn<|Q15 w0 B) c4 ?_ ?_ ?_ ?_ ?_
 .exact λ_ q=>⟨b1,0,0,([]:List Nat),q.k<|s6 z z z z z z,br J,W_.mono (cm.e sd) d_o,G_,an_⟩
 .rintro a3 ⟨xi,xf⟩ _ _ _ aV ⟨L,O,V,G,c5,sq,hj,hl,hg⟩ c6;refine Wu ?_ c5;refine Wq<|Wm z<|Rm z ?_
  have bD:=(((W.ag B).e s5).e sd).e sq;refine R z (lnR b_O z<|a1.g bD)<|Rl z z z<|Wx z (λ_=>?_) (λhc=>(O_ aV hc).elim)
  refine Wk<|Wq<|Wb<|Wb<|Wq (Wd (X:=noX) 0 (pl_ 9 []) mo (by kernel_rfl) λH se _=>dM z z z<|dM z z z ?_)
  obtain ⟨_,cP,c7⟩:=bdS<|a_7 c6;have bE:=a1.g<|bD.e se
  refine dRX z z (at_ (α:=r_) b_O b_4 z z z bE cP) ?_;rintro _ ⟨_,_,_,rfl,cQ,cR,_⟩;obtain ⟨_,_,_,rfl,_,_,_⟩:=f_l cR;refine dR z z (fd j_K z)<|dR z z (l0 g_9 z<|cQ.at (j:=0) z)<|dR z z (fd d_O z) ?_
  have bF:=(((ht.e s5).e sd).e sq).e se;refine dR z z (l0 g_9 z<|bF.at z)<|dR z z (d_q z z)<|dQ z z z<|pD<|Wo ?_
  obtain ⟨cS,aW,c9⟩:=bdS c7;refine Wt (λa w=>∃(a5:List r_)(a6:Bool),(a5,a6)=cS/\∃a7 a8 a9 Y,Sat 61 [(0,sl A0 N0 C0),(3,pt w0.z),(5,sl a7 a8 a9),(6,pt gc),(7,vB a6),(8,vI ((a3:Nat):Int))] a/\Cg G H w/\W_ w Y (zn B I.z J.z) (sl a7 a8 a9) a5/\Y.Nodup/\(∀k∈Y,k∈G∨H.z<=k)) ?_ ?_
  .refine Wc z (λaw=>?_)<|λaw=>?_
   .refine Wg<|RM z z<|Rm z ?_
    obtain ⟨a0,cT,ca⟩:=bdS<|ifT aW aw;refine RX z (at_ (α:=r_) b_O b_4 z z z bE cT) ?_;rintro _ ⟨_,_,_,rfl,cU,cV,_⟩;obtain ⟨bG,bH,bI,rfl,cW,cX,cY⟩:=f_l cV;refine R z (lN (vs:=[Str.v a0.name,vI a0.version,sl bG bH bI]) e_H b_4 z z fid cU)<|E z (fS [(.tmp 38)] c_h z z z (a_v z) (lb z)<|lb z) ?_
    rintro _ bJ ⟨rfl,bK⟩;have aa:=bK.below;obtain ⟨cZ,d0,cb⟩:=bdS ca;refine E z (l_b (α:=r_) c_h d0 z z ((hj.e se).e aa) hl (bK.blk:Blk bJ H.z [Str.v a0.name,vI a0.version,sl bG bH bI]) (h_n (x:=a0) cW cX<|repS.mono (cY.e aa) d_o) (or0 hg (c_X (n_<|zt' az<|lt_ (lt_ W.s s5.s) sd.s) lr):∀k∈G,¬(zn B I.z J.z) k)) ?_;rintro _ d1 ⟨bL,d2,d3,d4,rfl,d5,d6,d7,d8⟩;refine Ra z<|Wl ?_
    exact λ_ q=>⟨cZ,xf,som cb,d2,d3,d4,bL,q.k<|s6 z z z z z z,(cM (i_ (cr G H) aa:Cg G H bJ) d5 (io sr):Cg G H d1),d6,d7,(or1 d8 (io sr) (j_ aa.s):∀k∈bL,k∈G∨H.z<=k)⟩
   refine Ws<|Rf z c_Q z<|R z (l0 g_3 z<|bF.at z)<|Rq z z z<|Rw z ?_
   obtain ⟨d9,aX,cc⟩:=bdS<|ifF aW aw;refine Wt (λa w=>∃(ab:List r_)(ad:Bool),(ab,ad)=d9/\∃ae af ah Sr,Sat 61 [(0,sl A0 N0 C0),(3,pt w0.z),(5,sl ae af ah),(6,pt gc),(7,vB ad),(8,vI ((a3:Nat):Int))] a/\Cg G H w/\W_ w Sr (zn B I.z J.z) (sl ae af ah) ab/\Sr.Nodup/\(∀k∈Sr,k∈G∨H.z<=k)) ?_ ?_
   .refine Wc z (λax=>?_)<|λax=>?_
    .refine Wm z<|R z (lN (vs:=[Str.v xa,vI xb,sl an no cp]) e_H b_4 z z fid<|((bC.e sq).e se).row 0 3 z)<|E z (fS [(.tmp 46)] c_h z z z (a_v z) (lb z)<|lb z) ?_
     rintro _ bN ⟨rfl,bO⟩;have ai:=bO.below;have dS:=(hv.e sq).e se;obtain ⟨da,db,cd⟩:=bdS<|ifT aX ax;refine E z (l_b (α:=r_) c_h db z z ((hj.e se).e ai) hl (bO.blk:Blk bN H.z [Str.v xa,vI xb,sl an no cp]) (h_n (x:=(⟨xa,xb,xw⟩:r_)) bz bA<|or_ (((hv.e sq).e se).e ai)<|zin (B:=B) bB<|a_.lt hv) (or0 hg (c_X (n_<|zt' az<|lt_ (lt_ W.s s5.s) sd.s) lr):∀k∈G,¬(zn B I.z J.z) k)) ?_;rintro _ dc ⟨bQ,dd,de,df,rfl,dg,dh,di,dj⟩;refine Rw z<|Wg<|Ra z<|Wl ?_
     exact λ_ q=>⟨da,true,som cd,dd,de,df,bQ,q.k<|s6 z z z z z z,(cM (i_ (cr G H) ai:Cg G H bN) dg (io sr):Cg G H dc),dh,di,(or1 dj (io sr) (j_ ai.s):∀k∈bQ,k∈G∨H.z<=k)⟩
    exact a_j<|λ_ q=>⟨xi,xf,som<|ifF aX ax,L,O,V,G,q.k<|s6 z z z z z z,cr G H,hj.e se,hl,io sr⟩
   rintro dk dl ⟨ab,ad,rfl,ae,af,ah,Sr,_,dm,dn,dp,dq⟩;revert dk;exact λ_ q=>⟨ab,ad,som<|a_7 cc,ae,af,ah,Sr,q.k<|s6 z z z z z z,(cM (cr G H) dm (io sr):Cg G H dl),dn,dp,(or1 dq (io sr) (j_ lr):∀k∈Sr,k∈G∨H.z<=k)⟩
  rintro dr _ ⟨a5,a6,rfl,a7,a8,a9,Y,_,dt,du,dv,dw⟩;revert dr;exact Wo<|Wg<|Rm z<|R z (inc_ aV (lt_ (repS.len a1) z_) z z)<|Ra z<|Wl (λ_ q=>⟨(a5,a6),(som<|a_7 c9).symm,⟨a7,a8,a9,Y,q.k<|s6 z z z z z z,bM (bup sq se) dt hg,du,dv,b_2 dw hg<|lt_ sq.s se.s⟩⟩)
 .rintro ⟨xi,xf⟩ _ _ ⟨L,O,V,G,ce,bR,hj,hl,hg⟩;refine Wu ?_ ce;refine Wq<|Wm z<|Rm z<|R z (lnR b_O z<|a1.g<|(((W.ag B).e s5).e sd).e bR)<|Rl z z z<|Wx z (λhc=>(P_ hc).elim) (λ_=>?_)
  exact We<|λ_ q=>⟨rfl,⟨L,O,V,G,q.k<|s4 z z z z,bR,hj,hl,hg⟩⟩
 .rintro ⟨xi,xf⟩ dx aj rfl ⟨L,O,V,G,_,ss,hj,hl,hg⟩;have cf:=elL aU;revert dx;refine Wo<|Wq<|Wq ?_
  obtain ⟨dy,aY,cg⟩:=bdS<|a_7 cf;refine Wt (λa w=>∃(aS:Bool),aS=dy/\Sat 61 [(5,sl L O V),(6,pt gc),(55,vB aS)] a/\Below aj.z aj w) ?_ ?_
  .refine Wg<|Rf z c_Q z<|R z (l0 g_3 z<|(((ht.e s5).e sd).e ss).at z)<|Rq z z z<|Rm z ?_
   rcases bs (x2.kind==1) with hch | hch
   .exact Rh z hch (mv z)<|Rh z hch (not_ z)<|R z (pT z hch z)<|Wl (λ_ q=>⟨!xf,som<|ifT aY hch,q.k<|s3 z z z,br aj⟩)
   exact Nh z hch<|Nh z hch<|R z (pF z hch z)<|Wl (λ_ q=>⟨false,som<|ifF aY hch,q.k<|s3 z z z,br aj⟩)
  rintro dz wk ⟨aS,rfl,_,sm⟩;revert dz;refine Wo ?_;obtain ⟨dA,aZ,ch⟩:=bdS cg;refine Wt (λa w=>∃(aT:List r_),aT=dA/\∃ak al am ao,Sat 61 [(5,sl ak al am)] a/\Cg G wk w/\W_ w ao (zn B I.z J.z) (sl ak al am) aT/\ao.Nodup/\(∀k∈ao,k∈G∨wk.z<=k)) ?_ ?_
  .refine Wc z (λay=>?_)<|λay=>?_
   .refine Wg<|Rm z<|R z (lN (vs:=[Str.v xa,vI xb,sl an no cp]) e_H b_4 z z fid<|((bC.e ss).e sm).row 0 3 z)<|E z (fS [(.tmp 57)] c_h z z z (a_v z) (lb z)<|lb z) ?_
    rintro _ bS ⟨rfl,bT⟩;have ap:=bT.below;have dT:=(hv.e ss).e sm;obtain ⟨dB,dC,ci⟩:=bdS<|ifT aZ ay;refine E z (l_b (α:=r_) c_h dC z z ((hj.e sm).e ap) hl (bT.blk:Blk bS wk.z [Str.v xa,vI xb,sl an no cp]) (h_n (x:=(⟨xa,xb,xw⟩:r_)) bz bA<|or_ (((hv.e ss).e sm).e ap)<|zin (B:=B) bB<|a_.lt hv) (or0 hg (c_X (n_<|zt' az<|lt_ (lt_ W.s s5.s) sd.s) lr):∀k∈G,¬(zn B I.z J.z) k)) ?_;rintro _ dD ⟨bU,dF,dG,dH,rfl,dI,dJ,dK,dL⟩;refine Ra z<|Wl ?_
    exact λ_ q=>⟨dB,som ci,dF,dG,dH,bU,q.k<|s1 z,(cM (i_ (cr G wk) ap:Cg G wk bS) dI (io sr):Cg G wk dD),dJ,dK,(or1 dL (io sr) (j_ ap.s):∀k∈bU,k∈G∨wk.z<=k)⟩
   exact a_j<|λ_ q=>⟨xi,som<|ifF aZ ay,L,O,V,G,q.k<|s1 z,cr G wk,hj.e sm,hl,io sr⟩
  rintro dN _ ⟨aT,rfl,ak,al,am,ao,_,bV,bW,_,dO⟩;revert dN;refine Wo<|Wm z<|Rw z ?_
  obtain rfl:=som ch;have bX:=lt_ W.s s5.s;have bY:=lt_ bX sd.s;have bZ:=o_ hg bY;exact Wr<|c_ hr z ⟨bM (bup (bup (bup (bup W s5) sd) ss) sm) bV bZ,ak,al,am,z,W_.rep bW (zin (B:=B) (b_2 dO bZ<|lt_ (lt_ bY ss.s) sm.s)<|W_.lt bW)<|b_I bX<|lt_ (lt_ ss.s sm.s) bV.s⟩
 rintro _ _ _ _ rfl ⟨rfl,cj⟩;have ck:=elR aU;obtain rfl:=som ck;exact ⟨cj,z⟩
theorem W_w15 {x1:Bt}{res:(List r_)}(hm:h_d n x1=some res)(L:B<=w0.z)(O:repS w0 B (sl A0 N0 C0) x1):h_ prog 32 [sl A0 N0 C0] w0 (Q15 w0 B res):=by
 unfold h_d at hm
 refine goG func32 z z z λfn hr=>Ws<|Rw z<|Ws<|E z (f0 (α:=r_) c_h) ?_
 rintro _ _ ⟨ak,nl,cm,rfl,s5,ha⟩;refine Rw z<|Wm z ?_
 obtain ⟨_,_,en,hmo⟩:=Y_ hm;refine E z (fc call34 z<|j_U en (zt' L s5.s)<|O.e s5) ?_;rintro _ I ⟨s7,ap,nq,cr,_,rfl,h3,_,_,hb⟩;refine Rm z<|Re z z z<|Re z z z<|Ra z<|Rw z<|Wq<|Ws<|Rw z ?_
 have al:=ha.e s7;obtain ⟨_,hus,hmd⟩:=bdS hmo;refine Wf (σ:=List r_) (ρ:=List r_) (λ(ke:Nat)(x4:List r_) a w=>∃h G H,Sat 26 [(3,sl h G H),(4,sl ap nq cr),(6,vI ((ke:Nat):Int))] a/\Below I.z I w/\repS w (zn B w0.z w.z) (sl h G H) x4) (λ(x4:List r_) a w=>∃h G H,Sat 26 [(3,sl h G H)] a/\Below I.z I w/\repS w (zn B w0.z w.z) (sl h G H) x4) (rQ prog fn<|Q15 w0 B) hus ?_ ?_ ?_ ?_ ?_
 .exact λ_ q=>⟨ak,nl,cm,q.k<|s3 z z z,br I,repS.mono (or_ (ha.e s7)<|zin (B:=B) (e_ lr)<|a_.lt ha)<|b_I lr s7.s⟩
 .rintro ke x4 _ wt _ hkf ⟨h,G,H,hSu,s9,J⟩ hmv;refine Wu ?_ hSu;refine Wq<|Wm z<|Rm z ?_
  have hg:=h3.e s9;refine R z (lnR c_D z<|or_ hg<|zin (B:=B) hb<|a_.lt h3)<|Rl z z z<|Wx z (λ_=>?_) (λhc=>(O_ hkf hc).elim)
  refine Wk<|Wq<|Wb<|Wg<|RM z z<|Rm z ?_
  obtain ⟨xc,ew,hmx⟩:=bdS hmv;refine RX z (at_ (α:=p_) c_D a_a z z z (or_ hg<|zin (B:=B) hb<|a_.lt h3) ew) ?_;rintro _ ⟨_,_,_,rfl,hy,hz,_⟩;obtain ⟨a3,a4,a5,rfl,a6,a7,a8,a9⟩:=f_m hz;refine R z (lN (vs:=[vI xc.kind,Str.v xc.name,vI xc.version,sl a3 a4 a5]) b_p a_a z z fid hy) ?_;have hh:=lt_ (lt_ s5.s s7.s) s9.s;obtain ⟨aa,ab,V⟩:=bdS hmx;refine E z (fc call52 z<|W_w2w (B:=zn B w0.z wt.z) ab (e_P (zt' L hh) lr) J a6 a7 a8<|repS.mono a9<|b_I s5.s s9.s) ?_;rintro _ _ ⟨si,ad,ae,af,rfl,ah⟩;exact Rw z<|Wg<|Rm z<|R z (inc_ hkf (lt_ (a_.len h3) z_) z z)<|Ra z<|Wl (λ_ q=>⟨aa,(som V).symm,⟨ad,ae,af,q.k<|s3 z z z,bup s9 si,repS.mono ah<|zn_zn hh si.s⟩⟩)
 .rintro x4 _ _ ⟨h,G,H,W,sj,J⟩;refine Wu ?_ W;refine Wq<|Wm z<|Rm z<|R z (lnR c_D z<|or_ (h3.e sj)<|zin (B:=B) hb<|a_.lt h3)<|Rl z z z<|Wx z (λhc=>(P_ hc).elim) (λ_=>?_)
  exact We<|λ_ q=>⟨rfl,⟨h,G,H,q.k<|s1 z,sj,J⟩⟩
 .rintro x4 ai _ rfl ⟨h,G,H,_,aj,J⟩;have Y:=elL hmd;revert ai;refine Wo<|Wm z<|Rw z ?_
  obtain rfl:=som Y;exact Wr<|c_ hr z ⟨bup (bup s5 s7) aj,h,G,H,z,J⟩
 rintro _ _ _ _ rfl ⟨rfl,a1⟩;have a2:=elR hmd;obtain rfl:=som a2;exact ⟨a1,z⟩
theorem W_w2x {x1:J_}{res:(List r_)}(hm:j_j n x1=some res)(I:B<=w0.z)(Y:repS w0 B (sl A0 N0 C0) x1.registry.versions)(H:repS w0 B (sl A1 N1 C1) x1.log.bytes)(O:inI x1.log.stored):h_ prog 15 [(.agg #[sl A0 N0 C0,sl A1 N1 C1,vI x1.log.stored])] w0 (Q15 w0 B res):=by
 unfold j_j at hm
 refine goG func15 z z z λfn hr=>Ws<|E z (fb z) ?_
 rintro _ V ⟨rfl,h3⟩;have h:=h3.below;have h4:Blk V w0.z [sl A0 N0 C0,sl A1 N1 C1,vI x1.log.stored]:=h3.blk;refine Rw z<|Wq<|Ws<|Rf z c_B z<|R z (lN (vs:=[sl A1 N1 C1,vI x1.log.stored]) e_f d_l z z fid<|h4.row 1 2 z) ?_
 obtain ⟨_,W,J⟩:=bdS hm;refine E z (fc call31 z<|W_w14 (B:=B) (x1:=(⟨x1.log.bytes,x1.log.stored⟩:Log)) W (zt' I h.s) (H.e h) O) ?_;rintro _ _ ⟨s1,rfl⟩;refine R z (not_ z)<|Wx z (λG=>?_) (λG=>?_)
 .refine Ws<|E z (f0 (α:=r_) c_h) ?_
  rintro _ _ ⟨aa,nb,cc,rfl,sd,h6⟩;refine Rw z ?_
  obtain rfl:=som<|ifT J G;exact Wr<|c_ hr z ⟨bup (bup h s1) sd,aa,nb,cc,z,repS.mono (or_ h6<|zin (B:=B) (e_ lr)<|a_.lt h6)<|b_I (lt_ h.s s1.s) lr⟩
 refine Wk<|Ws<|Rf z c_B z<|Rf z c_6 z<|R z (l0 K_ z<|(h4.e s1).at z) ?_
 have L:=lt_ h.s s1.s;obtain ⟨_,ee,hmf⟩:=bdS<|ifF J G;refine E z (fc call32 z<|W_w15 ee (zt' I L)<|H.g<|(h.ag B).e s1) ?_;rintro _ _ ⟨sg,ah,ni,cj,rfl,hk⟩;refine Rw z ?_
 obtain rfl:=som hmf;exact Wr<|c_ hr z ⟨bup (bup h s1) sg,ah,ni,cj,z,repS.mono hk<|b_I L lr⟩
theorem W_w2y {x1:List r_}{x2:Str}{res:Int}(hm:j_z x1 x2=some res)(W:B<=w0.z)(h:repS w0 B (sl A0 N0 C0) x1)(V:x2.b.length<=LEN):h_ prog 16 [sl A0 N0 C0,Str.v x2] w0 (Q0 w0 B res):=by
 unfold j_z at hm
 refine goG func16 z z z λfn hr=>Ws<|Rw z<|Wq<|Ws<|Rw z ?_
 obtain ⟨_,L,I⟩:=bdS hm;refine Wf (σ:=Unit) (ρ:=Int) (λ(k4:Nat)(_:Unit) a w=>Sat 20 [(0,sl A0 N0 C0),(1,Str.v x2),(5,vI ((k4:Nat):Int))] a/\Below w0.z w0 w) (λ(_:Unit) a w=>Sat 20 [] a/\Below w0.z w0 w) (rQ prog fn<|Q0 w0 B) L ?_ ?_ ?_ ?_ ?_
 .exact λ_ q=>⟨q.k<|s3 z z z,br w0⟩
 .rintro k4 _ _ _ _ G ⟨O,s1⟩ hma;refine Wu ?_ O;refine Wq<|Wm z<|Rm z ?_
  have h5:=h.e s1;refine R z (lnR b_O z h5)<|Rl z z z<|Wx z (λ_=>?_) (λhc=>(O_ G hc).elim)
  refine Wk<|Wq<|Wb<|Wm z<|Rm z ?_
  obtain ⟨_,eb,J⟩:=bdS hma;refine RX z (at_ (α:=r_) b_O b_4 z z z h5 eb) ?_;rintro _ ⟨_,_,_,rfl,hd,he,_⟩;obtain ⟨_,_,_,rfl,_,_,_⟩:=f_l he;refine Rf z j_K z<|R z (l0 g_9 z<|hd.at (j:=0) z)<|Rm z<|R z (a_M z z)<|Wx z (λH=>?_) (λH=>?_)
  .exact Wm z<|Rw z<|Wr<|rtO<|qL (som<|ifT J H).symm<|c_ hr z ⟨s1,z,ic (Nat.le_of_lt G)<|lt_ (repS.len h) z_⟩
  exact Wk<|Wg<|Rm z<|R z (inc_ G (lt_ (repS.len h) z_) z z)<|Ra z<|Wl (λ_ q=>⟨(),(som<|ifF J H).symm,⟨q.k<|s3 z z z,s1⟩⟩)
 .rintro _ _ _ ⟨hSc,s7⟩;refine Wu ?_ hSc;refine Wq<|Wm z<|Rm z<|R z (lnR b_O z<|h.e s7)<|Rl z z z<|Wx z (λhc=>(P_ hc).elim) (λ_=>?_)
  exact We<|λ_ q=>⟨rfl,⟨q.k sn,s7⟩⟩
 .rintro _ af _ rfl ⟨_,sg⟩;have hmh:=elL I;revert af;refine Wo<|Ws<|Rw z ?_
  obtain rfl:=som hmh;exact Wr<|c_ hr z ⟨sg,z,ii z⟩
 rintro _ _ _ _ rfl ⟨rfl,hqi⟩;have hmj:=elR I;obtain rfl:=som hmj;exact ⟨hqi,z⟩
theorem e_k {x1:d_}{x2:Bool}{x3:Bool}{x4:Bool}{x5:Bool}{x6:Int}{res:Bool}(hm:c_L x1 x2 x3 x4 x5 x6=some res)(ae:B<=w0.z)(a9:x1.name.b.length<=LEN)(aa:inI x1.kind)(ab:inI x1.size)(a0:repS w0 B (sl A9 N9 C9) x1.bytes)(a1:repS w0 B (sl A8 N8 C8) x1.names)(a2:repS w0 B (sl AA NA CA) x1.tags)(a3:repS w0 B (sl AB NB CB) x1.kids)(ad:inI x6):h_ prog 143 [(.agg #[Str.v x1.name,vI x1.kind,vI x1.size,vB x1.little,sl A9 N9 C9,sl A8 N8 C8,sl AA NA CA,sl AB NB CB]),vB x2,vB x3,vB x4,vB x5,vI x6] w0 (Q11 w0 B res):=by
 unfold c_L at hm
 refine goG func143 z z z λfn hr=>Ws<|E z (fb z) ?_
 rintro _ wc ⟨rfl,hf⟩;have hd:=hf.below;have hb:Blk wc w0.z (vR x1 A9 N9 C9 A8 N8 C8 AA NA CA AB NB CB):=hf.blk;refine Rw z<|Wq ?_
 obtain ⟨uw,hux,hmy⟩:=bdS hm;refine Wt (λa w=>∃(xe:Bool),xe=uw/\Sat 67 [(12,vB xe)] a/\Below wc.z wc w) ?_ ?_
 .refine Wg<|RM z z ?_
  obtain ⟨ug,huh,hmz⟩:=bdS hux;refine e_c 18 ug 4 ?_ ?_
  .rcases bs x2 with Y | Y
   .iterate 3 refine Nh z Y ?_
    exact R z (pT z Y z)<|WLq 4 (ifT huh Y) z z z
   exact Rh z Y (fd b_1 z)<|Rh z Y (l0 g_3 z<|hb.at z)<|Rh z Y (eql z z)<|R z (pF z Y z)<|WLq 4 (ifF huh Y) z z z
  refine Rm z ?_;obtain ⟨ui,huj,a4⟩:=bdS hmz;refine e_c 27 ui 8 ?_ ?_
  .rcases bs ug with G | G
   .have hmk:=ifT huj G;refine Rh z G (mv z)<|Rh z G (mv z) ?_
    rcases bs x3 with O | O
    .iterate 4 refine Nh z O ?_
     exact Rh z G (pT z O z)<|R z (pT z G z)<|WLq 8 (ifT hmk O) z z z
    exact Rh z O (fd b_j z)<|Rh z O (l0 K_ z<|hb.at z)<|Rh z O (lnR k_ z<|a0.e hd)<|Rh z O (eql z z)<|Rh z G (pF z O z)<|R z (pT z G z)<|WLq 8 (ifF hmk O) z z z
   exact Nh z G<|Nh z G<|Nv z<|Nv z<|Nv z<|Nv z<|Nh z G<|R z (pF z G z)<|WLq 8 (ifF huj G) z z z
  refine Rm z ?_;obtain ⟨ul,hum,a5⟩:=bdS a4;refine e_c 36 ul 8 ?_ ?_
  .rcases bs ui with H | H
   .have hmn:=ifT hum H;refine Rh z H (mv z)<|Rh z H (mv z) ?_
    rcases bs x4 with V | V
    .iterate 4 refine Nh z V ?_
     exact Rh z H (pT z V z)<|R z (pT z H z)<|WLq 8 (ifT hmn V) z z z
    exact Rh z V (fd c_i z)<|Rh z V (l0 a_G z<|hb.at z)<|Rh z V (lnR F_ z<|a1.e hd)<|Rh z V (eql z z)<|Rh z H (pF z V z)<|R z (pT z H z)<|WLq 8 (ifF hmn V) z z z
   exact Nh z H<|Nh z H<|Nv z<|Nv z<|Nv z<|Nv z<|Nh z H<|R z (pF z H z)<|WLq 8 (ifF hum H) z z z
  refine Rm z ?_;obtain ⟨uo,hup,a6⟩:=bdS a5;refine e_c 45 uo 8 ?_ ?_
  .rcases bs ul with I | I
   .have hmq:=ifT hup I;refine Rh z I (mv z)<|Rh z I (mv z) ?_
    rcases bs x5 with W | W
    .iterate 4 refine Nh z W ?_
     exact Rh z I (pT z W z)<|R z (pT z I z)<|WLq 8 (ifT hmq W) z z z
    exact Rh z W (fd b_k z)<|Rh z W (l0 H_ z<|hb.at z)<|Rh z W (lnR y_ z<|a2.e hd)<|Rh z W (eql z z)<|Rh z I (pF z W z)<|R z (pT z I z)<|WLq 8 (ifF hmq W) z z z
   exact Nh z I<|Nh z I<|Nv z<|Nv z<|Nv z<|Nv z<|Nh z I<|R z (pF z I z)<|WLq 8 (ifF hup I) z z z
  refine Rm z ?_;obtain ⟨ur,hus,hmt⟩:=bdS a6;refine e_c 56 ur 10 ?_ ?_
  .rcases bs uo with J | J
   .have hmu:=ifT hus J;refine Rh z J (mv z)<|Rh z J (lss z z)<|Rh z J (mv z) ?_
    rcases bs (decide<|x6<0) with L | L
    .iterate 5 refine Nh z L ?_
     exact Rh z J (pT z L z)<|R z (pT z J z)<|WLq 10 (ifT hmu L) z z z
    exact Rh z L (fd a_1 z)<|Rh z L (l0 H_ z<|hb.at z)<|Rh z L (lnR y_ z<|a3.e hd)<|Rh z L (mv z)<|Rh z L (eql z z)<|Rh z J (pF z L z)<|R z (pT z J z)<|WLq 10 (ifF hmu L) z z z
   iterate 3 refine Nh z J ?_
   exact Nv z<|Nv z<|Nv z<|Nv z<|Nv z<|Nh z J<|R z (pF z J z)<|WLq 10 (ifF hus J) z z z
  refine Rm z ?_
  rcases bs ur with h | h
  .have hmv:=ifT hmt h;refine Rh z h (fd d_j z)<|Rh z h (l0 g_4 z<|hb.at z)<|Rh z h (not_ z)<|Rh z h (mv z) ?_
   rcases bs (!x1.little) with hca | hca
   .iterate 3 refine Nh z hca ?_
    exact Rh z h (pT z hca z)<|R z (pT z h z)<|Ra z<|Wl (λ_ q=>⟨true,som<|ifT hmv hca,q.k<|s1 z,br wc⟩)
   exact Rh z hca (fd a_O z)<|Rh z hca (l0 g_3 z<|hb.at z)<|Rh z hca (eql z z)<|Rh z h (pF z hca z)<|R z (pT z h z)<|Ra z<|Wl (λ_ q=>⟨x1.kind==1,som<|ifF hmv hca,q.k<|s1 z,br wc⟩)
  iterate 4 refine Nh z h ?_
  exact Nv z<|Nv z<|Nv z<|Nh z h<|R z (pF z h z)<|Ra z<|Wl (λ_ q=>⟨false,som<|ifF hmt h,q.k<|s1 z,br wc⟩)
 rintro a7 _ ⟨xe,rfl,_,a8⟩;revert a7;refine Wo ?_;obtain rfl:=som hmy;exact Wr<|c_ hr z ⟨bup hd a8,z⟩
theorem l_O {x1:f_}{x2:Int}{res:Int}(hm:f_K x1 x2=some res)(I:B<=w0.z)(H:repS w0 B (sl A0 N0 C0) x1.rules)(W:inI x2):h_ prog 144 [(.agg #[sl A0 N0 C0]),vI x2] w0 (Q0 w0 B res):=by
 unfold f_K at hm
 refine goG func144 z z z λfn hr=>Ws<|E z (fb z) ?_
 rintro _ L ⟨rfl,V⟩;have h2:=V.below;have h6:Blk L w0.z [sl A0 N0 C0]:=V.blk;refine Rw z<|Wq<|Wq ?_
 obtain ⟨uf,hug,hma⟩:=bdS hm;refine Wt (λa w=>∃(O:Bool),O=uf/\Sat 39 [(1,vI x2),(2,pt w0.z),(30,vB O)] a/\Below L.z L w) ?_ ?_
 .refine Wg<|Rm z<|Rf z a_s z<|R z (l0 a_u z<|h6.at z)<|R z (lnR a_2 z<|H.e h2)<|R z (sb_ z z) ?_
  obtain ⟨rh,ei,hmb⟩:=bdS hug;refine E z (fc call51 z<|b_a ei (zt' I h2.s) W (ii z)<|iS _ _) ?_;rintro _ _ ⟨s4,rfl⟩;refine R z (not_ z)<|Rm z ?_
  rcases bs (!rh) with G | G
  .iterate 7 refine Nh z G ?_
   exact R z (pT z G z)<|Rm z<|Nh z z<|Nh z z<|Nh z z<|Nh z z<|Nh z z<|Nh z z<|Nh z z<|Nh z z<|R z (pT z z z)<|Wl (λ_ q=>⟨true,som<|ifT hmb G,q.k<|s3 z z z,s4⟩)
  refine Rh z G (fd a_s z) ?_;have hc:=h6.e s4;refine Rh z G (l0 a_u z<|hc.at z)<|Rh z G (mv z) ?_
  obtain ⟨xj,ek,hmd⟩:=bdS<|ifF hmb G;have he:=H.g<|(h2.ag B).e s4
  refine RXg z z G z (at_ (α:=d_) a_2 t_ z z z he ek) ?_;rintro _ ⟨_,_,_,rfl,hl,hn,_⟩;obtain ⟨_,_,_,_,_,_,_,_,_,_,_,_,rfl,_,_,_,_,_,_,_⟩:=b_3 hn;refine Rh z G (fd a_O z)<|Rh z G (l0 g_3 z<|hl.at (j:=1) z)<|Rh z G (nq z z)<|R z (pF z G z)<|Rm z ?_
  rcases bs (xj.kind != 1) with h | h
  .iterate 8 refine Nh z h ?_
   exact R z (pT z h z)<|Wl (λ_ q=>⟨true,som<|ifT hmd h,q.k<|s3 z z z,s4⟩)
  refine Rh z h (fd a_s z)<|Rh z h (l0 a_u z<|hc.at z)<|Rh z h (mv z) ?_
  obtain ⟨_,em,hmo⟩:=bdS<|ifF hmd h;refine RXg z z h z (at_ (α:=d_) a_2 t_ z z z he em) ?_;rintro _ ⟨_,_,_,rfl,hp,hq,_⟩;obtain ⟨_,_,_,_,_,_,_,_,_,_,_,_,rfl,_,_,ht,_,_,_,_⟩:=b_3 hq;refine Rh z h (fd b_1 z)<|Rh z h (l0 g_3 z<|hp.at (j:=2) z) ?_
  obtain ⟨rr,es,hmu⟩:=bdS hmo;refine Eg z z h z (fc call51 z<|b_a es (zt' I<|lt_ h2.s s4.s) ht (ii z)<|ii z) ?_;rintro _ _ ⟨sv,rfl⟩;exact Rh z h (not_ z)<|R z (pF z h z)<|Wl (λ_ q=>⟨!rr,som hmu,q.k<|s3 z z z,bup s4 sv⟩)
 rintro aw _ ⟨O,rfl,_,s5⟩;revert aw;refine Wo<|Wc z (λJ=>?_) (λJ=>?_)
 .refine Ws<|Rw z ?_
  obtain rfl:=som<|ifT hma J;exact Wr<|c_ hr z ⟨bup h2 s5,z,ii z⟩
 refine Wk<|Ws<|Rf z a_s z<|R z (l0 a_u z<|(h6.e s5).at z)<|Rm z ?_
 obtain ⟨_,ex,hmy⟩:=bdS<|ifF hma J;refine RX z (at_ (α:=d_) a_2 t_ z z z (H.g<|(h2.ag B).e s5) ex) ?_;rintro _ ⟨_,_,_,rfl,hz,a0,_⟩;obtain ⟨_,_,_,_,_,_,_,_,_,_,_,_,rfl,_,_,a1,_,_,_,_⟩:=b_3 a0;refine Rf z b_1 z<|R z (l0 g_3 z<|hz.at (j:=2) z) ?_
 obtain ⟨_,a2,Y⟩:=bdS hmy;refine E z (fc call149 z<|W_w12 a2 (zt' I<|lt_ h2.s s5.s) a1) ?_;rintro _ _ ⟨a3,rfl,_⟩;refine R z (sb_ z z)<|Rw z ?_
 obtain rfl:=som Y;exact Wr<|c_ hr z ⟨bup (bup h2 s5) a3,z,iS _ _⟩
theorem W_w2z {x1:List Str}{x2:Str}{res:Bool}(hm:i_d x1 x2=some res)(Y:B<=w0.z)(h:repS w0 B (sl A0 N0 C0) x1)(W:x2.b.length<=LEN):h_ prog 183 [sl A0 N0 C0,Str.v x2] w0 (Q11 w0 B res):=by
 unfold i_d at hm
 refine goG func183 z z z λfn hr=>Ws<|Rw z<|Wq<|Ws<|Rw z ?_
 obtain ⟨_,O,I⟩:=bdS hm;refine Wf (σ:=Unit) (ρ:=Bool) (λ(k3:Nat)(_:Unit) a w=>Sat 18 [(0,sl A0 N0 C0),(1,Str.v x2),(5,vI ((k3:Nat):Int))] a/\Below w0.z w0 w) (λ(_:Unit) a w=>Sat 18 [] a/\Below w0.z w0 w) (rQ prog fn<|Q11 w0 B) O ?_ ?_ ?_ ?_ ?_
 .exact λ_ q=>⟨q.k<|s3 z z z,br w0⟩
 .rintro k3 _ _ _ _ J ⟨V,H⟩ hma;refine Wu ?_ V;refine Wq<|Wm z<|Rm z ?_
  have h5:=h.e H;refine R z (lnR F_ z h5)<|Rl z z z<|Wx z (λ_=>?_) (λhc=>(O_ J hc).elim)
  refine Wk<|Wq<|Wb<|Wm z<|Rm z ?_
  obtain ⟨_,eb,L⟩:=bdS hma;refine RX z (at_ (α:=Str) F_ z_9 z z z h5 eb) ?_;rintro _ ⟨_,_,_,rfl,hd,he,_⟩;obtain ⟨rfl,_⟩:=a_n he;refine R z (l0 g_9 z<|hd.at0 z)<|Rm z<|R z (a_M z z)<|Wx z (λG=>?_) (λG=>?_)
  .exact Ws<|Rw z<|Wr<|rtO<|qL (som<|ifT L G).symm<|c_ hr z ⟨H,z⟩
  exact Wk<|Wg<|Rm z<|R z (inc_ J (lt_ (repS.len h) z_) z z)<|Ra z<|Wl (λ_ q=>⟨(),(som<|ifF L G).symm,⟨q.k<|s3 z z z,H⟩⟩)
 .rintro _ _ _ ⟨hSc,s7⟩;refine Wu ?_ hSc;refine Wq<|Wm z<|Rm z<|R z (lnR F_ z<|h.e s7)<|Rl z z z<|Wx z (λhc=>(P_ hc).elim) (λ_=>?_)
  exact We<|λ_ q=>⟨rfl,⟨q.k sn,s7⟩⟩
 .rintro _ af _ rfl ⟨_,sg⟩;have hmh:=elL I;revert af;refine Wo<|Ws<|Rw z ?_
  obtain rfl:=som hmh;exact Wr<|c_ hr z ⟨sg,z⟩
 rintro _ _ _ _ rfl ⟨rfl,hqi⟩;have hmj:=elR I;obtain rfl:=som hmj;exact ⟨hqi,z⟩
theorem W_w30 {x1:List Str}{res:Bool}(hm:i_e x1=some res)(I:B<=w0.z)(H:repS w0 B (sl A0 N0 C0) x1):h_ prog 145 [sl A0 N0 C0] w0 (Q11 w0 B res):=by
 unfold i_e at hm
 refine goG func145 z z z λfn hr=>Ws<|Rw z<|Wq<|Ws<|Rw z ?_
 obtain ⟨_,huj,L⟩:=bdS hm;refine Wf (σ:=Unit) (ρ:=Bool) (λ(k1:Nat)(_:Unit) a w=>Sat 29 [(0,sl A0 N0 C0),(3,vI ((k1:Nat):Int))] a/\Below w0.z w0 w) (λ(_:Unit) a w=>Sat 29 [(0,sl A0 N0 C0)] a/\Below w0.z w0 w) (rQ prog fn<|Q11 w0 B) huj ?_ ?_ ?_ ?_ ?_
 .exact λ_ q=>⟨q.k<|s2 z z,br w0⟩
 .rintro k1 _ _ O _ hka ⟨hSk,s4⟩ hml;refine Wu ?_ hSk;refine Wq<|Wm z<|Rm z<|R z (lnR F_ z<|H.e s4)<|Rl z z z<|Wx z (λ_=>?_) (λhc=>(O_ hka hc).elim)
  refine Wk<|Wq<|Wb<|Wq ?_
  obtain ⟨um,hun,hmb⟩:=bdS hml;refine Wt (λa w=>∃(x2:Bool),x2=um/\Sat 29 [(0,sl A0 N0 C0),(3,vI ((k1:Nat):Int)),(25,vB x2)] a/\Below O.z O w) ?_ ?_
  .refine Wd (X:=noX) 0 (pl_ 16 [4,14]) mo (by kernel_rfl) λae s5 _=>dM z z z<|dM z z z ?_
   obtain ⟨_,eo,hmp⟩:=bdS hun;have hd:=(s4.ag B).e s5;refine dRX z z (at_ (α:=Str) F_ z_9 z z z (H.g hd) eo) ?_;rintro _ ⟨_,_,_,rfl,hq,ht,_⟩;obtain ⟨rfl,hu⟩:=a_n ht;refine dR z z (l0 g_9 z<|hq.at0 z) ?_;have he:=lt_ s4.s s5.s;obtain ⟨rr,es,hmc⟩:=bdS hmp;refine dE z z (fc call109 z<|j_T es (zt' I he) hu) (.inr λ_ _ h=>E_<|h.1) ?_;rintro _ _ ⟨s6,rfl⟩;refine dR z z (not_ z)<|dM z z z ?_
   rcases bs (!rr) with G | G
   .iterate 7 refine dRn z z z G z ?_
    exact dEn z z z G z<|dR z z (pT z G z)<|pD (λ_ q=>⟨true,som<|ifT hmc G,q.k<|s3 z z z,bup s5 s6⟩)
   refine dRg z z z G z (mv z)<|dRg z z z G z (mv z) ?_
   obtain ⟨_,ev,hmw⟩:=bdS<|ifF hmc G;have hf:=H.g<|hd.e s6
   refine a_L z z z G z (rX F_ z_9 z z hf z z ev) ?_;rintro _ ⟨_,_,_,rfl,hx⟩;refine dRg z z z G z (mv z)<|dRg z z z G z (mv z) ?_
   obtain ⟨_,ey,hmz⟩:=bdS hmw;refine a_L z z z G z (at_ (α:=Str) F_ z_9 z z z hf ey) ?_;rintro _ ⟨_,_,_,rfl,a3,a4,_⟩;obtain ⟨rfl,a5⟩:=a_n a4;refine dRg z z z G z (l0 g_9 z<|a3.at0 z) ?_;obtain ⟨a6,a7,V⟩:=bdS hmz;refine dEg z z z G z (fc call183 z<|W_w2z a7 (zt' I<|lt_ he s6.s) hx a5) (.inr λ_ _ h=>E_<|h.1) ?_;rintro _ _ ⟨a8,rfl⟩;exact dR z z (pF z G z)<|pD (λ_ q=>⟨a6,som V,q.k<|s3 z z z,bup (bup s5 s6) a8⟩)
  rintro a9 _ ⟨x2,rfl,_,sg⟩;revert a9;refine Wo<|Wc z (λJ=>?_) (λJ=>?_)
  .exact Ws<|Rw z<|Wr<|rtO<|qL (som<|ifT hmb J).symm<|c_ hr z ⟨bup s4 sg,z⟩
  exact Wk<|Wg<|Rm z<|R z (inc_ hka (lt_ (repS.len H) z_) z z)<|Ra z<|Wl (λ_ q=>⟨(),(som<|ifF hmb J).symm,⟨q.k<|s2 z z,bup s4 sg⟩⟩)
 .rintro _ _ _ ⟨W,sh⟩;refine Wu ?_ W;refine Wq<|Wm z<|Rm z<|R z (lnR F_ z<|H.e sh)<|Rl z z z<|Wx z (λhc=>(P_ hc).elim) (λ_=>?_)
  exact We<|λ_ q=>⟨rfl,⟨q.k<|s1 z,sh⟩⟩
 .rintro _ aa _ rfl ⟨_,s7⟩;have Y:=elL L;revert aa;refine Wo<|Wm z ?_
  have hi:=H.e s7;refine R z (lnR F_ z hi) ?_;obtain ⟨_,ab,a0⟩:=bdS Y;refine E z (fc call51 z<|b_a ab (zt' I s7.s) (b_Y<|repS.len hi) (ii z)<|ii z) ?_;rintro _ _ ⟨ad,rfl⟩;refine Rw z ?_
  obtain rfl:=som a0;exact Wr<|c_ hr z ⟨bup s7 ad,z⟩
 rintro _ _ _ _ rfl ⟨rfl,a1⟩;have a2:=elR L;obtain rfl:=som a2;exact ⟨a1,z⟩
theorem W_w31 {x1:f_}{x2:d_}{res:Bool}(hm:i_f x1 x2=some res)(O:B<=w0.z)(a2:repS w0 B (sl A0 N0 C0) x1.rules)(aO:x2.name.b.length<=LEN)(aP:inI x2.kind)(aQ:inI x2.size)(aR:repS w0 B (sl A3 N3 C3) x2.bytes)(aS:repS w0 B (sl A5 N5 C5) x2.names)(J:repS w0 B (sl A2 N2 C2) x2.tags)(V:repS w0 B (sl A6 N6 C6) x2.kids):h_ prog 146 [(.agg #[sl A0 N0 C0]),(.agg #[Str.v x2.name,vI x2.kind,vI x2.size,vB x2.little,sl A3 N3 C3,sl A5 N5 C5,sl A2 N2 C2,sl A6 N6 C6])] w0 (Q11 w0 B res):=by
 unfold i_f at hm
 refine goG func146 z z z λfn hr=>Ws<|E z (fb z) ?_
 rintro _ L ⟨rfl,hn⟩;have h4:=hn.below;refine E z (fb z) ?_;rintro _ wd ⟨rfl,ho⟩;have h3:=ho.below;have ha:Blk wd L.z (vR x2 A3 N3 C3 A5 N5 C5 A2 N2 C2 A6 N6 C6):=ho.blk;refine Rw z<|Wq<|Wq ?_
 obtain ⟨aj,hup,hmq⟩:=bdS hm;refine Wt (λa w=>∃(xg:Bool),xg=aj/\Sat 59 [(2,pt w0.z),(3,pt L.z),(20,vB xg)] a/\Below wd.z wd w) ?_ ?_
 .refine Wg<|Rf z a_1 z<|R z (l0 H_ z<|ha.at z) ?_
  have ht:=(h4.ag B).e h3;refine R z (lnR y_ z<|V.g ht)<|Rf z b_k z<|R z (l0 H_ z<|ha.at z) ?_
  have hh:=J.g ht;refine R z (lnR y_ z hh)<|R z (add_ z z)<|R z (nq z z)<|Rm z ?_
  rcases bs ((x2.kids.length:Int) != (b_ (x2.tags.length:Int) 1)) with I | I
  .iterate 5 refine Nh z I ?_
   exact R z (pT z I z)<|Wl (λ_ q=>⟨true,som<|ifT hup I,q.k<|s3 z z z,br wd⟩)
  refine Rh z I (fd b_k z)<|Rh z I (l0 H_ z<|ha.at z)<|Rh z I (lnR y_ z hh) ?_
  obtain ⟨ak,al,a3⟩:=bdS<|ifF hup I;refine Eg z z I z (fc call51 z<|b_a al (zt' O<|lt_ h4.s h3.s) (b_Y<|repS.len hh) (ii z)<|ii z) ?_;rintro _ _ ⟨am,rfl⟩;exact Rh z I (not_ z)<|R z (pF z I z)<|Wl (λ_ q=>⟨!ak,som a3,q.k<|s3 z z z,am⟩)
 rintro an wb ⟨xg,rfl,_,s5⟩;revert an;refine Wo<|Wc z (λhci=>?_) (λhci=>?_)
 .refine Ws<|Rw z ?_
  obtain rfl:=som<|ifT hmq hci;exact Wr<|c_ hr z ⟨bup (bup h4 h3) s5,z⟩
 refine Wk<|Wq<|Ws<|Rw z ?_
 obtain ⟨_,a4,hmr⟩:=bdS<|ifF hmq hci;refine Wf (σ:=Unit) (ρ:=Bool) (λ(ke:Nat)(_:Unit) a w=>Sat 59 [(2,pt w0.z),(3,pt L.z),(5,vI ((ke:Nat):Int))] a/\Below wb.z wb w) (λ(_:Unit) a w=>Sat 59 [] a/\Below wb.z wb w) (rQ prog fn<|Q11 w0 B) a4 ?_ ?_ ?_ ?_ ?_
 .exact λ_ q=>⟨q.k<|s3 z z z,br wb⟩
 .rintro ke _ _ ws _ hku ⟨a5,s7⟩ a6;refine Wu ?_ a5;refine Wq<|Wm z<|Rf z b_k z ?_
  have hv:=(ha.e s5).e s7;refine R z (l0 H_ z<|hv.at z) ?_;have hw:=(((h4.ag B).e h3).e s5).e s7;refine R z (lnR y_ z<|J.g hw)<|Rl z z z<|Wx z (λ_=>?_) (λhc=>(O_ hku hc).elim)
  refine Wk<|Wq<|Wb<|Wq ?_
  obtain ⟨ao,a7,hmx⟩:=bdS a6;refine Wt (λa w=>∃(xj:Bool),xj=ao/\Sat 59 [(2,pt w0.z),(3,pt L.z),(5,vI ((ke:Nat):Int)),(58,vB xj)] a/\Below ws.z ws w) ?_ ?_
  .refine Wd (X:=noX) 0 (pl_ 31 [10,11]) mo (by kernel_rfl) λaT s6 _=>dR z z (fd b_k z) ?_
   have hk:=hv.e s6;refine dR z z (l0 H_ z<|hk.at z)<|dM z z z ?_
   obtain ⟨_,ap,a8⟩:=bdS a7;have hf:=hw.e s6;refine dRX z z (at_ (α:=Int) y_ z_3 z z z (J.g hf) ap) ?_;rintro _ ⟨_,_,_,rfl,aq,ar,_⟩;obtain ⟨rfl,au⟩:=V_ ar;refine dR z z (l0 g_3 z<|aq.at0 z)<|dR z z (lN (vs:=[sl A0 N0 C0]) L_ D_ z z fid<|(((((hn.blk:Blk L w0.z [sl A0 N0 C0]).e h3).e s5).e s7).e s6).row 0 1 z)<|dR z z (fd a_1 z)<|dR z z (l0 H_ z<|hk.at z) ?_
   obtain ⟨_,av,a9⟩:=bdS a8;refine dRX z z (at_ (α:=Int) y_ z_3 z z z (V.g hf) av) ?_;rintro _ ⟨_,_,_,rfl,aw,ax,_⟩;obtain ⟨rfl,ay⟩:=V_ ax;refine dR z z (l0 g_3 z<|aw.at0 z) ?_;have hy:=lt_ (lt_ (lt_ (lt_ h4.s h3.s) s5.s) s7.s) s6.s;obtain ⟨_,az,aa⟩:=bdS a9;refine dE z z (fc call144 z<|l_O az (zt' O hy) (a2.g hf) ay) (.inr λ_ _ h=>E_<|h.1) ?_;rintro _ _ ⟨s8,rfl,aA⟩;obtain ⟨aB,aC,hmz⟩:=bdS aa;refine dE z z (fc call51 z<|b_a aC (zt' O<|lt_ hy s8.s) au (ii z) aA) (.inr λ_ _ h=>E_<|h.1) ?_;rintro _ _ ⟨sc,rfl⟩;refine dR z z (not_ z)<|dM z z z ?_
   rcases bs (!aB) with H | H
   .iterate 3 refine dRn z z z H z ?_
    iterate 12 refine dRu z z z z ?_
    exact dRn z z z H z<|dR z z (pT z H z)<|pD (λ_ q=>⟨true,som<|ifT hmz H,q.k<|s4 z z z z,bup (bup s6 s8) sc⟩)
   have W:=ifF hmz H;refine dRg z z z H z (mv z)<|dRg z z z H z (X_ z z)<|dRg z z z H z (mv z) ?_
   rcases bs (decide<|0<((ke:Nat):Int)) with G | G
   .refine dRg z z z G z (fd b_k z) ?_;have Y:=(hk.e s8).e sc;refine dRg z z z G z (l0 H_ z<|Y.at z)<|dRg z z z G z (mv z)<|dRg z z z G z (sb_ z z) ?_
    obtain ⟨aD,aE,ab⟩:=bdS<|ifT W G;have a0:=J.g<|(hf.e s8).e sc
    refine a_L z z z G z (at_ (α:=Int) y_ z_3 z z z a0 aE) ?_;rintro _ ⟨_,_,_,rfl,aF,aG,_⟩;obtain ⟨rfl,_⟩:=V_ aG;refine dRg z z z G z (l0 g_3 z<|aF.at0 z)<|dRg z z z G z (fd b_k z)<|dRg z z z G z (l0 H_ z<|Y.at z)<|dRg z z z G z (mv z) ?_
    obtain ⟨aH,aI,ad⟩:=bdS ab;refine a_L z z z G z (at_ (α:=Int) y_ z_3 z z z a0 aI) ?_;rintro _ ⟨_,_,_,rfl,aJ,aK,_⟩;obtain ⟨rfl,_⟩:=V_ aK;exact dRg z z z G z (l0 g_3 z<|aJ.at0 z)<|dRg z z z G z (b_t z z)<|dRg z z z H z (pT z G z)<|dR z z (pF z H z)<|pD (λ_ q=>⟨decide<|aH<=aD,som ad,q.k<|s4 z z z z,bup (bup s6 s8) sc⟩)
   iterate 12 refine dRn z z z G z ?_
   exact dRg z z z H z (pF z G z)<|dR z z (pF z H z)<|pD (λ_ q=>⟨false,som<|ifF W G,q.k<|s4 z z z z,bup (bup s6 s8) sc⟩)
  rintro aL _ ⟨xj,rfl,_,a1⟩;revert aL;refine Wo<|Wc z (λhcl=>?_) (λhcl=>?_)
  .exact Ws<|Rw z<|Wr<|rtO<|qL (som<|ifT hmx hcl).symm<|c_ hr z ⟨bup (bup (bup (bup h4 h3) s5) s7) a1,z⟩
  exact Wk<|Wg<|Rm z<|R z (inc_ hku (lt_ (repS.len J) z_) z z)<|Ra z<|Wl (λ_ q=>⟨(),(som<|ifF hmx hcl).symm,⟨q.k<|s3 z z z,bup s7 a1⟩⟩)
 .rintro _ _ _ ⟨ae,sm⟩;refine Wu ?_ ae;refine Wq<|Wm z<|Rf z b_k z<|R z (l0 H_ z<|((ha.e s5).e sm).at z)<|R z (lnR y_ z<|J.g<|(((h4.ag B).e h3).e s5).e sm)<|Rl z z z<|Wx z (λhc=>(P_ hc).elim) (λ_=>?_)
  exact We<|λ_ q=>⟨rfl,⟨q.k sn,sm⟩⟩
 .rintro _ aM _ rfl ⟨_,aN⟩;have af:=elL hmr;revert aM;refine Wo<|Ws<|Rw z ?_
  obtain rfl:=som af;exact Wr<|c_ hr z ⟨bup (bup (bup h4 h3) s5) aN,z⟩
 rintro _ _ _ _ rfl ⟨rfl,ah⟩;have ai:=elR hmr;obtain rfl:=som ai;exact ⟨ah,z⟩
theorem W_w32 {x1:f_}{x2:d_}{res:Bool}(hm:i_g x1 x2=some res)(I:B<=w0.z)(a8:repS w0 B (sl A0 N0 C0) x1.rules)(a2:x2.name.b.length<=LEN)(a3:inI x2.kind)(V:inI x2.size)(W:repS w0 B (sl A3 N3 C3) x2.bytes)(a0:repS w0 B (sl A5 N5 C5) x2.names)(a4:repS w0 B (sl A2 N2 C2) x2.tags)(Y:repS w0 B (sl A6 N6 C6) x2.kids):h_ prog 110 [(.agg #[sl A0 N0 C0]),(.agg #[Str.v x2.name,vI x2.kind,vI x2.size,vB x2.little,sl A3 N3 C3,sl A5 N5 C5,sl A2 N2 C2,sl A6 N6 C6])] w0 (Q11 w0 B res):=by
 unfold i_g at hm
 refine goG func110 z z z λfn hr=>Ws<|E z (fb z) ?_
 rintro _ al ⟨rfl,aT⟩;have h1:=aT.below;have am:Blk al w0.z [sl A0 N0 C0]:=aT.blk;refine E z (fb z) ?_;rintro _ H ⟨rfl,aU⟩;have G:=aU.below;have h3:Blk H al.z (vR x2 A3 N3 C3 A5 N5 C5 A2 N2 C2 A6 N6 C6):=aU.blk;refine Rw z<|Wq<|Ws<|Rf z a_O z<|R z (l0 g_3 z<|h3.at z)<|Wn<|Wb<|Ws<|Rq z z z<|Rw z<|Wc z (λa9=>?_) (λa9=>?_)
 .refine Wq ?_;obtain ⟨bI,be,bf⟩:=bdS<|ifT hm a9;refine Wt (λa w=>∃(an:Bool),an=bI/\Sat 114 [(4,vB an)] a/\Below H.z H w) ?_ ?_
  .refine Wg<|R z (lN (vs:=vR x2 A3 N3 C3 A5 N5 C5 A2 N2 C2 A6 N6 C6) Q_ t_ z z fid<|h3.row 0 8 z) ?_
   have hw:=(h1.ag B).e G;have aV:=lt_ h1.s G.s;obtain ⟨bJ,bK,az⟩:=bdS be;refine E z (fc call143 z<|e_k bK (zt' I aV) a2 a3 V (W.g hw) (a0.g hw) (a4.g hw) (Y.g hw)<|ii z) ?_;rintro _ _ ⟨sg,rfl⟩;refine Rm z ?_
   rcases bs bJ with hca | hca
   .refine Rh z hca (fd b_1 z) ?_;have aW:=h3.e sg;refine Rh z hca (l0 g_3 z<|aW.at z) ?_;obtain ⟨bL,bM,aA⟩:=bdS<|ifT az hca;refine Eg z z hca z (fc call51 z<|b_a bM (zt' I<|lt_ aV sg.s) V (ii z)<|ii z) ?_;rintro _ _ ⟨sx,rfl⟩;refine R z (pT z hca z)<|Rm z ?_
    rcases bs bL with O | O
    .have aB:=ifT aA O;refine Rh z O (fd d_j z) ?_;have aX:=aW.e sx;refine Rh z O (l0 g_4 z<|aX.at z)<|Rh z O (not_ z)<|Rh z O (mv z) ?_
     rcases bs (!x2.little) with hcb | hcb
     .iterate 3 refine Nh z hcb ?_
      exact Rh z O (pT z hcb z)<|R z (pT z O z)<|Ra z<|Wl (λ_ q=>⟨true,som<|ifT aB hcb,q.k<|s1 z,bup sg sx⟩)
     exact Rh z hcb (fd b_1 z)<|Rh z hcb (l0 g_3 z<|aX.at z)<|Rh z hcb (X_ z z)<|Rh z O (pF z hcb z)<|R z (pT z O z)<|Ra z<|Wl (λ_ q=>⟨decide<|1<x2.size,som<|ifF aB hcb,q.k<|s1 z,bup sg sx⟩)
    iterate 4 refine Nh z O ?_
    exact Nv z<|Nv z<|Nv z<|Nh z O<|R z (pF z O z)<|Ra z<|Wl (λ_ q=>⟨false,som<|ifF aA O,q.k<|s1 z,bup sg sx⟩)
   iterate 3 refine Nh z hca ?_
   exact R z (pF z hca z)<|Rm z<|Nh z z<|Nh z z<|Nh z z<|Nh z z<|Nv z<|Nv z<|Nv z<|Nh z z<|R z (pF z z z)<|Ra z<|Wl (λ_ q=>⟨false,som<|ifF az hca,q.k<|s1 z,sg⟩)
  rintro bN _ ⟨an,rfl,_,bO⟩;revert bN;refine Wo ?_;obtain rfl:=som bf;exact Wr<|rtO<|c_ hr z ⟨bup (bup h1 G) bO,z⟩
 have aC:=ifF hm a9;refine Ws<|Rq z z z<|Rw z<|Wc z (λaa=>?_) (λaa=>?_)
 .refine Wq ?_;obtain ⟨bP,bg,bh⟩:=bdS<|ifT aC aa;refine Wt (λa w=>∃(ao:Bool),ao=bP/\Sat 114 [(4,vB ao)] a/\Below H.z H w) ?_ ?_
  .refine Wg<|R z (lN (vs:=vR x2 A3 N3 C3 A5 N5 C5 A2 N2 C2 A6 N6 C6) Q_ t_ z z fid<|h3.row 0 8 z) ?_
   have hl:=(h1.ag B).e G;have aY:=lt_ h1.s G.s;obtain ⟨bQ,bR,aD⟩:=bdS bg;refine E z (fc call143 z<|e_k bR (zt' I aY) a2 a3 V (W.g hl) (a0.g hl) (a4.g hl) (Y.g hl)<|ii z) ?_;rintro _ _ ⟨sn,rfl⟩;refine Rm z ?_
   rcases bs bQ with a5 | a5
   .refine Rh z a5 (fd b_j z)<|Rh z a5 (l0 K_ z<|(h3.e sn).at z) ?_
    have aZ:=W.g<|hl.e sn
    refine Rh z a5 (lnR k_ z aZ) ?_;obtain ⟨bS,bT,bi⟩:=bdS<|ifT aD a5;refine Eg z z a5 z (fc call51 z<|b_a bT (zt' I<|lt_ aY sn.s) (b_Y<|repS.len aZ) (ii z)<|ii z) ?_;rintro _ _ ⟨bU,rfl⟩;exact R z (pT z a5 z)<|Ra z<|Wl (λ_ q=>⟨bS,som bi,q.k<|s1 z,bup sn bU⟩)
   iterate 4 refine Nh z a5 ?_
   exact R z (pF z a5 z)<|Ra z<|Wl (λ_ q=>⟨false,som<|ifF aD a5,q.k<|s1 z,sn⟩)
  rintro bV _ ⟨ao,rfl,_,bW⟩;revert bV;refine Wo ?_;obtain rfl:=som bh;exact Wr<|rtO<|c_ hr z ⟨bup (bup h1 G) bW,z⟩
 have aE:=ifF aC aa;refine Ws<|Rq z z z<|Rw z<|Wc z (λab=>?_) (λab=>?_)
 .refine Wq ?_;obtain ⟨bX,bj,bk⟩:=bdS<|ifT aE ab;refine Wt (λa w=>∃(ap:Bool),ap=bX/\Sat 114 [(4,vB ap)] a/\Below H.z H w) ?_ ?_
  .refine Wg<|R z (lN (vs:=vR x2 A3 N3 C3 A5 N5 C5 A2 N2 C2 A6 N6 C6) Q_ t_ z z fid<|h3.row 0 8 z) ?_
   have hy:=(h1.ag B).e G;have b0:=lt_ h1.s G.s;obtain ⟨bY,bZ,aF⟩:=bdS bj;refine E z (fc call143 z<|e_k bZ (zt' I b0) a2 a3 V (W.g hy) (a0.g hy) (a4.g hy) (Y.g hy)<|ii z) ?_;rintro _ _ ⟨sz,rfl⟩;refine Rm z ?_
   rcases bs bY with hcc | hcc
   .refine Rh z hcc (fd b_1 z)<|Rh z hcc (l0 g_3 z<|(h3.e sz).at z) ?_
    obtain ⟨c0,c1,bm⟩:=bdS<|ifT aF hcc;refine Eg z z hcc z (fc call51 z<|b_a c1 (zt' I<|lt_ b0 sz.s) V (ii z)<|ii z) ?_;rintro _ _ ⟨c2,rfl⟩;exact R z (pT z hcc z)<|Ra z<|Wl (λ_ q=>⟨c0,som bm,q.k<|s1 z,bup sz c2⟩)
   iterate 3 refine Nh z hcc ?_
   exact R z (pF z hcc z)<|Ra z<|Wl (λ_ q=>⟨false,som<|ifF aF hcc,q.k<|s1 z,sz⟩)
  rintro c3 _ ⟨ap,rfl,_,c4⟩;revert c3;refine Wo ?_;obtain rfl:=som bk;exact Wr<|rtO<|c_ hr z ⟨bup (bup h1 G) c4,z⟩
 have aG:=ifF aE ab;refine Ws<|Rq z z z<|Rw z<|Wc z (λad=>?_) (λad=>?_)
 .refine Wq ?_;obtain ⟨c5,bn,bo⟩:=bdS<|ifT aG ad;refine Wt (λa w=>∃(aq:Bool),aq=c5/\Sat 114 [(4,vB aq)] a/\Below H.z H w) ?_ ?_
  .refine Wd (X:=noX) 0 (pl_ 12 [1,8]) mo (by kernel_rfl) λcX sh _=>?_
   have b1:=h3.e sh;refine dR z z (lN (vs:=vR x2 A3 N3 C3 A5 N5 C5 A2 N2 C2 A6 N6 C6) Q_ t_ z z fid<|b1.row 0 8 z) ?_;have ho:=((h1.ag B).e G).e sh;have b2:=lt_ (lt_ h1.s G.s) sh.s;obtain ⟨c6,c7,aH⟩:=bdS bn;refine dE z z (fc call143 z<|e_k c7 (zt' I b2) a2 a3 V (W.g ho) (a0.g ho) (a4.g ho) (Y.g ho)<|ii z) (.inr λ_ _ h=>E_<|h.1) ?_;rintro _ _ ⟨si,rfl⟩;refine dM z z z ?_
   rcases bs c6 with J | J
   .refine dRg z z z J z (lN (vs:=[sl A0 N0 C0]) L_ D_ z z fid<|(((am.e G).e sh).e si).row 0 1 z)<|dRg z z z J z (fd a_1 z)<|dRg z z z J z (l0 H_ z<|(b1.e si).at z) ?_
    obtain ⟨_,c8,bp⟩:=bdS<|ifT aH J;have b3:=ho.e si;refine a_L z z z J z (at_ (α:=Int) y_ z_3 z z z (Y.g b3) c8) ?_;rintro _ ⟨_,_,_,rfl,c9,ca,_⟩;obtain ⟨rfl,cb⟩:=V_ ca;refine dRg z z z J z (l0 g_3 z<|c9.at0 z) ?_;obtain ⟨cc,cd,bq⟩:=bdS bp;refine dEg z z z J z (fc call144 z<|l_O cd (zt' I<|lt_ b2 si.s) (a8.g b3) cb) (.inr λ_ _ h=>E_<|h.1) ?_;rintro _ _ ⟨ce,rfl,_⟩;exact dRg z z z J z (X_ z z)<|dR z z (pT z J z)<|dQ z z z<|pD (λ_ q=>⟨decide<|0<cc,som bq,q.k<|s1 z,bup (bup sh si) ce⟩)
   iterate 5 refine dRn z z z J z ?_
   exact dEn z z z J z<|dRn z z z J z<|dR z z (pF z J z)<|dQ z z z<|pD (λ_ q=>⟨false,som<|ifF aH J,q.k<|s1 z,bup sh si⟩)
  rintro cf _ ⟨aq,rfl,_,cg⟩;revert cf;refine Wo ?_;obtain rfl:=som bo;exact Wr<|rtO<|c_ hr z ⟨bup (bup h1 G) cg,z⟩
 have aI:=ifF aG ad;refine Ws<|Rq z z z<|Rw z<|Wc z (λae=>?_) (λae=>?_)
 .refine Wq ?_;obtain ⟨ch,bt,bu⟩:=bdS<|ifT aI ae;refine Wt (λa w=>∃(ar:Bool),ar=ch/\Sat 114 [(4,vB ar)] a/\Below H.z H w) ?_ ?_
  .refine Wd (X:=noX) 0 (pl_ 12 [1,8]) mo (by kernel_rfl) λcY sj _=>?_
   have b4:=h3.e sj;refine dR z z (lN (vs:=vR x2 A3 N3 C3 A5 N5 C5 A2 N2 C2 A6 N6 C6) Q_ t_ z z fid<|b4.row 0 8 z) ?_;have hp:=((h1.ag B).e G).e sj;have b5:=lt_ (lt_ h1.s G.s) sj.s;obtain ⟨ci,cj,aJ⟩:=bdS bt;refine dE z z (fc call143 z<|e_k cj (zt' I b5) a2 a3 V (W.g hp) (a0.g hp) (a4.g hp) (Y.g hp)<|ii z) (.inr λ_ _ h=>E_<|h.1) ?_;rintro _ _ ⟨sk,rfl⟩;refine dM z z z ?_
   rcases bs ci with L | L
   .refine dRg z z z L z (lN (vs:=[sl A0 N0 C0]) L_ D_ z z fid<|(((am.e G).e sj).e sk).row 0 1 z)<|dRg z z z L z (fd a_1 z)<|dRg z z z L z (l0 H_ z<|(b4.e sk).at z) ?_
    obtain ⟨_,ck,bv⟩:=bdS<|ifT aJ L;have b6:=hp.e sk;refine a_L z z z L z (at_ (α:=Int) y_ z_3 z z z (Y.g b6) ck) ?_;rintro _ ⟨_,_,_,rfl,cl,cm,_⟩;obtain ⟨rfl,cn⟩:=V_ cm;refine dRg z z z L z (l0 g_3 z<|cl.at0 z) ?_;obtain ⟨co,cp,bw⟩:=bdS bv;refine dEg z z z L z (fc call144 z<|l_O cp (zt' I<|lt_ b5 sk.s) (a8.g b6) cn) (.inr λ_ _ h=>E_<|h.1) ?_;rintro _ _ ⟨cq,rfl,_⟩;exact dRg z z z L z (X_ z z)<|dR z z (pT z L z)<|dQ z z z<|pD (λ_ q=>⟨decide<|0<co,som bw,q.k<|s1 z,bup (bup sj sk) cq⟩)
   iterate 5 refine dRn z z z L z ?_
   exact dEn z z z L z<|dRn z z z L z<|dR z z (pF z L z)<|dQ z z z<|pD (λ_ q=>⟨false,som<|ifF aJ L,q.k<|s1 z,bup sj sk⟩)
  rintro cr _ ⟨ar,rfl,_,ct⟩;revert cr;refine Wo ?_;obtain rfl:=som bu;exact Wr<|rtO<|c_ hr z ⟨bup (bup h1 G) ct,z⟩
 have aK:=ifF aI ae;refine Ws<|Rq z z z<|Rw z<|Wc z (λaf=>?_) (λaf=>?_)
 .refine Wq ?_;obtain ⟨cu,bx,bz⟩:=bdS<|ifT aK af;refine Wt (λa w=>∃(au:Bool),au=cu/\Sat 114 [(4,vB au)] a/\Below H.z H w) ?_ ?_
  .refine Wg<|R z (lN (vs:=vR x2 A3 N3 C3 A5 N5 C5 A2 N2 C2 A6 N6 C6) Q_ t_ z z fid<|h3.row 0 8 z)<|Rf z c_i z<|R z (l0 a_G z<|h3.at z) ?_
   have hq:=(h1.ag B).e G;have av:=a0.g hq;refine R z (lnR F_ z av) ?_;have b7:=lt_ h1.s G.s;obtain ⟨cv,cw,aL⟩:=bdS bx;refine E z (fc call143 z<|e_k cw (zt' I b7) a2 a3 V (W.g hq) av (a4.g hq) (Y.g hq)<|b_Y<|repS.len av) ?_;rintro _ _ ⟨sr,rfl⟩;refine Rm z ?_
   rcases bs cv with hcd | hcd
   .refine Rh z hcd (fd c_i z)<|Rh z hcd (l0 a_G z<|(h3.e sr).at z) ?_
    obtain ⟨cx,cy,bA⟩:=bdS<|ifT aL hcd;refine Eg z z hcd z (fc call145 z<|W_w30 cy (zt' I<|lt_ b7 sr.s)<|a0.g<|hq.e sr) ?_;rintro _ _ ⟨cz,rfl⟩;exact R z (pT z hcd z)<|Ra z<|Wl (λ_ q=>⟨cx,som bA,q.k<|s1 z,bup sr cz⟩)
   iterate 3 refine Nh z hcd ?_
   exact R z (pF z hcd z)<|Ra z<|Wl (λ_ q=>⟨false,som<|ifF aL hcd,q.k<|s1 z,sr⟩)
  rintro cA _ ⟨au,rfl,_,cB⟩;revert cA;refine Wo ?_;obtain rfl:=som bz;exact Wr<|rtO<|c_ hr z ⟨bup (bup h1 G) cB,z⟩
 have aM:=ifF aK af;refine Ws<|Rq z z z<|Rw z<|Wc z (λah=>?_) (λah=>?_)
 .refine Wq ?_;obtain ⟨cC,bB,bC⟩:=bdS<|ifT aM ah;refine Wt (λa w=>∃(aw:Bool),aw=cC/\Sat 114 [(4,vB aw)] a/\Below H.z H w) ?_ ?_
  .refine Wg<|R z (lN (vs:=vR x2 A3 N3 C3 A5 N5 C5 A2 N2 C2 A6 N6 C6) Q_ t_ z z fid<|h3.row 0 8 z) ?_
   have ht:=(h1.ag B).e G;have b8:=lt_ h1.s G.s;obtain ⟨cD,cE,aN⟩:=bdS bB;refine E z (fc call143 z<|e_k cE (zt' I b8) a2 a3 V (W.g ht) (a0.g ht) (a4.g ht) (Y.g ht)<|ii z) ?_;rintro _ _ ⟨sm,rfl⟩;refine Rm z ?_
   rcases bs cD with hce | hce
   .refine Rh z hce (lN (vs:=[sl A0 N0 C0]) L_ D_ z z fid<|((am.e G).e sm).row 0 1 z)<|Rh z hce (lN (vs:=vR x2 A3 N3 C3 A5 N5 C5 A2 N2 C2 A6 N6 C6) Q_ t_ z z fid<|(h3.e sm).row 0 8 z) ?_
    have hu:=ht.e sm;obtain ⟨cF,cG,bD⟩:=bdS<|ifT aN hce;refine Eg z z hce z (fc call146 z<|W_w31 cG (zt' I<|lt_ b8 sm.s) (a8.g hu) a2 a3 V (W.g hu) (a0.g hu) (a4.g hu)<|Y.g hu) ?_;rintro _ _ ⟨cH,rfl⟩;exact R z (pT z hce z)<|Ra z<|Wl (λ_ q=>⟨cF,som bD,q.k<|s1 z,bup sm cH⟩)
   iterate 3 refine Nh z hce ?_
   exact R z (pF z hce z)<|Ra z<|Wl (λ_ q=>⟨false,som<|ifF aN hce,q.k<|s1 z,sm⟩)
  rintro cI _ ⟨aw,rfl,_,cJ⟩;revert cI;refine Wo ?_;obtain rfl:=som bC;exact Wr<|rtO<|c_ hr z ⟨bup (bup h1 G) cJ,z⟩
 refine Wq<|Ws<|Rq z z z<|Rw z ?_
 obtain ⟨cK,aO,aP⟩:=bdS<|ifF aM ah;refine Wt (λa w=>∃(ax:Bool),ax=cK/\Sat 114 [(3,pt al.z),(6,vI x2.kind),(92,vB ax)] a/\Below H.z H w) ?_ ?_
 .refine Wc z (λai=>?_)<|λai=>?_
  .exact a_j<|λ_ q=>⟨x2.kind==8,som<|ifT aO ai,q.k<|s3 z z z,br H⟩
  exact Wg<|Rq z z z<|Ra z<|Wl (λ_ q=>⟨x2.kind==9,som<|ifF aO ai,q.k<|s3 z z z,br H⟩)
 rintro cL b9 ⟨ax,rfl,_,sf⟩;revert cL;refine Wo<|Wc z (λaj=>?_) (λaj=>?_)
 .refine Ws<|R z (lN (vs:=vR x2 A3 N3 C3 A5 N5 C5 A2 N2 C2 A6 N6 C6) Q_ t_ z z fid<|(h3.e sf).row 0 8 z) ?_
  have a7:=((h1.ag B).e G).e sf;obtain ⟨_,cM,bE⟩:=bdS<|ifT aP aj;refine E z (fc call143 z<|e_k cM (zt' I<|lt_ (lt_ h1.s G.s) sf.s) a2 a3 V (W.g a7) (a0.g a7) (a4.g a7) (Y.g a7)<|ii z) ?_;rintro _ _ ⟨cN,rfl⟩;refine Rw z ?_
  obtain rfl:=som bE;exact Wr<|rtO<|c_ hr z ⟨bup (bup (bup h1 G) sf) cN,z⟩
 have aQ:=ifF aP aj;refine Ws<|Rq z z z<|Rw z<|Wc z (λak=>?_) (λak=>?_)
 .refine Wq ?_;obtain ⟨cO,bF,bG⟩:=bdS<|ifT aQ ak;refine Wt (λa w=>∃(ay:Bool),ay=cO/\Sat 114 [(4,vB ay)] a/\Below b9.z b9 w) ?_ ?_
  .refine Wg ?_;have ba:=h3.e sf;refine R z (lN (vs:=vR x2 A3 N3 C3 A5 N5 C5 A2 N2 C2 A6 N6 C6) Q_ t_ z z fid<|ba.row 0 8 z) ?_;have hv:=((h1.ag B).e G).e sf;obtain ⟨cP,cQ,aR⟩:=bdS bF;refine E z (fc call143 z<|e_k cQ (zt' I<|lt_ (lt_ h1.s G.s) sf.s) a2 a3 V (W.g hv) (a0.g hv) (a4.g hv) (Y.g hv)<|ii z) ?_;rintro _ _ ⟨ss,rfl⟩;refine Rm z ?_
   rcases bs cP with a6 | a6
   .have aS:=ifT aR a6;refine Rh z a6 (fd b_j z) ?_;have bb:=ba.e ss;refine Rh z a6 (l0 K_ z<|bb.at z) ?_;have bc:=W.g<|hv.e ss
    refine Rh z a6 (lnR k_ z bc)<|Rh z a6 (eql z z)<|R z (pT z a6 z)<|Rm z ?_
    rcases bs ((x2.bytes.length:Int)==1) with a1 | a1
    .refine Rh z a1 (fd b_j z)<|Rh z a1 (l0 K_ z<|bb.at z) ?_
     obtain ⟨cR,cS,bH⟩:=bdS<|ifT aS a1;refine RXg z z a1 z (at_ (α:=UInt8) k_ z_5 z z z bc cS) ?_;rintro _ ⟨_,_,_,rfl,cT,cU,_⟩;obtain rfl:=u8 cU;exact Rh z a1 (l0 g_5 z<|cT.at0 z)<|Rh z a1 (nq z z)<|R z (pT z a1 z)<|Ra z<|Wl (λ_ q=>⟨(byteI cR) != (byteI (92:UInt8)),som bH,q.k<|s1 z,ss⟩)
    iterate 5 refine Nh z a1 ?_
    exact R z (pF z a1 z)<|Ra z<|Wl (λ_ q=>⟨false,som<|ifF aS a1,q.k<|s1 z,ss⟩)
   iterate 4 refine Nh z a6 ?_
   exact R z (pF z a6 z)<|Rm z<|Nh z z<|Nh z z<|Nh z z<|Nh z z<|Nh z z<|R z (pF z z z)<|Ra z<|Wl (λ_ q=>⟨false,som<|ifF aR a6,q.k<|s1 z,ss⟩)
  rintro cV _ ⟨ay,rfl,_,cW⟩;revert cV;refine Wo ?_;obtain rfl:=som bG;exact Wr<|rtO<|c_ hr z ⟨bup (bup (bup h1 G) sf) cW,z⟩
 refine Wk<|Ws<|Rw z ?_
 obtain rfl:=som<|ifF aQ ak;exact Wr<|c_ hr z ⟨bup (bup h1 G) sf,z⟩
theorem W_w33 {x1:f_}{x2:Int}{res:Bool}(hm:i_h x1 x2=some res)(I:B<=w0.z)(L:repS w0 B (sl A0 N0 C0) x1.rules)(Y:inI x2):h_ prog 77 [(.agg #[sl A0 N0 C0]),vI x2] w0 (Q11 w0 B res):=by
 unfold i_h at hm
 refine goG func77 z z z λfn hr=>Ws<|E z (fb z) ?_
 rintro _ aN ⟨rfl,a8⟩;have h1:=a8.below;have he:Blk aN w0.z [sl A0 N0 C0]:=a8.blk;refine Rw z<|Wq<|Wm z<|Rf z a_s z<|R z (l0 a_u z<|he.at z)<|R z (lnR a_2 z<|L.e h1)<|R z (sb_ z z) ?_
 obtain ⟨_,aO,a0⟩:=bdS hm;refine E z (fc call51 z<|b_a aO (zt' I h1.s) Y (ii z)<|iS _ _) ?_;rintro _ H ⟨h,rfl⟩;refine R z (not_ z)<|Wx z (λhci=>?_) (λhci=>?_)
 .refine Ws<|Rw z ?_
  obtain rfl:=som<|ifT a0 hci;exact Wr<|c_ hr z ⟨bup h1 h,z⟩
 refine Wk<|Ws<|Rf z a_s z ?_
 have hj:=he.e h;refine R z (l0 a_u z<|hj.at z)<|Rm z ?_
 obtain ⟨xk,aP,aq⟩:=bdS<|ifF a0 hci;have hl:=(h1.ag B).e h;refine RX z (at_ (α:=d_) a_2 t_ z z z (L.g hl) aP) ?_;rintro _ ⟨_,_,_,rfl,aQ,aR,_⟩;obtain ⟨am,nn,co,ap,nq,cr,au,ns,ct,av,nw,cx,rfl,a9,aS,aT,aU,aV,aW,hf⟩:=b_3 aR;refine R z (lN (vs:=vR xk am nn co ap nq cr au ns ct av nw cx) Q_ t_ z z fid aQ)<|E z (fa c_q) ?_
 rintro _ aX ⟨rfl,aa⟩;have h2:=aa.below;refine E0 (fs0 (cur':=vR xk am nn co ap nq cr au ns ct av nw cx) t_ z z (aa.blk:Blk aX H.z [(Str.v (⟨[]⟩:Str)),vI 0,vI 0,vB false,sN,sN,sN,sN]) z z z z) ?_;rintro _ J ⟨hg,aY⟩;have h3:=aY.one;refine Wn<|Wq<|Ws<|Rw z ?_
 obtain ⟨_,ar,a1⟩:=bdS aq;refine Wf (σ:=Unit) (ρ:=Bool) (λ(ab:Nat)(_:Unit) a w=>Sat 58 [(1,vI x2),(2,pt w0.z),(5,pt H.z),(6,vI ((ab:Nat):Int))] a/\Below J.z J w) (λ(_:Unit) a w=>Sat 58 [(1,vI x2),(2,pt w0.z),(5,pt H.z)] a/\Below J.z J w) (rQ prog fn<|Q11 w0 B) ar ?_ ?_ ?_ ?_ ?_
 .exact λ_ q=>⟨q.k<|s4 z z z z,br J⟩
 .rintro ab _ _ _ _ a2 ⟨aw,sa⟩ ax;refine Wu ?_ aw;refine Wq<|Wm z<|Rm z<|Rl z z z<|Wx z (λ_=>?_) (λhc=>(k_m a2 hc).elim)
  refine Wk<|Wq<|Wb<|Wq (Wd (X:=noX) 0 (pl_ 9 []) mo (by kernel_rfl) λbj sb _=>dR z z (fd a_s z)<|dR z z (l0 a_u z<|((((hj.e h2).c h3<|djs<|mm1 he.lt h.s).e sa).e sb).at z)<|dM z z z ?_)
  obtain ⟨_,aZ,a3⟩:=bdS ax;have ad:=lt_ h1.s h.s;refine dRX z z (at_ (α:=d_) a_2 t_ z z z (L.g<|(((hl.e h2).c h3<|g_ (or0 (e_ lr) (n_<|zt' I ad):∀k∈[H.z],¬B k)).e sa).e sb) aZ) ?_;rintro _ ⟨_,_,_,rfl,b0,b1,_⟩;obtain ⟨_,_,_,_,_,_,_,_,_,_,_,_,rfl,_,_,_,_,_,_,_⟩:=b_3 b1;refine dR z z (fd d_M z)<|dR z z (l0 g_9 z<|b0.at (j:=0) z)<|dR z z (fd d_M z)<|dR z z (l0 g_9 z<|((hg.e sa).e sb).at z)<|dR z z (a_M z z)<|pD<|Wo<|Wc z (λhcy=>?_) (λhcy=>?_)
  .exact Ws<|Rw z<|Wr<|rtO<|qL (som<|ifT a3 hcy).symm<|c_ hr z ⟨bup (bup (bM (bup (bup h1 h) h2) h3<|m1 ad) sa) sb,z⟩
  exact Wk<|Wg<|Rm z<|R z (inc_ a2 (tl_ Y) z z)<|Ra z<|Wl (λ_ q=>⟨(),(som<|ifF a3 hcy).symm,⟨q.k<|s4 z z z z,bup sa sb⟩⟩)
 .rintro _ _ _ ⟨ay,b2⟩;refine Wu ?_ ay;refine Wq<|Wm z<|Rm z<|Rl z z z<|Wx z (λhc=>(k_n hc).elim) (λ_=>?_)
  exact We<|λ_ q=>⟨rfl,⟨q.k<|s3 z z z,b2⟩⟩
 .rintro _ b3 wc rfl ⟨_,s5⟩;have az:=elL a1;revert b3;refine Wo<|Wq<|Ws<|Rw z ?_
  obtain ⟨_,aA,a4⟩:=bdS az;refine Wf (σ:=Unit) (ρ:=Bool) (λ(ae:Nat)(_:Unit) a w=>Sat 58 [(1,vI x2),(2,pt w0.z),(5,pt H.z),(7,vI ((ae:Nat):Int))] a/\Below wc.z wc w) (λ(_:Unit) a w=>Sat 58 [(2,pt w0.z),(5,pt H.z)] a/\Below wc.z wc w) (rQ prog fn<|Q11 w0 B) aA ?_ ?_ ?_ ?_ ?_
  .exact λ_ q=>⟨q.k<|s4 z z z z,br wc⟩
  .rintro ae _ _ _ _ a5 ⟨aB,sd⟩ aC;refine Wu ?_ aB;refine Wq<|Wm z<|Rf z a_1 z ?_
   have af:=(hg.e s5).e sd;refine R z (l0 H_ z<|af.at z) ?_;have hz:=lt_ h1.s h.s;have ah:=hf.g<|(((h2.ag B).c h3<|g_ (or0 (e_ lr) (n_<|zt' I hz):∀k∈[H.z],¬B k)).e s5).e sd
   refine R z (lnR y_ z ah)<|Rl z z z<|Wx z (λ_=>?_) (λhc=>(O_ a5 hc).elim)
   refine Wk<|Wq<|Wb<|Ws<|Rf z a_1 z<|R z (l0 H_ z<|af.at z)<|Rm z ?_
   obtain ⟨_,b4,aD⟩:=bdS aC;refine RX z (at_ (α:=Int) y_ z_3 z z z ah b4) ?_;rintro _ ⟨_,_,_,rfl,b5,b6,_⟩;obtain ⟨rfl,b7⟩:=V_ b6;refine R z (l0 g_3 z<|b5.at0 z)<|Rm z<|R z (sb_ z z) ?_
   obtain ⟨_,b8,a6⟩:=bdS aD;refine E z (fc call51 z<|b_a b8 (zt' I<|lt_ (lt_ (lt_ (lt_ hz h2.s) h3.s) s5.s) sd.s) b7 (ii z)<|iS _ _) ?_;rintro _ _ ⟨ai,rfl⟩;refine R z (not_ z)<|Wx z (λO=>?_) (λO=>?_)
   .exact Ws<|Rw z<|Wr<|rtO<|qL (som<|ifT a6 O).symm<|c_ hr z ⟨bup (bup (bup (bM (bup (bup h1 h) h2) h3<|m1 hz) s5) sd) ai,z⟩
   exact Wk<|Wg<|Rm z<|R z (inc_ a5 (lt_ (repS.len hf) z_) z z)<|Ra z<|Wl (λ_ q=>⟨(),(som<|ifF a6 O).symm,⟨q.k<|s4 z z z z,bup sd ai⟩⟩)
  .rintro _ _ _ ⟨aE,V⟩;refine Wu ?_ aE;refine Wq<|Wm z<|Rf z a_1 z<|R z (l0 H_ z<|((hg.e s5).e V).at z) ?_
   refine R z (lnR y_ z<|hf.g<|(((h2.ag B).c h3<|g_ (or0 (e_ lr) (n_<|zt' I<|lt_ h1.s h.s):∀k∈[H.z],¬B k)).e s5).e V)<|Rl z z z<|Wx z (λhc=>(P_ hc).elim) (λ_=>?_)
   exact We<|λ_ q=>⟨rfl,⟨q.k<|s2 z z,V⟩⟩
  .rintro _ b9 aj rfl ⟨_,s8⟩;have aF:=elL a4;revert b9;refine Wo<|Wq ?_
   obtain ⟨ba,aG,aH⟩:=bdS aF;refine Wt (λa w=>∃(W:Bool),W=ba/\Sat 58 [(4,vB W)] a/\Below aj.z aj w) ?_ ?_
   .refine Wg<|Rf z d_M z ?_
    have ak:=(hg.e s5).e s8;refine R z (l0 g_9 z<|ak.at z) ?_;have al:=lt_ h1.s h.s;have an:=lt_ (lt_ (lt_ (lt_ al h2.s) h3.s) s5.s) s8.s;obtain ⟨bb,bc,a7⟩:=bdS aG;refine E z (fc call109 z<|j_T bc (zt' I an) a9) ?_;rintro _ _ ⟨s7,rfl⟩;refine Rm z ?_
    rcases bs bb with G | G
    .refine Rh z G (lN (vs:=[sl A0 N0 C0]) L_ D_ z z fid<|(((((hj.e h2).c h3<|djs<|mm1 he.lt h.s).e s5).e s8).e s7).row 0 1 z)<|Rh z G (lN (vs:=vR xk am nn co ap nq cr au ns ct av nw cx) Q_ t_ z z fid<|(ak.e s7).row 0 8 z) ?_
     have ao:∀k∈[H.z],¬B k:=or0 (e_ lr)<|n_<|zt' I al;have hh:=((((h2.ag B).c h3<|g_ ao).e s5).e s8).e s7;obtain ⟨be,bf,aI⟩:=bdS<|ifT a7 G;refine Eg z z G z (fc call110 z<|W_w32 bf (zt' I<|lt_ an s7.s) (L.g<|((((hl.e h2).c h3<|g_ ao).e s5).e s8).e s7) a9 aS aT (aU.g hh) (aV.g hh) (aW.g hh)<|hf.g hh) ?_;rintro _ _ ⟨bg,rfl⟩;exact R z (pT z G z)<|Ra z<|Wl (λ_ q=>⟨be,som aI,q.k<|s1 z,bup s7 bg⟩)
    iterate 3 refine Nh z G ?_
    exact R z (pF z G z)<|Ra z<|Wl (λ_ q=>⟨false,som<|ifF a7 G,q.k<|s1 z,s7⟩)
   rintro bh _ ⟨W,rfl,_,bi⟩;revert bh;refine Wo ?_;obtain rfl:=som aH;exact Wr<|c_ hr z ⟨bup (bup (bup (bM (bup (bup h1 h) h2) h3<|m1<|lt_ h1.s h.s) s5) s8) bi,z⟩
  rintro _ _ _ _ rfl ⟨rfl,aJ⟩;have aK:=elR a4;obtain rfl:=som aK;exact ⟨aJ,z⟩
 rintro _ _ _ _ rfl ⟨rfl,aL⟩;have aM:=elR a1;obtain rfl:=som aM;exact ⟨aL,z⟩
theorem W_w16 {x1:f_}{res:Bool}(hm:g_O x1=some res)(L:B<=w0.z)(H:repS w0 B (sl A0 N0 C0) x1.rules):h_ prog 53 [(.agg #[sl A0 N0 C0])] w0 (Q11 w0 B res):=by
 unfold g_O at hm
 refine goG func53 z z z λfn hr=>Ws<|E z (fb z) ?_
 rintro _ G ⟨rfl,V⟩;have h:=V.below;have h2:Blk G w0.z [sl A0 N0 C0]:=V.blk;refine Rw z<|Wq<|Ws<|Rw z ?_
 obtain ⟨_,hug,O⟩:=bdS hm;refine Wf (σ:=Unit) (ρ:=Bool) (λ(ka:Nat)(_:Unit) a w=>Sat 19 [(1,pt w0.z),(3,vI ((ka:Nat):Int))] a/\Below G.z G w) (λ(_:Unit) a w=>Sat 19 [(1,pt w0.z)] a/\Below G.z G w) (rQ prog fn<|Q11 w0 B) hug ?_ ?_ ?_ ?_ ?_
 .exact λ_ q=>⟨q.k<|s2 z z,br G⟩
 .rintro ka _ _ _ _ I ⟨hSh,s3⟩ hmi;refine Wu ?_ hSh;refine Wq<|Wm z<|Rf z a_s z ?_
  have hb:=h2.e s3;refine R z (l0 a_u z<|hb.at z) ?_;have hd:=H.g<|(h.ag B).e s3
  refine R z (lnR a_2 z hd)<|Rl z z z<|Wx z (λ_=>?_) (λhc=>(O_ I hc).elim)
  refine Wk<|Wq<|Wb<|Ws<|R z (lN (vs:=[sl A0 N0 C0]) L_ D_ z z fid<|hb.row 0 1 z)<|Rm z ?_
  obtain ⟨_,ej,hmc⟩:=bdS hmi;refine E z (fc call77 z<|W_w33 ej (zt' L<|lt_ h.s s3.s) hd<|ic (Nat.le_of_lt I)<|lt_ (repS.len H) z_) ?_;rintro _ _ ⟨se,rfl⟩;refine R z (not_ z)<|Wx z (λJ=>?_) (λJ=>?_)
  .exact Ws<|Rw z<|Wr<|rtO<|qL (som<|ifT hmc J).symm<|c_ hr z ⟨bup (bup h s3) se,z⟩
  exact Wk<|Wg<|Rm z<|R z (inc_ I (lt_ (repS.len H) z_) z z)<|Ra z<|Wl (λ_ q=>⟨(),(som<|ifF hmc J).symm,⟨q.k<|s2 z z,bup s3 se⟩⟩)
 .rintro _ _ _ ⟨hSk,s7⟩;refine Wu ?_ hSk;refine Wq<|Wm z<|Rf z a_s z<|R z (l0 a_u z<|(h2.e s7).at z)<|R z (lnR a_2 z<|H.g<|(h.ag B).e s7)<|Rl z z z<|Wx z (λhc=>(P_ hc).elim) (λ_=>?_)
  exact We<|λ_ q=>⟨rfl,⟨q.k<|s1 z,s7⟩⟩
 .rintro _ al _ rfl ⟨_,s4⟩;have hmm:=elL O;revert al;refine Wo<|Ws<|Rf z a_s z<|R z (l0 a_u z<|(h2.e s4).at z) ?_
  have hf:=H.g<|(h.ag B).e s4
  refine R z (lnR a_2 z hf) ?_;obtain ⟨_,en,hmo⟩:=bdS hmm;refine E z (fc call51 z<|b_a en (zt' L<|lt_ h.s s4.s) (b_Y<|repS.len hf) (ii z)<|ii z) ?_;rintro _ _ ⟨sp,rfl⟩;refine Rw z ?_
  obtain rfl:=som hmo;exact Wr<|c_ hr z ⟨bup (bup h s4) sp,z⟩
 rintro _ _ _ _ rfl ⟨rfl,hqq⟩;have hmr:=elR O;obtain rfl:=som hmr;exact ⟨hqq,z⟩
theorem W_w34 {x1:a_c}{res:Bool}(hm:j_k x1=some res)(O:B<=w0.z)(H:repS w0 B (sl A0 N0 C0) x1.versions):h_ prog 33 [(.agg #[sl A0 N0 C0])] w0 (Q11 w0 B res):=by
 unfold j_k at hm
 refine goG func33 z z z λfn hr=>Ws<|E z (fb z) ?_
 rintro _ h ⟨rfl,L⟩;have G:=L.below;have h2:Blk h w0.z [sl A0 N0 C0]:=L.blk;refine Rw z<|Wq<|Ws<|Rw z ?_
 obtain ⟨_,huf,J⟩:=bdS hm;refine Wf (σ:=Unit) (ρ:=Bool) (λ(k9:Nat)(_:Unit) a w=>Sat 22 [(1,pt w0.z),(3,vI ((k9:Nat):Int))] a/\Below h.z h w) (λ(_:Unit) a w=>Sat 22 [(1,pt w0.z)] a/\Below h.z h w) (rQ prog fn<|Q11 w0 B) huf ?_ ?_ ?_ ?_ ?_
 .exact λ_ q=>⟨q.k<|s2 z z,br h⟩
 .rintro k9 _ _ _ _ hka ⟨hSg,s3⟩ hmh;refine Wu ?_ hSg;refine Wq<|Wm z<|Rf z c_5 z ?_
  have hb:=h2.e s3;refine R z (l0 c_f z<|hb.at z) ?_;have hd:=H.g<|(G.ag B).e s3
  refine R z (lnR b_r z hd)<|Rl z z z<|Wx z (λ_=>?_) (λhc=>(O_ hka hc).elim)
  refine Wk<|Wq<|Wb<|Ws<|Rf z c_5 z<|R z (l0 c_f z<|hb.at z)<|Rm z ?_
  obtain ⟨_,ei,hmj⟩:=bdS hmh;refine RX z (at_ (α:=f_) b_r D_ z z z hd ei) ?_;rintro _ ⟨_,_,_,rfl,hk,hl,_⟩;obtain ⟨am,nn,co,rfl,hp⟩:=d_H hl;refine R z (lN (vs:=[sl am nn co]) L_ D_ z z fid hk) ?_;obtain ⟨_,eq,hmc⟩:=bdS hmj;refine E z (fc call53 z<|W_w16 eq (zt' O<|lt_ G.s s3.s) hp) ?_;rintro _ _ ⟨se,rfl⟩;refine R z (not_ z)<|Wx z (λI=>?_) (λI=>?_)
  .exact Ws<|Rw z<|Wr<|rtO<|qL (som<|ifT hmc I).symm<|c_ hr z ⟨bup (bup G s3) se,z⟩
  exact Wk<|Wg<|Rm z<|R z (inc_ hka (lt_ (repS.len H) z_) z z)<|Ra z<|Wl (λ_ q=>⟨(),(som<|ifF hmc I).symm,⟨q.k<|s2 z z,bup s3 se⟩⟩)
 .rintro _ _ _ ⟨hSr,s5⟩;refine Wu ?_ hSr;refine Wq<|Wm z<|Rf z c_5 z<|R z (l0 c_f z<|(h2.e s5).at z)<|R z (lnR b_r z<|H.g<|(G.ag B).e s5)<|Rl z z z<|Wx z (λhc=>(P_ hc).elim) (λ_=>?_)
  exact We<|λ_ q=>⟨rfl,⟨q.k<|s1 z,s5⟩⟩
 .rintro _ au _ rfl ⟨_,s6⟩;have hms:=elL J;revert au;refine Wo<|Ws<|Rf z c_5 z<|R z (l0 c_f z<|(h2.e s6).at z)<|R z (lnR b_r z<|H.g<|(G.ag B).e s6)<|R z (d_0 z z)<|Rw z ?_
  obtain rfl:=som hms;exact Wr<|c_ hr z ⟨bup G s6,z⟩
 rintro _ _ _ _ rfl ⟨rfl,hqt⟩;have hmv:=elR J;obtain rfl:=som hmv;exact ⟨hqt,z⟩
theorem l_P {x1:f_}{res:Int}(hm:g_P x1=some res)(I:B<=w0.z)(G:repS w0 B (sl A0 N0 C0) x1.rules):h_ prog 57 [(.agg #[sl A0 N0 C0])] w0 (Q0 w0 B res):=by
 unfold g_P at hm
 refine goG func57 z z z λfn hr=>Ws<|E z (fb z) ?_
 rintro _ H ⟨rfl,h⟩;have h1:=h.below;refine Rw z<|Ws<|Rf z a_s z<|R z (l0 a_u z<|(h.blk:Blk H w0.z [sl A0 N0 C0]).at z)<|R z (lnR a_2 z<|G.e h1)<|R z (sb_ z z)<|Rw z ?_
 obtain rfl:=som hm;exact Wr<|c_ hr z ⟨h1,z,iS _ _⟩
theorem W_w35 {x1:f_}{x2:Int}{res:Bool}(hm:i_q x1 x2=some res)(I:B<=w0.z)(H:repS w0 B (sl A0 N0 C0) x1.rules)(L:inI x2):h_ prog 115 [(.agg #[sl A0 N0 C0]),vI x2] w0 (Q11 w0 B res):=by
 unfold i_q at hm
 refine goG func115 z z z λfn hr=>Ws<|E z (fb z) ?_
 rintro _ G ⟨rfl,h5⟩;have h1:=h5.below;have h6:Blk G w0.z [sl A0 N0 C0]:=h5.blk;refine Rw z<|Wq ?_
 obtain ⟨u8,O,hma⟩:=bdS hm;refine Wt (λa w=>∃(x4:Bool),x4=u8/\Sat 15 [(4,vB x4)] a/\Below G.z G w) ?_ ?_
 .refine Wg<|Rm z<|Rf z a_s z<|R z (l0 a_u z<|h6.at z)<|R z (lnR a_2 z<|H.e h1)<|R z (sb_ z z) ?_
  obtain ⟨rb,ec,J⟩:=bdS O;refine E z (fc call51 z<|b_a ec (zt' I h1.s) L (ii z)<|iS _ _) ?_;rintro _ _ ⟨s2,rfl⟩;refine Rm z ?_
  rcases bs rb with h | h
  .refine Rh z h (lN (vs:=[sl A0 N0 C0]) L_ D_ z z fid<|(h6.e s2).row 0 1 z) ?_;obtain ⟨rd,ee,hmf⟩:=bdS<|ifT J h;refine Eg z z h z (fc call53 z<|W_w16 ee (zt' I<|lt_ h1.s s2.s)<|H.g<|(h1.ag B).e s2) ?_;rintro _ _ ⟨sg,rfl⟩;exact R z (pT z h z)<|Ra z<|Wl (λ_ q=>⟨rd,som hmf,q.k<|s1 z,bup s2 sg⟩)
  exact Nh z h<|Nh z h<|R z (pF z h z)<|Ra z<|Wl (λ_ q=>⟨false,som<|ifF J h,q.k<|s1 z,s2⟩)
 rintro ah _ ⟨x4,rfl,_,si⟩;revert ah;refine Wo ?_;obtain rfl:=som hma;exact Wr<|c_ hr z ⟨bup h1 si,z⟩
def Q16 (w0:World)(B:Zone)(r:Int×Int×Bool)(v:Value)(w':World):Prop:=Bw w0 w'/\un3 (λh G H=>v = .tuple #[vI h,vI G,vB H]/\inI h/\inI G) r
theorem j_V {x1:f_}{x2:Int}{x3:Bt}{x4:Int}{res:Int×Int×Bool}(hm:d_f x1 x2 x3 x4=some res)(L:B<=w0.z)(Y:repS w0 B (sl A0 N0 C0) x1.rules)(a5:inI x2)(J:repS w0 B (sl A7 N7 C7) x3)(a0:inI x4):h_ prog 84 [(.agg #[sl A0 N0 C0]),vI x2,sl A7 N7 C7,vI x4] w0 (Q16 w0 B res):=by
 unfold d_f at hm
 refine goG func84 z z z λfn hr=>Ws<|E z (fb z) ?_
 rintro _ I ⟨rfl,V⟩;have G:=V.below;refine RA z z<|Rw z<|Ws<|Rf z a_s z<|R z (l0 a_u z<|(V.blk:Blk I w0.z [sl A0 N0 C0]).at z)<|Rm z ?_
 obtain ⟨W,em,O⟩:=bdS hm;refine RX z (at_ (α:=d_) a_2 t_ z z z (Y.e G) em) ?_;rintro _ ⟨_,_,_,rfl,ht,hu,_⟩;obtain ⟨aa,nb,cc,ad,ne,cf,ah,ng,ci,aj,nk,cl,rfl,_,_,_,_,_,_,_⟩:=b_3 hu;refine R z (lN (vs:=vR W aa nb cc ad ne cf ah ng ci aj nk cl) Q_ t_ z z fid ht)<|E z (fa c_q) ?_
 rintro _ wr ⟨rfl,hn⟩;have h1:=hn.below;refine E0 (fs0 (cur':=vR W aa nb cc ad ne cf ah ng ci aj nk cl) t_ z z (hn.blk:Blk wr I.z [(Str.v (⟨[]⟩:Str)),vI 0,vI 0,vB false,sN,sN,sN,sN]) z z z z) ?_;rintro _ _ ⟨ho,ss⟩;have h2:=ss.one;refine Wn<|Wq<|Wm z ?_
 have hp:=((G.ag B).e h1).c h2<|g_ (or0 (e_ lr) (n_<|zt' L G.s):∀k∈[I.z],¬B k)
 refine R z (lnR k_ z<|J.g hp)<|Rm z<|R z (sb_ z z)<|Rf z b_1 z<|R z (l0 g_3 z<|ho.at z)<|Rl z z z<|Wx z (λH=>?_) (λH=>?_)
 .refine Wm z<|RA z z<|Rw z ?_
  obtain rfl:=som<|ifT O H;exact Wr<|x_ hr z z z ⟨bM (bup G h1) h2<|m1 G.s,z,ii z,a0⟩
 refine Wk<|Wq (Wd (X:=noX) 0 (.rd 0<|.rd 1<|.rd 2<|.rd 3<|.rd 4<|.rd 5<|.rd 6<|.rd 7<|.rd 8<|.rd 10<|.rd 11<|.rd 12<|.rd 13<|.ef 9<|.rd 14<|.rd 15<|.rd 16 .done) mo (by kernel_rfl) λa6 s3 _=>?_)
 iterate 3 refine dM z z z ?_
 refine dR z z (fd b_1 z) ?_;have h6:=ho.e s3;refine dR z z (l0 g_3 z<|h6.at z)<|dR z z (add_ z z) ?_
 obtain ⟨_,ex,hmy⟩:=bdS<|ifF O H;refine dRX z z (rX k_ z_5 z z (J.g<|hp.e s3) z z ex) ?_;rintro _ ⟨_,_,_,rfl,hz⟩;refine dR z z (fd d_j z)<|dR z z (l0 g_4 z<|h6.at z)<|dM z z z<|dR z z (fd b_1 z)<|dR z z (l0 g_3 z<|h6.at z)<|dR z z (add_ z z) ?_
 obtain ⟨_,a2,a1⟩:=bdS hmy;refine dE z z (fc call78 z<|W_w10 a2 (zt' L<|lt_ (lt_ (lt_ G.s h1.s) h2.s) s3.s) hz) (.inr λ_ _ h=>E_<|h.1) ?_;rintro _ _ ⟨a3,rfl,a4⟩
 iterate 3 refine dQ z z z ?_
 refine pD<|Wo ?_
 obtain rfl:=som a1;exact Wr<|x_ hr z z z ⟨bup (bup (bM (bup G h1) h2<|m1 G.s) s3) a3,z,a4,iA _ _⟩
def Q17 (w0:World)(B:Zone)(r:Val×Int×Int)(v:Value)(w':World):Prop:=Bw w0 w'/\un3 (λh G H=>∃I J L S1 a2 O V S2,v = .tuple #[(.agg #[vI h.number,sl I J L,sl a2 O V]),vI G,vI H]/\inI h.number/\a_ w' S1 (sl I J L) h.bytes/\a_ w' S2 (sl a2 O V) h.items/\inI G/\inI H/\(S1++S2).Nodup/\(∀k∈(S1++S2),w0.z<=k)) r
theorem W_w36 {x1:d_}{x2:Bt}{x3:Int}{res:Val×Int×Int}(hm:i_i x1 x2 x3=some res)(ab:B<=w0.z)(a5:x1.name.b.length<=LEN)(a6:inI x1.kind)(a7:inI x1.size)(I:repS w0 B (sl A9 N9 C9) x1.bytes)(a8:repS w0 B (sl A8 N8 C8) x1.names)(a9:repS w0 B (sl AA NA CA) x1.tags)(aa:repS w0 B (sl AB NB CB) x1.kids)(O:repS w0 B (sl A4 N4 C4) x2)(V:inI x3):h_ prog 116 [(.agg #[Str.v x1.name,vI x1.kind,vI x1.size,vB x1.little,sl A9 N9 C9,sl A8 N8 C8,sl AA NA CA,sl AB NB CB]),sl A4 N4 C4,vI x3] w0 (Q17 w0 B res):=by
 unfold i_i at hm
 refine goG func116 z z z λfn hr=>Ws<|E z (fb z) ?_
 rintro _ J ⟨rfl,he⟩;have G:=he.below;have h5:Blk J w0.z (vR x1 A9 N9 C9 A8 N8 C8 AA NA CA AB NB CB):=he.blk;refine E z (fa a_q) ?_;rintro _ H ⟨rfl,hf⟩;have h1:=hf.below;have L:Blk H J.z [vI 0,sN,sN]:=hf.blk;refine Ra z<|Rw z<|Wq<|Ws<|Rw z ?_
 obtain ⟨_,hun,hmg⟩:=bdS hm;refine Wf (σ:=Unit) (ρ:=Val×Int×Int) (λ(kh:Nat)(_:Unit) a w=>Sat 47 [(1,sl A4 N4 C4),(2,vI x3),(3,pt w0.z),(6,pt J.z),(9,vI ((kh:Nat):Int))] a/\Below H.z H w) (λ(_:Unit) a w=>Sat 47 [(2,vI x3),(3,pt w0.z),(6,pt J.z)] a/\Below H.z H w) (rQ prog fn<|Q17 w0 B) hun ?_ ?_ ?_ ?_ ?_
 .exact λ_ q=>⟨q.k<|s5 z z z z z,br H⟩
 .rintro kh _ _ _ _ hki ⟨hSo,s2⟩ hmj;refine Wu ?_ hSo;refine Wq<|Wm z<|Rf z b_j z ?_
  have hk:=(h5.e h1).e s2;refine R z (l0 K_ z<|hk.at z) ?_;have ha:=((G.ag B).e h1).e s2;refine R z (lnR k_ z<|I.g ha)<|Rl z z z<|Wx z (λ_=>?_) (λhc=>(O_ hki hc).elim)
  refine Wk<|Wq<|Wb<|Wq<|Wm z<|Rm z<|R z (add_ z z)<|Rm z<|R z (lnR k_ z<|O.g ha)<|R z (b_t z z)<|Wx z (λhcb=>?_) (λhcb=>?_)
  .refine Ws<|R z (bP (parts:=[]) (cs:=[vI 0,sN,sN]) a_6 z z)<|Rm z<|E0 (fs0 (cur':=[vI 0,sN,sN]) m_ z z (L.e s2) z z z z) ?_
   rintro _ _ ⟨hp,sq⟩;exact Ra z<|Rw z<|Wr<|rtO<|qL (som<|ifT hmj hcb).symm<|x_ hr (q_ C_ m_ z hp z) z z ⟨bM (bup (bup G h1) s2) sq.one<|m1 G.s,none,0,0,[],none,0,0,[],z,ii z,onL,onL,V,ii z,nd0,al0⟩
  refine Wk<|Wq (Wd (X:=noX) 0 (pl_ 12 []) mo (by kernel_rfl) λad s6 _=>?_)
  iterate 3 refine dM z z z ?_
  refine dR z z (add_ z z) ?_;obtain ⟨_,er,hms⟩:=bdS<|ifF hmj hcb;have hl:=ha.e s6;refine dRX z z (at_ (α:=UInt8) k_ z_5 z z z (O.g hl) er) ?_;rintro _ ⟨_,_,_,rfl,ht,hu,_⟩;obtain rfl:=u8 hu;refine dR z z (l0 g_5 z<|ht.at0 z)<|dR z z (fd b_j z)<|dR z z (l0 K_ z<|(hk.e s6).at z)<|dM z z z ?_
  obtain ⟨_,ev,hmm⟩:=bdS hms;refine dRX z z (at_ (α:=UInt8) k_ z_5 z z z (I.g hl) ev) ?_;rintro _ ⟨_,_,_,rfl,hw,hx,_⟩;obtain rfl:=u8 hx;refine dR z z (l0 g_5 z<|hw.at0 z)<|dR z z (nq z z)<|pD<|Wo<|Wc z (λhcc=>?_) (λhcc=>?_)
  .refine Ws<|R z (bP (parts:=[]) (cs:=[vI 0,sN,sN]) a_6 z z)<|RM z z<|R z (add_ z z)<|E0 (fs0 (cur':=[vI 0,sN,sN]) m_ z z ((L.e s2).e s6) z z z z) ?_
   rintro _ _ ⟨hy,sz⟩;exact Ra z<|Rw z<|Wr<|rtO<|qL (som<|ifT hmm hcc).symm<|x_ hr (q_ C_ m_ z hy z) z z ⟨bM (bup (bup (bup G h1) s2) s6) sz.one<|m1 G.s,none,0,0,[],none,0,0,[],z,ii z,onL,onL,iA _ _,ii z,nd0,al0⟩
  exact Wk<|Wg<|Rm z<|R z (inc_ hki (lt_ (repS.len I) z_) z z)<|Ra z<|Wl (λ_ q=>⟨(),(som<|ifF hmm hcc).symm,⟨q.k<|s5 z z z z z,bup s2 s6⟩⟩)
 .rintro _ _ _ ⟨W,sd⟩;refine Wu ?_ W;refine Wq<|Wm z<|Rf z b_j z<|R z (l0 K_ z<|((h5.e h1).e sd).at z)<|R z (lnR k_ z<|I.g<|((G.ag B).e h1).e sd)<|Rl z z z<|Wx z (λhc=>(P_ hc).elim) (λ_=>?_)
  exact We<|λ_ q=>⟨rfl,⟨q.k<|s3 z z z,sd⟩⟩
 .rintro _ a2 _ rfl ⟨_,s7⟩;have Y:=elL hmg;revert a2;refine Wo<|Wq (Wd (X:=(· ∈ [J.z])) 0 (pl_ 9 [6]) mo (by kernel_rfl) λae s8 _=>dR z z (bP (parts:=[]) (cs:=[vI 0,sN,sN]) a_6 z z)<|dM z z z<|dR z z (fd b_j z)<|dR z z (l1 K_ z (djs<|mmr h5.lt)<|(((h5.e h1).e s7).e s8).at z)<|dR z z (lnR k_ z<|I.g<|(((G.ag B).e h1).e s7).e s8)<|dR z z (add_ z z)<|dE0 z (fs0 (cur':=[vI 0,sN,sN]) m_ z z ((L.e s7).e s8) z z z z) (.inr λ_ _ h=>chgIn (List.mem_singleton.2 z) h.2) ?_)
  rintro _ _ ⟨a3,a4⟩;refine dQ z z z<|dQ z z z<|pD<|Wo ?_
  obtain rfl:=som Y;exact Wr<|x_ hr (q_ C_ m_ z a3 z) z z ⟨bM (bup (bup (bup G h1) s7) s8) a4.one<|m1 G.s,none,0,0,[],none,0,0,[],z,ii z,onL,onL,iA _ _,ii z,nd0,al0⟩
 rintro _ _ _ _ rfl ⟨rfl,a0⟩;have a1:=elR hmg;obtain rfl:=som a1;exact ⟨a0,z⟩
theorem W_w17 {x1:Bt}{x2:Int}{x3:Int}{res:Val×Int×Int}(hm:g_S x1 x2 x3=some res)(a0:B<=w0.z)(L:repS w0 B (sl A0 N0 C0) x1)(W:inI x2)(Y:inI x3):h_ prog 117 [sl A0 N0 C0,vI x2,vI x3] w0 (Q17 w0 B res):=by
 unfold g_S at hm
 refine goG func117 z z z λfn hr=>Ws<|E z (fa a_q) ?_
 rintro _ we ⟨rfl,O⟩;have h:=O.below;have h2:Blk we w0.z [vI 0,sN,sN]:=O.blk;refine Ra z<|Rw z<|Wq<|Wm z<|R z (lnR k_ z<|L.e h)<|Rm z<|R z (sb_ z z)<|Rm z<|Rl z z z<|Wx z (λG=>?_) (λG=>?_)
 .refine Ws<|R z (bP (parts:=[]) (cs:=[vI 0,sN,sN]) a_6 z z)<|Rm z<|E0 (fs0 (cur':=[vI 0,sN,sN]) m_ z z h2 z z z z) ?_
  rintro _ _ ⟨hf,sg⟩;refine Ra z<|Rw z ?_
  obtain rfl:=som<|ifT hm G;exact Wr<|x_ hr (q_ C_ m_ z hf z) z z ⟨bM h sg.one<|e_ lr,none,0,0,[],none,0,0,[],z,ii z,onL,onL,W,ii z,nd0,al0⟩
 refine Wk<|Ws<|E z (f0 (α:=UInt8) M_) ?_
 rintro _ _ ⟨_,_,_,rfl,s1,hh⟩;refine RM z z<|RM z z<|R z (add_ z z) ?_
 obtain ⟨_,ei,hmj⟩:=bdS<|ifF hm G;refine RX z (rX k_ z_5 z z (L.g<|(h.ag B).e s1) z z ei) ?_;rintro _ ⟨_,_,_,rfl,hk⟩;obtain ⟨_,el,hmm⟩:=bdS hmj;refine E z (fN (α:=UInt8) M_ el z z hh Z_ hk) ?_;rintro _ _ ⟨V,H,I,J,rfl,s9,hn,ho,ha⟩;refine R z (bP (parts:=[(1,.tmp 24)]) (cs:=[vI 0,sl H I J,sN]) a_6 z z)<|RM z z<|R z (add_ z z) ?_
 have hb:=mmr h2.lt;refine E0 (fs0 (cur':=[vI 0,sl H I J,sN]) m_ z z ((h2.e s1).c s9<|djs hb) z z z z) ?_;rintro _ _ ⟨hp,sq⟩;have hc:=sq.one;refine Ra z<|Rw z ?_
 obtain rfl:=som hmm;have hd:=m1 h.s;exact Wr<|x_ hr (q_ C_ m_ z hp z) z z ⟨bM (bM (bup h s1) s9 hd) hc<|e_ lr,H,I,J,V,none,0,0,[],z,ii z,hn.c hc (or1 ha hb (a_P (e_ h2.lt) s1.s):∀k∈V,k∉[w0.z]),onL,iA _ _,ii z,na_ ho G_<|nmN _,aa_ (b_2 ha hd<|lt_ h.s s1.s) an_⟩
def Q18 (w0:World)(B:Zone)(r:Bt×Int×Bool)(v:Value)(w':World):Prop:=Bw w0 w'/\un3 (λJ h L=>∃G H I S1,v = .tuple #[sl G H I,vI h,vB L]/\a_ w' S1 (sl G H I) J/\inI h/\S1.Nodup/\(∀k∈S1,w0.z<=k)) r
theorem W_w37 {x1:Bt}{x2:Int}{x3:UInt8}{res:Bt×Int×Bool}(hm:i_j n x1 x2 x3=some res)(V:B<=w0.z)(L:repS w0 B (sl A0 N0 C0) x1)(O:inI x2):h_ prog 118 [sl A0 N0 C0,vI x2,vU<|byteI x3] w0 (Q18 w0 B res):=by
 unfold i_j at hm
 refine goG func118 z z z λfn hr=>Ws<|RA z z<|Rw z<|Ws<|E z (f0 (α:=UInt8) M_) ?_
 rintro _ h ⟨ak,al,am,rfl,s9,an⟩;refine Rw z<|Wq<|Wm z<|Rw z ?_
 obtain ⟨_,a6,hmr⟩:=bdS hm;refine a_X (σ:=Bt×Int) (ρ:=Bt×Int×Bool) (λs a w=>un2 (λxb x5=>∃a2 H I G,Sat 54 [(0,sl A0 N0 C0),(1,vI x2),(2,vU<|byteI x3),(9,sl a2 H I),(10,vI x5)] a/\Cg [w0.z] h w/\a_ w G (sl a2 H I) xb/\G.Nodup/\(∀k∈G,k∈[w0.z]∨h.z<=k)/\inI x5) s) (λs a w=>un2 (λxb x5=>∃a2 H I G,Sat 54 [(1,vI x2)] a/\Cg [w0.z] h w/\a_ w G (sl a2 H I) xb/\G.Nodup/\(∀k∈G,k∈[w0.z]∨h.z<=k)/\inI x5) s) (rQ prog fn<|Q18 w0 B) a6 ?_ ?_ ?_ ?_
 .exact λ_ q=>⟨ak,al,am,[w0.z],q.k<|s5 z z z z z,cr [w0.z] h,an,Z_,io sr,O⟩
 .rintro ⟨xb,x5⟩ _ wc _ ⟨a2,H,I,G,a7,s8,hd,he,hf,hi⟩ a8;refine Wu ?_ a7;refine Wq<|Wq ?_
  obtain ⟨ao,a9,hms⟩:=bdS<|a_7 a8;refine Wt (λa w=>∃(xj:Bool),xj=ao/\Sat 54 [(0,sl A0 N0 C0),(1,vI x2),(2,vU<|byteI x3),(9,sl a2 H I),(10,vI x5),(22,vB xj)] a/\Below wc.z wc w) ?_ ?_
  .refine Wg<|RM z z ?_
   have hu:=(s9.ag B).c s8<|g_ (or0 (e_ lr) (n_ V):∀k∈[w0.z],¬B k)
   have hv:=L.g hu;refine R z (lnR k_ z hv) ?_;obtain ⟨ap,aq,hmw⟩:=bdS a9;refine E z (fc call51 z<|b_a aq (zt' V<|lt_ s9.s s8.s) O (ii z)<|b_Y<|repS.len hv) ?_;rintro _ _ ⟨sk,rfl⟩;refine Rm z ?_
   rcases bs ap with J | J
   .exact Rh z J (mv z)<|Rh z J (mv z)<|Rh z J (lnR k_ z<|L.g<|hu.e sk)<|Rh z J (lss z z)<|R z (pT z J z)<|Wl (λ_ q=>⟨decide<|x5<(x1.length:Int),som<|ifT hmw J,q.k<|s6 z z z z z z,sk⟩)
   iterate 4 refine Nh z J ?_
   exact R z (pF z J z)<|Wl (λ_ q=>⟨false,som<|ifF hmw J,q.k<|s6 z z z z z z,sk⟩)
  rintro ar wa ⟨xj,rfl,_,s7⟩;revert ar;refine Wo<|Wc z (λhcl=>?_) (λhcl=>?_)
  .refine Wk<|Wq<|Wb<|Wq<|Wm z<|Rm z ?_
   obtain ⟨_,au,hmx⟩:=bdS<|ifT hms hcl;have hy:=((s9.ag B).c s8<|g_ (or0 (e_ lr) (n_ V):∀k∈[w0.z],¬B k)).e s7;have hn:=L.g hy;refine RX z (at_ (α:=UInt8) k_ z_5 z z z hn au) ?_;rintro _ ⟨_,_,_,rfl,av,aw,_⟩;obtain rfl:=u8 aw;refine R z (l0 g_5 z<|av.at0 z)<|Rm z<|Rq z z z<|Wx z (λhcm=>?_) (λhcm=>?_)
   .refine Wm z<|Rm z<|R z (add_ z z)<|RA z z<|Rw z ?_
    exact Wr<|rtO<|qL (som<|ifT hmx hcm).symm<|x_ hr z z z ⟨bup (bM s9 s8<|e_ lr) s7,a2,H,I,G,z,hd.e s7,iA _ _,he,(or1 hf (e_ lr) (a_W s9.s):∀k∈G,w0.z<=k)⟩
   refine Wk<|Wq<|Wm z<|Rm z ?_
   obtain ⟨_,ax,aa⟩:=bdS<|ifF hmx hcm;refine RX z (at_ (α:=UInt8) k_ z_5 z z z hn ax) ?_;rintro _ ⟨_,_,_,rfl,ay,az,_⟩;obtain rfl:=u8 az;refine R z (l0 g_5 z<|ay.at0 z)<|Rq z z z<|Wn ?_
   obtain ⟨aA,huz,W⟩:=bdS aa;refine Wt (λa w=>∃(xg:Int),Sum.inl xg=aA/\Sat 54 [(0,sl A0 N0 C0),(1,vI x2),(2,vU<|byteI x3),(9,sl a2 H I),(10,vI xg)] a/\Below wa.z wa w/\inI xg) ?_ ?_
   .refine Wc z (λhco=>?_)<|λhco=>?_
    .have Y:=ifT huz hco;refine Wm z<|R z (add_ z z)<|Rw z<|Wm z<|Rm z<|R z (lnR k_ z hn)<|Rq z z z<|Wx z (λhcp=>?_) (λhcp=>?_)
     .obtain rfl:=som<|ifT Y hcp;have ab:=elR W;exact We<|exO z (λ_ q=>a_Q (som ab).symm ⟨a2,H,I,G,q.k<|s1 z,(i_ (cM (cr [w0.z] h) s8 (io sr):Cg [w0.z] h wc) s7:Cg [w0.z] h wa),hd.e s7,he,(or1 hf (io sr) (j_ lr):∀k∈G,k∈[w0.z]∨h.z<=k),iA _ _⟩)
     exact a_j<|λ_ q=>⟨b_ x5 1,som<|ifF Y hcp,q.k<|s5 z z z z z,br wa,iA _ _⟩
    exact a_j<|λ_ q=>⟨x5,som<|ifF huz hco,q.k<|s5 z z z z z,br wa,hi⟩
   rintro aB a0 ⟨xg,rfl,_,sh,_⟩;have ad:=elL W;revert aB;refine Wo<|Wg<|RM z z<|Rm z ?_
   obtain ⟨aC,aD,ae⟩:=bdS ad;refine RX z (at_ (α:=UInt8) k_ z_5 z z z (L.g<|hy.e sh) aD) ?_;rintro _ ⟨_,_,_,rfl,aE,aF,_⟩;obtain rfl:=u8 aF;refine R z (l0 g_5 z<|aE.at0 z)<|E z (fS [(.tmp 49)] M_ z z z (a_v z) (lb z)<|lb z) ?_
   rintro _ a1 ⟨rfl,hq⟩;have ht:=hq.below;have aX:=b_D hq b_b;obtain ⟨aG,aH,af⟩:=bdS ae;refine E z (b_l (α:=UInt8) M_ aH z z (((hd.e s7).e sh).e ht) he (hq.blk:Blk a1 a0.z [vU (byteI aC)]) b_b an_ G_) ?_;rintro _ aI ⟨a3,aJ,aK,aL,rfl,aM,aN,aO,aP⟩;refine Rw z<|Wg<|Rm z<|R z (add_ z z)<|Ra z<|Wl ?_
   have a4:∀k∈G,k∈[w0.z]∨h.z<=k:=or1 hf (io sr)<|j_ lr;exact λ_ q=>⟨(aG,b_ xg 1),(som af).symm,⟨aJ,aK,aL,a3,q.k<|s5 z z z z z,(cM (i_ (i_ (i_ (cM (cr [w0.z] h) s8 (io sr):Cg [w0.z] h wc) s7:Cg [w0.z] h wa) sh:Cg [w0.z] h a0) ht:Cg [w0.z] h a1) aM a4:Cg [w0.z] h aI),aN,aO,(or2 aP a4 an_ (j_<|lt_ (lt_ (lt_ s8.s s7.s) sh.s) ht.s):∀k∈a3,k∈[w0.z]∨h.z<=k),iA _ _⟩⟩
  exact We<|λ_ q=>a_Q (som<|ifF hms hcl).symm ⟨a2,H,I,G,q.k<|s1 z,(i_ (cM (cr [w0.z] h) s8 (io sr):Cg [w0.z] h wc) s7:Cg [w0.z] h wa),hd.e s7,he,(or1 hf (io sr) (j_ lr):∀k∈G,k∈[w0.z]∨h.z<=k),hi⟩
 .rintro ⟨xb,x5⟩ aQ aR rfl ⟨a2,H,I,G,_,a5,hd,he,hf,hi⟩;have ah:=elL hmr;revert aQ;refine Wo<|Ws<|E z (f0 (α:=UInt8) M_) ?_
  rintro _ _ ⟨aS,aT,aU,rfl,aV,aW⟩;refine Rm z<|RA z z<|Rw z ?_
  obtain rfl:=som<|a_7 ah;exact Wr<|x_ hr z z z ⟨bup (bM s9 a5<|e_ lr) aV,aS,aT,aU,[aR.z],z,aW,O,Z_,m1<|lt_ s9.s a5.s⟩
 rintro _ _ _ _ rfl ⟨rfl,ai⟩;have aj:=elR hmr;obtain rfl:=som aj;exact ⟨ai,z⟩
theorem j_W {x1:d_}{x2:Int}{x3:Int}{res:Int}(hm:d_D x1 x2 x3=some res)(aP:B<=w0.z)(aI:x1.name.b.length<=LEN)(aJ:inI x1.kind)(aK:inI x1.size)(aL:repS w0 B (sl A9 N9 C9) x1.bytes)(aM:repS w0 B (sl A8 N8 C8) x1.names)(H:repS w0 B (sl AA NA CA) x1.tags)(I:repS w0 B (sl AB NB CB) x1.kids)(aN:inI x2)(aO:inI x3):h_ prog 85 [(.agg #[Str.v x1.name,vI x1.kind,vI x1.size,vB x1.little,sl A9 N9 C9,sl A8 N8 C8,sl AA NA CA,sl AB NB CB]),vI x2,vI x3] w0 (Q0 w0 B res):=by
 unfold d_D at hm
 refine goG func85 z z z λfn hr=>Ws<|E z (fb z) ?_
 rintro _ h ⟨rfl,hi⟩;have G:=hi.below;have h2:Blk h w0.z (vR x1 A9 N9 C9 A8 N8 C8 AA NA CA AB NB CB):=hi.blk;refine Rw z<|Wq<|Ws<|Rf z a_O z<|R z (l0 g_3 z<|h2.at z)<|Wn<|Wb<|Ws<|Rq z z z<|Rw z<|Wc z (λL=>?_) (λL=>?_)
 .refine Ws<|Rf z a_1 z<|R z (l0 H_ z<|h2.at z) ?_
  obtain ⟨_,eu,hmv⟩:=bdS<|ifT hm L;refine RX z (at_ (α:=Int) y_ z_3 z z z (I.e G) eu) ?_;rintro _ ⟨_,_,_,rfl,hw,hx,_⟩;obtain ⟨rfl,hy⟩:=V_ hx;refine R z (l0 g_3 z<|hw.at0 z)<|Rw z ?_
  obtain rfl:=som hmv;exact Wr<|rtO<|c_ hr z ⟨G,z,hy⟩
 refine Ws<|Rq z z z<|Rw z ?_
 obtain ⟨uz,huj,J⟩:=bdS<|ifF hm L;refine Wt (λa w=>Sum.inl ()=uz/\Sat 57 [] a/\Below h.z h w) ?_ ?_
 .refine Wc z (λO=>?_)<|λO=>?_
  .have hmk:=ifT huj O;refine Wm z<|Rf z a_1 z<|R z (l0 H_ z<|h2.at z) ?_
   have hl:=I.e G;refine R z (lnR y_ z hl)<|Rl z z z<|Wx z (λV=>?_) (λV=>?_)
   .refine Ws<|Rf z a_1 z<|R z (l0 H_ z<|h2.at z)<|Rm z ?_
    obtain ⟨_,ai,Y⟩:=bdS<|ifT hmk V;refine RX z (at_ (α:=Int) y_ z_3 z z z hl ai) ?_;rintro _ ⟨_,_,_,rfl,aj,ak,_⟩;obtain ⟨rfl,al⟩:=V_ ak;refine R z (l0 g_3 z<|aj.at0 z)<|Rw z ?_
    obtain rfl:=som Y;have a0:=elR J;obtain rfl:=som a0;exact Wr<|rtO<|c_ hr z ⟨G,z,al⟩
   exact a_j<|λ_ q=>⟨som<|ifF hmk V,q.k sn,br h⟩
  refine Ws<|Rq z z z<|Rw z ?_
  obtain ⟨am,hum,W⟩:=bdS<|ifF huj O;refine Wt (λa w=>Sum.inl ()=am/\Sat 57 [] a/\Below h.z h w) ?_ ?_
  .refine Wc z (λhca=>?_)<|λhca=>?_
   .refine Ws<|Rw z ?_
    obtain ⟨_,a1,hmn⟩:=bdS<|ifT hum hca;refine Wf (σ:=Unit) (ρ:=Int) (λ(ko:Nat)(_:Unit) a w=>Sat 57 [(1,vI x2),(3,pt w0.z),(7,vI ((ko:Nat):Int))] a/\Below h.z h w) (λ(_:Unit) a w=>Sat 57 [] a/\Below h.z h w) (rQ prog fn<|Q0 w0 B) a1 ?_ ?_ ?_ ?_ ?_
    .exact λ_ q=>⟨q.k<|s3 z z z,br h⟩
    .rintro ko _ _ _ _ hkb ⟨a2,s4⟩ a3;refine Wu ?_ a2;refine Wq<|Wm z<|Rf z b_k z ?_
     have hd:=h2.e s4;refine R z (l0 H_ z<|hd.at z) ?_;have hp:=(G.ag B).e s4;have hq:=H.g hp;refine R z (lnR y_ z hq)<|Rl z z z<|Wx z (λ_=>?_) (λhc=>(O_ hkb hc).elim)
     refine Wk<|Wq<|Wb<|Ws<|Rf z b_k z<|R z (l0 H_ z<|hd.at z)<|Rm z ?_
     obtain ⟨_,an,hmr⟩:=bdS a3;refine RX z (at_ (α:=Int) y_ z_3 z z z hq an) ?_;rintro _ ⟨_,_,_,rfl,ao,ap,_⟩;obtain ⟨rfl,_⟩:=V_ ap;refine R z (l0 g_3 z<|ao.at0 z)<|Rm z<|Rq z z z<|Wx z (λhcc=>?_) (λhcc=>?_)
     .refine Ws<|Rf z a_1 z<|R z (l0 H_ z<|hd.at z)<|Rm z<|R z (inc_ hkb (lt_ (repS.len H) z_) z z) ?_
      obtain ⟨_,aq,a4⟩:=bdS<|ifT hmr hcc;refine RX z (at_ (α:=Int) y_ z_3 z z z (I.g hp) aq) ?_;rintro _ ⟨_,_,_,rfl,ar,au,_⟩;obtain ⟨rfl,av⟩:=V_ au;exact R z (l0 g_3 z<|ar.at0 z)<|Rw z<|Wr<|rtO<|qL (som a4).symm<|c_ hr z ⟨bup G s4,z,av⟩
     exact Wk<|Wg<|Rm z<|R z (inc_ hkb (lt_ (repS.len H) z_) z z)<|Ra z<|Wl (λ_ q=>⟨(),(som<|ifF hmr hcc).symm,⟨q.k<|s3 z z z,s4⟩⟩)
    .rintro _ _ _ ⟨a5,se⟩;refine Wu ?_ a5;refine Wq<|Wm z<|Rf z b_k z<|R z (l0 H_ z<|(h2.e se).at z)<|R z (lnR y_ z<|H.g<|(G.ag B).e se)<|Rl z z z<|Wx z (λhc=>(P_ hc).elim) (λ_=>?_)
     exact We<|λ_ q=>⟨rfl,⟨q.k sn,se⟩⟩
    .rintro _ aw _ rfl ⟨_,ax⟩;have a6:=elL hmn;revert aw;exact λ_ q=>⟨som a6,q.k sn,ax⟩
    rintro _ _ _ _ rfl ⟨rfl,a7⟩;have a8:=elR hmn;obtain rfl:=som a8;have a9:=elR W;obtain rfl:=som a9;have aa:=elR J;obtain rfl:=som aa;exact ⟨a7,z⟩
   refine Wq<|Ws<|Rq z z z<|Rw z ?_
   obtain ⟨ay,hus,hmt⟩:=bdS<|ifF hum hca;refine Wt (λa w=>∃(xf:Bool),xf=ay/\Sat 57 [(3,pt w0.z),(50,vB xf)] a/\Below h.z h w) ?_ ?_
   .refine Wc z (λhcg=>?_)<|λhcg=>?_
    .exact a_j<|λ_ q=>⟨x1.kind==8,som<|ifT hus hcg,q.k<|s2 z z,br h⟩
    exact Wg<|Rq z z z<|Ra z<|Wl (λ_ q=>⟨x1.kind==9,som<|ifF hus hcg,q.k<|s2 z z,br h⟩)
   rintro az _ ⟨xf,rfl,_,s5⟩;revert az;refine Wo<|Wc z (λhch=>?_) (λhch=>?_)
   .refine Ws<|Rf z a_1 z<|R z (l0 H_ z<|(h2.e s5).at z) ?_
    obtain ⟨_,aA,ab⟩:=bdS<|ifT hmt hch;refine RX z (at_ (α:=Int) y_ z_3 z z z (I.g<|(G.ag B).e s5) aA) ?_;rintro _ ⟨_,_,_,rfl,aB,aC,_⟩;obtain ⟨rfl,aD⟩:=V_ aC;refine R z (l0 g_3 z<|aB.at0 z)<|Rw z ?_
    obtain rfl:=som ab;have ad:=elR W;obtain rfl:=som ad;have ae:=elR J;obtain rfl:=som ae;exact Wr<|rtO<|c_ hr z ⟨bup G s5,z,aD⟩
   exact a_j<|λ_ q=>⟨som<|ifF hmt hch,q.k sn,s5⟩
  rintro aE _ ⟨rfl,_,aF⟩;have af:=elL W;revert aE;exact λ_ q=>⟨som af,q.k sn,aF⟩
 rintro aG _ ⟨rfl,_,aH⟩;have ah:=elL J;revert aG;refine Wo<|Ws<|Rw z ?_
 obtain rfl:=som ah;exact Wr<|c_ hr z ⟨bup G aH,z,ii z⟩
structure l_Q (f:f_->Int->Bt->Int->Option (Val×Int×Int)):Prop where
  run:∀{A0 A7:Option Addr}{N0 C0 N7 C7:Nat}{B:Zone}{x1:f_}{x2:Int}{x3:Bt}{x4:Int}{res:Val×Int×Int}{w0:World}(hm:f x1 x2 x3 x4=some res)(hBw:B<=w0.z)(p1_0:repS w0 B (sl A0 N0 C0) x1.rules)(p2_0:inI x2)(p3_0:repS w0 B (sl A7 N7 C7) x3)(p4_0:inI x4),h_ prog 83 [(.agg #[sl A0 N0 C0]),vI x2,sl A7 N7 C7,vI x4] w0<|Q17 w0 B res
structure l_R (f:f_->d_->Int->Int->Bt->Int->Option (Val×Int×Int)):Prop where
  run:∀{A0 A3 A5 A2 A6 AF:Option Addr}{N0 C0 N3 C3 N5 C5 N2 C2 N6 C6 NF CF:Nat}{B:Zone}{x1:f_}{x2:d_}{x3:Int}{x4:Int}{x5:Bt}{x6:Int}{res:Val×Int×Int}{w0:World}(hm:f x1 x2 x3 x4 x5 x6=some res)(hBw:B<=w0.z)(p1_0:repS w0 B (sl A0 N0 C0) x1.rules)(p2_0:x2.name.b.length<=LEN)(p2_1:inI x2.kind)(p2_2:inI x2.size)(p2_4:repS w0 B (sl A3 N3 C3) x2.bytes)(p2_5:repS w0 B (sl A5 N5 C5) x2.names)(p2_6:repS w0 B (sl A2 N2 C2) x2.tags)(p2_7:repS w0 B (sl A6 N6 C6) x2.kids)(p3_0:inI x3)(p4_0:inI x4)(p5_0:repS w0 B (sl AF NF CF) x5)(p6_0:inI x6),h_ prog 119 [(.agg #[sl A0 N0 C0]),.agg #[Str.v x2.name,vI x2.kind,vI x2.size,vB x2.little,sl A3 N3 C3,sl A5 N5 C5,sl A2 N2 C2,sl A6 N6 C6],vI x3,vI x4,sl AF NF CF,vI x6] w0<|Q17 w0 B res
structure l_S (f:f_->d_->Bt->Int->Option (Val×Int×Int)):Prop where
  run:∀{A0 A3 A5 A2 A6 A7:Option Addr}{N0 C0 N3 C3 N5 C5 N2 C2 N6 C6 N7 C7:Nat}{B:Zone}{x1:f_}{x2:d_}{x3:Bt}{x4:Int}{res:Val×Int×Int}{w0:World}(hm:f x1 x2 x3 x4=some res)(hBw:B<=w0.z)(p1_0:repS w0 B (sl A0 N0 C0) x1.rules)(p2_0:x2.name.b.length<=LEN)(p2_1:inI x2.kind)(p2_2:inI x2.size)(p2_4:repS w0 B (sl A3 N3 C3) x2.bytes)(p2_5:repS w0 B (sl A5 N5 C5) x2.names)(p2_6:repS w0 B (sl A2 N2 C2) x2.tags)(p2_7:repS w0 B (sl A6 N6 C6) x2.kids)(p3_0:repS w0 B (sl A7 N7 C7) x3)(p4_0:inI x4),h_ prog 120 [(.agg #[sl A0 N0 C0]),.agg #[Str.v x2.name,vI x2.kind,vI x2.size,vB x2.little,sl A3 N3 C3,sl A5 N5 C5,sl A2 N2 C2,sl A6 N6 C6],sl A7 N7 C7,vI x4] w0<|Q17 w0 B res
structure l_T (f:f_->d_->Bt->Int->Option (Val×Int×Int)):Prop where
  run:∀{A0 A3 A5 A2 A6 A7:Option Addr}{N0 C0 N3 C3 N5 C5 N2 C2 N6 C6 N7 C7:Nat}{B:Zone}{x1:f_}{x2:d_}{x3:Bt}{x4:Int}{res:Val×Int×Int}{w0:World}(hm:f x1 x2 x3 x4=some res)(hBw:B<=w0.z)(p1_0:repS w0 B (sl A0 N0 C0) x1.rules)(p2_0:x2.name.b.length<=LEN)(p2_1:inI x2.kind)(p2_2:inI x2.size)(p2_4:repS w0 B (sl A3 N3 C3) x2.bytes)(p2_5:repS w0 B (sl A5 N5 C5) x2.names)(p2_6:repS w0 B (sl A2 N2 C2) x2.tags)(p2_7:repS w0 B (sl A6 N6 C6) x2.kids)(p3_0:repS w0 B (sl A7 N7 C7) x3)(p4_0:inI x4),h_ prog 121 [(.agg #[sl A0 N0 C0]),.agg #[Str.v x2.name,vI x2.kind,vI x2.size,vB x2.little,sl A3 N3 C3,sl A5 N5 C5,sl A2 N2 C2,sl A6 N6 C6],sl A7 N7 C7,vI x4] w0<|Q17 w0 B res
structure l_U (f:f_->d_->Bt->Int->Option (Val×Int×Int)):Prop where
  run:∀{A0 A3 A5 A2 A6 A7:Option Addr}{N0 C0 N3 C3 N5 C5 N2 C2 N6 C6 N7 C7:Nat}{B:Zone}{x1:f_}{x2:d_}{x3:Bt}{x4:Int}{res:Val×Int×Int}{w0:World}(hm:f x1 x2 x3 x4=some res)(hBw:B<=w0.z)(p1_0:repS w0 B (sl A0 N0 C0) x1.rules)(p2_0:x2.name.b.length<=LEN)(p2_1:inI x2.kind)(p2_2:inI x2.size)(p2_4:repS w0 B (sl A3 N3 C3) x2.bytes)(p2_5:repS w0 B (sl A5 N5 C5) x2.names)(p2_6:repS w0 B (sl A2 N2 C2) x2.tags)(p2_7:repS w0 B (sl A6 N6 C6) x2.kids)(p3_0:repS w0 B (sl A7 N7 C7) x3)(p4_0:inI x4),h_ prog 122 [(.agg #[sl A0 N0 C0]),.agg #[Str.v x2.name,vI x2.kind,vI x2.size,vB x2.little,sl A3 N3 C3,sl A5 N5 C5,sl A2 N2 C2,sl A6 N6 C6],sl A7 N7 C7,vI x4] w0<|Q17 w0 B res
abbrev g_8 (n:Nat):Prop:=l_Q (a_r n).spec_l11Read/\l_R (a_r n).spec_l11Items/\l_S (a_r n).spec_l11Choice/\l_T (a_r n).spec_l11Option/\l_U (a_r n).spec_l11Checked
theorem T_w02 (ih:g_8 n):l_Q (i_k n<|a_r n):=by
 obtain ⟨_,bo,db,dc,dd⟩:=ih
 constructor
 intro A0 A7 N0 C0 N7 C7 B x1 x2 x3 x4 res w0 hm H W d0 J I;unfold i_k at hm
 refine goG func83 z z z λfn hr=>Ws<|E z (fb z) ?_
 rintro _ bp ⟨rfl,bq⟩;have h3:=bq.below;have hn:Blk bp w0.z [sl A0 N0 C0]:=bq.blk;refine E z (fa a_q) ?_;rintro _ L ⟨rfl,br⟩;have h4:=br.below;have h2:Blk L bp.z [vI 0,sN,sN]:=br.blk;refine Ra z<|Rw z<|Ws<|Rf z a_s z ?_
 have ho:=hn.e h4;refine R z (l0 a_u z<|ho.at z)<|Rm z ?_
 obtain ⟨xa,de,b9⟩:=bdS hm;have O:=(h3.ag B).e h4;refine RX z (at_ (α:=d_) a_2 t_ z z z (W.g O) de) ?_;rintro _ ⟨_,_,_,rfl,df,dg,_⟩;obtain ⟨ab,nc,cd,ae,nf,cg,ah,ni,cj,ak,nl,cm,rfl,hu,hv,hp,hq,hw,hx,ht⟩:=b_3 dg;refine R z (lN (vs:=vR xa ab nc cd ae nf cg ah ni cj ak nl cm) Q_ t_ z z fid df)<|E z (fa c_q) ?_
 rintro _ dh ⟨rfl,bs⟩;have G:=bs.below;refine E0 (fs0 (cur':=vR xa ab nc cd ae nf cg ah ni cj ak nl cm) t_ z z (bs.blk:Blk dh L.z [(Str.v (⟨[]⟩:Str)),vI 0,vI 0,vB false,sN,sN,sN,sN]) z z z z) ?_;rintro _ _ ⟨V,di⟩;have h1:=di.one;refine Wn<|Wq<|Ws<|Rf z a_O z<|R z (l0 g_3 z<|V.at z)<|Wn<|Wb<|Ws<|Rq z z z<|Rw z<|Wc z (λal=>?_) (λal=>?_)
 .refine Ws<|R z (lN (vs:=[sl A0 N0 C0]) L_ D_ z z fid<|((ho.e G).c h1<|djs<|mm1 hn.lt h4.s).row 0 1 z)<|RM z z<|Rm z ?_
  have hz:=lt_ h3.s h4.s;have bt:=(O.e G).c h1<|g_ (or0 (e_ lr) (n_<|zt' H hz):∀k∈[L.z],¬B k)
  obtain ⟨bu,_,_,dj,ba⟩:=U_<|ifT b9 al;refine E z (fc call84 z<|j_V dj (zt' H<|lt_ (lt_ hz G.s) h1.s) (W.g bt) d0 (J.g bt) I) ?_;rintro _ _ ⟨sr,rfl,dk,dl⟩;refine Rm z ?_
  iterate 3 refine Re z z z ?_
  refine RA z z<|Rw z<|Wq<|Wm z<|R z (not_ z)<|Wx z (λam=>?_) (λam=>?_)
  .refine Ws<|R z (bP (parts:=[]) (cs:=[vI 0,sN,sN]) a_6 z z)<|Rm z<|E0 (fs0 (cur':=[vI 0,sN,sN]) m_ z z (((h2.e G).c h1<|djs<|mmr h2.lt).e sr) z z z z) ?_
   rintro _ _ ⟨dm,dn⟩;refine Ra z<|Rw z ?_
   obtain rfl:=som<|ifT ba am;exact Wr<|rtO<|x_ hr (q_ C_ m_ z dm z) z z ⟨bM (bup (bM (bup (bup h3 h4) G) h1<|m1 hz) sr) dn.one<|m1 h3.s,none,0,0,[],none,0,0,[],z,ii z,onL,onL,I,ii z,nd0,al0⟩
  refine Wk<|Wm z<|R z (bP (parts:=[(0,.tmp 43)]) (cs:=[vI bu,sN,sN]) a_6 z z)<|Rm z<|E0 (fs0 (cur':=[vI bu,sN,sN]) m_ z z (((h2.e G).c h1<|djs<|mmr h2.lt).e sr) z z z z) ?_
  rintro _ _ ⟨dp,dq⟩;refine Ra z<|Rw z ?_
  obtain rfl:=som<|ifF ba am;exact Wr<|rtO<|x_ hr (q_ C_ m_ z dp z) z z ⟨bM (bup (bM (bup (bup h3 h4) G) h1<|m1 hz) sr) dq.one<|m1 h3.s,none,0,0,[],none,0,0,[],z,dk,onL,onL,dl,ii z,nd0,al0⟩
 have bb:=ifF b9 al;refine Ws<|Rq z z z<|Rw z<|Wc z (λan=>?_) (λan=>?_)
 .refine Ws<|R z (lN (vs:=vR xa ab nc cd ae nf cg ah ni cj ak nl cm) Q_ t_ z z fid<|V.row 0 8 z)<|RM z z ?_
  have aA:=lt_ h3.s h4.s;have bv:∀k∈[L.z],¬B k:=or0 (e_ lr)<|n_<|zt' H aA;have Y:=(G.ag B).c h1<|g_ bv
  have aB:=lt_ (lt_ aA G.s) h1.s;obtain ⟨dr,_,_,ds,d1⟩:=U_<|ifT bb an;refine E z (fc call116 z<|W_w36 ds (zt' H aB) hu hv hp (hq.g Y) (hw.g Y) (hx.g Y) (ht.g Y) (J.g<|(O.e G).c h1<|g_ bv) I) ?_;rintro _ _ ⟨bw,bx,bz,bA,dt,bB,bC,bD,du,rfl,dv,dw,dx,dy,dz,aC,a0⟩
  iterate 3 refine Re z z z ?_
  refine E0 (fs0 (cur':=[vI dr.number,sl bx bz bA,sl bB bC bD]) m_ z z (((h2.e G).c h1<|djs<|mmr h2.lt).e bw) z z z z) ?_;rintro _ _ ⟨dA,dB⟩;have aD:=dB.one;refine Ra z<|Rw z ?_
  obtain rfl:=som d1;have bE:=lt_ G.s h1.s;exact Wr<|rtO<|x_ hr (q_ C_ m_ z dA z) z z ⟨bM (bup (bM (bup (bup h3 h4) G) h1<|m1 aA) bw) aD<|m1 h3.s,bx,bz,bA,dt,bB,bC,bD,du,z,dv,dw.c aD<|s_ (al_ a0) h2.lt bE,dx.c aD<|s_ (ar_ a0) h2.lt bE,dy,dz,na_ (nl_ aC) (nr_ aC)<|nj aC,aa_ (o_ (al_ a0) aB)<|o_ (ar_ a0) aB⟩
 have bc:=ifF bb an;refine Ws<|Rq z z z<|Rw z<|Wc z (λao=>?_) (λao=>?_)
 .refine Wm z<|Rm z<|Rf z b_1 z<|R z (l0 g_3 z<|V.at z) ?_
  have aE:=lt_ h3.s h4.s;have aF:=lt_ (lt_ aE G.s) h1.s;obtain ⟨dC,_,_,dD,d2⟩:=U_<|ifT bc ao;refine E z (fc call117 z<|W_w17 dD (zt' H aF) (J.g<|(O.e G).c h1<|g_ (or0 (e_ lr) (n_<|zt' H aE):∀k∈[L.z],¬B k)) I hp) ?_;rintro _ _ ⟨bF,bG,bH,bI,dF,bJ,bK,bL,dG,rfl,dH,dI,dJ,dK,dL,aG,a1⟩
  iterate 3 refine Re z z z ?_
  refine E0 (fs0 (cur':=[vI dC.number,sl bG bH bI,sl bJ bK bL]) m_ z z (((h2.e G).c h1<|djs<|mmr h2.lt).e bF) z z z z) ?_;rintro _ _ ⟨dN,dO⟩;have aH:=dO.one;refine Ra z<|Rw z ?_
  obtain rfl:=som d2;have bN:=lt_ G.s h1.s;exact Wr<|rtO<|x_ hr (q_ C_ m_ z dN z) z z ⟨bM (bup (bM (bup (bup h3 h4) G) h1<|m1 aE) bF) aH<|m1 h3.s,bG,bH,bI,dF,bJ,bK,bL,dG,z,dH,dI.c aH<|s_ (al_ a1) h2.lt bN,dJ.c aH<|s_ (ar_ a1) h2.lt bN,dK,dL,na_ (nl_ aG) (nr_ aG)<|nj aG,aa_ (o_ (al_ a1) aF)<|o_ (ar_ a1) aF⟩
 have be:=ifF bc ao;refine Ws<|Rq z z z<|Rw z<|Wc z (λap=>?_) (λap=>?_)
 .refine Wm z<|Rm z<|Rf z b_j z<|R z (l0 K_ z<|V.at z) ?_
  obtain ⟨_,dP,d3⟩:=bdS<|ifT be ap;have a2:=lt_ h3.s h4.s;have bO:∀k∈[L.z],¬B k:=or0 (e_ lr)<|n_<|zt' H a2;refine RX z (at_ (α:=UInt8) k_ z_5 z z z (hq.g<|(G.ag B).c h1<|g_ bO) dP) ?_;rintro _ ⟨_,_,_,rfl,dS,dT,_⟩;obtain rfl:=u8 dT;refine R z (l0 g_5 z<|dS.at0 z) ?_;have bQ:=lt_ (lt_ a2 G.s) h1.s;obtain ⟨_,_,_,dU,bf⟩:=U_ d3;refine E z (fc call118 z<|W_w37 dU (zt' H bQ) (J.g<|(O.e G).c h1<|g_ bO) I) ?_;rintro _ _ ⟨ss,aI,aJ,aK,dV,rfl,dW,dX,dY,bR⟩;refine Rm z ?_
  iterate 3 refine Re z z z ?_
  refine RA z z<|Rw z<|Wq<|Wm z<|R z (not_ z)<|Wx z (λaq=>?_) (λaq=>?_)
  .refine Ws<|R z (bP (parts:=[]) (cs:=[vI 0,sN,sN]) a_6 z z)<|Rm z<|E0 (fs0 (cur':=[vI 0,sN,sN]) m_ z z (((h2.e G).c h1<|djs<|mmr h2.lt).e ss) z z z z) ?_
   rintro _ _ ⟨dZ,e0⟩;refine Ra z<|Rw z ?_
   obtain rfl:=som<|ifT bf aq;exact Wr<|rtO<|x_ hr (q_ C_ m_ z dZ z) z z ⟨bM (bup (bM (bup (bup h3 h4) G) h1<|m1 a2) ss) e0.one<|m1 h3.s,none,0,0,[],none,0,0,[],z,ii z,onL,onL,I,ii z,nd0,al0⟩
  refine Wk<|Wm z<|R z (bP (parts:=[(1,.tmp 82)]) (cs:=[vI 0,sl aI aJ aK,sN]) a_6 z z)<|Rm z<|E0 (fs0 (cur':=[vI 0,sl aI aJ aK,sN]) m_ z z (((h2.e G).c h1<|djs<|mmr h2.lt).e ss) z z z z) ?_
  rintro _ _ ⟨e1,e2⟩;have bS:=e2.one;refine Ra z<|Rw z ?_
  obtain rfl:=som<|ifF bf aq;exact Wr<|rtO<|x_ hr (q_ C_ m_ z e1 z) z z ⟨bM (bup (bM (bup (bup h3 h4) G) h1<|m1 a2) ss) bS<|m1 h3.s,aI,aJ,aK,dV,none,0,0,[],z,ii z,dW.c bS<|s_ bR h2.lt<|lt_ G.s h1.s,onL,dX,ii z,na_ dY G_<|nmN _,aa_ (o_ bR bQ) an_⟩
 have bg:=ifF be ap;refine Ws<|Rq z z z<|Rw z<|Wc z (λar=>?_) (λar=>?_)
 .refine Ws<|R z (lN (vs:=[sl A0 N0 C0]) L_ D_ z z fid<|((ho.e G).c h1<|djs<|mm1 hn.lt h4.s).row 0 1 z)<|R z (lN (vs:=vR xa ab nc cd ae nf cg ah ni cj ak nl cm) Q_ t_ z z fid<|V.row 0 8 z)<|Rf z a_1 z<|R z (l0 H_ z<|V.at z) ?_
  have aL:=lt_ h3.s h4.s;have bT:∀k∈[L.z],¬B k:=or0 (e_ lr)<|n_<|zt' H aL;have a3:=(G.ag B).c h1<|g_ bT
  have aM:=ht.g a3;refine R z (lnR y_ z aM)<|RM z z ?_
  have bU:=(O.e G).c h1<|g_ bT
  have aN:=lt_ (lt_ aL G.s) h1.s;obtain ⟨e3,_,_,e4,d4⟩:=U_<|ifT bg ar;refine E z (fc call119 z<|bo.run e4 (zt' H aN) (W.g bU) hu hv hp (hq.g a3) (hw.g a3) (hx.g a3) aM (ii z) (b_Y<|repS.len aM) (J.g bU) I) ?_;rintro _ _ ⟨bV,bW,bX,bY,e5,bZ,c0,c1,e6,rfl,e7,e8,e9,ea,eb,aO,a4⟩
  iterate 3 refine Re z z z ?_
  refine E0 (fs0 (cur':=[vI e3.number,sl bW bX bY,sl bZ c0 c1]) m_ z z (((h2.e G).c h1<|djs<|mmr h2.lt).e bV) z z z z) ?_;rintro _ _ ⟨ec,ed⟩;have aP:=ed.one;refine Ra z<|Rw z ?_
  obtain rfl:=som d4;have c2:=lt_ G.s h1.s;exact Wr<|rtO<|x_ hr (q_ C_ m_ z ec z) z z ⟨bM (bup (bM (bup (bup h3 h4) G) h1<|m1 aL) bV) aP<|m1 h3.s,bW,bX,bY,e5,bZ,c0,c1,e6,z,e7,e8.c aP<|s_ (al_ a4) h2.lt c2,e9.c aP<|s_ (ar_ a4) h2.lt c2,ea,eb,na_ (nl_ aO) (nr_ aO)<|nj aO,aa_ (o_ (al_ a4) aN)<|o_ (ar_ a4) aN⟩
 have bh:=ifF bg ar;refine Ws<|Rq z z z<|Rw z<|Wc z (λau=>?_) (λau=>?_)
 .refine Ws<|R z (lN (vs:=[sl A0 N0 C0]) L_ D_ z z fid<|((ho.e G).c h1<|djs<|mm1 hn.lt h4.s).row 0 1 z)<|R z (lN (vs:=vR xa ab nc cd ae nf cg ah ni cj ak nl cm) Q_ t_ z z fid<|V.row 0 8 z)<|RM z z ?_
  have aQ:=lt_ h3.s h4.s;have c3:∀k∈[L.z],¬B k:=or0 (e_ lr)<|n_<|zt' H aQ;have c4:=(O.e G).c h1<|g_ c3
  have a5:=(G.ag B).c h1<|g_ c3
  have aR:=lt_ (lt_ aQ G.s) h1.s;obtain ⟨ee,_,_,ef,d5⟩:=U_<|ifT bh au;refine E z (fc call120 z<|db.run ef (zt' H aR) (W.g c4) hu hv hp (hq.g a5) (hw.g a5) (hx.g a5) (ht.g a5) (J.g c4) I) ?_;rintro _ _ ⟨c5,c6,c7,c8,eg,c9,ca,cb,eh,rfl,ei,ej,ek,em,en,aS,a6⟩
  iterate 3 refine Re z z z ?_
  refine E0 (fs0 (cur':=[vI ee.number,sl c6 c7 c8,sl c9 ca cb]) m_ z z (((h2.e G).c h1<|djs<|mmr h2.lt).e c5) z z z z) ?_;rintro _ _ ⟨eo,ep⟩;have aT:=ep.one;refine Ra z<|Rw z ?_
  obtain rfl:=som d5;have cc:=lt_ G.s h1.s;exact Wr<|rtO<|x_ hr (q_ C_ m_ z eo z) z z ⟨bM (bup (bM (bup (bup h3 h4) G) h1<|m1 aQ) c5) aT<|m1 h3.s,c6,c7,c8,eg,c9,ca,cb,eh,z,ei,ej.c aT<|s_ (al_ a6) h2.lt cc,ek.c aT<|s_ (ar_ a6) h2.lt cc,em,en,na_ (nl_ aS) (nr_ aS)<|nj aS,aa_ (o_ (al_ a6) aR)<|o_ (ar_ a6) aR⟩
 have bi:=ifF bh au;refine Ws<|Rq z z z<|Rw z<|Wc z (λav=>?_) (λav=>?_)
 .refine Ws<|R z (lN (vs:=[sl A0 N0 C0]) L_ D_ z z fid<|((ho.e G).c h1<|djs<|mm1 hn.lt h4.s).row 0 1 z)<|R z (lN (vs:=vR xa ab nc cd ae nf cg ah ni cj ak nl cm) Q_ t_ z z fid<|V.row 0 8 z)<|RM z z ?_
  have aU:=lt_ h3.s h4.s;have ce:∀k∈[L.z],¬B k:=or0 (e_ lr)<|n_<|zt' H aU;have cf:=(O.e G).c h1<|g_ ce
  have a7:=(G.ag B).c h1<|g_ ce
  have aV:=lt_ (lt_ aU G.s) h1.s;obtain ⟨er,_,_,es,d6⟩:=U_<|ifT bi av;refine E z (fc call121 z<|dc.run es (zt' H aV) (W.g cf) hu hv hp (hq.g a7) (hw.g a7) (hx.g a7) (ht.g a7) (J.g cf) I) ?_;rintro _ _ ⟨ch,ci,ck,cl,eu,cn,co,cp,ew,rfl,ex,ey,ez,eA,eB,aW,a8⟩
  iterate 3 refine Re z z z ?_
  refine E0 (fs0 (cur':=[vI er.number,sl ci ck cl,sl cn co cp]) m_ z z (((h2.e G).c h1<|djs<|mmr h2.lt).e ch) z z z z) ?_;rintro _ _ ⟨eC,eD⟩;have aX:=eD.one;refine Ra z<|Rw z ?_
  obtain rfl:=som d6;have cq:=lt_ G.s h1.s;exact Wr<|rtO<|x_ hr (q_ C_ m_ z eC z) z z ⟨bM (bup (bM (bup (bup h3 h4) G) h1<|m1 aU) ch) aX<|m1 h3.s,ci,ck,cl,eu,cn,co,cp,ew,z,ex,ey.c aX<|s_ (al_ a8) h2.lt cq,ez.c aX<|s_ (ar_ a8) h2.lt cq,eA,eB,na_ (nl_ aW) (nr_ aW)<|nj aW,aa_ (o_ (al_ a8) aV)<|o_ (ar_ a8) aV⟩
 have bj:=ifF bi av;refine Ws<|Rq z z z<|Rw z<|Wc z (λaw=>?_) (λaw=>?_)
 .refine Ws<|R z (lN (vs:=[sl A0 N0 C0]) L_ D_ z z fid<|((ho.e G).c h1<|djs<|mm1 hn.lt h4.s).row 0 1 z)<|R z (lN (vs:=vR xa ab nc cd ae nf cg ah ni cj ak nl cm) Q_ t_ z z fid<|V.row 0 8 z)<|RM z z ?_
  have aY:=lt_ h3.s h4.s;have cr:∀k∈[L.z],¬B k:=or0 (e_ lr)<|n_<|zt' H aY;have ct:=(O.e G).c h1<|g_ cr
  have a9:=(G.ag B).c h1<|g_ cr
  have aZ:=lt_ (lt_ aY G.s) h1.s;obtain ⟨eE,_,_,eF,d7⟩:=U_<|ifT bj aw;refine E z (fc call122 z<|dd.run eF (zt' H aZ) (W.g ct) hu hv hp (hq.g a9) (hw.g a9) (hx.g a9) (ht.g a9) (J.g ct) I) ?_;rintro _ _ ⟨cu,cv,cw,cx,eG,cy,cz,cA,eH,rfl,eI,eJ,eK,eL,eM,b0,aa⟩
  iterate 3 refine Re z z z ?_
  refine E0 (fs0 (cur':=[vI eE.number,sl cv cw cx,sl cy cz cA]) m_ z z (((h2.e G).c h1<|djs<|mmr h2.lt).e cu) z z z z) ?_;rintro _ _ ⟨eN,eO⟩;have b1:=eO.one;refine Ra z<|Rw z ?_
  obtain rfl:=som d7;have cB:=lt_ G.s h1.s;exact Wr<|rtO<|x_ hr (q_ C_ m_ z eN z) z z ⟨bM (bup (bM (bup (bup h3 h4) G) h1<|m1 aY) cu) b1<|m1 h3.s,cv,cw,cx,eG,cy,cz,cA,eH,z,eI,eJ.c b1<|s_ (al_ aa) h2.lt cB,eK.c b1<|s_ (ar_ aa) h2.lt cB,eL,eM,na_ (nl_ b0) (nr_ b0)<|nj b0,aa_ (o_ (al_ aa) aZ)<|o_ (ar_ aa) aZ⟩
 refine Wk<|Wq (Wd (X:=noX) 0 (pl_ 15 [7]) mo (by kernel_rfl) λfp s6 _=>?_)
 have cC:=((ho.e G).c h1<|djs<|mm1 hn.lt h4.s).e s6;refine dR z z (lN (vs:=[sl A0 N0 C0]) L_ D_ z z fid<|cC.row 0 1 z)<|dR z z (fd a_1 z) ?_
 have cD:=V.e s6;refine dR z z (l0 H_ z<|cD.at z) ?_;obtain ⟨_,eP,d8⟩:=bdS<|ifF bj aw;have hy:=lt_ h3.s h4.s;have cE:∀k∈[L.z],¬B k:=or0 (e_ lr)<|n_<|zt' H hy;have cF:=((G.ag B).c h1<|g_ cE).e s6;refine dRX z z (at_ (α:=Int) y_ z_3 z z z (ht.g cF) eP) ?_;rintro _ ⟨_,_,_,rfl,eQ,eR,_⟩;obtain ⟨rfl,eS⟩:=V_ eR;refine dR z z (l0 g_3 z<|eQ.at0 z)<|dM z z z<|dM z z z ?_
 have ad:=((O.e G).c h1<|g_ cE).e s6;have b2:=lt_ (lt_ (lt_ hy G.s) h1.s) s6.s;obtain ⟨_,_,_,eT,bk⟩:=U_ d8;refine dE z z (fc call84 z<|j_V eT (zt' H b2) (W.g ad) eS (J.g ad) I) (.inr λ_ _ h=>E_<|h.1) ?_;rintro _ _ ⟨s5,rfl,cG,cH⟩;refine dM z z z ?_
 iterate 3 refine dR z z (ext_ z z) ?_
 iterate 3 refine dQ z z z ?_
 refine pD<|Wo<|Wq<|Wb<|Wm z<|R z (not_ z)<|Rw z<|Wc z (λax=>?_) (λax=>?_)
 .refine Ws<|R z (bP (parts:=[]) (cs:=[vI 0,sN,sN]) a_6 z z)<|Rm z<|E0 (fs0 (cur':=[vI 0,sN,sN]) m_ z z ((((h2.e G).c h1<|djs<|mmr h2.lt).e s6).e s5) z z z z) ?_
  rintro _ _ ⟨eU,eV⟩;refine Ra z<|Rw z ?_
  obtain rfl:=som<|ifT bk ax;exact Wr<|rtO<|x_ hr (q_ C_ m_ z eU z) z z ⟨bM (bup (bup (bM (bup (bup h3 h4) G) h1<|m1 hy) s6) s5) eV.one<|m1 h3.s,none,0,0,[],none,0,0,[],z,ii z,onL,onL,I,ii z,nd0,al0⟩
 have bm:=ifF bk ax;refine Ws<|Rf z a_O z ?_
 have cI:=cD.e s5;refine R z (l0 g_3 z<|cI.at z)<|Rq z z z<|Rw z<|Wc z (λay=>?_) (λay=>?_)
 .refine Wm z<|RM z z ?_
  have b3:=lt_ b2 s5.s;obtain ⟨eW,_,_,eX,d9⟩:=U_<|ifT bm ay;refine E z (fc call117 z<|W_w17 eX (zt' H b3) (J.g<|ad.e s5) cH cG) ?_;rintro _ _ ⟨cJ,cK,cL,cM,eY,cN,cO,cP,eZ,rfl,f0,f1,f2,f3,f4,b4,af⟩
  iterate 3 refine Re z z z ?_
  refine E0 (fs0 (cur':=[vI eW.number,sl cK cL cM,sl cN cO cP]) m_ z z (((((h2.e G).c h1<|djs<|mmr h2.lt).e s6).e s5).e cJ) z z z z) ?_;rintro _ _ ⟨f5,f6⟩;have b5:=f6.one;refine Ra z<|Rw z ?_
  obtain rfl:=som d9;have cQ:=lt_ (lt_ (lt_ G.s h1.s) s6.s) s5.s;exact Wr<|rtO<|x_ hr (q_ C_ m_ z f5 z) z z ⟨bM (bup (bup (bup (bM (bup (bup h3 h4) G) h1<|m1 hy) s6) s5) cJ) b5<|m1 h3.s,cK,cL,cM,eY,cN,cO,cP,eZ,z,f0,f1.c b5<|s_ (al_ af) h2.lt cQ,f2.c b5<|s_ (ar_ af) h2.lt cQ,f3,f4,na_ (nl_ b4) (nr_ b4)<|nj b4,aa_ (o_ (al_ af) b3)<|o_ (ar_ af) b3⟩
 have bn:=ifF bm ay;refine Wm z<|R z (X_ z z)<|Rw z<|Wc z (λaz=>?_) (λaz=>?_)
 .refine Ws<|R z (bP (parts:=[]) (cs:=[vI 0,sN,sN]) a_6 z z)<|Rm z<|E0 (fs0 (cur':=[vI 0,sN,sN]) m_ z z ((((h2.e G).c h1<|djs<|mmr h2.lt).e s6).e s5) z z z z) ?_
  rintro _ _ ⟨f7,f8⟩;refine Ra z<|Rw z ?_
  obtain rfl:=som<|ifT bn az;exact Wr<|rtO<|x_ hr (q_ C_ m_ z f7 z) z z ⟨bM (bup (bup (bM (bup (bup h3 h4) G) h1<|m1 hy) s6) s5) f8.one<|m1 h3.s,none,0,0,[],none,0,0,[],z,ii z,onL,onL,I,ii z,nd0,al0⟩
 refine Wk<|Ws<|R z (lN (vs:=[sl A0 N0 C0]) L_ D_ z z fid<|(cC.e s5).row 0 1 z)<|R z (lN (vs:=vR xa ab nc cd ae nf cg ah ni cj ak nl cm) Q_ t_ z z fid<|cI.row 0 8 z)<|RM z z<|Rm z ?_
 have cR:=ad.e s5;have ai:=cF.e s5;have b6:=lt_ b2 s5.s;obtain ⟨f9,_,_,fe,da⟩:=U_<|ifF bn az;refine E z (fc call119 z<|bo.run fe (zt' H b6) (W.g cR) hu hv hp (hq.g ai) (hw.g ai) (hx.g ai) (ht.g ai) (ii z) cG (J.g cR) cH) ?_;rintro _ _ ⟨cS,cT,cU,cV,ff,cW,cX,cY,fg,rfl,fh,fi,fj,fk,fl,b7,aj⟩
 iterate 3 refine Re z z z ?_
 refine E0 (fs0 (cur':=[vI f9.number,sl cT cU cV,sl cW cX cY]) m_ z z (((((h2.e G).c h1<|djs<|mmr h2.lt).e s6).e s5).e cS) z z z z) ?_;rintro _ _ ⟨fm,fo⟩;have b8:=fo.one;refine Ra z<|Rw z ?_
 obtain rfl:=som da;have cZ:=lt_ (lt_ (lt_ G.s h1.s) s6.s) s5.s;exact Wr<|x_ hr (q_ C_ m_ z fm z) z z ⟨bM (bup (bup (bup (bM (bup (bup h3 h4) G) h1<|m1 hy) s6) s5) cS) b8<|m1 h3.s,cT,cU,cV,ff,cW,cX,cY,fg,z,fh,fi.c b8<|s_ (al_ aj) h2.lt cZ,fj.c b8<|s_ (ar_ aj) h2.lt cZ,fk,fl,na_ (nl_ b7) (nr_ b7)<|nj b7,aa_ (o_ (al_ aj) b6)<|o_ (ar_ aj) b6⟩
theorem T_w18 (ih:g_8 n):l_R (i_l n<|a_r n):=by
 obtain ⟨am,_,_,_,_⟩:=ih
 constructor
 intro A0 A3 A5 A2 A6 AF N0 C0 N3 C3 N5 C5 N2 C2 N6 C6 NF CF B x1 x2 x3 x4 x5 x6 res w0 hm V ai aL aM aN aO aP aQ aR aS aj ak ci;unfold i_l at hm
 refine goG func119 z z z λfn hr=>Ws<|E z (fb z) ?_
 rintro _ a4 ⟨rfl,aX⟩;have hd:=aX.below;have an:Blk a4 w0.z [sl A0 N0 C0]:=aX.blk;refine E z (fb z) ?_;rintro _ wr ⟨rfl,aY⟩;have hb:=aY.below;have ao:Blk wr a4.z (vR x2 A3 N3 C3 A5 N5 C5 A2 N2 C2 A6 N6 C6):=aY.blk;refine E z (fa a_q) ?_;rintro _ G ⟨rfl,aZ⟩;have h5:=aZ.below;have hu:Blk G wr.z [vI 0,sN,sN]:=aZ.blk;refine Ra z<|Rw z<|Ws<|R z (bP (parts:=[]) (cs:=[vI 0,sN,sN]) a_6 z z)<|E z (fa a_q) ?_
 rintro _ cy ⟨rfl,b0⟩;have h3:=b0.below;have hv:Blk cy G.z [vI 0,sN,sN]:=b0.blk;refine E0 (fs0 (cur':=[vI 0,sN,sN]) m_ z z hv z z z z) ?_;rintro _ I ⟨cz,cA⟩;have H:=cA.one;refine Wn<|Wq<|Ws<|Rw z ?_
 obtain ⟨_,cj,aT⟩:=bdS hm;refine Wf (σ:=Int×(List Val)) (ρ:=Val×Int×Int) (λ(ap:Nat) s a w=>un2 (λxc xp=>∃L O ca J,Sat 52 [(2,vI x3),(3,vI x4),(4,sl AF NF CF),(5,vI xc),(6,pt w0.z),(7,pt a4.z),(12,pt wr.z),(15,pt G.z),(16,vI ((ap:Nat):Int))] a/\Cg [G.z] I w/\inI xc/\a_ w J (sl L O ca) xp/\J.Nodup/\(∀k∈J,I.z<=k)/\Blk w G.z [vI 0,sN,sl L O ca]) s) (λs a w=>un2 (λxc xp=>∃L O ca J,Sat 52 [(5,vI xc),(12,pt wr.z),(15,pt G.z)] a/\Cg [G.z] I w/\inI xc/\a_ w J (sl L O ca) xp/\J.Nodup/\(∀k∈J,I.z<=k)/\Blk w G.z [vI 0,sN,sl L O ca]) s) (rQ prog fn<|Q17 w0 B) cj ?_ ?_ ?_ ?_ ?_
 .exact λ_ q=>⟨none,0,0,[],q.k<|s9 z z z z z z z z z,cr [G.z] I,ci,onL,G_,an_,cz⟩
 .rintro ap ⟨xc,xp⟩ _ wg _ a3 ⟨L,O,ca,J,ck,s4,hh,hi,hw,he,hx⟩ cl;refine Wu ?_ ck;refine Wq<|Wm z<|Rm z<|Rl z z z<|Wx z (λ_=>?_) (λhc=>(k_m a3 hc).elim)
  refine Wk<|Wq<|Wb<|Wq ?_
  obtain ⟨cB,aU,cm⟩:=bdS<|a_7 cl;refine Wt (λa w=>∃(xj:Int)(a5:Bt)(a6:List Val)(xs:Int)(a7:Int),(xj,a5,a6,xs,a7)=cB/\∃ay nz W Sk Y a0 a1 Sl gq,Sat 52 [(2,vI x3),(3,vI x4),(4,sl AF NF CF),(6,pt w0.z),(7,pt a4.z),(12,pt wr.z),(15,pt G.z),(16,vI ((ap:Nat):Int)),(17,pt gq),(18,vI xs),(19,vI a7)] a/\Below wg.z wg w/\inI xj/\a_ w Sk (sl ay nz W) a5/\Sk.Nodup/\(∀k∈Sk,wg.z<=k)/\a_ w Sl (sl Y a0 a1) a6/\Sl.Nodup/\(∀k∈Sl,wg.z<=k)/\(∀k∈Sl,k∉Sk)/\inI xs/\inI a7/\Blk w gq [vI xj,sl ay nz W,sl Y a0 a1]/\wg.z<=gq/\(∀k∈Sk,k∉[gq])/\(∀k∈Sl,k∉[gq])) ?_ ?_
  .refine Wd (X:=λk=>k∈([]:List Nat)∨wg.z<=k) 0 (.rd 0<|.rd 1<|.rd 2<|.rd 3<|.rd 5<|.rd 6<|.br 4 (.br 7 (.rd 8<|.rd 9<|.rd 10<|.rd 11<|.ef 12<|.ef 13<|.rd 14<|.rd 15 .done) 12<|.ef 7<|.rd 8<|.rd 9<|.rd 10<|.rd 11<|.ef 13<|.rd 14<|.rd 15 .done) 12<|.ef 4<|.ef 7<|.rd 8<|.rd 9<|.rd 10<|.rd 11<|.ef 13<|.rd 14<|.rd 15 .done) mo (by kernel_rfl) λb1 s7 _=>?_
   have b2:=lt_ hb.s h5.s;have b3:=mm1 an.lt b2;refine dR z z (lN (vs:=[sl A0 N0 C0]) L_ D_ z z (e_o nm0<|Nat.lt_of_lt_of_le an.lt<|lt_ (lt_ (lt_ b2 h3.s) H.s) s4.s)<|((((((an.e hb).e h5).e h3).c H<|djs b3).c s4<|djs b3).e s7).row 0 1 z) ?_;have b4:=mm1 ao.lt h5.s;refine dR z z (lN (vs:=vR x2 A3 N3 C3 A5 N5 C5 A2 N2 C2 A6 N6 C6) Q_ t_ z z (e_o nm0<|Nat.lt_of_lt_of_le ao.lt<|lt_ (lt_ (lt_ h5.s h3.s) H.s) s4.s)<|(((((ao.e h5).e h3).c H<|djs b4).c s4<|djs b4).e s7).row 0 8 z) ?_
   iterate 4 refine dM z z z ?_
   refine e_C ?_ ?_
   .have b5:=lt_ (lt_ hd.s hb.s) h5.s;have b6:∀k∈[G.z],¬B k:=or0 (e_ lr)<|n_<|zt' V b5;have ht:=((((((hd.ag B).e hb).e h5).e h3).c H<|g_ b6).c s4<|g_ b6).e s7;have aq:=lt_ (lt_ (lt_ (lt_ b5 h3.s) H.s) s4.s) s7.s;obtain ⟨_,cC,aV⟩:=bdS aU;refine dE z z (fc call85 z<|j_W cC (zt' V aq) aL aM aN (aO.g ht) (aP.g ht) (aQ.g ht) (aR.g ht) aS<|ic (Nat.le_of_lt a3)<|tl_ aj) (.inr λ_ _ h=>E_<|h.1) ?_;rintro _ b7 ⟨sf,rfl,b8⟩;refine e_C ?_ ?_
    .have b9:=ht.e sf;obtain ⟨a9,cD,cE,cF,cn⟩:=U_ aV;refine dE z z (fc call83 z<|am.run cF (zt' V<|lt_ aq sf.s) (ai.g b9) b8 (ak.g b9) hh) (.inr λ_ _ h=>E_<|h.1) ?_;rintro _ ba ⟨bb,bc,be,bf,cG,bg,bh,bi,cH,rfl,cI,bj,bk,cJ,cK,ar,bm⟩;refine dM z z z ?_
     iterate 3 refine dR z z (ext_ z z) ?_
     refine dE z z (fa a_q) (.inr λ_ _ h=>E_<|h.2.below) ?_;rintro _ cL ⟨rfl,bn⟩;have au:=bn.below;have av:=lt_ s7.s sf.s;have aw:=m1<|lt_ av bb.s
     refine dE0 z (fs0 (cur':=[vI a9.number,sl bc be bf,sl bg bh bi]) m_ z z (bn.blk:Blk cL ba.z [vI 0,sN,sN]) z z z z) (.inr λ_ _ h=>c_W (atp aw) h.2) ?_;rintro _ _ ⟨cN,cO⟩;have ax:=cO.one;refine dQ z z z<|dQ z z z<|pD ?_
     have bo:=mnr<|a_.lt bj
     have bp:=mnr<|a_.lt bk
     exact λ_ q=>⟨a9.number,a9.bytes,a9.items,cD,cE,som cn,bc,be,bf,cG,bg,bh,bi,cH,ba.z,q.k<|sc z<|sc z<|sc z<|sc z<|sc z<|sc z<|sc z<|sc z<|sc z<|sc z<|sc z sn,bM (bup (bup (bup s7 sf) bb) au) ax aw,cI,(bj.e au).c ax<|ds bo,nl_ ar,o_ (al_ bm) av,(bk.e au).c ax<|ds bp,nr_ ar,o_ (ar_ bm) av,ds<|nj ar,cJ,cK,cN,atp aw,ds bo,ds bp⟩
    refine dE z z (fa a_q) (.inr λ_ _ h=>E_<|h.2.below) ?_;rintro _ cP ⟨rfl,bq⟩;have aa:=bq.below;have az:Blk cP b7.z [vI 0,sN,sN]:=bq.blk;have bs:=(ht.e sf).e aa;obtain ⟨ab,cQ,cR,cS,co⟩:=U_ aV;refine dE z z (fc call83 z<|am.run cS (zt' V<|lt_ (lt_ aq sf.s) aa.s) (ai.g bs) b8 (ak.g bs) hh) (.inr λ_ _ h=>E_<|h.1) ?_;rintro _ _ ⟨bt,bu,bv,bw,cT,bx,bz,bA,cU,rfl,cV,cW,cX,cY,cZ,aA,ad⟩;refine dM z z z ?_
    iterate 3 refine dR z z (ext_ z z) ?_
    have bB:=lt_ s7.s sf.s;have aB:=m1 bB;refine dE0 z (fs0 (cur':=[vI ab.number,sl bu bv bw,sl bx bz bA]) m_ z z (az.e bt) z z z z) (.inr λ_ _ h=>c_W (atp aB) h.2) ?_;rintro _ _ ⟨d0,d1⟩;have aC:=d1.one;refine dQ z z z<|dQ z z z<|pD ?_
    have bC:=s_ (al_ ad) az.lt lr;have bD:=lt_ bB aa.s;have bE:=s_ (ar_ ad) az.lt lr;exact λ_ q=>⟨ab.number,ab.bytes,ab.items,cQ,cR,som co,bu,bv,bw,cT,bx,bz,bA,cU,b7.z,q.k<|sc z<|sc z<|sc z<|sc z<|sc z<|sc z<|sc z<|sc z<|sc z<|sc z<|sc z sn,bM (bup (bup (bup s7 sf) aa) bt) aC aB,cV,cW.c aC bC,nl_ aA,o_ (al_ ad) bD,cX.c aC bE,nr_ aA,o_ (ar_ ad) bD,ds<|nj aA,cY,cZ,d0,atp aB,bC,bE⟩
   refine dE z z (fa a_q) (.inr λ_ _ h=>E_<|h.2.below) ?_;rintro _ d2 ⟨rfl,bF⟩;have ae:=bF.below;have aD:Blk d2 b1.z [vI 0,sN,sN]:=bF.blk;have bG:=lt_ (lt_ hd.s hb.s) h5.s;have bH:∀k∈[G.z],¬B k:=or0 (e_ lr)<|n_<|zt' V bG;have a2:=(((((((hd.ag B).e hb).e h5).e h3).c H<|g_ bH).c s4<|g_ bH).e s7).e ae;have bI:=lt_ (lt_ (lt_ (lt_ (lt_ bG h3.s) H.s) s4.s) s7.s) ae.s;obtain ⟨_,d3,cp⟩:=bdS aU;refine dE z z (fc call85 z<|j_W d3 (zt' V bI) aL aM aN (aO.g a2) (aP.g a2) (aQ.g a2) (aR.g a2) aS<|ic (Nat.le_of_lt a3)<|tl_ aj) (.inr λ_ _ h=>E_<|h.1) ?_;rintro _ _ ⟨sm,rfl,d4⟩;have bJ:=a2.e sm;obtain ⟨af,d5,d6,d7,cq⟩:=U_ cp;refine dE z z (fc call83 z<|am.run d7 (zt' V<|lt_ bI sm.s) (ai.g bJ) d4 (ak.g bJ) hh) (.inr λ_ _ h=>E_<|h.1) ?_;rintro _ _ ⟨bK,bL,bN,bO,d8,bQ,bR,bS,d9,rfl,da,db,dc,dd,de,aE,ah⟩;refine dM z z z ?_
   iterate 3 refine dR z z (ext_ z z) ?_
   have aF:=m1 s7.s;refine dE0 z (fs0 (cur':=[vI af.number,sl bL bN bO,sl bQ bR bS]) m_ z z ((aD.e sm).e bK) z z z z) (.inr λ_ _ h=>c_W (atp aF) h.2) ?_;rintro _ _ ⟨df,dg⟩;have aG:=dg.one;refine dQ z z z<|dQ z z z<|pD ?_
   have bT:=s_ (al_ ah) aD.lt sm.s;have bU:=lt_ (lt_ s7.s ae.s) sm.s;have bV:=s_ (ar_ ah) aD.lt sm.s;exact λ_ q=>⟨af.number,af.bytes,af.items,d5,d6,som cq,bL,bN,bO,d8,bQ,bR,bS,d9,b1.z,q.k<|sc z<|sc z<|sc z<|sc z<|sc z<|sc z<|sc z<|sc z<|sc z<|sc z<|sc z sn,bM (bup (bup (bup s7 ae) sm) bK) aG aF,da,db.c aG bT,nl_ aE,o_ (al_ ah) bU,dc.c aG bV,nr_ aE,o_ (ar_ ah) bU,ds<|nj aE,dd,de,df,atp aF,bT,bV⟩
  rintro dh bW ⟨xj,a5,a6,xs,a7,rfl,ay,nz,W,Sk,Y,a0,a1,Sl,gq,_,so,di,dj,dk,aH,dl,dm,aI,dn,bX,dp,dq,_,_,_⟩;have aW:=un5S cm;revert dh;refine Wo<|Wq<|Wm z<|R z (nq z z)<|Wx z (λal=>?_) (λal=>?_)
  .refine Ws<|R z (bP (parts:=[]) (cs:=[vI 0,sN,sN]) a_6 z z)<|RM z z ?_
   have bY:=mmr hu.lt;refine E0 (fs0 (cur':=[vI 0,sN,sN]) m_ z z ((((hu.e h3).c H<|djs bY).c s4<|djs bY).e so) z z z z) ?_;rintro _ _ ⟨dr,dt⟩;refine Ra z<|Rw z ?_
   have bZ:=lt_ hd.s hb.s;have c0:=m1<|lt_ bZ h5.s
   exact Wr<|rtO<|qL (som<|ifT aW al).symm<|x_ hr (q_ C_ m_ z dr z) z z ⟨bM (bup (bM (bM (bup (bup (bup hd hb) h5) h3) H c0) s4 c0) so) dt.one<|m1 bZ,none,0,0,[],none,0,0,[],z,ii z,onL,onL,bX,dp,nd0,al0⟩
  refine Wk<|Ws<|Rf z e_I z ?_
  have c1:=hx.e so;refine R z (l0 g_0 z<|c1.at z)<|R z (lN (vs:=[vI xj,sl ay nz W,sl Y a0 a1]) C_ m_ z z fid<|dq.row 0 3 z)<|E z (fS [(.tmp 45)] j_I z z z (a_v z) (lb z)<|lb z) ?_
  rintro _ c2 ⟨rfl,c3⟩;have hn:=c3.below;obtain ⟨du,dv,ct⟩:=bdS<|ifF aW al;refine E z (b_l (α:=Val) j_I dv z z ((hi.e so).e hn) hw (c3.blk:Blk c2 bW.z [vI xj,sl ay nz W,sl Y a0 a1]) (q_S (x:=(⟨xj,a5,a6⟩:Val)) (S1:=Sk) (S2:=Sl) di (dj.e hn)<|dl.e hn) (aa_ (a_T aH (a_.lt hi) lr)<|a_T aI (a_.lt hi) lr)<|na_ dk dm<|ds dn) ?_;rintro _ dw ⟨aJ,c4,c5,c6,rfl,c7,dx,dy,c8⟩;refine Rf z e_I z ?_;have c9:=s_ he hv.lt H.s;refine E0 (fs0 (cur':=[vI 0,sN,sl c4 c5 c6]) z_97 z z ((c1.e hn).c c7<|djs c9) z z z z) ?_;rintro _ dz ⟨dA,dB⟩;have cb:=dB.one;refine Wn<|Wg<|Rm z<|Rw z<|Wg<|Rm z<|R z (inc_ a3 (tl_ aj) z z)<|Ra z<|Wl ?_
  have aK:=lt_ H.s s4.s;exact λ_ q=>⟨(xs,du),(som ct).symm,⟨c4,c5,c6,aJ,q.k<|s9 z z z z z z z z z,(cM (cM (i_ (i_ (cM (cr [G.z] I) s4 (io sr):Cg [G.z] I wg) so:Cg [G.z] I bW) hn:Cg [G.z] I c2) c7 (or0 he (j_ lr):∀k∈J,k∈[G.z]∨I.z<=k):Cg [G.z] I dw) cb (io sr):Cg [G.z] I dz),bX,dx.c cb (or2 c8 c9 (aa_ (s_ aH hv.lt aK)<|s_ aI hv.lt aK) (a_P (e_ hv.lt)<|lt_ (lt_ aK so.s) hn.s):∀k∈aJ,k∉[G.z]),dy,(or2 c8 he (aa_ (o_ aH s4.s)<|o_ aI s4.s) (a_W<|lt_ (lt_ s4.s so.s) hn.s):∀k∈aJ,I.z<=k),dA⟩⟩
 .rintro ⟨xc,xp⟩ _ dC ⟨L,O,ca,J,cu,dD,hh,hi,hw,he,hx⟩;refine Wu ?_ cu;refine Wq<|Wm z<|Rm z<|Rl z z z<|Wx z (λhc=>(k_n hc).elim) (λ_=>?_)
  exact We<|λ_ q=>⟨rfl,⟨L,O,ca,J,q.k<|s3 z z z,(cM (cr [G.z] I) dD (io sr):Cg [G.z] I dC),hh,hi,hw,he,hx⟩⟩
 .rintro ⟨xc,xp⟩ dF _ rfl ⟨L,O,ca,J,_,cc,hh,hi,hw,he,hx⟩;have cv:=elL aT;revert dF;refine Wo<|Ws<|R z (lN (vs:=[vI 0,sN,sl L O ca]) C_ m_ z z fid<|hx.row 0 3 z)<|Rm z ?_
  have cd:=mmr hu.lt;refine E0 (fs0 (cur':=[vI 0,sN,sl L O ca]) m_ z z (((hu.e h3).c H<|djs cd).c cc<|djs cd) z z z z) ?_;rintro _ _ ⟨dG,dH⟩;have ce:=dH.one;refine Ra z<|Rw z ?_
  obtain rfl:=som<|a_7 cv;have cf:=lt_ hd.s hb.s;have cg:=lt_ cf h5.s;have ch:=m1 cg;exact Wr<|x_ hr (q_ C_ m_ z dG z) z z ⟨bM (bM (bM (bup (bup (bup hd hb) h5) h3) H ch) cc ch) ce<|m1 cf,none,0,0,[],L,O,ca,J,z,ii z,onL,hi.c ce<|s_ he hu.lt<|lt_ h3.s H.s,hh,ii z,na_ G_ hw an_,aa_ an_<|o_ he<|lt_ (lt_ cg h3.s) H.s⟩
 rintro _ _ _ _ rfl ⟨rfl,cw⟩;have cx:=elR aT;obtain rfl:=som cx;exact ⟨cw,z⟩
theorem T_w19 (ih:g_8 n):l_S (i_m n<|a_r n):=by
 obtain ⟨_,aA,_,_,_⟩:=ih
 constructor
 intro A0 A3 A5 A2 A6 A7 N0 C0 N3 C3 N5 C5 N2 C2 N6 C6 N7 C7 B x1 x2 x3 x4 res w0 hm W Y a0 a1 a2 a3 a4 a5 O a6 V;unfold i_m at hm
 refine goG func120 z z z λfn hr=>Ws<|E z (fb z) ?_
 rintro _ wy ⟨rfl,hz⟩;have hf:=hz.below;refine E z (fb z) ?_;rintro _ wq ⟨rfl,ad⟩;have h5:=ad.below;refine E z (fa a_q) ?_;rintro _ aB ⟨rfl,ae⟩;have h3:=ae.below;have h6:Blk aB wq.z [vI 0,sN,sN]:=ae.blk;refine Ra z<|Rw z<|Wq (Wd (X:=noX) 0 (pl_ 15 [7]) mo (by kernel_rfl) λb6 G _=>?_)
 have af:=(((hz.blk:Blk wy w0.z [sl A0 N0 C0]).e h5).e h3).e G;refine dR z z (lN (vs:=[sl A0 N0 C0]) L_ D_ z z fid<|af.row 0 1 z)<|dR z z (fd a_1 z) ?_
 have ah:=((ad.blk:Blk wq wy.z (vR x2 A3 N3 C3 A5 N5 C5 A2 N2 C2 A6 N6 C6)).e h3).e G;refine dR z z (l0 H_ z<|ah.at z) ?_;obtain ⟨_,aC,ax⟩:=bdS hm;have hh:=(((hf.ag B).e h5).e h3).e G;refine dRX z z (at_ (α:=Int) y_ z_3 z z z (O.g hh) aC) ?_;rintro _ ⟨_,_,_,rfl,aD,aE,_⟩;obtain ⟨rfl,aF⟩:=V_ aE;refine dR z z (l0 g_3 z<|aD.at0 z)<|dM z z z<|dM z z z ?_
 have hi:=lt_ hf.s h5.s;have ai:=lt_ (lt_ hi h3.s) G.s;obtain ⟨aj,_,_,aG,a7⟩:=U_ ax;refine dE z z (fc call84 z<|j_V aG (zt' W ai) (Y.g hh) aF (a6.g hh) V) (.inr λ_ _ h=>E_<|h.1) ?_;rintro _ _ ⟨s1,rfl,ht,aH⟩;refine dM z z z ?_
 iterate 3 refine dR z z (ext_ z z) ?_
 iterate 3 refine dQ z z z ?_
 refine pD<|Wo<|Wq<|Wm z<|R z (not_ z)<|Wx z (λhcr=>?_) (λhcr=>?_)
 .refine Ws<|R z (bP (parts:=[]) (cs:=[vI 0,sN,sN]) a_6 z z)<|Rm z<|E0 (fs0 (cur':=[vI 0,sN,sN]) m_ z z ((h6.e G).e s1) z z z z) ?_
  rintro _ _ ⟨aI,aJ⟩;refine Ra z<|Rw z ?_
  obtain rfl:=som<|ifT a7 hcr;exact Wr<|x_ hr (q_ C_ m_ z aI z) z z ⟨bM (bup (bup (bup (bup hf h5) h3) G) s1) aJ.one<|m1 hi,none,0,0,[],none,0,0,[],z,ii z,onL,onL,V,ii z,nd0,al0⟩
 refine Wk<|Wq<|Ws ?_
 have ak:=ah.e s1;refine R z (lN (vs:=vR x2 A3 N3 C3 A5 N5 C5 A2 N2 C2 A6 N6 C6) Q_ t_ z z fid<|ak.row 0 8 z)<|Rm z ?_
 have hg:=hh.e s1;have al:=lt_ ai s1.s;obtain ⟨_,aK,a9⟩:=bdS<|ifF a7 hcr;refine E z (fc call85 z<|j_W aK (zt' W al) a0 a1 a2 (a3.g hg) (a4.g hg) (a5.g hg) (O.g hg) ht<|ii z) ?_;rintro _ _ ⟨s2,rfl,_⟩;refine Rl z z z<|Wx z (λhcs=>?_) (λhcs=>?_)
 .refine Ws<|R z (bP (parts:=[]) (cs:=[vI 0,sN,sN]) a_6 z z)<|Rm z<|E0 (fs0 (cur':=[vI 0,sN,sN]) m_ z z (((h6.e G).e s1).e s2) z z z z) ?_
  rintro _ _ ⟨aL,aM⟩;refine Ra z<|Rw z ?_
  obtain rfl:=som<|ifT a9 hcs;exact Wr<|x_ hr (q_ C_ m_ z aL z) z z ⟨bM (bup (bup (bup (bup (bup hf h5) h3) G) s1) s2) aM.one<|m1 hi,none,0,0,[],none,0,0,[],z,ii z,onL,onL,V,ii z,nd0,al0⟩
 refine Wk<|Ws<|R z (lN (vs:=[sl A0 N0 C0]) L_ D_ z z fid<|((af.e s1).e s2).row 0 1 z)<|R z (lN (vs:=vR x2 A3 N3 C3 A5 N5 C5 A2 N2 C2 A6 N6 C6) Q_ t_ z z fid<|(ak.e s2).row 0 8 z)<|RM z z<|Rm z ?_
 have I:=hg.e s2;have hj:=lt_ al s2.s;obtain ⟨am,aN,aO,aP,ay⟩:=U_<|ifF a9 hcs;refine E z (fc call119 z<|aA.run aP (zt' W hj) (Y.g I) a0 a1 a2 (a3.g I) (a4.g I) (a5.g I) (O.g I) ht (ii z) (a6.g I) aH) ?_;rintro _ H ⟨sk,J,L,ca,aQ,ab,nc,cd,aR,rfl,aS,an,ao,aT,aU,hu,hl⟩;refine Rm z ?_
 iterate 3 refine Re z z z ?_
 refine E z (fa a_q) ?_;rintro _ aV ⟨rfl,ap⟩;have hn:=ap.below;refine E0 (fs0 (cur':=[vI am.number,sl J L ca,sl ab nc cd]) m_ z z (ap.blk:Blk aV H.z [vI 0,sN,sN]) z z z z) ?_;rintro _ wm ⟨aq,aW⟩;have ho:=aW.one;refine Ra z<|Rw z<|Wq<|Wm z<|Rq z z z<|Wn ?_
 obtain ⟨aX,aa,az⟩:=bdS ay;refine Wt (λa w=>∃(xe:Int),xe=aX/\Sat 56 [(8,pt wq.z),(14,pt H.z),(15,vI aN),(16,vI aO)] a/\Cg [H.z] wm w/\inI xe/\Blk w H.z [vI xe,sl J L ca,sl ab nc cd]) ?_ ?_
 .refine Wc z (λhcv=>?_)<|λhcv=>?_
  .refine Wg<|Rm z<|Rf z l_J z<|E0 (fs0 (cur':=[vI aj,sl J L ca,sl ab nc cd]) z_3 z z aq z z z z) ?_
   rintro _ aY ⟨aZ,b0⟩;refine Wl ?_;exact λ_ q=>⟨aj,som<|ifT aa hcv,q.k<|s4 z z z z,(cM (cr [H.z] wm) b0.one (io sr):Cg [H.z] wm aY),ht,aZ⟩
  exact a_j<|λ_ q=>⟨am.number,som<|ifF aa hcv,q.k<|s4 z z z z,cr [H.z] wm,aS,aq⟩
 rintro b1 _ ⟨xe,rfl,_,sp,b2,b3⟩;revert b1;refine Wo<|Ws<|R z (lN (vs:=[vI xe,sl J L ca,sl ab nc cd]) C_ m_ z z fid<|b3.row 0 3 z)<|RM z z ?_
 have hw:=lt_ (lt_ G.s s1.s) s2.s;have ar:=mm1 h6.lt<|lt_ hw sk.s
 refine E0 (fs0 (cur':=[vI xe,sl J L ca,sl ab nc cd]) m_ z z (((((((h6.e G).e s1).e s2).e sk).e hn).c ho<|djs ar).c sp<|djs ar) z z z z) ?_;rintro _ _ ⟨b4,b5⟩;have hx:=b5.one;refine Ra z<|Rw z ?_
 obtain rfl:=som az;have au:=mnr<|a_.lt an
 have av:=mnr<|a_.lt ao
 have aw:=m1<|lt_ hj sk.s
 exact Wr<|x_ hr (q_ C_ m_ z b4 z) z z ⟨bM (bM (bM (bup (bup (bup (bup (bup (bup (bup hf h5) h3) G) s1) s2) sk) hn) ho aw) sp aw) hx<|m1 hi,J,L,ca,aQ,ab,nc,cd,aR,z,b2,(((an.e hn).c ho<|ds au).c sp<|ds au).c hx<|s_ (al_ hl) h6.lt hw,(((ao.e hn).c ho<|ds av).c sp<|ds av).c hx<|s_ (ar_ hl) h6.lt hw,aT,aU,na_ (nl_ hu) (nr_ hu)<|nj hu,aa_ (o_ (al_ hl) hj)<|o_ (ar_ hl) hj⟩
theorem T_w1a (ih:g_8 n):l_T (i_n n<|a_r n):=by
 obtain ⟨_,a7,_,_,_⟩:=ih
 constructor
 intro A0 A3 A5 A2 A6 A7 N0 C0 N3 C3 N5 C5 N2 C2 N6 C6 N7 C7 B x1 x2 x3 x4 res w0 hm a8 V W Y a0 a1 a2 a3 a4 L O;unfold i_n at hm
 refine goG func121 z z z λfn hr=>Ws<|E z (fb z) ?_
 rintro _ wc ⟨rfl,hd⟩;have h2:=hd.below;refine E z (fb z) ?_;rintro _ we ⟨rfl,hf⟩;have G:=hf.below;refine E z (fa a_q) ?_;rintro _ ws ⟨rfl,hg⟩;have h3:=hg.below;have h5:Blk ws we.z [vI 0,sN,sN]:=hg.blk;refine Ra z<|Rw z<|Wq<|Wb<|Wm z<|Rm z ?_
 have hh:=((h2.ag B).e G).e h3;have hi:=L.g hh;refine R z (lnR k_ z hi)<|R z (b_t z z)<|Rw z<|Wc z (λH=>?_) (λH=>?_)
 .refine Ws<|R z (bP (parts:=[]) (cs:=[vI 0,sN,sN]) a_6 z z)<|Rm z<|E0 (fs0 (cur':=[vI 0,sN,sN]) m_ z z h5 z z z z) ?_
  rintro _ _ ⟨hw,sx⟩;refine Ra z<|Rw z ?_
  obtain rfl:=som<|ifT hm H;exact Wr<|rtO<|x_ hr (q_ C_ m_ z hw z) z z ⟨bM (bup (bup h2 G) h3) sx.one<|m1<|lt_ h2.s G.s,none,0,0,[],none,0,0,[],z,ii z,onL,onL,O,ii z,nd0,al0⟩
 refine Wm z<|Rm z ?_
 obtain ⟨_,ey,hmj⟩:=bdS<|ifF hm H;refine RX z (at_ (α:=UInt8) k_ z_5 z z z hi ey) ?_;rintro _ ⟨_,_,_,rfl,hz,a9,_⟩;obtain rfl:=u8 a9;refine R z (l0 g_5 z<|hz.at0 z)<|R z (X_ z z)<|Rw z<|Wc z (λI=>?_) (λI=>?_)
 .refine Ws<|R z (bP (parts:=[]) (cs:=[vI 0,sN,sN]) a_6 z z)<|Rm z<|E0 (fs0 (cur':=[vI 0,sN,sN]) m_ z z h5 z z z z) ?_
  rintro _ _ ⟨aa,ab⟩;refine Ra z<|Rw z ?_
  obtain rfl:=som<|ifT hmj I;exact Wr<|rtO<|x_ hr (q_ C_ m_ z aa z) z z ⟨bM (bup (bup h2 G) h3) ab.one<|m1<|lt_ h2.s G.s,none,0,0,[],none,0,0,[],z,ii z,onL,onL,O,ii z,nd0,al0⟩
 refine Wk<|Wq (Wd (X:=noX) 16384 (pl_ 17 [10,14]) mo (by kernel_rfl) λaw s1 _=>dR z z (lN (vs:=[sl A0 N0 C0]) L_ D_ z z fid<|((((hd.blk:Blk wc w0.z [sl A0 N0 C0]).e G).e h3).e s1).row 0 1 z)<|dR z z (lN (vs:=vR x2 A3 N3 C3 A5 N5 C5 A2 N2 C2 A6 N6 C6) Q_ t_ z z fid<|(((hf.blk:Blk we wc.z (vR x2 A3 N3 C3 A5 N5 C5 A2 N2 C2 A6 N6 C6)).e h3).e s1).row 0 8 z)<|dM z z z<|dM z z z ?_)
 obtain ⟨_,ad,a5⟩:=bdS<|ifF hmj I;have h4:=hh.e s1;have hk:=L.g h4;refine dRX z z (at_ (α:=UInt8) k_ z_5 z z z hk ad) ?_;rintro _ ⟨_,_,_,rfl,ae,af,_⟩;obtain rfl:=u8 af;refine dR z z (l0 g_5 z<|ae.at0 z)<|dR z z (b_s d_5 d_3 z)<|dM z z z<|dM z z z<|dR z z (add_ z z) ?_
 have hl:=lt_ h2.s G.s;have J:=lt_ (lt_ hl h3.s) s1.s;obtain ⟨ah,_,_,ai,a6⟩:=U_ a5;refine dE z z (fc call119 z<|a7.run ai (zt' a8 J) (V.g h4) W Y a0 (a1.g h4) (a2.g h4) (a3.g h4) (a4.g h4) (ii z) (c_U _) hk<|iA _ _) (.inr λ_ _ h=>E_<|h.1) ?_;rintro _ _ ⟨sm,an,no,cp,aj,aq,nr,ct,ak,rfl,al,am,ao,ap,ar,ha,h6⟩
 iterate 3 refine dR z z (ext_ z z) ?_
 refine dE0 z (fs0 (cur':=[vI ah.number,sl an no cp,sl aq nr ct]) m_ z z ((h5.e s1).e sm) z z z z) (.inl z) ?_;rintro _ _ ⟨au,av⟩;have hb:=av.one;refine dQ z z z<|dQ z z z<|pD<|Wo ?_
 obtain rfl:=som a6;exact Wr<|x_ hr (q_ C_ m_ z au z) z z ⟨bM (bup (bup (bup (bup h2 G) h3) s1) sm) hb<|m1 hl,an,no,cp,aj,aq,nr,ct,ak,z,al,am.c hb<|s_ (al_ h6) h5.lt s1.s,ao.c hb<|s_ (ar_ h6) h5.lt s1.s,ap,ar,na_ (nl_ ha) (nr_ ha)<|nj ha,aa_ (o_ (al_ h6) J)<|o_ (ar_ h6) J⟩
theorem T_w1b (ih:g_8 n):l_U (i_o n<|a_r n):=by
 obtain ⟨_,am,_,_,_⟩:=ih
 constructor
 intro A0 A3 A5 A2 A6 A7 N0 C0 N3 C3 N5 C5 N2 C2 N6 C6 N7 C7 B x1 x2 x3 x4 res w0 hm O a7 a8 a9 ab ae af ah ai L aj;unfold i_o at hm
 refine goG func122 z z z λfn hr=>Ws<|E z (fb z) ?_
 rintro _ wu ⟨rfl,hv⟩;have hh:=hv.below;refine E z (fb z) ?_;rintro _ ww ⟨rfl,hx⟩;have H:=hx.below;refine E z (fa a_q) ?_;rintro _ an ⟨rfl,hy⟩;have h5:=hy.below;have h3:Blk an ww.z [vI 0,sN,sN]:=hy.blk;refine Ra z<|Rw z<|Ws<|R z (lN (vs:=[sl A0 N0 C0]) L_ D_ z z fid<|(((hv.blk:Blk wu w0.z [sl A0 N0 C0]).e H).e h5).row 0 1 z)<|R z (lN (vs:=vR x2 A3 N3 C3 A5 N5 C5 A2 N2 C2 A6 N6 C6) Q_ t_ z z fid<|((hx.blk:Blk ww wu.z (vR x2 A3 N3 C3 A5 N5 C5 A2 N2 C2 A6 N6 C6)).e h5).row 0 8 z)<|RM z z ?_
 have I:=((hh.ag B).e H).e h5;have hj:=lt_ hh.s H.s;have J:=lt_ hj h5.s;obtain ⟨rk,_,_,ao,hmz⟩:=U_ hm;refine E z (fc call119 z<|am.run ao (zt' O J) (a7.g I) a8 a9 ab (ae.g I) (af.g I) (ah.g I) (ai.g I) (ii z) (ii z) (L.g I) aj) ?_;rintro _ Y ⟨G,aa,nb,cc,a0,ad,ne,cf,a1,rfl,a2,hn,ho,hp,ap,hi,h6⟩;refine Rm z ?_
 iterate 3 refine Re z z z ?_
 refine E z (fa a_q) ?_;rintro _ aq ⟨rfl,a3⟩;have h1:=a3.below;refine E0 (fs0 (cur':=[vI rk.number,sl aa nb cc,sl ad ne cf]) m_ z z (a3.blk:Blk aq Y.z [vI 0,sN,sN]) z z z z) ?_;rintro _ _ ⟨a4,ar⟩;have h2:=ar.one;refine Ra z<|Rw z<|Wq<|Wb<|Wm z<|R z (nq z z)<|Rw z<|Wc z (λhcm=>?_) (λhcm=>?_)
 .refine Ws<|R z (lN (vs:=[vI rk.number,sl aa nb cc,sl ad ne cf]) C_ m_ z z fid<|a4.row 0 3 z)<|RM z z<|E0 (fs0 (cur':=[vI rk.number,sl aa nb cc,sl ad ne cf]) m_ z z (((h3.e G).e h1).c h2<|djs<|mm1 h3.lt G.s) z z z z) ?_
  rintro _ _ ⟨au,av⟩;have hq:=av.one;refine Ra z<|Rw z ?_
  obtain rfl:=som<|ifT hmz hcm;exact Wr<|rtO<|x_ hr (q_ C_ m_ z au z) z z ⟨bM (bM (bup (bup (bup (bup hh H) h5) G) h1) h2<|m1<|lt_ J G.s) hq<|m1 hj,aa,nb,cc,a0,ad,ne,cf,a1,z,a2,((hn.e h1).c h2<|ds<|mnr<|a_.lt hn).c hq<|s_ (al_ h6) h3.lt lr,((ho.e h1).c h2<|ds<|mnr<|a_.lt ho).c hq<|s_ (ar_ h6) h3.lt lr,hp,ap,na_ (nl_ hi) (nr_ hi)<|nj hi,aa_ (o_ (al_ h6) J)<|o_ (ar_ h6) J⟩
 have V:=ifF hmz hcm;refine Wm z<|Rm z ?_
 have hl:=lt_ J G.s;have a5:=((I.e G).e h1).c h2<|g_ (or0 (e_ lr) (n_<|zt' O hl):∀k∈[Y.z],¬B k)
 refine R z (lnR k_ z<|L.g a5)<|R z (b_t z z)<|Rw z<|Wc z (λhcr=>?_) (λhcr=>?_)
 .refine Ws<|R z (bP (parts:=[]) (cs:=[vI 0,sN,sN]) a_6 z z)<|Rm z<|E0 (fs0 (cur':=[vI 0,sN,sN]) m_ z z (((h3.e G).e h1).c h2<|djs<|mm1 h3.lt G.s) z z z z) ?_
  rintro _ _ ⟨aw,ax⟩;refine Ra z<|Rw z ?_
  obtain rfl:=som<|ifT V hcr;exact Wr<|rtO<|x_ hr (q_ C_ m_ z aw z) z z ⟨bM (bM (bup (bup (bup (bup hh H) h5) G) h1) h2<|m1 hl) ax.one<|m1 hj,none,0,0,[],none,0,0,[],z,ii z,onL,onL,hp,ii z,nd0,al0⟩
 refine Wq (Wd (X:=noX) 0 (pl_ 12 [9]) mo (by kernel_rfl) λaI s4 _=>dM z z z<|dM z z z ?_);obtain ⟨_,ay,ak⟩:=bdS<|ifF V hcr;have a6:=L.g<|a5.e s4
 refine dRX z z (at_ (α:=UInt8) k_ z_5 z z z a6 ay) ?_;rintro _ ⟨_,_,_,rfl,az,aA,_⟩;obtain rfl:=u8 aA;refine dR z z (l0 g_5 z<|az.at0 z)<|dR z z (b_s d_5 d_3 z) ?_
 iterate 3 refine dM z z z ?_
 obtain ⟨_,aB,al⟩:=bdS ak;refine dRX z z (rX k_ z_5 z z a6 z z aB) ?_;rintro _ ⟨_,_,_,rfl,aC⟩;obtain ⟨_,aD,W⟩:=bdS al;refine dE z z (fc call114 z<|W_w13 aD (zt' O<|lt_ (lt_ (lt_ hl h1.s) h2.s) s4.s) aC) (.inr λ_ _ h=>E_<|h.1) ?_;rintro _ _ ⟨sg,rfl,_⟩;refine dR z z (nq z z)<|dQ z z z<|pD<|Wo<|Wc z (λhcs=>?_) (λhcs=>?_)
 .refine Ws<|R z (bP (parts:=[]) (cs:=[vI 0,sN,sN]) a_6 z z)<|Rm z<|E0 (fs0 (cur':=[vI 0,sN,sN]) m_ z z (((((h3.e G).e h1).c h2<|djs<|mm1 h3.lt G.s).e s4).e sg) z z z z) ?_
  rintro _ _ ⟨aE,aF⟩;refine Ra z<|Rw z ?_
  obtain rfl:=som<|ifT W hcs;exact Wr<|rtO<|x_ hr (q_ C_ m_ z aE z) z z ⟨bM (bup (bup (bM (bup (bup (bup (bup hh H) h5) G) h1) h2<|m1 hl) s4) sg) aF.one<|m1 hj,none,0,0,[],none,0,0,[],z,ii z,onL,onL,hp,ii z,nd0,al0⟩
 refine Wk<|Ws<|R z (lN (vs:=[vI rk.number,sl aa nb cc,sl ad ne cf]) C_ m_ z z fid<|((a4.e s4).e sg).row 0 3 z)<|Rm z<|R z (add_ z z)<|E0 (fs0 (cur':=[vI rk.number,sl aa nb cc,sl ad ne cf]) m_ z z (((((h3.e G).e h1).c h2<|djs<|mm1 h3.lt G.s).e s4).e sg) z z z z) ?_
 rintro _ _ ⟨aG,aH⟩;have ht:=aH.one;refine Ra z<|Rw z ?_
 obtain rfl:=som<|ifF W hcs;exact Wr<|x_ hr (q_ C_ m_ z aG z) z z ⟨bM (bup (bup (bM (bup (bup (bup (bup hh H) h5) G) h1) h2<|m1 hl) s4) sg) ht<|m1 hj,aa,nb,cc,a0,ad,ne,cf,a1,z,a2,((((hn.e h1).c h2<|ds<|mnr<|a_.lt hn).e s4).e sg).c ht<|s_ (al_ h6) h3.lt lr,((((ho.e h1).c h2<|ds<|mnr<|a_.lt ho).e s4).e sg).c ht<|s_ (ar_ h6) h3.lt lr,iA _ _,ii z,na_ (nl_ hi) (nr_ hi)<|nj hi,aa_ (o_ (al_ h6) J)<|o_ (ar_ h6) J⟩
theorem d_R:∀n,g_8 n
  | 0=>⟨⟨λhm=>by intros;exact nomatch (show none=some _ from hm)⟩,⟨λhm=>by intros;exact nomatch (show none=some _ from hm)⟩,⟨λhm=>by intros;exact nomatch (show none=some _ from hm)⟩,⟨λhm=>by intros;exact nomatch (show none=some _ from hm)⟩,⟨λhm=>by intros;exact nomatch (show none=some _ from hm)⟩⟩
  | n+1=>⟨T_w02<|d_R n,T_w18<|d_R n,T_w19<|d_R n,T_w1a<|d_R n,T_w1b<|d_R n⟩
theorem W_w02:l_Q (a_r n).spec_l11Read:=(d_R n).1
theorem W_w18:l_R (a_r n).spec_l11Items:=(d_R n).2.1
theorem W_w19:l_S (a_r n).spec_l11Choice:=(d_R n).2.2.1
theorem W_w1a:l_T (a_r n).spec_l11Option:=(d_R n).2.2.2.1
theorem W_w1b:l_U (a_r n).spec_l11Checked:=(d_R n).2.2.2.2
end Go.Vw
