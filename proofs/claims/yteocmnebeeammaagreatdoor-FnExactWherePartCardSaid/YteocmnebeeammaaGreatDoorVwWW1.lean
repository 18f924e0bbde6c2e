
import Derived.Test.YteocmnebeeammaaGreatDoorVmB
import Derived.Test.YteocmnebeeammaaGreatDoorVwWFacts
import Derived.Test.YteocmnebeeammaaGreatDoorVwWExt
import Derived.ScopeJumps
import Derived.Recover
import Derived.Tactics
import Derived.Tactics2
import Derived.Laws.Pointers
import Derived.Lib.Hide
set_option linter.unusedVariables false
namespace Go.Vw
open Go.RowKit Dat Go.Proofs
open Go.Proofs.Tryz
open Go.Vw renaming a_g->Wq,a_B->Wg,WC.of_KC->Wo,a_j->Wl,c_8->Wc,c_M->Wr,f_K->Wu,i_M->pT,i_N->pF,g_P->fd,b_x->l1,j_3->lN,b_3->mv,c_O->asg,f_E->lnR,f_3->lss,g_S->eql,g_Q->ext_,i_P->bP,g_R->add_,f_D->inc_,d_t->not_,f_F->at_,e_m->fc,a_R->fs,e_l->fb,d_q->fa,i_G->sr,i_K->cr,i_L->cM,c_j->bM,i_z->iS,i_y->iA,g_F->br,a_X->oA,i_C->bs,ltge->lg,inor->io,f_O->nq,j_4->lnT,j_5->sb_,i_E->ar_,i_D->al_,i_F->ds,j_M->m1,i_I->nr_,i_H->nl_,g_H->aa_,all_nil->an_,d_l->Wb,g_G->u8,i_w->pD,f_v->We,i_A->Wt,f_y->fS,f_q->or_,j_1->Wf,i_U->qL,i_v->Wd,i_Q->fN,g_I->na_,i_J->nj,e_o->f0,i_O->rX,i_R->tl_,i_S->ic
variable {A0:Option Addr}{N0 C0:Nat}{B:Zone}{w0:World}{AB:Option Addr}{AA:Option Addr}{AC:Option Addr}{AD:Option Addr}{NB CB:Nat}{NA CA:Nat}{NC CC:Nat}{ND CD:Nat}{A2:Option Addr}{A3:Option Addr}{A1:Option Addr}{A4:Option Addr}{N2 C2:Nat}{N3 C3:Nat}{N1 C1:Nat}{N4 C4:Nat}{A7:Option Addr}{N7 C7:Nat}{A5:Option Addr}{N5 C5:Nat}{n:Nat}{A8:Option Addr}{A9:Option Addr}{N8 C8:Nat}{N9 C9:Nat}{A6:Option Addr}{N6 C6:Nat}
def Q0 (w0:World)(B:Zone)(r:Int)(v:Value)(w':World):Prop:=Bw w0 w'/\(λG=>(vI G)=v/\inI G) r
theorem W_w29 {x1:Bt}{x2:Int}{res:Int}(hm:j_N x1 x2=some res)(J:B<=w0.z)(H:repS w0 B (sl A0 N0 C0) x1)(I:inI x2):i_ prog 44 [sl A0 N0 C0,vI x2] w0 (Q0 w0 B res):=by
 unfold j_N at hm
 refine goG func44 z z z λfn hr=>Ws<|Rw z<|Wm z<|Rm z<|R z (lnR o_ z H)<|R z (sb_ z z)<|Rw z<|Wq<|Wm z<|Rl z z z<|Wx z (λG=>?_) (λG=>?_)
 .refine Ws<|Rw z ?_
  obtain rfl:=som<|ifT hm G;exact Wr<|c_ hr z ⟨br w0,z,ii z⟩
 refine Wk<|Wm z<|Rw z ?_
 obtain rfl:=som<|ifF hm G;exact Wr<|c_ hr z ⟨br w0,z,iS _ _⟩
theorem W_w2a {x1:List Str}{x2:Int}{res:Int}(hm:h_d x1 x2=some res)(Y:B<=w0.z)(G:repS w0 B (sl A0 N0 C0) x1)(W:inI x2):i_ prog 45 [sl A0 N0 C0,vI x2] w0 (Q0 w0 B res):=by
 unfold h_d at hm
 refine goG func45 z z z λfn hr=>Ws<|Rw z<|Wm z<|Rm z<|R z (lnR D_ z G)<|R z (sb_ z z)<|Rw z<|Wq<|Wm z<|Rl z z z<|Wx z (λH=>?_) (λH=>?_)
 .refine Ws<|Rw z ?_
  obtain rfl:=som<|ifT hm H;exact Wr<|c_ hr z ⟨br w0,z,ii z⟩
 refine Wk<|Wq<|Ws<|Rw z ?_
 obtain ⟨_,hub,J⟩:=bdS<|ifF hm H;refine Wf (σ:=Int) (ρ:=Int) (λ(k6:Nat)(x0:Int) a w=>Sat 28 [(0,sl A0 N0 C0),(1,vI x0),(5,vI ((k6:Nat):Int))] a/\Below w0.z w0 w/\inI x0) (λ(x0:Int) a w=>Sat 28 [(1,vI x0)] a/\Below w0.z w0 w/\inI x0) (rQ prog fn<|Q0 w0 B) hub ?_ ?_ ?_ ?_ ?_
 .exact λ_ q=>⟨q.k<|s3 z z z,br w0,iS _ _⟩
 .rintro k6 x0 _ _ _ L ⟨hSc,s4,h1⟩ hmd;refine Wu ?_ hSc;refine Wq<|Wm z<|Rm z ?_
  have V:=G.e s4;refine R z (lnR D_ z V)<|Rl z z z<|Wx z (λ_=>?_) (λhc=>(Q_ L hc).elim)
  refine Wk<|Wq<|Wb<|Wm z<|RM z z ?_
  obtain ⟨xe,ef,O⟩:=bdS hmd;refine RX z (at_ (α:=Str) D_ z_9 z z z V ef) ?_;rintro _ ⟨_,_,_,rfl,hg,hh,_⟩;obtain ⟨rfl,_⟩:=a_h hh;refine R z (l0 g_9 z<|hg.at0 z)<|R z (lnT d_9 z)<|R z (sb_ z z)<|Rw z<|Wm z<|Rl z z z<|Wx z (λI=>?_) (λI=>?_)
  .exact Ws<|Rw z<|Wr<|rtO<|qL (som<|ifT O I).symm<|c_ hr z ⟨s4,z,ii z⟩
  exact Wk<|Wg<|Rm z<|R z (inc_ L (lt_ (repS.len G) B_) z z)<|Ra z<|Wl (λ_ q=>⟨K_ x0 (xe.b.length:Int),(som<|ifF O I).symm,⟨q.k<|s3 z z z,s4,iS _ _⟩⟩)
 .rintro x0 _ _ ⟨hSi,sa,h1⟩;refine Wu ?_ hSi;refine Wq<|Wm z<|Rm z<|R z (lnR D_ z<|G.e sa)<|Rl z z z<|Wx z (λhc=>(R_ hc).elim) (λ_=>?_)
  exact We<|λ_ q=>⟨rfl,⟨q.k<|s1 z,sa,h1⟩⟩
 .rintro x0 aj _ rfl ⟨_,sk,h1⟩;have hml:=elL J;revert aj;refine Wo<|Wm z<|Rw z ?_
  obtain rfl:=som hml;exact Wr<|c_ hr z ⟨sk,z,h1⟩
 rintro _ _ _ _ rfl ⟨rfl,hqm⟩;have hmn:=elR J;obtain rfl:=som hmn;exact ⟨hqm,z⟩
theorem W_w11 {x1:List Int}{x2:Int}{res:Int}(hm:h_e x1 x2=some res)(J:B<=w0.z)(H:repS w0 B (sl A0 N0 C0) x1)(I:inI x2):i_ prog 46 [sl A0 N0 C0,vI x2] w0 (Q0 w0 B res):=by
 unfold h_e at hm
 refine goG func46 z z z λfn hr=>Ws<|Rw z<|Wm z<|Rm z<|R z (lnR x_ z H)<|R z (sb_ z z)<|Rw z<|Wq<|Wm z<|Rl z z z<|Wx z (λG=>?_) (λG=>?_)
 .refine Ws<|Rw z ?_
  obtain rfl:=som<|ifT hm G;exact Wr<|c_ hr z ⟨br w0,z,ii z⟩
 refine Wk<|Wm z<|Rw z ?_
 obtain rfl:=som<|ifF hm G;exact Wr<|c_ hr z ⟨br w0,z,iS _ _⟩
theorem W_w2b {x1:b_}{x2:Int}{res:Int}(hm:g_b x1 x2=some res)(H:B<=w0.z)(a2:x1.name.b.length<=LEN)(a3:inI x1.kind)(a4:inI x1.size)(W:repS w0 B (sl AB NB CB) x1.bytes)(Y:repS w0 B (sl AA NA CA) x1.names)(a0:repS w0 B (sl AC NC CC) x1.tags)(a1:repS w0 B (sl AD ND CD) x1.kids)(a5:inI x2):i_ prog 26 [(.agg #[Str.v x1.name,vI x1.kind,vI x1.size,vB x1.little,sl AB NB CB,sl AA NA CA,sl AC NC CC,sl AD ND CD]),vI x2] w0 (Q0 w0 B res):=by
 unfold g_b at hm
 refine goG func26 z z z λfn hr=>Ws<|E z (fb z) ?_
 rintro _ wl ⟨rfl,ha⟩;have G:=ha.below;have h4:Blk wl w0.z (vR x1 AB NB CB AA NA CA AC NC CC AD ND CD):=ha.blk;refine Rw z<|Wm z<|Rf z p_7 z<|R z (l0 g_9 z<|h4.at z)<|R z (lnT d_9 z)<|R z (sb_ z z)<|Rw z<|Wq<|Wm z<|Rl z z z<|Wx z (λI=>?_) (λI=>?_)
 .refine Ws<|Rw z ?_
  obtain rfl:=som<|ifT hm I;exact Wr<|c_ hr z ⟨G,z,ii z⟩
 refine Wk<|Ws<|Rf z p_8 z<|R z (l0 X_ z<|h4.at z)<|Rm z ?_
 obtain ⟨_,en,hmb⟩:=bdS<|ifF hm I;refine E z (fc call44 z<|W_w29 en (zt' H G.s) (W.e G)<|iS _ _) ?_;rintro _ _ ⟨s1,rfl,ho⟩;refine Rw z<|Wq<|Wm z<|Rl z z z<|Wx z (λJ=>?_) (λJ=>?_)
 .refine Ws<|Rw z ?_
  obtain rfl:=som<|ifT hmb J;exact Wr<|c_ hr z ⟨bup G s1,z,ii z⟩
 refine Wk<|Ws<|Rf z p_9 z ?_
 have hc:=h4.e s1;refine R z (l0 a_t z<|hc.at z)<|Rm z ?_
 have hd:=(G.ag B).e s1;have he:=lt_ G.s s1.s;obtain ⟨_,ep,hmf⟩:=bdS<|ifF hmb J;refine E z (fc call45 z<|W_w2a ep (zt' H he) (Y.g hd) ho) ?_;rintro _ _ ⟨s2,rfl,hq⟩;refine Rw z<|Wq<|Wm z<|Rl z z z<|Wx z (λL=>?_) (λL=>?_)
 .refine Ws<|Rw z ?_
  obtain rfl:=som<|ifT hmf L;exact Wr<|c_ hr z ⟨bup (bup G s1) s2,z,ii z⟩
 refine Wk<|Ws<|Rf z p_a z ?_
 have hg:=hc.e s2;refine R z (l0 E_ z<|hg.at z)<|Rm z ?_
 have hh:=hd.e s2;have hi:=lt_ he s2.s;obtain ⟨_,er,hmj⟩:=bdS<|ifF hmf L;refine E z (fc call46 z<|W_w11 er (zt' H hi) (a0.g hh) hq) ?_;rintro _ _ ⟨s3,rfl,ht⟩;refine Rw z<|Wq<|Wm z<|Rl z z z<|Wx z (λO=>?_) (λO=>?_)
 .refine Ws<|Rw z ?_
  obtain rfl:=som<|ifT hmj O;exact Wr<|c_ hr z ⟨bup (bup (bup G s1) s2) s3,z,ii z⟩
 refine Wk<|Ws<|Rf z p_b z<|R z (l0 E_ z<|(hg.e s3).at z)<|Rm z ?_
 obtain ⟨_,es,hmk⟩:=bdS<|ifF hmj O;refine E z (fc call46 z<|W_w11 es (zt' H<|lt_ hi s3.s) (a1.g<|hh.e s3) ht) ?_;rintro _ _ ⟨sm,rfl,hu⟩;refine Rw z<|Wq<|Wm z<|Rl z z z<|Wx z (λV=>?_) (λV=>?_)
 .refine Ws<|Rw z ?_
  obtain rfl:=som<|ifT hmk V;exact Wr<|c_ hr z ⟨bup (bup (bup (bup G s1) s2) s3) sm,z,ii z⟩
 refine Wk<|Wm z<|Rw z ?_
 obtain rfl:=som<|ifF hmk V;exact Wr<|c_ hr z ⟨bup (bup (bup (bup G s1) s2) s3) sm,z,hu⟩
theorem W_w2c {x1:List b_}{x2:Int}{res:Int}(hm:j_O x1 x2=some res)(a2:B<=w0.z)(G:repS w0 B (sl A0 N0 C0) x1)(ab:inI x2):i_ prog 16 [sl A0 N0 C0,vI x2] w0 (Q0 w0 B res):=by
 unfold j_O at hm
 refine goG func16 z z z λfn hr=>Ws<|Rw z<|Wm z<|Rm z<|R z (lnR e_V z G)<|R z (sb_ z z)<|Rw z<|Wq<|Wm z<|Rl z z z<|Wx z (λH=>?_) (λH=>?_)
 .refine Ws<|Rw z ?_
  obtain rfl:=som<|ifT hm H;exact Wr<|c_ hr z ⟨br w0,z,ii z⟩
 refine Wk<|Wq<|Ws<|Rw z ?_
 obtain ⟨_,huc,J⟩:=bdS<|ifF hm H;refine Wf (σ:=Int) (ρ:=Int) (λ(k6:Nat)(x0:Int) a w=>Sat 27 [(0,sl A0 N0 C0),(1,vI x0),(5,vI ((k6:Nat):Int))] a/\Below w0.z w0 w/\inI x0) (λ(x0:Int) a w=>Sat 27 [(1,vI x0)] a/\Below w0.z w0 w/\inI x0) (rQ prog fn<|Q0 w0 B) huc ?_ ?_ ?_ ?_ ?_
 .exact λ_ q=>⟨q.k<|s3 z z z,br w0,iS _ _⟩
 .rintro k6 x0 _ _ _ L ⟨hSd,s2,h1⟩ hme;refine Wu ?_ hSd;refine Wq<|Wm z<|Rm z ?_
  have V:=G.e s2;refine R z (lnR e_V z V)<|Rl z z z<|Wx z (λ_=>?_) (λhc=>(Q_ L hc).elim)
  refine Wk<|Wq<|Wb<|Wm z<|Rm z ?_
  obtain ⟨xf,eg,hmh⟩:=bdS hme;refine RX z (at_ (α:=b_) e_V z_60 z z z V eg) ?_;rintro _ ⟨_,_,_,rfl,hi,hj,_⟩;obtain ⟨ak,nl,cm,an,no,cp,aq,nr,cs,au,nt,cv,rfl,hw,hx,hy,hz,a3,a4,a5⟩:=a_F hj;refine R z (lN (vs:=vR xf ak nl cm an no cp aq nr cs au nt cv) g_60 z_60 z z fid hi)<|Rm z ?_
  obtain ⟨a6,a7,O⟩:=bdS hmh;refine E z (fc call26 z<|W_w2b a7 (zt' a2 s2.s) hw hx hy hz a3 a4 a5 h1) ?_;rintro _ _ ⟨sa,rfl,a8⟩;refine Rw z<|Wm z<|Rl z z z<|Wx z (λI=>?_) (λI=>?_)
  .exact Ws<|Rw z<|Wr<|rtO<|qL (som<|ifT O I).symm<|c_ hr z ⟨bup s2 sa,z,ii z⟩
  exact Wk<|Wg<|Rm z<|R z (inc_ L (lt_ (repS.len G) B_) z z)<|Ra z<|Wl (λ_ q=>⟨a6,(som<|ifF O I).symm,⟨q.k<|s3 z z z,bup s2 sa,a8⟩⟩)
 .rintro x0 _ _ ⟨W,sb,h1⟩;refine Wu ?_ W;refine Wq<|Wm z<|Rm z<|R z (lnR e_V z<|G.e sb)<|Rl z z z<|Wx z (λhc=>(R_ hc).elim) (λ_=>?_)
  exact We<|λ_ q=>⟨rfl,⟨q.k<|s1 z,sb,h1⟩⟩
 .rintro x0 a9 _ rfl ⟨_,aa,h1⟩;have Y:=elL J;revert a9;refine Wo<|Wm z<|Rw z ?_
  obtain rfl:=som Y;exact Wr<|c_ hr z ⟨aa,z,h1⟩
 rintro _ _ _ _ rfl ⟨rfl,a0⟩;have a1:=elR J;obtain rfl:=som a1;exact ⟨a0,z⟩
theorem W_w2d {x1:d_}{x2:Int}{res:Int}(hm:h_f x1 x2=some res)(O:B<=w0.z)(J:repS w0 B (sl A0 N0 C0) x1.rules)(L:inI x2):i_ prog 4 [(.agg #[sl A0 N0 C0]),vI x2] w0 (Q0 w0 B res):=by
 unfold h_f at hm
 refine goG func4 z z z λfn hr=>Ws<|E z (fb z) ?_
 rintro _ V ⟨rfl,h2⟩;have G:=h2.below;refine Rw z<|Ws<|Rf z p_5 z<|R z (l0 g_22 z<|(h2.blk:Blk V w0.z [sl A0 N0 C0]).at z)<|Rm z ?_
 obtain ⟨_,W,I⟩:=bdS hm;refine E z (fc call16 z<|W_w2c W (zt' O G.s) (J.e G) L) ?_;rintro _ _ ⟨s4,rfl,Y⟩;refine Rw z<|Wq<|Wm z<|Rl z z z<|Wx z (λH=>?_) (λH=>?_)
 .refine Ws<|Rw z ?_
  obtain rfl:=som<|ifT I H;exact Wr<|c_ hr z ⟨bup G s4,z,ii z⟩
 refine Wk<|Wm z<|Rw z ?_
 obtain rfl:=som<|ifF I H;exact Wr<|c_ hr z ⟨bup G s4,z,Y⟩
def Q1 (w0:World)(B:Zone)(r:Bt)(v:Value)(w':World):Prop:=Bw w0 w'/\(λJ=>∃G H I S1,(sl G H I)=v/\a_ w' S1 (sl G H I) J/\S1.Nodup/\(∀k∈S1,w0.z<=k)) r
theorem i_g {x1:Bt}{res:Bt}(hm:e_5 x1=some res)(Y:B<=w0.z)(W:repS w0 B (sl A0 N0 C0) x1):i_ prog 7 [sl A0 N0 C0] w0 (Q1 w0 B res):=by
 unfold e_5 at hm
 refine goG func7 z z z λfn hr=>Ws<|Rw z<|Wm z<|R z (lnR o_ z W) ?_
 obtain ⟨_,ej,hmk⟩:=bdS hm;refine E z (d_P (α:=UInt8) b_I (λ_=>q_e) ej z z) ?_;rintro _ H ⟨I,J,L,rfl,s9,hl⟩;refine Rw z<|Wq<|Ws<|Rw z ?_
 obtain ⟨_,hum,hmb⟩:=bdS hmk;refine Wf (σ:=Bt) (ρ:=Bt) (λ(kc:Nat)(x2:Bt) a w=>∃(G:List Nat),Sat 22 [(0,sl A0 N0 C0),(3,sl I J L),(4,vI ((kc:Nat):Int))] a/\Cg [w0.z] H w/\a_ w G (sl I J L) x2/\G.Nodup/\(∀k∈G,k∈[w0.z]∨H.z<=k)) (λ(x2:Bt) a w=>∃(G:List Nat),Sat 22 [(3,sl I J L)] a/\Cg [w0.z] H w/\a_ w G (sl I J L) x2/\G.Nodup/\(∀k∈G,k∈[w0.z]∨H.z<=k)) (rQ prog fn<|Q1 w0 B) hum ?_ ?_ ?_ ?_ ?_
 .exact λ_ q=>⟨[w0.z],q.k<|s3 z z z,cr [w0.z] H,hl,a_I,io sr⟩
 .rintro kc x2 _ wn _ hkd ⟨G,hSo,sa,h3,O,V⟩ hmp;refine Wu ?_ hSo;refine Wq<|Wm z<|Rm z ?_
  have he:=W.g<|(s9.ag B).c sa<|e_ (or0 (f_ lr) (p_ Y):∀k∈[w0.z],¬B k)
  refine R z (lnR o_ z he)<|Rl z z z<|Wx z (λ_=>?_) (λhc=>(Q_ hkd hc).elim)
  refine Wk<|Wq<|Wb<|Wg<|RM z z<|RM z z ?_
  obtain ⟨_,er,hms⟩:=bdS hmp;refine RX z (at_ (α:=UInt8) o_ z_5 z z z he er) ?_;rintro _ ⟨_,_,_,rfl,ht,hu,_⟩;obtain rfl:=u8 hu;refine R z (l0 g_5 z<|ht.at0 z) ?_;obtain ⟨xv,ef,hmw⟩:=bdS hms;refine RX z (b_8 (α:=UInt8) o_ z_5 z z h3 ef) ?_;rintro _ ⟨_,hx,rfl⟩;refine E0 (b_9 (α:=UInt8) z_5 z hx z z z ef h3 O e_n an_ U_) ?_;rintro _ wy ⟨Sg,sz,a5,a6,a7⟩;refine Wn<|Wg<|Rm z<|R z (inc_ hkd (lt_ (repS.len W) B_) z z)<|Ra z<|Wl ?_
  have hh:∀k∈G,k∈[w0.z]∨H.z<=k:=or1 V (io sr)<|l_ lr;exact λ_ q=>⟨xv,(som hmw).symm,⟨Sg,q.k<|s3 z z z,(cM (cM (cr [w0.z] H) sa (io sr):Cg [w0.z] H wn) sz hh:Cg [w0.z] H wy),a5,a6,(or2 a7 hh an_ (l_ sa.s):∀k∈Sg,k∈[w0.z]∨H.z<=k)⟩⟩
 .rintro x2 _ a8 ⟨G,a0,si,h3,O,V⟩;refine Wu ?_ a0;refine Wq<|Wm z<|Rm z ?_
  refine R z (lnR o_ z<|W.g<|(s9.ag B).c si<|e_ (or0 (f_ lr) (p_ Y):∀k∈[w0.z],¬B k))<|Rl z z z<|Wx z (λhc=>(R_ hc).elim) (λ_=>?_)
  exact We<|λ_ q=>⟨rfl,⟨G,q.k<|s1 z,(cM (cr [w0.z] H) si (io sr):Cg [w0.z] H a8),h3,O,(or1 V (io sr) (l_ lr):∀k∈G,k∈[w0.z]∨H.z<=k)⟩⟩
 .rintro x2 a9 _ rfl ⟨G,_,aa,h3,O,V⟩;have a1:=elL hmb;revert a9;refine Wo<|Wm z<|Rw z ?_
  obtain rfl:=som a1;exact Wr<|c_ hr z ⟨bM s9 aa<|f_ lr,I,J,L,G,z,h3,O,(or1 V (f_ lr) (c_i s9.s):∀k∈G,w0.z<=k)⟩
 rintro _ _ _ _ rfl ⟨rfl,a2⟩;have a3:=elR hmb;obtain rfl:=som a3;exact ⟨a2,z⟩
def Q2 (w0:World)(B:Zone)(r:(List Str))(v:Value)(w':World):Prop:=Bw w0 w'/\(λJ=>∃G H I S1,(sl G H I)=v/\a_ w' S1 (sl G H I) J/\S1.Nodup/\(∀k∈S1,w0.z<=k)) r
theorem W_w2e {x1:List Str}{res:(List Str)}(hm:h_g x1=some res)(Y:B<=w0.z)(W:repS w0 B (sl A0 N0 C0) x1):i_ prog 58 [sl A0 N0 C0] w0 (Q2 w0 B res):=by
 unfold h_g at hm
 refine goG func58 z z z λfn hr=>Ws<|Rw z<|Wm z<|R z (lnR D_ z W) ?_
 obtain ⟨_,ej,hmk⟩:=bdS hm;refine E z (d_P (α:=Str) a_w (λ_=>b_k<|lb z) ej z z) ?_;rintro _ H ⟨I,J,L,rfl,s9,hl⟩;refine Rw z<|Wq<|Ws<|Rw z ?_
 obtain ⟨_,hum,hmb⟩:=bdS hmk;refine Wf (σ:=List Str) (ρ:=List Str) (λ(kc:Nat)(x2:List Str) a w=>∃(G:List Nat),Sat 22 [(0,sl A0 N0 C0),(3,sl I J L),(4,vI ((kc:Nat):Int))] a/\Cg [w0.z] H w/\a_ w G (sl I J L) x2/\G.Nodup/\(∀k∈G,k∈[w0.z]∨H.z<=k)) (λ(x2:List Str) a w=>∃(G:List Nat),Sat 22 [(3,sl I J L)] a/\Cg [w0.z] H w/\a_ w G (sl I J L) x2/\G.Nodup/\(∀k∈G,k∈[w0.z]∨H.z<=k)) (rQ prog fn<|Q2 w0 B) hum ?_ ?_ ?_ ?_ ?_
 .exact λ_ q=>⟨[w0.z],q.k<|s3 z z z,cr [w0.z] H,hl,a_I,io sr⟩
 .rintro kc x2 _ wn _ hkd ⟨G,hSo,sa,h3,O,V⟩ hmp;refine Wu ?_ hSo;refine Wq<|Wm z<|Rm z ?_
  have he:=W.g<|(s9.ag B).c sa<|e_ (or0 (f_ lr) (p_ Y):∀k∈[w0.z],¬B k)
  refine R z (lnR D_ z he)<|Rl z z z<|Wx z (λ_=>?_) (λhc=>(Q_ hkd hc).elim)
  refine Wk<|Wq<|Wb<|Wg<|RM z z<|RM z z ?_
  obtain ⟨_,er,hms⟩:=bdS hmp;refine RX z (at_ (α:=Str) D_ z_9 z z z he er) ?_;rintro _ ⟨_,_,_,rfl,ht,hu,_⟩;obtain ⟨rfl,hv⟩:=a_h hu;refine R z (l0 g_9 z<|ht.at0 z) ?_;obtain ⟨xw,ef,hmx⟩:=bdS hms;refine RX z (b_8 (α:=Str) D_ z_9 z z h3 ef) ?_;rintro _ ⟨_,hy,rfl⟩;refine E0 (b_9 (α:=Str) z_9 z hy z z z ef h3 O (b_k hv) an_ U_) ?_;rintro _ wz ⟨Sg,a5,a6,a7,a8⟩;refine Wn<|Wg<|Rm z<|R z (inc_ hkd (lt_ (repS.len W) B_) z z)<|Ra z<|Wl ?_
  have hh:∀k∈G,k∈[w0.z]∨H.z<=k:=or1 V (io sr)<|l_ lr;exact λ_ q=>⟨xw,(som hmx).symm,⟨Sg,q.k<|s3 z z z,(cM (cM (cr [w0.z] H) sa (io sr):Cg [w0.z] H wn) a5 hh:Cg [w0.z] H wz),a6,a7,(or2 a8 hh an_ (l_ sa.s):∀k∈Sg,k∈[w0.z]∨H.z<=k)⟩⟩
 .rintro x2 _ a9 ⟨G,a0,si,h3,O,V⟩;refine Wu ?_ a0;refine Wq<|Wm z<|Rm z ?_
  refine R z (lnR D_ z<|W.g<|(s9.ag B).c si<|e_ (or0 (f_ lr) (p_ Y):∀k∈[w0.z],¬B k))<|Rl z z z<|Wx z (λhc=>(R_ hc).elim) (λ_=>?_)
  exact We<|λ_ q=>⟨rfl,⟨G,q.k<|s1 z,(cM (cr [w0.z] H) si (io sr):Cg [w0.z] H a9),h3,O,(or1 V (io sr) (l_ lr):∀k∈G,k∈[w0.z]∨H.z<=k)⟩⟩
 .rintro x2 aa _ rfl ⟨G,_,ab,h3,O,V⟩;have a1:=elL hmb;revert aa;refine Wo<|Wm z<|Rw z ?_
  obtain rfl:=som a1;exact Wr<|c_ hr z ⟨bM s9 ab<|f_ lr,I,J,L,G,z,h3,O,(or1 V (f_ lr) (c_i s9.s):∀k∈G,w0.z<=k)⟩
 rintro _ _ _ _ rfl ⟨rfl,a2⟩;have a3:=elR hmb;obtain rfl:=som a3;exact ⟨a2,z⟩
def Q3 (w0:World)(B:Zone)(r:(List Int))(v:Value)(w':World):Prop:=Bw w0 w'/\(λJ=>∃G H I S1,(sl G H I)=v/\a_ w' S1 (sl G H I) J/\S1.Nodup/\(∀k∈S1,w0.z<=k)) r
theorem W_w12 {x1:List Int}{res:(List Int)}(hm:g_c x1=some res)(Y:B<=w0.z)(W:repS w0 B (sl A0 N0 C0) x1):i_ prog 59 [sl A0 N0 C0] w0 (Q3 w0 B res):=by
 unfold g_c at hm
 refine goG func59 z z z λfn hr=>Ws<|Rw z<|Wm z<|R z (lnR x_ z W) ?_
 obtain ⟨_,ej,hmk⟩:=bdS hm;refine E z (d_P (α:=Int) l_E (λ_=>d_2<|ii z) ej z z) ?_;rintro _ H ⟨I,J,L,rfl,s9,hl⟩;refine Rw z<|Wq<|Ws<|Rw z ?_
 obtain ⟨_,hum,hmb⟩:=bdS hmk;refine Wf (σ:=List Int) (ρ:=List Int) (λ(kc:Nat)(x2:List Int) a w=>∃(G:List Nat),Sat 22 [(0,sl A0 N0 C0),(3,sl I J L),(4,vI ((kc:Nat):Int))] a/\Cg [w0.z] H w/\a_ w G (sl I J L) x2/\G.Nodup/\(∀k∈G,k∈[w0.z]∨H.z<=k)) (λ(x2:List Int) a w=>∃(G:List Nat),Sat 22 [(3,sl I J L)] a/\Cg [w0.z] H w/\a_ w G (sl I J L) x2/\G.Nodup/\(∀k∈G,k∈[w0.z]∨H.z<=k)) (rQ prog fn<|Q3 w0 B) hum ?_ ?_ ?_ ?_ ?_
 .exact λ_ q=>⟨[w0.z],q.k<|s3 z z z,cr [w0.z] H,hl,a_I,io sr⟩
 .rintro kc x2 _ wn _ hkd ⟨G,hSo,sa,h3,O,V⟩ hmp;refine Wu ?_ hSo;refine Wq<|Wm z<|Rm z ?_
  have he:=W.g<|(s9.ag B).c sa<|e_ (or0 (f_ lr) (p_ Y):∀k∈[w0.z],¬B k)
  refine R z (lnR x_ z he)<|Rl z z z<|Wx z (λ_=>?_) (λhc=>(Q_ hkd hc).elim)
  refine Wk<|Wq<|Wb<|Wg<|RM z z<|RM z z ?_
  obtain ⟨_,er,hms⟩:=bdS hmp;refine RX z (at_ (α:=Int) x_ z_3 z z z he er) ?_;rintro _ ⟨_,_,_,rfl,ht,hu,_⟩;obtain ⟨rfl,hv⟩:=T_ hu;refine R z (l0 g_3 z<|ht.at0 z) ?_;obtain ⟨xw,ef,hmx⟩:=bdS hms;refine RX z (b_8 (α:=Int) x_ z_3 z z h3 ef) ?_;rintro _ ⟨_,hy,rfl⟩;refine E0 (b_9 (α:=Int) z_3 z hy z z z ef h3 O (d_2 hv) an_ U_) ?_;rintro _ wz ⟨Sg,a5,a6,a7,a8⟩;refine Wn<|Wg<|Rm z<|R z (inc_ hkd (lt_ (repS.len W) B_) z z)<|Ra z<|Wl ?_
  have hh:∀k∈G,k∈[w0.z]∨H.z<=k:=or1 V (io sr)<|l_ lr;exact λ_ q=>⟨xw,(som hmx).symm,⟨Sg,q.k<|s3 z z z,(cM (cM (cr [w0.z] H) sa (io sr):Cg [w0.z] H wn) a5 hh:Cg [w0.z] H wz),a6,a7,(or2 a8 hh an_ (l_ sa.s):∀k∈Sg,k∈[w0.z]∨H.z<=k)⟩⟩
 .rintro x2 _ a9 ⟨G,a0,si,h3,O,V⟩;refine Wu ?_ a0;refine Wq<|Wm z<|Rm z ?_
  refine R z (lnR x_ z<|W.g<|(s9.ag B).c si<|e_ (or0 (f_ lr) (p_ Y):∀k∈[w0.z],¬B k))<|Rl z z z<|Wx z (λhc=>(R_ hc).elim) (λ_=>?_)
  exact We<|λ_ q=>⟨rfl,⟨G,q.k<|s1 z,(cM (cr [w0.z] H) si (io sr):Cg [w0.z] H a9),h3,O,(or1 V (io sr) (l_ lr):∀k∈G,k∈[w0.z]∨H.z<=k)⟩⟩
 .rintro x2 aa _ rfl ⟨G,_,ab,h3,O,V⟩;have a1:=elL hmb;revert aa;refine Wo<|Wm z<|Rw z ?_
  obtain rfl:=som a1;exact Wr<|c_ hr z ⟨bM s9 ab<|f_ lr,I,J,L,G,z,h3,O,(or1 V (f_ lr) (c_i s9.s):∀k∈G,w0.z<=k)⟩
 rintro _ _ _ _ rfl ⟨rfl,a2⟩;have a3:=elR hmb;obtain rfl:=som a3;exact ⟨a2,z⟩
def Q4 (w0:World)(B:Zone)(r:b_)(v:Value)(w':World):Prop:=Bw w0 w'/\(λG=>∃H I J S1 a2 L O S2 V W Y S3 a4 n4 c4 S4,(.agg #[Str.v G.name,vI G.kind,vI G.size,vB G.little,sl H I J,sl a2 L O,sl V W Y,sl a4 n4 c4])=v/\G.name.b.length<=LEN/\inI G.kind/\inI G.size/\a_ w' S1 (sl H I J) G.bytes/\a_ w' S2 (sl a2 L O) G.names/\a_ w' S3 (sl V W Y) G.tags/\a_ w' S4 (sl a4 n4 c4) G.kids/\(S1++(S2++(S3++S4))).Nodup/\(∀k∈(S1++(S2++(S3++S4))),w0.z<=k)) r
theorem W_w2f {x1:b_}{res:b_}(hm:h_h x1=some res)(L:B<=w0.z)(aE:x1.name.b.length<=LEN)(aF:inI x1.kind)(aG:inI x1.size)(aH:repS w0 B (sl AB NB CB) x1.bytes)(aI:repS w0 B (sl AA NA CA) x1.names)(aJ:repS w0 B (sl AC NC CC) x1.tags)(aK:repS w0 B (sl AD ND CD) x1.kids):i_ prog 32 [(.agg #[Str.v x1.name,vI x1.kind,vI x1.size,vB x1.little,sl AB NB CB,sl AA NA CA,sl AC NC CC,sl AD ND CD])] w0 (Q4 w0 B res):=by
 unfold h_h at hm
 refine goG func32 z z z λfn hr=>Ws<|E z (fb z) ?_
 rintro _ a7 ⟨rfl,a8⟩;have hw:=a8.below;have a9:Blk a7 w0.z (vR x1 AB NB CB AA NA CA AC NC CC AD ND CD):=a8.blk;refine E z (fa b_S) ?_;rintro _ Y ⟨rfl,aa⟩;have hp:=aa.below;have hh:Blk Y a7.z [(Str.v (⟨[]⟩:Str)),vI 0,vI 0,vB false,sN,sN,sN,sN]:=aa.blk;refine Wn<|Ws<|E z (fa b_S) ?_
 rintro _ aP ⟨rfl,ab⟩;have hi:=ab.below;have hq:Blk aP Y.z [(Str.v (⟨[]⟩:Str)),vI 0,vI 0,vB false,sN,sN,sN,sN]:=ab.blk;refine Wn<|Ws<|Rf z p_7 z ?_
 have ad:=(a9.e hp).e hi;refine R z (l0 g_9 z<|ad.at z)<|Rf z d_J z<|E0 (fs0 (cur':=[Str.v x1.name,vI 0,vI 0,vB false,sN,sN,sN,sN]) z_9 z z hq z z z z) ?_
 rintro _ _ ⟨aQ,aR⟩;have I:=aR.one;refine Wn<|Ws<|Rf z f_60_1 z ?_
 have J:=mm1 a9.lt hp.s;have af:=ad.c I<|djs J
 refine R z (l0 g_3 z<|af.at z)<|Rf z a_o z<|E0 (fs0 (cur':=[Str.v x1.name,vI x1.kind,vI 0,vB false,sN,sN,sN,sN]) z_3 z z aQ z z z z) ?_
 rintro _ _ ⟨aS,aT⟩;have ha:=aT.one;refine Wn<|Ws<|Rf z f_60_2 z ?_
 have ah:=af.c ha<|djs J
 refine R z (l0 g_3 z<|ah.at z)<|Rf z a_H z<|E0 (fs0 (cur':=[Str.v x1.name,vI x1.kind,vI x1.size,vB false,sN,sN,sN,sN]) z_3 z z aS z z z z) ?_
 rintro _ _ ⟨aU,aV⟩;have hb:=aV.one;refine Wn<|Ws<|Rf z f_60_3 z ?_
 have ai:=ah.c hb<|djs J
 refine R z (l0 g_4 z<|ai.at z)<|Rf z d_k z<|E0 (fs0 (cur':=vR x1 none 0 0 none 0 0 none 0 0 none 0 0) z_4 z z aU z z z z) ?_
 rintro _ _ ⟨aW,aX⟩;have hc:=aX.one;refine Wn<|Ws<|Rf z p_8 z ?_
 have ak:=ai.c hc<|djs J
 refine R z (l0 X_ z<|ak.at z) ?_;have a0:=lt_ hw.s hp.s;have hd:∀k∈[Y.z],¬B k:=or0 (f_ lr)<|p_<|zt' L a0;have al:=((((((hw.ag B).e hp).e hi).c I<|e_ hd).c ha<|e_ hd).c hb<|e_ hd).c hc<|e_ hd
 have a1:=lt_ (lt_ (lt_ (lt_ (lt_ a0 hi.s) I.s) ha.s) hb.s) hc.s;obtain ⟨_,aY,aL⟩:=bdS hm;refine E z (fc call7 z<|i_g aY (zt' L a1)<|aH.g al) ?_;rintro _ _ ⟨s5,ae,nf,cg,aZ,rfl,hx,b0,a2⟩;refine Rf z b_f z<|E0 (fs0 (cur':=vR x1 ae nf cg none 0 0 none 0 0 none 0 0) z_25 z z (aW.e s5) z z z z) ?_
 rintro _ _ ⟨b1,b2⟩;have h3:=b2.one;refine Wn<|Ws<|Rf z p_9 z ?_
 have am:=(ak.e s5).c h3<|djs J
 refine R z (l0 a_t z<|am.at z) ?_;have an:=(al.e s5).c h3<|e_ hd
 have a3:=lt_ (lt_ a1 s5.s) h3.s;obtain ⟨_,b3,aM⟩:=bdS aL;refine E z (fc call58 z<|W_w2e b3 (zt' L a3)<|aI.g an) ?_;rintro _ _ ⟨s4,aj,nk,cl,b4,rfl,a4,b5,hy⟩;refine Rf z b_R z<|E0 (fs0 (cur':=vR x1 ae nf cg aj nk cl none 0 0 none 0 0) c_L z z (b1.e s4) z z z z) ?_
 rintro _ _ ⟨b6,b7⟩;have h1:=b7.one;refine Wn<|Ws<|Rf z p_a z ?_
 have ao:=(am.e s4).c h1<|djs J
 refine R z (l0 E_ z<|ao.at z) ?_;have ap:=(an.e s4).c h1<|e_ hd
 have a5:=lt_ (lt_ a3 s4.s) h1.s;obtain ⟨_,b8,aN⟩:=bdS aM;refine E z (fc call59 z<|W_w12 b8 (zt' L a5)<|aJ.g ap) ?_;rintro _ _ ⟨s2,ar,ns,ct,b9,rfl,aq,ba,hu⟩;refine Rf z b_g z<|E0 (fs0 (cur':=vR x1 ae nf cg aj nk cl ar ns ct none 0 0) z_58 z z (b6.e s2) z z z z) ?_
 rintro _ _ ⟨bb,bc⟩;have G:=bc.one;refine Wn<|Ws<|Rf z p_b z<|R z (l0 E_ z<|((ao.e s2).c G<|djs J).at z) ?_
 have au:=lt_ (lt_ a5 s2.s) G.s;obtain ⟨_,be,aO⟩:=bdS aN;refine E z (fc call59 z<|W_w12 be (zt' L au)<|aK.g<|(ap.e s2).c G<|e_ hd) ?_;rintro _ _ ⟨sm,az,O,V,bf,rfl,bg,bh,hn⟩;refine Rf z P_ z<|E0 (fs0 (cur':=vR x1 ae nf cg aj nk cl ar ns ct az O V) z_58 z z (bb.e sm) z z z z) ?_
 rintro _ _ ⟨bi,bj⟩;have ho:=bj.one;refine Wn<|Ws<|R z (lN (vs:=vR x1 ae nf cg aj nk cl ar ns ct az O V) H_ m_ z z fid<|bi.row 0 8 z) ?_
 have h6:=mmr hh.lt;refine E0 (fs0 (cur':=vR x1 ae nf cg aj nk cl ar ns ct az O V) m_ z z (((((((((((((hh.e hi).c I<|djs h6).c ha<|djs h6).c hb<|djs h6).c hc<|djs h6).e s5).c h3<|djs h6).e s4).c h1<|djs h6).e s2).c G<|djs h6).e sm).c ho<|djs h6) z z z z) ?_;rintro _ _ ⟨bk,bm⟩;have hv:=bm.one;refine Wn ?_;obtain rfl:=som aO;have av:=lt_ (lt_ (lt_ I.s ha.s) hb.s) hc.s;have W:=t_ a2 hq.lt av;have aw:=lt_ (lt_ (lt_ (lt_ hi.s I.s) ha.s) hb.s) hc.s;have ax:=lt_ (lt_ av s5.s) h3.s;have a6:=t_ hy hq.lt ax;have ay:=lt_ (lt_ aw s5.s) h3.s;have aA:=lt_ (lt_ ax s4.s) h1.s;have aB:=t_ hu hq.lt aA;have aC:=lt_ (lt_ ay s4.s) h1.s;have H:=m1 a0;have aD:=lt_ (lt_ h3.s s4.s) h1.s;exact Wr<|c_ hr (s_ H_ m_ z bk z) ⟨bM (bM (bup (bM (bup (bM (bup (bM (bup (bM (bM (bM (bM (bup (bup hw hp) hi) I H) ha H) hb H) hc H) s5) h3 H) s4) h1 H) s2) G H) sm) ho H) hv<|m1 hw.s,ae,nf,cg,aZ,aj,nk,cl,b4,ar,ns,ct,b9,az,O,V,bf,z,aE,aF,aG,(((((((hx.c h3 W).e s4).c h1 W).e s2).c G W).e sm).c ho W).c hv<|t_ a2 hh.lt aw,(((((a4.c h1 a6).e s2).c G a6).e sm).c ho a6).c hv<|t_ hy hh.lt ay,(((aq.c G aB).e sm).c ho aB).c hv<|t_ hu hh.lt aC,(bg.c ho<|t_ hn hq.lt<|lt_ (lt_ aA s2.s) G.s).c hv<|t_ hn hh.lt<|lt_ (lt_ aC s2.s) G.s,na_ b0 (na_ b5 (na_ ba bh<|ds<|a_M hn (a_.lt aq) G.s)<|nmA (ds<|a_M hu (a_.lt a4) h1.s)<|ds<|a_M hn (a_.lt a4)<|lt_ (lt_ h1.s s2.s) G.s)<|nmA (ds<|a_M hy (a_.lt hx) h3.s)<|nmA (ds<|a_M hu (a_.lt hx) aD)<|ds<|a_M hn (a_.lt hx)<|lt_ (lt_ aD s2.s) G.s,aa_ (n_ a2 a1)<|aa_ (n_ hy a3)<|aa_ (n_ hu a5)<|n_ hn au⟩
def Q5 (w0:World)(B:Zone)(r:(List b_))(v:Value)(w':World):Prop:=Bw w0 w'/\(λJ=>∃G H I S1,(sl G H I)=v/\a_ w' S1 (sl G H I) J/\S1.Nodup/\(∀k∈S1,w0.z<=k)) r
theorem W_w2g {x1:List b_}{res:(List b_)}(hm:j_P x1=some res)(V:B<=w0.z)(O:repS w0 B (sl A0 N0 C0) x1):i_ prog 19 [sl A0 N0 C0] w0 (Q5 w0 B res):=by
 unfold j_P at hm
 refine goG func19 z z z λfn hr=>Ws<|Rw z<|Wm z<|R z (lnR e_V z O) ?_
 obtain ⟨_,er,hms⟩:=bdS hm;refine E z (d_P (α:=b_) el_29 (λ_=>d_o (x:=(⟨(⟨[]⟩:Str),0,0,false,([]:Bt),([]:List Str),([]:List Int),([]:List Int)⟩:b_)) (S1:=([]:List Nat)) (S2:=([]:List Nat)) (S3:=([]:List Nat)) (S4:=([]:List Nat)) (lb z) (ii z) (ii z) onL onL onL onL) er z z) ?_;rintro _ G ⟨I,J,L,rfl,sa,ht⟩;refine Rw z<|Wq<|Ws<|Rw z ?_
 obtain ⟨_,huu,hme⟩:=bdS hms;refine Wf (σ:=List b_) (ρ:=List b_) (λ(kf:Nat)(x6:List b_) a w=>∃(H:List Nat),Sat 23 [(0,sl A0 N0 C0),(3,sl I J L),(4,vI ((kf:Nat):Int))] a/\Cg [w0.z] G w/\a_ w H (sl I J L) x6/\H.Nodup/\(∀k∈H,k∈[w0.z]∨G.z<=k)) (λ(x6:List b_) a w=>∃(H:List Nat),Sat 23 [(3,sl I J L)] a/\Cg [w0.z] G w/\a_ w H (sl I J L) x6/\H.Nodup/\(∀k∈H,k∈[w0.z]∨G.z<=k)) (rQ prog fn<|Q5 w0 B) huu ?_ ?_ ?_ ?_ ?_
 .exact λ_ q=>⟨[w0.z],q.k<|s3 z z z,cr [w0.z] G,ht,a_I,io sr⟩
 .rintro kf x6 _ wv _ hkg ⟨H,hSw,s4,h3,hb,hd⟩ hmx;refine Wu ?_ hSw;refine Wq<|Wm z<|Rm z ?_
  have hh:=O.g<|(sa.ag B).c s4<|e_ (or0 (f_ lr) (p_ V):∀k∈[w0.z],¬B k)
  refine R z (lnR e_V z hh)<|Rl z z z<|Wx z (λ_=>?_) (λhc=>(Q_ hkg hc).elim)
  refine Wk<|Wq<|Wb<|Wg<|RM z z<|RM z z ?_
  obtain ⟨xz,a5,W⟩:=bdS hmx;refine RX z (at_ (α:=b_) e_V z_60 z z z hh a5) ?_;rintro _ ⟨_,_,_,rfl,a6,a8,_⟩;obtain ⟨a9,aa,ab,ad,ae,af,ah,ai,aj,ak,al,am,rfl,an,ao,ap,aq,ar,au,av⟩:=a_F a8;refine R z (lN (vs:=vR xz a9 aa ab ad ae af ah ai aj ak al am) g_60 z_60 z z fid a6) ?_;obtain ⟨aw,ax,Y⟩:=bdS W;refine E z (fc call32 z<|W_w2f ax (zt' V<|lt_ sa.s s4.s) an ao ap aq ar au av) ?_;rintro _ ay ⟨sc,_,_,_,Si,_,_,_,Sj,_,_,_,Sk,_,_,_,Sl,rfl,az,aA,aB,aC,aD,aE,aF,h2,h5⟩;obtain ⟨aG,em,a0⟩:=bdS Y;have hn:=h3.e sc;refine RX z (b_8 (α:=b_) V_ m_ z z hn em) ?_;rintro _ ⟨_,aH,rfl⟩;refine E0 (b_9 (α:=b_) m_ z aH z z z em hn hb (d_o (x:=aw) (S1:=Si) (S2:=Sj) (S3:=Sk) (S4:=Sl) az aA aB aC aD aE aF) (aa_ (a_M (al_ h5) (a_.lt h3) lr)<|aa_ (a_M (al_<|ar_ h5) (a_.lt h3) lr)<|aa_ (a_M (al_<|ar_<|ar_ h5) (a_.lt h3) lr)<|a_M (ar_<|ar_<|ar_ h5) (a_.lt h3) lr)<|na_ (nl_ h2) (na_ (nl_<|nr_ h2) (na_ (nl_<|nr_<|nr_ h2) (nr_<|nr_<|nr_ h2)<|nj<|nr_<|nr_ h2)<|nmA (nmL<|nj<|nr_ h2)<|nmR<|nj<|nr_ h2)<|nmA (nmL<|nj h2)<|nmA (nmL<|nmR<|nj h2)<|nmR<|nmR<|nj h2) ?_;rintro _ aI ⟨So,aJ,aK,aL,aM⟩;refine Wn<|Wg<|Rm z<|R z (inc_ hkg (lt_ (repS.len O) B_) z z)<|Ra z<|Wl ?_
  have hp:∀k∈H,k∈[w0.z]∨G.z<=k:=or1 hd (io sr)<|l_ lr;exact λ_ q=>⟨aG,(som a0).symm,⟨So,q.k<|s3 z z z,(cM (j_ (cM (cr [w0.z] G) s4 (io sr):Cg [w0.z] G wv) sc:Cg [w0.z] G ay) aJ hp:Cg [w0.z] G aI),aK,aL,(or2 aM hp (aa_ (or0 (al_ h5) (l_ s4.s):∀k∈Si,k∈[w0.z]∨G.z<=k)<|aa_ (or0 (al_<|ar_ h5) (l_ s4.s):∀k∈Sj,k∈[w0.z]∨G.z<=k)<|aa_ (or0 (al_<|ar_<|ar_ h5) (l_ s4.s):∀k∈Sk,k∈[w0.z]∨G.z<=k) (or0 (ar_<|ar_<|ar_ h5) (l_ s4.s):∀k∈Sl,k∈[w0.z]∨G.z<=k)) (l_<|lt_ s4.s sc.s):∀k∈So,k∈[w0.z]∨G.z<=k)⟩⟩
 .rintro x6 _ aN ⟨H,a1,sq,h3,hb,hd⟩;refine Wu ?_ a1;refine Wq<|Wm z<|Rm z ?_
  refine R z (lnR e_V z<|O.g<|(sa.ag B).c sq<|e_ (or0 (f_ lr) (p_ V):∀k∈[w0.z],¬B k))<|Rl z z z<|Wx z (λhc=>(R_ hc).elim) (λ_=>?_)
  exact We<|λ_ q=>⟨rfl,⟨H,q.k<|s1 z,(cM (cr [w0.z] G) sq (io sr):Cg [w0.z] G aN),h3,hb,(or1 hd (io sr) (l_ lr):∀k∈H,k∈[w0.z]∨G.z<=k)⟩⟩
 .rintro x6 aO _ rfl ⟨H,_,aP,h3,hb,hd⟩;have a2:=elL hme;revert aO;refine Wo<|Wm z<|Rw z ?_
  obtain rfl:=som a2;exact Wr<|c_ hr z ⟨bM sa aP<|f_ lr,I,J,L,H,z,h3,hb,(or1 hd (f_ lr) (c_i sa.s):∀k∈H,w0.z<=k)⟩
 rintro _ _ _ _ rfl ⟨rfl,a3⟩;have a4:=elR hme;obtain rfl:=som a4;exact ⟨a3,z⟩
def Q6 (w0:World)(B:Zone)(r:d_)(v:Value)(w':World):Prop:=Bw w0 w'/\(λJ=>∃G H I S1,(.agg #[.slice G H I])=v/\a_ w' S1 (sl G H I) J.rules/\S1.Nodup/\(∀k∈S1,w0.z<=k)) r
theorem k_8 {x1:d_}{res:d_}(hm:e_D x1=some res)(W:B<=w0.z)(V:repS w0 B (sl A0 N0 C0) x1.rules):i_ prog 6 [(.agg #[sl A0 N0 C0])] w0 (Q6 w0 B res):=by
 unfold e_D at hm
 refine goG func6 z z z λfn hr=>Ws<|E z (fb z) ?_
 rintro _ wa ⟨rfl,hb⟩;have h1:=hb.below;refine E z (fa l_F) ?_;rintro _ wc ⟨rfl,hd⟩;have h2:=hd.below;have h6:Blk wc wa.z [sN]:=hd.blk;refine Wn<|Ws<|E z (fa l_F) ?_
 rintro _ wk ⟨rfl,he⟩;have G:=he.below;have hf:Blk wk wc.z [sN]:=he.blk;refine Wn<|Ws<|Rf z p_5 z<|R z (l0 g_22 z<|(((hb.blk:Blk wa w0.z [sl A0 N0 C0]).e h2).e G).at z) ?_
 have hg:=lt_ h1.s h2.s;have hh:=lt_ hg G.s;obtain ⟨_,el,hmm⟩:=bdS hm;refine E z (fc call19 z<|W_w2g el (zt' W hh)<|V.g<|((h1.ag B).e h2).e G) ?_;rintro _ _ ⟨s7,H,I,J,Sn,rfl,ho,hp,L⟩;refine Rf z a_i z<|E0 (fs0 (cur':=[sl H I J]) z_29 z z (hf.e s7) z z z z) ?_
 rintro _ _ ⟨hq,sr⟩;have O:=sr.one;refine Wn<|Ws<|R z (lN (vs:=[sl H I J]) w_ v_ z z fid<|hq.row 0 1 z)<|E0 (fs0 (cur':=[sl H I J]) v_ z z (((h6.e G).e s7).c O<|djs<|mmr h6.lt) z z z z) ?_
 rintro _ _ ⟨ht,ss⟩;have hi:=ss.one;refine Wn ?_;obtain rfl:=som hmm;exact Wr<|c_ hr (s_ w_ v_ z ht z) ⟨bM (bM (bup (bup (bup h1 h2) G) s7) O<|m1 hg) hi<|m1 h1.s,H,I,J,Sn,z,(ho.c O<|t_ L hf.lt lr).c hi<|t_ L h6.lt G.s,hp,n_ L hh⟩
theorem k_9 {x1:d_}{res:Int}(hm:f_f x1=some res)(J:B<=w0.z)(H:repS w0 B (sl A0 N0 C0) x1.rules):i_ prog 49 [(.agg #[sl A0 N0 C0])] w0 (Q0 w0 B res):=by
 unfold f_f at hm
 refine goG func49 z z z λfn hr=>Ws<|E z (fb z) ?_
 rintro _ I ⟨rfl,G⟩;have h1:=G.below;refine Rw z<|Ws<|Rf z a_i z<|R z (l0 a_n z<|(G.blk:Blk I w0.z [sl A0 N0 C0]).at z)<|R z (lnR V_ z<|H.e h1)<|R z (sb_ z z)<|Rw z ?_
 obtain rfl:=som hm;exact Wr<|c_ hr z ⟨h1,z,iS _ _⟩
def Q7 (w0:World)(B:Zone)(r:Bool)(v:Value)(w':World):Prop:=Bw w0 w'/\(λG=>(vB G)=v) r
theorem b_K {x1:Int}{x2:Int}{x3:Int}{res:Bool}(hm:a_V x1 x2 x3=some res)(Y:B<=w0.z)(O:inI x1)(V:inI x2)(W:inI x3):i_ prog 99 [vI x1,vI x2,vI x3] w0 (Q7 w0 B res):=by
 unfold a_V at hm
 refine goG func99 z z z λfn hr=>Ws<|Rw z<|Wq ?_
 obtain ⟨J,H,I⟩:=bdS hm;refine Wt (λa w=>∃(x4:Bool),x4=J/\Sat 15 [(6,vB x4)] a/\Below w0.z w0 w) ?_ ?_
 .refine Wg<|RM z z<|R z (c_d z z)<|Rm z ?_
  rcases bs (decide<|x2<=x1) with G | G
  .exact Rh z G (mv z)<|Rh z G (mv z)<|Rh z G (b_N z z)<|R z (pT z G z)<|Ra z<|Wl (λ_ q=>⟨decide<|x1<=x3,som<|ifT H G,q.k<|s1 z,br w0⟩)
  iterate 3 refine Nh z G ?_
  exact R z (pF z G z)<|Ra z<|Wl (λ_ q=>⟨false,som<|ifF H G,q.k<|s1 z,br w0⟩)
 rintro L _ ⟨x4,rfl,_,s6⟩;revert L;refine Wo ?_;obtain rfl:=som I;exact Wr<|c_ hr z ⟨s6,z⟩
theorem l_H {x1:Str}{res:Bool}(hm:f_e x1=some res)(a9:B<=w0.z)(Y:x1.b.length<=LEN):i_ prog 133 [Str.v x1] w0 (Q7 w0 B res):=by
 unfold f_e at hm
 refine goG func133 z z z λfn hr=>Ws<|Rw z<|Wq<|Ws<|Rw z ?_
 obtain ⟨_,hus,hmc⟩:=bdS hm;refine Wf (σ:=Unit) (ρ:=Bool) (λ(k4:Nat)(_:Unit) a w=>Sat 45 [(0,Str.v x1),(3,vI ((k4:Nat):Int))] a/\Below w0.z w0 w) (λ(_:Unit) a w=>Sat 45 [(0,Str.v x1)] a/\Below w0.z w0 w) (rQ prog fn<|Q7 w0 B) hus ?_ ?_ ?_ ?_ ?_
 .exact λ_ q=>⟨q.k<|s2 z z,br w0⟩
 .rintro k4 _ _ O _ hkd ⟨hSt,se⟩ hmu;refine Wu ?_ hSt;refine Wq<|Wm z<|Rm z<|R z (lnT d_9 z)<|Rl z z z<|Wx z (λ_=>?_) (λhc=>(Q_ hkd hc).elim)
  refine Wk<|Wq<|Wb<|Wq ?_
  obtain ⟨uv,huw,hmx⟩:=bdS hmu;refine Wt (λa w=>∃(x5:Bool),x5=uv/\Sat 45 [(0,Str.v x1),(3,vI ((k4:Nat):Int)),(4,vB x5)] a/\Below O.z O w) ?_ ?_
  .refine Wg<|RM z z ?_
   obtain ⟨xy,ef,hmg⟩:=bdS huw;refine R z (c_0 d_9 z z (a_p ef).1 (a_p ef).2.1)<|R z (c_d z z)<|Rm z ?_
   rcases bs (decide<|(byteI (97:UInt8))<=(byteI xy)) with H | H
   .refine Rh z H (mv z)<|Rh z H (mv z) ?_
    obtain ⟨xz,eh,a0⟩:=bdS<|ifT hmg H;exact Rh z H (c_0 d_9 z z (a_p eh).1 (a_p eh).2.1)<|Rh z H (b_N z z)<|R z (pT z H z)<|Ra z<|Wl (λ_ q=>⟨decide<|(byteI xz)<=(byteI (122:UInt8)),som a0,q.k<|s3 z z z,br O⟩)
   iterate 4 refine Nh z H ?_
   exact R z (pF z H z)<|Ra z<|Wl (λ_ q=>⟨false,som<|ifF hmg H,q.k<|s3 z z z,br O⟩)
  rintro aa V ⟨x5,rfl,_,si⟩;revert aa;refine Wo<|Wq ?_
  obtain ⟨ab,a1,a2⟩:=bdS hmx;refine Wt (λa w=>∃(W:Bool),W=ab/\Sat 45 [(0,Str.v x1),(3,vI ((k4:Nat):Int)),(4,vB x5),(5,vB W)] a/\Below V.z V w) ?_ ?_
  .refine Wg<|RM z z ?_
   obtain ⟨ad,ej,hmk⟩:=bdS a1;refine R z (c_0 d_9 z z (a_p ej).1 (a_p ej).2.1)<|R z (c_d z z)<|Rm z ?_
   rcases bs (decide<|(byteI (48:UInt8))<=(byteI ad)) with I | I
   .refine Rh z I (mv z)<|Rh z I (mv z) ?_
    obtain ⟨ae,el,a3⟩:=bdS<|ifT hmk I;exact Rh z I (c_0 d_9 z z (a_p el).1 (a_p el).2.1)<|Rh z I (b_N z z)<|R z (pT z I z)<|Ra z<|Wl (λ_ q=>⟨decide<|(byteI ae)<=(byteI (57:UInt8)),som a3,q.k<|s4 z z z z,br V⟩)
   iterate 4 refine Nh z I ?_
   exact R z (pF z I z)<|Ra z<|Wl (λ_ q=>⟨false,som<|ifF hmk I,q.k<|s4 z z z z,br V⟩)
  rintro af L ⟨W,rfl,_,sm⟩;revert af;refine Wo<|Wq ?_
  obtain ⟨ah,hun,hmo⟩:=bdS a2;refine Wt (λa w=>∃(xa:Bool),xa=ah/\Sat 45 [(0,Str.v x1),(3,vI ((k4:Nat):Int)),(41,vB xa)] a/\Below L.z L w) ?_ ?_
  .refine Wg<|Rm z<|R z (not_ z)<|Rm z ?_
   rcases bs (!x5) with G | G
   .have hmp:=ifT hun G;refine Rh z G (mv z)<|Rh z G (not_ z)<|Rh z G (mv z) ?_
    rcases bs (!W) with J | J
    .exact Nh z J<|Nh z J<|Rh z G (pT z J z)<|R z (pT z G z)<|Wl (λ_ q=>⟨true,som<|ifT hmp J,q.k<|s3 z z z,br L⟩)
    exact Rh z J (mv z)<|Rh z J (eql z z)<|Rh z G (pF z J z)<|R z (pT z G z)<|Wl (λ_ q=>⟨((k4:Nat):Int)==0,som<|ifF hmp J,q.k<|s3 z z z,br L⟩)
   iterate 3 refine Nh z G ?_
   exact Nv z<|Nv z<|Nh z G<|R z (pF z G z)<|Wl (λ_ q=>⟨false,som<|ifF hun G,q.k<|s3 z z z,br L⟩)
  rintro ai _ ⟨xa,rfl,_,sq⟩;revert ai;refine Wo<|Wc z (λhcb=>?_) (λhcb=>?_)
  .exact Ws<|Rw z<|Wr<|rtO<|qL (som<|ifT hmo hcb).symm<|c_ hr z ⟨bup (bup (bup se si) sm) sq,z⟩
  exact Wk<|Wg<|Rm z<|R z (inc_ hkd (lt_ Y B_) z z)<|Ra z<|Wl (λ_ q=>⟨(),(som<|ifF hmo hcb).symm,⟨q.k<|s2 z z,bup (bup (bup se si) sm) sq⟩⟩)
 .rintro _ _ _ ⟨a4,aj⟩;refine Wu ?_ a4;refine Wq<|Wm z<|Rm z<|R z (lnT d_9 z)<|Rl z z z<|Wx z (λhc=>(R_ hc).elim) (λ_=>?_)
  exact We<|λ_ q=>⟨rfl,⟨q.k<|s1 z,aj⟩⟩
 .rintro _ ak _ rfl ⟨_,sr⟩;have a5:=elL hmc;revert ak;refine Wo<|Wm z<|R z (lnT d_9 z) ?_
  obtain ⟨_,al,a6⟩:=bdS a5;refine E z (fc call99 z<|b_K al (zt' a9 sr.s) (b_T Y) (ii z)<|ii z) ?_;rintro _ _ ⟨am,rfl⟩;refine Rw z ?_
  obtain rfl:=som a6;exact Wr<|c_ hr z ⟨bup sr am,z⟩
 rintro _ _ _ _ rfl ⟨rfl,a7⟩;have a8:=elR hmc;obtain rfl:=som a8;exact ⟨a7,z⟩
theorem e_f {x1:b_}{x2:Bool}{x3:Bool}{x4:Bool}{x5:Bool}{x6:Int}{res:Bool}(hm:c_H x1 x2 x3 x4 x5 x6=some res)(af:B<=w0.z)(aa:x1.name.b.length<=LEN)(ab:inI x1.kind)(ad:inI x1.size)(a1:repS w0 B (sl AB NB CB) x1.bytes)(a2:repS w0 B (sl AA NA CA) x1.names)(a3:repS w0 B (sl AC NC CC) x1.tags)(a4:repS w0 B (sl AD ND CD) x1.kids)(ae:inI x6):i_ prog 149 [(.agg #[Str.v x1.name,vI x1.kind,vI x1.size,vB x1.little,sl AB NB CB,sl AA NA CA,sl AC NC CC,sl AD ND CD]),vB x2,vB x3,vB x4,vB x5,vI x6] w0 (Q7 w0 B res):=by
 unfold c_H at hm
 refine goG func149 z z z λfn hr=>Ws<|E z (fb z) ?_
 rintro _ wc ⟨rfl,hf⟩;have hd:=hf.below;have hb:Blk wc w0.z (vR x1 AB NB CB AA NA CA AC NC CC AD ND CD):=hf.blk;refine Rw z<|Wq ?_
 obtain ⟨uw,hux,hmy⟩:=bdS hm;refine Wt (λa w=>∃(xe:Bool),xe=uw/\Sat 67 [(12,vB xe)] a/\Below wc.z wc w) ?_ ?_
 .refine Wg<|RM z z ?_
  obtain ⟨ug,huh,hmz⟩:=bdS hux;refine d_n 18 ug 4 ?_ ?_
  .rcases bs x2 with a0 | a0
   .iterate 3 refine Nh z a0 ?_
    exact R z (pT z a0 z)<|WLq 4 (ifT huh a0) z z z
   exact Rh z a0 (fd a_H z)<|Rh z a0 (l0 g_3 z<|hb.at z)<|Rh z a0 (eql z z)<|R z (pF z a0 z)<|WLq 4 (ifF huh a0) z z z
  refine Rm z ?_;obtain ⟨ui,huj,a5⟩:=bdS hmz;refine d_n 27 ui 8 ?_ ?_
  .rcases bs ug with H | H
   .have hmk:=ifT huj H;refine Rh z H (mv z)<|Rh z H (mv z) ?_
    rcases bs x3 with V | V
    .iterate 4 refine Nh z V ?_
     exact Rh z H (pT z V z)<|R z (pT z H z)<|WLq 8 (ifT hmk V) z z z
    exact Rh z V (fd b_f z)<|Rh z V (l0 X_ z<|hb.at z)<|Rh z V (lnR o_ z<|a1.e hd)<|Rh z V (eql z z)<|Rh z H (pF z V z)<|R z (pT z H z)<|WLq 8 (ifF hmk V) z z z
   exact Nh z H<|Nh z H<|Nv z<|Nv z<|Nv z<|Nv z<|Nh z H<|R z (pF z H z)<|WLq 8 (ifF huj H) z z z
  refine Rm z ?_;obtain ⟨ul,hum,a6⟩:=bdS a5;refine d_n 36 ul 8 ?_ ?_
  .rcases bs ui with I | I
   .have hmn:=ifT hum I;refine Rh z I (mv z)<|Rh z I (mv z) ?_
    rcases bs x4 with W | W
    .iterate 4 refine Nh z W ?_
     exact Rh z I (pT z W z)<|R z (pT z I z)<|WLq 8 (ifT hmn W) z z z
    exact Rh z W (fd b_R z)<|Rh z W (l0 a_t z<|hb.at z)<|Rh z W (lnR D_ z<|a2.e hd)<|Rh z W (eql z z)<|Rh z I (pF z W z)<|R z (pT z I z)<|WLq 8 (ifF hmn W) z z z
   exact Nh z I<|Nh z I<|Nv z<|Nv z<|Nv z<|Nv z<|Nh z I<|R z (pF z I z)<|WLq 8 (ifF hum I) z z z
  refine Rm z ?_;obtain ⟨uo,hup,a7⟩:=bdS a6;refine d_n 45 uo 8 ?_ ?_
  .rcases bs ul with J | J
   .have hmq:=ifT hup J;refine Rh z J (mv z)<|Rh z J (mv z) ?_
    rcases bs x5 with Y | Y
    .iterate 4 refine Nh z Y ?_
     exact Rh z J (pT z Y z)<|R z (pT z J z)<|WLq 8 (ifT hmq Y) z z z
    exact Rh z Y (fd b_g z)<|Rh z Y (l0 E_ z<|hb.at z)<|Rh z Y (lnR x_ z<|a3.e hd)<|Rh z Y (eql z z)<|Rh z J (pF z Y z)<|R z (pT z J z)<|WLq 8 (ifF hmq Y) z z z
   exact Nh z J<|Nh z J<|Nv z<|Nv z<|Nv z<|Nv z<|Nh z J<|R z (pF z J z)<|WLq 8 (ifF hup J) z z z
  refine Rm z ?_;obtain ⟨ur,hus,hmt⟩:=bdS a7;refine d_n 56 ur 10 ?_ ?_
  .rcases bs uo with L | L
   .have hmu:=ifT hus L;refine Rh z L (mv z)<|Rh z L (lss z z)<|Rh z L (mv z) ?_
    rcases bs (decide<|x6<0) with O | O
    .iterate 5 refine Nh z O ?_
     exact Rh z L (pT z O z)<|R z (pT z L z)<|WLq 10 (ifT hmu O) z z z
    exact Rh z O (fd P_ z)<|Rh z O (l0 E_ z<|hb.at z)<|Rh z O (lnR x_ z<|a4.e hd)<|Rh z O (mv z)<|Rh z O (eql z z)<|Rh z L (pF z O z)<|R z (pT z L z)<|WLq 10 (ifF hmu O) z z z
   iterate 3 refine Nh z L ?_
   exact Nv z<|Nv z<|Nv z<|Nv z<|Nv z<|Nh z L<|R z (pF z L z)<|WLq 10 (ifF hus L) z z z
  refine Rm z ?_
  rcases bs ur with G | G
  .have hmv:=ifT hmt G;refine Rh z G (fd d_k z)<|Rh z G (l0 g_4 z<|hb.at z)<|Rh z G (not_ z)<|Rh z G (mv z) ?_
   rcases bs (!x1.little) with hca | hca
   .iterate 3 refine Nh z hca ?_
    exact Rh z G (pT z hca z)<|R z (pT z G z)<|Ra z<|Wl (λ_ q=>⟨true,som<|ifT hmv hca,q.k<|s1 z,br wc⟩)
   exact Rh z hca (fd a_o z)<|Rh z hca (l0 g_3 z<|hb.at z)<|Rh z hca (eql z z)<|Rh z G (pF z hca z)<|R z (pT z G z)<|Ra z<|Wl (λ_ q=>⟨x1.kind==1,som<|ifF hmv hca,q.k<|s1 z,br wc⟩)
  iterate 4 refine Nh z G ?_
  exact Nv z<|Nv z<|Nv z<|Nh z G<|R z (pF z G z)<|Ra z<|Wl (λ_ q=>⟨false,som<|ifF hmt G,q.k<|s1 z,br wc⟩)
 rintro a8 _ ⟨xe,rfl,_,a9⟩;revert a8;refine Wo ?_;obtain rfl:=som hmy;exact Wr<|c_ hr z ⟨bup hd a9,z⟩
theorem W_w13 {x1:Int}{res:Int}(hm:e_E x1=some res)(J:B<=w0.z)(I:inI x1):i_ prog 153 [vI x1] w0 (Q0 w0 B res):=by
 unfold e_E at hm
 refine goG func153 z z z λfn hr=>Ws<|Rw z<|Wm z<|R z (f_M z z) ?_
 obtain ⟨_,H,G⟩:=bdS hm;refine R z (j_6 z z<|nnS H)<|Rw z ?_
 obtain rfl:=som G;exact Wr<|c_ hr z ⟨br w0,z,q_d<|ii z⟩
theorem i_h {x1:d_}{x2:Int}{res:Int}(hm:e_7 x1 x2=some res)(J:B<=w0.z)(I:repS w0 B (sl A0 N0 C0) x1.rules)(Y:inI x2):i_ prog 150 [(.agg #[sl A0 N0 C0]),vI x2] w0 (Q0 w0 B res):=by
 unfold e_7 at hm
 refine goG func150 z z z λfn hr=>Ws<|E z (fb z) ?_
 rintro _ O ⟨rfl,W⟩;have h2:=W.below;have h6:Blk O w0.z [sl A0 N0 C0]:=W.blk;refine Rw z<|Wq<|Wq ?_
 obtain ⟨uf,hug,hma⟩:=bdS hm;refine Wt (λa w=>∃(V:Bool),V=uf/\Sat 39 [(1,vI x2),(2,pt w0.z),(30,vB V)] a/\Below O.z O w) ?_ ?_
 .refine Wg<|Rm z<|Rf z a_i z<|R z (l0 a_n z<|h6.at z)<|R z (lnR V_ z<|I.e h2)<|R z (sb_ z z) ?_
  obtain ⟨rh,ei,hmb⟩:=bdS hug;refine E z (fc call99 z<|b_K ei (zt' J h2.s) Y (ii z)<|iS _ _) ?_;rintro _ _ ⟨s4,rfl⟩;refine R z (not_ z)<|Rm z ?_
  rcases bs (!rh) with H | H
  .iterate 7 refine Nh z H ?_
   exact R z (pT z H z)<|Rm z<|Nh z z<|Nh z z<|Nh z z<|Nh z z<|Nh z z<|Nh z z<|Nh z z<|Nh z z<|R z (pT z z z)<|Wl (λ_ q=>⟨true,som<|ifT hmb H,q.k<|s3 z z z,s4⟩)
  refine Rh z H (fd a_i z) ?_;have hc:=h6.e s4;refine Rh z H (l0 a_n z<|hc.at z)<|Rh z H (mv z) ?_
  obtain ⟨xj,ek,hmd⟩:=bdS<|ifF hmb H;have he:=I.g<|(h2.ag B).e s4
  refine RXg z z H z (at_ (α:=b_) V_ m_ z z z he ek) ?_;rintro _ ⟨_,_,_,rfl,hl,hn,_⟩;obtain ⟨_,_,_,_,_,_,_,_,_,_,_,_,rfl,_,_,_,_,_,_,_⟩:=a_F hn;refine Rh z H (fd a_o z)<|Rh z H (l0 g_3 z<|hl.at (j:=1) z)<|Rh z H (nq z z)<|R z (pF z H z)<|Rm z ?_
  rcases bs (xj.kind != 1) with G | G
  .iterate 8 refine Nh z G ?_
   exact R z (pT z G z)<|Wl (λ_ q=>⟨true,som<|ifT hmd G,q.k<|s3 z z z,s4⟩)
  refine Rh z G (fd a_i z)<|Rh z G (l0 a_n z<|hc.at z)<|Rh z G (mv z) ?_
  obtain ⟨_,em,hmo⟩:=bdS<|ifF hmd G;refine RXg z z G z (at_ (α:=b_) V_ m_ z z z he em) ?_;rintro _ ⟨_,_,_,rfl,hp,hq,_⟩;obtain ⟨_,_,_,_,_,_,_,_,_,_,_,_,rfl,_,_,ht,_,_,_,_⟩:=a_F hq;refine Rh z G (fd a_H z)<|Rh z G (l0 g_3 z<|hp.at (j:=2) z) ?_
  obtain ⟨rr,es,hmu⟩:=bdS hmo;refine Eg z z G z (fc call99 z<|b_K es (zt' J<|lt_ h2.s s4.s) ht (ii z)<|ii z) ?_;rintro _ _ ⟨sv,rfl⟩;exact Rh z G (not_ z)<|R z (pF z G z)<|Wl (λ_ q=>⟨!rr,som hmu,q.k<|s3 z z z,bup s4 sv⟩)
 rintro aw _ ⟨V,rfl,_,s5⟩;revert aw;refine Wo<|Wc z (λL=>?_) (λL=>?_)
 .refine Ws<|Rw z ?_
  obtain rfl:=som<|ifT hma L;exact Wr<|c_ hr z ⟨bup h2 s5,z,ii z⟩
 refine Wk<|Ws<|Rf z a_i z<|R z (l0 a_n z<|(h6.e s5).at z)<|Rm z ?_
 obtain ⟨_,ex,hmy⟩:=bdS<|ifF hma L;refine RX z (at_ (α:=b_) V_ m_ z z z (I.g<|(h2.ag B).e s5) ex) ?_;rintro _ ⟨_,_,_,rfl,hz,a1,_⟩;obtain ⟨_,_,_,_,_,_,_,_,_,_,_,_,rfl,_,_,a2,_,_,_,_⟩:=a_F a1;refine Rf z a_H z<|R z (l0 g_3 z<|hz.at (j:=2) z) ?_
 obtain ⟨_,a3,a0⟩:=bdS hmy;refine E z (fc call153 z<|W_w13 a3 (zt' J<|lt_ h2.s s5.s) a2) ?_;rintro _ _ ⟨a4,rfl,_⟩;refine R z (sb_ z z)<|Rw z ?_
 obtain rfl:=som a0;exact Wr<|c_ hr z ⟨bup (bup h2 s5) a4,z,iS _ _⟩
theorem W_w2h {x1:List Str}{x2:Str}{res:Bool}(hm:h_i x1 x2=some res)(a0:B<=w0.z)(G:repS w0 B (sl A0 N0 C0) x1)(Y:x2.b.length<=LEN):i_ prog 172 [sl A0 N0 C0,Str.v x2] w0 (Q7 w0 B res):=by
 unfold h_i at hm
 refine goG func172 z z z λfn hr=>Ws<|Rw z<|Wq<|Ws<|Rw z ?_
 obtain ⟨_,V,J⟩:=bdS hm;refine Wf (σ:=Unit) (ρ:=Bool) (λ(k3:Nat)(_:Unit) a w=>Sat 18 [(0,sl A0 N0 C0),(1,Str.v x2),(5,vI ((k3:Nat):Int))] a/\Below w0.z w0 w) (λ(_:Unit) a w=>Sat 18 [] a/\Below w0.z w0 w) (rQ prog fn<|Q7 w0 B) V ?_ ?_ ?_ ?_ ?_
 .exact λ_ q=>⟨q.k<|s3 z z z,br w0⟩
 .rintro k3 _ _ _ _ L ⟨W,I⟩ hma;refine Wu ?_ W;refine Wq<|Wm z<|Rm z ?_
  have h5:=G.e I;refine R z (lnR D_ z h5)<|Rl z z z<|Wx z (λ_=>?_) (λhc=>(Q_ L hc).elim)
  refine Wk<|Wq<|Wb<|Wm z<|Rm z ?_
  obtain ⟨_,eb,O⟩:=bdS hma;refine RX z (at_ (α:=Str) D_ z_9 z z z h5 eb) ?_;rintro _ ⟨_,_,_,rfl,hd,he,_⟩;obtain ⟨rfl,_⟩:=a_h he;refine R z (l0 g_9 z<|hd.at0 z)<|Rm z<|R z (a_K z z)<|Wx z (λH=>?_) (λH=>?_)
  .exact Ws<|Rw z<|Wr<|rtO<|qL (som<|ifT O H).symm<|c_ hr z ⟨I,z⟩
  exact Wk<|Wg<|Rm z<|R z (inc_ L (lt_ (repS.len G) B_) z z)<|Ra z<|Wl (λ_ q=>⟨(),(som<|ifF O H).symm,⟨q.k<|s3 z z z,I⟩⟩)
 .rintro _ _ _ ⟨hSc,s7⟩;refine Wu ?_ hSc;refine Wq<|Wm z<|Rm z<|R z (lnR D_ z<|G.e s7)<|Rl z z z<|Wx z (λhc=>(R_ hc).elim) (λ_=>?_)
  exact We<|λ_ q=>⟨rfl,⟨q.k sn,s7⟩⟩
 .rintro _ af _ rfl ⟨_,sg⟩;have hmh:=elL J;revert af;refine Wo<|Ws<|Rw z ?_
  obtain rfl:=som hmh;exact Wr<|c_ hr z ⟨sg,z⟩
 rintro _ _ _ _ rfl ⟨rfl,hqi⟩;have hmj:=elR J;obtain rfl:=som hmj;exact ⟨hqi,z⟩
theorem W_w2i {x1:List Str}{res:Bool}(hm:h_j x1=some res)(I:B<=w0.z)(H:repS w0 B (sl A0 N0 C0) x1):i_ prog 151 [sl A0 N0 C0] w0 (Q7 w0 B res):=by
 unfold h_j at hm
 refine goG func151 z z z λfn hr=>Ws<|Rw z<|Wq<|Ws<|Rw z ?_
 obtain ⟨_,huj,L⟩:=bdS hm;refine Wf (σ:=Unit) (ρ:=Bool) (λ(k1:Nat)(_:Unit) a w=>Sat 29 [(0,sl A0 N0 C0),(3,vI ((k1:Nat):Int))] a/\Below w0.z w0 w) (λ(_:Unit) a w=>Sat 29 [(0,sl A0 N0 C0)] a/\Below w0.z w0 w) (rQ prog fn<|Q7 w0 B) huj ?_ ?_ ?_ ?_ ?_
 .exact λ_ q=>⟨q.k<|s2 z z,br w0⟩
 .rintro k1 _ _ O _ hka ⟨hSk,s4⟩ hml;refine Wu ?_ hSk;refine Wq<|Wm z<|Rm z<|R z (lnR D_ z<|H.e s4)<|Rl z z z<|Wx z (λ_=>?_) (λhc=>(Q_ hka hc).elim)
  refine Wk<|Wq<|Wb<|Wq ?_
  obtain ⟨um,hun,hmb⟩:=bdS hml;refine Wt (λa w=>∃(x2:Bool),x2=um/\Sat 29 [(0,sl A0 N0 C0),(3,vI ((k1:Nat):Int)),(25,vB x2)] a/\Below O.z O w) ?_ ?_
  .refine Wd (X:=noX) 0 (pl_ 16 [4,14]) mo (by kernel_rfl) λae s5 _=>dM z z z<|dM z z z ?_
   obtain ⟨_,eo,hmp⟩:=bdS hun;have hd:=(s4.ag B).e s5;refine dRX z z (at_ (α:=Str) D_ z_9 z z z (H.g hd) eo) ?_;rintro _ ⟨_,_,_,rfl,hq,ht,_⟩;obtain ⟨rfl,hu⟩:=a_h ht;refine dR z z (l0 g_9 z<|hq.at0 z) ?_;have he:=lt_ s4.s s5.s;obtain ⟨rr,es,hmc⟩:=bdS hmp;refine dE z z (fc call133 z<|l_H es (zt' I he) hu) (.inr λ_ _ h=>C_<|h.1) ?_;rintro _ _ ⟨s6,rfl⟩;refine dR z z (not_ z)<|dM z z z ?_
   rcases bs (!rr) with G | G
   .iterate 7 refine dRn z z z G z ?_
    exact dEn z z z G z<|dR z z (pT z G z)<|pD (λ_ q=>⟨true,som<|ifT hmc G,q.k<|s3 z z z,bup s5 s6⟩)
   refine dRg z z z G z (mv z)<|dRg z z z G z (mv z) ?_
   obtain ⟨_,ev,hmw⟩:=bdS<|ifF hmc G;have hf:=H.g<|hd.e s6
   refine b_v z z z G z (rX D_ z_9 z z hf z z ev) ?_;rintro _ ⟨_,_,_,rfl,hx⟩;refine dRg z z z G z (mv z)<|dRg z z z G z (mv z) ?_
   obtain ⟨_,ey,hmz⟩:=bdS hmw;refine b_v z z z G z (at_ (α:=Str) D_ z_9 z z z hf ey) ?_;rintro _ ⟨_,_,_,rfl,a3,a4,_⟩;obtain ⟨rfl,a5⟩:=a_h a4;refine dRg z z z G z (l0 g_9 z<|a3.at0 z) ?_;obtain ⟨a6,a7,V⟩:=bdS hmz;refine dEg z z z G z (fc call172 z<|W_w2h a7 (zt' I<|lt_ he s6.s) hx a5) (.inr λ_ _ h=>C_<|h.1) ?_;rintro _ _ ⟨a8,rfl⟩;exact dR z z (pF z G z)<|pD (λ_ q=>⟨a6,som V,q.k<|s3 z z z,bup (bup s5 s6) a8⟩)
  rintro a9 _ ⟨x2,rfl,_,sg⟩;revert a9;refine Wo<|Wc z (λJ=>?_) (λJ=>?_)
  .exact Ws<|Rw z<|Wr<|rtO<|qL (som<|ifT hmb J).symm<|c_ hr z ⟨bup s4 sg,z⟩
  exact Wk<|Wg<|Rm z<|R z (inc_ hka (lt_ (repS.len H) B_) z z)<|Ra z<|Wl (λ_ q=>⟨(),(som<|ifF hmb J).symm,⟨q.k<|s2 z z,bup s4 sg⟩⟩)
 .rintro _ _ _ ⟨W,sh⟩;refine Wu ?_ W;refine Wq<|Wm z<|Rm z<|R z (lnR D_ z<|H.e sh)<|Rl z z z<|Wx z (λhc=>(R_ hc).elim) (λ_=>?_)
  exact We<|λ_ q=>⟨rfl,⟨q.k<|s1 z,sh⟩⟩
 .rintro _ aa _ rfl ⟨_,s7⟩;have Y:=elL L;revert aa;refine Wo<|Wm z ?_
  have hi:=H.e s7;refine R z (lnR D_ z hi) ?_;obtain ⟨_,ab,a0⟩:=bdS Y;refine E z (fc call99 z<|b_K ab (zt' I s7.s) (b_T<|repS.len hi) (ii z)<|ii z) ?_;rintro _ _ ⟨ad,rfl⟩;refine Rw z ?_
  obtain rfl:=som a0;exact Wr<|c_ hr z ⟨bup s7 ad,z⟩
 rintro _ _ _ _ rfl ⟨rfl,a1⟩;have a2:=elR L;obtain rfl:=som a2;exact ⟨a1,z⟩
theorem W_w2j {x1:d_}{x2:b_}{res:Bool}(hm:h_k x1 x2=some res)(O:B<=w0.z)(a2:repS w0 B (sl A0 N0 C0) x1.rules)(aO:x2.name.b.length<=LEN)(aP:inI x2.kind)(aQ:inI x2.size)(aR:repS w0 B (sl A2 N2 C2) x2.bytes)(aS:repS w0 B (sl A3 N3 C3) x2.names)(J:repS w0 B (sl A1 N1 C1) x2.tags)(V:repS w0 B (sl A4 N4 C4) x2.kids):i_ prog 152 [(.agg #[sl A0 N0 C0]),(.agg #[Str.v x2.name,vI x2.kind,vI x2.size,vB x2.little,sl A2 N2 C2,sl A3 N3 C3,sl A1 N1 C1,sl A4 N4 C4])] w0 (Q7 w0 B res):=by
 unfold h_k at hm
 refine goG func152 z z z λfn hr=>Ws<|E z (fb z) ?_
 rintro _ L ⟨rfl,hn⟩;have h4:=hn.below;refine E z (fb z) ?_;rintro _ wd ⟨rfl,ho⟩;have h3:=ho.below;have ha:Blk wd L.z (vR x2 A2 N2 C2 A3 N3 C3 A1 N1 C1 A4 N4 C4):=ho.blk;refine Rw z<|Wq<|Wq ?_
 obtain ⟨aj,hup,hmq⟩:=bdS hm;refine Wt (λa w=>∃(xg:Bool),xg=aj/\Sat 59 [(2,pt w0.z),(3,pt L.z),(20,vB xg)] a/\Below wd.z wd w) ?_ ?_
 .refine Wg<|Rf z P_ z<|R z (l0 E_ z<|ha.at z) ?_
  have ht:=(h4.ag B).e h3;refine R z (lnR x_ z<|V.g ht)<|Rf z b_g z<|R z (l0 E_ z<|ha.at z) ?_
  have hh:=J.g ht;refine R z (lnR x_ z hh)<|R z (add_ z z)<|R z (nq z z)<|Rm z ?_
  rcases bs ((x2.kids.length:Int) != (g_ (x2.tags.length:Int) 1)) with I | I
  .iterate 5 refine Nh z I ?_
   exact R z (pT z I z)<|Wl (λ_ q=>⟨true,som<|ifT hup I,q.k<|s3 z z z,br wd⟩)
  refine Rh z I (fd b_g z)<|Rh z I (l0 E_ z<|ha.at z)<|Rh z I (lnR x_ z hh) ?_
  obtain ⟨ak,al,a3⟩:=bdS<|ifF hup I;refine Eg z z I z (fc call99 z<|b_K al (zt' O<|lt_ h4.s h3.s) (b_T<|repS.len hh) (ii z)<|ii z) ?_;rintro _ _ ⟨am,rfl⟩;exact Rh z I (not_ z)<|R z (pF z I z)<|Wl (λ_ q=>⟨!ak,som a3,q.k<|s3 z z z,am⟩)
 rintro an wb ⟨xg,rfl,_,s5⟩;revert an;refine Wo<|Wc z (λhci=>?_) (λhci=>?_)
 .refine Ws<|Rw z ?_
  obtain rfl:=som<|ifT hmq hci;exact Wr<|c_ hr z ⟨bup (bup h4 h3) s5,z⟩
 refine Wk<|Wq<|Ws<|Rw z ?_
 obtain ⟨_,a4,hmr⟩:=bdS<|ifF hmq hci;refine Wf (σ:=Unit) (ρ:=Bool) (λ(ke:Nat)(_:Unit) a w=>Sat 59 [(2,pt w0.z),(3,pt L.z),(5,vI ((ke:Nat):Int))] a/\Below wb.z wb w) (λ(_:Unit) a w=>Sat 59 [] a/\Below wb.z wb w) (rQ prog fn<|Q7 w0 B) a4 ?_ ?_ ?_ ?_ ?_
 .exact λ_ q=>⟨q.k<|s3 z z z,br wb⟩
 .rintro ke _ _ ws _ hku ⟨a5,s7⟩ a6;refine Wu ?_ a5;refine Wq<|Wm z<|Rf z b_g z ?_
  have hv:=(ha.e s5).e s7;refine R z (l0 E_ z<|hv.at z) ?_;have hw:=(((h4.ag B).e h3).e s5).e s7;refine R z (lnR x_ z<|J.g hw)<|Rl z z z<|Wx z (λ_=>?_) (λhc=>(Q_ hku hc).elim)
  refine Wk<|Wq<|Wb<|Wq ?_
  obtain ⟨ao,a7,hmx⟩:=bdS a6;refine Wt (λa w=>∃(xj:Bool),xj=ao/\Sat 59 [(2,pt w0.z),(3,pt L.z),(5,vI ((ke:Nat):Int)),(58,vB xj)] a/\Below ws.z ws w) ?_ ?_
  .refine Wd (X:=noX) 0 (pl_ 31 [10,11]) mo (by kernel_rfl) λaT s6 _=>dR z z (fd b_g z) ?_
   have hk:=hv.e s6;refine dR z z (l0 E_ z<|hk.at z)<|dM z z z ?_
   obtain ⟨_,ap,a8⟩:=bdS a7;have hf:=hw.e s6;refine dRX z z (at_ (α:=Int) x_ z_3 z z z (J.g hf) ap) ?_;rintro _ ⟨_,_,_,rfl,aq,ar,_⟩;obtain ⟨rfl,au⟩:=T_ ar;refine dR z z (l0 g_3 z<|aq.at0 z)<|dR z z (lN (vs:=[sl A0 N0 C0]) w_ v_ z z fid<|(((((hn.blk:Blk L w0.z [sl A0 N0 C0]).e h3).e s5).e s7).e s6).row 0 1 z)<|dR z z (fd P_ z)<|dR z z (l0 E_ z<|hk.at z) ?_
   obtain ⟨_,av,a9⟩:=bdS a8;refine dRX z z (at_ (α:=Int) x_ z_3 z z z (V.g hf) av) ?_;rintro _ ⟨_,_,_,rfl,aw,ax,_⟩;obtain ⟨rfl,ay⟩:=T_ ax;refine dR z z (l0 g_3 z<|aw.at0 z) ?_;have hy:=lt_ (lt_ (lt_ (lt_ h4.s h3.s) s5.s) s7.s) s6.s;obtain ⟨_,az,aa⟩:=bdS a9;refine dE z z (fc call150 z<|i_h az (zt' O hy) (a2.g hf) ay) (.inr λ_ _ h=>C_<|h.1) ?_;rintro _ _ ⟨s8,rfl,aA⟩;obtain ⟨aB,aC,hmz⟩:=bdS aa;refine dE z z (fc call99 z<|b_K aC (zt' O<|lt_ hy s8.s) au (ii z) aA) (.inr λ_ _ h=>C_<|h.1) ?_;rintro _ _ ⟨sc,rfl⟩;refine dR z z (not_ z)<|dM z z z ?_
   rcases bs (!aB) with H | H
   .iterate 3 refine dRn z z z H z ?_
    iterate 12 refine dRu z z z z ?_
    exact dRn z z z H z<|dR z z (pT z H z)<|pD (λ_ q=>⟨true,som<|ifT hmz H,q.k<|s4 z z z z,bup (bup s6 s8) sc⟩)
   have W:=ifF hmz H;refine dRg z z z H z (mv z)<|dRg z z z H z (a_b z z)<|dRg z z z H z (mv z) ?_
   rcases bs (decide<|0<((ke:Nat):Int)) with G | G
   .refine dRg z z z G z (fd b_g z) ?_;have Y:=(hk.e s8).e sc;refine dRg z z z G z (l0 E_ z<|Y.at z)<|dRg z z z G z (mv z)<|dRg z z z G z (sb_ z z) ?_
    obtain ⟨aD,aE,ab⟩:=bdS<|ifT W G;have a0:=J.g<|(hf.e s8).e sc
    refine b_v z z z G z (at_ (α:=Int) x_ z_3 z z z a0 aE) ?_;rintro _ ⟨_,_,_,rfl,aF,aG,_⟩;obtain ⟨rfl,_⟩:=T_ aG;refine dRg z z z G z (l0 g_3 z<|aF.at0 z)<|dRg z z z G z (fd b_g z)<|dRg z z z G z (l0 E_ z<|Y.at z)<|dRg z z z G z (mv z) ?_
    obtain ⟨aH,aI,ad⟩:=bdS ab;refine b_v z z z G z (at_ (α:=Int) x_ z_3 z z z a0 aI) ?_;rintro _ ⟨_,_,_,rfl,aJ,aK,_⟩;obtain ⟨rfl,_⟩:=T_ aK;exact dRg z z z G z (l0 g_3 z<|aJ.at0 z)<|dRg z z z G z (c_d z z)<|dRg z z z H z (pT z G z)<|dR z z (pF z H z)<|pD (λ_ q=>⟨decide<|aH<=aD,som ad,q.k<|s4 z z z z,bup (bup s6 s8) sc⟩)
   iterate 12 refine dRn z z z G z ?_
   exact dRg z z z H z (pF z G z)<|dR z z (pF z H z)<|pD (λ_ q=>⟨false,som<|ifF W G,q.k<|s4 z z z z,bup (bup s6 s8) sc⟩)
  rintro aL _ ⟨xj,rfl,_,a1⟩;revert aL;refine Wo<|Wc z (λhcl=>?_) (λhcl=>?_)
  .exact Ws<|Rw z<|Wr<|rtO<|qL (som<|ifT hmx hcl).symm<|c_ hr z ⟨bup (bup (bup (bup h4 h3) s5) s7) a1,z⟩
  exact Wk<|Wg<|Rm z<|R z (inc_ hku (lt_ (repS.len J) B_) z z)<|Ra z<|Wl (λ_ q=>⟨(),(som<|ifF hmx hcl).symm,⟨q.k<|s3 z z z,bup s7 a1⟩⟩)
 .rintro _ _ _ ⟨ae,sm⟩;refine Wu ?_ ae;refine Wq<|Wm z<|Rf z b_g z<|R z (l0 E_ z<|((ha.e s5).e sm).at z)<|R z (lnR x_ z<|J.g<|(((h4.ag B).e h3).e s5).e sm)<|Rl z z z<|Wx z (λhc=>(R_ hc).elim) (λ_=>?_)
  exact We<|λ_ q=>⟨rfl,⟨q.k sn,sm⟩⟩
 .rintro _ aM _ rfl ⟨_,aN⟩;have af:=elL hmr;revert aM;refine Wo<|Ws<|Rw z ?_
  obtain rfl:=som af;exact Wr<|c_ hr z ⟨bup (bup (bup h4 h3) s5) aN,z⟩
 rintro _ _ _ _ rfl ⟨rfl,ah⟩;have ai:=elR hmr;obtain rfl:=som ai;exact ⟨ah,z⟩
theorem W_w2k {x1:d_}{x2:b_}{res:Bool}(hm:h_l x1 x2=some res)(I:B<=w0.z)(a8:repS w0 B (sl A0 N0 C0) x1.rules)(a2:x2.name.b.length<=LEN)(a3:inI x2.kind)(V:inI x2.size)(W:repS w0 B (sl A2 N2 C2) x2.bytes)(a0:repS w0 B (sl A3 N3 C3) x2.names)(a4:repS w0 B (sl A1 N1 C1) x2.tags)(Y:repS w0 B (sl A4 N4 C4) x2.kids):i_ prog 134 [(.agg #[sl A0 N0 C0]),(.agg #[Str.v x2.name,vI x2.kind,vI x2.size,vB x2.little,sl A2 N2 C2,sl A3 N3 C3,sl A1 N1 C1,sl A4 N4 C4])] w0 (Q7 w0 B res):=by
 unfold h_l at hm
 refine goG func134 z z z λfn hr=>Ws<|E z (fb z) ?_
 rintro _ al ⟨rfl,aT⟩;have h1:=aT.below;have am:Blk al w0.z [sl A0 N0 C0]:=aT.blk;refine E z (fb z) ?_;rintro _ H ⟨rfl,aU⟩;have G:=aU.below;have h3:Blk H al.z (vR x2 A2 N2 C2 A3 N3 C3 A1 N1 C1 A4 N4 C4):=aU.blk;refine Rw z<|Wq<|Ws<|Rf z a_o z<|R z (l0 g_3 z<|h3.at z)<|Wn<|Wb<|Ws<|Rq z z z<|Rw z<|Wc z (λa9=>?_) (λa9=>?_)
 .refine Wq ?_;obtain ⟨bI,be,bf⟩:=bdS<|ifT hm a9;refine Wt (λa w=>∃(an:Bool),an=bI/\Sat 114 [(4,vB an)] a/\Below H.z H w) ?_ ?_
  .refine Wg<|R z (lN (vs:=vR x2 A2 N2 C2 A3 N3 C3 A1 N1 C1 A4 N4 C4) H_ m_ z z fid<|h3.row 0 8 z) ?_
   have hw:=(h1.ag B).e G;have aV:=lt_ h1.s G.s;obtain ⟨bJ,bK,az⟩:=bdS be;refine E z (fc call149 z<|e_f bK (zt' I aV) a2 a3 V (W.g hw) (a0.g hw) (a4.g hw) (Y.g hw)<|ii z) ?_;rintro _ _ ⟨sg,rfl⟩;refine Rm z ?_
   rcases bs bJ with hca | hca
   .refine Rh z hca (fd a_H z) ?_;have aW:=h3.e sg;refine Rh z hca (l0 g_3 z<|aW.at z) ?_;obtain ⟨bL,bM,aA⟩:=bdS<|ifT az hca;refine Eg z z hca z (fc call99 z<|b_K bM (zt' I<|lt_ aV sg.s) V (ii z)<|ii z) ?_;rintro _ _ ⟨sx,rfl⟩;refine R z (pT z hca z)<|Rm z ?_
    rcases bs bL with O | O
    .have aB:=ifT aA O;refine Rh z O (fd d_k z) ?_;have aX:=aW.e sx;refine Rh z O (l0 g_4 z<|aX.at z)<|Rh z O (not_ z)<|Rh z O (mv z) ?_
     rcases bs (!x2.little) with hcb | hcb
     .iterate 3 refine Nh z hcb ?_
      exact Rh z O (pT z hcb z)<|R z (pT z O z)<|Ra z<|Wl (λ_ q=>⟨true,som<|ifT aB hcb,q.k<|s1 z,bup sg sx⟩)
     exact Rh z hcb (fd a_H z)<|Rh z hcb (l0 g_3 z<|aX.at z)<|Rh z hcb (a_b z z)<|Rh z O (pF z hcb z)<|R z (pT z O z)<|Ra z<|Wl (λ_ q=>⟨decide<|1<x2.size,som<|ifF aB hcb,q.k<|s1 z,bup sg sx⟩)
    iterate 4 refine Nh z O ?_
    exact Nv z<|Nv z<|Nv z<|Nh z O<|R z (pF z O z)<|Ra z<|Wl (λ_ q=>⟨false,som<|ifF aA O,q.k<|s1 z,bup sg sx⟩)
   iterate 3 refine Nh z hca ?_
   exact R z (pF z hca z)<|Rm z<|Nh z z<|Nh z z<|Nh z z<|Nh z z<|Nv z<|Nv z<|Nv z<|Nh z z<|R z (pF z z z)<|Ra z<|Wl (λ_ q=>⟨false,som<|ifF az hca,q.k<|s1 z,sg⟩)
  rintro bN _ ⟨an,rfl,_,bO⟩;revert bN;refine Wo ?_;obtain rfl:=som bf;exact Wr<|rtO<|c_ hr z ⟨bup (bup h1 G) bO,z⟩
 have aC:=ifF hm a9;refine Ws<|Rq z z z<|Rw z<|Wc z (λaa=>?_) (λaa=>?_)
 .refine Wq ?_;obtain ⟨bP,bg,bh⟩:=bdS<|ifT aC aa;refine Wt (λa w=>∃(ao:Bool),ao=bP/\Sat 114 [(4,vB ao)] a/\Below H.z H w) ?_ ?_
  .refine Wg<|R z (lN (vs:=vR x2 A2 N2 C2 A3 N3 C3 A1 N1 C1 A4 N4 C4) H_ m_ z z fid<|h3.row 0 8 z) ?_
   have hl:=(h1.ag B).e G;have aY:=lt_ h1.s G.s;obtain ⟨bQ,bR,aD⟩:=bdS bg;refine E z (fc call149 z<|e_f bR (zt' I aY) a2 a3 V (W.g hl) (a0.g hl) (a4.g hl) (Y.g hl)<|ii z) ?_;rintro _ _ ⟨sn,rfl⟩;refine Rm z ?_
   rcases bs bQ with a5 | a5
   .refine Rh z a5 (fd b_f z)<|Rh z a5 (l0 X_ z<|(h3.e sn).at z) ?_
    have aZ:=W.g<|hl.e sn
    refine Rh z a5 (lnR o_ z aZ) ?_;obtain ⟨bS,bT,bi⟩:=bdS<|ifT aD a5;refine Eg z z a5 z (fc call99 z<|b_K bT (zt' I<|lt_ aY sn.s) (b_T<|repS.len aZ) (ii z)<|ii z) ?_;rintro _ _ ⟨bU,rfl⟩;exact R z (pT z a5 z)<|Ra z<|Wl (λ_ q=>⟨bS,som bi,q.k<|s1 z,bup sn bU⟩)
   iterate 4 refine Nh z a5 ?_
   exact R z (pF z a5 z)<|Ra z<|Wl (λ_ q=>⟨false,som<|ifF aD a5,q.k<|s1 z,sn⟩)
  rintro bV _ ⟨ao,rfl,_,bW⟩;revert bV;refine Wo ?_;obtain rfl:=som bh;exact Wr<|rtO<|c_ hr z ⟨bup (bup h1 G) bW,z⟩
 have aE:=ifF aC aa;refine Ws<|Rq z z z<|Rw z<|Wc z (λab=>?_) (λab=>?_)
 .refine Wq ?_;obtain ⟨bX,bj,bk⟩:=bdS<|ifT aE ab;refine Wt (λa w=>∃(ap:Bool),ap=bX/\Sat 114 [(4,vB ap)] a/\Below H.z H w) ?_ ?_
  .refine Wg<|R z (lN (vs:=vR x2 A2 N2 C2 A3 N3 C3 A1 N1 C1 A4 N4 C4) H_ m_ z z fid<|h3.row 0 8 z) ?_
   have hy:=(h1.ag B).e G;have b0:=lt_ h1.s G.s;obtain ⟨bY,bZ,aF⟩:=bdS bj;refine E z (fc call149 z<|e_f bZ (zt' I b0) a2 a3 V (W.g hy) (a0.g hy) (a4.g hy) (Y.g hy)<|ii z) ?_;rintro _ _ ⟨sz,rfl⟩;refine Rm z ?_
   rcases bs bY with hcc | hcc
   .refine Rh z hcc (fd a_H z)<|Rh z hcc (l0 g_3 z<|(h3.e sz).at z) ?_
    obtain ⟨c0,c1,bm⟩:=bdS<|ifT aF hcc;refine Eg z z hcc z (fc call99 z<|b_K c1 (zt' I<|lt_ b0 sz.s) V (ii z)<|ii z) ?_;rintro _ _ ⟨c2,rfl⟩;exact R z (pT z hcc z)<|Ra z<|Wl (λ_ q=>⟨c0,som bm,q.k<|s1 z,bup sz c2⟩)
   iterate 3 refine Nh z hcc ?_
   exact R z (pF z hcc z)<|Ra z<|Wl (λ_ q=>⟨false,som<|ifF aF hcc,q.k<|s1 z,sz⟩)
  rintro c3 _ ⟨ap,rfl,_,c4⟩;revert c3;refine Wo ?_;obtain rfl:=som bk;exact Wr<|rtO<|c_ hr z ⟨bup (bup h1 G) c4,z⟩
 have aG:=ifF aE ab;refine Ws<|Rq z z z<|Rw z<|Wc z (λad=>?_) (λad=>?_)
 .refine Wq ?_;obtain ⟨c5,bn,bo⟩:=bdS<|ifT aG ad;refine Wt (λa w=>∃(aq:Bool),aq=c5/\Sat 114 [(4,vB aq)] a/\Below H.z H w) ?_ ?_
  .refine Wd (X:=noX) 0 (pl_ 12 [1,8]) mo (by kernel_rfl) λcX sh _=>?_
   have b1:=h3.e sh;refine dR z z (lN (vs:=vR x2 A2 N2 C2 A3 N3 C3 A1 N1 C1 A4 N4 C4) H_ m_ z z fid<|b1.row 0 8 z) ?_;have ho:=((h1.ag B).e G).e sh;have b2:=lt_ (lt_ h1.s G.s) sh.s;obtain ⟨c6,c7,aH⟩:=bdS bn;refine dE z z (fc call149 z<|e_f c7 (zt' I b2) a2 a3 V (W.g ho) (a0.g ho) (a4.g ho) (Y.g ho)<|ii z) (.inr λ_ _ h=>C_<|h.1) ?_;rintro _ _ ⟨si,rfl⟩;refine dM z z z ?_
   rcases bs c6 with J | J
   .refine dRg z z z J z (lN (vs:=[sl A0 N0 C0]) w_ v_ z z fid<|(((am.e G).e sh).e si).row 0 1 z)<|dRg z z z J z (fd P_ z)<|dRg z z z J z (l0 E_ z<|(b1.e si).at z) ?_
    obtain ⟨_,c8,bp⟩:=bdS<|ifT aH J;have b3:=ho.e si;refine b_v z z z J z (at_ (α:=Int) x_ z_3 z z z (Y.g b3) c8) ?_;rintro _ ⟨_,_,_,rfl,c9,ca,_⟩;obtain ⟨rfl,cb⟩:=T_ ca;refine dRg z z z J z (l0 g_3 z<|c9.at0 z) ?_;obtain ⟨cc,cd,bq⟩:=bdS bp;refine dEg z z z J z (fc call150 z<|i_h cd (zt' I<|lt_ b2 si.s) (a8.g b3) cb) (.inr λ_ _ h=>C_<|h.1) ?_;rintro _ _ ⟨ce,rfl,_⟩;exact dRg z z z J z (a_b z z)<|dR z z (pT z J z)<|dQ z z z<|pD (λ_ q=>⟨decide<|0<cc,som bq,q.k<|s1 z,bup (bup sh si) ce⟩)
   iterate 5 refine dRn z z z J z ?_
   exact dEn z z z J z<|dRn z z z J z<|dR z z (pF z J z)<|dQ z z z<|pD (λ_ q=>⟨false,som<|ifF aH J,q.k<|s1 z,bup sh si⟩)
  rintro cf _ ⟨aq,rfl,_,cg⟩;revert cf;refine Wo ?_;obtain rfl:=som bo;exact Wr<|rtO<|c_ hr z ⟨bup (bup h1 G) cg,z⟩
 have aI:=ifF aG ad;refine Ws<|Rq z z z<|Rw z<|Wc z (λae=>?_) (λae=>?_)
 .refine Wq ?_;obtain ⟨ch,bt,bu⟩:=bdS<|ifT aI ae;refine Wt (λa w=>∃(ar:Bool),ar=ch/\Sat 114 [(4,vB ar)] a/\Below H.z H w) ?_ ?_
  .refine Wd (X:=noX) 0 (pl_ 12 [1,8]) mo (by kernel_rfl) λcY sj _=>?_
   have b4:=h3.e sj;refine dR z z (lN (vs:=vR x2 A2 N2 C2 A3 N3 C3 A1 N1 C1 A4 N4 C4) H_ m_ z z fid<|b4.row 0 8 z) ?_;have hp:=((h1.ag B).e G).e sj;have b5:=lt_ (lt_ h1.s G.s) sj.s;obtain ⟨ci,cj,aJ⟩:=bdS bt;refine dE z z (fc call149 z<|e_f cj (zt' I b5) a2 a3 V (W.g hp) (a0.g hp) (a4.g hp) (Y.g hp)<|ii z) (.inr λ_ _ h=>C_<|h.1) ?_;rintro _ _ ⟨sk,rfl⟩;refine dM z z z ?_
   rcases bs ci with L | L
   .refine dRg z z z L z (lN (vs:=[sl A0 N0 C0]) w_ v_ z z fid<|(((am.e G).e sj).e sk).row 0 1 z)<|dRg z z z L z (fd P_ z)<|dRg z z z L z (l0 E_ z<|(b4.e sk).at z) ?_
    obtain ⟨_,ck,bv⟩:=bdS<|ifT aJ L;have b6:=hp.e sk;refine b_v z z z L z (at_ (α:=Int) x_ z_3 z z z (Y.g b6) ck) ?_;rintro _ ⟨_,_,_,rfl,cl,cm,_⟩;obtain ⟨rfl,cn⟩:=T_ cm;refine dRg z z z L z (l0 g_3 z<|cl.at0 z) ?_;obtain ⟨co,cp,bw⟩:=bdS bv;refine dEg z z z L z (fc call150 z<|i_h cp (zt' I<|lt_ b5 sk.s) (a8.g b6) cn) (.inr λ_ _ h=>C_<|h.1) ?_;rintro _ _ ⟨cq,rfl,_⟩;exact dRg z z z L z (a_b z z)<|dR z z (pT z L z)<|dQ z z z<|pD (λ_ q=>⟨decide<|0<co,som bw,q.k<|s1 z,bup (bup sj sk) cq⟩)
   iterate 5 refine dRn z z z L z ?_
   exact dEn z z z L z<|dRn z z z L z<|dR z z (pF z L z)<|dQ z z z<|pD (λ_ q=>⟨false,som<|ifF aJ L,q.k<|s1 z,bup sj sk⟩)
  rintro cr _ ⟨ar,rfl,_,ct⟩;revert cr;refine Wo ?_;obtain rfl:=som bu;exact Wr<|rtO<|c_ hr z ⟨bup (bup h1 G) ct,z⟩
 have aK:=ifF aI ae;refine Ws<|Rq z z z<|Rw z<|Wc z (λaf=>?_) (λaf=>?_)
 .refine Wq ?_;obtain ⟨cu,bx,bz⟩:=bdS<|ifT aK af;refine Wt (λa w=>∃(au:Bool),au=cu/\Sat 114 [(4,vB au)] a/\Below H.z H w) ?_ ?_
  .refine Wg<|R z (lN (vs:=vR x2 A2 N2 C2 A3 N3 C3 A1 N1 C1 A4 N4 C4) H_ m_ z z fid<|h3.row 0 8 z)<|Rf z b_R z<|R z (l0 a_t z<|h3.at z) ?_
   have hq:=(h1.ag B).e G;have av:=a0.g hq;refine R z (lnR D_ z av) ?_;have b7:=lt_ h1.s G.s;obtain ⟨cv,cw,aL⟩:=bdS bx;refine E z (fc call149 z<|e_f cw (zt' I b7) a2 a3 V (W.g hq) av (a4.g hq) (Y.g hq)<|b_T<|repS.len av) ?_;rintro _ _ ⟨sr,rfl⟩;refine Rm z ?_
   rcases bs cv with hcd | hcd
   .refine Rh z hcd (fd b_R z)<|Rh z hcd (l0 a_t z<|(h3.e sr).at z) ?_
    obtain ⟨cx,cy,bA⟩:=bdS<|ifT aL hcd;refine Eg z z hcd z (fc call151 z<|W_w2i cy (zt' I<|lt_ b7 sr.s)<|a0.g<|hq.e sr) ?_;rintro _ _ ⟨cz,rfl⟩;exact R z (pT z hcd z)<|Ra z<|Wl (λ_ q=>⟨cx,som bA,q.k<|s1 z,bup sr cz⟩)
   iterate 3 refine Nh z hcd ?_
   exact R z (pF z hcd z)<|Ra z<|Wl (λ_ q=>⟨false,som<|ifF aL hcd,q.k<|s1 z,sr⟩)
  rintro cA _ ⟨au,rfl,_,cB⟩;revert cA;refine Wo ?_;obtain rfl:=som bz;exact Wr<|rtO<|c_ hr z ⟨bup (bup h1 G) cB,z⟩
 have aM:=ifF aK af;refine Ws<|Rq z z z<|Rw z<|Wc z (λah=>?_) (λah=>?_)
 .refine Wq ?_;obtain ⟨cC,bB,bC⟩:=bdS<|ifT aM ah;refine Wt (λa w=>∃(aw:Bool),aw=cC/\Sat 114 [(4,vB aw)] a/\Below H.z H w) ?_ ?_
  .refine Wg<|R z (lN (vs:=vR x2 A2 N2 C2 A3 N3 C3 A1 N1 C1 A4 N4 C4) H_ m_ z z fid<|h3.row 0 8 z) ?_
   have ht:=(h1.ag B).e G;have b8:=lt_ h1.s G.s;obtain ⟨cD,cE,aN⟩:=bdS bB;refine E z (fc call149 z<|e_f cE (zt' I b8) a2 a3 V (W.g ht) (a0.g ht) (a4.g ht) (Y.g ht)<|ii z) ?_;rintro _ _ ⟨sm,rfl⟩;refine Rm z ?_
   rcases bs cD with hce | hce
   .refine Rh z hce (lN (vs:=[sl A0 N0 C0]) w_ v_ z z fid<|((am.e G).e sm).row 0 1 z)<|Rh z hce (lN (vs:=vR x2 A2 N2 C2 A3 N3 C3 A1 N1 C1 A4 N4 C4) H_ m_ z z fid<|(h3.e sm).row 0 8 z) ?_
    have hu:=ht.e sm;obtain ⟨cF,cG,bD⟩:=bdS<|ifT aN hce;refine Eg z z hce z (fc call152 z<|W_w2j cG (zt' I<|lt_ b8 sm.s) (a8.g hu) a2 a3 V (W.g hu) (a0.g hu) (a4.g hu)<|Y.g hu) ?_;rintro _ _ ⟨cH,rfl⟩;exact R z (pT z hce z)<|Ra z<|Wl (λ_ q=>⟨cF,som bD,q.k<|s1 z,bup sm cH⟩)
   iterate 3 refine Nh z hce ?_
   exact R z (pF z hce z)<|Ra z<|Wl (λ_ q=>⟨false,som<|ifF aN hce,q.k<|s1 z,sm⟩)
  rintro cI _ ⟨aw,rfl,_,cJ⟩;revert cI;refine Wo ?_;obtain rfl:=som bC;exact Wr<|rtO<|c_ hr z ⟨bup (bup h1 G) cJ,z⟩
 refine Wq<|Ws<|Rq z z z<|Rw z ?_
 obtain ⟨cK,aO,aP⟩:=bdS<|ifF aM ah;refine Wt (λa w=>∃(ax:Bool),ax=cK/\Sat 114 [(3,pt al.z),(6,vI x2.kind),(92,vB ax)] a/\Below H.z H w) ?_ ?_
 .refine Wc z (λai=>?_)<|λai=>?_
  .exact a_5<|λ_ q=>⟨x2.kind==8,som<|ifT aO ai,q.k<|s3 z z z,br H⟩
  exact Wg<|Rq z z z<|Ra z<|Wl (λ_ q=>⟨x2.kind==9,som<|ifF aO ai,q.k<|s3 z z z,br H⟩)
 rintro cL b9 ⟨ax,rfl,_,sf⟩;revert cL;refine Wo<|Wc z (λaj=>?_) (λaj=>?_)
 .refine Ws<|R z (lN (vs:=vR x2 A2 N2 C2 A3 N3 C3 A1 N1 C1 A4 N4 C4) H_ m_ z z fid<|(h3.e sf).row 0 8 z) ?_
  have a7:=((h1.ag B).e G).e sf;obtain ⟨_,cM,bE⟩:=bdS<|ifT aP aj;refine E z (fc call149 z<|e_f cM (zt' I<|lt_ (lt_ h1.s G.s) sf.s) a2 a3 V (W.g a7) (a0.g a7) (a4.g a7) (Y.g a7)<|ii z) ?_;rintro _ _ ⟨cN,rfl⟩;refine Rw z ?_
  obtain rfl:=som bE;exact Wr<|rtO<|c_ hr z ⟨bup (bup (bup h1 G) sf) cN,z⟩
 have aQ:=ifF aP aj;refine Ws<|Rq z z z<|Rw z<|Wc z (λak=>?_) (λak=>?_)
 .refine Wq ?_;obtain ⟨cO,bF,bG⟩:=bdS<|ifT aQ ak;refine Wt (λa w=>∃(ay:Bool),ay=cO/\Sat 114 [(4,vB ay)] a/\Below b9.z b9 w) ?_ ?_
  .refine Wg ?_;have ba:=h3.e sf;refine R z (lN (vs:=vR x2 A2 N2 C2 A3 N3 C3 A1 N1 C1 A4 N4 C4) H_ m_ z z fid<|ba.row 0 8 z) ?_;have hv:=((h1.ag B).e G).e sf;obtain ⟨cP,cQ,aR⟩:=bdS bF;refine E z (fc call149 z<|e_f cQ (zt' I<|lt_ (lt_ h1.s G.s) sf.s) a2 a3 V (W.g hv) (a0.g hv) (a4.g hv) (Y.g hv)<|ii z) ?_;rintro _ _ ⟨ss,rfl⟩;refine Rm z ?_
   rcases bs cP with a6 | a6
   .have aS:=ifT aR a6;refine Rh z a6 (fd b_f z) ?_;have bb:=ba.e ss;refine Rh z a6 (l0 X_ z<|bb.at z) ?_;have bc:=W.g<|hv.e ss
    refine Rh z a6 (lnR o_ z bc)<|Rh z a6 (eql z z)<|R z (pT z a6 z)<|Rm z ?_
    rcases bs ((x2.bytes.length:Int)==1) with a1 | a1
    .refine Rh z a1 (fd b_f z)<|Rh z a1 (l0 X_ z<|bb.at z) ?_
     obtain ⟨cR,cS,bH⟩:=bdS<|ifT aS a1;refine RXg z z a1 z (at_ (α:=UInt8) o_ z_5 z z z bc cS) ?_;rintro _ ⟨_,_,_,rfl,cT,cU,_⟩;obtain rfl:=u8 cU;exact Rh z a1 (l0 g_5 z<|cT.at0 z)<|Rh z a1 (nq z z)<|R z (pT z a1 z)<|Ra z<|Wl (λ_ q=>⟨(byteI cR) != (byteI (92:UInt8)),som bH,q.k<|s1 z,ss⟩)
    iterate 5 refine Nh z a1 ?_
    exact R z (pF z a1 z)<|Ra z<|Wl (λ_ q=>⟨false,som<|ifF aS a1,q.k<|s1 z,ss⟩)
   iterate 4 refine Nh z a6 ?_
   exact R z (pF z a6 z)<|Rm z<|Nh z z<|Nh z z<|Nh z z<|Nh z z<|Nh z z<|R z (pF z z z)<|Ra z<|Wl (λ_ q=>⟨false,som<|ifF aR a6,q.k<|s1 z,ss⟩)
  rintro cV _ ⟨ay,rfl,_,cW⟩;revert cV;refine Wo ?_;obtain rfl:=som bG;exact Wr<|rtO<|c_ hr z ⟨bup (bup (bup h1 G) sf) cW,z⟩
 refine Wk<|Ws<|Rw z ?_
 obtain rfl:=som<|ifF aQ ak;exact Wr<|c_ hr z ⟨bup (bup h1 G) sf,z⟩
theorem W_w2l {x1:d_}{x2:Int}{res:Bool}(hm:h_m x1 x2=some res)(J:B<=w0.z)(O:repS w0 B (sl A0 N0 C0) x1.rules)(a0:inI x2):i_ prog 98 [(.agg #[sl A0 N0 C0]),vI x2] w0 (Q7 w0 B res):=by
 unfold h_m at hm
 refine goG func98 z z z λfn hr=>Ws<|E z (fb z) ?_
 rintro _ aO ⟨rfl,a9⟩;have h1:=a9.below;have he:Blk aO w0.z [sl A0 N0 C0]:=a9.blk;refine Rw z<|Wq<|Wm z<|Rf z a_i z<|R z (l0 a_n z<|he.at z)<|R z (lnR V_ z<|O.e h1)<|R z (sb_ z z) ?_
 obtain ⟨_,aP,a1⟩:=bdS hm;refine E z (fc call99 z<|b_K aP (zt' J h1.s) a0 (ii z)<|iS _ _) ?_;rintro _ I ⟨G,rfl⟩;refine R z (not_ z)<|Wx z (λhci=>?_) (λhci=>?_)
 .refine Ws<|Rw z ?_
  obtain rfl:=som<|ifT a1 hci;exact Wr<|c_ hr z ⟨bup h1 G,z⟩
 refine Wk<|Ws<|Rf z a_i z ?_
 have hj:=he.e G;refine R z (l0 a_n z<|hj.at z)<|Rm z ?_
 obtain ⟨xk,aQ,ar⟩:=bdS<|ifF a1 hci;have hl:=(h1.ag B).e G;refine RX z (at_ (α:=b_) V_ m_ z z z (O.g hl) aQ) ?_;rintro _ ⟨_,_,_,rfl,aR,aS,_⟩;obtain ⟨am,nn,co,ap,nq,cr,au,ns,ct,av,nw,cx,rfl,aa,aT,aU,aV,aW,aX,hf⟩:=a_F aS;refine R z (lN (vs:=vR xk am nn co ap nq cr au ns ct av nw cx) H_ m_ z z fid aR)<|E z (fa b_S) ?_
 rintro _ aY ⟨rfl,ab⟩;have h2:=ab.below;refine E0 (fs0 (cur':=vR xk am nn co ap nq cr au ns ct av nw cx) m_ z z (ab.blk:Blk aY I.z [(Str.v (⟨[]⟩:Str)),vI 0,vI 0,vB false,sN,sN,sN,sN]) z z z z) ?_;rintro _ L ⟨hg,aZ⟩;have h3:=aZ.one;refine Wn<|Wq<|Ws<|Rw z ?_
 obtain ⟨_,aw,a2⟩:=bdS ar;refine Wf (σ:=Unit) (ρ:=Bool) (λ(ad:Nat)(_:Unit) a w=>Sat 58 [(1,vI x2),(2,pt w0.z),(5,pt I.z),(6,vI ((ad:Nat):Int))] a/\Below L.z L w) (λ(_:Unit) a w=>Sat 58 [(1,vI x2),(2,pt w0.z),(5,pt I.z)] a/\Below L.z L w) (rQ prog fn<|Q7 w0 B) aw ?_ ?_ ?_ ?_ ?_
 .exact λ_ q=>⟨q.k<|s4 z z z z,br L⟩
 .rintro ad _ _ _ _ a3 ⟨ax,sa⟩ ay;refine Wu ?_ ax;refine Wq<|Wm z<|Rm z<|Rl z z z<|Wx z (λ_=>?_) (λhc=>(k_u a3 hc).elim)
  refine Wk<|Wq<|Wb<|Wq (Wd (X:=noX) 0 (pl_ 9 []) mo (by kernel_rfl) λbk sb _=>dR z z (fd a_i z)<|dR z z (l0 a_n z<|((((hj.e h2).c h3<|djs<|mm1 he.lt G.s).e sa).e sb).at z)<|dM z z z ?_)
  obtain ⟨_,b0,a4⟩:=bdS ay;have ae:=lt_ h1.s G.s;refine dRX z z (at_ (α:=b_) V_ m_ z z z (O.g<|(((hl.e h2).c h3<|e_ (or0 (f_ lr) (p_<|zt' J ae):∀k∈[I.z],¬B k)).e sa).e sb) b0) ?_;rintro _ ⟨_,_,_,rfl,b1,b2,_⟩;obtain ⟨_,_,_,_,_,_,_,_,_,_,_,_,rfl,_,_,_,_,_,_,_⟩:=a_F b2;refine dR z z (fd d_J z)<|dR z z (l0 g_9 z<|b1.at (j:=0) z)<|dR z z (fd d_J z)<|dR z z (l0 g_9 z<|((hg.e sa).e sb).at z)<|dR z z (a_K z z)<|pD<|Wo<|Wc z (λhcy=>?_) (λhcy=>?_)
  .exact Ws<|Rw z<|Wr<|rtO<|qL (som<|ifT a4 hcy).symm<|c_ hr z ⟨bup (bup (bM (bup (bup h1 G) h2) h3<|m1 ae) sa) sb,z⟩
  exact Wk<|Wg<|Rm z<|R z (inc_ a3 (tl_ a0) z z)<|Ra z<|Wl (λ_ q=>⟨(),(som<|ifF a4 hcy).symm,⟨q.k<|s4 z z z z,bup sa sb⟩⟩)
 .rintro _ _ _ ⟨az,b3⟩;refine Wu ?_ az;refine Wq<|Wm z<|Rm z<|Rl z z z<|Wx z (λhc=>(k_v hc).elim) (λ_=>?_)
  exact We<|λ_ q=>⟨rfl,⟨q.k<|s3 z z z,b3⟩⟩
 .rintro _ b4 wc rfl ⟨_,s5⟩;have aA:=elL a2;revert b4;refine Wo<|Wq<|Ws<|Rw z ?_
  obtain ⟨_,aB,a5⟩:=bdS aA;refine Wf (σ:=Unit) (ρ:=Bool) (λ(af:Nat)(_:Unit) a w=>Sat 58 [(1,vI x2),(2,pt w0.z),(5,pt I.z),(7,vI ((af:Nat):Int))] a/\Below wc.z wc w) (λ(_:Unit) a w=>Sat 58 [(2,pt w0.z),(5,pt I.z)] a/\Below wc.z wc w) (rQ prog fn<|Q7 w0 B) aB ?_ ?_ ?_ ?_ ?_
  .exact λ_ q=>⟨q.k<|s4 z z z z,br wc⟩
  .rintro af _ _ _ _ a6 ⟨aC,sd⟩ aD;refine Wu ?_ aC;refine Wq<|Wm z<|Rf z P_ z ?_
   have ah:=(hg.e s5).e sd;refine R z (l0 E_ z<|ah.at z) ?_;have hz:=lt_ h1.s G.s;have ai:=hf.g<|(((h2.ag B).c h3<|e_ (or0 (f_ lr) (p_<|zt' J hz):∀k∈[I.z],¬B k)).e s5).e sd
   refine R z (lnR x_ z ai)<|Rl z z z<|Wx z (λ_=>?_) (λhc=>(Q_ a6 hc).elim)
   refine Wk<|Wq<|Wb<|Ws<|Rf z P_ z<|R z (l0 E_ z<|ah.at z)<|Rm z ?_
   obtain ⟨_,b5,aE⟩:=bdS aD;refine RX z (at_ (α:=Int) x_ z_3 z z z ai b5) ?_;rintro _ ⟨_,_,_,rfl,b6,b7,_⟩;obtain ⟨rfl,b8⟩:=T_ b7;refine R z (l0 g_3 z<|b6.at0 z)<|Rm z<|R z (sb_ z z) ?_
   obtain ⟨_,b9,a7⟩:=bdS aE;refine E z (fc call99 z<|b_K b9 (zt' J<|lt_ (lt_ (lt_ (lt_ hz h2.s) h3.s) s5.s) sd.s) b8 (ii z)<|iS _ _) ?_;rintro _ _ ⟨aj,rfl⟩;refine R z (not_ z)<|Wx z (λV=>?_) (λV=>?_)
   .exact Ws<|Rw z<|Wr<|rtO<|qL (som<|ifT a7 V).symm<|c_ hr z ⟨bup (bup (bup (bM (bup (bup h1 G) h2) h3<|m1 hz) s5) sd) aj,z⟩
   exact Wk<|Wg<|Rm z<|R z (inc_ a6 (lt_ (repS.len hf) B_) z z)<|Ra z<|Wl (λ_ q=>⟨(),(som<|ifF a7 V).symm,⟨q.k<|s4 z z z z,bup sd aj⟩⟩)
  .rintro _ _ _ ⟨aF,W⟩;refine Wu ?_ aF;refine Wq<|Wm z<|Rf z P_ z<|R z (l0 E_ z<|((hg.e s5).e W).at z) ?_
   refine R z (lnR x_ z<|hf.g<|(((h2.ag B).c h3<|e_ (or0 (f_ lr) (p_<|zt' J<|lt_ h1.s G.s):∀k∈[I.z],¬B k)).e s5).e W)<|Rl z z z<|Wx z (λhc=>(R_ hc).elim) (λ_=>?_)
   exact We<|λ_ q=>⟨rfl,⟨q.k<|s2 z z,W⟩⟩
  .rintro _ ba ak rfl ⟨_,s8⟩;have aG:=elL a5;revert ba;refine Wo<|Wq ?_
   obtain ⟨bb,aH,aI⟩:=bdS aG;refine Wt (λa w=>∃(Y:Bool),Y=bb/\Sat 58 [(4,vB Y)] a/\Below ak.z ak w) ?_ ?_
   .refine Wg<|Rf z d_J z ?_
    have al:=(hg.e s5).e s8;refine R z (l0 g_9 z<|al.at z) ?_;have an:=lt_ h1.s G.s;have ao:=lt_ (lt_ (lt_ (lt_ an h2.s) h3.s) s5.s) s8.s;obtain ⟨bc,be,a8⟩:=bdS aH;refine E z (fc call133 z<|l_H be (zt' J ao) aa) ?_;rintro _ _ ⟨s7,rfl⟩;refine Rm z ?_
    rcases bs bc with H | H
    .refine Rh z H (lN (vs:=[sl A0 N0 C0]) w_ v_ z z fid<|(((((hj.e h2).c h3<|djs<|mm1 he.lt G.s).e s5).e s8).e s7).row 0 1 z)<|Rh z H (lN (vs:=vR xk am nn co ap nq cr au ns ct av nw cx) H_ m_ z z fid<|(al.e s7).row 0 8 z) ?_
     have aq:∀k∈[I.z],¬B k:=or0 (f_ lr)<|p_<|zt' J an;have hh:=((((h2.ag B).c h3<|e_ aq).e s5).e s8).e s7;obtain ⟨bf,bg,aJ⟩:=bdS<|ifT a8 H;refine Eg z z H z (fc call134 z<|W_w2k bg (zt' J<|lt_ ao s7.s) (O.g<|((((hl.e h2).c h3<|e_ aq).e s5).e s8).e s7) aa aT aU (aV.g hh) (aW.g hh) (aX.g hh)<|hf.g hh) ?_;rintro _ _ ⟨bh,rfl⟩;exact R z (pT z H z)<|Ra z<|Wl (λ_ q=>⟨bf,som aJ,q.k<|s1 z,bup s7 bh⟩)
    iterate 3 refine Nh z H ?_
    exact R z (pF z H z)<|Ra z<|Wl (λ_ q=>⟨false,som<|ifF a8 H,q.k<|s1 z,s7⟩)
   rintro bi _ ⟨Y,rfl,_,bj⟩;revert bi;refine Wo ?_;obtain rfl:=som aI;exact Wr<|c_ hr z ⟨bup (bup (bup (bM (bup (bup h1 G) h2) h3<|m1<|lt_ h1.s G.s) s5) s8) bj,z⟩
  rintro _ _ _ _ rfl ⟨rfl,aK⟩;have aL:=elR a5;obtain rfl:=som aL;exact ⟨aK,z⟩
 rintro _ _ _ _ rfl ⟨rfl,aM⟩;have aN:=elR a2;obtain rfl:=som aN;exact ⟨aM,z⟩
theorem W_w14 {x1:d_}{res:Bool}(hm:g_g x1=some res)(O:B<=w0.z)(I:repS w0 B (sl A0 N0 C0) x1.rules):i_ prog 53 [(.agg #[sl A0 N0 C0])] w0 (Q7 w0 B res):=by
 unfold g_g at hm
 refine goG func53 z z z λfn hr=>Ws<|E z (fb z) ?_
 rintro _ H ⟨rfl,W⟩;have G:=W.below;have h2:Blk H w0.z [sl A0 N0 C0]:=W.blk;refine Rw z<|Wq<|Ws<|Rw z ?_
 obtain ⟨_,hug,V⟩:=bdS hm;refine Wf (σ:=Unit) (ρ:=Bool) (λ(ka:Nat)(_:Unit) a w=>Sat 19 [(1,pt w0.z),(3,vI ((ka:Nat):Int))] a/\Below H.z H w) (λ(_:Unit) a w=>Sat 19 [(1,pt w0.z)] a/\Below H.z H w) (rQ prog fn<|Q7 w0 B) hug ?_ ?_ ?_ ?_ ?_
 .exact λ_ q=>⟨q.k<|s2 z z,br H⟩
 .rintro ka _ _ _ _ J ⟨hSh,s3⟩ hmi;refine Wu ?_ hSh;refine Wq<|Wm z<|Rf z a_i z ?_
  have hb:=h2.e s3;refine R z (l0 a_n z<|hb.at z) ?_;have hd:=I.g<|(G.ag B).e s3
  refine R z (lnR V_ z hd)<|Rl z z z<|Wx z (λ_=>?_) (λhc=>(Q_ J hc).elim)
  refine Wk<|Wq<|Wb<|Ws<|R z (lN (vs:=[sl A0 N0 C0]) w_ v_ z z fid<|hb.row 0 1 z)<|Rm z ?_
  obtain ⟨_,ej,hmc⟩:=bdS hmi;refine E z (fc call98 z<|W_w2l ej (zt' O<|lt_ G.s s3.s) hd<|ic (Nat.le_of_lt J)<|lt_ (repS.len I) B_) ?_;rintro _ _ ⟨se,rfl⟩;refine R z (not_ z)<|Wx z (λL=>?_) (λL=>?_)
  .exact Ws<|Rw z<|Wr<|rtO<|qL (som<|ifT hmc L).symm<|c_ hr z ⟨bup (bup G s3) se,z⟩
  exact Wk<|Wg<|Rm z<|R z (inc_ J (lt_ (repS.len I) B_) z z)<|Ra z<|Wl (λ_ q=>⟨(),(som<|ifF hmc L).symm,⟨q.k<|s2 z z,bup s3 se⟩⟩)
 .rintro _ _ _ ⟨hSk,s7⟩;refine Wu ?_ hSk;refine Wq<|Wm z<|Rf z a_i z<|R z (l0 a_n z<|(h2.e s7).at z)<|R z (lnR V_ z<|I.g<|(G.ag B).e s7)<|Rl z z z<|Wx z (λhc=>(R_ hc).elim) (λ_=>?_)
  exact We<|λ_ q=>⟨rfl,⟨q.k<|s1 z,s7⟩⟩
 .rintro _ al _ rfl ⟨_,s4⟩;have hmm:=elL V;revert al;refine Wo<|Ws<|Rf z a_i z<|R z (l0 a_n z<|(h2.e s4).at z) ?_
  have hf:=I.g<|(G.ag B).e s4
  refine R z (lnR V_ z hf) ?_;obtain ⟨_,en,hmo⟩:=bdS hmm;refine E z (fc call99 z<|b_K en (zt' O<|lt_ G.s s4.s) (b_T<|repS.len hf) (ii z)<|ii z) ?_;rintro _ _ ⟨sp,rfl⟩;refine Rw z ?_
  obtain rfl:=som hmo;exact Wr<|c_ hr z ⟨bup (bup G s4) sp,z⟩
 rintro _ _ _ _ rfl ⟨rfl,hqq⟩;have hmr:=elR V;obtain rfl:=som hmr;exact ⟨hqq,z⟩
theorem W_w15 {x1:d_}{x2:Int}{res:Bool}(hm:g_j x1 x2=some res)(J:B<=w0.z)(I:repS w0 B (sl A0 N0 C0) x1.rules)(O:inI x2):i_ prog 108 [(.agg #[sl A0 N0 C0]),vI x2] w0 (Q7 w0 B res):=by
 unfold g_j at hm
 refine goG func108 z z z λfn hr=>Ws<|E z (fb z) ?_
 rintro _ H ⟨rfl,h5⟩;have h1:=h5.below;have h6:Blk H w0.z [sl A0 N0 C0]:=h5.blk;refine Rw z<|Wq ?_
 obtain ⟨u8,V,hma⟩:=bdS hm;refine Wt (λa w=>∃(x4:Bool),x4=u8/\Sat 15 [(4,vB x4)] a/\Below H.z H w) ?_ ?_
 .refine Wg<|Rm z<|Rf z a_i z<|R z (l0 a_n z<|h6.at z)<|R z (lnR V_ z<|I.e h1)<|R z (sb_ z z) ?_
  obtain ⟨rb,ec,L⟩:=bdS V;refine E z (fc call99 z<|b_K ec (zt' J h1.s) O (ii z)<|iS _ _) ?_;rintro _ _ ⟨s2,rfl⟩;refine Rm z ?_
  rcases bs rb with G | G
  .refine Rh z G (lN (vs:=[sl A0 N0 C0]) w_ v_ z z fid<|(h6.e s2).row 0 1 z) ?_;obtain ⟨rd,ee,hmf⟩:=bdS<|ifT L G;refine Eg z z G z (fc call53 z<|W_w14 ee (zt' J<|lt_ h1.s s2.s)<|I.g<|(h1.ag B).e s2) ?_;rintro _ _ ⟨sg,rfl⟩;exact R z (pT z G z)<|Ra z<|Wl (λ_ q=>⟨rd,som hmf,q.k<|s1 z,bup s2 sg⟩)
  exact Nh z G<|Nh z G<|R z (pF z G z)<|Ra z<|Wl (λ_ q=>⟨false,som<|ifF L G,q.k<|s1 z,s2⟩)
 rintro ah _ ⟨x4,rfl,_,si⟩;revert ah;refine Wo ?_;obtain rfl:=som hma;exact Wr<|c_ hr z ⟨bup h1 si,z⟩
theorem W_w2m {x1:Bt}{x2:Bool}{res:Int}(hm:h_n x1 x2=some res)(V:B<=w0.z)(G:repS w0 B (sl A0 N0 C0) x1):i_ prog 132 [sl A0 N0 C0,vB x2] w0 (Q0 w0 B res):=by
 unfold h_n at hm
 refine goG func132 z z z λfn hr=>Ws<|Rw z<|Ws<|Rw z<|Wq<|Wm z<|R z (lnR o_ z G)<|R z (a_b z z)<|Wx z (λI=>?_) (λI=>?_)
 .refine Ws<|Rw z ?_
  obtain rfl:=som<|ifT hm I;exact Wr<|c_ hr z ⟨br w0,z,ii z⟩
 refine Wk<|Wq<|Ws<|Rw z ?_
 obtain ⟨_,hue,O⟩:=bdS<|ifF hm I;refine Wf (σ:=Int) (ρ:=Int) (λ(k1:Nat)(x0:Int) a w=>Sat 33 [(0,sl A0 N0 C0),(1,vB x2),(5,vI x0),(6,vI ((k1:Nat):Int))] a/\Below w0.z w0 w/\inI x0) (λ(x0:Int) a w=>Sat 33 [(5,vI x0)] a/\Below w0.z w0 w/\inI x0) (rQ prog fn<|Q0 w0 B) hue ?_ ?_ ?_ ?_ ?_
 .exact λ_ q=>⟨q.k<|s4 z z z z,br w0,ii z⟩
 .rintro k1 x0 _ H _ J ⟨hSf,s7,h3⟩ hmg;refine Wu ?_ hSf;refine Wq<|Wm z<|Rm z ?_
  have ha:=G.e s7;refine R z (lnR o_ z ha)<|Rl z z z<|Wx z (λ_=>?_) (λhc=>(Q_ J hc).elim)
  refine Wk<|Wq<|Wb<|Wm z<|Rw z<|Wq<|Wm z<|Wn ?_
  obtain ⟨uh,hub,hmi⟩:=bdS hmg;refine Wt (λa w=>∃(x4:Int),x4=uh/\Sat 33 [(0,sl A0 N0 C0),(1,vB x2),(5,vI x0),(6,vI ((k1:Nat):Int)),(7,vI x4)] a/\Below H.z H w/\inI x4) ?_ ?_
  .refine Wc z (λL=>?_)<|λL=>?_
   .exact Wg<|Rm z<|R z (lnR o_ z ha)<|R z (sb_ z z)<|Rm z<|R z (sb_ z z)<|Ra z<|Wl (λ_ q=>⟨K_ (K_ (x1.length:Int) 1) ((k1:Nat):Int),som<|ifT hub L,q.k<|s5 z z z z z,br H,iS _ _⟩)
   exact a_5<|λ_ q=>⟨((k1:Nat):Int),som<|ifF hub L,q.k<|s5 z z z z z,br H,ic (Nat.le_of_lt J)<|lt_ (repS.len G) B_⟩
  rintro aj _ ⟨x4,rfl,_,sc,_⟩;revert aj;refine Wo<|Wg<|Rm z<|R z (f_M z z)<|RM z z ?_
  obtain ⟨xk,el,hmm⟩:=bdS hmi;refine RX z (at_ (α:=UInt8) o_ z_5 z z z (G.g<|(s7.ag B).e sc) el) ?_;rintro _ ⟨_,_,_,rfl,hn,ho,_⟩;obtain rfl:=u8 ho;exact R z (l0 g_5 z<|hn.at0 z)<|R z (c_h d_5 d_3 z)<|R z (add_ z z)<|Rw z<|Wg<|Rm z<|R z (inc_ J (lt_ (repS.len G) B_) z z)<|Ra z<|Wl (λ_ q=>⟨g_ (b_r x0 256)<|byteI xk,(som hmm).symm,⟨q.k<|s4 z z z z,bup s7 sc,iA _ _⟩⟩)
 .rintro x0 _ _ ⟨hSp,sd,h3⟩;refine Wu ?_ hSp;refine Wq<|Wm z<|Rm z<|R z (lnR o_ z<|G.e sd)<|Rl z z z<|Wx z (λhc=>(R_ hc).elim) (λ_=>?_)
  exact We<|λ_ q=>⟨rfl,⟨q.k<|s1 z,sd,h3⟩⟩
 .rintro x0 aq _ rfl ⟨_,sr,h3⟩;have hms:=elL O;revert aq;refine Wo<|Wm z<|Rw z ?_
  obtain rfl:=som hms;exact Wr<|c_ hr z ⟨sr,z,h3⟩
 rintro _ _ _ _ rfl ⟨rfl,hqt⟩;have hmu:=elR O;obtain rfl:=som hmu;exact ⟨hqt,z⟩
def Q8 (w0:World)(B:Zone)(r:Int×Int×Bool)(v:Value)(w':World):Prop:=Bw w0 w'/\un3 (λG H I=>v = .tuple #[vI G,vI H,vB I]/\inI G/\inI H) r
theorem i_i {x1:d_}{x2:Int}{x3:Bt}{x4:Int}{res:Int×Int×Bool}(hm:c_I x1 x2 x3 x4=some res)(L:B<=w0.z)(Y:repS w0 B (sl A0 N0 C0) x1.rules)(a5:inI x2)(J:repS w0 B (sl A7 N7 C7) x3)(a0:inI x4):i_ prog 92 [(.agg #[sl A0 N0 C0]),vI x2,sl A7 N7 C7,vI x4] w0 (Q8 w0 B res):=by
 unfold c_I at hm
 refine goG func92 z z z λfn hr=>Ws<|E z (fb z) ?_
 rintro _ I ⟨rfl,V⟩;have G:=V.below;refine RA z z<|Rw z<|Ws<|Rf z a_i z<|R z (l0 a_n z<|(V.blk:Blk I w0.z [sl A0 N0 C0]).at z)<|Rm z ?_
 obtain ⟨W,em,O⟩:=bdS hm;refine RX z (at_ (α:=b_) V_ m_ z z z (Y.e G) em) ?_;rintro _ ⟨_,_,_,rfl,ht,hu,_⟩;obtain ⟨aa,nb,cc,ad,ne,cf,ah,ng,ci,aj,nk,cl,rfl,_,_,_,_,_,_,_⟩:=a_F hu;refine R z (lN (vs:=vR W aa nb cc ad ne cf ah ng ci aj nk cl) H_ m_ z z fid ht)<|E z (fa b_S) ?_
 rintro _ wr ⟨rfl,hn⟩;have h1:=hn.below;refine E0 (fs0 (cur':=vR W aa nb cc ad ne cf ah ng ci aj nk cl) m_ z z (hn.blk:Blk wr I.z [(Str.v (⟨[]⟩:Str)),vI 0,vI 0,vB false,sN,sN,sN,sN]) z z z z) ?_;rintro _ _ ⟨ho,ss⟩;have h2:=ss.one;refine Wn<|Wq<|Wm z ?_
 have hp:=((G.ag B).e h1).c h2<|e_ (or0 (f_ lr) (p_<|zt' L G.s):∀k∈[I.z],¬B k)
 refine R z (lnR o_ z<|J.g hp)<|Rm z<|R z (sb_ z z)<|Rf z a_H z<|R z (l0 g_3 z<|ho.at z)<|Rl z z z<|Wx z (λH=>?_) (λH=>?_)
 .refine Wm z<|RA z z<|Rw z ?_
  obtain rfl:=som<|ifT O H;exact Wr<|A_ hr z z z ⟨bM (bup G h1) h2<|m1 G.s,z,ii z,a0⟩
 refine Wk<|Wq (Wd (X:=noX) 0 (.rd 0<|.rd 1<|.rd 2<|.rd 3<|.rd 4<|.rd 5<|.rd 6<|.rd 7<|.rd 8<|.rd 10<|.rd 11<|.rd 12<|.rd 13<|.ef 9<|.rd 14<|.rd 15<|.rd 16 .done) mo (by kernel_rfl) λa6 s3 _=>?_)
 iterate 3 refine dM z z z ?_
 refine dR z z (fd a_H z) ?_;have h6:=ho.e s3;refine dR z z (l0 g_3 z<|h6.at z)<|dR z z (add_ z z) ?_
 obtain ⟨_,ex,hmy⟩:=bdS<|ifF O H;refine dRX z z (rX o_ z_5 z z (J.g<|hp.e s3) z z ex) ?_;rintro _ ⟨_,_,_,rfl,hz⟩;refine dR z z (fd d_k z)<|dR z z (l0 g_4 z<|h6.at z)<|dM z z z<|dR z z (fd a_H z)<|dR z z (l0 g_3 z<|h6.at z)<|dR z z (add_ z z) ?_
 obtain ⟨_,a2,a1⟩:=bdS hmy;refine dE z z (fc call132 z<|W_w2m a2 (zt' L<|lt_ (lt_ (lt_ G.s h1.s) h2.s) s3.s) hz) (.inr λ_ _ h=>C_<|h.1) ?_;rintro _ _ ⟨a3,rfl,a4⟩
 iterate 3 refine dQ z z z ?_
 refine pD<|Wo ?_
 obtain rfl:=som a1;exact Wr<|A_ hr z z z ⟨bup (bup (bM (bup G h1) h2<|m1 G.s) s3) a3,z,a4,iA _ _⟩
def Q9 (w0:World)(B:Zone)(r:Val×Int×Int)(v:Value)(w':World):Prop:=Bw w0 w'/\un3 (λG H I=>∃J L O S1 a2 V W S2,v = .tuple #[(.agg #[vI G.number,sl J L O,sl a2 V W]),vI H,vI I]/\inI G.number/\a_ w' S1 (sl J L O) G.bytes/\a_ w' S2 (sl a2 V W) G.items/\inI H/\inI I/\(S1++S2).Nodup/\(∀k∈(S1++S2),w0.z<=k)) r
theorem W_w2n {x1:b_}{x2:Bt}{x3:Int}{res:Val×Int×Int}(hm:h_o x1 x2 x3=some res)(ab:B<=w0.z)(a5:x1.name.b.length<=LEN)(a6:inI x1.kind)(a7:inI x1.size)(I:repS w0 B (sl AB NB CB) x1.bytes)(a8:repS w0 B (sl AA NA CA) x1.names)(a9:repS w0 B (sl AC NC CC) x1.tags)(aa:repS w0 B (sl AD ND CD) x1.kids)(O:repS w0 B (sl A5 N5 C5) x2)(V:inI x3):i_ prog 101 [(.agg #[Str.v x1.name,vI x1.kind,vI x1.size,vB x1.little,sl AB NB CB,sl AA NA CA,sl AC NC CC,sl AD ND CD]),sl A5 N5 C5,vI x3] w0 (Q9 w0 B res):=by
 unfold h_o at hm
 refine goG func101 z z z λfn hr=>Ws<|E z (fb z) ?_
 rintro _ J ⟨rfl,he⟩;have G:=he.below;have h5:Blk J w0.z (vR x1 AB NB CB AA NA CA AC NC CC AD ND CD):=he.blk;refine E z (fa a_f) ?_;rintro _ H ⟨rfl,hf⟩;have h1:=hf.below;have L:Blk H J.z [vI 0,sN,sN]:=hf.blk;refine Ra z<|Rw z<|Wq<|Ws<|Rw z ?_
 obtain ⟨_,hun,hmg⟩:=bdS hm;refine Wf (σ:=Unit) (ρ:=Val×Int×Int) (λ(kh:Nat)(_:Unit) a w=>Sat 47 [(1,sl A5 N5 C5),(2,vI x3),(3,pt w0.z),(6,pt J.z),(9,vI ((kh:Nat):Int))] a/\Below H.z H w) (λ(_:Unit) a w=>Sat 47 [(2,vI x3),(3,pt w0.z),(6,pt J.z)] a/\Below H.z H w) (rQ prog fn<|Q9 w0 B) hun ?_ ?_ ?_ ?_ ?_
 .exact λ_ q=>⟨q.k<|s5 z z z z z,br H⟩
 .rintro kh _ _ _ _ hki ⟨hSo,s2⟩ hmj;refine Wu ?_ hSo;refine Wq<|Wm z<|Rf z b_f z ?_
  have hk:=(h5.e h1).e s2;refine R z (l0 X_ z<|hk.at z) ?_;have ha:=((G.ag B).e h1).e s2;refine R z (lnR o_ z<|I.g ha)<|Rl z z z<|Wx z (λ_=>?_) (λhc=>(Q_ hki hc).elim)
  refine Wk<|Wq<|Wb<|Wq<|Wm z<|Rm z<|R z (add_ z z)<|Rm z<|R z (lnR o_ z<|O.g ha)<|R z (c_d z z)<|Wx z (λhcb=>?_) (λhcb=>?_)
  .refine Ws<|R z (bP (parts:=[]) (cs:=[vI 0,sN,sN]) a_4 z z)<|Rm z<|E0 (fs0 (cur':=[vI 0,sN,sN]) h_ z z (L.e s2) z z z z) ?_
   rintro _ _ ⟨hp,sq⟩;exact Ra z<|Rw z<|Wr<|rtO<|qL (som<|ifT hmj hcb).symm<|A_ hr (s_ y_ h_ z hp z) z z ⟨bM (bup (bup G h1) s2) sq.one<|m1 G.s,none,0,0,[],none,0,0,[],z,ii z,onL,onL,V,ii z,nd0,al0⟩
  refine Wk<|Wq (Wd (X:=noX) 0 (pl_ 12 []) mo (by kernel_rfl) λad s6 _=>?_)
  iterate 3 refine dM z z z ?_
  refine dR z z (add_ z z) ?_;obtain ⟨_,er,hms⟩:=bdS<|ifF hmj hcb;have hl:=ha.e s6;refine dRX z z (at_ (α:=UInt8) o_ z_5 z z z (O.g hl) er) ?_;rintro _ ⟨_,_,_,rfl,ht,hu,_⟩;obtain rfl:=u8 hu;refine dR z z (l0 g_5 z<|ht.at0 z)<|dR z z (fd b_f z)<|dR z z (l0 X_ z<|(hk.e s6).at z)<|dM z z z ?_
  obtain ⟨_,ev,hmm⟩:=bdS hms;refine dRX z z (at_ (α:=UInt8) o_ z_5 z z z (I.g hl) ev) ?_;rintro _ ⟨_,_,_,rfl,hw,hx,_⟩;obtain rfl:=u8 hx;refine dR z z (l0 g_5 z<|hw.at0 z)<|dR z z (nq z z)<|pD<|Wo<|Wc z (λhcc=>?_) (λhcc=>?_)
  .refine Ws<|R z (bP (parts:=[]) (cs:=[vI 0,sN,sN]) a_4 z z)<|RM z z<|R z (add_ z z)<|E0 (fs0 (cur':=[vI 0,sN,sN]) h_ z z ((L.e s2).e s6) z z z z) ?_
   rintro _ _ ⟨hy,sz⟩;exact Ra z<|Rw z<|Wr<|rtO<|qL (som<|ifT hmm hcc).symm<|A_ hr (s_ y_ h_ z hy z) z z ⟨bM (bup (bup (bup G h1) s2) s6) sz.one<|m1 G.s,none,0,0,[],none,0,0,[],z,ii z,onL,onL,iA _ _,ii z,nd0,al0⟩
  exact Wk<|Wg<|Rm z<|R z (inc_ hki (lt_ (repS.len I) B_) z z)<|Ra z<|Wl (λ_ q=>⟨(),(som<|ifF hmm hcc).symm,⟨q.k<|s5 z z z z z,bup s2 s6⟩⟩)
 .rintro _ _ _ ⟨W,sd⟩;refine Wu ?_ W;refine Wq<|Wm z<|Rf z b_f z<|R z (l0 X_ z<|((h5.e h1).e sd).at z)<|R z (lnR o_ z<|I.g<|((G.ag B).e h1).e sd)<|Rl z z z<|Wx z (λhc=>(R_ hc).elim) (λ_=>?_)
  exact We<|λ_ q=>⟨rfl,⟨q.k<|s3 z z z,sd⟩⟩
 .rintro _ a2 _ rfl ⟨_,s7⟩;have Y:=elL hmg;revert a2;refine Wo<|Wq (Wd (X:=(· ∈ [J.z])) 0 (pl_ 9 [6]) mo (by kernel_rfl) λae s8 _=>dR z z (bP (parts:=[]) (cs:=[vI 0,sN,sN]) a_4 z z)<|dM z z z<|dR z z (fd b_f z)<|dR z z (l1 X_ z (djs<|mmr h5.lt)<|(((h5.e h1).e s7).e s8).at z)<|dR z z (lnR o_ z<|I.g<|(((G.ag B).e h1).e s7).e s8)<|dR z z (add_ z z)<|dE0 z (fs0 (cur':=[vI 0,sN,sN]) h_ z z ((L.e s7).e s8) z z z z) (.inr λ_ _ h=>chgIn (List.mem_singleton.2 z) h.2) ?_)
  rintro _ _ ⟨a3,a4⟩;refine dQ z z z<|dQ z z z<|pD<|Wo ?_
  obtain rfl:=som Y;exact Wr<|A_ hr (s_ y_ h_ z a3 z) z z ⟨bM (bup (bup (bup G h1) s7) s8) a4.one<|m1 G.s,none,0,0,[],none,0,0,[],z,ii z,onL,onL,iA _ _,ii z,nd0,al0⟩
 rintro _ _ _ _ rfl ⟨rfl,a0⟩;have a1:=elR hmg;obtain rfl:=som a1;exact ⟨a0,z⟩
theorem W_w16 {x1:Bt}{x2:Int}{x3:Int}{res:Val×Int×Int}(hm:g_h x1 x2 x3=some res)(a1:B<=w0.z)(O:repS w0 B (sl A0 N0 C0) x1)(Y:inI x2)(a0:inI x3):i_ prog 102 [sl A0 N0 C0,vI x2,vI x3] w0 (Q9 w0 B res):=by
 unfold g_h at hm
 refine goG func102 z z z λfn hr=>Ws<|E z (fa a_f) ?_
 rintro _ we ⟨rfl,V⟩;have G:=V.below;have h2:Blk we w0.z [vI 0,sN,sN]:=V.blk;refine Ra z<|Rw z<|Wq<|Wm z<|R z (lnR o_ z<|O.e G)<|Rm z<|R z (sb_ z z)<|Rm z<|Rl z z z<|Wx z (λH=>?_) (λH=>?_)
 .refine Ws<|R z (bP (parts:=[]) (cs:=[vI 0,sN,sN]) a_4 z z)<|Rm z<|E0 (fs0 (cur':=[vI 0,sN,sN]) h_ z z h2 z z z z) ?_
  rintro _ _ ⟨hf,sg⟩;refine Ra z<|Rw z ?_
  obtain rfl:=som<|ifT hm H;exact Wr<|A_ hr (s_ y_ h_ z hf z) z z ⟨bM G sg.one<|f_ lr,none,0,0,[],none,0,0,[],z,ii z,onL,onL,Y,ii z,nd0,al0⟩
 refine Wk<|Ws<|E z (f0 (α:=UInt8) b_I) ?_
 rintro _ _ ⟨_,_,_,rfl,s1,hh⟩;refine RM z z<|RM z z<|R z (add_ z z) ?_
 obtain ⟨_,ei,hmj⟩:=bdS<|ifF hm H;refine RX z (rX o_ z_5 z z (O.g<|(G.ag B).e s1) z z ei) ?_;rintro _ ⟨_,_,_,rfl,hk⟩;obtain ⟨_,el,hmm⟩:=bdS hmj;refine E z (fN (α:=UInt8) b_I el z z hh a_I hk) ?_;rintro _ _ ⟨W,I,J,L,rfl,s9,hn,ho,ha⟩;refine R z (bP (parts:=[(1,.tmp 24)]) (cs:=[vI 0,sl I J L,sN]) a_4 z z)<|RM z z<|R z (add_ z z) ?_
 have hb:=mmr h2.lt;refine E0 (fs0 (cur':=[vI 0,sl I J L,sN]) h_ z z ((h2.e s1).c s9<|djs hb) z z z z) ?_;rintro _ _ ⟨hp,sq⟩;have hc:=sq.one;refine Ra z<|Rw z ?_
 obtain rfl:=som hmm;have hd:=m1 G.s;exact Wr<|A_ hr (s_ y_ h_ z hp z) z z ⟨bM (bM (bup G s1) s9 hd) hc<|f_ lr,I,J,L,W,none,0,0,[],z,ii z,hn.c hc (or1 ha hb (a_T (f_ h2.lt) s1.s):∀k∈W,k∉[w0.z]),onL,iA _ _,ii z,na_ ho U_<|nmN _,aa_ (c_6 ha hd<|lt_ G.s s1.s) an_⟩
def Q10 (w0:World)(B:Zone)(r:Bt×Int×Bool)(v:Value)(w':World):Prop:=Bw w0 w'/\un3 (λL G O=>∃H I J S1,v = .tuple #[sl H I J,vI G,vB O]/\a_ w' S1 (sl H I J) L/\inI G/\S1.Nodup/\(∀k∈S1,w0.z<=k)) r
theorem W_w2o {x1:Bt}{x2:Int}{x3:UInt8}{res:Bt×Int×Bool}(hm:h_p n x1 x2 x3=some res)(W:B<=w0.z)(O:repS w0 B (sl A0 N0 C0) x1)(V:inI x2):i_ prog 103 [sl A0 N0 C0,vI x2,vU<|byteI x3] w0 (Q10 w0 B res):=by
 unfold h_p at hm
 refine goG func103 z z z λfn hr=>Ws<|RA z z<|Rw z<|Ws<|E z (f0 (α:=UInt8) b_I) ?_
 rintro _ G ⟨al,am,an,rfl,s9,ao⟩;refine Rw z<|Wq<|Wm z<|Rw z ?_
 obtain ⟨_,a7,hmr⟩:=bdS hm;refine c_k (σ:=Bt×Int) (ρ:=Bt×Int×Bool) (λs a w=>un2 (λxb x5=>∃a2 I J H,Sat 54 [(0,sl A0 N0 C0),(1,vI x2),(2,vU<|byteI x3),(9,sl a2 I J),(10,vI x5)] a/\Cg [w0.z] G w/\a_ w H (sl a2 I J) xb/\H.Nodup/\(∀k∈H,k∈[w0.z]∨G.z<=k)/\inI x5) s) (λs a w=>un2 (λxb x5=>∃a2 I J H,Sat 54 [(1,vI x2)] a/\Cg [w0.z] G w/\a_ w H (sl a2 I J) xb/\H.Nodup/\(∀k∈H,k∈[w0.z]∨G.z<=k)/\inI x5) s) (rQ prog fn<|Q10 w0 B) a7 ?_ ?_ ?_ ?_
 .exact λ_ q=>⟨al,am,an,[w0.z],q.k<|s5 z z z z z,cr [w0.z] G,ao,a_I,io sr,V⟩
 .rintro ⟨xb,x5⟩ _ wc _ ⟨a2,I,J,H,a8,s8,hd,he,hf,hi⟩ a9;refine Wu ?_ a8;refine Wq<|Wq ?_
  obtain ⟨ap,aa,hms⟩:=bdS<|a_P a9;refine Wt (λa w=>∃(xj:Bool),xj=ap/\Sat 54 [(0,sl A0 N0 C0),(1,vI x2),(2,vU<|byteI x3),(9,sl a2 I J),(10,vI x5),(22,vB xj)] a/\Below wc.z wc w) ?_ ?_
  .refine Wg<|RM z z ?_
   have hu:=(s9.ag B).c s8<|e_ (or0 (f_ lr) (p_ W):∀k∈[w0.z],¬B k)
   have hv:=O.g hu;refine R z (lnR o_ z hv) ?_;obtain ⟨aq,ar,hmw⟩:=bdS aa;refine E z (fc call99 z<|b_K ar (zt' W<|lt_ s9.s s8.s) V (ii z)<|b_T<|repS.len hv) ?_;rintro _ _ ⟨sk,rfl⟩;refine Rm z ?_
   rcases bs aq with L | L
   .exact Rh z L (mv z)<|Rh z L (mv z)<|Rh z L (lnR o_ z<|O.g<|hu.e sk)<|Rh z L (lss z z)<|R z (pT z L z)<|Wl (λ_ q=>⟨decide<|x5<(x1.length:Int),som<|ifT hmw L,q.k<|s6 z z z z z z,sk⟩)
   iterate 4 refine Nh z L ?_
   exact R z (pF z L z)<|Wl (λ_ q=>⟨false,som<|ifF hmw L,q.k<|s6 z z z z z z,sk⟩)
  rintro au wa ⟨xj,rfl,_,s7⟩;revert au;refine Wo<|Wc z (λhcl=>?_) (λhcl=>?_)
  .refine Wk<|Wq<|Wb<|Wq<|Wm z<|Rm z ?_
   obtain ⟨_,av,hmx⟩:=bdS<|ifT hms hcl;have hy:=((s9.ag B).c s8<|e_ (or0 (f_ lr) (p_ W):∀k∈[w0.z],¬B k)).e s7;have hn:=O.g hy;refine RX z (at_ (α:=UInt8) o_ z_5 z z z hn av) ?_;rintro _ ⟨_,_,_,rfl,aw,ax,_⟩;obtain rfl:=u8 ax;refine R z (l0 g_5 z<|aw.at0 z)<|Rm z<|Rq z z z<|Wx z (λhcm=>?_) (λhcm=>?_)
   .refine Wm z<|Rm z<|R z (add_ z z)<|RA z z<|Rw z ?_
    exact Wr<|rtO<|qL (som<|ifT hmx hcm).symm<|A_ hr z z z ⟨bup (bM s9 s8<|f_ lr) s7,a2,I,J,H,z,hd.e s7,iA _ _,he,(or1 hf (f_ lr) (c_i s9.s):∀k∈H,w0.z<=k)⟩
   refine Wk<|Wq<|Wm z<|Rm z ?_
   obtain ⟨_,ay,ab⟩:=bdS<|ifF hmx hcm;refine RX z (at_ (α:=UInt8) o_ z_5 z z z hn ay) ?_;rintro _ ⟨_,_,_,rfl,az,aA,_⟩;obtain rfl:=u8 aA;refine R z (l0 g_5 z<|az.at0 z)<|Rq z z z<|Wn ?_
   obtain ⟨aB,huz,Y⟩:=bdS ab;refine Wt (λa w=>∃(xg:Int),Sum.inl xg=aB/\Sat 54 [(0,sl A0 N0 C0),(1,vI x2),(2,vU<|byteI x3),(9,sl a2 I J),(10,vI xg)] a/\Below wa.z wa w/\inI xg) ?_ ?_
   .refine Wc z (λhco=>?_)<|λhco=>?_
    .have a0:=ifT huz hco;refine Wm z<|R z (add_ z z)<|Rw z<|Wm z<|Rm z<|R z (lnR o_ z hn)<|Rq z z z<|Wx z (λhcp=>?_) (λhcp=>?_)
     .obtain rfl:=som<|ifT a0 hcp;have ad:=elR Y;exact We<|exO z (λ_ q=>b_M (som ad).symm ⟨a2,I,J,H,q.k<|s1 z,(j_ (cM (cr [w0.z] G) s8 (io sr):Cg [w0.z] G wc) s7:Cg [w0.z] G wa),hd.e s7,he,(or1 hf (io sr) (l_ lr):∀k∈H,k∈[w0.z]∨G.z<=k),iA _ _⟩)
     exact a_5<|λ_ q=>⟨g_ x5 1,som<|ifF a0 hcp,q.k<|s5 z z z z z,br wa,iA _ _⟩
    exact a_5<|λ_ q=>⟨x5,som<|ifF huz hco,q.k<|s5 z z z z z,br wa,hi⟩
   rintro aC a1 ⟨xg,rfl,_,sh,_⟩;have ae:=elL Y;revert aC;refine Wo<|Wg<|RM z z<|Rm z ?_
   obtain ⟨aD,aE,af⟩:=bdS ae;refine RX z (at_ (α:=UInt8) o_ z_5 z z z (O.g<|hy.e sh) aE) ?_;rintro _ ⟨_,_,_,rfl,aF,aG,_⟩;obtain rfl:=u8 aG;refine R z (l0 g_5 z<|aF.at0 z)<|E z (fS [(.tmp 49)] b_I z z z (b_l z) (lb z)<|lb z) ?_
   rintro _ a3 ⟨rfl,hq⟩;have ht:=hq.below;have aY:=b_U hq e_n;obtain ⟨aH,aI,ah⟩:=bdS af;refine E z (b_W (α:=UInt8) b_I aI z z (((hd.e s7).e sh).e ht) he (hq.blk:Blk a3 a1.z [vU (byteI aD)]) e_n an_ U_) ?_;rintro _ aJ ⟨a4,aK,aL,aM,rfl,aN,aO,aP,aQ⟩;refine Rw z<|Wg<|Rm z<|R z (add_ z z)<|Ra z<|Wl ?_
   have a5:∀k∈H,k∈[w0.z]∨G.z<=k:=or1 hf (io sr)<|l_ lr;exact λ_ q=>⟨(aH,g_ xg 1),(som ah).symm,⟨aK,aL,aM,a4,q.k<|s5 z z z z z,(cM (j_ (j_ (j_ (cM (cr [w0.z] G) s8 (io sr):Cg [w0.z] G wc) s7:Cg [w0.z] G wa) sh:Cg [w0.z] G a1) ht:Cg [w0.z] G a3) aN a5:Cg [w0.z] G aJ),aO,aP,(or2 aQ a5 an_ (l_<|lt_ (lt_ (lt_ s8.s s7.s) sh.s) ht.s):∀k∈a4,k∈[w0.z]∨G.z<=k),iA _ _⟩⟩
  exact We<|λ_ q=>b_M (som<|ifF hms hcl).symm ⟨a2,I,J,H,q.k<|s1 z,(j_ (cM (cr [w0.z] G) s8 (io sr):Cg [w0.z] G wc) s7:Cg [w0.z] G wa),hd.e s7,he,(or1 hf (io sr) (l_ lr):∀k∈H,k∈[w0.z]∨G.z<=k),hi⟩
 .rintro ⟨xb,x5⟩ aR aS rfl ⟨a2,I,J,H,_,a6,hd,he,hf,hi⟩;have ai:=elL hmr;revert aR;refine Wo<|Ws<|E z (f0 (α:=UInt8) b_I) ?_
  rintro _ _ ⟨aT,aU,aV,rfl,aW,aX⟩;refine Rm z<|RA z z<|Rw z ?_
  obtain rfl:=som<|a_P ai;exact Wr<|A_ hr z z z ⟨bup (bM s9 a6<|f_ lr) aW,aT,aU,aV,[aS.z],z,aX,V,a_I,m1<|lt_ s9.s a6.s⟩
 rintro _ _ _ _ rfl ⟨rfl,aj⟩;have ak:=elR hmr;obtain rfl:=som ak;exact ⟨aj,z⟩
theorem e_g {x1:b_}{x2:Int}{x3:Int}{res:Int}(hm:b_j x1 x2 x3=some res)(aQ:B<=w0.z)(aJ:x1.name.b.length<=LEN)(aK:inI x1.kind)(aL:inI x1.size)(aM:repS w0 B (sl AB NB CB) x1.bytes)(aN:repS w0 B (sl AA NA CA) x1.names)(I:repS w0 B (sl AC NC CC) x1.tags)(J:repS w0 B (sl AD ND CD) x1.kids)(aO:inI x2)(aP:inI x3):i_ prog 93 [(.agg #[Str.v x1.name,vI x1.kind,vI x1.size,vB x1.little,sl AB NB CB,sl AA NA CA,sl AC NC CC,sl AD ND CD]),vI x2,vI x3] w0 (Q0 w0 B res):=by
 unfold b_j at hm
 refine goG func93 z z z λfn hr=>Ws<|E z (fb z) ?_
 rintro _ G ⟨rfl,hi⟩;have H:=hi.below;have h2:Blk G w0.z (vR x1 AB NB CB AA NA CA AC NC CC AD ND CD):=hi.blk;refine Rw z<|Wq<|Ws<|Rf z a_o z<|R z (l0 g_3 z<|h2.at z)<|Wn<|Wb<|Ws<|Rq z z z<|Rw z<|Wc z (λO=>?_) (λO=>?_)
 .refine Ws<|Rf z P_ z<|R z (l0 E_ z<|h2.at z) ?_
  obtain ⟨_,eu,hmv⟩:=bdS<|ifT hm O;refine RX z (at_ (α:=Int) x_ z_3 z z z (J.e H) eu) ?_;rintro _ ⟨_,_,_,rfl,hw,hx,_⟩;obtain ⟨rfl,hy⟩:=T_ hx;refine R z (l0 g_3 z<|hw.at0 z)<|Rw z ?_
  obtain rfl:=som hmv;exact Wr<|rtO<|c_ hr z ⟨H,z,hy⟩
 refine Ws<|Rq z z z<|Rw z ?_
 obtain ⟨uz,huj,L⟩:=bdS<|ifF hm O;refine Wt (λa w=>Sum.inl ()=uz/\Sat 57 [] a/\Below G.z G w) ?_ ?_
 .refine Wc z (λV=>?_)<|λV=>?_
  .have hmk:=ifT huj V;refine Wm z<|Rf z P_ z<|R z (l0 E_ z<|h2.at z) ?_
   have hl:=J.e H;refine R z (lnR x_ z hl)<|Rl z z z<|Wx z (λW=>?_) (λW=>?_)
   .refine Ws<|Rf z P_ z<|R z (l0 E_ z<|h2.at z)<|Rm z ?_
    obtain ⟨_,aj,a0⟩:=bdS<|ifT hmk W;refine RX z (at_ (α:=Int) x_ z_3 z z z hl aj) ?_;rintro _ ⟨_,_,_,rfl,ak,al,_⟩;obtain ⟨rfl,am⟩:=T_ al;refine R z (l0 g_3 z<|ak.at0 z)<|Rw z ?_
    obtain rfl:=som a0;have a1:=elR L;obtain rfl:=som a1;exact Wr<|rtO<|c_ hr z ⟨H,z,am⟩
   exact a_5<|λ_ q=>⟨som<|ifF hmk W,q.k sn,br G⟩
  refine Ws<|Rq z z z<|Rw z ?_
  obtain ⟨an,hum,Y⟩:=bdS<|ifF huj V;refine Wt (λa w=>Sum.inl ()=an/\Sat 57 [] a/\Below G.z G w) ?_ ?_
  .refine Wc z (λhca=>?_)<|λhca=>?_
   .refine Ws<|Rw z ?_
    obtain ⟨_,a2,hmn⟩:=bdS<|ifT hum hca;refine Wf (σ:=Unit) (ρ:=Int) (λ(ko:Nat)(_:Unit) a w=>Sat 57 [(1,vI x2),(3,pt w0.z),(7,vI ((ko:Nat):Int))] a/\Below G.z G w) (λ(_:Unit) a w=>Sat 57 [] a/\Below G.z G w) (rQ prog fn<|Q0 w0 B) a2 ?_ ?_ ?_ ?_ ?_
    .exact λ_ q=>⟨q.k<|s3 z z z,br G⟩
    .rintro ko _ _ _ _ hkb ⟨a3,s4⟩ a4;refine Wu ?_ a3;refine Wq<|Wm z<|Rf z b_g z ?_
     have hd:=h2.e s4;refine R z (l0 E_ z<|hd.at z) ?_;have hp:=(H.ag B).e s4;have hq:=I.g hp;refine R z (lnR x_ z hq)<|Rl z z z<|Wx z (λ_=>?_) (λhc=>(Q_ hkb hc).elim)
     refine Wk<|Wq<|Wb<|Ws<|Rf z b_g z<|R z (l0 E_ z<|hd.at z)<|Rm z ?_
     obtain ⟨_,ao,hmr⟩:=bdS a4;refine RX z (at_ (α:=Int) x_ z_3 z z z hq ao) ?_;rintro _ ⟨_,_,_,rfl,ap,aq,_⟩;obtain ⟨rfl,_⟩:=T_ aq;refine R z (l0 g_3 z<|ap.at0 z)<|Rm z<|Rq z z z<|Wx z (λhcc=>?_) (λhcc=>?_)
     .refine Ws<|Rf z P_ z<|R z (l0 E_ z<|hd.at z)<|Rm z<|R z (inc_ hkb (lt_ (repS.len I) B_) z z) ?_
      obtain ⟨_,ar,a5⟩:=bdS<|ifT hmr hcc;refine RX z (at_ (α:=Int) x_ z_3 z z z (J.g hp) ar) ?_;rintro _ ⟨_,_,_,rfl,au,av,_⟩;obtain ⟨rfl,aw⟩:=T_ av;exact R z (l0 g_3 z<|au.at0 z)<|Rw z<|Wr<|rtO<|qL (som a5).symm<|c_ hr z ⟨bup H s4,z,aw⟩
     exact Wk<|Wg<|Rm z<|R z (inc_ hkb (lt_ (repS.len I) B_) z z)<|Ra z<|Wl (λ_ q=>⟨(),(som<|ifF hmr hcc).symm,⟨q.k<|s3 z z z,s4⟩⟩)
    .rintro _ _ _ ⟨a6,se⟩;refine Wu ?_ a6;refine Wq<|Wm z<|Rf z b_g z<|R z (l0 E_ z<|(h2.e se).at z)<|R z (lnR x_ z<|I.g<|(H.ag B).e se)<|Rl z z z<|Wx z (λhc=>(R_ hc).elim) (λ_=>?_)
     exact We<|λ_ q=>⟨rfl,⟨q.k sn,se⟩⟩
    .rintro _ ax _ rfl ⟨_,ay⟩;have a7:=elL hmn;revert ax;exact λ_ q=>⟨som a7,q.k sn,ay⟩
    rintro _ _ _ _ rfl ⟨rfl,a8⟩;have a9:=elR hmn;obtain rfl:=som a9;have aa:=elR Y;obtain rfl:=som aa;have ab:=elR L;obtain rfl:=som ab;exact ⟨a8,z⟩
   refine Wq<|Ws<|Rq z z z<|Rw z ?_
   obtain ⟨az,hus,hmt⟩:=bdS<|ifF hum hca;refine Wt (λa w=>∃(xf:Bool),xf=az/\Sat 57 [(3,pt w0.z),(50,vB xf)] a/\Below G.z G w) ?_ ?_
   .refine Wc z (λhcg=>?_)<|λhcg=>?_
    .exact a_5<|λ_ q=>⟨x1.kind==8,som<|ifT hus hcg,q.k<|s2 z z,br G⟩
    exact Wg<|Rq z z z<|Ra z<|Wl (λ_ q=>⟨x1.kind==9,som<|ifF hus hcg,q.k<|s2 z z,br G⟩)
   rintro aA _ ⟨xf,rfl,_,s5⟩;revert aA;refine Wo<|Wc z (λhch=>?_) (λhch=>?_)
   .refine Ws<|Rf z P_ z<|R z (l0 E_ z<|(h2.e s5).at z) ?_
    obtain ⟨_,aB,ad⟩:=bdS<|ifT hmt hch;refine RX z (at_ (α:=Int) x_ z_3 z z z (J.g<|(H.ag B).e s5) aB) ?_;rintro _ ⟨_,_,_,rfl,aC,aD,_⟩;obtain ⟨rfl,aE⟩:=T_ aD;refine R z (l0 g_3 z<|aC.at0 z)<|Rw z ?_
    obtain rfl:=som ad;have ae:=elR Y;obtain rfl:=som ae;have af:=elR L;obtain rfl:=som af;exact Wr<|rtO<|c_ hr z ⟨bup H s5,z,aE⟩
   exact a_5<|λ_ q=>⟨som<|ifF hmt hch,q.k sn,s5⟩
  rintro aF _ ⟨rfl,_,aG⟩;have ah:=elL Y;revert aF;exact λ_ q=>⟨som ah,q.k sn,aG⟩
 rintro aH _ ⟨rfl,_,aI⟩;have ai:=elL L;revert aH;refine Wo<|Ws<|Rw z ?_
 obtain rfl:=som ai;exact Wr<|c_ hr z ⟨bup H aI,z,ii z⟩
theorem W_w2p {x1:Bt}{res:Int}(hm:h_q x1=some res)(O:B<=w0.z)(G:repS w0 B (sl A0 N0 C0) x1):i_ prog 135 [sl A0 N0 C0] w0 (Q0 w0 B res):=by
 unfold h_q at hm
 refine goG func135 z z z λfn hr=>Ws<|Rw z<|Ws<|Rw z<|Wq<|Ws<|Rw z ?_
 obtain ⟨_,J,H⟩:=bdS hm;refine Wf (σ:=Int) (ρ:=Int) (λ(k3:Nat)(x0:Int) a w=>Sat 20 [(0,sl A0 N0 C0),(3,vI x0),(4,vI ((k3:Nat):Int))] a/\Below w0.z w0 w/\inI x0) (λ(x0:Int) a w=>Sat 20 [(3,vI x0)] a/\Below w0.z w0 w/\inI x0) (rQ prog fn<|Q0 w0 B) J ?_ ?_ ?_ ?_ ?_
 .exact λ_ q=>⟨q.k<|s3 z z z,br w0,ii z⟩
 .rintro k3 x0 _ _ _ I ⟨L,s5,h1⟩ hma;refine Wu ?_ L;refine Wq<|Wm z<|Rm z ?_
  have h6:=G.e s5;refine R z (lnR o_ z h6)<|Rl z z z<|Wx z (λ_=>?_) (λhc=>(Q_ I hc).elim)
  refine Wk<|Wq<|Wb<|Wg<|RM z z<|Rm z ?_
  obtain ⟨xb,ec,hmd⟩:=bdS hma;refine RX z (at_ (α:=UInt8) o_ z_5 z z z h6 ec) ?_;rintro _ ⟨_,_,_,rfl,he,hf,_⟩;obtain rfl:=u8 hf;exact R z (l0 g_5 z<|he.at0 z)<|R z (c_h d_5 d_3 z)<|R z (add_ z z)<|R z (f_N z z (by decide))<|Rw z<|Wg<|Rm z<|R z (inc_ I (lt_ (repS.len G) B_) z z)<|Ra z<|Wl (λ_ q=>⟨a_J (g_ x0<|byteI xb) 256,(som hmd).symm,⟨q.k<|s3 z z z,s5,k_r<|iA _ _⟩⟩)
 .rintro x0 _ _ ⟨hSg,s7,h1⟩;refine Wu ?_ hSg;refine Wq<|Wm z<|Rm z<|R z (lnR o_ z<|G.e s7)<|Rl z z z<|Wx z (λhc=>(R_ hc).elim) (λ_=>?_)
  exact We<|λ_ q=>⟨rfl,⟨q.k<|s1 z,s7,h1⟩⟩
 .rintro x0 ah _ rfl ⟨_,si,h1⟩;have hmj:=elL H;revert ah;refine Wo<|Wm z<|Rw z ?_
  obtain rfl:=som hmj;exact Wr<|c_ hr z ⟨si,z,h1⟩
 rintro _ _ _ _ rfl ⟨rfl,hqk⟩;have hml:=elR H;obtain rfl:=som hml;exact ⟨hqk,z⟩
structure l_I (f:d_->Int->Bt->Int->Option (Val×Int×Int)):Prop where
  run:∀{A0 A7:Option Addr}{N0 C0 N7 C7:Nat}{B:Zone}{x1:d_}{x2:Int}{x3:Bt}{x4:Int}{res:Val×Int×Int}{w0:World}(hm:f x1 x2 x3 x4=some res)(hBw:B<=w0.z)(p1_0:repS w0 B (sl A0 N0 C0) x1.rules)(p2_0:inI x2)(p3_0:repS w0 B (sl A7 N7 C7) x3)(p4_0:inI x4),i_ prog 55 [(.agg #[sl A0 N0 C0]),vI x2,sl A7 N7 C7,vI x4] w0<|Q9 w0 B res
structure l_J (f:d_->b_->Int->Int->Bt->Int->Option (Val×Int×Int)):Prop where
  run:∀{A0 A2 A3 A1 A4 AF:Option Addr}{N0 C0 N2 C2 N3 C3 N1 C1 N4 C4 NF CF:Nat}{B:Zone}{x1:d_}{x2:b_}{x3:Int}{x4:Int}{x5:Bt}{x6:Int}{res:Val×Int×Int}{w0:World}(hm:f x1 x2 x3 x4 x5 x6=some res)(hBw:B<=w0.z)(p1_0:repS w0 B (sl A0 N0 C0) x1.rules)(p2_0:x2.name.b.length<=LEN)(p2_1:inI x2.kind)(p2_2:inI x2.size)(p2_4:repS w0 B (sl A2 N2 C2) x2.bytes)(p2_5:repS w0 B (sl A3 N3 C3) x2.names)(p2_6:repS w0 B (sl A1 N1 C1) x2.tags)(p2_7:repS w0 B (sl A4 N4 C4) x2.kids)(p3_0:inI x3)(p4_0:inI x4)(p5_0:repS w0 B (sl AF NF CF) x5)(p6_0:inI x6),i_ prog 104 [(.agg #[sl A0 N0 C0]),.agg #[Str.v x2.name,vI x2.kind,vI x2.size,vB x2.little,sl A2 N2 C2,sl A3 N3 C3,sl A1 N1 C1,sl A4 N4 C4],vI x3,vI x4,sl AF NF CF,vI x6] w0<|Q9 w0 B res
structure l_K (f:d_->b_->Bt->Int->Option (Val×Int×Int)):Prop where
  run:∀{A0 A2 A3 A1 A4 A7:Option Addr}{N0 C0 N2 C2 N3 C3 N1 C1 N4 C4 N7 C7:Nat}{B:Zone}{x1:d_}{x2:b_}{x3:Bt}{x4:Int}{res:Val×Int×Int}{w0:World}(hm:f x1 x2 x3 x4=some res)(hBw:B<=w0.z)(p1_0:repS w0 B (sl A0 N0 C0) x1.rules)(p2_0:x2.name.b.length<=LEN)(p2_1:inI x2.kind)(p2_2:inI x2.size)(p2_4:repS w0 B (sl A2 N2 C2) x2.bytes)(p2_5:repS w0 B (sl A3 N3 C3) x2.names)(p2_6:repS w0 B (sl A1 N1 C1) x2.tags)(p2_7:repS w0 B (sl A4 N4 C4) x2.kids)(p3_0:repS w0 B (sl A7 N7 C7) x3)(p4_0:inI x4),i_ prog 105 [(.agg #[sl A0 N0 C0]),.agg #[Str.v x2.name,vI x2.kind,vI x2.size,vB x2.little,sl A2 N2 C2,sl A3 N3 C3,sl A1 N1 C1,sl A4 N4 C4],sl A7 N7 C7,vI x4] w0<|Q9 w0 B res
structure l_L (f:d_->b_->Bt->Int->Option (Val×Int×Int)):Prop where
  run:∀{A0 A2 A3 A1 A4 A7:Option Addr}{N0 C0 N2 C2 N3 C3 N1 C1 N4 C4 N7 C7:Nat}{B:Zone}{x1:d_}{x2:b_}{x3:Bt}{x4:Int}{res:Val×Int×Int}{w0:World}(hm:f x1 x2 x3 x4=some res)(hBw:B<=w0.z)(p1_0:repS w0 B (sl A0 N0 C0) x1.rules)(p2_0:x2.name.b.length<=LEN)(p2_1:inI x2.kind)(p2_2:inI x2.size)(p2_4:repS w0 B (sl A2 N2 C2) x2.bytes)(p2_5:repS w0 B (sl A3 N3 C3) x2.names)(p2_6:repS w0 B (sl A1 N1 C1) x2.tags)(p2_7:repS w0 B (sl A4 N4 C4) x2.kids)(p3_0:repS w0 B (sl A7 N7 C7) x3)(p4_0:inI x4),i_ prog 106 [(.agg #[sl A0 N0 C0]),.agg #[Str.v x2.name,vI x2.kind,vI x2.size,vB x2.little,sl A2 N2 C2,sl A3 N3 C3,sl A1 N1 C1,sl A4 N4 C4],sl A7 N7 C7,vI x4] w0<|Q9 w0 B res
structure l_M (f:d_->b_->Bt->Int->Option (Val×Int×Int)):Prop where
  run:∀{A0 A2 A3 A1 A4 A7:Option Addr}{N0 C0 N2 C2 N3 C3 N1 C1 N4 C4 N7 C7:Nat}{B:Zone}{x1:d_}{x2:b_}{x3:Bt}{x4:Int}{res:Val×Int×Int}{w0:World}(hm:f x1 x2 x3 x4=some res)(hBw:B<=w0.z)(p1_0:repS w0 B (sl A0 N0 C0) x1.rules)(p2_0:x2.name.b.length<=LEN)(p2_1:inI x2.kind)(p2_2:inI x2.size)(p2_4:repS w0 B (sl A2 N2 C2) x2.bytes)(p2_5:repS w0 B (sl A3 N3 C3) x2.names)(p2_6:repS w0 B (sl A1 N1 C1) x2.tags)(p2_7:repS w0 B (sl A4 N4 C4) x2.kids)(p3_0:repS w0 B (sl A7 N7 C7) x3)(p4_0:inI x4),i_ prog 107 [(.agg #[sl A0 N0 C0]),.agg #[Str.v x2.name,vI x2.kind,vI x2.size,vB x2.little,sl A2 N2 C2,sl A3 N3 C3,sl A1 N1 C1,sl A4 N4 C4],sl A7 N7 C7,vI x4] w0<|Q9 w0 B res
abbrev g_z (n:Nat):Prop:=l_I (a_s n).spec_l11Read/\l_J (a_s n).spec_l11Items/\l_K (a_s n).spec_l11Choice/\l_L (a_s n).spec_l11Option/\l_M (a_s n).spec_l11Checked
theorem T_w01 (ih:g_z n):l_I (h_r n<|a_s n):=by
 obtain ⟨_,bo,db,dc,dd⟩:=ih
 constructor
 intro A0 A7 N0 C0 N7 C7 B x1 x2 x3 x4 res w0 hm H W d0 J I;unfold h_r at hm
 refine goG func55 z z z λfn hr=>Ws<|E z (fb z) ?_
 rintro _ bp ⟨rfl,bq⟩;have h3:=bq.below;have hn:Blk bp w0.z [sl A0 N0 C0]:=bq.blk;refine E z (fa a_f) ?_;rintro _ L ⟨rfl,br⟩;have h4:=br.below;have h2:Blk L bp.z [vI 0,sN,sN]:=br.blk;refine Ra z<|Rw z<|Ws<|Rf z a_i z ?_
 have ho:=hn.e h4;refine R z (l0 a_n z<|ho.at z)<|Rm z ?_
 obtain ⟨xa,de,b9⟩:=bdS hm;have O:=(h3.ag B).e h4;refine RX z (at_ (α:=b_) V_ m_ z z z (W.g O) de) ?_;rintro _ ⟨_,_,_,rfl,df,dg,_⟩;obtain ⟨ab,nc,cd,ae,nf,cg,ah,ni,cj,ak,nl,cm,rfl,hu,hv,hp,hq,hw,hx,ht⟩:=a_F dg;refine R z (lN (vs:=vR xa ab nc cd ae nf cg ah ni cj ak nl cm) H_ m_ z z fid df)<|E z (fa b_S) ?_
 rintro _ dh ⟨rfl,bs⟩;have G:=bs.below;refine E0 (fs0 (cur':=vR xa ab nc cd ae nf cg ah ni cj ak nl cm) m_ z z (bs.blk:Blk dh L.z [(Str.v (⟨[]⟩:Str)),vI 0,vI 0,vB false,sN,sN,sN,sN]) z z z z) ?_;rintro _ _ ⟨V,di⟩;have h1:=di.one;refine Wn<|Wq<|Ws<|Rf z a_o z<|R z (l0 g_3 z<|V.at z)<|Wn<|Wb<|Ws<|Rq z z z<|Rw z<|Wc z (λal=>?_) (λal=>?_)
 .refine Ws<|R z (lN (vs:=[sl A0 N0 C0]) w_ v_ z z fid<|((ho.e G).c h1<|djs<|mm1 hn.lt h4.s).row 0 1 z)<|RM z z<|Rm z ?_
  have hz:=lt_ h3.s h4.s;have bt:=(O.e G).c h1<|e_ (or0 (f_ lr) (p_<|zt' H hz):∀k∈[L.z],¬B k)
  obtain ⟨bu,_,_,dj,ba⟩:=N_<|ifT b9 al;refine E z (fc call92 z<|i_i dj (zt' H<|lt_ (lt_ hz G.s) h1.s) (W.g bt) d0 (J.g bt) I) ?_;rintro _ _ ⟨sr,rfl,dk,dl⟩;refine Rm z ?_
  iterate 3 refine Re z z z ?_
  refine RA z z<|Rw z<|Wq<|Wm z<|R z (not_ z)<|Wx z (λam=>?_) (λam=>?_)
  .refine Ws<|R z (bP (parts:=[]) (cs:=[vI 0,sN,sN]) a_4 z z)<|Rm z<|E0 (fs0 (cur':=[vI 0,sN,sN]) h_ z z (((h2.e G).c h1<|djs<|mmr h2.lt).e sr) z z z z) ?_
   rintro _ _ ⟨dm,dn⟩;refine Ra z<|Rw z ?_
   obtain rfl:=som<|ifT ba am;exact Wr<|rtO<|A_ hr (s_ y_ h_ z dm z) z z ⟨bM (bup (bM (bup (bup h3 h4) G) h1<|m1 hz) sr) dn.one<|m1 h3.s,none,0,0,[],none,0,0,[],z,ii z,onL,onL,I,ii z,nd0,al0⟩
  refine Wk<|Wm z<|R z (bP (parts:=[(0,.tmp 43)]) (cs:=[vI bu,sN,sN]) a_4 z z)<|Rm z<|E0 (fs0 (cur':=[vI bu,sN,sN]) h_ z z (((h2.e G).c h1<|djs<|mmr h2.lt).e sr) z z z z) ?_
  rintro _ _ ⟨dp,dq⟩;refine Ra z<|Rw z ?_
  obtain rfl:=som<|ifF ba am;exact Wr<|rtO<|A_ hr (s_ y_ h_ z dp z) z z ⟨bM (bup (bM (bup (bup h3 h4) G) h1<|m1 hz) sr) dq.one<|m1 h3.s,none,0,0,[],none,0,0,[],z,dk,onL,onL,dl,ii z,nd0,al0⟩
 have bb:=ifF b9 al;refine Ws<|Rq z z z<|Rw z<|Wc z (λan=>?_) (λan=>?_)
 .refine Ws<|R z (lN (vs:=vR xa ab nc cd ae nf cg ah ni cj ak nl cm) H_ m_ z z fid<|V.row 0 8 z)<|RM z z ?_
  have aA:=lt_ h3.s h4.s;have bv:∀k∈[L.z],¬B k:=or0 (f_ lr)<|p_<|zt' H aA;have Y:=(G.ag B).c h1<|e_ bv
  have aB:=lt_ (lt_ aA G.s) h1.s;obtain ⟨dr,_,_,ds,d1⟩:=N_<|ifT bb an;refine E z (fc call101 z<|W_w2n ds (zt' H aB) hu hv hp (hq.g Y) (hw.g Y) (hx.g Y) (ht.g Y) (J.g<|(O.e G).c h1<|e_ bv) I) ?_;rintro _ _ ⟨bw,bx,bz,bA,dt,bB,bC,bD,du,rfl,dv,dw,dx,dy,dz,aC,a0⟩
  iterate 3 refine Re z z z ?_
  refine E0 (fs0 (cur':=[vI dr.number,sl bx bz bA,sl bB bC bD]) h_ z z (((h2.e G).c h1<|djs<|mmr h2.lt).e bw) z z z z) ?_;rintro _ _ ⟨dA,dB⟩;have aD:=dB.one;refine Ra z<|Rw z ?_
  obtain rfl:=som d1;have bE:=lt_ G.s h1.s;exact Wr<|rtO<|A_ hr (s_ y_ h_ z dA z) z z ⟨bM (bup (bM (bup (bup h3 h4) G) h1<|m1 aA) bw) aD<|m1 h3.s,bx,bz,bA,dt,bB,bC,bD,du,z,dv,dw.c aD<|t_ (al_ a0) h2.lt bE,dx.c aD<|t_ (ar_ a0) h2.lt bE,dy,dz,na_ (nl_ aC) (nr_ aC)<|nj aC,aa_ (n_ (al_ a0) aB)<|n_ (ar_ a0) aB⟩
 have bc:=ifF bb an;refine Ws<|Rq z z z<|Rw z<|Wc z (λao=>?_) (λao=>?_)
 .refine Wm z<|Rm z<|Rf z a_H z<|R z (l0 g_3 z<|V.at z) ?_
  have aE:=lt_ h3.s h4.s;have aF:=lt_ (lt_ aE G.s) h1.s;obtain ⟨dC,_,_,dD,d2⟩:=N_<|ifT bc ao;refine E z (fc call102 z<|W_w16 dD (zt' H aF) (J.g<|(O.e G).c h1<|e_ (or0 (f_ lr) (p_<|zt' H aE):∀k∈[L.z],¬B k)) I hp) ?_;rintro _ _ ⟨bF,bG,bH,bI,dF,bJ,bK,bL,dG,rfl,dH,dI,dJ,dK,dL,aG,a1⟩
  iterate 3 refine Re z z z ?_
  refine E0 (fs0 (cur':=[vI dC.number,sl bG bH bI,sl bJ bK bL]) h_ z z (((h2.e G).c h1<|djs<|mmr h2.lt).e bF) z z z z) ?_;rintro _ _ ⟨dN,dO⟩;have aH:=dO.one;refine Ra z<|Rw z ?_
  obtain rfl:=som d2;have bN:=lt_ G.s h1.s;exact Wr<|rtO<|A_ hr (s_ y_ h_ z dN z) z z ⟨bM (bup (bM (bup (bup h3 h4) G) h1<|m1 aE) bF) aH<|m1 h3.s,bG,bH,bI,dF,bJ,bK,bL,dG,z,dH,dI.c aH<|t_ (al_ a1) h2.lt bN,dJ.c aH<|t_ (ar_ a1) h2.lt bN,dK,dL,na_ (nl_ aG) (nr_ aG)<|nj aG,aa_ (n_ (al_ a1) aF)<|n_ (ar_ a1) aF⟩
 have be:=ifF bc ao;refine Ws<|Rq z z z<|Rw z<|Wc z (λap=>?_) (λap=>?_)
 .refine Wm z<|Rm z<|Rf z b_f z<|R z (l0 X_ z<|V.at z) ?_
  obtain ⟨_,dP,d3⟩:=bdS<|ifT be ap;have a2:=lt_ h3.s h4.s;have bO:∀k∈[L.z],¬B k:=or0 (f_ lr)<|p_<|zt' H a2;refine RX z (at_ (α:=UInt8) o_ z_5 z z z (hq.g<|(G.ag B).c h1<|e_ bO) dP) ?_;rintro _ ⟨_,_,_,rfl,dS,dT,_⟩;obtain rfl:=u8 dT;refine R z (l0 g_5 z<|dS.at0 z) ?_;have bQ:=lt_ (lt_ a2 G.s) h1.s;obtain ⟨_,_,_,dU,bf⟩:=N_ d3;refine E z (fc call103 z<|W_w2o dU (zt' H bQ) (J.g<|(O.e G).c h1<|e_ bO) I) ?_;rintro _ _ ⟨ss,aI,aJ,aK,dV,rfl,dW,dX,dY,bR⟩;refine Rm z ?_
  iterate 3 refine Re z z z ?_
  refine RA z z<|Rw z<|Wq<|Wm z<|R z (not_ z)<|Wx z (λaq=>?_) (λaq=>?_)
  .refine Ws<|R z (bP (parts:=[]) (cs:=[vI 0,sN,sN]) a_4 z z)<|Rm z<|E0 (fs0 (cur':=[vI 0,sN,sN]) h_ z z (((h2.e G).c h1<|djs<|mmr h2.lt).e ss) z z z z) ?_
   rintro _ _ ⟨dZ,e0⟩;refine Ra z<|Rw z ?_
   obtain rfl:=som<|ifT bf aq;exact Wr<|rtO<|A_ hr (s_ y_ h_ z dZ z) z z ⟨bM (bup (bM (bup (bup h3 h4) G) h1<|m1 a2) ss) e0.one<|m1 h3.s,none,0,0,[],none,0,0,[],z,ii z,onL,onL,I,ii z,nd0,al0⟩
  refine Wk<|Wm z<|R z (bP (parts:=[(1,.tmp 82)]) (cs:=[vI 0,sl aI aJ aK,sN]) a_4 z z)<|Rm z<|E0 (fs0 (cur':=[vI 0,sl aI aJ aK,sN]) h_ z z (((h2.e G).c h1<|djs<|mmr h2.lt).e ss) z z z z) ?_
  rintro _ _ ⟨e1,e2⟩;have bS:=e2.one;refine Ra z<|Rw z ?_
  obtain rfl:=som<|ifF bf aq;exact Wr<|rtO<|A_ hr (s_ y_ h_ z e1 z) z z ⟨bM (bup (bM (bup (bup h3 h4) G) h1<|m1 a2) ss) bS<|m1 h3.s,aI,aJ,aK,dV,none,0,0,[],z,ii z,dW.c bS<|t_ bR h2.lt<|lt_ G.s h1.s,onL,dX,ii z,na_ dY U_<|nmN _,aa_ (n_ bR bQ) an_⟩
 have bg:=ifF be ap;refine Ws<|Rq z z z<|Rw z<|Wc z (λar=>?_) (λar=>?_)
 .refine Ws<|R z (lN (vs:=[sl A0 N0 C0]) w_ v_ z z fid<|((ho.e G).c h1<|djs<|mm1 hn.lt h4.s).row 0 1 z)<|R z (lN (vs:=vR xa ab nc cd ae nf cg ah ni cj ak nl cm) H_ m_ z z fid<|V.row 0 8 z)<|Rf z P_ z<|R z (l0 E_ z<|V.at z) ?_
  have aL:=lt_ h3.s h4.s;have bT:∀k∈[L.z],¬B k:=or0 (f_ lr)<|p_<|zt' H aL;have a3:=(G.ag B).c h1<|e_ bT
  have aM:=ht.g a3;refine R z (lnR x_ z aM)<|RM z z ?_
  have bU:=(O.e G).c h1<|e_ bT
  have aN:=lt_ (lt_ aL G.s) h1.s;obtain ⟨e3,_,_,e4,d4⟩:=N_<|ifT bg ar;refine E z (fc call104 z<|bo.run e4 (zt' H aN) (W.g bU) hu hv hp (hq.g a3) (hw.g a3) (hx.g a3) aM (ii z) (b_T<|repS.len aM) (J.g bU) I) ?_;rintro _ _ ⟨bV,bW,bX,bY,e5,bZ,c0,c1,e6,rfl,e7,e8,e9,ea,eb,aO,a4⟩
  iterate 3 refine Re z z z ?_
  refine E0 (fs0 (cur':=[vI e3.number,sl bW bX bY,sl bZ c0 c1]) h_ z z (((h2.e G).c h1<|djs<|mmr h2.lt).e bV) z z z z) ?_;rintro _ _ ⟨ec,ed⟩;have aP:=ed.one;refine Ra z<|Rw z ?_
  obtain rfl:=som d4;have c2:=lt_ G.s h1.s;exact Wr<|rtO<|A_ hr (s_ y_ h_ z ec z) z z ⟨bM (bup (bM (bup (bup h3 h4) G) h1<|m1 aL) bV) aP<|m1 h3.s,bW,bX,bY,e5,bZ,c0,c1,e6,z,e7,e8.c aP<|t_ (al_ a4) h2.lt c2,e9.c aP<|t_ (ar_ a4) h2.lt c2,ea,eb,na_ (nl_ aO) (nr_ aO)<|nj aO,aa_ (n_ (al_ a4) aN)<|n_ (ar_ a4) aN⟩
 have bh:=ifF bg ar;refine Ws<|Rq z z z<|Rw z<|Wc z (λau=>?_) (λau=>?_)
 .refine Ws<|R z (lN (vs:=[sl A0 N0 C0]) w_ v_ z z fid<|((ho.e G).c h1<|djs<|mm1 hn.lt h4.s).row 0 1 z)<|R z (lN (vs:=vR xa ab nc cd ae nf cg ah ni cj ak nl cm) H_ m_ z z fid<|V.row 0 8 z)<|RM z z ?_
  have aQ:=lt_ h3.s h4.s;have c3:∀k∈[L.z],¬B k:=or0 (f_ lr)<|p_<|zt' H aQ;have c4:=(O.e G).c h1<|e_ c3
  have a5:=(G.ag B).c h1<|e_ c3
  have aR:=lt_ (lt_ aQ G.s) h1.s;obtain ⟨ee,_,_,ef,d5⟩:=N_<|ifT bh au;refine E z (fc call105 z<|db.run ef (zt' H aR) (W.g c4) hu hv hp (hq.g a5) (hw.g a5) (hx.g a5) (ht.g a5) (J.g c4) I) ?_;rintro _ _ ⟨c5,c6,c7,c8,eg,c9,ca,cb,eh,rfl,ei,ej,ek,em,en,aS,a6⟩
  iterate 3 refine Re z z z ?_
  refine E0 (fs0 (cur':=[vI ee.number,sl c6 c7 c8,sl c9 ca cb]) h_ z z (((h2.e G).c h1<|djs<|mmr h2.lt).e c5) z z z z) ?_;rintro _ _ ⟨eo,ep⟩;have aT:=ep.one;refine Ra z<|Rw z ?_
  obtain rfl:=som d5;have cc:=lt_ G.s h1.s;exact Wr<|rtO<|A_ hr (s_ y_ h_ z eo z) z z ⟨bM (bup (bM (bup (bup h3 h4) G) h1<|m1 aQ) c5) aT<|m1 h3.s,c6,c7,c8,eg,c9,ca,cb,eh,z,ei,ej.c aT<|t_ (al_ a6) h2.lt cc,ek.c aT<|t_ (ar_ a6) h2.lt cc,em,en,na_ (nl_ aS) (nr_ aS)<|nj aS,aa_ (n_ (al_ a6) aR)<|n_ (ar_ a6) aR⟩
 have bi:=ifF bh au;refine Ws<|Rq z z z<|Rw z<|Wc z (λav=>?_) (λav=>?_)
 .refine Ws<|R z (lN (vs:=[sl A0 N0 C0]) w_ v_ z z fid<|((ho.e G).c h1<|djs<|mm1 hn.lt h4.s).row 0 1 z)<|R z (lN (vs:=vR xa ab nc cd ae nf cg ah ni cj ak nl cm) H_ m_ z z fid<|V.row 0 8 z)<|RM z z ?_
  have aU:=lt_ h3.s h4.s;have ce:∀k∈[L.z],¬B k:=or0 (f_ lr)<|p_<|zt' H aU;have cf:=(O.e G).c h1<|e_ ce
  have a7:=(G.ag B).c h1<|e_ ce
  have aV:=lt_ (lt_ aU G.s) h1.s;obtain ⟨er,_,_,es,d6⟩:=N_<|ifT bi av;refine E z (fc call106 z<|dc.run es (zt' H aV) (W.g cf) hu hv hp (hq.g a7) (hw.g a7) (hx.g a7) (ht.g a7) (J.g cf) I) ?_;rintro _ _ ⟨ch,ci,ck,cl,eu,cn,co,cp,ew,rfl,ex,ey,ez,eA,eB,aW,a8⟩
  iterate 3 refine Re z z z ?_
  refine E0 (fs0 (cur':=[vI er.number,sl ci ck cl,sl cn co cp]) h_ z z (((h2.e G).c h1<|djs<|mmr h2.lt).e ch) z z z z) ?_;rintro _ _ ⟨eC,eD⟩;have aX:=eD.one;refine Ra z<|Rw z ?_
  obtain rfl:=som d6;have cq:=lt_ G.s h1.s;exact Wr<|rtO<|A_ hr (s_ y_ h_ z eC z) z z ⟨bM (bup (bM (bup (bup h3 h4) G) h1<|m1 aU) ch) aX<|m1 h3.s,ci,ck,cl,eu,cn,co,cp,ew,z,ex,ey.c aX<|t_ (al_ a8) h2.lt cq,ez.c aX<|t_ (ar_ a8) h2.lt cq,eA,eB,na_ (nl_ aW) (nr_ aW)<|nj aW,aa_ (n_ (al_ a8) aV)<|n_ (ar_ a8) aV⟩
 have bj:=ifF bi av;refine Ws<|Rq z z z<|Rw z<|Wc z (λaw=>?_) (λaw=>?_)
 .refine Ws<|R z (lN (vs:=[sl A0 N0 C0]) w_ v_ z z fid<|((ho.e G).c h1<|djs<|mm1 hn.lt h4.s).row 0 1 z)<|R z (lN (vs:=vR xa ab nc cd ae nf cg ah ni cj ak nl cm) H_ m_ z z fid<|V.row 0 8 z)<|RM z z ?_
  have aY:=lt_ h3.s h4.s;have cr:∀k∈[L.z],¬B k:=or0 (f_ lr)<|p_<|zt' H aY;have ct:=(O.e G).c h1<|e_ cr
  have a9:=(G.ag B).c h1<|e_ cr
  have aZ:=lt_ (lt_ aY G.s) h1.s;obtain ⟨eE,_,_,eF,d7⟩:=N_<|ifT bj aw;refine E z (fc call107 z<|dd.run eF (zt' H aZ) (W.g ct) hu hv hp (hq.g a9) (hw.g a9) (hx.g a9) (ht.g a9) (J.g ct) I) ?_;rintro _ _ ⟨cu,cv,cw,cx,eG,cy,cz,cA,eH,rfl,eI,eJ,eK,eL,eM,b0,aa⟩
  iterate 3 refine Re z z z ?_
  refine E0 (fs0 (cur':=[vI eE.number,sl cv cw cx,sl cy cz cA]) h_ z z (((h2.e G).c h1<|djs<|mmr h2.lt).e cu) z z z z) ?_;rintro _ _ ⟨eN,eO⟩;have b1:=eO.one;refine Ra z<|Rw z ?_
  obtain rfl:=som d7;have cB:=lt_ G.s h1.s;exact Wr<|rtO<|A_ hr (s_ y_ h_ z eN z) z z ⟨bM (bup (bM (bup (bup h3 h4) G) h1<|m1 aY) cu) b1<|m1 h3.s,cv,cw,cx,eG,cy,cz,cA,eH,z,eI,eJ.c b1<|t_ (al_ aa) h2.lt cB,eK.c b1<|t_ (ar_ aa) h2.lt cB,eL,eM,na_ (nl_ b0) (nr_ b0)<|nj b0,aa_ (n_ (al_ aa) aZ)<|n_ (ar_ aa) aZ⟩
 refine Wk<|Wq (Wd (X:=noX) 0 (pl_ 15 [7]) mo (by kernel_rfl) λfp s6 _=>?_)
 have cC:=((ho.e G).c h1<|djs<|mm1 hn.lt h4.s).e s6;refine dR z z (lN (vs:=[sl A0 N0 C0]) w_ v_ z z fid<|cC.row 0 1 z)<|dR z z (fd P_ z) ?_
 have cD:=V.e s6;refine dR z z (l0 E_ z<|cD.at z) ?_;obtain ⟨_,eP,d8⟩:=bdS<|ifF bj aw;have hy:=lt_ h3.s h4.s;have cE:∀k∈[L.z],¬B k:=or0 (f_ lr)<|p_<|zt' H hy;have cF:=((G.ag B).c h1<|e_ cE).e s6;refine dRX z z (at_ (α:=Int) x_ z_3 z z z (ht.g cF) eP) ?_;rintro _ ⟨_,_,_,rfl,eQ,eR,_⟩;obtain ⟨rfl,eS⟩:=T_ eR;refine dR z z (l0 g_3 z<|eQ.at0 z)<|dM z z z<|dM z z z ?_
 have ad:=((O.e G).c h1<|e_ cE).e s6;have b2:=lt_ (lt_ (lt_ hy G.s) h1.s) s6.s;obtain ⟨_,_,_,eT,bk⟩:=N_ d8;refine dE z z (fc call92 z<|i_i eT (zt' H b2) (W.g ad) eS (J.g ad) I) (.inr λ_ _ h=>C_<|h.1) ?_;rintro _ _ ⟨s5,rfl,cG,cH⟩;refine dM z z z ?_
 iterate 3 refine dR z z (ext_ z z) ?_
 iterate 3 refine dQ z z z ?_
 refine pD<|Wo<|Wq<|Wb<|Wm z<|R z (not_ z)<|Rw z<|Wc z (λax=>?_) (λax=>?_)
 .refine Ws<|R z (bP (parts:=[]) (cs:=[vI 0,sN,sN]) a_4 z z)<|Rm z<|E0 (fs0 (cur':=[vI 0,sN,sN]) h_ z z ((((h2.e G).c h1<|djs<|mmr h2.lt).e s6).e s5) z z z z) ?_
  rintro _ _ ⟨eU,eV⟩;refine Ra z<|Rw z ?_
  obtain rfl:=som<|ifT bk ax;exact Wr<|rtO<|A_ hr (s_ y_ h_ z eU z) z z ⟨bM (bup (bup (bM (bup (bup h3 h4) G) h1<|m1 hy) s6) s5) eV.one<|m1 h3.s,none,0,0,[],none,0,0,[],z,ii z,onL,onL,I,ii z,nd0,al0⟩
 have bm:=ifF bk ax;refine Ws<|Rf z a_o z ?_
 have cI:=cD.e s5;refine R z (l0 g_3 z<|cI.at z)<|Rq z z z<|Rw z<|Wc z (λay=>?_) (λay=>?_)
 .refine Wm z<|RM z z ?_
  have b3:=lt_ b2 s5.s;obtain ⟨eW,_,_,eX,d9⟩:=N_<|ifT bm ay;refine E z (fc call102 z<|W_w16 eX (zt' H b3) (J.g<|ad.e s5) cH cG) ?_;rintro _ _ ⟨cJ,cK,cL,cM,eY,cN,cO,cP,eZ,rfl,f0,f1,f2,f3,f4,b4,af⟩
  iterate 3 refine Re z z z ?_
  refine E0 (fs0 (cur':=[vI eW.number,sl cK cL cM,sl cN cO cP]) h_ z z (((((h2.e G).c h1<|djs<|mmr h2.lt).e s6).e s5).e cJ) z z z z) ?_;rintro _ _ ⟨f5,f6⟩;have b5:=f6.one;refine Ra z<|Rw z ?_
  obtain rfl:=som d9;have cQ:=lt_ (lt_ (lt_ G.s h1.s) s6.s) s5.s;exact Wr<|rtO<|A_ hr (s_ y_ h_ z f5 z) z z ⟨bM (bup (bup (bup (bM (bup (bup h3 h4) G) h1<|m1 hy) s6) s5) cJ) b5<|m1 h3.s,cK,cL,cM,eY,cN,cO,cP,eZ,z,f0,f1.c b5<|t_ (al_ af) h2.lt cQ,f2.c b5<|t_ (ar_ af) h2.lt cQ,f3,f4,na_ (nl_ b4) (nr_ b4)<|nj b4,aa_ (n_ (al_ af) b3)<|n_ (ar_ af) b3⟩
 have bn:=ifF bm ay;refine Wm z<|R z (a_b z z)<|Rw z<|Wc z (λaz=>?_) (λaz=>?_)
 .refine Ws<|R z (bP (parts:=[]) (cs:=[vI 0,sN,sN]) a_4 z z)<|Rm z<|E0 (fs0 (cur':=[vI 0,sN,sN]) h_ z z ((((h2.e G).c h1<|djs<|mmr h2.lt).e s6).e s5) z z z z) ?_
  rintro _ _ ⟨f7,f8⟩;refine Ra z<|Rw z ?_
  obtain rfl:=som<|ifT bn az;exact Wr<|rtO<|A_ hr (s_ y_ h_ z f7 z) z z ⟨bM (bup (bup (bM (bup (bup h3 h4) G) h1<|m1 hy) s6) s5) f8.one<|m1 h3.s,none,0,0,[],none,0,0,[],z,ii z,onL,onL,I,ii z,nd0,al0⟩
 refine Wk<|Ws<|R z (lN (vs:=[sl A0 N0 C0]) w_ v_ z z fid<|(cC.e s5).row 0 1 z)<|R z (lN (vs:=vR xa ab nc cd ae nf cg ah ni cj ak nl cm) H_ m_ z z fid<|cI.row 0 8 z)<|RM z z<|Rm z ?_
 have cR:=ad.e s5;have ai:=cF.e s5;have b6:=lt_ b2 s5.s;obtain ⟨f9,_,_,fe,da⟩:=N_<|ifF bn az;refine E z (fc call104 z<|bo.run fe (zt' H b6) (W.g cR) hu hv hp (hq.g ai) (hw.g ai) (hx.g ai) (ht.g ai) (ii z) cG (J.g cR) cH) ?_;rintro _ _ ⟨cS,cT,cU,cV,ff,cW,cX,cY,fg,rfl,fh,fi,fj,fk,fl,b7,aj⟩
 iterate 3 refine Re z z z ?_
 refine E0 (fs0 (cur':=[vI f9.number,sl cT cU cV,sl cW cX cY]) h_ z z (((((h2.e G).c h1<|djs<|mmr h2.lt).e s6).e s5).e cS) z z z z) ?_;rintro _ _ ⟨fm,fo⟩;have b8:=fo.one;refine Ra z<|Rw z ?_
 obtain rfl:=som da;have cZ:=lt_ (lt_ (lt_ G.s h1.s) s6.s) s5.s;exact Wr<|A_ hr (s_ y_ h_ z fm z) z z ⟨bM (bup (bup (bup (bM (bup (bup h3 h4) G) h1<|m1 hy) s6) s5) cS) b8<|m1 h3.s,cT,cU,cV,ff,cW,cX,cY,fg,z,fh,fi.c b8<|t_ (al_ aj) h2.lt cZ,fj.c b8<|t_ (ar_ aj) h2.lt cZ,fk,fl,na_ (nl_ b7) (nr_ b7)<|nj b7,aa_ (n_ (al_ aj) b6)<|n_ (ar_ aj) b6⟩
theorem T_w17 (ih:g_z n):l_J (h_s n<|a_s n):=by
 obtain ⟨am,_,_,_,_⟩:=ih
 constructor
 intro A0 A2 A3 A1 A4 AF N0 C0 N2 C2 N3 C3 N1 C1 N4 C4 NF CF B x1 x2 x3 x4 x5 x6 res w0 hm V ai aL aM aN aO aP aQ aR aS aj ak ci;unfold h_s at hm
 refine goG func104 z z z λfn hr=>Ws<|E z (fb z) ?_
 rintro _ a4 ⟨rfl,aX⟩;have hd:=aX.below;have an:Blk a4 w0.z [sl A0 N0 C0]:=aX.blk;refine E z (fb z) ?_;rintro _ wr ⟨rfl,aY⟩;have hb:=aY.below;have ao:Blk wr a4.z (vR x2 A2 N2 C2 A3 N3 C3 A1 N1 C1 A4 N4 C4):=aY.blk;refine E z (fa a_f) ?_;rintro _ G ⟨rfl,aZ⟩;have h5:=aZ.below;have hu:Blk G wr.z [vI 0,sN,sN]:=aZ.blk;refine Ra z<|Rw z<|Ws<|R z (bP (parts:=[]) (cs:=[vI 0,sN,sN]) a_4 z z)<|E z (fa a_f) ?_
 rintro _ cy ⟨rfl,b0⟩;have h3:=b0.below;have hv:Blk cy G.z [vI 0,sN,sN]:=b0.blk;refine E0 (fs0 (cur':=[vI 0,sN,sN]) h_ z z hv z z z z) ?_;rintro _ I ⟨cz,cA⟩;have H:=cA.one;refine Wn<|Wq<|Ws<|Rw z ?_
 obtain ⟨_,cj,aT⟩:=bdS hm;refine Wf (σ:=Int×(List Val)) (ρ:=Val×Int×Int) (λ(ap:Nat) s a w=>un2 (λxc xp=>∃L O ca J,Sat 52 [(2,vI x3),(3,vI x4),(4,sl AF NF CF),(5,vI xc),(6,pt w0.z),(7,pt a4.z),(12,pt wr.z),(15,pt G.z),(16,vI ((ap:Nat):Int))] a/\Cg [G.z] I w/\inI xc/\a_ w J (sl L O ca) xp/\J.Nodup/\(∀k∈J,I.z<=k)/\Blk w G.z [vI 0,sN,sl L O ca]) s) (λs a w=>un2 (λxc xp=>∃L O ca J,Sat 52 [(5,vI xc),(12,pt wr.z),(15,pt G.z)] a/\Cg [G.z] I w/\inI xc/\a_ w J (sl L O ca) xp/\J.Nodup/\(∀k∈J,I.z<=k)/\Blk w G.z [vI 0,sN,sl L O ca]) s) (rQ prog fn<|Q9 w0 B) cj ?_ ?_ ?_ ?_ ?_
 .exact λ_ q=>⟨none,0,0,[],q.k<|s9 z z z z z z z z z,cr [G.z] I,ci,onL,U_,an_,cz⟩
 .rintro ap ⟨xc,xp⟩ _ wg _ a3 ⟨L,O,ca,J,ck,s4,hh,hi,hw,he,hx⟩ cl;refine Wu ?_ ck;refine Wq<|Wm z<|Rm z<|Rl z z z<|Wx z (λ_=>?_) (λhc=>(k_u a3 hc).elim)
  refine Wk<|Wq<|Wb<|Wq ?_
  obtain ⟨cB,aU,cm⟩:=bdS<|a_P cl;refine Wt (λa w=>∃(xj:Int)(a5:Bt)(a6:List Val)(xs:Int)(a7:Int),(xj,a5,a6,xs,a7)=cB/\∃ay nz W Sk Y a0 a1 Sl gq,Sat 52 [(2,vI x3),(3,vI x4),(4,sl AF NF CF),(6,pt w0.z),(7,pt a4.z),(12,pt wr.z),(15,pt G.z),(16,vI ((ap:Nat):Int)),(17,pt gq),(18,vI xs),(19,vI a7)] a/\Below wg.z wg w/\inI xj/\a_ w Sk (sl ay nz W) a5/\Sk.Nodup/\(∀k∈Sk,wg.z<=k)/\a_ w Sl (sl Y a0 a1) a6/\Sl.Nodup/\(∀k∈Sl,wg.z<=k)/\(∀k∈Sl,k∉Sk)/\inI xs/\inI a7/\Blk w gq [vI xj,sl ay nz W,sl Y a0 a1]/\wg.z<=gq/\(∀k∈Sk,k∉[gq])/\(∀k∈Sl,k∉[gq])) ?_ ?_
  .refine Wd (X:=λk=>k∈([]:List Nat)∨wg.z<=k) 0 (.rd 0<|.rd 1<|.rd 2<|.rd 3<|.rd 5<|.rd 6<|.br 4 (.br 7 (.rd 8<|.rd 9<|.rd 10<|.rd 11<|.ef 12<|.ef 13<|.rd 14<|.rd 15 .done) 12<|.ef 7<|.rd 8<|.rd 9<|.rd 10<|.rd 11<|.ef 13<|.rd 14<|.rd 15 .done) 12<|.ef 4<|.ef 7<|.rd 8<|.rd 9<|.rd 10<|.rd 11<|.ef 13<|.rd 14<|.rd 15 .done) mo (by kernel_rfl) λb1 s7 _=>?_
   have b2:=lt_ hb.s h5.s;have b3:=mm1 an.lt b2;refine dR z z (lN (vs:=[sl A0 N0 C0]) w_ v_ z z (f_I nm0<|Nat.lt_of_lt_of_le an.lt<|lt_ (lt_ (lt_ b2 h3.s) H.s) s4.s)<|((((((an.e hb).e h5).e h3).c H<|djs b3).c s4<|djs b3).e s7).row 0 1 z) ?_;have b4:=mm1 ao.lt h5.s;refine dR z z (lN (vs:=vR x2 A2 N2 C2 A3 N3 C3 A1 N1 C1 A4 N4 C4) H_ m_ z z (f_I nm0<|Nat.lt_of_lt_of_le ao.lt<|lt_ (lt_ (lt_ h5.s h3.s) H.s) s4.s)<|(((((ao.e h5).e h3).c H<|djs b4).c s4<|djs b4).e s7).row 0 8 z) ?_
   iterate 4 refine dM z z z ?_
   refine f_w ?_ ?_
   .have b5:=lt_ (lt_ hd.s hb.s) h5.s;have b6:∀k∈[G.z],¬B k:=or0 (f_ lr)<|p_<|zt' V b5;have ht:=((((((hd.ag B).e hb).e h5).e h3).c H<|e_ b6).c s4<|e_ b6).e s7;have aq:=lt_ (lt_ (lt_ (lt_ b5 h3.s) H.s) s4.s) s7.s;obtain ⟨_,cC,aV⟩:=bdS aU;refine dE z z (fc call93 z<|e_g cC (zt' V aq) aL aM aN (aO.g ht) (aP.g ht) (aQ.g ht) (aR.g ht) aS<|ic (Nat.le_of_lt a3)<|tl_ aj) (.inr λ_ _ h=>C_<|h.1) ?_;rintro _ b7 ⟨sf,rfl,b8⟩;refine f_w ?_ ?_
    .have b9:=ht.e sf;obtain ⟨a9,cD,cE,cF,cn⟩:=N_ aV;refine dE z z (fc call55 z<|am.run cF (zt' V<|lt_ aq sf.s) (ai.g b9) b8 (ak.g b9) hh) (.inr λ_ _ h=>C_<|h.1) ?_;rintro _ ba ⟨bb,bc,be,bf,cG,bg,bh,bi,cH,rfl,cI,bj,bk,cJ,cK,ar,bm⟩;refine dM z z z ?_
     iterate 3 refine dR z z (ext_ z z) ?_
     refine dE z z (fa a_f) (.inr λ_ _ h=>C_<|h.2.below) ?_;rintro _ cL ⟨rfl,bn⟩;have au:=bn.below;have av:=lt_ s7.s sf.s;have aw:=m1<|lt_ av bb.s
     refine dE0 z (fs0 (cur':=[vI a9.number,sl bc be bf,sl bg bh bi]) h_ z z (bn.blk:Blk cL ba.z [vI 0,sN,sN]) z z z z) (.inr λ_ _ h=>d_Q (atp aw) h.2) ?_;rintro _ _ ⟨cN,cO⟩;have ax:=cO.one;refine dQ z z z<|dQ z z z<|pD ?_
     have bo:=mnr<|a_.lt bj
     have bp:=mnr<|a_.lt bk
     exact λ_ q=>⟨a9.number,a9.bytes,a9.items,cD,cE,som cn,bc,be,bf,cG,bg,bh,bi,cH,ba.z,q.k<|sc z<|sc z<|sc z<|sc z<|sc z<|sc z<|sc z<|sc z<|sc z<|sc z<|sc z sn,bM (bup (bup (bup s7 sf) bb) au) ax aw,cI,(bj.e au).c ax<|ds bo,nl_ ar,n_ (al_ bm) av,(bk.e au).c ax<|ds bp,nr_ ar,n_ (ar_ bm) av,ds<|nj ar,cJ,cK,cN,atp aw,ds bo,ds bp⟩
    refine dE z z (fa a_f) (.inr λ_ _ h=>C_<|h.2.below) ?_;rintro _ cP ⟨rfl,bq⟩;have aa:=bq.below;have az:Blk cP b7.z [vI 0,sN,sN]:=bq.blk;have bs:=(ht.e sf).e aa;obtain ⟨ab,cQ,cR,cS,co⟩:=N_ aV;refine dE z z (fc call55 z<|am.run cS (zt' V<|lt_ (lt_ aq sf.s) aa.s) (ai.g bs) b8 (ak.g bs) hh) (.inr λ_ _ h=>C_<|h.1) ?_;rintro _ _ ⟨bt,bu,bv,bw,cT,bx,bz,bA,cU,rfl,cV,cW,cX,cY,cZ,aA,ad⟩;refine dM z z z ?_
    iterate 3 refine dR z z (ext_ z z) ?_
    have bB:=lt_ s7.s sf.s;have aB:=m1 bB;refine dE0 z (fs0 (cur':=[vI ab.number,sl bu bv bw,sl bx bz bA]) h_ z z (az.e bt) z z z z) (.inr λ_ _ h=>d_Q (atp aB) h.2) ?_;rintro _ _ ⟨d0,d1⟩;have aC:=d1.one;refine dQ z z z<|dQ z z z<|pD ?_
    have bC:=t_ (al_ ad) az.lt lr;have bD:=lt_ bB aa.s;have bE:=t_ (ar_ ad) az.lt lr;exact λ_ q=>⟨ab.number,ab.bytes,ab.items,cQ,cR,som co,bu,bv,bw,cT,bx,bz,bA,cU,b7.z,q.k<|sc z<|sc z<|sc z<|sc z<|sc z<|sc z<|sc z<|sc z<|sc z<|sc z<|sc z sn,bM (bup (bup (bup s7 sf) aa) bt) aC aB,cV,cW.c aC bC,nl_ aA,n_ (al_ ad) bD,cX.c aC bE,nr_ aA,n_ (ar_ ad) bD,ds<|nj aA,cY,cZ,d0,atp aB,bC,bE⟩
   refine dE z z (fa a_f) (.inr λ_ _ h=>C_<|h.2.below) ?_;rintro _ d2 ⟨rfl,bF⟩;have ae:=bF.below;have aD:Blk d2 b1.z [vI 0,sN,sN]:=bF.blk;have bG:=lt_ (lt_ hd.s hb.s) h5.s;have bH:∀k∈[G.z],¬B k:=or0 (f_ lr)<|p_<|zt' V bG;have a2:=(((((((hd.ag B).e hb).e h5).e h3).c H<|e_ bH).c s4<|e_ bH).e s7).e ae;have bI:=lt_ (lt_ (lt_ (lt_ (lt_ bG h3.s) H.s) s4.s) s7.s) ae.s;obtain ⟨_,d3,cp⟩:=bdS aU;refine dE z z (fc call93 z<|e_g d3 (zt' V bI) aL aM aN (aO.g a2) (aP.g a2) (aQ.g a2) (aR.g a2) aS<|ic (Nat.le_of_lt a3)<|tl_ aj) (.inr λ_ _ h=>C_<|h.1) ?_;rintro _ _ ⟨sm,rfl,d4⟩;have bJ:=a2.e sm;obtain ⟨af,d5,d6,d7,cq⟩:=N_ cp;refine dE z z (fc call55 z<|am.run d7 (zt' V<|lt_ bI sm.s) (ai.g bJ) d4 (ak.g bJ) hh) (.inr λ_ _ h=>C_<|h.1) ?_;rintro _ _ ⟨bK,bL,bN,bO,d8,bQ,bR,bS,d9,rfl,da,db,dc,dd,de,aE,ah⟩;refine dM z z z ?_
   iterate 3 refine dR z z (ext_ z z) ?_
   have aF:=m1 s7.s;refine dE0 z (fs0 (cur':=[vI af.number,sl bL bN bO,sl bQ bR bS]) h_ z z ((aD.e sm).e bK) z z z z) (.inr λ_ _ h=>d_Q (atp aF) h.2) ?_;rintro _ _ ⟨df,dg⟩;have aG:=dg.one;refine dQ z z z<|dQ z z z<|pD ?_
   have bT:=t_ (al_ ah) aD.lt sm.s;have bU:=lt_ (lt_ s7.s ae.s) sm.s;have bV:=t_ (ar_ ah) aD.lt sm.s;exact λ_ q=>⟨af.number,af.bytes,af.items,d5,d6,som cq,bL,bN,bO,d8,bQ,bR,bS,d9,b1.z,q.k<|sc z<|sc z<|sc z<|sc z<|sc z<|sc z<|sc z<|sc z<|sc z<|sc z<|sc z sn,bM (bup (bup (bup s7 ae) sm) bK) aG aF,da,db.c aG bT,nl_ aE,n_ (al_ ah) bU,dc.c aG bV,nr_ aE,n_ (ar_ ah) bU,ds<|nj aE,dd,de,df,atp aF,bT,bV⟩
  rintro dh bW ⟨xj,a5,a6,xs,a7,rfl,ay,nz,W,Sk,Y,a0,a1,Sl,gq,_,so,di,dj,dk,aH,dl,dm,aI,dn,bX,dp,dq,_,_,_⟩;have aW:=un5S cm;revert dh;refine Wo<|Wq<|Wm z<|R z (nq z z)<|Wx z (λal=>?_) (λal=>?_)
  .refine Ws<|R z (bP (parts:=[]) (cs:=[vI 0,sN,sN]) a_4 z z)<|RM z z ?_
   have bY:=mmr hu.lt;refine E0 (fs0 (cur':=[vI 0,sN,sN]) h_ z z ((((hu.e h3).c H<|djs bY).c s4<|djs bY).e so) z z z z) ?_;rintro _ _ ⟨dr,dt⟩;refine Ra z<|Rw z ?_
   have bZ:=lt_ hd.s hb.s;have c0:=m1<|lt_ bZ h5.s
   exact Wr<|rtO<|qL (som<|ifT aW al).symm<|A_ hr (s_ y_ h_ z dr z) z z ⟨bM (bup (bM (bM (bup (bup (bup hd hb) h5) h3) H c0) s4 c0) so) dt.one<|m1 bZ,none,0,0,[],none,0,0,[],z,ii z,onL,onL,bX,dp,nd0,al0⟩
  refine Wk<|Ws<|Rf z a_y z ?_
  have c1:=hx.e so;refine R z (l0 a_E z<|c1.at z)<|R z (lN (vs:=[vI xj,sl ay nz W,sl Y a0 a1]) y_ h_ z z fid<|dq.row 0 3 z)<|E z (fS [(.tmp 45)] k_2 z z z (b_l z) (lb z)<|lb z) ?_
  rintro _ c2 ⟨rfl,c3⟩;have hn:=c3.below;obtain ⟨du,dv,ct⟩:=bdS<|ifF aW al;refine E z (b_W (α:=Val) k_2 dv z z ((hi.e so).e hn) hw (c3.blk:Blk c2 bW.z [vI xj,sl ay nz W,sl Y a0 a1]) (p_1 (x:=(⟨xj,a5,a6⟩:Val)) (S1:=Sk) (S2:=Sl) di (dj.e hn)<|dl.e hn) (aa_ (a_M aH (a_.lt hi) lr)<|a_M aI (a_.lt hi) lr)<|na_ dk dm<|ds dn) ?_;rintro _ dw ⟨aJ,c4,c5,c6,rfl,c7,dx,dy,c8⟩;refine Rf z a_y z ?_;have c9:=t_ he hv.lt H.s;refine E0 (fs0 (cur':=[vI 0,sN,sl c4 c5 c6]) z_48 z z ((c1.e hn).c c7<|djs c9) z z z z) ?_;rintro _ dz ⟨dA,dB⟩;have cb:=dB.one;refine Wn<|Wg<|Rm z<|Rw z<|Wg<|Rm z<|R z (inc_ a3 (tl_ aj) z z)<|Ra z<|Wl ?_
  have aK:=lt_ H.s s4.s;exact λ_ q=>⟨(xs,du),(som ct).symm,⟨c4,c5,c6,aJ,q.k<|s9 z z z z z z z z z,(cM (cM (j_ (j_ (cM (cr [G.z] I) s4 (io sr):Cg [G.z] I wg) so:Cg [G.z] I bW) hn:Cg [G.z] I c2) c7 (or0 he (l_ lr):∀k∈J,k∈[G.z]∨I.z<=k):Cg [G.z] I dw) cb (io sr):Cg [G.z] I dz),bX,dx.c cb (or2 c8 c9 (aa_ (t_ aH hv.lt aK)<|t_ aI hv.lt aK) (a_T (f_ hv.lt)<|lt_ (lt_ aK so.s) hn.s):∀k∈aJ,k∉[G.z]),dy,(or2 c8 he (aa_ (n_ aH s4.s)<|n_ aI s4.s) (c_i<|lt_ (lt_ s4.s so.s) hn.s):∀k∈aJ,I.z<=k),dA⟩⟩
 .rintro ⟨xc,xp⟩ _ dC ⟨L,O,ca,J,cu,dD,hh,hi,hw,he,hx⟩;refine Wu ?_ cu;refine Wq<|Wm z<|Rm z<|Rl z z z<|Wx z (λhc=>(k_v hc).elim) (λ_=>?_)
  exact We<|λ_ q=>⟨rfl,⟨L,O,ca,J,q.k<|s3 z z z,(cM (cr [G.z] I) dD (io sr):Cg [G.z] I dC),hh,hi,hw,he,hx⟩⟩
 .rintro ⟨xc,xp⟩ dF _ rfl ⟨L,O,ca,J,_,cc,hh,hi,hw,he,hx⟩;have cv:=elL aT;revert dF;refine Wo<|Ws<|R z (lN (vs:=[vI 0,sN,sl L O ca]) y_ h_ z z fid<|hx.row 0 3 z)<|Rm z ?_
  have cd:=mmr hu.lt;refine E0 (fs0 (cur':=[vI 0,sN,sl L O ca]) h_ z z (((hu.e h3).c H<|djs cd).c cc<|djs cd) z z z z) ?_;rintro _ _ ⟨dG,dH⟩;have ce:=dH.one;refine Ra z<|Rw z ?_
  obtain rfl:=som<|a_P cv;have cf:=lt_ hd.s hb.s;have cg:=lt_ cf h5.s;have ch:=m1 cg;exact Wr<|A_ hr (s_ y_ h_ z dG z) z z ⟨bM (bM (bM (bup (bup (bup hd hb) h5) h3) H ch) cc ch) ce<|m1 cf,none,0,0,[],L,O,ca,J,z,ii z,onL,hi.c ce<|t_ he hu.lt<|lt_ h3.s H.s,hh,ii z,na_ U_ hw an_,aa_ an_<|n_ he<|lt_ (lt_ cg h3.s) H.s⟩
 rintro _ _ _ _ rfl ⟨rfl,cw⟩;have cx:=elR aT;obtain rfl:=som cx;exact ⟨cw,z⟩
theorem T_w18 (ih:g_z n):l_K (h_t n<|a_s n):=by
 obtain ⟨_,aA,_,_,_⟩:=ih
 constructor
 intro A0 A2 A3 A1 A4 A7 N0 C0 N2 C2 N3 C3 N1 C1 N4 C4 N7 C7 B x1 x2 x3 x4 res w0 hm W Y a0 a1 a2 a3 a4 a5 O a6 V;unfold h_t at hm
 refine goG func105 z z z λfn hr=>Ws<|E z (fb z) ?_
 rintro _ wy ⟨rfl,hz⟩;have hf:=hz.below;refine E z (fb z) ?_;rintro _ wq ⟨rfl,ad⟩;have h5:=ad.below;refine E z (fa a_f) ?_;rintro _ aB ⟨rfl,ae⟩;have h3:=ae.below;have h6:Blk aB wq.z [vI 0,sN,sN]:=ae.blk;refine Ra z<|Rw z<|Wq (Wd (X:=noX) 0 (pl_ 15 [7]) mo (by kernel_rfl) λb6 G _=>?_)
 have af:=(((hz.blk:Blk wy w0.z [sl A0 N0 C0]).e h5).e h3).e G;refine dR z z (lN (vs:=[sl A0 N0 C0]) w_ v_ z z fid<|af.row 0 1 z)<|dR z z (fd P_ z) ?_
 have ah:=((ad.blk:Blk wq wy.z (vR x2 A2 N2 C2 A3 N3 C3 A1 N1 C1 A4 N4 C4)).e h3).e G;refine dR z z (l0 E_ z<|ah.at z) ?_;obtain ⟨_,aC,ax⟩:=bdS hm;have hh:=(((hf.ag B).e h5).e h3).e G;refine dRX z z (at_ (α:=Int) x_ z_3 z z z (O.g hh) aC) ?_;rintro _ ⟨_,_,_,rfl,aD,aE,_⟩;obtain ⟨rfl,aF⟩:=T_ aE;refine dR z z (l0 g_3 z<|aD.at0 z)<|dM z z z<|dM z z z ?_
 have hi:=lt_ hf.s h5.s;have ai:=lt_ (lt_ hi h3.s) G.s;obtain ⟨aj,_,_,aG,a7⟩:=N_ ax;refine dE z z (fc call92 z<|i_i aG (zt' W ai) (Y.g hh) aF (a6.g hh) V) (.inr λ_ _ h=>C_<|h.1) ?_;rintro _ _ ⟨s1,rfl,ht,aH⟩;refine dM z z z ?_
 iterate 3 refine dR z z (ext_ z z) ?_
 iterate 3 refine dQ z z z ?_
 refine pD<|Wo<|Wq<|Wm z<|R z (not_ z)<|Wx z (λhcr=>?_) (λhcr=>?_)
 .refine Ws<|R z (bP (parts:=[]) (cs:=[vI 0,sN,sN]) a_4 z z)<|Rm z<|E0 (fs0 (cur':=[vI 0,sN,sN]) h_ z z ((h6.e G).e s1) z z z z) ?_
  rintro _ _ ⟨aI,aJ⟩;refine Ra z<|Rw z ?_
  obtain rfl:=som<|ifT a7 hcr;exact Wr<|A_ hr (s_ y_ h_ z aI z) z z ⟨bM (bup (bup (bup (bup hf h5) h3) G) s1) aJ.one<|m1 hi,none,0,0,[],none,0,0,[],z,ii z,onL,onL,V,ii z,nd0,al0⟩
 refine Wk<|Wq<|Ws ?_
 have ak:=ah.e s1;refine R z (lN (vs:=vR x2 A2 N2 C2 A3 N3 C3 A1 N1 C1 A4 N4 C4) H_ m_ z z fid<|ak.row 0 8 z)<|Rm z ?_
 have hg:=hh.e s1;have al:=lt_ ai s1.s;obtain ⟨_,aK,a9⟩:=bdS<|ifF a7 hcr;refine E z (fc call93 z<|e_g aK (zt' W al) a0 a1 a2 (a3.g hg) (a4.g hg) (a5.g hg) (O.g hg) ht<|ii z) ?_;rintro _ _ ⟨s2,rfl,_⟩;refine Rl z z z<|Wx z (λhcs=>?_) (λhcs=>?_)
 .refine Ws<|R z (bP (parts:=[]) (cs:=[vI 0,sN,sN]) a_4 z z)<|Rm z<|E0 (fs0 (cur':=[vI 0,sN,sN]) h_ z z (((h6.e G).e s1).e s2) z z z z) ?_
  rintro _ _ ⟨aL,aM⟩;refine Ra z<|Rw z ?_
  obtain rfl:=som<|ifT a9 hcs;exact Wr<|A_ hr (s_ y_ h_ z aL z) z z ⟨bM (bup (bup (bup (bup (bup hf h5) h3) G) s1) s2) aM.one<|m1 hi,none,0,0,[],none,0,0,[],z,ii z,onL,onL,V,ii z,nd0,al0⟩
 refine Wk<|Ws<|R z (lN (vs:=[sl A0 N0 C0]) w_ v_ z z fid<|((af.e s1).e s2).row 0 1 z)<|R z (lN (vs:=vR x2 A2 N2 C2 A3 N3 C3 A1 N1 C1 A4 N4 C4) H_ m_ z z fid<|(ak.e s2).row 0 8 z)<|RM z z<|Rm z ?_
 have I:=hg.e s2;have hj:=lt_ al s2.s;obtain ⟨am,aN,aO,aP,ay⟩:=N_<|ifF a9 hcs;refine E z (fc call104 z<|aA.run aP (zt' W hj) (Y.g I) a0 a1 a2 (a3.g I) (a4.g I) (a5.g I) (O.g I) ht (ii z) (a6.g I) aH) ?_;rintro _ H ⟨sk,J,L,ca,aQ,ab,nc,cd,aR,rfl,aS,an,ao,aT,aU,hu,hl⟩;refine Rm z ?_
 iterate 3 refine Re z z z ?_
 refine E z (fa a_f) ?_;rintro _ aV ⟨rfl,ap⟩;have hn:=ap.below;refine E0 (fs0 (cur':=[vI am.number,sl J L ca,sl ab nc cd]) h_ z z (ap.blk:Blk aV H.z [vI 0,sN,sN]) z z z z) ?_;rintro _ wm ⟨aq,aW⟩;have ho:=aW.one;refine Ra z<|Rw z<|Wq<|Wm z<|Rq z z z<|Wn ?_
 obtain ⟨aX,aa,az⟩:=bdS ay;refine Wt (λa w=>∃(xe:Int),xe=aX/\Sat 56 [(8,pt wq.z),(14,pt H.z),(15,vI aN),(16,vI aO)] a/\Cg [H.z] wm w/\inI xe/\Blk w H.z [vI xe,sl J L ca,sl ab nc cd]) ?_ ?_
 .refine Wc z (λhcv=>?_)<|λhcv=>?_
  .refine Wg<|Rm z<|Rf z b_u z<|E0 (fs0 (cur':=[vI aj,sl J L ca,sl ab nc cd]) z_3 z z aq z z z z) ?_
   rintro _ aY ⟨aZ,b0⟩;refine Wl ?_;exact λ_ q=>⟨aj,som<|ifT aa hcv,q.k<|s4 z z z z,(cM (cr [H.z] wm) b0.one (io sr):Cg [H.z] wm aY),ht,aZ⟩
  exact a_5<|λ_ q=>⟨am.number,som<|ifF aa hcv,q.k<|s4 z z z z,cr [H.z] wm,aS,aq⟩
 rintro b1 _ ⟨xe,rfl,_,sp,b2,b3⟩;revert b1;refine Wo<|Ws<|R z (lN (vs:=[vI xe,sl J L ca,sl ab nc cd]) y_ h_ z z fid<|b3.row 0 3 z)<|RM z z ?_
 have hw:=lt_ (lt_ G.s s1.s) s2.s;have ar:=mm1 h6.lt<|lt_ hw sk.s
 refine E0 (fs0 (cur':=[vI xe,sl J L ca,sl ab nc cd]) h_ z z (((((((h6.e G).e s1).e s2).e sk).e hn).c ho<|djs ar).c sp<|djs ar) z z z z) ?_;rintro _ _ ⟨b4,b5⟩;have hx:=b5.one;refine Ra z<|Rw z ?_
 obtain rfl:=som az;have au:=mnr<|a_.lt an
 have av:=mnr<|a_.lt ao
 have aw:=m1<|lt_ hj sk.s
 exact Wr<|A_ hr (s_ y_ h_ z b4 z) z z ⟨bM (bM (bM (bup (bup (bup (bup (bup (bup (bup hf h5) h3) G) s1) s2) sk) hn) ho aw) sp aw) hx<|m1 hi,J,L,ca,aQ,ab,nc,cd,aR,z,b2,(((an.e hn).c ho<|ds au).c sp<|ds au).c hx<|t_ (al_ hl) h6.lt hw,(((ao.e hn).c ho<|ds av).c sp<|ds av).c hx<|t_ (ar_ hl) h6.lt hw,aT,aU,na_ (nl_ hu) (nr_ hu)<|nj hu,aa_ (n_ (al_ hl) hj)<|n_ (ar_ hl) hj⟩
theorem T_w19 (ih:g_z n):l_L (h_u n<|a_s n):=by
 obtain ⟨_,a7,_,_,_⟩:=ih
 constructor
 intro A0 A2 A3 A1 A4 A7 N0 C0 N2 C2 N3 C3 N1 C1 N4 C4 N7 C7 B x1 x2 x3 x4 res w0 hm a8 V W Y a0 a1 a2 a3 a4 L O;unfold h_u at hm
 refine goG func106 z z z λfn hr=>Ws<|E z (fb z) ?_
 rintro _ wc ⟨rfl,hd⟩;have h2:=hd.below;refine E z (fb z) ?_;rintro _ we ⟨rfl,hf⟩;have G:=hf.below;refine E z (fa a_f) ?_;rintro _ ws ⟨rfl,hg⟩;have h3:=hg.below;have h5:Blk ws we.z [vI 0,sN,sN]:=hg.blk;refine Ra z<|Rw z<|Wq<|Wb<|Wm z<|Rm z ?_
 have hh:=((h2.ag B).e G).e h3;have hi:=L.g hh;refine R z (lnR o_ z hi)<|R z (c_d z z)<|Rw z<|Wc z (λH=>?_) (λH=>?_)
 .refine Ws<|R z (bP (parts:=[]) (cs:=[vI 0,sN,sN]) a_4 z z)<|Rm z<|E0 (fs0 (cur':=[vI 0,sN,sN]) h_ z z h5 z z z z) ?_
  rintro _ _ ⟨hw,sx⟩;refine Ra z<|Rw z ?_
  obtain rfl:=som<|ifT hm H;exact Wr<|rtO<|A_ hr (s_ y_ h_ z hw z) z z ⟨bM (bup (bup h2 G) h3) sx.one<|m1<|lt_ h2.s G.s,none,0,0,[],none,0,0,[],z,ii z,onL,onL,O,ii z,nd0,al0⟩
 refine Wm z<|Rm z ?_
 obtain ⟨_,ey,hmj⟩:=bdS<|ifF hm H;refine RX z (at_ (α:=UInt8) o_ z_5 z z z hi ey) ?_;rintro _ ⟨_,_,_,rfl,hz,a9,_⟩;obtain rfl:=u8 a9;refine R z (l0 g_5 z<|hz.at0 z)<|R z (a_b z z)<|Rw z<|Wc z (λI=>?_) (λI=>?_)
 .refine Ws<|R z (bP (parts:=[]) (cs:=[vI 0,sN,sN]) a_4 z z)<|Rm z<|E0 (fs0 (cur':=[vI 0,sN,sN]) h_ z z h5 z z z z) ?_
  rintro _ _ ⟨aa,ab⟩;refine Ra z<|Rw z ?_
  obtain rfl:=som<|ifT hmj I;exact Wr<|rtO<|A_ hr (s_ y_ h_ z aa z) z z ⟨bM (bup (bup h2 G) h3) ab.one<|m1<|lt_ h2.s G.s,none,0,0,[],none,0,0,[],z,ii z,onL,onL,O,ii z,nd0,al0⟩
 refine Wk<|Wq (Wd (X:=noX) 16384 (pl_ 17 [10,14]) mo (by kernel_rfl) λaw s1 _=>dR z z (lN (vs:=[sl A0 N0 C0]) w_ v_ z z fid<|((((hd.blk:Blk wc w0.z [sl A0 N0 C0]).e G).e h3).e s1).row 0 1 z)<|dR z z (lN (vs:=vR x2 A2 N2 C2 A3 N3 C3 A1 N1 C1 A4 N4 C4) H_ m_ z z fid<|(((hf.blk:Blk we wc.z (vR x2 A2 N2 C2 A3 N3 C3 A1 N1 C1 A4 N4 C4)).e h3).e s1).row 0 8 z)<|dM z z z<|dM z z z ?_)
 obtain ⟨_,ad,a5⟩:=bdS<|ifF hmj I;have h4:=hh.e s1;have hk:=L.g h4;refine dRX z z (at_ (α:=UInt8) o_ z_5 z z z hk ad) ?_;rintro _ ⟨_,_,_,rfl,ae,af,_⟩;obtain rfl:=u8 af;refine dR z z (l0 g_5 z<|ae.at0 z)<|dR z z (c_h d_5 d_3 z)<|dM z z z<|dM z z z<|dR z z (add_ z z) ?_
 have hl:=lt_ h2.s G.s;have J:=lt_ (lt_ hl h3.s) s1.s;obtain ⟨ah,_,_,ai,a6⟩:=N_ a5;refine dE z z (fc call104 z<|a7.run ai (zt' a8 J) (V.g h4) W Y a0 (a1.g h4) (a2.g h4) (a3.g h4) (a4.g h4) (ii z) (m_A _) hk<|iA _ _) (.inr λ_ _ h=>C_<|h.1) ?_;rintro _ _ ⟨sm,an,no,cp,aj,aq,nr,ct,ak,rfl,al,am,ao,ap,ar,ha,h6⟩
 iterate 3 refine dR z z (ext_ z z) ?_
 refine dE0 z (fs0 (cur':=[vI ah.number,sl an no cp,sl aq nr ct]) h_ z z ((h5.e s1).e sm) z z z z) (.inl z) ?_;rintro _ _ ⟨au,av⟩;have hb:=av.one;refine dQ z z z<|dQ z z z<|pD<|Wo ?_
 obtain rfl:=som a6;exact Wr<|A_ hr (s_ y_ h_ z au z) z z ⟨bM (bup (bup (bup (bup h2 G) h3) s1) sm) hb<|m1 hl,an,no,cp,aj,aq,nr,ct,ak,z,al,am.c hb<|t_ (al_ h6) h5.lt s1.s,ao.c hb<|t_ (ar_ h6) h5.lt s1.s,ap,ar,na_ (nl_ ha) (nr_ ha)<|nj ha,aa_ (n_ (al_ h6) J)<|n_ (ar_ h6) J⟩
theorem T_w1a (ih:g_z n):l_M (h_v n<|a_s n):=by
 obtain ⟨_,am,_,_,_⟩:=ih
 constructor
 intro A0 A2 A3 A1 A4 A7 N0 C0 N2 C2 N3 C3 N1 C1 N4 C4 N7 C7 B x1 x2 x3 x4 res w0 hm O a7 a8 a9 ab ae af ah ai L aj;unfold h_v at hm
 refine goG func107 z z z λfn hr=>Ws<|E z (fb z) ?_
 rintro _ wu ⟨rfl,hv⟩;have hh:=hv.below;refine E z (fb z) ?_;rintro _ ww ⟨rfl,hx⟩;have H:=hx.below;refine E z (fa a_f) ?_;rintro _ an ⟨rfl,hy⟩;have h5:=hy.below;have h3:Blk an ww.z [vI 0,sN,sN]:=hy.blk;refine Ra z<|Rw z<|Ws<|R z (lN (vs:=[sl A0 N0 C0]) w_ v_ z z fid<|(((hv.blk:Blk wu w0.z [sl A0 N0 C0]).e H).e h5).row 0 1 z)<|R z (lN (vs:=vR x2 A2 N2 C2 A3 N3 C3 A1 N1 C1 A4 N4 C4) H_ m_ z z fid<|((hx.blk:Blk ww wu.z (vR x2 A2 N2 C2 A3 N3 C3 A1 N1 C1 A4 N4 C4)).e h5).row 0 8 z)<|RM z z ?_
 have I:=((hh.ag B).e H).e h5;have hj:=lt_ hh.s H.s;have J:=lt_ hj h5.s;obtain ⟨rk,_,_,ao,hmz⟩:=N_ hm;refine E z (fc call104 z<|am.run ao (zt' O J) (a7.g I) a8 a9 ab (ae.g I) (af.g I) (ah.g I) (ai.g I) (ii z) (ii z) (L.g I) aj) ?_;rintro _ Y ⟨G,aa,nb,cc,a0,ad,ne,cf,a1,rfl,a2,hn,ho,hp,ap,hi,h6⟩;refine Rm z ?_
 iterate 3 refine Re z z z ?_
 refine E z (fa a_f) ?_;rintro _ aq ⟨rfl,a3⟩;have h1:=a3.below;refine E0 (fs0 (cur':=[vI rk.number,sl aa nb cc,sl ad ne cf]) h_ z z (a3.blk:Blk aq Y.z [vI 0,sN,sN]) z z z z) ?_;rintro _ _ ⟨a4,ar⟩;have h2:=ar.one;refine Ra z<|Rw z<|Wq<|Wb<|Wm z<|R z (nq z z)<|Rw z<|Wc z (λhcm=>?_) (λhcm=>?_)
 .refine Ws<|R z (lN (vs:=[vI rk.number,sl aa nb cc,sl ad ne cf]) y_ h_ z z fid<|a4.row 0 3 z)<|RM z z<|E0 (fs0 (cur':=[vI rk.number,sl aa nb cc,sl ad ne cf]) h_ z z (((h3.e G).e h1).c h2<|djs<|mm1 h3.lt G.s) z z z z) ?_
  rintro _ _ ⟨au,av⟩;have hq:=av.one;refine Ra z<|Rw z ?_
  obtain rfl:=som<|ifT hmz hcm;exact Wr<|rtO<|A_ hr (s_ y_ h_ z au z) z z ⟨bM (bM (bup (bup (bup (bup hh H) h5) G) h1) h2<|m1<|lt_ J G.s) hq<|m1 hj,aa,nb,cc,a0,ad,ne,cf,a1,z,a2,((hn.e h1).c h2<|ds<|mnr<|a_.lt hn).c hq<|t_ (al_ h6) h3.lt lr,((ho.e h1).c h2<|ds<|mnr<|a_.lt ho).c hq<|t_ (ar_ h6) h3.lt lr,hp,ap,na_ (nl_ hi) (nr_ hi)<|nj hi,aa_ (n_ (al_ h6) J)<|n_ (ar_ h6) J⟩
 have V:=ifF hmz hcm;refine Wm z<|Rm z ?_
 have hl:=lt_ J G.s;have a5:=((I.e G).e h1).c h2<|e_ (or0 (f_ lr) (p_<|zt' O hl):∀k∈[Y.z],¬B k)
 refine R z (lnR o_ z<|L.g a5)<|R z (c_d z z)<|Rw z<|Wc z (λhcr=>?_) (λhcr=>?_)
 .refine Ws<|R z (bP (parts:=[]) (cs:=[vI 0,sN,sN]) a_4 z z)<|Rm z<|E0 (fs0 (cur':=[vI 0,sN,sN]) h_ z z (((h3.e G).e h1).c h2<|djs<|mm1 h3.lt G.s) z z z z) ?_
  rintro _ _ ⟨aw,ax⟩;refine Ra z<|Rw z ?_
  obtain rfl:=som<|ifT V hcr;exact Wr<|rtO<|A_ hr (s_ y_ h_ z aw z) z z ⟨bM (bM (bup (bup (bup (bup hh H) h5) G) h1) h2<|m1 hl) ax.one<|m1 hj,none,0,0,[],none,0,0,[],z,ii z,onL,onL,hp,ii z,nd0,al0⟩
 refine Wq (Wd (X:=noX) 0 (pl_ 12 [9]) mo (by kernel_rfl) λaI s4 _=>dM z z z<|dM z z z ?_);obtain ⟨_,ay,ak⟩:=bdS<|ifF V hcr;have a6:=L.g<|a5.e s4
 refine dRX z z (at_ (α:=UInt8) o_ z_5 z z z a6 ay) ?_;rintro _ ⟨_,_,_,rfl,az,aA,_⟩;obtain rfl:=u8 aA;refine dR z z (l0 g_5 z<|az.at0 z)<|dR z z (c_h d_5 d_3 z) ?_
 iterate 3 refine dM z z z ?_
 obtain ⟨_,aB,al⟩:=bdS ak;refine dRX z z (rX o_ z_5 z z a6 z z aB) ?_;rintro _ ⟨_,_,_,rfl,aC⟩;obtain ⟨_,aD,W⟩:=bdS al;refine dE z z (fc call135 z<|W_w2p aD (zt' O<|lt_ (lt_ (lt_ hl h1.s) h2.s) s4.s) aC) (.inr λ_ _ h=>C_<|h.1) ?_;rintro _ _ ⟨sg,rfl,_⟩;refine dR z z (nq z z)<|dQ z z z<|pD<|Wo<|Wc z (λhcs=>?_) (λhcs=>?_)
 .refine Ws<|R z (bP (parts:=[]) (cs:=[vI 0,sN,sN]) a_4 z z)<|Rm z<|E0 (fs0 (cur':=[vI 0,sN,sN]) h_ z z (((((h3.e G).e h1).c h2<|djs<|mm1 h3.lt G.s).e s4).e sg) z z z z) ?_
  rintro _ _ ⟨aE,aF⟩;refine Ra z<|Rw z ?_
  obtain rfl:=som<|ifT W hcs;exact Wr<|rtO<|A_ hr (s_ y_ h_ z aE z) z z ⟨bM (bup (bup (bM (bup (bup (bup (bup hh H) h5) G) h1) h2<|m1 hl) s4) sg) aF.one<|m1 hj,none,0,0,[],none,0,0,[],z,ii z,onL,onL,hp,ii z,nd0,al0⟩
 refine Wk<|Ws<|R z (lN (vs:=[vI rk.number,sl aa nb cc,sl ad ne cf]) y_ h_ z z fid<|((a4.e s4).e sg).row 0 3 z)<|Rm z<|R z (add_ z z)<|E0 (fs0 (cur':=[vI rk.number,sl aa nb cc,sl ad ne cf]) h_ z z (((((h3.e G).e h1).c h2<|djs<|mm1 h3.lt G.s).e s4).e sg) z z z z) ?_
 rintro _ _ ⟨aG,aH⟩;have ht:=aH.one;refine Ra z<|Rw z ?_
 obtain rfl:=som<|ifF W hcs;exact Wr<|A_ hr (s_ y_ h_ z aG z) z z ⟨bM (bup (bup (bM (bup (bup (bup (bup hh H) h5) G) h1) h2<|m1 hl) s4) sg) ht<|m1 hj,aa,nb,cc,a0,ad,ne,cf,a1,z,a2,((((hn.e h1).c h2<|ds<|mnr<|a_.lt hn).e s4).e sg).c ht<|t_ (al_ h6) h3.lt lr,((((ho.e h1).c h2<|ds<|mnr<|a_.lt ho).e s4).e sg).c ht<|t_ (ar_ h6) h3.lt lr,iA _ _,ii z,na_ (nl_ hi) (nr_ hi)<|nj hi,aa_ (n_ (al_ h6) J)<|n_ (ar_ h6) J⟩
theorem d_K:∀n,g_z n
  | 0=>⟨⟨λhm=>by intros;exact nomatch (show none=some _ from hm)⟩,⟨λhm=>by intros;exact nomatch (show none=some _ from hm)⟩,⟨λhm=>by intros;exact nomatch (show none=some _ from hm)⟩,⟨λhm=>by intros;exact nomatch (show none=some _ from hm)⟩,⟨λhm=>by intros;exact nomatch (show none=some _ from hm)⟩⟩
  | n+1=>⟨T_w01<|d_K n,T_w17<|d_K n,T_w18<|d_K n,T_w19<|d_K n,T_w1a<|d_K n⟩
theorem i_j:l_I (a_s n).spec_l11Read:=(d_K n).1
theorem W_w17:l_J (a_s n).spec_l11Items:=(d_K n).2.1
theorem W_w18:l_K (a_s n).spec_l11Choice:=(d_K n).2.2.1
theorem W_w19:l_L (a_s n).spec_l11Option:=(d_K n).2.2.2.1
theorem W_w1a:l_M (a_s n).spec_l11Checked:=(d_K n).2.2.2.2
theorem l_N {x1:d_}{x2:Int}{x3:Bt}{x4:Int}{res:Val×Int×Int}(hm:h_w n x1 x2 x3 x4=some res)(L:B<=w0.z)(W:repS w0 B (sl A0 N0 C0) x1.rules)(Y:inI x2)(J:repS w0 B (sl A7 N7 C7) x3)(a0:inI x4):i_ prog 131 [(.agg #[sl A0 N0 C0]),vI x2,sl A7 N7 C7,vI x4] w0 (Q9 w0 B res):=by
 unfold h_w at hm
 refine goG func131 z z z λfn hr=>Ws<|E z (fb z) ?_
 rintro _ O ⟨rfl,hg⟩;have h3:=hg.below;have hh:Blk O w0.z [sl A0 N0 C0]:=hg.blk;refine E z (fa a_f) ?_;rintro _ V ⟨rfl,hi⟩;have h4:=hi.below;have h6:Blk V O.z [vI 0,sN,sN]:=hi.blk;refine Ra z<|Rw z<|Wq<|Wq ?_
 obtain ⟨uy,huz,hmj⟩:=bdS hm;refine Wt (λa w=>∃(xa:Bool),xa=uy/\Sat 36 [(1,vI x2),(2,sl A7 N7 C7),(3,vI x4),(4,pt w0.z),(8,pt O.z),(26,vB xa)] a/\Below V.z V w) ?_ ?_
 .refine Wg<|R z (lN (vs:=[sl A0 N0 C0]) w_ v_ z z fid<|(hh.e h4).row 0 1 z)<|Rm z ?_
  have hk:=(h3.ag B).e h4;have hl:=lt_ h3.s h4.s;obtain ⟨a2,a3,hmm⟩:=bdS huz;refine E z (fc call108 z<|W_w15 a3 (zt' L hl) (W.g hk) Y) ?_;rintro _ _ ⟨s5,rfl⟩;refine R z (not_ z)<|Rm z ?_
  rcases bs (!a2) with G | G
  .iterate 5 refine Nh z G ?_
   exact R z (pT z G z)<|Rm z<|Nh z z<|Nh z z<|Nh z z<|R z (pT z z z)<|Wl (λ_ q=>⟨true,som<|ifT hmm G,q.k<|s6 z z z z z z,s5⟩)
  refine Rh z G (mv z)<|Rh z G (mv z) ?_
  have hn:=hk.e s5;have ho:=J.g hn;refine Rh z G (lnR o_ z ho) ?_;obtain ⟨a4,a5,hmp⟩:=bdS<|ifF hmm G;refine Eg z z G z (fc call99 z<|b_K a5 (zt' L<|lt_ hl s5.s) a0 (ii z)<|b_T<|repS.len ho) ?_;rintro _ _ ⟨sb,rfl⟩;refine Rh z G (not_ z)<|R z (pF z G z)<|Rm z ?_
  rcases bs (!a4) with H | H
  .iterate 3 refine Nh z H ?_
   exact R z (pT z H z)<|Wl (λ_ q=>⟨true,som<|ifT hmp H,q.k<|s6 z z z z z z,bup s5 sb⟩)
  exact Rh z H (mv z)<|Rh z H (lnR o_ z<|J.g<|hn.e sb)<|Rh z H (a_b z z)<|R z (pF z H z)<|Wl (λ_ q=>⟨decide<|400<(x3.length:Int),som<|ifF hmp H,q.k<|s6 z z z z z z,bup s5 sb⟩)
 rintro a6 _ ⟨xa,rfl,_,s2⟩;revert a6;refine Wo<|Wc z (λhcc=>?_) (λhcc=>?_)
 .refine Ws<|R z (bP (parts:=[]) (cs:=[vI 0,sN,sN]) a_4 z z)<|E0 (fs0 (cur':=[vI 0,sN,sN]) h_ z z (h6.e s2) z z z z) ?_
  rintro _ _ ⟨a7,a8⟩;refine Ra z<|Rw z ?_
  obtain rfl:=som<|ifT hmj hcc;exact Wr<|A_ hr (s_ y_ h_ z a7 z) z z ⟨bM (bup (bup h3 h4) s2) a8.one<|m1 h3.s,none,0,0,[],none,0,0,[],z,ii z,onL,onL,ii z,ii z,nd0,al0⟩
 refine Wk<|Ws<|R z (lN (vs:=[sl A0 N0 C0]) w_ v_ z z fid<|((hh.e h4).e s2).row 0 1 z)<|RM z z<|Rm z ?_
 have hq:=((h3.ag B).e h4).e s2;have hd:=lt_ (lt_ h3.s h4.s) s2.s;obtain ⟨a9,_,_,aa,a1⟩:=N_<|ifF hmj hcc;refine E z (fc call55 z<|i_j.run aa (zt' L hd) (W.g hq) Y (J.g hq) a0) ?_;rintro _ _ ⟨sr,au,ns,ct,ab,av,nw,cx,ad,rfl,ae,af,ah,ai,aj,he,I⟩
 iterate 3 refine Re z z z ?_
 refine E0 (fs0 (cur':=[vI a9.number,sl au ns ct,sl av nw cx]) h_ z z ((h6.e s2).e sr) z z z z) ?_;rintro _ _ ⟨ak,al⟩;have hf:=al.one;refine Ra z<|Rw z ?_
 obtain rfl:=som a1;exact Wr<|A_ hr (s_ y_ h_ z ak z) z z ⟨bM (bup (bup (bup h3 h4) s2) sr) hf<|m1 h3.s,au,ns,ct,ab,av,nw,cx,ad,z,ae,af.c hf<|t_ (al_ I) h6.lt s2.s,ah.c hf<|t_ (ar_ I) h6.lt s2.s,ai,aj,na_ (nl_ he) (nr_ he)<|nj he,aa_ (n_ (al_ I) hd)<|n_ (ar_ I) hd⟩
theorem W_w2q {x1:d_}{x2:Bt}{res:Val×Int×Int}(hm:h_x n x1 x2=some res)(W:B<=w0.z)(V:repS w0 B (sl A0 N0 C0) x1.rules)(Y:repS w0 B (sl A5 N5 C5) x2):i_ prog 91 [(.agg #[sl A0 N0 C0]),sl A5 N5 C5] w0 (Q9 w0 B res):=by
 unfold h_x at hm
 refine goG func91 z z z λfn hr=>Ws<|E z (fb z) ?_
 rintro _ wl ⟨rfl,ao⟩;have h2:=ao.below;have hv:Blk wl w0.z [sl A0 N0 C0]:=ao.blk;refine E z (fa a_f) ?_;rintro _ I ⟨rfl,ap⟩;have h1:=ap.below;have hn:Blk I wl.z [vI 0,sN,sN]:=ap.blk;refine Ra z<|Rw z<|Wq ?_
 obtain ⟨bn,ak,bh⟩:=bdS hm;refine Wt (λa w=>∃(xb:Int)(xw:Bt)(xx:List Val)(xc:Int)(xd:Int),(xb,xw,xx,xc,xd)=bn/\∃ae nf cg J ah ni cj L O,Sat 32 [(1,sl A5 N5 C5),(4,pt wl.z),(7,pt O),(8,vI xc),(9,vI xd)] a/\Below I.z I w/\inI xb/\a_ w J (sl ae nf cg) xw/\J.Nodup/\(∀k∈J,I.z<=k)/\a_ w L (sl ah ni cj) xx/\L.Nodup/\(∀k∈L,I.z<=k)/\(∀k∈L,k∉J)/\inI xc/\inI xd/\Blk w O [vI xb,sl ae nf cg,sl ah ni cj]/\I.z<=O/\(∀k∈J,k∉[O])/\(∀k∈L,k∉[O])) ?_ ?_
 .refine Wd (X:=λk=>k∈([]:List Nat)∨I.z<=k) 0 (.rd 0<|.rd 1<|.rd 3<|.br 2 (.br 4 (.rd 5<|.rd 6<|.rd 7<|.rd 8<|.ef 9<|.ef 10<|.rd 11<|.rd 12 .done) 9<|.ef 4<|.rd 5<|.rd 6<|.rd 7<|.rd 8<|.ef 10<|.rd 11<|.rd 12 .done) 9<|.ef 2<|.ef 4<|.rd 5<|.rd 6<|.rd 7<|.rd 8<|.ef 10<|.rd 11<|.rd 12 .done) mo (by kernel_rfl) λaq G _=>?_
  have ar:=(hv.e h1).e G;refine dR z z (lN (vs:=[sl A0 N0 C0]) w_ v_ z z (f_I nm0<|Nat.lt_of_lt_of_le hv.lt h1.s)<|ar.row 0 1 z)<|dR z z (lN (vs:=[sl A0 N0 C0]) w_ v_ z z (f_I nm0<|Nat.lt_of_lt_of_le hv.lt h1.s)<|ar.row 0 1 z)<|dM z z z<|f_w ?_ ?_
  .have hy:=((h2.ag B).e h1).e G;have hz:=lt_ (lt_ h2.s h1.s) G.s;obtain ⟨_,bo,al⟩:=bdS ak;refine dE z z (fc call49 z<|k_9 bo (zt' W hz)<|V.g hy) (.inr λ_ _ h=>C_<|h.1) ?_;rintro _ au ⟨s4,rfl,av⟩;refine f_w ?_ ?_
   .have aw:=hy.e s4;obtain ⟨rm,bp,bq,bt,bi⟩:=N_ al;refine dE z z (fc call131 z<|l_N bt (zt' W<|lt_ hz s4.s) (V.g aw) av (Y.g aw)<|ii z) (.inr λ_ _ h=>C_<|h.1) ?_;rintro _ ax ⟨ay,az,aA,aB,bu,aC,aD,aE,bv,rfl,bw,aF,aG,bx,bz,a1,aH⟩;refine dM z z z ?_
    iterate 3 refine dR z z (ext_ z z) ?_
    refine dE z z (fa a_f) (.inr λ_ _ h=>C_<|h.2.below) ?_;rintro _ bA ⟨rfl,aI⟩;have a2:=aI.below;have a3:=lt_ G.s s4.s;have a4:=m1<|lt_ a3 ay.s
    refine dE0 z (fs0 (cur':=[vI rm.number,sl az aA aB,sl aC aD aE]) h_ z z (aI.blk:Blk bA ax.z [vI 0,sN,sN]) z z z z) (.inr λ_ _ h=>d_Q (atp a4) h.2) ?_;rintro _ _ ⟨bB,bC⟩;have a5:=bC.one;refine dQ z z z<|dQ z z z<|pD ?_
    have aJ:=mnr<|a_.lt aF
    have aK:=mnr<|a_.lt aG
    exact λ_ q=>⟨rm.number,rm.bytes,rm.items,bp,bq,som bi,az,aA,aB,bu,aC,aD,aE,bv,ax.z,q.k<|s5 z z z z z,bM (bup (bup (bup G s4) ay) a2) a5 a4,bw,(aF.e a2).c a5<|ds aJ,nl_ a1,n_ (al_ aH) a3,(aG.e a2).c a5<|ds aK,nr_ a1,n_ (ar_ aH) a3,ds<|nj a1,bx,bz,bB,atp a4,ds aJ,ds aK⟩
   refine dE z z (fa a_f) (.inr λ_ _ h=>C_<|h.2.below) ?_;rintro _ bD ⟨rfl,aL⟩;have ho:=aL.below;have a6:Blk bD au.z [vI 0,sN,sN]:=aL.blk;have aM:=(hy.e s4).e ho;obtain ⟨rp,bE,bF,bG,bj⟩:=N_ al;refine dE z z (fc call131 z<|l_N bG (zt' W<|lt_ (lt_ hz s4.s) ho.s) (V.g aM) av (Y.g aM)<|ii z) (.inr λ_ _ h=>C_<|h.1) ?_;rintro _ _ ⟨aN,aO,aP,aQ,bH,aR,aS,aT,bI,rfl,bJ,bK,bL,bN,bO,a7,hq⟩;refine dM z z z ?_
   iterate 3 refine dR z z (ext_ z z) ?_
   have aU:=lt_ G.s s4.s;have a8:=m1 aU;refine dE0 z (fs0 (cur':=[vI rp.number,sl aO aP aQ,sl aR aS aT]) h_ z z (a6.e aN) z z z z) (.inr λ_ _ h=>d_Q (atp a8) h.2) ?_;rintro _ _ ⟨bQ,bR⟩;have a9:=bR.one;refine dQ z z z<|dQ z z z<|pD ?_
   have aV:=t_ (al_ hq) a6.lt lr;have aW:=lt_ aU ho.s;have aX:=t_ (ar_ hq) a6.lt lr;exact λ_ q=>⟨rp.number,rp.bytes,rp.items,bE,bF,som bj,aO,aP,aQ,bH,aR,aS,aT,bI,au.z,q.k<|s5 z z z z z,bM (bup (bup (bup G s4) ho) aN) a9 a8,bJ,bK.c a9 aV,nl_ a7,n_ (al_ hq) aW,bL.c a9 aX,nr_ a7,n_ (ar_ hq) aW,ds<|nj a7,bN,bO,bQ,atp a8,aV,aX⟩
  refine dE z z (fa a_f) (.inr λ_ _ h=>C_<|h.2.below) ?_;rintro _ bS ⟨rfl,aY⟩;have ht:=aY.below;have aa:Blk bS aq.z [vI 0,sN,sN]:=aY.blk;have aZ:=(((h2.ag B).e h1).e G).e ht;have b0:=lt_ (lt_ (lt_ h2.s h1.s) G.s) ht.s;obtain ⟨_,bT,bk⟩:=bdS ak;refine dE z z (fc call49 z<|k_9 bT (zt' W b0)<|V.g aZ) (.inr λ_ _ h=>C_<|h.1) ?_;rintro _ _ ⟨s9,rfl,bU⟩;have b1:=aZ.e s9;obtain ⟨rr,bV,bW,bX,bm⟩:=N_ bk;refine dE z z (fc call131 z<|l_N bX (zt' W<|lt_ b0 s9.s) (V.g b1) bU (Y.g b1)<|ii z) (.inr λ_ _ h=>C_<|h.1) ?_;rintro _ _ ⟨b2,b3,b4,b5,bY,b6,b7,b8,bZ,rfl,c0,c1,c2,c3,c4,ab,hu⟩;refine dM z z z ?_
  iterate 3 refine dR z z (ext_ z z) ?_
  have ad:=m1 G.s;refine dE0 z (fs0 (cur':=[vI rr.number,sl b3 b4 b5,sl b6 b7 b8]) h_ z z ((aa.e s9).e b2) z z z z) (.inr λ_ _ h=>d_Q (atp ad) h.2) ?_;rintro _ _ ⟨c5,c6⟩;have af:=c6.one;refine dQ z z z<|dQ z z z<|pD ?_
  have b9:=t_ (al_ hu) aa.lt s9.s;have ba:=lt_ (lt_ G.s ht.s) s9.s;have bb:=t_ (ar_ hu) aa.lt s9.s;exact λ_ q=>⟨rr.number,rr.bytes,rr.items,bV,bW,som bm,b3,b4,b5,bY,b6,b7,b8,bZ,aq.z,q.k<|s5 z z z z z,bM (bup (bup (bup G ht) s9) b2) af ad,c0,c1.c af b9,nl_ ab,n_ (al_ hu) ba,c2.c af bb,nr_ ab,n_ (ar_ hu) ba,ds<|nj ab,c3,c4,c5,atp ad,b9,bb⟩
 rintro c7 ws ⟨xb,xw,xx,xc,xd,rfl,ae,nf,cg,J,ah,ni,cj,L,O,_,sk,c8,c9,ca,bc,cb,cc,be,cd,bf,ce,cf,_,_,_⟩;revert c7;refine Wo<|Wq<|Wq ?_
 obtain ⟨ch,am,an⟩:=bdS<|un5S bh;refine Wt (λa w=>∃(ai:Bool),ai=ch/\Sat 32 [(4,pt wl.z),(7,pt O),(8,vI xc),(9,vI xd),(26,vB ai)] a/\Below ws.z ws w) ?_ ?_
 .refine Wg<|Rm z<|Rq z z z<|Rm z ?_
  rcases bs (xd==0) with H | H
  .exact Rh z H (mv z)<|Rh z H (mv z)<|Rh z H (lnR o_ z<|Y.g<|((h2.ag B).e h1).e sk)<|Rh z H (lss z z)<|R z (pT z H z)<|Wl (λ_ q=>⟨decide<|xc<(x2.length:Int),som<|ifT am H,q.k<|s5 z z z z z,br ws⟩)
  iterate 4 refine Nh z H ?_
  exact R z (pF z H z)<|Wl (λ_ q=>⟨false,som<|ifF am H,q.k<|s5 z z z z z,br ws⟩)
 rintro ci _ ⟨ai,rfl,_,sa⟩;revert ci;refine Wo<|Wc z (λa0=>?_) (λa0=>?_)
 .refine Ws<|R z (bP (parts:=[]) (cs:=[vI 0,sN,sN]) a_4 z z)<|Rm z<|E0 (fs0 (cur':=[vI 0,sN,sN]) h_ z z ((hn.e sk).e sa) z z z z) ?_
  rintro _ _ ⟨ck,cl⟩;refine Ra z<|Rw z ?_
  obtain rfl:=som<|ifT an a0;exact Wr<|A_ hr (s_ y_ h_ z ck z) z z ⟨bM (bup (bup (bup h2 h1) sk) sa) cl.one<|m1 h2.s,none,0,0,[],none,0,0,[],z,ii z,onL,onL,bf,ii z,nd0,al0⟩
 refine Wk<|Ws<|R z (lN (vs:=[vI xb,sl ae nf cg,sl ah ni cj]) y_ h_ z z fid<|(cf.e sa).row 0 3 z)<|RM z z<|E0 (fs0 (cur':=[vI xb,sl ae nf cg,sl ah ni cj]) h_ z z ((hn.e sk).e sa) z z z z) ?_
 rintro _ _ ⟨cm,cn⟩;have aj:=cn.one;refine Ra z<|Rw z ?_
 obtain rfl:=som<|ifF an a0;have bg:=lt_ h2.s h1.s;exact Wr<|A_ hr (s_ y_ h_ z cm z) z z ⟨bM (bup (bup (bup h2 h1) sk) sa) aj<|m1 h2.s,ae,nf,cg,J,ah,ni,cj,L,z,c8,(c9.e sa).c aj<|t_ bc hn.lt lr,(cb.e sa).c aj<|t_ be hn.lt lr,bf,ce,na_ ca cc<|ds cd,aa_ (n_ bc bg)<|n_ be bg⟩
theorem W_w2r {x1:d_}{x2:Bt}{res:Bool}(hm:h_y n x1 x2=some res)(J:B<=w0.z)(H:repS w0 B (sl A0 N0 C0) x1.rules)(I:repS w0 B (sl A5 N5 C5) x2):i_ prog 47 [(.agg #[sl A0 N0 C0]),sl A5 N5 C5] w0 (Q7 w0 B res):=by
 unfold h_y at hm
 refine goG func47 z z z λfn hr=>Ws<|E z (fb z) ?_
 rintro _ O ⟨rfl,h1⟩;have G:=h1.below;refine Rw z<|Ws<|R z (lN (vs:=[sl A0 N0 C0]) w_ v_ z z fid<|(h1.blk:Blk O w0.z [sl A0 N0 C0]).row 0 1 z)<|Rm z ?_
 obtain ⟨V,_,_,W,L⟩:=N_ hm;refine E z (fc call91 z<|W_w2q W (zt' J G.s) (H.e G)<|I.e G) ?_;rintro _ Y ⟨s2,aa,nb,cc,_,ad,ne,cf,_,rfl,_,_,_,_,_,_,_⟩;refine Rm z ?_
 iterate 3 refine Re z z z ?_
 refine E z (fa a_f) ?_;rintro _ wg ⟨rfl,h3⟩;refine E0 (fs0 (cur':=[vI V.number,sl aa nb cc,sl ad ne cf]) h_ z z (h3.blk:Blk wg Y.z [vI 0,sN,sN]) z z z z) ?_;rintro _ _ ⟨_,si⟩;refine Ra z<|Rw z<|Wm z<|Rq z z z<|Rw z ?_
 obtain rfl:=som L;exact Wr<|c_ hr z ⟨bM (bup (bup G s2) h3.below) si.one<|m1<|lt_ G.s s2.s,z⟩
def Q11 (w0:World)(B:Zone)(r:Str)(v:Value)(w':World):Prop:=Bw w0 w'/\(λG=>(Str.v G)=v/\G.b.length<=LEN) r
theorem i_k {x1:Int}{res:Str}(hm:c_G n x1=some res)(V:B<=w0.z)(O:inI x1):i_ prog 111 [vI x1] w0 (Q11 w0 B res):=by
 unfold c_G at hm
 refine goG func111 z z z λfn hr=>Ws<|Rw z<|Wq<|Wm z<|Rq z z z<|Wx z (λH=>?_) (λH=>?_)
 .refine Ws<|Rw z ?_
  obtain rfl:=som<|ifT hm H;exact Wr<|c_ hr z ⟨br w0,z,lb z⟩
 refine Wk<|Ws<|Rw z<|Wq<|Wm z<|Rw z ?_
 obtain ⟨_,huj,hmb⟩:=bdS<|ifF hm H;refine c_k (σ:=Str×Int) (ρ:=Str) (λs a w=>un2 (λx2 x0=>Sat 31 [(0,vI x1),(3,Str.v x2),(4,vI x0)] a/\Below w0.z w0 w/\x2.b.length<=LEN/\inI x0) s) (λs a w=>un2 (λx2 x0=>Sat 31 [(0,vI x1),(3,Str.v x2)] a/\Below w0.z w0 w/\x2.b.length<=LEN/\inI x0) s) (rQ prog fn<|Q11 w0 B) huj ?_ ?_ ?_ ?_
 .exact λ_ q=>⟨q.k<|s3 z z z,br w0,lb z,O⟩
 .rintro ⟨x2,x0⟩ _ G _ ⟨hSk,sc,h5,h6⟩ hml;have hmd:=a_P hml;refine Wu ?_ hSk;refine Wq<|Wm z<|R z (nq z z)<|Wx z (λI=>?_) (λI=>?_)
  .refine Wk<|Wq<|Wb<|Wm z<|R z (f_N z z (by decide))<|Rw z<|Wq<|Wm z<|Rl z z z<|Wn ?_
   obtain ⟨um,hue,hmn⟩:=bdS<|ifT hmd I;refine Wt (λa w=>∃(x3:Int),x3=um/\Sat 31 [(0,vI x1),(3,Str.v x2),(4,vI x0),(5,vI x3)] a/\Below G.z G w/\inI x3) ?_ ?_
   .refine Wc z (λJ=>?_)<|λJ=>?_
    .exact Wg<|Rm z<|R z (rd_neg z)<|Ra z<|Wl (λ_ q=>⟨f_L<|a_J x0 10,som<|ifT hue J,q.k<|s4 z z z z,br G,p_X _⟩)
    exact a_5<|λ_ q=>⟨a_J x0 10,som<|ifF hue J,q.k<|s4 z z z z,br G,k_r h6⟩
   rintro ao wp ⟨x3,rfl,_,sq,_⟩;revert ao;refine Wo<|Wg<|Rm z<|R z (add_ z z)<|R z (k_t d_3 d_5 z)<|E z (fS [(.tmp 21)] b_I z z z (b_l z) (lb z)<|lb z) ?_
   rintro _ wr ⟨rfl,L⟩;have W:Blk wr wp.z [(vU<|byteI<|mkB<|g_ 48 x3)]:=L.blk;refine R z (k_x o_ d_9 d_5 z_5 z<|a_.rep<|b_U L e_n)<|Rm z ?_
   obtain ⟨xs,ef,hmt⟩:=bdS hmn;exact R z (a_q z z ef)<|Rw z<|Wg<|Rm z<|R z (k_E z z (by decide))<|Ra z<|Wl (λ_ q=>⟨(xs,c_l x0 10),(som hmt).symm,⟨q.k<|s3 z z z,bup (bup sc sq) L.below,b_2 ef,m_z _ _⟩⟩)
  exact We<|λ_ q=>b_M (som<|ifF hmd I).symm ⟨q.k<|s2 z z,sc,h5,h6⟩
 .rintro ⟨x2,x0⟩ au _ rfl ⟨_,sg,h5,h6⟩;have hmv:=elL hmb;have hmh:=a_P hmv;revert au;refine Wo<|Wq<|Wm z<|Rl z z z<|Wx z (λhca=>?_) (λhca=>?_)
  .refine Wm z ?_
   obtain ⟨_,ei,hmw⟩:=bdS<|ifT hmh hca;refine R z (a_q z z ei)<|Rw z ?_
   obtain rfl:=som hmw;exact Wr<|c_ hr z ⟨sg,z,b_2 ei⟩
  refine Wk<|Wm z<|Rw z ?_
  obtain rfl:=som<|ifF hmh hca;exact Wr<|c_ hr z ⟨sg,z,h5⟩
 rintro _ _ _ _ rfl ⟨rfl,hqx⟩;have hmy:=elR hmb;obtain rfl:=som hmy;exact ⟨hqx,z⟩
theorem W_w1b {x1:b_}{x2:Int}{res:Str}(hm:e_G n x1 x2=some res)(a0:B<=w0.z)(ae:x1.name.b.length<=LEN)(af:inI x1.kind)(ah:inI x1.size)(ai:repS w0 B (sl AB NB CB) x1.bytes)(V:repS w0 B (sl AA NA CA) x1.names)(aj:repS w0 B (sl AC NC CC) x1.tags)(ak:repS w0 B (sl AD ND CD) x1.kids)(W:inI x2):i_ prog 94 [(.agg #[Str.v x1.name,vI x1.kind,vI x1.size,vB x1.little,sl AB NB CB,sl AA NA CA,sl AC NC CC,sl AD ND CD]),vI x2] w0 (Q11 w0 B res):=by
 unfold e_G at hm
 refine goG func94 z z z λfn hr=>Ws<|E z (fb z) ?_
 rintro _ L ⟨rfl,hn⟩;have h1:=hn.below;have h6:Blk L w0.z (vR x1 AB NB CB AA NA CA AC NC CC AD ND CD):=hn.blk;refine Rw z<|Wq<|Wb<|Ws<|Rf z a_o z<|R z (l0 g_3 z<|h6.at z)<|Rq z z z<|Rw z<|Wc z (λhcd=>?_) (λhcd=>?_)
 .refine Wm z ?_
  obtain ⟨_,ew,hmx⟩:=bdS<|ifT hm hcd;refine E z (fc call111 z<|i_k ew (zt' a0 h1.s) W) ?_;rintro _ _ ⟨sy,rfl,hz⟩;refine Rw z ?_
  obtain rfl:=som hmx;exact Wr<|rtO<|c_ hr z ⟨bup h1 sy,z,hz⟩
 refine Wq ?_;obtain ⟨a1,hum,hmo⟩:=bdS<|ifF hm hcd;refine Wt (λa w=>∃(xe:Bool),xe=a1/\Sat 51 [(1,vI x2),(2,pt w0.z),(11,vB xe)] a/\Below L.z L w) ?_ ?_
 .refine Wg<|Rf z a_o z<|R z (l0 g_3 z<|h6.at z)<|Rq z z z<|Rm z ?_
  rcases bs (x1.kind==6) with G | G
  .exact Rh z G (mv z)<|Rh z G (fd b_R z)<|Rh z G (l0 a_t z<|h6.at z)<|Rh z G (lnR D_ z<|V.e h1)<|Rh z G (lss z z)<|R z (pT z G z)<|Ra z<|Wl (λ_ q=>⟨decide<|x2<(x1.names.length:Int),som<|ifT hum G,q.k<|s3 z z z,br L⟩)
  iterate 5 refine Nh z G ?_
  exact R z (pF z G z)<|Ra z<|Wl (λ_ q=>⟨false,som<|ifF hum G,q.k<|s3 z z z,br L⟩)
 rintro a2 O ⟨xe,rfl,_,s2⟩;revert a2;refine Wo<|Wc z (λhcf=>?_) (λhcf=>?_)
 .refine Ws<|Rf z b_R z<|R z (l0 a_t z<|(h6.e s2).at z)<|Rm z ?_
  obtain ⟨_,a3,Y⟩:=bdS<|ifT hmo hcf;refine RX z (at_ (α:=Str) D_ z_9 z z z (V.g<|(h1.ag B).e s2) a3) ?_;rintro _ ⟨_,_,_,rfl,a4,a5,_⟩;obtain ⟨rfl,a6⟩:=a_h a5;refine R z (l0 g_9 z<|a4.at0 z)<|Rw z ?_
  obtain rfl:=som Y;exact Wr<|rtO<|c_ hr z ⟨bup h1 s2,z,a6⟩
 refine Wq ?_;obtain ⟨a7,hup,hmq⟩:=bdS<|ifF hmo hcf;refine Wt (λa w=>∃(xg:Bool),xg=a7/\Sat 51 [(1,vI x2),(2,pt w0.z),(27,vB xg)] a/\Below O.z O w) ?_ ?_
 .refine Wg<|Rf z a_o z<|R z (l0 g_3 z<|(h6.e s2).at z)<|Rq z z z<|Rm z ?_
  rcases bs (x1.kind==7) with H | H
  .exact Rh z H (mv z)<|Rh z H (eql z z)<|R z (pT z H z)<|Ra z<|Wl (λ_ q=>⟨x2==0,som<|ifT hup H,q.k<|s3 z z z,br O⟩)
  exact Nh z H<|Nh z H<|R z (pF z H z)<|Ra z<|Wl (λ_ q=>⟨false,som<|ifF hup H,q.k<|s3 z z z,br O⟩)
 rintro a8 wa ⟨xg,rfl,_,s7⟩;revert a8;refine Wo<|Wc z (λhch=>?_) (λhch=>?_)
 .refine Ws<|Rw z ?_
  obtain rfl:=som<|ifT hmq hch;exact Wr<|rtO<|c_ hr z ⟨bup (bup h1 s2) s7,z,lb z⟩
 refine Wq ?_;obtain ⟨a9,hur,hms⟩:=bdS<|ifF hmq hch;refine Wt (λa w=>∃(xi:Bool),xi=a9/\Sat 51 [(1,vI x2),(2,pt w0.z),(35,vB xi)] a/\Below wa.z wa w) ?_ ?_
 .refine Wg<|Rf z a_o z<|R z (l0 g_3 z<|((h6.e s2).e s7).at z)<|Rq z z z<|Rm z ?_
  rcases bs (x1.kind==8) with I | I
  .exact Rh z I (mv z)<|Rh z I (eql z z)<|R z (pT z I z)<|Ra z<|Wl (λ_ q=>⟨x2==0,som<|ifT hur I,q.k<|s3 z z z,br wa⟩)
  exact Nh z I<|Nh z I<|R z (pF z I z)<|Ra z<|Wl (λ_ q=>⟨false,som<|ifF hur I,q.k<|s3 z z z,br wa⟩)
 rintro aa wb ⟨xi,rfl,_,sc⟩;revert aa;refine Wo<|Wc z (λhcj=>?_) (λhcj=>?_)
 .refine Ws<|Rw z ?_
  obtain rfl:=som<|ifT hms hcj;exact Wr<|rtO<|c_ hr z ⟨bup (bup (bup h1 s2) s7) sc,z,lb z⟩
 refine Wq ?_;obtain ⟨ab,hut,hmu⟩:=bdS<|ifF hms hcj;refine Wt (λa w=>∃(xk:Bool),xk=ab/\Sat 51 [(43,vB xk)] a/\Below wb.z wb w) ?_ ?_
 .refine Wg<|Rf z a_o z<|R z (l0 g_3 z<|(((h6.e s2).e s7).e sc).at z)<|Rq z z z<|Rm z ?_
  rcases bs (x1.kind==9) with J | J
  .exact Rh z J (mv z)<|Rh z J (eql z z)<|R z (pT z J z)<|Ra z<|Wl (λ_ q=>⟨x2==0,som<|ifT hut J,q.k<|s1 z,br wb⟩)
  exact Nh z J<|Nh z J<|R z (pF z J z)<|Ra z<|Wl (λ_ q=>⟨false,som<|ifF hut J,q.k<|s1 z,br wb⟩)
 rintro ad _ ⟨xk,rfl,_,sv⟩;revert ad;refine Wo<|Wc z (λhcl=>?_) (λhcl=>?_)
 .refine Ws<|Rw z ?_
  obtain rfl:=som<|ifT hmu hcl;exact Wr<|rtO<|c_ hr z ⟨bup (bup (bup (bup h1 s2) s7) sc) sv,z,lb z⟩
 refine Wk<|Ws<|Rw z ?_
 obtain rfl:=som<|ifF hmu hcl;exact Wr<|c_ hr z ⟨bup (bup (bup (bup h1 s2) s7) sc) sv,z,lb z⟩
def Q12 (w0:World)(B:Zone)(r:(List k_)×Int)(v:Value)(w':World):Prop:=Bw w0 w'/\un2 (λL G=>∃H I J S1,v = .tuple #[sl H I J,vI G]/\a_ w' S1 (sl H I J) L/\inI G/\S1.Nodup/\(∀k∈S1,w0.z<=k)) r
structure l_O (f:d_->Int->Bt->Int->Str->Option ((List k_)×Int)):Prop where
  run:∀{A0 A7:Option Addr}{N0 C0 N7 C7:Nat}{B:Zone}{x1:d_}{x2:Int}{x3:Bt}{x4:Int}{x5:Str}{res:(List k_)×Int}{w0:World}(hm:f x1 x2 x3 x4 x5=some res)(hBw:B<=w0.z)(p1_0:repS w0 B (sl A0 N0 C0) x1.rules)(p2_0:inI x2)(p3_0:repS w0 B (sl A7 N7 C7) x3)(p4_0:inI x4)(p5_0:x5.b.length<=LEN),i_ prog 48 [(.agg #[sl A0 N0 C0]),vI x2,sl A7 N7 C7,vI x4,Str.v x5] w0<|Q12 w0 B res
abbrev p_f (n:Nat):Prop:=l_O (e_T n).spec_l19Build
theorem T_w0c (bB:p_f n):l_O (h_W n<|e_T n):=by
 constructor
 intro A0 A7 N0 C0 N7 C7 B x1 x2 x3 x4 x5 res w0 hm V W aB ak Y bc;unfold h_W at hm
 refine goG func48 z z z λfn hr=>Ws<|E z (fb z) ?_
 rintro _ wi ⟨rfl,aG⟩;have hn:=aG.below;have ho:Blk wi w0.z [sl A0 N0 C0]:=aG.blk;refine Ra z<|Rw z<|Ws<|Rf z a_i z<|R z (l0 a_n z<|ho.at z)<|Rm z ?_
 obtain ⟨xj,bC,be⟩:=bdS hm;refine RX z (at_ (α:=b_) V_ m_ z z z (W.e hn) bC) ?_;rintro _ ⟨_,_,_,rfl,bD,bE,_⟩;obtain ⟨az,a1,a2,a3,a4,a5,a6,a7,a8,aa,ab,ad,rfl,aH,aI,aJ,aK,aL,aM,ao⟩:=a_F bE;refine R z (lN (vs:=vR xj az a1 a2 a3 a4 a5 a6 a7 a8 aa ab ad) H_ m_ z z fid bD)<|E z (fa b_S) ?_
 rintro _ bF ⟨rfl,aN⟩;have hg:=aN.below;have ap:Blk bF wi.z [(Str.v (⟨[]⟩:Str)),vI 0,vI 0,vB false,sN,sN,sN,sN]:=aN.blk;refine E0 (fs0 (cur':=vR xj az a1 a2 a3 a4 a5 a6 a7 a8 aa ab ad) m_ z z ap z z z z) ?_;rintro _ _ ⟨bG,bH⟩;have hd:=bH.one;refine Wn<|Ws ?_
 have aq:=(ho.e hg).c hd<|djs<|mmr ho.lt
 refine R z (lN (vs:=[sl A0 N0 C0]) w_ v_ z z fid<|aq.row 0 1 z)<|RM z z<|Rm z ?_
 have ar:∀k∈[wi.z],¬B k:=or0 (f_ lr)<|p_<|zt' V hn.s;have ae:=((hn.ag B).e hg).c hd<|e_ ar
 have af:=lt_ (lt_ hn.s hg.s) hd.s;obtain ⟨bI,rh,_,bJ,bf⟩:=N_ be;refine E z (fc call55 z<|i_j.run bJ (zt' V af) (W.g ae) aB (ak.g ae) Y) ?_;rintro _ wk ⟨s6,bK,bL,bN,_,bO,bQ,bR,_,rfl,bS,_,L,aO,_,_,_⟩;refine Rm z ?_
 iterate 3 refine Re z z z ?_
 refine E z (fa a_f) ?_;rintro _ bT ⟨rfl,aP⟩;have h2:=aP.below;have au:Blk bT wk.z [vI 0,sN,sN]:=aP.blk;refine E0 (fs0 (cur':=[vI bI.number,sl bK bL bN,sl bO bQ bR]) h_ z z au z z z z) ?_;rintro _ G ⟨aQ,bU⟩;have H:=bU.one;refine Ra z<|Rw z<|Wm z<|RM z z<|Rm z<|R z (bP (parts:=[(0,.tmp 38),(1,.tmp 39),(2,.tmp 40),(3,.tmp 41)]) (cs:=[Str.v x5,vI x2,vI x4,vI rh]) g_x z z)<|E z (fS [(.tmp 42)] c_K z z z (b_l z) (lb z)<|lb z) ?_
 rintro _ wr ⟨rfl,av⟩;have h5:=av.below;have cF:Blk wr G.z [Str.v x5,vI x2,vI x4,vI rh]:=av.blk;refine Rw z<|Wm z<|Rw z<|Wq<|Ws<|Rf z a_o z ?_
 have aR:=lt_ hd.s s6.s;have aw:=(((bG.e s6).e h2).c H<|djs<|mm1 ap.lt aR).e h5;refine R z (l0 g_3 z<|aw.at z)<|Wn<|Wb<|Wq<|Ws<|Rq z z z<|Rw z ?_
 obtain ⟨bV,aC,bg⟩:=bdS bf;refine Wt (λa w=>∃(ax:Bool),ax=bV/\Sat 98 [(2,sl A7 N7 C7),(3,vI x4),(4,Str.v x5),(5,pt w0.z),(12,pt wi.z),(13,pt wk.z),(14,vI rh),(16,sl (some ⟨G.z,0,none⟩) 1 1),(17,vI x4),(46,vI xj.kind),(47,vB ax)] a/\Below wr.z wr w) ?_ ?_
 .refine Wc z (λal=>?_)<|λal=>?_
  .exact a_5<|λ_ q=>⟨xj.kind==5,som<|ifT aC al,q.k<|sc z<|sc z<|sc z<|sc z<|sc z<|sc z<|sc z<|sc z<|sc z<|sc z<|sc z sn,br wr⟩
  exact Wg<|Rq z z z<|Ra z<|Wl (λ_ q=>⟨xj.kind==7,som<|ifF aC al,q.k<|sc z<|sc z<|sc z<|sc z<|sc z<|sc z<|sc z<|sc z<|sc z<|sc z<|sc z sn,br wr⟩)
 rintro bW wm ⟨ax,rfl,_,s3⟩;revert bW;refine Wo ?_;obtain ⟨bX,aD,bh⟩:=bdS bg;refine Wt (λa w=>∃(ah:Int),ah=bX/\Sat 98 [(2,sl A7 N7 C7),(4,Str.v x5),(5,pt w0.z),(12,pt wi.z),(13,pt wk.z),(14,vI rh),(16,sl (some ⟨G.z,0,none⟩) 1 1),(17,vI ah)] a/\Below wm.z wm w/\inI ah) ?_ ?_
 .refine Wc z (λam=>?_)<|λam=>?_
  .refine Wq (Wd (X:=noX) 0 (pl_ 15 [7]) mo (by kernel_rfl) λcG sp _=>dR z z (lN (vs:=[sl A0 N0 C0]) w_ v_ z z fid<|((((((aq.e s6).e h2).c H<|djs<|mm1 ho.lt<|lt_ (lt_ hg.s hd.s) s6.s).e h5).e s3).e sp).row 0 1 z)<|dR z z (fd P_ z)<|dR z z (l0 E_ z<|((aw.e s3).e sp).at z) ?_);obtain ⟨_,bY,bi⟩:=bdS<|ifT aD am;have aS:=lt_ af s6.s;have aT:∀k∈[wk.z],¬B k:=or0 (f_ lr)<|p_<|zt' V aS;refine dRX z z (at_ (α:=Int) x_ z_3 z z z (ao.g<|(((((((hg.ag B).c hd<|e_ ar).e s6).e h2).c H<|e_ aT).e h5).e s3).e sp) bY) ?_;rintro _ ⟨_,_,_,rfl,bZ,c0,_⟩;obtain ⟨rfl,c1⟩:=T_ c0;refine dR z z (l0 g_3 z<|bZ.at0 z)<|dM z z z<|dM z z z ?_
   have aU:=(((((ae.e s6).e h2).c H<|e_ aT).e h5).e s3).e sp;obtain ⟨_,c2,_,c3,bj⟩:=N_ bi;refine dE z z (fc call92 z<|i_i c3 (zt' V<|lt_ (lt_ (lt_ (lt_ (lt_ aS h2.s) H.s) h5.s) s3.s) sp.s) (W.g aU) c1 (ak.g aU) Y) (.inr λ_ _ h=>C_<|h.1) ?_;rintro _ _ ⟨c4,rfl,_,c5⟩;refine dM z z z ?_
   iterate 3 refine dR z z (ext_ z z) ?_
   iterate 3 refine dQ z z z ?_
   exact pD<|Wo<|Wg<|Rm z<|Ra z<|Wl (λ_ q=>⟨c2,som bj,q.k<|s8 z z z z z z z z,bup sp c4,c5⟩)
  refine Ws<|Rq z z z<|Rw z ?_
  obtain ⟨c6,aE,bk⟩:=bdS<|ifF aD am;refine Wt (λa w=>∃(xt:Int),xt=c6/\Sat 98 [(2,sl A7 N7 C7),(4,Str.v x5),(5,pt w0.z),(12,pt wi.z),(13,pt wk.z),(14,vI rh),(16,sl (some ⟨G.z,0,none⟩) 1 1),(17,vI xt)] a/\Below wm.z wm w/\inI xt) ?_ ?_
  .refine Wc z (λan=>?_)<|λan=>?_
   .exact Wg<|Rm z<|R z (add_ z z)<|Ra z<|Wl (λ_ q=>⟨g_ x4 1,som<|ifT aE an,q.k<|s8 z z z z z z z z,br wm,iA _ _⟩)
   exact a_5<|λ_ q=>⟨x4,som<|ifF aE an,q.k<|s8 z z z z z z z z,br wm,Y⟩
  rintro c7 _ ⟨xt,rfl,_,c8,c9⟩;revert c7;exact λ_ q=>⟨xt,som bk,q.k<|s8 z z z z z z z z,c8,c9⟩
 rintro ca I ⟨ah,rfl,_,sa,cb⟩;revert ca;refine Wo<|Wq<|Ws<|Rw z ?_
 obtain ⟨_,bm,aF⟩:=bdS bh;refine Wf (σ:=(List k_)×Int) (ρ:=(List k_)×Int) (λ(aV:Nat) s a w=>un2 (λxq xl=>∃O nb cc J,Sat 98 [(2,sl A7 N7 C7),(4,Str.v x5),(5,pt w0.z),(12,pt wi.z),(13,pt wk.z),(14,vI rh),(16,sl O nb cc),(17,vI xl),(21,vI ((aV:Nat):Int))] a/\Cg [G.z] I w/\a_ w J (sl O nb cc) xq/\J.Nodup/\(∀k∈J,k∈[G.z]∨I.z<=k)/\inI xl) s) (λs a w=>un2 (λxq xl=>∃O nb cc J,Sat 98 [(14,vI rh),(16,sl O nb cc)] a/\Cg [G.z] I w/\a_ w J (sl O nb cc) xq/\J.Nodup/\(∀k∈J,k∈[G.z]∨I.z<=k)/\inI xl) s) (rQ prog fn<|Q12 w0 B) bm ?_ ?_ ?_ ?_ ?_
 .exact λ_ q=>⟨some ⟨G.z,0,none⟩,1,1,[G.z],q.k<|s9 z z z z z z z z z,cr [G.z] I,((b_U av<|e_k (x:=(⟨x5,x2,x4,rh⟩:k_)) bc aB Y aO).e s3).e sa,a_I,io sr,cb⟩
 .rintro aV ⟨xq,xl⟩ _ cd _ a0 ⟨O,nb,cc,J,bn,se,hu,hv,hw,ai⟩ bo;refine Wu ?_ bn;refine Wq<|Wm z<|Rf z a_y z ?_
  have aW:=(((aQ.e h5).e s3).e sa).c se<|djs<|mm1 au.lt H.s
  refine R z (l0 a_E z<|aW.at z)<|R z (lnR a_N z<|or_ ((((((L.e h2).c H<|ds<|mnr<|a_.lt L).e h5).e s3).e sa).c se<|ds<|mno (a_.lt L)<|lt_ h2.s H.s)<|a_.lt L)<|Rl z z z<|Wx z (λ_=>?_) (λhc=>(Q_ a0 hc).elim)
  refine Wk<|Wq<|Wb<|Wq (Wd (X:=noX) 0 (.rd 0<|.rd 1<|.rd 2<|.rd 3<|.rd 4<|.rd 6<|.rd 7<|.rd 8<|.rd 9<|.rd 10<|.rd 11<|.ef 5<|.ef 12<|.rd 13<|.ef 14<|.rd 15<|.rd 16<|.rd 17<|.rd 18<|.rd 19 .done) mo (by kernel_rfl) λce sf _=>?_)
  have aX:=lt_ (lt_ hg.s hd.s) s6.s;refine dR z z (lN (vs:=[sl A0 N0 C0]) w_ v_ z z fid<|((((((((aq.e s6).e h2).c H<|djs<|mm1 ho.lt aX).e h5).e s3).e sa).c se<|djs<|mm1 ho.lt<|lt_ (lt_ aX h2.s) H.s).e sf).row 0 1 z) ?_;have aY:=(((aw.e s3).e sa).c se<|djs<|mm1 ap.lt<|lt_ (lt_ aR h2.s) H.s).e sf;refine dR z z (lN (vs:=vR xj az a1 a2 a3 a4 a5 a6 a7 a8 aa ab ad) H_ m_ z z fid<|aY.row 0 8 z)<|dR z z (fd b_u z)<|dR z z (l0 g_3 z<|(aW.e sf).at z) ?_
  iterate 4 refine dM z z z ?_
  obtain ⟨_,cf,bp⟩:=bdS<|a_P bo;refine dR z z (a_q z z cf)<|dR z z (lN (vs:=vR xj az a1 a2 a3 a4 a5 a6 a7 a8 aa ab ad) H_ m_ z z fid<|aY.row 0 8 z)<|dM z z z ?_
  have aZ:=lt_ af s6.s;have b0:∀k∈[wk.z],¬B k:=or0 (f_ lr)<|p_<|zt' V aZ;have b1:=lt_ (lt_ aZ h2.s) H.s;have b2:∀k∈[G.z],¬B k:=or0 (f_ lr)<|p_<|zt' V b1;have hx:=(((((((((hg.ag B).c hd<|e_ ar).e s6).e h2).c H<|e_ b0).e h5).e s3).e sa).c se<|e_ b2).e sf;have b3:=lt_ (lt_ (lt_ (lt_ (lt_ b1 h5.s) s3.s) sa.s) se.s) sf.s;obtain ⟨_,cg,bq⟩:=bdS bp;refine dE z z (fc call93 z<|e_g cg (zt' V b3) aH aI aJ (aK.g hx) (aL.g hx) (aM.g hx) (ao.g hx) bS<|ic (Nat.le_of_lt a0)<|lt_ (a_.len L) B_) (.inr λ_ _ h=>C_<|h.1) ?_;rintro _ ch ⟨ss,rfl,ci⟩;have aj:=hx.e ss;have b4:=lt_ b3 ss.s;obtain ⟨_,cj,bs⟩:=bdS bq;refine dE z z (fc call94 z<|W_w1b cj (zt' V b4) aH aI aJ (aK.g aj) (aL.g aj) (aM.g aj) (ao.g aj)<|ic (Nat.le_of_lt a0)<|lt_ (a_.len L) B_) (.inr λ_ _ h=>C_<|h.1) ?_;rintro _ ck ⟨sy,rfl,_⟩;obtain ⟨_,b5,bt⟩:=bdS bs;refine dR z z (a_q z z b5) ?_;have b6:=(((((((((ae.e s6).e h2).c H<|e_ b0).e h5).e s3).e sa).c se<|e_ b2).e sf).e ss).e sy;obtain ⟨_,cl,cm,bu⟩:=a_8 bt;refine dE z z (fc call48 z<|bB.run cm (zt' V<|lt_ b4 sy.s) (W.g b6) ci (ak.g b6) ai<|b_2 b5) (.inr λ_ _ h=>C_<|h.1) ?_;rintro _ cn ⟨ay,_,_,_,_,rfl,co,cp,_,_⟩;refine dM z z z<|dR z z (ext_ z z)<|dR z z (ext_ z z)<|dQ z z z<|dQ z z z<|pD<|Wo<|Wm z<|Rm z ?_
  obtain ⟨cq,ct,bv⟩:=bdS bu;refine E z (fN (α:=k_) c_K ct z z ((((hu.e sf).e ss).e sy).e ay) hv<|a_.rep co) ?_;rintro _ cu ⟨b7,cv,cw,cx,rfl,cy,cz,cA,cB⟩;refine Rw z<|Wg<|Rm z<|Rw z<|Wg<|Rm z<|R z (inc_ a0 (lt_ (a_.len L) B_) z z)<|Ra z<|Wl ?_
  have b8:∀k∈J,k∈[G.z]∨I.z<=k:=or1 hw (io sr)<|l_ lr;exact λ_ q=>⟨(cq,cl),(som bv).symm,⟨cv,cw,cx,b7,q.k<|s9 z z z z z z z z z,(cM (j_ (j_ (j_ (j_ (cM (cr [G.z] I) se (io sr):Cg [G.z] I cd) sf:Cg [G.z] I ce) ss:Cg [G.z] I ch) sy:Cg [G.z] I ck) ay:Cg [G.z] I cn) cy b8:Cg [G.z] I cu),cz,cA,(or1 cB b8 (l_<|lt_ (lt_ (lt_ (lt_ se.s sf.s) ss.s) sy.s) ay.s):∀k∈b7,k∈[G.z]∨I.z<=k),cp⟩⟩
 .rintro ⟨xq,xl⟩ _ cC ⟨O,nb,cc,J,bw,aA,hu,hv,hw,ai⟩;refine Wu ?_ bw;refine Wq<|Wm z<|Rf z a_y z<|R z (l0 a_E z<|((((aQ.e h5).e s3).e sa).c aA<|djs<|mm1 au.lt H.s).at z)<|R z (lnR a_N z<|or_ ((((((L.e h2).c H<|ds<|mnr<|a_.lt L).e h5).e s3).e sa).c aA<|ds<|mno (a_.lt L)<|lt_ h2.s H.s)<|a_.lt L)<|Rl z z z<|Wx z (λhc=>(R_ hc).elim) (λ_=>?_)
  exact We<|λ_ q=>⟨rfl,⟨O,nb,cc,J,q.k<|s2 z z,(cM (cr [G.z] I) aA (io sr):Cg [G.z] I cC),hu,hv,(or1 hw (io sr) (l_ lr):∀k∈J,k∈[G.z]∨I.z<=k),ai⟩⟩
 .rintro ⟨xq,xl⟩ cD _ rfl ⟨O,nb,cc,J,_,cE,hu,hv,hw,ai⟩;have bx:=elL aF;revert cD;refine Wo<|Wm z<|Rm z<|Ra z<|Rw z ?_
  obtain rfl:=som<|a_P bx;have b9:=lt_ af s6.s;have ba:=lt_ (lt_ b9 h2.s) H.s;have bb:=m1 ba;exact Wr<|a_9 hr z z ⟨bM (bup (bup (bup (bM (bup (bup (bM (bup hn hg) hd<|m1 hn.s) s6) h2) H<|m1 b9) h5) s3) sa) cE bb,O,nb,cc,J,z,hu,aO,hv,c_6 hw bb<|lt_ (lt_ (lt_ ba h5.s) s3.s) sa.s⟩
 rintro _ _ _ _ rfl ⟨rfl,bz⟩;have bA:=elR aF;obtain rfl:=som bA;exact ⟨bz,z⟩
theorem A_w0c:∀n,p_f n
  | 0=>⟨λhm=>by intros;exact nomatch (show none=some _ from hm)⟩
  | n+1=>T_w0c<|A_w0c n
theorem W_w0c:l_O (e_T n).spec_l19Build:=A_w0c n
def Q13 (w0:World)(B:Zone)(r:(List k_)×Bool)(v:Value)(w':World):Prop:=Bw w0 w'/\un2 (λJ L=>∃G H I S1,v = .tuple #[sl G H I,vB L]/\a_ w' S1 (sl G H I) J/\S1.Nodup/\(∀k∈S1,w0.z<=k)) r
theorem W_w2s {x1:d_}{x2:Bt}{res:(List k_)×Bool}(hm:h_X n x1 x2=some res)(I:B<=w0.z)(H:repS w0 B (sl A0 N0 C0) x1.rules)(L:repS w0 B (sl A5 N5 C5) x2):i_ prog 27 [(.agg #[sl A0 N0 C0]),sl A5 N5 C5] w0 (Q13 w0 B res):=by
 unfold h_X at hm
 refine goG func27 z z z λfn hr=>Ws<|E z (fb z) ?_
 rintro _ wd ⟨rfl,h5⟩;have G:=h5.below;have h6:Blk wd w0.z [sl A0 N0 C0]:=h5.blk;refine Ra z<|Rw z<|Wq<|Ws<|R z (lN (vs:=[sl A0 N0 C0]) w_ v_ z z fid<|h6.row 0 1 z)<|Rm z ?_
 obtain ⟨_,ee,O⟩:=bdS hm;refine E z (fc call47 z<|W_w2r ee (zt' I G.s) (H.e G)<|L.e G) ?_;rintro _ wf ⟨s1,rfl⟩;refine R z (not_ z)<|Wx z (λJ=>?_) (λJ=>?_)
 .refine Ws<|E z (f0 (α:=k_) c_K) ?_
  rintro _ _ ⟨ah,ng,ci,rfl,sj,hk⟩;refine Ra z<|Rw z ?_
  obtain rfl:=som<|ifT O J;exact Wr<|a_9 hr z z ⟨bup (bup G s1) sj,ah,ng,ci,[wf.z],z,hk,a_I,m1<|lt_ G.s s1.s⟩
 refine Wk<|Wq (Wd (X:=noX) 0 (.rd 0<|.rd 1<|.rd 3<|.ef 2<|.ef 4<|.rd 5<|.rd 6<|.rd 7<|.rd 8<|.rd 9 .done) mo (by kernel_rfl) λY s2 _=>?_)
 have V:=(h6.e s1).e s2;refine dR z z (lN (vs:=[sl A0 N0 C0]) w_ v_ z z fid<|V.row 0 1 z)<|dR z z (lN (vs:=[sl A0 N0 C0]) w_ v_ z z fid<|V.row 0 1 z)<|dM z z z ?_
 have W:=((G.ag B).e s1).e s2;have ha:=lt_ (lt_ G.s s1.s) s2.s;obtain ⟨_,el,hmm⟩:=bdS<|ifF O J;refine dE z z (fc call49 z<|k_9 el (zt' I ha)<|H.g W) (.inr λ_ _ h=>C_<|h.1) ?_;rintro _ _ ⟨s4,rfl,hn⟩;have hb:=W.e s4;have hc:=lt_ ha s4.s;obtain ⟨_,_,eo,hmp⟩:=a_8 hmm;refine dE z z (fc call48 z<|W_w0c.run eo (zt' I hc) (H.g hb) hn (L.g hb) (ii z)<|lb z) (.inr λ_ _ h=>C_<|h.1) ?_;rintro _ _ ⟨sq,ar,ns,ct,Su,rfl,hv,_,hw,hx⟩;refine dM z z z<|dR z z (ext_ z z)<|dR z z (ext_ z z)<|dQ z z z<|dQ z z z<|pD<|Wo<|Wm z<|Ra z<|Rw z ?_
 obtain rfl:=som hmp;exact Wr<|a_9 hr z z ⟨bup (bup (bup (bup G s1) s2) s4) sq,ar,ns,ct,Su,z,hv,hw,n_ hx hc⟩
theorem W_w1c {x1:Str}{x2:UInt8}{res:(List Str)}(hm:g_d n x1 x2=some res)(aM:B<=w0.z)(Y:x1.b.length<=LEN):i_ prog 95 [Str.v x1,vU<|byteI x2] w0 (Q2 w0 B res):=by
 unfold g_d at hm
 refine goG func95 z z z λfn hr=>Ws<|Rw z<|Ws<|E z (f0 (α:=Str) a_w) ?_
 rintro _ H ⟨ah,aj,ak,rfl,ss,al⟩;refine Rw z<|Ws<|Rw z<|Wq<|Ws<|Rw z ?_
 obtain ⟨_,a4,hmr⟩:=bdS hm;refine c_k (σ:=(List Str)×Int×Int) (ρ:=List Str) (λs a w=>un3 (λW V x3=>∃a2 J L G,Sat 36 [(0,Str.v x1),(1,vU<|byteI x2),(5,sl a2 J L),(6,vI V),(7,vI x3)] a/\Cg [w0.z] H w/\a_ w G (sl a2 J L) W/\G.Nodup/\(∀k∈G,k∈[w0.z]∨H.z<=k)/\inI V/\inI x3) s) (λs a w=>un3 (λW V x3=>∃a2 J L G,Sat 36 [(5,sl a2 J L)] a/\Cg [w0.z] H w/\a_ w G (sl a2 J L) W/\G.Nodup/\(∀k∈G,k∈[w0.z]∨H.z<=k)/\inI V/\inI x3) s) (rQ prog fn<|Q2 w0 B) a4 ?_ ?_ ?_ ?_
 .exact λ_ q=>⟨ah,aj,ak,[w0.z],q.k<|s5 z z z z z,cr [w0.z] H,al,a_I,io sr,ii z,ii z⟩
 .rintro ⟨W,V,x3⟩ _ wa _ ⟨a2,J,L,G,a5,sm,hc,hd,hf,hl,hv⟩ a6;have hmw:=b_V a6;refine Wu ?_ a5;refine Wq<|Wm z<|Rm z<|R z (lnT d_9 z)<|R z (b_N z z)<|Wx z (λhcn=>?_) (λhcn=>?_)
  .refine Wk<|Wq<|Wb<|Wq ?_
   obtain ⟨am,hux,a7⟩:=bdS<|ifT hmw hcn;refine Wt (λa w=>∃(xo:Bool),xo=am/\Sat 36 [(0,Str.v x1),(1,vU<|byteI x2),(5,sl a2 J L),(6,vI V),(7,vI x3),(25,vB xo)] a/\Below wa.z wa w) ?_ ?_
   .refine Wg<|RM z z<|R z (lnT d_9 z)<|Rq z z z<|Rm z ?_
    rcases bs (x3==(x1.b.length:Int)) with I | I
    .iterate 5 refine Nh z I ?_
     exact R z (pT z I z)<|Wl (λ_ q=>⟨true,som<|ifT hux I,q.k<|s6 z z z z z z,br wa⟩)
    refine Rh z I (mv z)<|Rh z I (mv z) ?_
    obtain ⟨an,ey,a8⟩:=bdS<|ifF hux I;exact Rh z I (c_0 d_9 z z (a_p ey).1 (a_p ey).2.1)<|Rh z I (mv z)<|Rh z I (eql z z)<|R z (pF z I z)<|Wl (λ_ q=>⟨(byteI an)==(byteI x2),som a8,q.k<|s6 z z z z z z,br wa⟩)
   rintro ao O ⟨xo,rfl,_,sg⟩;revert ao;refine Wo ?_;obtain ⟨ap,huz,a9⟩:=bdS a7;refine Wt (λa w=>∃(xh:List Str)(xe:Int),(xh,xe)=ap/\∃ai nj ck Sb,Sat 36 [(0,Str.v x1),(1,vU<|byteI x2),(5,sl ai nj ck),(6,vI xe),(7,vI x3)] a/\Cg G O w/\a_ w Sb (sl ai nj ck) xh/\Sb.Nodup/\(∀k∈Sb,k∈G∨O.z<=k)/\inI xe) ?_ ?_
   .refine Wc z (λhcp=>?_)<|λhcp=>?_
    .refine Wm z<|RM z z<|Rm z ?_
     obtain ⟨aq,eq,aa⟩:=bdS<|ifT huz hcp;refine R z (g_N d_9 z z z Y eq)<|E z (fS [(.tmp 30)] a_w z z z (b_l z) (lb z)<|lb z) ?_
     rintro _ a0 ⟨rfl,ht⟩;have hu:=ht.below;have aN:=b_U ht<|b_k<|f_H eq Y
     obtain ⟨ar,au,ab⟩:=bdS aa;refine E z (b_W (α:=Str) a_w au z z ((hc.e sg).e hu) hd (ht.blk:Blk a0 O.z [Str.v aq]) (b_k<|f_H eq Y) an_ U_) ?_;rintro _ av ⟨a1,aw,ax,ay,rfl,az,aA,aB,aC⟩;refine Rw z<|Wg<|Rm z<|R z (add_ z z)<|Ra z<|Wl ?_
     exact λ_ q=>⟨ar,g_ x3 1,som ab,aw,ax,ay,a1,q.k<|s5 z z z z z,(cM (j_ (cr G O) hu:Cg G O a0) az (io sr):Cg G O av),aA,aB,(or2 aC (io sr) an_ (l_ hu.s):∀k∈a1,k∈G∨O.z<=k),iA _ _⟩
    exact a_5<|λ_ q=>⟨W,V,som<|ifF huz hcp,a2,J,L,G,q.k<|s5 z z z z z,cr G O,hc.e sg,hd,io sr,hl⟩
   rintro aD aE ⟨xh,xe,rfl,ai,nj,ck,Sb,_,aF,aG,aH,aI,aJ⟩;revert aD;refine Wo<|Wg<|Rm z<|R z (add_ z z)<|Ra z<|Wl ?_
   have a3:∀k∈G,k∈[w0.z]∨H.z<=k:=or1 hf (io sr)<|l_ lr;exact λ_ q=>⟨(xh,xe,g_ x3 1),(som<|a_P a9).symm,⟨ai,nj,ck,Sb,q.k<|s5 z z z z z,(cM (j_ (cM (cr [w0.z] H) sm (io sr):Cg [w0.z] H wa) sg:Cg [w0.z] H O) aF a3:Cg [w0.z] H aE),aG,aH,(or1 aI a3 (l_<|lt_ sm.s sg.s):∀k∈Sb,k∈[w0.z]∨H.z<=k),aJ,iA _ _⟩⟩
  exact We<|λ_ q=>b_M (som<|ifF hmw hcn).symm ⟨a2,J,L,G,q.k<|s1 z,(cM (cr [w0.z] H) sm (io sr):Cg [w0.z] H wa),hc,hd,(or1 hf (io sr) (l_ lr):∀k∈G,k∈[w0.z]∨H.z<=k),hl,hv⟩
 .rintro ⟨W,V,x3⟩ aK _ rfl ⟨a2,J,L,G,_,aL,hc,hd,hf,hl,hv⟩;have ad:=elL hmr;revert aK;refine Wo<|Wm z<|Rw z ?_
  obtain rfl:=som<|b_V ad;exact Wr<|c_ hr z ⟨bM ss aL<|f_ lr,a2,J,L,G,z,hc,hd,(or1 hf (f_ lr) (c_i ss.s):∀k∈G,w0.z<=k)⟩
 rintro _ _ _ _ rfl ⟨rfl,ae⟩;have af:=elR hmr;obtain rfl:=som af;exact ⟨ae,z⟩
def Q14 (w0:World)(B:Zone)(r:Int×Bool)(v:Value)(w':World):Prop:=Bw w0 w'/\un2 (λG H=>v = .tuple #[vI G,vB H]/\inI G) r
theorem W_w1d {x1:Str}{res:Int×Bool}(hm:g_e n x1=some res)(I:B<=w0.z)(V:x1.b.length<=LEN):i_ prog 97 [Str.v x1] w0 (Q14 w0 B res):=by
 unfold g_e at hm
 refine goG func97 z z z λfn hr=>Ws<|Ra z<|Rw z<|Wq<|Wm z<|R z (lnT d_9 z) ?_
 obtain ⟨_,en,hmc⟩:=bdS hm;refine E z (fc call99 z<|b_K (B:=B) en I (b_T V) (ii z)<|ii z) ?_;rintro _ H ⟨s4,rfl⟩;refine R z (not_ z)<|Wx z (λJ=>?_) (λJ=>?_)
 .refine Ws<|Ra z<|Rw z ?_
  obtain rfl:=som<|ifT hmc J;exact Wr<|a_9 hr z z ⟨s4,z,ii z⟩
 refine Wk<|Ws<|Rw z<|Wq<|Ws<|Rw z ?_
 obtain ⟨_,huo,hmd⟩:=bdS<|ifF hmc J;refine Wf (σ:=Int) (ρ:=Int×Bool) (λ(ke:Nat)(x0:Int) a w=>Sat 39 [(0,Str.v x1),(4,vI x0),(5,vI ((ke:Nat):Int))] a/\Below H.z H w/\inI x0) (λ(x0:Int) a w=>Sat 39 [(0,Str.v x1),(4,vI x0)] a/\Below H.z H w/\inI x0) (rQ prog fn<|Q14 w0 B) huo ?_ ?_ ?_ ?_ ?_
 .exact λ_ q=>⟨q.k<|s3 z z z,br H,ii z⟩
 .rintro ke x0 _ _ _ hkf ⟨hSp,s6,h3⟩ hmq;refine Wu ?_ hSp;refine Wq<|Wm z<|Rm z<|R z (lnT d_9 z)<|Rl z z z<|Wx z (λ_=>?_) (λhc=>(Q_ hkf hc).elim)
  refine Wk<|Wq<|Wb<|Wq<|Wm z<|Rm z ?_
  obtain ⟨_,eg,hmr⟩:=bdS hmq;refine R z (c_0 d_9 z z (a_p eg).1 (a_p eg).2.1)<|R z (c_h d_5 d_3 z) ?_
  obtain ⟨_,es,hmh⟩:=bdS hmr;refine E z (fc call99 z<|b_K es (zt' I<|lt_ s4.s s6.s) (m_A _) (ii z)<|ii z) ?_;rintro _ _ ⟨si,rfl⟩;refine R z (not_ z)<|Wx z (λL=>?_) (λL=>?_)
  .exact Ws<|Ra z<|Rw z<|Wr<|rtO<|qL (som<|ifT hmh L).symm<|a_9 hr z z ⟨bup (bup s4 s6) si,z,ii z⟩
  refine Wk<|Wg<|Rm z<|R z (f_M z z)<|RM z z ?_
  obtain ⟨xt,ej,hmu⟩:=bdS<|ifF hmh L;exact R z (c_0 d_9 z z (a_p ej).1 (a_p ej).2.1)<|R z (m_B z z)<|R z (c_h d_5 d_3 z)<|R z (add_ z z)<|Rw z<|Wg<|Rm z<|R z (inc_ hkf (lt_ V B_) z z)<|Ra z<|Wl (λ_ q=>⟨g_ (b_r 10 x0)<|byteI<|mkB (byteI xt - byteI (48:UInt8)),(som hmu).symm,⟨q.k<|s3 z z z,bup s6 si,iA _ _⟩⟩)
 .rintro x0 _ _ ⟨hSv,sw,h3⟩;refine Wu ?_ hSv;refine Wq<|Wm z<|Rm z<|R z (lnT d_9 z)<|Rl z z z<|Wx z (λhc=>(R_ hc).elim) (λ_=>?_)
  exact We<|λ_ q=>⟨rfl,⟨q.k<|s2 z z,sw,h3⟩⟩
 .rintro x0 ax O rfl ⟨_,s9,h3⟩;have hmy:=elL hmd;revert ax;refine Wo<|Wq<|Wq ?_
  obtain ⟨uz,huk,hml⟩:=bdS hmy;refine Wt (λa w=>∃(xa:Bool),xa=uz/\Sat 39 [(4,vI x0),(37,vB xa)] a/\Below O.z O w) ?_ ?_
  .refine Wg<|Rm z<|R z (a_b z z)<|Rm z ?_
   rcases bs (decide<|1000000000000<x0) with G | G
   .iterate 4 refine Nh z G ?_
    exact R z (pT z G z)<|Wl (λ_ q=>⟨true,som<|ifT huk G,q.k<|s2 z z,br O⟩)
   refine Rh z G (mv z) ?_;obtain ⟨a1,a2,W⟩:=bdS<|ifF huk G;refine Eg z z G z (fc call111 z<|i_k a2 (zt' I<|lt_ s4.s s9.s) h3) ?_;rintro _ _ ⟨a3,rfl,_⟩;exact Rh z G (mv z)<|Rh z G (d_U z z)<|R z (pF z G z)<|Wl (λ_ q=>⟨a1.b != x1.b,som W,q.k<|s2 z z,a3⟩)
  rintro a4 _ ⟨xa,rfl,_,sm⟩;revert a4;refine Wo<|Wc z (λhcb=>?_) (λhcb=>?_)
  .refine Ws<|Ra z<|Rw z ?_
   obtain rfl:=som<|ifT hml hcb;exact Wr<|a_9 hr z z ⟨bup (bup s4 s9) sm,z,ii z⟩
  refine Wk<|Wm z<|Ra z<|Rw z ?_
  obtain rfl:=som<|ifF hml hcb;exact Wr<|a_9 hr z z ⟨bup (bup s4 s9) sm,z,h3⟩
 rintro _ _ _ _ rfl ⟨rfl,Y⟩;have a0:=elR hmd;obtain rfl:=som a0;exact ⟨Y,z⟩
theorem W_w1e {x1:Str}{res:Bool}(hm:e_6 n x1=some res)(L:B<=w0.z)(Y:x1.b.length<=LEN):i_ prog 96 [Str.v x1] w0 (Q7 w0 B res):=by
 unfold e_6 at hm
 refine goG func96 z z z λfn hr=>Ws<|Rw z<|Wq<|Wq ?_
 obtain ⟨ug,huh,hma⟩:=bdS hm;refine Wt (λa w=>∃(x6:Bool),x6=ug/\Sat 31 [(0,Str.v x1),(18,vB x6)] a/\Below w0.z w0 w) ?_ ?_
 .refine Wg<|Rm z ?_
  obtain ⟨ri,ej,hmb⟩:=bdS huh;refine E z (fc call133 z<|l_H (B:=B) ej L Y) ?_;rintro _ _ ⟨s4,rfl⟩;refine Rm z ?_
  rcases bs ri with H | H
  .exact Nh z H<|Nh z H<|R z (pT z H z)<|Rm z<|Nh z z<|Nh z z<|R z (pT z z z)<|Rm z<|Nh z z<|Nh z z<|R z (pT z z z)<|Wl (λ_ q=>⟨true,som<|ifT hmb H,q.k<|s2 z z,s4⟩)
  have hmc:=ifF hmb H;refine Rh z H (mv z)<|Rh z H (a_K z z)<|R z (pF z H z)<|Rm z ?_
  rcases bs (x1.b==(⟨[42]⟩:Str).b) with I | I
  .exact Nh z I<|Nh z I<|R z (pT z I z)<|Rm z<|Nh z z<|Nh z z<|R z (pT z z z)<|Wl (λ_ q=>⟨true,som<|ifT hmc I,q.k<|s2 z z,s4⟩)
  have hmd:=ifF hmc I;refine Rh z I (mv z)<|Rh z I (a_K z z)<|R z (pF z I z)<|Rm z ?_
  rcases bs (x1.b==(⟨[63]⟩:Str).b) with J | J
  .exact Nh z J<|Nh z J<|R z (pT z J z)<|Wl (λ_ q=>⟨true,som<|ifT hmd J,q.k<|s2 z z,s4⟩)
  exact Rh z J (mv z)<|Rh z J (a_K z z)<|R z (pF z J z)<|Wl (λ_ q=>⟨x1.b==(⟨[43]⟩:Str).b,som<|ifF hmd J,q.k<|s2 z z,s4⟩)
 rintro ak _ ⟨x6,rfl,_,s5⟩;revert ak;refine Wo<|Wc z (λO=>?_) (λO=>?_)
 .refine Ws<|Rw z ?_
  obtain rfl:=som<|ifT hma O;exact Wr<|c_ hr z ⟨s5,z⟩
 refine Wk<|Wm z ?_
 obtain ⟨_,rl,em,hmn⟩:=a_8<|ifF hma O;refine E z (fc call97 z<|W_w1d em (zt' L s5.s) Y) ?_;rintro _ V ⟨se,rfl,ho⟩;refine Rm z<|Re z z z<|Re z z z<|Ra z<|Rw z<|Wq ?_
 obtain ⟨up,huf,hmq⟩:=bdS hmn;refine Wt (λa w=>∃(W:Bool),W=up/\Sat 31 [(2,vB W)] a/\Below V.z V w) ?_ ?_
 .refine Wg<|RM z z ?_
  rcases bs rl with G | G
  .refine Rh z G (mv z) ?_;obtain ⟨rr,es,hmt⟩:=bdS<|ifT huf G;refine Eg z z G z (fc call111 z<|i_k es (zt' L<|lt_ s5.s se.s) ho) ?_;rintro _ _ ⟨su,rfl,_⟩;exact Rh z G (mv z)<|Rh z G (a_K z z)<|R z (pT z G z)<|Ra z<|Wl (λ_ q=>⟨rr.b==x1.b,som hmt,q.k<|s1 z,su⟩)
  iterate 4 refine Nh z G ?_
  exact R z (pF z G z)<|Ra z<|Wl (λ_ q=>⟨false,som<|ifF huf G,q.k<|s1 z,br V⟩)
 rintro av _ ⟨W,rfl,_,sw⟩;revert av;refine Wo ?_;obtain rfl:=som hmq;exact Wr<|c_ hr z ⟨bup (bup s5 se) sw,z⟩
def Q15 (w0:World)(B:Zone)(r:(List Str)×Bool)(v:Value)(w':World):Prop:=Bw w0 w'/\un2 (λJ L=>∃G H I,v = .tuple #[sl G H I,vB L]/\repS w' w'.z (sl G H I) J) r
theorem W_w2t {x1:Str}{res:(List Str)×Bool}(hm:i_1 n x1=some res)(W:B<=w0.z)(a4:x1.b.length<=LEN):i_ prog 50 [Str.v x1] w0 (Q15 w0 B res):=by
 unfold i_1 at hm
 refine goG func50 z z z λfn hr=>Ws<|Ra z<|Rw z<|Wq<|Wm z<|R z (a_K z z)<|Wx z (λhcb=>?_) (λhcb=>?_)
 .refine Ws<|E z (f0 (α:=Str) a_w) ?_
  rintro _ _ ⟨al,am,an,rfl,ao,ap⟩;refine Ra z<|Rw z ?_
  obtain rfl:=som<|ifT hm hcb;exact Wr<|a_9 hr z z ⟨ao,al,am,an,z,a_.rep ap⟩
 refine Wk<|Wm z ?_
 obtain ⟨aq,ar,a5⟩:=bdS<|ifF hm hcb;refine E z (fc call95 z<|W_w1c (B:=B) ar W a4) ?_;rintro _ J ⟨sc,ad,ne,cf,_,rfl,h2,_,_⟩;refine Rw z<|Wq<|Ws<|Rw z ?_
 obtain ⟨_,a6,hmp⟩:=bdS a5;refine c_k (σ:=Int) (ρ:=(List Str)×Bool) (λ(x4:Int) a w=>Sat 49 [(4,sl ad ne cf),(5,vI x4)] a/\Below J.z J w/\inI x4) (λ(x4:Int) a w=>Sat 49 [(4,sl ad ne cf)] a/\Below J.z J w/\inI x4) (rQ prog fn<|Q15 w0 B) a6 ?_ ?_ ?_ ?_
 .exact λ_ q=>⟨q.k<|s2 z z,br J,ii z⟩
 .rintro x4 _ wq _ ⟨a7,s6,ht⟩ hmr;refine Wu ?_ a7;refine Wq<|Wm z<|Rm z ?_
  have hg:=h2.e s6;refine R z (lnR D_ z<|or_ hg<|a_.lt h2)<|Rl z z z<|Wx z (λhch=>?_) (λhch=>?_)
  .refine Wk<|Wq<|Wb<|Wq ?_
   obtain ⟨au,a9,hms⟩:=bdS<|ifT hmr hch;refine Wt (λa w=>∃(xi:Bool),xi=au/\Sat 49 [(4,sl ad ne cf),(5,vI x4),(36,vB xi)] a/\Below wq.z wq w) ?_ ?_
   .refine Wg<|RM z z ?_
    obtain ⟨_,av,aa⟩:=bdS a9;refine RX z (at_ (α:=Str) D_ z_9 z z z (or_ hg<|a_.lt h2) av) ?_;rintro _ ⟨_,_,_,rfl,aw,ax,_⟩;obtain ⟨rfl,ay⟩:=a_h ax;refine R z (l0 g_9 z<|aw.at0 z) ?_;obtain ⟨az,aA,hmu⟩:=bdS aa;refine E z (fc call96 z<|W_w1e aA (zt' W<|lt_ sc.s s6.s) ay) ?_;rintro _ _ ⟨s7,rfl⟩;refine R z (not_ z)<|Rm z ?_
    rcases bs (!az) with G | G
    .refine Rh z G (mv z)<|Rh z G (mv z) ?_
     obtain ⟨aB,aC,hmv⟩:=bdS<|ifT hmu G;have hw:=hg.e s7;refine RXg z z G z (at_ (α:=Str) D_ z_9 z z z (or_ hw<|a_.lt h2) aC) ?_;rintro _ ⟨_,_,_,rfl,aD,aE,_⟩;obtain ⟨rfl,_⟩:=a_h aE;refine Rh z G (l0 g_9 z<|aD.at0 z)<|Rh z G (d_U z z)<|R z (pT z G z)<|Rm z ?_
     rcases bs (aB.b != (⟨[35]⟩:Str).b) with H | H
     .refine Rh z H (mv z)<|Rh z H (mv z) ?_
      obtain ⟨aF,aG,ab⟩:=bdS<|ifT hmv H;refine RXg z z H z (at_ (α:=Str) D_ z_9 z z z (or_ hw<|a_.lt h2) aG) ?_;rintro _ ⟨_,_,_,rfl,aH,aI,_⟩;obtain ⟨rfl,_⟩:=a_h aI;exact Rh z H (l0 g_9 z<|aH.at0 z)<|Rh z H (d_U z z)<|R z (pT z H z)<|Wl (λ_ q=>⟨aF.b != (⟨[46,46]⟩:Str).b,som ab,q.k<|s3 z z z,s7⟩)
     iterate 5 refine Nh z H ?_
     exact R z (pF z H z)<|Wl (λ_ q=>⟨false,som<|ifF hmv H,q.k<|s3 z z z,s7⟩)
    iterate 5 refine Nh z G ?_
    exact R z (pF z G z)<|Rm z<|Nh z z<|Nh z z<|Nh z z<|Nh z z<|Nh z z<|R z (pF z z z)<|Wl (λ_ q=>⟨false,som<|ifF hmu G,q.k<|s3 z z z,s7⟩)
   rintro aJ _ ⟨xi,rfl,_,sx⟩;revert aJ;refine Wo<|Wc z (λhcj=>?_) (λhcj=>?_)
   .refine Ws<|E z (f0 (α:=Str) a_w) ?_
    rintro _ _ ⟨aK,aL,aM,rfl,aN,aO⟩;exact Ra z<|Rw z<|Wr<|rtO<|qL (som<|ifT hms hcj).symm<|a_9 hr z z ⟨bup (bup (bup sc s6) sx) aN,aK,aL,aM,z,a_.rep aO⟩
   exact Wk<|Wg<|Rm z<|R z (add_ z z)<|Ra z<|Wl (λ_ q=>⟨g_ x4 1,(som<|ifF hms hcj).symm,⟨q.k<|s2 z z,bup s6 sx,iA _ _⟩⟩)
  exact We<|λ_ q=>b_M (som<|ifF hmr hch).symm ⟨q.k<|s1 z,s6,ht⟩
 .rintro x4 aP wy rfl ⟨_,sk,ht⟩;have ae:=elL hmp;revert aP;refine Wo<|Wq ?_
  obtain ⟨aQ,af,ah⟩:=bdS ae;refine Wt (λa w=>∃(xl:List Str)(xm:Bool),(xl,xm)=aQ/\∃L O ca,Sat 49 [(2,sl L O ca),(3,vB xm)] a/\Below wy.z wy w/\repS w J.z (sl L O ca) xl) ?_ ?_
  .refine Wd (X:=noX) 0 (pl_ 13 []) mo (by kernel_rfl) λaY sn _=>dM z z z ?_
   obtain ⟨xz,aR,ai⟩:=bdS af;have ho:=(h2.e sk).e sn;refine dRX z z (rX D_ z_9 z z (or_ ho<|a_.lt h2) z z aR) ?_;rintro _ ⟨Y,a0,a1,rfl,a2⟩;refine dM z z z ?_;obtain ⟨aS,aT,V⟩:=bdS ai;refine dRX z z (at_ (α:=Str) D_ z_9 z z z (or_ ho<|a_.lt h2) aT) ?_;rintro _ ⟨_,_,_,rfl,aU,aV,_⟩;obtain ⟨rfl,_⟩:=a_h aV;refine dR z z (l0 g_9 z<|aU.at0 z)<|dR z z (a_K z z)<|dM z z z ?_
   rcases bs (aS.b==(⟨[]⟩:Str).b) with I | I
   .exact dRg z z z I z (mv z)<|dRg z z z I z (lnR D_ z<|or_ ho<|a_.lt h2)<|dRg z z z I z (a_b z z)<|dR z z (pT z I z)<|dQ z z z<|dQ z z z<|pD (λ_ q=>⟨xz,decide<|1<(aq.length:Int),som<|ifT V I,Y,a0,a1,q.k<|s2 z z,sn,a2⟩)
   iterate 3 refine dRn z z z I z ?_
   exact dR z z (pF z I z)<|dQ z z z<|dQ z z z<|pD (λ_ q=>⟨xz,false,som<|ifF V I,Y,a0,a1,q.k<|s2 z z,sn,a2⟩)
  rintro aW _ ⟨xl,xm,rfl,L,O,ca,_,a3,aX⟩;revert aW;refine Wo ?_;obtain rfl:=som<|a_P ah;exact Wr<|a_9 hr z z ⟨bup (bup sc sk) a3,L,O,ca,z,repS.mono aX<|Y_<|lt_ sk.s a3.s⟩
 rintro _ _ _ _ rfl ⟨rfl,aj⟩;have ak:=elR hmp;obtain rfl:=som ak;exact ⟨aj,z⟩
def Q16 (w0:World)(B:Zone)(r:(List Str)×Bool)(v:Value)(w':World):Prop:=Bw w0 w'/\un2 (λJ L=>∃G H I,v = .tuple #[sl G H I,vB L]/\repS w' (zn B w0.z w'.z) (sl G H I) J) r
theorem W_w1f {x1:Str}{res:(List Str)×Bool}(hm:g_f n x1=some res)(O:B<=w0.z)(V:x1.b.length<=LEN):i_ prog 51 [Str.v x1] w0 (Q16 w0 B res):=by
 unfold g_f at hm
 refine goG func51 z z z λfn hr=>Ws<|Ra z<|Rw z<|Wq<|Wm z<|R z (a_K z z)<|Wx z (λI=>?_) (λI=>?_)
 .refine Ws<|E z (f0 (α:=Str) a_w) ?_
  rintro _ _ ⟨aq,nr,cs,rfl,st,hc⟩;refine Ra z<|Rw z ?_
  obtain rfl:=som<|ifT hm I;exact Wr<|a_9 hr z z ⟨st,aq,nr,cs,z,or_ hc<|zin (B:=B) (f_ lr)<|a_.lt hc⟩
 refine Wk<|Wm z ?_
 obtain ⟨_,eu,hmv⟩:=bdS<|ifF hm I;refine E z (fc call95 z<|W_w1c (B:=B) eu O V) ?_;rintro _ H ⟨s3,ad,ne,cf,_,rfl,G,_,h4⟩;refine Rw z<|Wq<|Wm z ?_
 obtain ⟨_,ew,hmg⟩:=bdS hmv;refine RX z (at_ (α:=Str) D_ z_9 z z z (or_ G<|zin (B:=B) h4<|a_.lt G) ew) ?_;rintro _ ⟨_,_,_,rfl,hx,hy,_⟩;obtain ⟨rfl,_⟩:=a_h hy;refine R z (l0 g_9 z<|hx.at0 z)<|R z (d_U z z)<|Wx z (λJ=>?_) (λJ=>?_)
 .refine Ws<|E z (f0 (α:=Str) a_w) ?_
  rintro _ _ ⟨az,a5,a6,rfl,a7,hh⟩;refine Ra z<|Rw z ?_
  obtain rfl:=som<|ifT hmg J;exact Wr<|a_9 hr z z ⟨bup s3 a7,az,a5,a6,z,repS.mono (or_ hh<|zin (B:=B) (f_ lr)<|a_.lt hh)<|k_C s3.s lr⟩
 refine Wk<|Wq<|Ws<|Rw z ?_
 obtain ⟨_,W,hmi⟩:=bdS<|ifF hmg J;refine c_k (σ:=Int) (ρ:=(List Str)×Bool) (λ(x2:Int) a w=>Sat 34 [(4,sl ad ne cf),(5,vI x2)] a/\Below H.z H w/\inI x2) (λ(x2:Int) a w=>Sat 34 [(4,sl ad ne cf)] a/\Below H.z H w/\inI x2) (rQ prog fn<|Q16 w0 B) W ?_ ?_ ?_ ?_
 .exact λ_ q=>⟨q.k<|s2 z z,br H,ii z⟩
 .rintro x2 _ _ _ ⟨Y,s5,hj⟩ hmk;refine Wu ?_ Y;refine Wq<|Wm z<|Rm z ?_
  have hl:=G.e s5;refine R z (lnR D_ z<|or_ hl<|zin (B:=B) h4<|a_.lt G)<|Rl z z z<|Wx z (λL=>?_) (λL=>?_)
  .refine Wk<|Wq<|Wb<|Wm z<|Rm z ?_
   obtain ⟨_,a8,a0⟩:=bdS<|ifT hmk L;refine RX z (at_ (α:=Str) D_ z_9 z z z (or_ hl<|zin (B:=B) h4<|a_.lt G) a8) ?_;rintro _ ⟨_,_,_,rfl,a9,aa,_⟩;obtain ⟨rfl,ab⟩:=a_h aa;refine R z (l0 g_9 z<|a9.at0 z) ?_;have hn:=lt_ s3.s s5.s;obtain ⟨_,ae,hmm⟩:=bdS a0;refine E z (fc call96 z<|W_w1e ae (zt' O hn) ab) ?_;rintro _ _ ⟨s9,rfl⟩;refine R z (not_ z)<|Wx z (λhca=>?_) (λhca=>?_)
   .refine Ws<|E z (f0 (α:=Str) a_w) ?_
    rintro _ _ ⟨af,ah,ai,rfl,aj,ho⟩;exact Ra z<|Rw z<|Wr<|rtO<|qL (som<|ifT hmm hca).symm<|a_9 hr z z ⟨bup (bup (bup s3 s5) s9) aj,af,ah,ai,z,repS.mono (or_ ho<|zin (B:=B) (f_ lr)<|a_.lt ho)<|k_C (lt_ hn s9.s) lr⟩
   exact Wk<|Wg<|Rm z<|R z (add_ z z)<|Ra z<|Wl (λ_ q=>⟨g_ x2 1,(som<|ifF hmm hca).symm,⟨q.k<|s2 z z,bup s5 s9,iA _ _⟩⟩)
  exact We<|λ_ q=>b_M (som<|ifF hmk L).symm ⟨q.k<|s1 z,s5,hj⟩
 .rintro x2 ak _ rfl ⟨_,sb,hj⟩;have a1:=elL hmi;revert ak;refine Wo<|Wm z ?_
  obtain ⟨_,al,a2⟩:=bdS a1;have hp:=G.e sb;refine RX z (rX D_ z_9 z z (or_ hp<|zin (B:=B) h4<|a_.lt G) z z al) ?_;rintro _ ⟨am,an,ao,rfl,ap⟩;refine Rm z<|R z (lnR D_ z<|or_ hp<|zin (B:=B) h4<|a_.lt G)<|R z (a_b z z)<|Ra z<|Rw z ?_
  obtain rfl:=som a2;exact Wr<|a_9 hr z z ⟨bup s3 sb,am,an,ao,z,repS.mono ap<|k_C lr sb.s⟩
 rintro _ _ _ _ rfl ⟨rfl,a3⟩;have a4:=elR hmi;obtain rfl:=som a4;exact ⟨a3,z⟩
theorem W_w2u {x1:List Str}{x2:List Str}{res:Bool}(hm:i_2 n x1 x2=some res)(a2:B<=w0.z)(a1:repS w0 B (sl A0 N0 C0) x1)(Y:repS w0 B (sl A5 N5 C5) x2):i_ prog 52 [sl A0 N0 C0,sl A5 N5 C5] w0 (Q7 w0 B res):=by
 unfold i_2 at hm
 refine goG func52 z z z λfn hr=>Ws<|Rw z<|Wm z<|R z (lnR D_ z Y)<|R z (add_ z z) ?_
 obtain ⟨_,bQ,b7⟩:=bdS hm;refine E z (d_P (α:=Bool) k_1 (λ_=>b_q) bQ z z) ?_;rintro _ _ ⟨bR,bS,bT,rfl,a3,aD⟩;refine Rw z<|Wm z ?_
 obtain ⟨_,aE,b8⟩:=bdS b7;refine RX z (b_8 (α:=Bool) b_7 z_4 z z aD aE) ?_;rintro _ ⟨_,bU,rfl⟩;refine E0 (b_9 (α:=Bool) z_4 z bU z z z aE aD a_I b_q an_ U_) ?_;rintro _ wn ⟨Su,a4,bV,bW,_⟩;refine Wn<|Wq<|Ws<|Rw z ?_
 obtain ⟨_,b9,ao⟩:=bdS b8;refine Wf (σ:=List Bool) (ρ:=Bool) (λ(kp:Nat)(xv:List Bool) a w=>∃O V W Sd,Sat 111 [(0,sl A0 N0 C0),(1,sl A5 N5 C5),(5,sl O V W),(6,vI ((kp:Nat):Int))] a/\Below wn.z wn w/\a_ w Sd (sl O V W) xv/\Sd.Nodup/\(∀k∈Sd,k∈Su∨wn.z<=k)) (λ(xv:List Bool) a w=>∃O V W Sd,Sat 111 [(1,sl A5 N5 C5),(5,sl O V W)] a/\Below wn.z wn w/\a_ w Sd (sl O V W) xv/\Sd.Nodup/\(∀k∈Sd,k∈Su∨wn.z<=k)) (rQ prog fn<|Q7 w0 B) b9 ?_ ?_ ?_ ?_ ?_
 .exact λ_ q=>⟨bR,bS,bT,Su,q.k<|s4 z z z z,br wn,bV,bW,io sr⟩
 .rintro kp xv _ L _ ap ⟨O,V,W,Sd,ba,sw,ho,ai,aj⟩ bb;refine Wu ?_ ba;refine Wq<|Wm z<|Rm z ?_
  have ak:=((a3.ag B).c a4<|e_ (or0 (f_ lr) (p_ a2):∀k∈[w0.z],¬B k)).e sw;refine R z (lnR D_ z<|a1.g ak)<|Rl z z z<|Wx z (λ_=>?_) (λhc=>(Q_ ap hc).elim)
  refine Wk<|Wq<|Wb<|Wm z<|R z (lnR D_ z<|Y.g ak)<|R z (add_ z z) ?_
  obtain ⟨_,bX,bc⟩:=bdS bb;refine E z (d_P (α:=Bool) k_1 (λ_=>b_q) bX z z) ?_;rintro _ wa ⟨ae,nf,cg,rfl,sx,bY⟩;refine Rw z<|Wq<|Ws<|Rw z ?_
  obtain ⟨_,be,aq⟩:=bdS bc;refine c_k (σ:=(List Bool)×Int) (ρ:=Bool) (λs a w=>un2 (λxr xb=>∃(G:List Nat),Sat 111 [(0,sl A0 N0 C0),(1,sl A5 N5 C5),(5,sl O V W),(6,vI ((kp:Nat):Int)),(7,sl ae nf cg),(8,vI xb)] a/\Cg [L.z] wa w/\a_ w G (sl ae nf cg) xr/\G.Nodup/\(∀k∈G,k∈[L.z]∨wa.z<=k)/\inI xb) s) (λs a w=>un2 (λxr xb=>∃(G:List Nat),Sat 111 [(0,sl A0 N0 C0),(1,sl A5 N5 C5),(6,vI ((kp:Nat):Int)),(7,sl ae nf cg)] a/\Cg [L.z] wa w/\a_ w G (sl ae nf cg) xr/\G.Nodup/\(∀k∈G,k∈[L.z]∨wa.z<=k)/\inI xb) s) (rQ prog fn<|Q7 w0 B) be ?_ ?_ ?_ ?_
  .exact λ_ q=>⟨[L.z],q.k<|s6 z z z z z z,cr [L.z] wa,bY,a_I,io sr,ii z⟩
  .rintro ⟨xr,xb⟩ _ H _ ⟨G,bf,ss,h5,hh,a8,aF⟩ bg;have ar:=a_P bg;refine Wu ?_ bf;refine Wq<|Wm z<|Rm z ?_
   have aG:=lt_ (lt_ a3.s a4.s) sw.s;have al:=(ak.e sx).c ss<|e_ (or0 (f_ lr) (p_<|zt' a2 aG):∀k∈[L.z],¬B k)
   refine R z (lnR D_ z<|Y.g al)<|R z (b_N z z)<|Wx z (λad=>?_) (λad=>?_)
   .refine Wk<|Wq ?_
    obtain ⟨bZ,bh,bi⟩:=bdS<|ifT ar ad;refine Wt (λa w=>∃(a9:List Bool),a9=bZ/\∃(Sy:List Nat),Sat 111 [(0,sl A0 N0 C0),(1,sl A5 N5 C5),(5,sl O V W),(6,vI ((kp:Nat):Int)),(7,sl ae nf cg),(8,vI xb)] a/\Cg G H w/\a_ w Sy (sl ae nf cg) a9/\Sy.Nodup/\(∀k∈Sy,k∈G∨H.z<=k)) ?_ ?_
    .refine Wb<|Wq<|Wm z<|Rm z ?_
     obtain ⟨_,c0,au⟩:=bdS bh;refine RX z (at_ (α:=Str) D_ z_9 z z z (a1.g al) c0) ?_;rintro _ ⟨_,_,_,rfl,c1,c2,_⟩;obtain ⟨rfl,_⟩:=a_h c2;refine R z (l0 g_9 z<|c1.at0 z)<|R z (a_K z z)<|Wx z (λaf=>?_) (λaf=>?_)
     .refine Wq ?_;obtain ⟨c3,bj,bk⟩:=bdS<|ifT au af;refine Wt (λa w=>∃(aa:List Bool),aa=c3/\∃(Sz:List Nat),Sat 111 [(0,sl A0 N0 C0),(1,sl A5 N5 C5),(5,sl O V W),(6,vI ((kp:Nat):Int)),(7,sl ae nf cg),(8,vI xb)] a/\Cg G H w/\a_ w Sz (sl ae nf cg) aa/\Sz.Nodup/\(∀k∈Sz,k∈G∨H.z<=k)) ?_ ?_
      .refine Wg<|RM z z<|RM z z ?_
       obtain ⟨c4,c5,av⟩:=bdS bj;refine RX z (at_ (α:=Bool) b_7 z_4 z z z (or_ ((ho.e sx).c ss<|ds<|mnr<|a_.lt ho)<|a_.lt ho) c5) ?_;rintro _ ⟨_,_,_,rfl,c6,c7,_⟩;obtain rfl:=d_O c7;refine R z (l0 g_4 z<|c6.at0 z)<|Rm z ?_
       rcases bs c4 with hcc | hcc
       .iterate 3 refine Nh z hcc ?_
        refine Nv z<|Nv z<|Nv z<|Nv z<|Nv z<|Nh z hcc<|R z (pT z hcc z) ?_
        obtain ⟨c8,aH,bm⟩:=bdS<|ifT av hcc;refine RX z (b_8 (α:=Bool) b_7 z_4 z z h5 aH) ?_;rintro _ ⟨_,ca,rfl⟩;refine E0 (b_9 (α:=Bool) z_4 z ca z z z aH h5 hh b_q an_ U_) ?_;rintro _ cb ⟨aI,cc,cd,ce,cf⟩;refine Wl ?_;exact λ_ q=>⟨c8,som bm,aI,q.k<|s6 z z z z z z,(cM (cr G H) cc (io sr):Cg G H cb),cd,ce,(or2 cf (io sr) an_ (l_ lr):∀k∈aI,k∈G∨H.z<=k)⟩
       have aw:=ifF av hcc;refine Rh z hcc (mv z)<|Rh z hcc (a_b z z)<|Rh z hcc (mv z) ?_
       rcases bs (decide<|0<xb) with hcj | hcj
       .refine Rh z hcj (mv z)<|Rh z hcj (mv z)<|Rh z hcj (sb_ z z) ?_
        obtain ⟨_,ch,bn⟩:=bdS<|ifT aw hcj;refine RXg z z hcj z (at_ (α:=Bool) b_7 z_4 z z z (a_.rep h5) ch) ?_;rintro _ ⟨_,_,_,rfl,ci,cj,_⟩;obtain rfl:=d_O cj;refine Rh z hcj (l0 g_4 z<|ci.at0 z)<|Rh z hcc (pT z hcj z)<|R z (pF z hcc z) ?_
        obtain ⟨ck,aJ,bo⟩:=bdS bn;refine RX z (b_8 (α:=Bool) b_7 z_4 z z h5 aJ) ?_;rintro _ ⟨_,cl,rfl⟩;refine E0 (b_9 (α:=Bool) z_4 z cl z z z aJ h5 hh b_q an_ U_) ?_;rintro _ cm ⟨aK,cn,co,cp,cq⟩;refine Wl ?_;exact λ_ q=>⟨ck,som bo,aK,q.k<|s6 z z z z z z,(cM (cr G H) cn (io sr):Cg G H cm),co,cp,(or2 cq (io sr) an_ (l_ lr):∀k∈aK,k∈G∨H.z<=k)⟩
       iterate 5 refine Nh z hcj ?_
       refine Rh z hcc (pF z hcj z)<|R z (pF z hcc z) ?_
       obtain ⟨ct,aL,bp⟩:=bdS<|ifF aw hcj;refine RX z (b_8 (α:=Bool) b_7 z_4 z z h5 aL) ?_;rintro _ ⟨_,cu,rfl⟩;refine E0 (b_9 (α:=Bool) z_4 z cu z z z aL h5 hh b_q an_ U_) ?_;rintro _ cv ⟨aM,cw,cx,cy,cz⟩;refine Wl ?_;exact λ_ q=>⟨ct,som bp,aM,q.k<|s6 z z z z z z,(cM (cr G H) cw (io sr):Cg G H cv),cx,cy,(or2 cz (io sr) an_ (l_ lr):∀k∈aM,k∈G∨H.z<=k)⟩
      rintro cA cB ⟨aa,rfl,Sz,_,cC,cD,cE,cF⟩;revert cA;refine Wo<|We<|exH ?_
      exact λ_ q=>⟨aa,som bk,Sz,q.k<|s6 z z z z z z,(cM (cr G H) cC (io sr):Cg G H cB),cD,cE,(or1 cF (io sr) (l_ lr):∀k∈Sz,k∈G∨H.z<=k)⟩
     refine Wk<|Wq<|Wq ?_
     obtain ⟨cG,ax,ay⟩:=bdS<|ifF au af;refine Wt (λa w=>∃(am:Bool),am=cG/\Sat 111 [(0,sl A0 N0 C0),(1,sl A5 N5 C5),(5,sl O V W),(6,vI ((kp:Nat):Int)),(7,sl ae nf cg),(8,vI xb),(65,vB am)] a/\Below H.z H w) ?_ ?_
     .refine Wg<|Rm z<|Rq z z z<|Rm z ?_
      rcases bs (xb==0) with hci | hci
      .iterate 6 refine Nh z hci ?_
       exact R z (pT z hci z)<|Wl (λ_ q=>⟨true,som<|ifT ax hci,q.k<|s7 z z z z z z z,br H⟩)
      refine Rh z hci (mv z)<|Rh z hci (mv z)<|Rh z hci (sb_ z z) ?_
      obtain ⟨cH,cI,bq⟩:=bdS<|ifF ax hci;refine RXg z z hci z (at_ (α:=Bool) b_7 z_4 z z z (or_ ((ho.e sx).c ss<|ds<|mnr<|a_.lt ho)<|a_.lt ho) cI) ?_;rintro _ ⟨_,_,_,rfl,cJ,cK,_⟩;obtain rfl:=d_O cK;exact Rh z hci (l0 g_4 z<|cJ.at0 z)<|Rh z hci (not_ z)<|R z (pF z hci z)<|Wl (λ_ q=>⟨!cH,som bq,q.k<|s7 z z z z z z z,br H⟩)
     rintro cL aN ⟨am,rfl,_,sk⟩;revert cL;refine Wo<|Wc z (λah=>?_) (λah=>?_)
     .refine We<|exH ?_
      exact λ_ q=>⟨xr,som<|ifT ay ah,G,q.k<|s6 z z z z z z,(j_ (cr G H) sk:Cg G H aN),h5.e sk,hh,io sr⟩
     refine Wk<|Wm z<|Rm z<|R z (sb_ z z) ?_
     obtain ⟨_,cN,bt⟩:=bdS<|ifF ay ah;have aO:=al.e sk;refine RX z (at_ (α:=Str) D_ z_9 z z z (Y.g aO) cN) ?_;rintro _ ⟨_,_,_,rfl,cO,cP,_⟩;obtain ⟨rfl,cQ⟩:=a_h cP;refine R z (l0 g_9 z<|cO.at0 z) ?_;obtain ⟨_,cR,cS,bu⟩:=a_8 bt;refine E z (fc call97 z<|W_w1d cS (zt' a2<|lt_ (lt_ (lt_ aG sx.s) ss.s) sk.s) cQ) ?_;rintro _ I ⟨sq,rfl,_⟩;refine Rm z<|Re z z z<|Re z z z<|Ra z<|Rw z ?_
     obtain ⟨cT,bv,bw⟩:=bdS bu;refine Wt (λa w=>∃(ab:List Bool),ab=cT/\∃(a0:List Nat),Sat 111 [(0,sl A0 N0 C0),(1,sl A5 N5 C5),(5,sl O V W),(6,vI ((kp:Nat):Int)),(7,sl ae nf cg),(8,vI xb)] a/\Cg G I w/\a_ w a0 (sl ae nf cg) ab/\a0.Nodup/\(∀k∈a0,k∈G∨I.z<=k)) ?_ ?_
     .refine Wd (X:=noX) 1073741824 (pl_ 31 [30]) mo (by kernel_rfl) λa5 s8 _=>?_
      iterate 4 refine dM z z z ?_
      obtain ⟨cU,cV,az⟩:=bdS bv;have an:=(aO.e sq).e s8;have a7:=a1.g an;refine dRX z z (at_ (α:=Str) D_ z_9 z z z a7 cV) ?_;rintro _ ⟨_,_,_,rfl,cW,cX,_⟩;obtain ⟨rfl,_⟩:=a_h cX;refine dR z z (l0 g_9 z<|cW.at0 z)<|dR z z (a_K z z)<|dM z z z ?_
      rcases bs (cU.b==(⟨[35]⟩:Str).b) with hct | hct
      .have aA:=ifT az hct;refine dRg z z z hct z (mv z)<|dR z z (pT z hct z)<|dM z z z ?_
       rcases bs cR with J | J
       .iterate 11 refine dRn z z z J z ?_
        iterate 5 refine dRu z z z z ?_
        refine dRn z z z J z<|dR z z (pT z J z) ?_
        obtain ⟨cY,aP,bx⟩:=bdS<|ifT aA J;have aQ:=((h5.e sk).e sq).e s8;refine dRX z z (b_8 (α:=Bool) b_7 z_4 z z aQ aP) ?_;rintro _ ⟨_,cZ,rfl⟩;refine dE0 z (b_9 (α:=Bool) z_4 z cZ z z z aP aQ hh b_q an_ U_) (.inl z) ?_;rintro _ d0 ⟨aR,d1,d2,d3,d4⟩;refine pD ?_;exact λ_ q=>⟨cY,som bx,aR,q.k<|s6 z z z z z z,(cM (j_ (cr G I) s8:Cg G I a5) d1 (io sr):Cg G I d0),d2,d3,(or2 d4 (io sr) an_ (l_ s8.s):∀k∈aR,k∈G∨I.z<=k)⟩
       refine dRg z z z J z (mv z)<|dRg z z z J z (mv z) ?_
       obtain ⟨d5,d6,bz⟩:=bdS<|ifF aA J;refine b_v z z z J z (at_ (α:=Str) D_ z_9 z z z a7 d6) ?_;rintro _ ⟨_,_,_,rfl,d7,d8,_⟩;obtain ⟨rfl,_⟩:=a_h d8;refine dRg z z z J z (l0 g_9 z<|d7.at0 z)<|dRg z z z J z (mv z)<|dRg z z z J z (mv z)<|dRg z z z J z (sb_ z z) ?_
       obtain ⟨d9,da,aB⟩:=bdS bz;refine b_v z z z J z (at_ (α:=Str) D_ z_9 z z z (Y.g an) da) ?_;rintro _ ⟨_,_,_,rfl,db,dc,_⟩;obtain ⟨rfl,_⟩:=a_h dc;refine dRg z z z J z (l0 g_9 z<|db.at0 z)<|dRg z z z J z (a_K z z)<|dRg z z z J z (mv z) ?_
       rcases bs (d5.b==d9.b) with hcl | hcl
       .refine dRg z z z hcl z (mv z)<|dRg z z z hcl z (mv z) ?_
        obtain ⟨_,dd,bA⟩:=bdS<|ifT aB hcl;refine b_v z z z hcl z (at_ (α:=Str) D_ z_9 z z z a7 dd) ?_;rintro _ ⟨_,_,_,rfl,de,df,_⟩;obtain ⟨rfl,_⟩:=a_h df;refine dRg z z z hcl z (l0 g_9 z<|de.at0 z)<|dRg z z z hcl z (d_U z z)<|dRg z z z J z (pT z hcl z)<|dR z z (pF z J z) ?_
        obtain ⟨dg,aS,bB⟩:=bdS bA;have aT:=((h5.e sk).e sq).e s8;refine dRX z z (b_8 (α:=Bool) b_7 z_4 z z aT aS) ?_;rintro _ ⟨_,dh,rfl⟩;refine dE0 z (b_9 (α:=Bool) z_4 z dh z z z aS aT hh b_q an_ U_) (.inl z) ?_;rintro _ di ⟨aU,dj,dk,dl,dm⟩;refine pD ?_;exact λ_ q=>⟨dg,som bB,aU,q.k<|s6 z z z z z z,(cM (j_ (cr G I) s8:Cg G I a5) dj (io sr):Cg G I di),dk,dl,(or2 dm (io sr) an_ (l_ s8.s):∀k∈aU,k∈G∨I.z<=k)⟩
       iterate 5 refine dRn z z z hcl z ?_
       refine dRg z z z J z (pF z hcl z)<|dR z z (pF z J z) ?_
       obtain ⟨dn,aV,bC⟩:=bdS<|ifF aB hcl;have aW:=((h5.e sk).e sq).e s8;refine dRX z z (b_8 (α:=Bool) b_7 z_4 z z aW aV) ?_;rintro _ ⟨_,dp,rfl⟩;refine dE0 z (b_9 (α:=Bool) z_4 z dp z z z aV aW hh b_q an_ U_) (.inl z) ?_;rintro _ dq ⟨aX,dr,dt,du,dv⟩;refine pD ?_;exact λ_ q=>⟨dn,som bC,aX,q.k<|s6 z z z z z z,(cM (j_ (cr G I) s8:Cg G I a5) dr (io sr):Cg G I dq),dt,du,(or2 dv (io sr) an_ (l_ s8.s):∀k∈aX,k∈G∨I.z<=k)⟩
      refine dRn z z z hct z<|dR z z (pF z hct z)<|dM z z z<|dRg z z z z z (mv z)<|dRg z z z z z (mv z) ?_
      obtain ⟨dw,dx,bD⟩:=bdS<|ifF az hct;refine b_v z z z z z (at_ (α:=Str) D_ z_9 z z z a7 dx) ?_;rintro _ ⟨_,_,_,rfl,dy,dz,_⟩;obtain ⟨rfl,_⟩:=a_h dz;refine dRg z z z z z (l0 g_9 z<|dy.at0 z)<|dRg z z z z z (mv z)<|dRg z z z z z (mv z)<|dRg z z z z z (sb_ z z) ?_
      obtain ⟨dA,dB,aC⟩:=bdS bD;refine b_v z z z z z (at_ (α:=Str) D_ z_9 z z z (Y.g an) dB) ?_;rintro _ ⟨_,_,_,rfl,dC,dD,_⟩;obtain ⟨rfl,_⟩:=a_h dD;refine dRg z z z z z (l0 g_9 z<|dC.at0 z)<|dRg z z z z z (a_K z z)<|dRg z z z z z (mv z) ?_
      rcases bs (dw.b==dA.b) with hcm | hcm
      .refine dRg z z z hcm z (mv z)<|dRg z z z hcm z (mv z) ?_
       obtain ⟨_,dF,bE⟩:=bdS<|ifT aC hcm;refine b_v z z z hcm z (at_ (α:=Str) D_ z_9 z z z a7 dF) ?_;rintro _ ⟨_,_,_,rfl,dG,dH,_⟩;obtain ⟨rfl,_⟩:=a_h dH;refine dRg z z z hcm z (l0 g_9 z<|dG.at0 z)<|dRg z z z hcm z (d_U z z)<|dRg z z z z z (pT z hcm z)<|dR z z (pF z z z) ?_
       obtain ⟨dI,aY,bF⟩:=bdS bE;have aZ:=((h5.e sk).e sq).e s8;refine dRX z z (b_8 (α:=Bool) b_7 z_4 z z aZ aY) ?_;rintro _ ⟨_,dJ,rfl⟩;refine dE0 z (b_9 (α:=Bool) z_4 z dJ z z z aY aZ hh b_q an_ U_) (.inl z) ?_;rintro _ dK ⟨b0,dL,dN,dO,dP⟩;refine pD ?_;exact λ_ q=>⟨dI,som bF,b0,q.k<|s6 z z z z z z,(cM (j_ (cr G I) s8:Cg G I a5) dL (io sr):Cg G I dK),dN,dO,(or2 dP (io sr) an_ (l_ s8.s):∀k∈b0,k∈G∨I.z<=k)⟩
      iterate 5 refine dRn z z z hcm z ?_
      refine dRg z z z z z (pF z hcm z)<|dR z z (pF z z z) ?_
      obtain ⟨dS,b1,bG⟩:=bdS<|ifF aC hcm;have b2:=((h5.e sk).e sq).e s8;refine dRX z z (b_8 (α:=Bool) b_7 z_4 z z b2 b1) ?_;rintro _ ⟨_,dT,rfl⟩;refine dE0 z (b_9 (α:=Bool) z_4 z dT z z z b1 b2 hh b_q an_ U_) (.inl z) ?_;rintro _ dU ⟨b3,dV,dW,dX,dY⟩;refine pD ?_;exact λ_ q=>⟨dS,som bG,b3,q.k<|s6 z z z z z z,(cM (j_ (cr G I) s8:Cg G I a5) dV (io sr):Cg G I dU),dW,dX,(or2 dY (io sr) an_ (l_ s8.s):∀k∈b3,k∈G∨I.z<=k)⟩
     rintro dZ e0 ⟨ab,rfl,a0,_,e1,e2,e3,e4⟩;revert dZ;exact λ_ q=>⟨ab,som bw,a0,q.k<|s6 z z z z z z,(cM (j_ (j_ (cr G H) sk:Cg G H aN) sq:Cg G H I) e1 (io sr):Cg G H e0),e2,e3,(or1 e4 (io sr) (l_<|lt_ sk.s sq.s):∀k∈a0,k∈G∨H.z<=k)⟩
    rintro e5 e6 ⟨a9,rfl,Sy,_,e7,e8,e9,ea⟩;revert e5;refine Wo<|Wg<|Rm z<|R z (add_ z z)<|Ra z<|Wl ?_
    have b4:∀k∈G,k∈[L.z]∨wa.z<=k:=or1 a8 (io sr)<|l_ lr;exact λ_ q=>⟨(a9,g_ xb 1),(som bi).symm,⟨Sy,q.k<|s6 z z z z z z,(cM (cM (cr [L.z] wa) ss (io sr):Cg [L.z] wa H) e7 b4:Cg [L.z] wa e6),e8,e9,(or1 ea b4 (l_ ss.s):∀k∈Sy,k∈[L.z]∨wa.z<=k),iA _ _⟩⟩
   exact We<|λ_ q=>b_M (som<|ifF ar ad).symm ⟨G,q.k<|s4 z z z z,(cM (cr [L.z] wa) ss (io sr):Cg [L.z] wa H),h5,hh,(or1 a8 (io sr) (l_ lr):∀k∈G,k∈[L.z]∨wa.z<=k),aF⟩
  .rintro ⟨xr,xb⟩ eb _ rfl ⟨G,_,ec,h5,hh,a8,aF⟩;have bH:=elL aq;revert eb;refine Wo<|Wg<|Rm z<|Rw z<|Wg<|Rm z<|R z (inc_ ap (lt_ (repS.len a1) B_) z z)<|Ra z<|Wl ?_
   exact λ_ q=>⟨xr,(som<|a_P bH).symm,⟨ae,nf,cg,G,q.k<|s4 z z z z,bM (bup sw sx) ec<|m1 sw.s,h5,hh,(or1 a8 (mor sw.s:∀k∈[L.z],k∈Su∨wn.z<=k) (l_<|lt_ sw.s sx.s):∀k∈G,k∈Su∨wn.z<=k)⟩⟩
  rintro _ _ _ _ rfl ⟨rfl,bI⟩;have bJ:=elR aq;exact ⟨inbR<|k_w (som bJ).symm ⟨rfl,bI⟩,z⟩
 .rintro xv _ _ ⟨O,V,W,Sd,bK,b5,ho,ai,aj⟩;refine Wu ?_ bK;refine Wq<|Wm z<|Rm z ?_
  refine R z (lnR D_ z<|a1.g<|((a3.ag B).c a4<|e_ (or0 (f_ lr) (p_ a2):∀k∈[w0.z],¬B k)).e b5)<|Rl z z z<|Wx z (λhc=>(R_ hc).elim) (λ_=>?_)
  exact We<|λ_ q=>⟨rfl,⟨O,V,W,Sd,q.k<|s2 z z,b5,ho,ai,(or1 aj (io sr) (l_ lr):∀k∈Sd,k∈Su∨wn.z<=k)⟩⟩
 .rintro xv ed _ rfl ⟨O,V,W,Sd,_,b6,ho,ai,aj⟩;have bL:=elL ao;revert ed;refine Wo<|Wm z<|Rm z ?_
  refine R z (lnR D_ z<|Y.g<|((a3.ag B).c a4<|e_ (or0 (f_ lr) (p_ a2):∀k∈[w0.z],¬B k)).e b6) ?_;obtain ⟨_,ee,bN⟩:=bdS bL;refine RX z (at_ (α:=Bool) b_7 z_4 z z z (a_.rep ho) ee) ?_;rintro _ ⟨_,_,_,rfl,ef,eg,_⟩;obtain rfl:=d_O eg;refine R z (l0 g_4 z<|ef.at0 z)<|Rw z ?_
  obtain rfl:=som bN;exact Wr<|c_ hr z ⟨bup (bM a3 a4<|f_ lr) b6,z⟩
 rintro _ _ _ _ rfl ⟨rfl,bO⟩;have bP:=elR ao;obtain rfl:=som bP;exact ⟨bO,z⟩
theorem W_w2v {x1:Str}{x2:Str}{res:Bool}(hm:i_3 n x1 x2=some res)(J:B<=w0.z)(V:x1.b.length<=LEN)(W:x2.b.length<=LEN):i_ prog 28 [Str.v x1,Str.v x2] w0 (Q7 w0 B res):=by
 unfold i_3 at hm
 refine goG func28 z z z λfn hr=>Ws<|Rw z<|Wm z ?_
 obtain ⟨_,Y,e9,hma⟩:=a_8 hm;refine E z (fc call50 z<|W_w2t (B:=B) e9 J V) ?_;rintro _ _ ⟨s4,_,_,_,rfl,hb⟩;refine Rm z<|Re z z z<|Re z z z<|Ra z<|Rw z<|Wm z ?_
 obtain ⟨_,rc,ed,hme⟩:=a_8 hma;refine E z (fc call51 z<|W_w1f ed (zt' J s4.s) W) ?_;rintro _ I ⟨s3,_,_,_,rfl,hf⟩;refine Rm z<|Re z z z<|Re z z z<|Ra z<|Rw z<|Wq ?_
 obtain ⟨ug,L,hmh⟩:=bdS hme;refine Wt (λa w=>∃(x5:Bool),x5=ug/\Sat 28 [(4,vB x5)] a/\Below I.z I w) ?_ ?_
 .refine Wg<|RM z z ?_
  rcases bs Y with H | H
  .have O:=ifT L H;refine Rh z H (mv z)<|R z (pT z H z)<|Rm z ?_
   rcases bs rc with G | G
   .refine Rh z G (mv z)<|Rh z G (mv z) ?_
    obtain ⟨ri,ej,hmk⟩:=bdS<|ifT O G;refine Eg z z G z (fc call52 z<|W_w2u (B:=I.z) ej zr (repS.mono (hb.e s3)<|Y_ s3.s)<|repS.mono hf<|zn_bl (zt' J<|lt_ s4.s s3.s) lr) ?_;rintro _ _ ⟨sl,rfl⟩;exact R z (pT z G z)<|Ra z<|Wl (λ_ q=>⟨ri,som hmk,q.k<|s1 z,sl⟩)
   iterate 3 refine Nh z G ?_
   exact R z (pF z G z)<|Ra z<|Wl (λ_ q=>⟨false,som<|ifF O G,q.k<|s1 z,br I⟩)
  exact Nh z H<|R z (pF z H z)<|Rm z<|Nh z z<|Nh z z<|Nh z z<|R z (pF z z z)<|Ra z<|Wl (λ_ q=>⟨false,som<|ifF L H,q.k<|s1 z,br I⟩)
 rintro am _ ⟨x5,rfl,_,sn⟩;revert am;refine Wo ?_;obtain rfl:=som hmh;exact Wr<|c_ hr z ⟨bup (bup s4 s3) sn,z⟩
def Q17 (w0:World)(B:Zone)(r:(List k_))(v:Value)(w':World):Prop:=Bw w0 w'/\(λJ=>∃G H I S1,(sl G H I)=v/\a_ w' S1 (sl G H I) J/\S1.Nodup/\(∀k∈S1,w0.z<=k)) r
theorem W_w2w {x1:d_}{x2:Bt}{x3:Str}{res:(List k_)}(hm:i_4 n x1 x2 x3=some res)(a4:B<=w0.z)(af:repS w0 B (sl A0 N0 C0) x1.rules)(ah:repS w0 B (sl A5 N5 C5) x2)(ai:x3.b.length<=LEN):i_ prog 17 [(.agg #[sl A0 N0 C0]),sl A5 N5 C5,Str.v x3] w0 (Q17 w0 B res):=by
 unfold i_4 at hm
 refine goG func17 z z z λfn hr=>Ws<|E z (fb z) ?_
 rintro _ H ⟨rfl,hv⟩;have hf:=hv.below;refine Rw z<|Ws<|E z (f0 (α:=k_) c_K) ?_
 rintro _ _ ⟨aA,aB,aC,rfl,sg,hn⟩;refine Rw z<|Ws<|R z (lN (vs:=[sl A0 N0 C0]) w_ v_ z z fid<|((hv.blk:Blk H w0.z [sl A0 N0 C0]).e sg).row 0 1 z)<|Rm z ?_
 have hw:=(hf.ag B).e sg;have ho:=lt_ hf.s sg.s;obtain ⟨_,_,aD,aj⟩:=a_8 hm;refine E z (fc call27 z<|W_w2s aD (zt' a4 ho) (af.g hw)<|ah.g hw) ?_;rintro _ I ⟨sh,ax,ns,cy,_,rfl,W,_,hz⟩;refine Rm z<|Re z z z<|Re z z z<|Ra z<|Rw z<|Wq<|Ws<|Rw z ?_
 obtain ⟨_,al,a0⟩:=bdS aj;refine Wf (σ:=List k_) (ρ:=List k_) (λ(kp:Nat)(Y:List k_) a w=>∃J L O G,Sat 39 [(2,Str.v x3),(7,sl J L O),(8,sl ax ns cy),(10,vI ((kp:Nat):Int))] a/\Cg [H.z] I w/\a_ w G (sl J L O) Y/\G.Nodup/\(∀k∈G,k∈[H.z]∨I.z<=k)) (λ(Y:List k_) a w=>∃J L O G,Sat 39 [(7,sl J L O)] a/\Cg [H.z] I w/\a_ w G (sl J L O) Y/\G.Nodup/\(∀k∈G,k∈[H.z]∨I.z<=k)) (rQ prog fn<|Q17 w0 B) al ?_ ?_ ?_ ?_ ?_
 .exact λ_ q=>⟨aA,aB,aC,[H.z],q.k<|s4 z z z z,cr [H.z] I,hn.e sh,a_I,io sr⟩
 .rintro kp Y _ aE _ a1 ⟨J,L,O,G,am,si,ha,hb,hd⟩ an;refine Wu ?_ am;refine Wq<|Wm z<|Rm z ?_
  have hq:=W.c si<|a_M hz (a_.lt hn) lr
  refine R z (lnR c_v z<|or_ hq<|a_.lt W)<|Rl z z z<|Wx z (λ_=>?_) (λhc=>(Q_ a1 hc).elim)
  refine Wk<|Wq<|Wb<|Wm z<|RM z z ?_
  obtain ⟨_,aF,ao⟩:=bdS an;refine RX z (at_ (α:=k_) c_v b_6 z z z (or_ hq<|a_.lt W) aF) ?_;rintro _ ⟨_,_,_,rfl,aG,aH,_⟩;obtain ⟨rfl,aI,_,_,_⟩:=f_x aH;refine Rf z i_e z<|R z (l0 g_9 z<|aG.at (j:=0) z) ?_
  obtain ⟨_,aJ,ap⟩:=bdS ao;refine E z (fc call28 z<|W_w2v aJ (zt' a4<|lt_ (lt_ ho sh.s) si.s) ai aI) ?_;rintro _ V ⟨se,rfl⟩;refine Wn ?_;obtain ⟨aK,a2,aq⟩:=bdS ap;refine Wt (λa w=>∃(xj:List k_),xj=aK/\∃ak nl cm Sc,Sat 39 [(2,Str.v x3),(7,sl ak nl cm),(8,sl ax ns cy),(10,vI ((kp:Nat):Int))] a/\Cg G V w/\a_ w Sc (sl ak nl cm) xj/\Sc.Nodup/\(∀k∈Sc,k∈G∨V.z<=k)) ?_ ?_
  .refine Wc z (λhcr=>?_)<|λhcr=>?_
   .refine Wg<|RM z z<|Rm z ?_
    obtain ⟨x6,aL,ar⟩:=bdS<|ifT a2 hcr;refine RX z (at_ (α:=k_) c_v b_6 z z z (or_ (hq.e se)<|a_.lt W) aL) ?_;rintro _ ⟨_,_,_,rfl,aM,aN,_⟩;obtain ⟨rfl,a5,a6,a7,a8⟩:=f_x aN;refine R z (lN (vs:=[Str.v x6.path,vI x6.rule,vI x6.start,vI x6.end_]) e_c b_6 z z fid aM)<|E z (fS [(.tmp 35)] c_K z z z (b_l z) (lb z)<|lb z) ?_
    rintro _ a9 ⟨rfl,ht⟩;have hu:=ht.below;have b7:=b_U ht<|e_k (x:=x6) a5 a6 a7 a8
    obtain ⟨aO,aP,au⟩:=bdS ar;refine E z (b_W (α:=k_) c_K aP z z ((ha.e se).e hu) hb (ht.blk:Blk a9 V.z [Str.v x6.path,vI x6.rule,vI x6.start,vI x6.end_]) (e_k (x:=x6) a5 a6 a7 a8) an_ U_) ?_;rintro _ aQ ⟨aa,aR,aS,aT,rfl,aU,aV,aW,aX⟩;refine Ra z<|Wl ?_
    exact λ_ q=>⟨aO,som au,aR,aS,aT,aa,q.k<|s4 z z z z,(cM (j_ (cr G V) hu:Cg G V a9) aU (io sr):Cg G V aQ),aV,aW,(or2 aX (io sr) an_ (l_ hu.s):∀k∈aa,k∈G∨V.z<=k)⟩
   exact a_5<|λ_ q=>⟨Y,som<|ifF a2 hcr,J,L,O,G,q.k<|s4 z z z z,cr G V,ha.e se,hb,io sr⟩
  rintro aY aZ ⟨xj,rfl,ak,nl,cm,Sc,_,b0,b1,b2,b3⟩;revert aY;refine Wo<|Wg<|Rm z<|R z (inc_ a1 (lt_ (a_.len W) B_) z z)<|Ra z<|Wl ?_
  have ab:∀k∈G,k∈[H.z]∨I.z<=k:=or1 hd (io sr)<|l_ lr;exact λ_ q=>⟨xj,(som aq).symm,⟨ak,nl,cm,Sc,q.k<|s4 z z z z,(cM (j_ (cM (cr [H.z] I) si (io sr):Cg [H.z] I aE) se:Cg [H.z] I V) b0 ab:Cg [H.z] I aZ),b1,b2,(or1 b3 ab (l_<|lt_ si.s se.s):∀k∈Sc,k∈[H.z]∨I.z<=k)⟩⟩
 .rintro Y _ b4 ⟨J,L,O,G,av,ad,ha,hb,hd⟩;refine Wu ?_ av;refine Wq<|Wm z<|Rm z<|R z (lnR c_v z<|or_ (W.c ad<|a_M hz (a_.lt hn) lr)<|a_.lt W)<|Rl z z z<|Wx z (λhc=>(R_ hc).elim) (λ_=>?_)
  exact We<|λ_ q=>⟨rfl,⟨J,L,O,G,q.k<|s1 z,(cM (cr [H.z] I) ad (io sr):Cg [H.z] I b4),ha,hb,(or1 hd (io sr) (l_ lr):∀k∈G,k∈[H.z]∨I.z<=k)⟩⟩
 .rintro Y b5 _ rfl ⟨J,L,O,G,_,b6,ha,hb,hd⟩;have aw:=elL a0;revert b5;refine Wo<|Wm z<|Rw z ?_
  obtain rfl:=som aw;have ae:=m1 hf.s;exact Wr<|c_ hr z ⟨bM (bup (bup hf sg) sh) b6 ae,J,L,O,G,z,ha,hb,c_6 hd ae<|lt_ ho sh.s⟩
 rintro _ _ _ _ rfl ⟨rfl,ay⟩;have az:=elR a0;obtain rfl:=som az;exact ⟨ay,z⟩
def Q18 (w0:World)(B:Zone)(r:Int×Int×Int)(v:Value)(w':World):Prop:=Bw w0 w'/\un3 (λG H I=>v = .tuple #[vI G,vI H,vI I]/\inI G/\inI H/\inI I) r
theorem W_w2x {x1:d_}{x2:b_}{x3:Bt}{x4:Int}{res:Int×Int×Int}(hm:e_F x1 x2 x3 x4=some res)(ad:B<=w0.z)(ap:repS w0 B (sl A0 N0 C0) x1.rules)(aq:x2.name.b.length<=LEN)(ar:inI x2.kind)(au:inI x2.size)(av:repS w0 B (sl A2 N2 C2) x2.bytes)(aw:repS w0 B (sl A3 N3 C3) x2.names)(ax:repS w0 B (sl A1 N1 C1) x2.tags)(W:repS w0 B (sl A4 N4 C4) x2.kids)(a0:repS w0 B (sl A7 N7 C7) x3)(V:inI x4):i_ prog 100 [(.agg #[sl A0 N0 C0]),.agg #[Str.v x2.name,vI x2.kind,vI x2.size,vB x2.little,sl A2 N2 C2,sl A3 N3 C3,sl A1 N1 C1,sl A4 N4 C4],sl A7 N7 C7,vI x4] w0 (Q18 w0 B res):=by
 unfold e_F at hm
 refine goG func100 z z z λfn hr=>Ws<|E z (fb z) ?_
 rintro _ wb ⟨rfl,ae⟩;have h3:=ae.below;refine E z (fb z) ?_;rintro _ H ⟨rfl,af⟩;have I:=af.below;have hf:Blk H wb.z (vR x2 A2 N2 C2 A3 N3 C3 A1 N1 C1 A4 N4 C4):=af.blk;refine RA z z<|Rw z<|Wq<|Ws<|Rf z a_o z<|R z (l0 g_3 z<|hf.at z)<|Wn<|Wb<|Ws<|Rq z z z<|Rw z<|Wc z (λhcg=>?_) (λhcg=>?_)
 .refine Wq (Wd (X:=noX) 0 (pl_ 7 []) mo (by kernel_rfl) λbh sh _=>dM z z z<|dR z z (fd P_ z)<|dR z z (l0 E_ z<|(hf.e sh).at z) ?_);have ah:=W.g<|((h3.ag B).e I).e sh
  refine dR z z (lnR x_ z ah) ?_
  iterate 3 refine dQ z z z ?_
  refine pD<|Wo ?_
  obtain rfl:=som<|ifT hm hcg;exact Wr<|rtO<|A_ hr z z z ⟨bup (bup h3 I) sh,z,V,b_T<|repS.len ah,ii z⟩
 have a1:=ifF hm hcg;refine Ws<|Rq z z z<|Rw z<|Wc z (λhci=>?_) (λhci=>?_)
 .refine Wm z<|RA z z<|Rw z ?_
  obtain rfl:=som<|ifT a1 hci;exact Wr<|rtO<|A_ hr z z z ⟨bup h3 I,z,V,ii z,ii z⟩
 refine Ws<|Rq z z z<|Rw z ?_
 obtain ⟨aN,a2,hmc⟩:=bdS<|ifF a1 hci;refine Wt (λa w=>Sum.inl ()=aN/\Sat 81 [(3,vI x4)] a/\Below H.z H w) ?_ ?_
 .refine Wc z (λhcj=>?_)<|λhcj=>?_
  .refine Wq ?_;obtain ⟨aO,a3,a4⟩:=bdS<|ifT a2 hcj;refine Wt (λa w=>∃(xk:Bool),xk=aO/\Sat 81 [(3,vI x4),(37,vB xk)] a/\Below H.z H w) ?_ ?_
   .refine Wg<|RM z z ?_
    have ai:=a0.g<|(h3.ag B).e I
    refine R z (lnR o_ z ai)<|Rl z z z<|Rm z ?_
    rcases bs (decide<|x4<(x3.length:Int)) with G | G
    .refine Rh z G (mv z)<|Rh z G (mv z) ?_
     obtain ⟨aP,aQ,ay⟩:=bdS<|ifT a3 G;refine RXg z z G z (at_ (α:=UInt8) o_ z_5 z z z ai aQ) ?_;rintro _ ⟨_,_,_,rfl,aR,aS,_⟩;obtain rfl:=u8 aS;exact Rh z G (l0 g_5 z<|aR.at0 z)<|Rh z G (eql z z)<|R z (pT z G z)<|Wl (λ_ q=>⟨(byteI aP)==(byteI (1:UInt8)),som ay,q.k<|s2 z z,br H⟩)
    iterate 5 refine Nh z G ?_
    exact R z (pF z G z)<|Wl (λ_ q=>⟨false,som<|ifF a3 G,q.k<|s2 z z,br H⟩)
   rintro aT _ ⟨xk,rfl,_,aj⟩;revert aT;refine Wo<|Wc z (λhcl=>?_) (λhcl=>?_)
   .refine Wm z<|R z (add_ z z)<|RA z z<|Rw z ?_
    obtain rfl:=som<|ifT a4 hcl;have az:=elR hmc;obtain rfl:=som az;exact Wr<|rtO<|A_ hr z z z ⟨bup (bup h3 I) aj,z,iA _ _,ii z,ii z⟩
   exact a_5<|λ_ q=>⟨som<|ifF a4 hcl,q.k<|s1 z,aj⟩
  refine Wq<|Ws<|Rq z z z<|Rw z ?_
  obtain ⟨aU,a5,aA⟩:=bdS<|ifF a2 hcj;refine Wt (λa w=>∃(xm:Bool),xm=aU/\Sat 81 [(2,sl A7 N7 C7),(3,vI x4),(4,pt w0.z),(5,pt wb.z),(40,vB xm)] a/\Below H.z H w) ?_ ?_
  .refine Wc z (λhcn=>?_)<|λhcn=>?_
   .exact a_5<|λ_ q=>⟨x2.kind==5,som<|ifT a5 hcn,q.k<|s5 z z z z z,br H⟩
   exact Wg<|Rq z z z<|Ra z<|Wl (λ_ q=>⟨x2.kind==7,som<|ifF a5 hcn,q.k<|s5 z z z z z,br H⟩)
  rintro aV wo ⟨xm,rfl,_,s6⟩;revert aV;refine Wo ?_;obtain ⟨aW,a6,hmp⟩:=bdS aA;refine Wt (λa w=>Sum.inl ()=aW/\Sat 81 [(3,vI x4)] a/\Below wo.z wo w) ?_ ?_
  .refine Wc z (λhcq=>?_)<|λhcq=>?_
   .refine Wq (Wd (X:=noX) 0 (pl_ 15 [7]) mo (by kernel_rfl) λbi s7 _=>dR z z (lN (vs:=[sl A0 N0 C0]) w_ v_ z z fid<|((((ae.blk:Blk wb w0.z [sl A0 N0 C0]).e I).e s6).e s7).row 0 1 z)<|dR z z (fd P_ z) ?_);have ht:=(hf.e s6).e s7;refine dR z z (l0 E_ z<|ht.at z) ?_;obtain ⟨_,aX,aB⟩:=bdS<|ifT a6 hcq;have hd:=(((h3.ag B).e I).e s6).e s7;refine dRX z z (at_ (α:=Int) x_ z_3 z z z (W.g hd) aX) ?_;rintro _ ⟨_,_,_,rfl,aY,aZ,_⟩;obtain ⟨rfl,b0⟩:=T_ aZ;refine dR z z (l0 g_3 z<|aY.at0 z)<|dM z z z<|dM z z z ?_
    have ak:=lt_ (lt_ (lt_ h3.s I.s) s6.s) s7.s;obtain ⟨rr,al,_,b1,aC⟩:=N_ aB;refine dE z z (fc call92 z<|i_i b1 (zt' ad ak) (ap.g hd) b0 (a0.g hd) V) (.inr λ_ _ h=>C_<|h.1) ?_;rintro _ O ⟨s9,rfl,hu,am⟩;refine dM z z z ?_
    iterate 3 refine dR z z (ext_ z z) ?_
    iterate 3 refine dQ z z z ?_
    refine pD<|Wo<|Wb<|Wm z<|R z (not_ z)<|Rw z ?_
    obtain ⟨b2,a7,hms⟩:=bdS aC;refine Wt (λa w=>Sum.inl ()=b2/\Sat 81 [(3,vI x4)] a/\Below O.z O w) ?_ ?_
    .refine Wc z (λhcv=>?_)<|λhcv=>?_
     .exact a_5<|λ_ q=>⟨som<|ifT a7 hcv,q.k<|s1 z,br O⟩
     refine Wq ?_;obtain ⟨b3,a8,a9⟩:=bdS<|ifF a7 hcv;refine Wt (λa w=>∃(xw:Bool),xw=b3/\Sat 81 [(3,vI x4),(5,pt wb.z),(11,vI rr),(12,vI al),(58,vB xw)] a/\Below O.z O w) ?_ ?_
     .refine Wg<|Rf z a_o z<|R z (l0 g_3 z<|(ht.e s9).at z)<|Rq z z z<|Rm z ?_
      rcases bs (x2.kind==5) with L | L
      .exact Rh z L (mv z)<|Rh z L (b_N z z)<|R z (pT z L z)<|Ra z<|Wl (λ_ q=>⟨decide<|rr<=40,som<|ifT a8 L,q.k<|s5 z z z z z,br O⟩)
      exact Nh z L<|Nh z L<|R z (pF z L z)<|Ra z<|Wl (λ_ q=>⟨false,som<|ifF a8 L,q.k<|s5 z z z z z,br O⟩)
     rintro b4 wx ⟨xw,rfl,_,sa⟩;revert b4;refine Wo<|Wc z (λhcy=>?_) (λhcy=>?_)
     .refine Wm z<|Rm z<|RA z z<|Rw z ?_
      obtain rfl:=som<|ifT a9 hcy;have aD:=elR hms;obtain rfl:=som aD;have aE:=elR hmp;obtain rfl:=som aE;have aF:=elR hmc;obtain rfl:=som aF;exact Wr<|rtO<|rtO<|A_ hr z z z ⟨bup (bup (bup (bup (bup h3 I) s6) s7) s9) sa,z,am,hu,ii z⟩
     refine Wq ?_;obtain ⟨b5,aa,ab⟩:=bdS<|ifF a9 hcy;refine Wt (λa w=>∃(xz:Bool),xz=b5/\Sat 81 [(3,vI x4),(11,vI rr),(12,vI al),(68,vB xz)] a/\Below wx.z wx w) ?_ ?_
     .refine Wg<|Rf z a_o z ?_
      have an:=(ht.e s9).e sa;refine R z (l0 g_3 z<|an.at z)<|Rq z z z<|Rm z ?_
      rcases bs (x2.kind==7) with J | J
      .refine Rh z J (lN (vs:=vR x2 A2 N2 C2 A3 N3 C3 A1 N1 C1 A4 N4 C4) H_ m_ z z fid<|an.row 0 8 z)<|Rh z J (mv z) ?_
       have he:=(hd.e s9).e sa;obtain ⟨b6,b7,aG⟩:=bdS<|ifT aa J;refine Eg z z J z (fc call93 z<|e_g b7 (zt' ad<|lt_ (lt_ ak s9.s) sa.s) aq ar au (av.g he) (aw.g he) (ax.g he) (W.g he) hu<|ii z) ?_;rintro _ _ ⟨b8,rfl,_⟩;exact Rh z J (c_d z z)<|R z (pT z J z)<|Ra z<|Wl (λ_ q=>⟨decide<|0<=b6,som aG,q.k<|s4 z z z z,b8⟩)
      iterate 4 refine Nh z J ?_
      exact R z (pF z J z)<|Ra z<|Wl (λ_ q=>⟨false,som<|ifF aa J,q.k<|s4 z z z z,br wx⟩)
     rintro b9 _ ⟨xz,rfl,_,ao⟩;revert b9;refine Wo<|Wc z (λY=>?_) (λY=>?_)
     .refine Wm z<|Rm z<|RA z z<|Rw z ?_
      obtain rfl:=som<|ifT ab Y;have aH:=elR hms;obtain rfl:=som aH;have aI:=elR hmp;obtain rfl:=som aI;have aJ:=elR hmc;obtain rfl:=som aJ;exact Wr<|rtO<|rtO<|A_ hr z z z ⟨bup (bup (bup (bup (bup (bup h3 I) s6) s7) s9) sa) ao,z,am,ii z,hu⟩
     exact a_5<|λ_ q=>⟨som<|ifF ab Y,q.k<|s1 z,bup sa ao⟩
    rintro ba _ ⟨rfl,_,bb⟩;have aK:=elL hms;revert ba;exact λ_ q=>⟨som aK,q.k<|s1 z,bup (bup s7 s9) bb⟩
   exact a_5<|λ_ q=>⟨som<|ifF a6 hcq,q.k<|s1 z,br wo⟩
  rintro bc _ ⟨rfl,_,be⟩;have aL:=elL hmp;revert bc;exact λ_ q=>⟨som aL,q.k<|s1 z,bup s6 be⟩
 rintro bf _ ⟨rfl,_,bg⟩;have aM:=elL hmc;revert bf;refine Wo<|Wm z<|RA z z<|Rw z ?_
 obtain rfl:=som aM;exact Wr<|A_ hr z z z ⟨bup (bup h3 I) bg,z,V,ii z,ii z⟩
theorem W_w2y {x1:d_}{x2:Int}{x3:Bt}{x4:Int}{x5:Str}{res:Int×Int×Bool}(hm:c_Z n x1 x2 x3 x4 x5=some res)(H:B<=w0.z)(L:repS w0 B (sl A0 N0 C0) x1.rules)(b5:inI x2)(a1:repS w0 B (sl A7 N7 C7) x3)(aq:inI x4)(b6:x5.b.length<=LEN):i_ prog 54 [(.agg #[sl A0 N0 C0]),vI x2,sl A7 N7 C7,vI x4,Str.v x5] w0 (Q8 w0 B res):=by
 unfold c_Z at hm
 refine goG func54 z z z λfn hr=>Ws<|E z (fb z) ?_
 rintro _ wp ⟨rfl,a5⟩;have G:=a5.below;have hu:Blk wp w0.z [sl A0 N0 C0]:=a5.blk;refine RA z z<|Rw z<|Ws<|Rf z a_i z<|R z (l0 a_n z<|hu.at z)<|Rm z ?_
 obtain ⟨I,aD,ar⟩:=bdS hm;refine RX z (at_ (α:=b_) V_ m_ z z z (L.e G) aD) ?_;rintro _ ⟨_,_,_,rfl,aE,aF,_⟩;obtain ⟨J,na,cb,ac,nd,ce,af,ng,ch,ai,nj,ck,rfl,hv,hw,hx,hy,hz,V,W⟩:=a_F aF;refine R z (lN (vs:=vR I J na cb ac nd ce af ng ch ai nj ck) H_ m_ z z fid aE)<|E z (fa b_S) ?_
 rintro _ aG ⟨rfl,a6⟩;have h4:=a6.below;refine E0 (fs0 (cur':=vR I J na cb ac nd ce af ng ch ai nj ck) m_ z z (a6.blk:Blk aG wp.z [(Str.v (⟨[]⟩:Str)),vI 0,vI 0,vB false,sN,sN,sN,sN]) z z z z) ?_;rintro _ _ ⟨a7,aH⟩;have h5:=aH.one;refine Wn<|Ws ?_
 have a8:=(hu.e h4).c h5<|djs<|mmr hu.lt
 refine R z (lN (vs:=[sl A0 N0 C0]) w_ v_ z z fid<|a8.row 0 1 z)<|R z (lN (vs:=vR I J na cb ac nd ce af ng ch ai nj ck) H_ m_ z z fid<|a7.row 0 8 z)<|RM z z ?_
 have aa:∀k∈[wp.z],¬B k:=or0 (f_ lr)<|p_<|zt' H G.s;have Y:=((G.ag B).e h4).c h5<|e_ aa
 have hl:=(h4.ag B).c h5<|e_ aa
 have ab:=lt_ (lt_ G.s h4.s) h5.s;obtain ⟨_,aI,aJ,aK,au⟩:=N_ ar;refine E z (fc call100 z<|W_w2x aK (zt' H ab) (L.g Y) hv hw hx (hy.g hl) (hz.g hl) (V.g hl) (W.g hl) (a1.g Y) aq) ?_;rintro _ wm ⟨s3,rfl,aL,a0,aM⟩;refine Rm z ?_
 iterate 3 refine Re z z z ?_
 refine RA z z<|Rw z<|Wq<|Ws<|Rw z ?_
 obtain ⟨_,av,a2⟩:=bdS au;refine Wf (σ:=Int) (ρ:=Int×Int×Bool) (λ(ad:Nat)(x6:Int) a w=>Sat 64 [(2,sl A7 N7 C7),(4,Str.v x5),(5,pt w0.z),(13,pt wp.z),(14,vI x6),(15,vI aI),(16,vI aJ),(17,vI ((ad:Nat):Int))] a/\Below wm.z wm w/\inI x6) (λ(x6:Int) a w=>Sat 64 [] a/\Below wm.z wm w/\inI x6) (rQ prog fn<|Q8 w0 B) av ?_ ?_ ?_ ?_ ?_
 .exact λ_ q=>⟨q.k<|s8 z z z z z z z z,br wm,aL⟩
 .rintro ad x6 _ _ _ hkq ⟨aw,s1,hn⟩ ax;refine Wu ?_ aw;refine Wq<|Wm z<|Rm z<|Rl z z z<|Wx z (λ_=>?_) (λhc=>(k_u hkq hc).elim)
  refine Wk<|Wq<|Wb<|Ws ?_
  have ae:=(a7.e s3).e s1;refine R z (lN (vs:=vR I J na cb ac nd ce af ng ch ai nj ck) H_ m_ z z fid<|ae.row 0 8 z)<|RM z z ?_
  have ho:=(hl.e s3).e s1;have ah:=lt_ (lt_ ab s3.s) s1.s;obtain ⟨_,aN,ay⟩:=bdS ax;refine E z (fc call93 z<|e_g aN (zt' H ah) hv hw hx (hy.g ho) (hz.g ho) (V.g ho) (W.g ho) aM<|ic (Nat.le_of_lt hkq)<|tl_ a0) ?_;rintro _ _ ⟨s2,rfl,aj⟩;refine Rw z<|Wq<|Ws<|R z (lN (vs:=vR I J na cb ac nd ce af ng ch ai nj ck) H_ m_ z z fid<|(ae.e s2).row 0 8 z)<|Rm z ?_
  have ht:=ho.e s2;have ak:=lt_ ah s2.s;obtain ⟨_,aO,a3⟩:=bdS ay;refine E z (fc call94 z<|W_w1b aO (zt' H ak) hv hw hx (hy.g ht) (hz.g ht) (V.g ht) (W.g ht)<|ic (Nat.le_of_lt hkq)<|tl_ a0) ?_;rintro _ _ ⟨s7,rfl,_⟩;refine Rm z<|R z (a_K z z)<|Wx z (λhcs=>?_) (λhcs=>?_)
  .exact Wm z<|Rm z<|RA z z<|Rw z<|Wr<|rtO<|qL (som<|ifT a3 hcs).symm<|A_ hr z z z ⟨bup (bup (bup (bup (bM (bup G h4) h5<|m1 G.s) s3) s1) s2) s7,z,aj,hn⟩
  refine Wk<|Ws<|R z (lN (vs:=[sl A0 N0 C0]) w_ v_ z z fid<|((((a8.e s3).e s1).e s2).e s7).row 0 1 z)<|RM z z<|Rm z ?_
  have al:=(((Y.e s3).e s1).e s2).e s7;have am:=lt_ ak s7.s;obtain ⟨aP,aQ,_,aR,a4⟩:=N_<|ifF a3 hcs;refine E z (fc call55 z<|i_j.run aR (zt' H am) (L.g al) aj (a1.g al) hn) ?_;rintro _ aS ⟨sr,aT,aU,aV,_,aW,aX,aY,_,rfl,_,_,_,aZ,_,_,_⟩;refine Rm z ?_
  iterate 3 refine Re z z z ?_
  refine E z (fa a_f) ?_;rintro _ b0 ⟨rfl,an⟩;have ao:=an.below;refine E0 (fs0 (cur':=[vI aP.number,sl aT aU aV,sl aW aX aY]) h_ z z (an.blk:Blk b0 aS.z [vI 0,sN,sN]) z z z z) ?_;rintro _ _ ⟨_,b1⟩;have ap:=b1.one;refine Ra z<|Rw z<|Wq<|Wm z<|R z (nq z z)<|Wx z (λO=>?_) (λO=>?_)
  .exact Ws<|RA z z<|Rw z<|Wr<|rtO<|qL (som<|ifT a4 O).symm<|A_ hr z z z ⟨bM (bup (bup (bup (bup (bup (bup (bM (bup G h4) h5<|m1 G.s) s3) s1) s2) s7) sr) ao) ap<|m1<|lt_ am sr.s,z,ii z,ii z⟩
  exact Wk<|Wg<|Rm z<|Rw z<|Wg<|Rm z<|R z (inc_ hkq (tl_ a0) z z)<|Ra z<|Wl (λ_ q=>⟨aQ,(som<|ifF a4 O).symm,⟨q.k<|s8 z z z z z z z z,bM (bup (bup (bup (bup s1 s2) s7) sr) ao) ap<|m1<|lt_ (lt_ (lt_ s1.s s2.s) s7.s) sr.s,aZ⟩⟩)
 .rintro x6 _ _ ⟨az,b2,hn⟩;refine Wu ?_ az;refine Wq<|Wm z<|Rm z<|Rl z z z<|Wx z (λhc=>(k_v hc).elim) (λ_=>?_)
  exact We<|λ_ q=>⟨rfl,⟨q.k sn,b2,hn⟩⟩
 .rintro x6 b3 _ rfl ⟨_,b4,hn⟩;have aA:=elL a2;revert b3;refine Wo<|Ws<|RA z z<|Rw z ?_
  obtain rfl:=som aA;exact Wr<|A_ hr z z z ⟨bup (bup (bM (bup G h4) h5<|m1 G.s) s3) b4,z,ii z,ii z⟩
 rintro _ _ _ _ rfl ⟨rfl,aB⟩;have aC:=elR a2;obtain rfl:=som aC;exact ⟨aB,z⟩
def Q19 (w0:World)(B:Zone)(r:k_×Bool)(v:Value)(w':World):Prop:=Bw w0 w'/\un2 (λG H=>v = .tuple #[(.agg #[Str.v G.path,vI G.rule,vI G.start,vI G.end_]),vB H]/\G.path.b.length<=LEN/\inI G.rule/\inI G.start/\inI G.end_) r
end Go.Vw
