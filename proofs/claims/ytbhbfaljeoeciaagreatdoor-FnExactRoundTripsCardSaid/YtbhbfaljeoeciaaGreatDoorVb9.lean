
import Derived.Test.YtbhbfaljeoeciaaGreatDoorV1
import Derived.Test.YtbhbfaljeoeciaaGreatDoorVb7
import Derived.Test.YtbhbfaljeoeciaaGreatDoorVb8
import Derived.ScopeJumps
import Derived.Recover
import Derived.Tactics
import Derived.Tactics2
import Derived.Laws.Pointers
import Derived.Lib.Hide
set_option linter.unusedVariables false
namespace Go.Vw
open Go.RowKit Dat Go.Proofs
open Go.Proofs.Tryz
open Go.Vw renaming f_U->Wq,f_W->Wg,WC.of_KC->Wo,e_R->Wl,f_V->Wc,h_F->Wr,i_p->Wu,i_6->pT,i_7->pF,g_j->fd,g_k->l1,i_t->lN,f_1->mv,f_2->asg,i_8->lnR,g_p->lss,g_o->eql,g_l->ext_,i_b->bP,g_m->add_,h_T->inc_,i_x->not_,i_9->at_,h_N->fc,e_S->fs,h_M->fb,h_L->fa,h_Z->sr,i_4->cr,i_5->cM,i_3->bM,h_R->iS,h_Q->iA,g_0->br,g_6->oA,h_V->bs,ltge->lg,inor->io,i_w->nq,i_u->lnT,i_v->sb_,h_X->ar_,h_W->al_,h_Y->ds,j_1->m1,i_1->nr_,i_0->nl_,g_7->aa_,all_nil->an_,e_Q->Wb,g_2->u8,h_J->pD,h_G->We,h_S->Wt,h_O->fS,e_E->or_,i_q->Wf,i_h->qL,h_I->Wd,i_c->fN,g_8->na_,i_2->nj,i_d->f0,i_a->rX,i_e->tl_,i_f->ic
variable {A0:Option Addr}{N0 C0:Nat}{B:Zone}{w0:World}{AC:Option Addr}{AB:Option Addr}{AD:Option Addr}{AE:Option Addr}{NC CC:Nat}{NB CB:Nat}{ND CD:Nat}{NE CE:Nat}{A3:Option Addr}{A2:Option Addr}{A1:Option Addr}{A4:Option Addr}{N3 C3:Nat}{N2 C2:Nat}{N1 C1:Nat}{N4 C4:Nat}{A9:Option Addr}{N9 C9:Nat}{A6:Option Addr}{N6 C6:Nat}{n:Nat}{A5:Option Addr}{A7:Option Addr}{N5 C5:Nat}{N7 C7:Nat}{AA:Option Addr}{AF:Option Addr}{NA CA:Nat}{NF CF:Nat}{A8:Option Addr}{N8 C8:Nat}
def Q0 (w0:World)(B:Zone)(r:Int)(v:Value)(w':World):Prop:=Bw w0 w'/\(fun G=>(vI G)=v/\inI G) r
theorem W_w2i {x1:List UInt8}{x2:Int}{res:Int}(hm:j_2 x1 x2=some res)(J:B<=w0.z)(H:repS w0 B (sl A0 N0 C0) x1)(I:inI x2):l_ prog 47 [sl A0 N0 C0,vI x2] w0 (Q0 w0 B res):=by
 unfold j_2 at hm
 refine goG func47 z z z fun fn hr=>Ws<|Rw z<|Wm z<|Rm z<|R z (lnR n_ z H)<|R z (sb_ z z)<|Rw z<|Wq<|Wm z<|Rl z z z<|Wx z (fun G=>?_) (fun G=>?_)
 ·refine Ws<|Rw z ?_
  obtain rfl:=som<|ifT hm G;exact Wr<|f_ hr z ⟨br w0,z,ii z⟩
 refine Wk<|Wm z<|Rw z ?_
 obtain rfl:=som<|ifF hm G;exact Wr<|f_ hr z ⟨br w0,z,iS _ _⟩
theorem W_w2j {x1:List Str}{x2:Int}{res:Int}(hm:g_O x1 x2=some res)(Y:B<=w0.z)(G:repS w0 B (sl A0 N0 C0) x1)(W:inI x2):l_ prog 48 [sl A0 N0 C0,vI x2] w0 (Q0 w0 B res):=by
 unfold g_O at hm
 refine goG func48 z z z fun fn hr=>Ws<|Rw z<|Wm z<|Rm z<|R z (lnR a_d z G)<|R z (sb_ z z)<|Rw z<|Wq<|Wm z<|Rl z z z<|Wx z (fun H=>?_) (fun H=>?_)
 ·refine Ws<|Rw z ?_
  obtain rfl:=som<|ifT hm H;exact Wr<|f_ hr z ⟨br w0,z,ii z⟩
 refine Wk<|Wq<|Ws<|Rw z ?_
 obtain ⟨_,hub,J⟩:=bdS<|ifF hm H;refine Wf (σ:=Int) (ρ:=Int) (fun (k6:Nat)(x0:Int) a w=>Sat 28 [(0,sl A0 N0 C0),(1,vI x0),(5,vI ((k6:Nat):Int))] a/\Below w0.z w0 w/\inI x0) (fun (x0:Int) a w=>Sat 28 [(1,vI x0)] a/\Below w0.z w0 w/\inI x0) (rQ prog fn<|Q0 w0 B) hub ?_ ?_ ?_ ?_ ?_
 ·exact fun _ q=>⟨q.k<|s3 z z z,br w0,iS _ _⟩
 ·rintro k6 x0 _ _ _ L ⟨hSc,s4,h1⟩ hmd;refine Wu ?_ hSc;refine Wq<|Wm z<|Rm z ?_
  have V:=G.e s4;refine R z (lnR a_d z V)<|Rl z z z<|Wx z (fun _=>?_) (fun hc=>(a_0 L hc).elim)
  refine Wk<|Wq<|Wb<|Wm z<|RM z z ?_
  obtain ⟨xe,ef,O⟩:=bdS hmd;refine RX z (at_ (α:=Str) a_d z_9 z z z V ef) ?_;rintro _ ⟨_,_,_,rfl,hg,hh,_⟩;obtain ⟨rfl,_⟩:=b_P hh;refine R z (l0 g_9 z<|hg.at0 z)<|R z (lnT d_9 z)<|R z (sb_ z z)<|Rw z<|Wm z<|Rl z z z<|Wx z (fun I=>?_) (fun I=>?_)
  ·exact Ws<|Rw z<|Wr<|rtO<|qL (som<|ifT O I).symm<|f_ hr z ⟨s4,z,ii z⟩
  exact Wk<|Wg<|Rm z<|R z (inc_ L (lt_ (repS.len G) G_) z z)<|Ra z<|Wl (fun _ q=>⟨r_ x0 (xe.b.length:Int),(som<|ifF O I).symm,⟨q.k<|s3 z z z,s4,iS _ _⟩⟩)
 ·rintro x0 _ _ ⟨hSi,sa,h1⟩;refine Wu ?_ hSi;refine Wq<|Wm z<|Rm z<|R z (lnR a_d z<|G.e sa)<|Rl z z z<|Wx z (fun hc=>(a_1 hc).elim) (fun _=>?_)
  exact We<|fun _ q=>⟨rfl,⟨q.k<|s1 z,sa,h1⟩⟩
 ·rintro x0 aj _ rfl ⟨_,sk,h1⟩;have hml:=elL J;revert aj;refine Wo<|Wm z<|Rw z ?_
  obtain rfl:=som hml;exact Wr<|f_ hr z ⟨sk,z,h1⟩
 rintro _ _ _ _ rfl ⟨rfl,hqm⟩;have hmn:=elR J;obtain rfl:=som hmn;exact ⟨hqm,z⟩
theorem W_w1a {x1:List Int}{x2:Int}{res:Int}(hm:g_P x1 x2=some res)(J:B<=w0.z)(H:repS w0 B (sl A0 N0 C0) x1)(I:inI x2):l_ prog 49 [sl A0 N0 C0,vI x2] w0 (Q0 w0 B res):=by
 unfold g_P at hm
 refine goG func49 z z z fun fn hr=>Ws<|Rw z<|Wm z<|Rm z<|R z (lnR y_ z H)<|R z (sb_ z z)<|Rw z<|Wq<|Wm z<|Rl z z z<|Wx z (fun G=>?_) (fun G=>?_)
 ·refine Ws<|Rw z ?_
  obtain rfl:=som<|ifT hm G;exact Wr<|f_ hr z ⟨br w0,z,ii z⟩
 refine Wk<|Wm z<|Rw z ?_
 obtain rfl:=som<|ifF hm G;exact Wr<|f_ hr z ⟨br w0,z,iS _ _⟩
theorem W_w2k {x1:g_}{x2:Int}{res:Int}(hm:f_i x1 x2=some res)(H:B<=w0.z)(a2:x1.name.b.length<=LEN)(a3:inI x1.kind)(a4:inI x1.size)(W:repS w0 B (sl AC NC CC) x1.bytes)(Y:repS w0 B (sl AB NB CB) x1.names)(a0:repS w0 B (sl AD ND CD) x1.tags)(a1:repS w0 B (sl AE NE CE) x1.kids)(a5:inI x2):l_ prog 30 [(.agg #[Str.v x1.name,vI x1.kind,vI x1.size,vB x1.little,sl AC NC CC,sl AB NB CB,sl AD ND CD,sl AE NE CE]),vI x2] w0 (Q0 w0 B res):=by
 unfold f_i at hm
 refine goG func30 z z z fun fn hr=>Ws<|E z (fb z) ?_
 rintro _ wl ⟨rfl,ha⟩;have G:=ha.below;have h4:Blk wl w0.z (vR x1 AC NC CC AB NB CB AD ND CD AE NE CE):=ha.blk;refine Rw z<|Wm z<|Rf z n_h z<|R z (l0 g_9 z<|h4.at z)<|R z (lnT d_9 z)<|R z (sb_ z z)<|Rw z<|Wq<|Wm z<|Rl z z z<|Wx z (fun I=>?_) (fun I=>?_)
 ·refine Ws<|Rw z ?_
  obtain rfl:=som<|ifT hm I;exact Wr<|f_ hr z ⟨G,z,ii z⟩
 refine Wk<|Ws<|Rf z n_i z<|R z (l0 J_ z<|h4.at z)<|Rm z ?_
 obtain ⟨_,en,hmb⟩:=bdS<|ifF hm I;refine E z (fc call47 z<|W_w2i en (zt' H G.s) (W.e G)<|iS _ _) ?_;rintro _ _ ⟨s1,rfl,ho⟩;refine Rw z<|Wq<|Wm z<|Rl z z z<|Wx z (fun J=>?_) (fun J=>?_)
 ·refine Ws<|Rw z ?_
  obtain rfl:=som<|ifT hmb J;exact Wr<|f_ hr z ⟨bup G s1,z,ii z⟩
 refine Wk<|Ws<|Rf z n_j z ?_
 have hc:=h4.e s1;refine R z (l0 b_L z<|hc.at z)<|Rm z ?_
 have hd:=(G.ag B).e s1;have he:=lt_ G.s s1.s;obtain ⟨_,ep,hmf⟩:=bdS<|ifF hmb J;refine E z (fc call48 z<|W_w2j ep (zt' H he) (Y.g hd) ho) ?_;rintro _ _ ⟨s2,rfl,hq⟩;refine Rw z<|Wq<|Wm z<|Rl z z z<|Wx z (fun L=>?_) (fun L=>?_)
 ·refine Ws<|Rw z ?_
  obtain rfl:=som<|ifT hmf L;exact Wr<|f_ hr z ⟨bup (bup G s1) s2,z,ii z⟩
 refine Wk<|Ws<|Rf z n_k z ?_
 have hg:=hc.e s2;refine R z (l0 A_ z<|hg.at z)<|Rm z ?_
 have hh:=hd.e s2;have hi:=lt_ he s2.s;obtain ⟨_,er,hmj⟩:=bdS<|ifF hmf L;refine E z (fc call49 z<|W_w1a er (zt' H hi) (a0.g hh) hq) ?_;rintro _ _ ⟨s3,rfl,ht⟩;refine Rw z<|Wq<|Wm z<|Rl z z z<|Wx z (fun O=>?_) (fun O=>?_)
 ·refine Ws<|Rw z ?_
  obtain rfl:=som<|ifT hmj O;exact Wr<|f_ hr z ⟨bup (bup (bup G s1) s2) s3,z,ii z⟩
 refine Wk<|Ws<|Rf z n_l z<|R z (l0 A_ z<|(hg.e s3).at z)<|Rm z ?_
 obtain ⟨_,es,hmk⟩:=bdS<|ifF hmj O;refine E z (fc call49 z<|W_w1a es (zt' H<|lt_ hi s3.s) (a1.g<|hh.e s3) ht) ?_;rintro _ _ ⟨sm,rfl,hu⟩;refine Rw z<|Wq<|Wm z<|Rl z z z<|Wx z (fun V=>?_) (fun V=>?_)
 ·refine Ws<|Rw z ?_
  obtain rfl:=som<|ifT hmk V;exact Wr<|f_ hr z ⟨bup (bup (bup (bup G s1) s2) s3) sm,z,ii z⟩
 refine Wk<|Wm z<|Rw z ?_
 obtain rfl:=som<|ifF hmk V;exact Wr<|f_ hr z ⟨bup (bup (bup (bup G s1) s2) s3) sm,z,hu⟩
theorem W_w2l {x1:List g_}{x2:Int}{res:Int}(hm:j_3 x1 x2=some res)(a2:B<=w0.z)(G:repS w0 B (sl A0 N0 C0) x1)(ab:inI x2):l_ prog 11 [sl A0 N0 C0,vI x2] w0 (Q0 w0 B res):=by
 unfold j_3 at hm
 refine goG func11 z z z fun fn hr=>Ws<|Rw z<|Wm z<|Rm z<|R z (lnR e_1 z G)<|R z (sb_ z z)<|Rw z<|Wq<|Wm z<|Rl z z z<|Wx z (fun H=>?_) (fun H=>?_)
 ·refine Ws<|Rw z ?_
  obtain rfl:=som<|ifT hm H;exact Wr<|f_ hr z ⟨br w0,z,ii z⟩
 refine Wk<|Wq<|Ws<|Rw z ?_
 obtain ⟨_,huc,J⟩:=bdS<|ifF hm H;refine Wf (σ:=Int) (ρ:=Int) (fun (k6:Nat)(x0:Int) a w=>Sat 27 [(0,sl A0 N0 C0),(1,vI x0),(5,vI ((k6:Nat):Int))] a/\Below w0.z w0 w/\inI x0) (fun (x0:Int) a w=>Sat 27 [(1,vI x0)] a/\Below w0.z w0 w/\inI x0) (rQ prog fn<|Q0 w0 B) huc ?_ ?_ ?_ ?_ ?_
 ·exact fun _ q=>⟨q.k<|s3 z z z,br w0,iS _ _⟩
 ·rintro k6 x0 _ _ _ L ⟨hSd,s2,h1⟩ hme;refine Wu ?_ hSd;refine Wq<|Wm z<|Rm z ?_
  have V:=G.e s2;refine R z (lnR e_1 z V)<|Rl z z z<|Wx z (fun _=>?_) (fun hc=>(a_0 L hc).elim)
  refine Wk<|Wq<|Wb<|Wm z<|Rm z ?_
  obtain ⟨xf,eg,hmh⟩:=bdS hme;refine RX z (at_ (α:=g_) e_1 z_56 z z z V eg) ?_;rintro _ ⟨_,_,_,rfl,hi,hj,_⟩;obtain ⟨ak,nl,cm,an,no,cp,aq,nr,cs,au,nt,cv,rfl,hw,hx,hy,hz,a3,a4,a5⟩:=a_v hj;refine R z (lN (vs:=vR xf ak nl cm an no cp aq nr cs au nt cv) g_56 z_56 z z fid hi)<|Rm z ?_
  obtain ⟨a6,a7,O⟩:=bdS hmh;refine E z (fc call30 z<|W_w2k a7 (zt' a2 s2.s) hw hx hy hz a3 a4 a5 h1) ?_;rintro _ _ ⟨sa,rfl,a8⟩;refine Rw z<|Wm z<|Rl z z z<|Wx z (fun I=>?_) (fun I=>?_)
  ·exact Ws<|Rw z<|Wr<|rtO<|qL (som<|ifT O I).symm<|f_ hr z ⟨bup s2 sa,z,ii z⟩
  exact Wk<|Wg<|Rm z<|R z (inc_ L (lt_ (repS.len G) G_) z z)<|Ra z<|Wl (fun _ q=>⟨a6,(som<|ifF O I).symm,⟨q.k<|s3 z z z,bup s2 sa,a8⟩⟩)
 ·rintro x0 _ _ ⟨W,sb,h1⟩;refine Wu ?_ W;refine Wq<|Wm z<|Rm z<|R z (lnR e_1 z<|G.e sb)<|Rl z z z<|Wx z (fun hc=>(a_1 hc).elim) (fun _=>?_)
  exact We<|fun _ q=>⟨rfl,⟨q.k<|s1 z,sb,h1⟩⟩
 ·rintro x0 a9 _ rfl ⟨_,aa,h1⟩;have Y:=elL J;revert a9;refine Wo<|Wm z<|Rw z ?_
  obtain rfl:=som Y;exact Wr<|f_ hr z ⟨aa,z,h1⟩
 rintro _ _ _ _ rfl ⟨rfl,a0⟩;have a1:=elR J;obtain rfl:=som a1;exact ⟨a0,z⟩
theorem W_w2m {x1:c_}{x2:Int}{res:Int}(hm:g_Q x1 x2=some res)(O:B<=w0.z)(J:repS w0 B (sl A0 N0 C0) x1.rules)(L:inI x2):l_ prog 4 [(.agg #[sl A0 N0 C0]),vI x2] w0 (Q0 w0 B res):=by
 unfold g_Q at hm
 refine goG func4 z z z fun fn hr=>Ws<|E z (fb z) ?_
 rintro _ V ⟨rfl,h2⟩;have G:=h2.below;refine Rw z<|Ws<|Rf z n_g z<|R z (l0 g_22 z<|(h2.blk:Blk V w0.z [sl A0 N0 C0]).at z)<|Rm z ?_
 obtain ⟨_,W,I⟩:=bdS hm;refine E z (fc call11 z<|W_w2l W (zt' O G.s) (J.e G) L) ?_;rintro _ _ ⟨s4,rfl,Y⟩;refine Rw z<|Wq<|Wm z<|Rl z z z<|Wx z (fun H=>?_) (fun H=>?_)
 ·refine Ws<|Rw z ?_
  obtain rfl:=som<|ifT I H;exact Wr<|f_ hr z ⟨bup G s4,z,ii z⟩
 refine Wk<|Wm z<|Rw z ?_
 obtain rfl:=som<|ifF I H;exact Wr<|f_ hr z ⟨bup G s4,z,Y⟩
def Q1 (w0:World)(B:Zone)(r:(List UInt8))(v:Value)(w':World):Prop:=Bw w0 w'/\(fun J=>∃G H I S1,(sl G H I)=v/\a_ w' S1 (sl G H I) J/\S1.Nodup/\(∀k∈S1,w0.z<=k)) r
theorem j_e {x1:List UInt8}{res:(List UInt8)}(hm:d_S x1=some res)(Y:B<=w0.z)(W:repS w0 B (sl A0 N0 C0) x1):l_ prog 7 [sl A0 N0 C0] w0 (Q1 w0 B res):=by
 unfold d_S at hm
 refine goG func7 z z z fun fn hr=>Ws<|Rw z<|Wm z<|R z (lnR n_ z W) ?_
 obtain ⟨_,ej,hmk⟩:=bdS hm;refine E z (e_X (α:=UInt8) I_ (fun _=>l_B) ej z z) ?_;rintro _ H ⟨I,J,L,rfl,s9,hl⟩;refine Rw z<|Wq<|Ws<|Rw z ?_
 obtain ⟨_,hum,hmb⟩:=bdS hmk;refine Wf (σ:=List UInt8) (ρ:=List UInt8) (fun (kc:Nat)(x2:List UInt8) a w=>∃(G:List Nat),Sat 22 [(0,sl A0 N0 C0),(3,sl I J L),(4,vI ((kc:Nat):Int))] a/\Chg (· ∈ [w0.z]) H w/\a_ w G (sl I J L) x2/\G.Nodup/\(∀k∈G,k∈[w0.z]∨H.z<=k)) (fun (x2:List UInt8) a w=>∃(G:List Nat),Sat 22 [(3,sl I J L)] a/\Chg (· ∈ [w0.z]) H w/\a_ w G (sl I J L) x2/\G.Nodup/\(∀k∈G,k∈[w0.z]∨H.z<=k)) (rQ prog fn<|Q1 w0 B) hum ?_ ?_ ?_ ?_ ?_
 ·exact fun _ q=>⟨[w0.z],q.k<|s3 z z z,cr [w0.z] H,hl,a_e,io sr⟩
 ·rintro kc x2 _ wn _ hkd ⟨G,hSo,sa,h3,O,V⟩ hmp;refine Wu ?_ hSo;refine Wq<|Wm z<|Rm z ?_
  have he:=W.g<|(s9.ag B).c sa<|e_ (or0 (d_ lr) (p_ Y):∀k∈[w0.z],¬B k)
  refine R z (lnR n_ z he)<|Rl z z z<|Wx z (fun _=>?_) (fun hc=>(a_0 hkd hc).elim)
  refine Wk<|Wq<|Wb<|Wg<|RM z z<|RM z z ?_
  obtain ⟨_,er,hms⟩:=bdS hmp;refine RX z (at_ (α:=UInt8) n_ z_5 z z z he er) ?_;rintro _ ⟨_,_,_,rfl,ht,hu,_⟩;obtain rfl:=u8 hu;refine R z (l0 g_5 z<|ht.at0 z) ?_;obtain ⟨xv,ef,hmw⟩:=bdS hms;refine RX z (c_W (α:=UInt8) n_ z_5 z z h3 ef) ?_;rintro _ ⟨_,hx,rfl⟩;refine E0 (c_X (α:=UInt8) z_5 z hx z z z ef h3 O a_s an_ K_) ?_;rintro _ wy ⟨Sg,sz,a5,a6,a7⟩;refine Wn<|Wg<|Rm z<|R z (inc_ hkd (lt_ (repS.len W) G_) z z)<|Ra z<|Wl ?_
  have hh:∀k∈G,k∈[w0.z]∨H.z<=k:=or1 V (io sr)<|q_ lr;exact fun _ q=>⟨xv,(som hmw).symm,⟨Sg,q.k<|s3 z z z,(cM (cM (cr [w0.z] H) sa (io sr):Chg (· ∈ [w0.z]) H wn) sz hh:Chg (· ∈ [w0.z]) H wy),a5,a6,(or2 a7 hh an_ (q_ sa.s):∀k∈Sg,k∈[w0.z]∨H.z<=k)⟩⟩
 ·rintro x2 _ a8 ⟨G,a0,si,h3,O,V⟩;refine Wu ?_ a0;refine Wq<|Wm z<|Rm z ?_
  refine R z (lnR n_ z<|W.g<|(s9.ag B).c si<|e_ (or0 (d_ lr) (p_ Y):∀k∈[w0.z],¬B k))<|Rl z z z<|Wx z (fun hc=>(a_1 hc).elim) (fun _=>?_)
  exact We<|fun _ q=>⟨rfl,⟨G,q.k<|s1 z,(cM (cr [w0.z] H) si (io sr):Chg (· ∈ [w0.z]) H a8),h3,O,(or1 V (io sr) (q_ lr):∀k∈G,k∈[w0.z]∨H.z<=k)⟩⟩
 ·rintro x2 a9 _ rfl ⟨G,_,aa,h3,O,V⟩;have a1:=elL hmb;revert a9;refine Wo<|Wm z<|Rw z ?_
  obtain rfl:=som a1;exact Wr<|f_ hr z ⟨bM s9 aa<|d_ lr,I,J,L,G,z,h3,O,(or1 V (d_ lr) (b_9 s9.s):∀k∈G,w0.z<=k)⟩
 rintro _ _ _ _ rfl ⟨rfl,a2⟩;have a3:=elR hmb;obtain rfl:=som a3;exact ⟨a2,z⟩
def Q2 (w0:World)(B:Zone)(r:(List Str))(v:Value)(w':World):Prop:=Bw w0 w'/\(fun J=>∃G H I S1,(sl G H I)=v/\a_ w' S1 (sl G H I) J/\S1.Nodup/\(∀k∈S1,w0.z<=k)) r
theorem W_w2n {x1:List Str}{res:(List Str)}(hm:g_R x1=some res)(Y:B<=w0.z)(W:repS w0 B (sl A0 N0 C0) x1):l_ prog 62 [sl A0 N0 C0] w0 (Q2 w0 B res):=by
 unfold g_R at hm
 refine goG func62 z z z fun fn hr=>Ws<|Rw z<|Wm z<|R z (lnR a_d z W) ?_
 obtain ⟨_,ej,hmk⟩:=bdS hm;refine E z (e_X (α:=Str) e_G (fun _=>e_d<|lb z) ej z z) ?_;rintro _ H ⟨I,J,L,rfl,s9,hl⟩;refine Rw z<|Wq<|Ws<|Rw z ?_
 obtain ⟨_,hum,hmb⟩:=bdS hmk;refine Wf (σ:=List Str) (ρ:=List Str) (fun (kc:Nat)(x2:List Str) a w=>∃(G:List Nat),Sat 22 [(0,sl A0 N0 C0),(3,sl I J L),(4,vI ((kc:Nat):Int))] a/\Chg (· ∈ [w0.z]) H w/\a_ w G (sl I J L) x2/\G.Nodup/\(∀k∈G,k∈[w0.z]∨H.z<=k)) (fun (x2:List Str) a w=>∃(G:List Nat),Sat 22 [(3,sl I J L)] a/\Chg (· ∈ [w0.z]) H w/\a_ w G (sl I J L) x2/\G.Nodup/\(∀k∈G,k∈[w0.z]∨H.z<=k)) (rQ prog fn<|Q2 w0 B) hum ?_ ?_ ?_ ?_ ?_
 ·exact fun _ q=>⟨[w0.z],q.k<|s3 z z z,cr [w0.z] H,hl,a_e,io sr⟩
 ·rintro kc x2 _ wn _ hkd ⟨G,hSo,sa,h3,O,V⟩ hmp;refine Wu ?_ hSo;refine Wq<|Wm z<|Rm z ?_
  have he:=W.g<|(s9.ag B).c sa<|e_ (or0 (d_ lr) (p_ Y):∀k∈[w0.z],¬B k)
  refine R z (lnR a_d z he)<|Rl z z z<|Wx z (fun _=>?_) (fun hc=>(a_0 hkd hc).elim)
  refine Wk<|Wq<|Wb<|Wg<|RM z z<|RM z z ?_
  obtain ⟨_,er,hms⟩:=bdS hmp;refine RX z (at_ (α:=Str) a_d z_9 z z z he er) ?_;rintro _ ⟨_,_,_,rfl,ht,hu,_⟩;obtain ⟨rfl,hv⟩:=b_P hu;refine R z (l0 g_9 z<|ht.at0 z) ?_;obtain ⟨xw,ef,hmx⟩:=bdS hms;refine RX z (c_W (α:=Str) a_d z_9 z z h3 ef) ?_;rintro _ ⟨_,hy,rfl⟩;refine E0 (c_X (α:=Str) z_9 z hy z z z ef h3 O (e_d hv) an_ K_) ?_;rintro _ wz ⟨Sg,a5,a6,a7,a8⟩;refine Wn<|Wg<|Rm z<|R z (inc_ hkd (lt_ (repS.len W) G_) z z)<|Ra z<|Wl ?_
  have hh:∀k∈G,k∈[w0.z]∨H.z<=k:=or1 V (io sr)<|q_ lr;exact fun _ q=>⟨xw,(som hmx).symm,⟨Sg,q.k<|s3 z z z,(cM (cM (cr [w0.z] H) sa (io sr):Chg (· ∈ [w0.z]) H wn) a5 hh:Chg (· ∈ [w0.z]) H wz),a6,a7,(or2 a8 hh an_ (q_ sa.s):∀k∈Sg,k∈[w0.z]∨H.z<=k)⟩⟩
 ·rintro x2 _ a9 ⟨G,a0,si,h3,O,V⟩;refine Wu ?_ a0;refine Wq<|Wm z<|Rm z ?_
  refine R z (lnR a_d z<|W.g<|(s9.ag B).c si<|e_ (or0 (d_ lr) (p_ Y):∀k∈[w0.z],¬B k))<|Rl z z z<|Wx z (fun hc=>(a_1 hc).elim) (fun _=>?_)
  exact We<|fun _ q=>⟨rfl,⟨G,q.k<|s1 z,(cM (cr [w0.z] H) si (io sr):Chg (· ∈ [w0.z]) H a9),h3,O,(or1 V (io sr) (q_ lr):∀k∈G,k∈[w0.z]∨H.z<=k)⟩⟩
 ·rintro x2 aa _ rfl ⟨G,_,ab,h3,O,V⟩;have a1:=elL hmb;revert aa;refine Wo<|Wm z<|Rw z ?_
  obtain rfl:=som a1;exact Wr<|f_ hr z ⟨bM s9 ab<|d_ lr,I,J,L,G,z,h3,O,(or1 V (d_ lr) (b_9 s9.s):∀k∈G,w0.z<=k)⟩
 rintro _ _ _ _ rfl ⟨rfl,a2⟩;have a3:=elR hmb;obtain rfl:=som a3;exact ⟨a2,z⟩
def Q3 (w0:World)(B:Zone)(r:(List Int))(v:Value)(w':World):Prop:=Bw w0 w'/\(fun J=>∃G H I S1,(sl G H I)=v/\a_ w' S1 (sl G H I) J/\S1.Nodup/\(∀k∈S1,w0.z<=k)) r
theorem W_w1b {x1:List Int}{res:(List Int)}(hm:f_j x1=some res)(Y:B<=w0.z)(W:repS w0 B (sl A0 N0 C0) x1):l_ prog 63 [sl A0 N0 C0] w0 (Q3 w0 B res):=by
 unfold f_j at hm
 refine goG func63 z z z fun fn hr=>Ws<|Rw z<|Wm z<|R z (lnR y_ z W) ?_
 obtain ⟨_,ej,hmk⟩:=bdS hm;refine E z (e_X (α:=Int) k_n (fun _=>e_c<|ii z) ej z z) ?_;rintro _ H ⟨I,J,L,rfl,s9,hl⟩;refine Rw z<|Wq<|Ws<|Rw z ?_
 obtain ⟨_,hum,hmb⟩:=bdS hmk;refine Wf (σ:=List Int) (ρ:=List Int) (fun (kc:Nat)(x2:List Int) a w=>∃(G:List Nat),Sat 22 [(0,sl A0 N0 C0),(3,sl I J L),(4,vI ((kc:Nat):Int))] a/\Chg (· ∈ [w0.z]) H w/\a_ w G (sl I J L) x2/\G.Nodup/\(∀k∈G,k∈[w0.z]∨H.z<=k)) (fun (x2:List Int) a w=>∃(G:List Nat),Sat 22 [(3,sl I J L)] a/\Chg (· ∈ [w0.z]) H w/\a_ w G (sl I J L) x2/\G.Nodup/\(∀k∈G,k∈[w0.z]∨H.z<=k)) (rQ prog fn<|Q3 w0 B) hum ?_ ?_ ?_ ?_ ?_
 ·exact fun _ q=>⟨[w0.z],q.k<|s3 z z z,cr [w0.z] H,hl,a_e,io sr⟩
 ·rintro kc x2 _ wn _ hkd ⟨G,hSo,sa,h3,O,V⟩ hmp;refine Wu ?_ hSo;refine Wq<|Wm z<|Rm z ?_
  have he:=W.g<|(s9.ag B).c sa<|e_ (or0 (d_ lr) (p_ Y):∀k∈[w0.z],¬B k)
  refine R z (lnR y_ z he)<|Rl z z z<|Wx z (fun _=>?_) (fun hc=>(a_0 hkd hc).elim)
  refine Wk<|Wq<|Wb<|Wg<|RM z z<|RM z z ?_
  obtain ⟨_,er,hms⟩:=bdS hmp;refine RX z (at_ (α:=Int) y_ z_3 z z z he er) ?_;rintro _ ⟨_,_,_,rfl,ht,hu,_⟩;obtain ⟨rfl,hv⟩:=T_ hu;refine R z (l0 g_3 z<|ht.at0 z) ?_;obtain ⟨xw,ef,hmx⟩:=bdS hms;refine RX z (c_W (α:=Int) y_ z_3 z z h3 ef) ?_;rintro _ ⟨_,hy,rfl⟩;refine E0 (c_X (α:=Int) z_3 z hy z z z ef h3 O (e_c hv) an_ K_) ?_;rintro _ wz ⟨Sg,a5,a6,a7,a8⟩;refine Wn<|Wg<|Rm z<|R z (inc_ hkd (lt_ (repS.len W) G_) z z)<|Ra z<|Wl ?_
  have hh:∀k∈G,k∈[w0.z]∨H.z<=k:=or1 V (io sr)<|q_ lr;exact fun _ q=>⟨xw,(som hmx).symm,⟨Sg,q.k<|s3 z z z,(cM (cM (cr [w0.z] H) sa (io sr):Chg (· ∈ [w0.z]) H wn) a5 hh:Chg (· ∈ [w0.z]) H wz),a6,a7,(or2 a8 hh an_ (q_ sa.s):∀k∈Sg,k∈[w0.z]∨H.z<=k)⟩⟩
 ·rintro x2 _ a9 ⟨G,a0,si,h3,O,V⟩;refine Wu ?_ a0;refine Wq<|Wm z<|Rm z ?_
  refine R z (lnR y_ z<|W.g<|(s9.ag B).c si<|e_ (or0 (d_ lr) (p_ Y):∀k∈[w0.z],¬B k))<|Rl z z z<|Wx z (fun hc=>(a_1 hc).elim) (fun _=>?_)
  exact We<|fun _ q=>⟨rfl,⟨G,q.k<|s1 z,(cM (cr [w0.z] H) si (io sr):Chg (· ∈ [w0.z]) H a9),h3,O,(or1 V (io sr) (q_ lr):∀k∈G,k∈[w0.z]∨H.z<=k)⟩⟩
 ·rintro x2 aa _ rfl ⟨G,_,ab,h3,O,V⟩;have a1:=elL hmb;revert aa;refine Wo<|Wm z<|Rw z ?_
  obtain rfl:=som a1;exact Wr<|f_ hr z ⟨bM s9 ab<|d_ lr,I,J,L,G,z,h3,O,(or1 V (d_ lr) (b_9 s9.s):∀k∈G,w0.z<=k)⟩
 rintro _ _ _ _ rfl ⟨rfl,a2⟩;have a3:=elR hmb;obtain rfl:=som a3;exact ⟨a2,z⟩
def Q4 (w0:World)(B:Zone)(r:g_)(v:Value)(w':World):Prop:=Bw w0 w'/\(fun G=>∃H I J S1 a2 L O S2 V W Y S3 a4 n4 c4 S4,(.agg #[Str.v G.name,vI G.kind,vI G.size,vB G.little,sl H I J,sl a2 L O,sl V W Y,sl a4 n4 c4])=v/\G.name.b.length<=LEN/\inI G.kind/\inI G.size/\a_ w' S1 (sl H I J) G.bytes/\a_ w' S2 (sl a2 L O) G.names/\a_ w' S3 (sl V W Y) G.tags/\a_ w' S4 (sl a4 n4 c4) G.kids/\(S1++(S2++(S3++S4))).Nodup/\(∀k∈(S1++(S2++(S3++S4))),w0.z<=k)) r
theorem W_w2o {x1:g_}{res:g_}(hm:g_S x1=some res)(L:B<=w0.z)(aE:x1.name.b.length<=LEN)(aF:inI x1.kind)(aG:inI x1.size)(aH:repS w0 B (sl AC NC CC) x1.bytes)(aI:repS w0 B (sl AB NB CB) x1.names)(aJ:repS w0 B (sl AD ND CD) x1.tags)(aK:repS w0 B (sl AE NE CE) x1.kids):l_ prog 38 [(.agg #[Str.v x1.name,vI x1.kind,vI x1.size,vB x1.little,sl AC NC CC,sl AB NB CB,sl AD ND CD,sl AE NE CE])] w0 (Q4 w0 B res):=by
 unfold g_S at hm
 refine goG func38 z z z fun fn hr=>Ws<|E z (fb z) ?_
 rintro _ a7 ⟨rfl,a8⟩;have hw:=a8.below;have a9:Blk a7 w0.z (vR x1 AC NC CC AB NB CB AD ND CD AE NE CE):=a8.blk;refine E z (fa b_Y) ?_;rintro _ Y ⟨rfl,aa⟩;have hp:=aa.below;have hh:Blk Y a7.z [(Str.v (⟨[]⟩:Str)),vI 0,vI 0,vB false,sl none 0 0,sl none 0 0,sl none 0 0,sl none 0 0]:=aa.blk;refine Wn<|Ws<|E z (fa b_Y) ?_
 rintro _ aP ⟨rfl,ab⟩;have hi:=ab.below;have hq:Blk aP Y.z [(Str.v (⟨[]⟩:Str)),vI 0,vI 0,vB false,sl none 0 0,sl none 0 0,sl none 0 0,sl none 0 0]:=ab.blk;refine Wn<|Ws<|Rf z n_h z ?_
 have ad:=(a9.e hp).e hi;refine R z (l0 g_9 z<|ad.at z)<|Rf z d_z z<|E0 (fs0 (cur':=[Str.v x1.name,vI 0,vI 0,vB false,sl none 0 0,sl none 0 0,sl none 0 0,sl none 0 0]) z_9 z z hq z z z z) ?_
 rintro _ _ ⟨aQ,aR⟩;have I:=aR.one;refine Wn<|Ws<|Rf z f_56_1 z ?_
 have J:=mm1 a9.lt hp.s;have af:=ad.c I<|djs J
 refine R z (l0 g_3 z<|af.at z)<|Rf z a_M z<|E0 (fs0 (cur':=[Str.v x1.name,vI x1.kind,vI 0,vB false,sl none 0 0,sl none 0 0,sl none 0 0,sl none 0 0]) z_3 z z aQ z z z z) ?_
 rintro _ _ ⟨aS,aT⟩;have ha:=aT.one;refine Wn<|Ws<|Rf z f_56_2 z ?_
 have ah:=af.c ha<|djs J
 refine R z (l0 g_3 z<|ah.at z)<|Rf z a_G z<|E0 (fs0 (cur':=[Str.v x1.name,vI x1.kind,vI x1.size,vB false,sl none 0 0,sl none 0 0,sl none 0 0,sl none 0 0]) z_3 z z aS z z z z) ?_
 rintro _ _ ⟨aU,aV⟩;have hb:=aV.one;refine Wn<|Ws<|Rf z f_56_3 z ?_
 have ai:=ah.c hb<|djs J
 refine R z (l0 g_4 z<|ai.at z)<|Rf z c_R z<|E0 (fs0 (cur':=vR x1 none 0 0 none 0 0 none 0 0 none 0 0) z_4 z z aU z z z z) ?_
 rintro _ _ ⟨aW,aX⟩;have hc:=aX.one;refine Wn<|Ws<|Rf z n_i z ?_
 have ak:=ai.c hc<|djs J
 refine R z (l0 J_ z<|ak.at z) ?_;have a0:=lt_ hw.s hp.s;have hd:∀k∈[Y.z],¬B k:=or0 (d_ lr)<|p_<|zt' L a0;have al:=((((((hw.ag B).e hp).e hi).c I<|e_ hd).c ha<|e_ hd).c hb<|e_ hd).c hc<|e_ hd
 have a1:=lt_ (lt_ (lt_ (lt_ (lt_ a0 hi.s) I.s) ha.s) hb.s) hc.s;obtain ⟨_,aY,aL⟩:=bdS hm;refine E z (fc call7 z<|j_e aY (zt' L a1)<|aH.g al) ?_;rintro _ _ ⟨s5,ae,nf,cg,aZ,rfl,hx,b0,a2⟩;refine Rf z a_Z z<|E0 (fs0 (cur':=vR x1 ae nf cg none 0 0 none 0 0 none 0 0) z_25 z z (aW.e s5) z z z z) ?_
 rintro _ _ ⟨b3,b4⟩;have h3:=b4.one;refine Wn<|Ws<|Rf z n_j z ?_
 have am:=(ak.e s5).c h3<|djs J
 refine R z (l0 b_L z<|am.at z) ?_;have an:=(al.e s5).c h3<|e_ hd
 have a3:=lt_ (lt_ a1 s5.s) h3.s;obtain ⟨_,b5,aM⟩:=bdS aL;refine E z (fc call62 z<|W_w2n b5 (zt' L a3)<|aI.g an) ?_;rintro _ _ ⟨s4,aj,nk,cl,b6,rfl,a4,b7,hy⟩;refine Rf z c_b z<|E0 (fs0 (cur':=vR x1 ae nf cg aj nk cl none 0 0 none 0 0) z_53 z z (b3.e s4) z z z z) ?_
 rintro _ _ ⟨b8,b9⟩;have h1:=b9.one;refine Wn<|Ws<|Rf z n_k z ?_
 have ao:=(am.e s4).c h1<|djs J
 refine R z (l0 A_ z<|ao.at z) ?_;have ap:=(an.e s4).c h1<|e_ hd
 have a5:=lt_ (lt_ a3 s4.s) h1.s;obtain ⟨_,ba,aN⟩:=bdS aM;refine E z (fc call63 z<|W_w1b ba (zt' L a5)<|aJ.g ap) ?_;rintro _ _ ⟨s2,ar,ns,ct,bb,rfl,aq,bc,hu⟩;refine Rf z b_f z<|E0 (fs0 (cur':=vR x1 ae nf cg aj nk cl ar ns ct none 0 0) z_54 z z (b8.e s2) z z z z) ?_
 rintro _ _ ⟨be,bf⟩;have G:=bf.one;refine Wn<|Ws<|Rf z n_l z<|R z (l0 A_ z<|((ao.e s2).c G<|djs J).at z) ?_
 have au:=lt_ (lt_ a5 s2.s) G.s;obtain ⟨_,bg,aO⟩:=bdS aN;refine E z (fc call63 z<|W_w1b bg (zt' L au)<|aK.g<|(ap.e s2).c G<|e_ hd) ?_;rintro _ _ ⟨sm,az,O,V,bh,rfl,bi,bj,hn⟩;refine Rf z R_ z<|E0 (fs0 (cur':=vR x1 ae nf cg aj nk cl ar ns ct az O V) z_54 z z (be.e sm) z z z z) ?_
 rintro _ _ ⟨bk,bm⟩;have ho:=bm.one;refine Wn<|Ws<|R z (lN (vs:=vR x1 ae nf cg aj nk cl ar ns ct az O V) D_ t_ z z fid<|bk.row 0 8 z) ?_
 have h6:=mmr hh.lt;refine E0 (fs0 (cur':=vR x1 ae nf cg aj nk cl ar ns ct az O V) t_ z z (((((((((((((hh.e hi).c I<|djs h6).c ha<|djs h6).c hb<|djs h6).c hc<|djs h6).e s5).c h3<|djs h6).e s4).c h1<|djs h6).e s2).c G<|djs h6).e sm).c ho<|djs h6) z z z z) ?_;rintro _ _ ⟨bn,bo⟩;have hv:=bo.one;refine Wn ?_;obtain rfl:=som aO;have av:=lt_ (lt_ (lt_ I.s ha.s) hb.s) hc.s;have W:=h_ a2 hq.lt av;have aw:=lt_ (lt_ (lt_ (lt_ hi.s I.s) ha.s) hb.s) hc.s;have ax:=lt_ (lt_ av s5.s) h3.s;have a6:=h_ hy hq.lt ax;have ay:=lt_ (lt_ aw s5.s) h3.s;have aA:=lt_ (lt_ ax s4.s) h1.s;have aB:=h_ hu hq.lt aA;have aC:=lt_ (lt_ ay s4.s) h1.s;have H:=m1 a0;have aD:=lt_ (lt_ h3.s s4.s) h1.s;exact Wr<|f_ hr (u_ D_ t_ z bn z) ⟨bM (bM (bup (bM (bup (bM (bup (bM (bup (bM (bM (bM (bM (bup (bup hw hp) hi) I H) ha H) hb H) hc H) s5) h3 H) s4) h1 H) s2) G H) sm) ho H) hv<|m1 hw.s,ae,nf,cg,aZ,aj,nk,cl,b6,ar,ns,ct,bb,az,O,V,bh,z,aE,aF,aG,(((((((hx.c h3 W).e s4).c h1 W).e s2).c G W).e sm).c ho W).c hv<|h_ a2 hh.lt aw,(((((a4.c h1 a6).e s2).c G a6).e sm).c ho a6).c hv<|h_ hy hh.lt ay,(((aq.c G aB).e sm).c ho aB).c hv<|h_ hu hh.lt aC,(bi.c ho<|h_ hn hq.lt<|lt_ (lt_ aA s2.s) G.s).c hv<|h_ hn hh.lt<|lt_ (lt_ aC s2.s) G.s,na_ b0 (na_ b7 (na_ bc bj<|ds<|a_Y hn (a_.lt aq) G.s)<|nmA (ds<|a_Y hu (a_.lt a4) h1.s)<|ds<|a_Y hn (a_.lt a4)<|lt_ (lt_ h1.s s2.s) G.s)<|nmA (ds<|a_Y hy (a_.lt hx) h3.s)<|nmA (ds<|a_Y hu (a_.lt hx) aD)<|ds<|a_Y hn (a_.lt hx)<|lt_ (lt_ aD s2.s) G.s,aa_ (j_ a2 a1)<|aa_ (j_ hy a3)<|aa_ (j_ hu a5)<|j_ hn au⟩
def Q5 (w0:World)(B:Zone)(r:(List g_))(v:Value)(w':World):Prop:=Bw w0 w'/\(fun J=>∃G H I S1,(sl G H I)=v/\a_ w' S1 (sl G H I) J/\S1.Nodup/\(∀k∈S1,w0.z<=k)) r
theorem W_w2p {x1:List g_}{res:(List g_)}(hm:j_4 x1=some res)(V:B<=w0.z)(O:repS w0 B (sl A0 N0 C0) x1):l_ prog 20 [sl A0 N0 C0] w0 (Q5 w0 B res):=by
 unfold j_4 at hm
 refine goG func20 z z z fun fn hr=>Ws<|Rw z<|Wm z<|R z (lnR e_1 z O) ?_
 obtain ⟨_,er,hms⟩:=bdS hm;refine E z (e_X (α:=g_) el_28 (fun _=>l_l (x:=(⟨(⟨[]⟩:Str),0,0,false,([]:List UInt8),([]:List Str),([]:List Int),([]:List Int)⟩:g_)) (S1:=([]:List Nat)) (S2:=([]:List Nat)) (S3:=([]:List Nat)) (S4:=([]:List Nat)) (lb z) (ii z) (ii z) onL onL onL onL) er z z) ?_;rintro _ G ⟨I,J,L,rfl,sa,ht⟩;refine Rw z<|Wq<|Ws<|Rw z ?_
 obtain ⟨_,huu,hme⟩:=bdS hms;refine Wf (σ:=List g_) (ρ:=List g_) (fun (kf:Nat)(x6:List g_) a w=>∃(H:List Nat),Sat 23 [(0,sl A0 N0 C0),(3,sl I J L),(4,vI ((kf:Nat):Int))] a/\Chg (· ∈ [w0.z]) G w/\a_ w H (sl I J L) x6/\H.Nodup/\(∀k∈H,k∈[w0.z]∨G.z<=k)) (fun (x6:List g_) a w=>∃(H:List Nat),Sat 23 [(3,sl I J L)] a/\Chg (· ∈ [w0.z]) G w/\a_ w H (sl I J L) x6/\H.Nodup/\(∀k∈H,k∈[w0.z]∨G.z<=k)) (rQ prog fn<|Q5 w0 B) huu ?_ ?_ ?_ ?_ ?_
 ·exact fun _ q=>⟨[w0.z],q.k<|s3 z z z,cr [w0.z] G,ht,a_e,io sr⟩
 ·rintro kf x6 _ wv _ hkg ⟨H,hSw,s4,h3,hb,hd⟩ hmx;refine Wu ?_ hSw;refine Wq<|Wm z<|Rm z ?_
  have hh:=O.g<|(sa.ag B).c s4<|e_ (or0 (d_ lr) (p_ V):∀k∈[w0.z],¬B k)
  refine R z (lnR e_1 z hh)<|Rl z z z<|Wx z (fun _=>?_) (fun hc=>(a_0 hkg hc).elim)
  refine Wk<|Wq<|Wb<|Wg<|RM z z<|RM z z ?_
  obtain ⟨xz,a5,W⟩:=bdS hmx;refine RX z (at_ (α:=g_) e_1 z_56 z z z hh a5) ?_;rintro _ ⟨_,_,_,rfl,a6,a8,_⟩;obtain ⟨a9,aa,ab,ad,ae,af,ah,ai,aj,ak,al,am,rfl,an,ao,ap,aq,ar,au,av⟩:=a_v a8;refine R z (lN (vs:=vR xz a9 aa ab ad ae af ah ai aj ak al am) g_56 z_56 z z fid a6) ?_;obtain ⟨aw,ax,Y⟩:=bdS W;refine E z (fc call38 z<|W_w2o ax (zt' V<|lt_ sa.s s4.s) an ao ap aq ar au av) ?_;rintro _ ay ⟨sc,_,_,_,Si,_,_,_,Sj,_,_,_,Sk,_,_,_,Sl,rfl,az,aA,aB,aC,aD,aE,aF,h2,h5⟩;obtain ⟨aG,em,a0⟩:=bdS Y;have hn:=h3.e sc;refine RX z (c_W (α:=g_) a_3 t_ z z hn em) ?_;rintro _ ⟨_,aH,rfl⟩;refine E0 (c_X (α:=g_) t_ z aH z z z em hn hb (l_l (x:=aw) (S1:=Si) (S2:=Sj) (S3:=Sk) (S4:=Sl) az aA aB aC aD aE aF) (aa_ (a_Y (al_ h5) (a_.lt h3) lr)<|aa_ (a_Y (al_<|ar_ h5) (a_.lt h3) lr)<|aa_ (a_Y (al_<|ar_<|ar_ h5) (a_.lt h3) lr)<|a_Y (ar_<|ar_<|ar_ h5) (a_.lt h3) lr)<|na_ (nl_ h2) (na_ (nl_<|nr_ h2) (na_ (nl_<|nr_<|nr_ h2) (nr_<|nr_<|nr_ h2)<|nj<|nr_<|nr_ h2)<|nmA (nmL<|nj<|nr_ h2)<|nmR<|nj<|nr_ h2)<|nmA (nmL<|nj h2)<|nmA (nmL<|nmR<|nj h2)<|nmR<|nmR<|nj h2) ?_;rintro _ aI ⟨So,aJ,aK,aL,aM⟩;refine Wn<|Wg<|Rm z<|R z (inc_ hkg (lt_ (repS.len O) G_) z z)<|Ra z<|Wl ?_
  have hp:∀k∈H,k∈[w0.z]∨G.z<=k:=or1 hd (io sr)<|q_ lr;exact fun _ q=>⟨aG,(som a0).symm,⟨So,q.k<|s3 z z z,(cM (k_ (cM (cr [w0.z] G) s4 (io sr):Chg (· ∈ [w0.z]) G wv) sc:Chg (· ∈ [w0.z]) G ay) aJ hp:Chg (· ∈ [w0.z]) G aI),aK,aL,(or2 aM hp (aa_ (or0 (al_ h5) (q_ s4.s):∀k∈Si,k∈[w0.z]∨G.z<=k)<|aa_ (or0 (al_<|ar_ h5) (q_ s4.s):∀k∈Sj,k∈[w0.z]∨G.z<=k)<|aa_ (or0 (al_<|ar_<|ar_ h5) (q_ s4.s):∀k∈Sk,k∈[w0.z]∨G.z<=k) (or0 (ar_<|ar_<|ar_ h5) (q_ s4.s):∀k∈Sl,k∈[w0.z]∨G.z<=k)) (q_<|lt_ s4.s sc.s):∀k∈So,k∈[w0.z]∨G.z<=k)⟩⟩
 ·rintro x6 _ aN ⟨H,a1,sq,h3,hb,hd⟩;refine Wu ?_ a1;refine Wq<|Wm z<|Rm z ?_
  refine R z (lnR e_1 z<|O.g<|(sa.ag B).c sq<|e_ (or0 (d_ lr) (p_ V):∀k∈[w0.z],¬B k))<|Rl z z z<|Wx z (fun hc=>(a_1 hc).elim) (fun _=>?_)
  exact We<|fun _ q=>⟨rfl,⟨H,q.k<|s1 z,(cM (cr [w0.z] G) sq (io sr):Chg (· ∈ [w0.z]) G aN),h3,hb,(or1 hd (io sr) (q_ lr):∀k∈H,k∈[w0.z]∨G.z<=k)⟩⟩
 ·rintro x6 aO _ rfl ⟨H,_,aP,h3,hb,hd⟩;have a2:=elL hme;revert aO;refine Wo<|Wm z<|Rw z ?_
  obtain rfl:=som a2;exact Wr<|f_ hr z ⟨bM sa aP<|d_ lr,I,J,L,H,z,h3,hb,(or1 hd (d_ lr) (b_9 sa.s):∀k∈H,w0.z<=k)⟩
 rintro _ _ _ _ rfl ⟨rfl,a3⟩;have a4:=elR hme;obtain rfl:=som a4;exact ⟨a3,z⟩
def Q6 (w0:World)(B:Zone)(r:c_)(v:Value)(w':World):Prop:=Bw w0 w'/\(fun J=>∃G H I S1,(.agg #[.slice G H I])=v/\a_ w' S1 (sl G H I) J.rules/\S1.Nodup/\(∀k∈S1,w0.z<=k)) r
theorem k_v {x1:c_}{res:c_}(hm:e_t x1=some res)(W:B<=w0.z)(V:repS w0 B (sl A0 N0 C0) x1.rules):l_ prog 6 [(.agg #[sl A0 N0 C0])] w0 (Q6 w0 B res):=by
 unfold e_t at hm
 refine goG func6 z z z fun fn hr=>Ws<|E z (fb z) ?_
 rintro _ wa ⟨rfl,hb⟩;have h1:=hb.below;refine E z (fa k_q) ?_;rintro _ wc ⟨rfl,hd⟩;have h2:=hd.below;have h6:Blk wc wa.z [sl none 0 0]:=hd.blk;refine Wn<|Ws<|E z (fa k_q) ?_
 rintro _ wk ⟨rfl,he⟩;have G:=he.below;have hf:Blk wk wc.z [sl none 0 0]:=he.blk;refine Wn<|Ws<|Rf z n_g z<|R z (l0 g_22 z<|(((hb.blk:Blk wa w0.z [sl A0 N0 C0]).e h2).e G).at z) ?_
 have hg:=lt_ h1.s h2.s;have hh:=lt_ hg G.s;obtain ⟨_,el,hmm⟩:=bdS hm;refine E z (fc call20 z<|W_w2p el (zt' W hh)<|V.g<|((h1.ag B).e h2).e G) ?_;rintro _ _ ⟨s7,H,I,J,Sn,rfl,ho,hp,L⟩;refine Rf z a_9 z<|E0 (fs0 (cur':=[sl H I J]) z_28 z z (hf.e s7) z z z z) ?_
 rintro _ _ ⟨hq,sr⟩;have O:=sr.one;refine Wn<|Ws<|R z (lN (vs:=[sl H I J]) w_ v_ z z fid<|hq.row 0 1 z)<|E0 (fs0 (cur':=[sl H I J]) v_ z z (((h6.e G).e s7).c O<|djs<|mmr h6.lt) z z z z) ?_
 rintro _ _ ⟨ht,ss⟩;have hi:=ss.one;refine Wn ?_;obtain rfl:=som hmm;exact Wr<|f_ hr (u_ w_ v_ z ht z) ⟨bM (bM (bup (bup (bup h1 h2) G) s7) O<|m1 hg) hi<|m1 h1.s,H,I,J,Sn,z,(ho.c O<|h_ L hf.lt lr).c hi<|h_ L h6.lt G.s,hp,j_ L hh⟩
theorem e_4 {x1:c_}{res:Int}(hm:d_T x1=some res)(J:B<=w0.z)(H:repS w0 B (sl A0 N0 C0) x1.rules):l_ prog 15 [(.agg #[sl A0 N0 C0])] w0 (Q0 w0 B res):=by
 unfold d_T at hm
 refine goG func15 z z z fun fn hr=>Ws<|E z (fb z) ?_
 rintro _ I ⟨rfl,G⟩;have h1:=G.below;refine Rw z<|Ws<|Rf z a_9 z<|R z (l0 a_b z<|(G.blk:Blk I w0.z [sl A0 N0 C0]).at z)<|R z (lnR a_3 z<|H.e h1)<|R z (sb_ z z)<|Rw z ?_
 obtain rfl:=som hm;exact Wr<|f_ hr z ⟨h1,z,iS _ _⟩
def Q7 (w0:World)(B:Zone)(r:Bool)(v:Value)(w':World):Prop:=Bw w0 w'/\(fun G=>(vB G)=v) r
theorem b_l {x1:Int}{x2:Int}{x3:Int}{res:Bool}(hm:a_L x1 x2 x3=some res)(Y:B<=w0.z)(O:inI x1)(V:inI x2)(W:inI x3):l_ prog 50 [vI x1,vI x2,vI x3] w0 (Q7 w0 B res):=by
 unfold a_L at hm
 refine goG func50 z z z fun fn hr=>Ws<|Rw z<|Wq ?_
 obtain ⟨J,H,I⟩:=bdS hm;refine Wt (fun a w=>∃(x4:Bool),x4=J/\Sat 15 [(6,vB x4)] a/\Below w0.z w0 w) ?_ ?_
 ·refine Wg<|RM z z<|R z (a_z z z)<|Rm z ?_
  rcases bs (decide<|x2<=x1) with G | G
  ·exact Rh z G (mv z)<|Rh z G (mv z)<|Rh z G (b_o z z)<|R z (pT z G z)<|Ra z<|Wl (fun _ q=>⟨decide<|x1<=x3,som<|ifT H G,q.k<|s1 z,br w0⟩)
  iterate 3 refine Nh z G ?_
  exact R z (pF z G z)<|Ra z<|Wl (fun _ q=>⟨false,som<|ifF H G,q.k<|s1 z,br w0⟩)
 rintro L _ ⟨x4,rfl,_,s6⟩;revert L;refine Wo ?_;obtain rfl:=som I;exact Wr<|f_ hr z ⟨s6,z⟩
theorem W_w1c {x1:Str}{res:Bool}(hm:f_k x1=some res)(a9:B<=w0.z)(Y:x1.b.length<=LEN):l_ prog 127 [Str.v x1] w0 (Q7 w0 B res):=by
 unfold f_k at hm
 refine goG func127 z z z fun fn hr=>Ws<|Rw z<|Wq<|Ws<|Rw z ?_
 obtain ⟨_,hus,hmc⟩:=bdS hm;refine Wf (σ:=Unit) (ρ:=Bool) (fun (k4:Nat)(_:Unit) a w=>Sat 45 [(0,Str.v x1),(3,vI ((k4:Nat):Int))] a/\Below w0.z w0 w) (fun (_:Unit) a w=>Sat 45 [(0,Str.v x1)] a/\Below w0.z w0 w) (rQ prog fn<|Q7 w0 B) hus ?_ ?_ ?_ ?_ ?_
 ·exact fun _ q=>⟨q.k<|s2 z z,br w0⟩
 ·rintro k4 _ _ O _ hkd ⟨hSt,se⟩ hmu;refine Wu ?_ hSt;refine Wq<|Wm z<|Rm z<|R z (lnT d_9 z)<|Rl z z z<|Wx z (fun _=>?_) (fun hc=>(a_0 hkd hc).elim)
  refine Wk<|Wq<|Wb<|Wq ?_
  obtain ⟨uv,huw,hmx⟩:=bdS hmu;refine Wt (fun a w=>∃(x5:Bool),x5=uv/\Sat 45 [(0,Str.v x1),(3,vI ((k4:Nat):Int)),(4,vB x5)] a/\Below O.z O w) ?_ ?_
  ·refine Wg<|RM z z ?_
   obtain ⟨xy,ef,hmg⟩:=bdS huw;refine R z (b_a d_9 z z (a_4 ef).1 (a_4 ef).2.1)<|R z (a_z z z)<|Rm z ?_
   rcases bs (decide<|(byteI (97:UInt8))<=(byteI xy)) with H | H
   ·refine Rh z H (mv z)<|Rh z H (mv z) ?_
    obtain ⟨xz,eh,a0⟩:=bdS<|ifT hmg H;exact Rh z H (b_a d_9 z z (a_4 eh).1 (a_4 eh).2.1)<|Rh z H (b_o z z)<|R z (pT z H z)<|Ra z<|Wl (fun _ q=>⟨decide<|(byteI xz)<=(byteI (122:UInt8)),som a0,q.k<|s3 z z z,br O⟩)
   iterate 4 refine Nh z H ?_
   exact R z (pF z H z)<|Ra z<|Wl (fun _ q=>⟨false,som<|ifF hmg H,q.k<|s3 z z z,br O⟩)
  rintro aa V ⟨x5,rfl,_,si⟩;revert aa;refine Wo<|Wq ?_
  obtain ⟨ab,a1,a2⟩:=bdS hmx;refine Wt (fun a w=>∃(W:Bool),W=ab/\Sat 45 [(0,Str.v x1),(3,vI ((k4:Nat):Int)),(4,vB x5),(5,vB W)] a/\Below V.z V w) ?_ ?_
  ·refine Wg<|RM z z ?_
   obtain ⟨ad,ej,hmk⟩:=bdS a1;refine R z (b_a d_9 z z (a_4 ej).1 (a_4 ej).2.1)<|R z (a_z z z)<|Rm z ?_
   rcases bs (decide<|(byteI (48:UInt8))<=(byteI ad)) with I | I
   ·refine Rh z I (mv z)<|Rh z I (mv z) ?_
    obtain ⟨ae,el,a3⟩:=bdS<|ifT hmk I;exact Rh z I (b_a d_9 z z (a_4 el).1 (a_4 el).2.1)<|Rh z I (b_o z z)<|R z (pT z I z)<|Ra z<|Wl (fun _ q=>⟨decide<|(byteI ae)<=(byteI (57:UInt8)),som a3,q.k<|s4 z z z z,br V⟩)
   iterate 4 refine Nh z I ?_
   exact R z (pF z I z)<|Ra z<|Wl (fun _ q=>⟨false,som<|ifF hmk I,q.k<|s4 z z z z,br V⟩)
  rintro af L ⟨W,rfl,_,sm⟩;revert af;refine Wo<|Wq ?_
  obtain ⟨ah,hun,hmo⟩:=bdS a2;refine Wt (fun a w=>∃(xa:Bool),xa=ah/\Sat 45 [(0,Str.v x1),(3,vI ((k4:Nat):Int)),(41,vB xa)] a/\Below L.z L w) ?_ ?_
  ·refine Wg<|Rm z<|R z (not_ z)<|Rm z ?_
   rcases bs (!x5) with G | G
   ·have hmp:=ifT hun G;refine Rh z G (mv z)<|Rh z G (not_ z)<|Rh z G (mv z) ?_
    rcases bs (!W) with J | J
    ·exact Nh z J<|Nh z J<|Rh z G (pT z J z)<|R z (pT z G z)<|Wl (fun _ q=>⟨true,som<|ifT hmp J,q.k<|s3 z z z,br L⟩)
    exact Rh z J (mv z)<|Rh z J (eql z z)<|Rh z G (pF z J z)<|R z (pT z G z)<|Wl (fun _ q=>⟨((k4:Nat):Int)==0,som<|ifF hmp J,q.k<|s3 z z z,br L⟩)
   iterate 3 refine Nh z G ?_
   exact Nv z<|Nv z<|Nh z G<|R z (pF z G z)<|Wl (fun _ q=>⟨false,som<|ifF hun G,q.k<|s3 z z z,br L⟩)
  rintro ai _ ⟨xa,rfl,_,sq⟩;revert ai;refine Wo<|Wc z (fun hcb=>?_) (fun hcb=>?_)
  ·exact Ws<|Rw z<|Wr<|rtO<|qL (som<|ifT hmo hcb).symm<|f_ hr z ⟨bup (bup (bup se si) sm) sq,z⟩
  exact Wk<|Wg<|Rm z<|R z (inc_ hkd (lt_ Y G_) z z)<|Ra z<|Wl (fun _ q=>⟨(),(som<|ifF hmo hcb).symm,⟨q.k<|s2 z z,bup (bup (bup se si) sm) sq⟩⟩)
 ·rintro _ _ _ ⟨a4,aj⟩;refine Wu ?_ a4;refine Wq<|Wm z<|Rm z<|R z (lnT d_9 z)<|Rl z z z<|Wx z (fun hc=>(a_1 hc).elim) (fun _=>?_)
  exact We<|fun _ q=>⟨rfl,⟨q.k<|s1 z,aj⟩⟩
 ·rintro _ ak _ rfl ⟨_,sr⟩;have a5:=elL hmc;revert ak;refine Wo<|Wm z<|R z (lnT d_9 z) ?_
  obtain ⟨_,al,a6⟩:=bdS a5;refine E z (fc call50 z<|b_l al (zt' a9 sr.s) (b_h Y) (ii z)<|ii z) ?_;rintro _ _ ⟨am,rfl⟩;refine Rw z ?_
  obtain rfl:=som a6;exact Wr<|f_ hr z ⟨bup sr am,z⟩
 rintro _ _ _ _ rfl ⟨rfl,a7⟩;have a8:=elR hmc;obtain rfl:=som a8;exact ⟨a7,z⟩
theorem d_B {x1:g_}{x2:Bool}{x3:Bool}{x4:Bool}{x5:Bool}{x6:Int}{res:Bool}(hm:c_k x1 x2 x3 x4 x5 x6=some res)(af:B<=w0.z)(aa:x1.name.b.length<=LEN)(ab:inI x1.kind)(ad:inI x1.size)(a1:repS w0 B (sl AC NC CC) x1.bytes)(a2:repS w0 B (sl AB NB CB) x1.names)(a3:repS w0 B (sl AD ND CD) x1.tags)(a4:repS w0 B (sl AE NE CE) x1.kids)(ae:inI x6):l_ prog 153 [(.agg #[Str.v x1.name,vI x1.kind,vI x1.size,vB x1.little,sl AC NC CC,sl AB NB CB,sl AD ND CD,sl AE NE CE]),vB x2,vB x3,vB x4,vB x5,vI x6] w0 (Q7 w0 B res):=by
 unfold c_k at hm
 refine goG func153 z z z fun fn hr=>Ws<|E z (fb z) ?_
 rintro _ wc ⟨rfl,hf⟩;have hd:=hf.below;have hb:Blk wc w0.z (vR x1 AC NC CC AB NB CB AD ND CD AE NE CE):=hf.blk;refine Rw z<|Wq ?_
 obtain ⟨uw,hux,hmy⟩:=bdS hm;refine Wt (fun a w=>∃(xe:Bool),xe=uw/\Sat 67 [(12,vB xe)] a/\Below wc.z wc w) ?_ ?_
 ·refine Wg<|RM z z ?_
  obtain ⟨ug,huh,hmz⟩:=bdS hux;refine c_T 18 ug 4 ?_ ?_
  ·rcases bs x2 with a0 | a0
   ·iterate 3 refine Nh z a0 ?_
    exact R z (pT z a0 z)<|WLq 4 (ifT huh a0) z z z
   exact Rh z a0 (fd a_G z)<|Rh z a0 (l0 g_3 z<|hb.at z)<|Rh z a0 (eql z z)<|R z (pF z a0 z)<|WLq 4 (ifF huh a0) z z z
  refine Rm z ?_;obtain ⟨ui,huj,a5⟩:=bdS hmz;refine c_T 27 ui 8 ?_ ?_
  ·rcases bs ug with H | H
   ·have hmk:=ifT huj H;refine Rh z H (mv z)<|Rh z H (mv z) ?_
    rcases bs x3 with V | V
    ·iterate 4 refine Nh z V ?_
     exact Rh z H (pT z V z)<|R z (pT z H z)<|WLq 8 (ifT hmk V) z z z
    exact Rh z V (fd a_Z z)<|Rh z V (l0 J_ z<|hb.at z)<|Rh z V (lnR n_ z<|a1.e hd)<|Rh z V (eql z z)<|Rh z H (pF z V z)<|R z (pT z H z)<|WLq 8 (ifF hmk V) z z z
   exact Nh z H<|Nh z H<|Nv z<|Nv z<|Nv z<|Nv z<|Nh z H<|R z (pF z H z)<|WLq 8 (ifF huj H) z z z
  refine Rm z ?_;obtain ⟨ul,hum,a6⟩:=bdS a5;refine c_T 36 ul 8 ?_ ?_
  ·rcases bs ui with I | I
   ·have hmn:=ifT hum I;refine Rh z I (mv z)<|Rh z I (mv z) ?_
    rcases bs x4 with W | W
    ·iterate 4 refine Nh z W ?_
     exact Rh z I (pT z W z)<|R z (pT z I z)<|WLq 8 (ifT hmn W) z z z
    exact Rh z W (fd c_b z)<|Rh z W (l0 b_L z<|hb.at z)<|Rh z W (lnR a_d z<|a2.e hd)<|Rh z W (eql z z)<|Rh z I (pF z W z)<|R z (pT z I z)<|WLq 8 (ifF hmn W) z z z
   exact Nh z I<|Nh z I<|Nv z<|Nv z<|Nv z<|Nv z<|Nh z I<|R z (pF z I z)<|WLq 8 (ifF hum I) z z z
  refine Rm z ?_;obtain ⟨uo,hup,a7⟩:=bdS a6;refine c_T 45 uo 8 ?_ ?_
  ·rcases bs ul with J | J
   ·have hmq:=ifT hup J;refine Rh z J (mv z)<|Rh z J (mv z) ?_
    rcases bs x5 with Y | Y
    ·iterate 4 refine Nh z Y ?_
     exact Rh z J (pT z Y z)<|R z (pT z J z)<|WLq 8 (ifT hmq Y) z z z
    exact Rh z Y (fd b_f z)<|Rh z Y (l0 A_ z<|hb.at z)<|Rh z Y (lnR y_ z<|a3.e hd)<|Rh z Y (eql z z)<|Rh z J (pF z Y z)<|R z (pT z J z)<|WLq 8 (ifF hmq Y) z z z
   exact Nh z J<|Nh z J<|Nv z<|Nv z<|Nv z<|Nv z<|Nh z J<|R z (pF z J z)<|WLq 8 (ifF hup J) z z z
  refine Rm z ?_;obtain ⟨ur,hus,hmt⟩:=bdS a7;refine c_T 56 ur 10 ?_ ?_
  ·rcases bs uo with L | L
   ·have hmu:=ifT hus L;refine Rh z L (mv z)<|Rh z L (lss z z)<|Rh z L (mv z) ?_
    rcases bs (decide<|x6<0) with O | O
    ·iterate 5 refine Nh z O ?_
     exact Rh z L (pT z O z)<|R z (pT z L z)<|WLq 10 (ifT hmu O) z z z
    exact Rh z O (fd R_ z)<|Rh z O (l0 A_ z<|hb.at z)<|Rh z O (lnR y_ z<|a4.e hd)<|Rh z O (mv z)<|Rh z O (eql z z)<|Rh z L (pF z O z)<|R z (pT z L z)<|WLq 10 (ifF hmu O) z z z
   iterate 3 refine Nh z L ?_
   exact Nv z<|Nv z<|Nv z<|Nv z<|Nv z<|Nh z L<|R z (pF z L z)<|WLq 10 (ifF hus L) z z z
  refine Rm z ?_
  rcases bs ur with G | G
  ·have hmv:=ifT hmt G;refine Rh z G (fd c_R z)<|Rh z G (l0 g_4 z<|hb.at z)<|Rh z G (not_ z)<|Rh z G (mv z) ?_
   rcases bs (!x1.little) with hca | hca
   ·iterate 3 refine Nh z hca ?_
    exact Rh z G (pT z hca z)<|R z (pT z G z)<|Ra z<|Wl (fun _ q=>⟨true,som<|ifT hmv hca,q.k<|s1 z,br wc⟩)
   exact Rh z hca (fd a_M z)<|Rh z hca (l0 g_3 z<|hb.at z)<|Rh z hca (eql z z)<|Rh z G (pF z hca z)<|R z (pT z G z)<|Ra z<|Wl (fun _ q=>⟨x1.kind==1,som<|ifF hmv hca,q.k<|s1 z,br wc⟩)
  iterate 4 refine Nh z G ?_
  exact Nv z<|Nv z<|Nv z<|Nh z G<|R z (pF z G z)<|Ra z<|Wl (fun _ q=>⟨false,som<|ifF hmt G,q.k<|s1 z,br wc⟩)
 rintro a8 _ ⟨xe,rfl,_,a9⟩;revert a8;refine Wo ?_;obtain rfl:=som hmy;exact Wr<|f_ hr z ⟨bup hd a9,z⟩
theorem k_w {x1:Int}{res:Int}(hm:d_x x1=some res)(J:B<=w0.z)(I:inI x1):l_ prog 129 [vI x1] w0 (Q0 w0 B res):=by
 unfold d_x at hm
 refine goG func129 z z z fun fn hr=>Ws<|Rw z<|Wm z<|R z (d_p z z) ?_
 obtain ⟨_,H,G⟩:=bdS hm;refine R z (f_3 z z<|nnS H)<|Rw z ?_
 obtain rfl:=som G;exact Wr<|f_ hr z ⟨br w0,z,o_l<|ii z⟩
theorem h_y {x1:c_}{x2:Int}{res:Int}(hm:d_y x1 x2=some res)(J:B<=w0.z)(I:repS w0 B (sl A0 N0 C0) x1.rules)(Y:inI x2):l_ prog 131 [(.agg #[sl A0 N0 C0]),vI x2] w0 (Q0 w0 B res):=by
 unfold d_y at hm
 refine goG func131 z z z fun fn hr=>Ws<|E z (fb z) ?_
 rintro _ O ⟨rfl,W⟩;have h2:=W.below;have h6:Blk O w0.z [sl A0 N0 C0]:=W.blk;refine Rw z<|Wq<|Wq ?_
 obtain ⟨uf,hug,hma⟩:=bdS hm;refine Wt (fun a w=>∃(V:Bool),V=uf/\Sat 39 [(1,vI x2),(2,pt w0.z),(30,vB V)] a/\Below O.z O w) ?_ ?_
 ·refine Wg<|Rm z<|Rf z a_9 z<|R z (l0 a_b z<|h6.at z)<|R z (lnR a_3 z<|I.e h2)<|R z (sb_ z z) ?_
  obtain ⟨rh,ei,hmb⟩:=bdS hug;refine E z (fc call50 z<|b_l ei (zt' J h2.s) Y (ii z)<|iS _ _) ?_;rintro _ _ ⟨s4,rfl⟩;refine R z (not_ z)<|Rm z ?_
  rcases bs (!rh) with H | H
  ·iterate 7 refine Nh z H ?_
   exact R z (pT z H z)<|Rm z<|Nh z z<|Nh z z<|Nh z z<|Nh z z<|Nh z z<|Nh z z<|Nh z z<|Nh z z<|R z (pT z z z)<|Wl (fun _ q=>⟨true,som<|ifT hmb H,q.k<|s3 z z z,s4⟩)
  refine Rh z H (fd a_9 z) ?_;have hc:=h6.e s4;refine Rh z H (l0 a_b z<|hc.at z)<|Rh z H (mv z) ?_
  obtain ⟨xj,ek,hmd⟩:=bdS<|ifF hmb H;have he:=I.g<|(h2.ag B).e s4
  refine RXg z z H z (at_ (α:=g_) a_3 t_ z z z he ek) ?_;rintro _ ⟨_,_,_,rfl,hl,hn,_⟩;obtain ⟨_,_,_,_,_,_,_,_,_,_,_,_,rfl,_,_,_,_,_,_,_⟩:=a_v hn;refine Rh z H (fd a_M z)<|Rh z H (l0 g_3 z<|hl.at (j:=1) z)<|Rh z H (nq z z)<|R z (pF z H z)<|Rm z ?_
  rcases bs (xj.kind != 1) with G | G
  ·iterate 8 refine Nh z G ?_
   exact R z (pT z G z)<|Wl (fun _ q=>⟨true,som<|ifT hmd G,q.k<|s3 z z z,s4⟩)
  refine Rh z G (fd a_9 z)<|Rh z G (l0 a_b z<|hc.at z)<|Rh z G (mv z) ?_
  obtain ⟨_,em,hmo⟩:=bdS<|ifF hmd G;refine RXg z z G z (at_ (α:=g_) a_3 t_ z z z he em) ?_;rintro _ ⟨_,_,_,rfl,hp,hq,_⟩;obtain ⟨_,_,_,_,_,_,_,_,_,_,_,_,rfl,_,_,ht,_,_,_,_⟩:=a_v hq;refine Rh z G (fd a_G z)<|Rh z G (l0 g_3 z<|hp.at (j:=2) z) ?_
  obtain ⟨rr,es,hmu⟩:=bdS hmo;refine Eg z z G z (fc call50 z<|b_l es (zt' J<|lt_ h2.s s4.s) ht (ii z)<|ii z) ?_;rintro _ _ ⟨sv,rfl⟩;exact Rh z G (not_ z)<|R z (pF z G z)<|Wl (fun _ q=>⟨!rr,som hmu,q.k<|s3 z z z,bup s4 sv⟩)
 rintro aw _ ⟨V,rfl,_,s5⟩;revert aw;refine Wo<|Wc z (fun L=>?_) (fun L=>?_)
 ·refine Ws<|Rw z ?_
  obtain rfl:=som<|ifT hma L;exact Wr<|f_ hr z ⟨bup h2 s5,z,ii z⟩
 refine Wk<|Ws<|Rf z a_9 z<|R z (l0 a_b z<|(h6.e s5).at z)<|Rm z ?_
 obtain ⟨_,ex,hmy⟩:=bdS<|ifF hma L;refine RX z (at_ (α:=g_) a_3 t_ z z z (I.g<|(h2.ag B).e s5) ex) ?_;rintro _ ⟨_,_,_,rfl,hz,a1,_⟩;obtain ⟨_,_,_,_,_,_,_,_,_,_,_,_,rfl,_,_,a2,_,_,_,_⟩:=a_v a1;refine Rf z a_G z<|R z (l0 g_3 z<|hz.at (j:=2) z) ?_
 obtain ⟨_,a3,a0⟩:=bdS hmy;refine E z (fc call129 z<|k_w a3 (zt' J<|lt_ h2.s s5.s) a2) ?_;rintro _ _ ⟨a4,rfl,_⟩;refine R z (sb_ z z)<|Rw z ?_
 obtain rfl:=som a0;exact Wr<|f_ hr z ⟨bup (bup h2 s5) a4,z,iS _ _⟩
theorem W_w2q {x1:List Str}{x2:Str}{res:Bool}(hm:g_T x1 x2=some res)(a0:B<=w0.z)(G:repS w0 B (sl A0 N0 C0) x1)(Y:x2.b.length<=LEN):l_ prog 166 [sl A0 N0 C0,Str.v x2] w0 (Q7 w0 B res):=by
 unfold g_T at hm
 refine goG func166 z z z fun fn hr=>Ws<|Rw z<|Wq<|Ws<|Rw z ?_
 obtain ⟨_,V,J⟩:=bdS hm;refine Wf (σ:=Unit) (ρ:=Bool) (fun (k3:Nat)(_:Unit) a w=>Sat 18 [(0,sl A0 N0 C0),(1,Str.v x2),(5,vI ((k3:Nat):Int))] a/\Below w0.z w0 w) (fun (_:Unit) a w=>Sat 18 [] a/\Below w0.z w0 w) (rQ prog fn<|Q7 w0 B) V ?_ ?_ ?_ ?_ ?_
 ·exact fun _ q=>⟨q.k<|s3 z z z,br w0⟩
 ·rintro k3 _ _ _ _ L ⟨W,I⟩ hma;refine Wu ?_ W;refine Wq<|Wm z<|Rm z ?_
  have h5:=G.e I;refine R z (lnR a_d z h5)<|Rl z z z<|Wx z (fun _=>?_) (fun hc=>(a_0 L hc).elim)
  refine Wk<|Wq<|Wb<|Wm z<|Rm z ?_
  obtain ⟨_,eb,O⟩:=bdS hma;refine RX z (at_ (α:=Str) a_d z_9 z z z h5 eb) ?_;rintro _ ⟨_,_,_,rfl,hd,he,_⟩;obtain ⟨rfl,_⟩:=b_P he;refine R z (l0 g_9 z<|hd.at0 z)<|Rm z<|R z (e_l z z)<|Wx z (fun H=>?_) (fun H=>?_)
  ·exact Ws<|Rw z<|Wr<|rtO<|qL (som<|ifT O H).symm<|f_ hr z ⟨I,z⟩
  exact Wk<|Wg<|Rm z<|R z (inc_ L (lt_ (repS.len G) G_) z z)<|Ra z<|Wl (fun _ q=>⟨(),(som<|ifF O H).symm,⟨q.k<|s3 z z z,I⟩⟩)
 ·rintro _ _ _ ⟨hSc,s7⟩;refine Wu ?_ hSc;refine Wq<|Wm z<|Rm z<|R z (lnR a_d z<|G.e s7)<|Rl z z z<|Wx z (fun hc=>(a_1 hc).elim) (fun _=>?_)
  exact We<|fun _ q=>⟨rfl,⟨q.k sn,s7⟩⟩
 ·rintro _ af _ rfl ⟨_,sg⟩;have hmh:=elL J;revert af;refine Wo<|Ws<|Rw z ?_
  obtain rfl:=som hmh;exact Wr<|f_ hr z ⟨sg,z⟩
 rintro _ _ _ _ rfl ⟨rfl,hqi⟩;have hmj:=elR J;obtain rfl:=som hmj;exact ⟨hqi,z⟩
theorem W_w2r {x1:List Str}{res:Bool}(hm:g_U x1=some res)(I:B<=w0.z)(H:repS w0 B (sl A0 N0 C0) x1):l_ prog 154 [sl A0 N0 C0] w0 (Q7 w0 B res):=by
 unfold g_U at hm
 refine goG func154 z z z fun fn hr=>Ws<|Rw z<|Wq<|Ws<|Rw z ?_
 obtain ⟨_,huj,L⟩:=bdS hm;refine Wf (σ:=Unit) (ρ:=Bool) (fun (k1:Nat)(_:Unit) a w=>Sat 29 [(0,sl A0 N0 C0),(3,vI ((k1:Nat):Int))] a/\Below w0.z w0 w) (fun (_:Unit) a w=>Sat 29 [(0,sl A0 N0 C0)] a/\Below w0.z w0 w) (rQ prog fn<|Q7 w0 B) huj ?_ ?_ ?_ ?_ ?_
 ·exact fun _ q=>⟨q.k<|s2 z z,br w0⟩
 ·rintro k1 _ _ O _ hka ⟨hSk,s4⟩ hml;refine Wu ?_ hSk;refine Wq<|Wm z<|Rm z<|R z (lnR a_d z<|H.e s4)<|Rl z z z<|Wx z (fun _=>?_) (fun hc=>(a_0 hka hc).elim)
  refine Wk<|Wq<|Wb<|Wq ?_
  obtain ⟨um,hun,hmb⟩:=bdS hml;refine Wt (fun a w=>∃(x2:Bool),x2=um/\Sat 29 [(0,sl A0 N0 C0),(3,vI ((k1:Nat):Int)),(25,vB x2)] a/\Below O.z O w) ?_ ?_
  ·refine Wd (X:=noX) 0 (pl_ 16 [4,14]) mo (by kernel_rfl) fun ae s5 _=>dM z z z<|dM z z z ?_
   obtain ⟨_,eo,hmp⟩:=bdS hun;have hd:=(s4.ag B).e s5;refine dRX z z (at_ (α:=Str) a_d z_9 z z z (H.g hd) eo) ?_;rintro _ ⟨_,_,_,rfl,hq,ht,_⟩;obtain ⟨rfl,hu⟩:=b_P ht;refine dR z z (l0 g_9 z<|hq.at0 z) ?_;have he:=lt_ s4.s s5.s;obtain ⟨rr,es,hmc⟩:=bdS hmp;refine dE z z (fc call127 z<|W_w1c es (zt' I he) hu) (.inr fun _ _ h=>o_<|h.1) ?_;rintro _ _ ⟨s6,rfl⟩;refine dR z z (not_ z)<|dM z z z ?_
   rcases bs (!rr) with G | G
   ·iterate 7 refine dRn z z z G z ?_
    exact dEn z z z G z<|dR z z (pT z G z)<|pD (fun _ q=>⟨true,som<|ifT hmc G,q.k<|s3 z z z,bup s5 s6⟩)
   refine dRg z z z G z (mv z)<|dRg z z z G z (mv z) ?_
   obtain ⟨_,ev,hmw⟩:=bdS<|ifF hmc G;have hf:=H.g<|hd.e s6
   refine c_n z z z G z (rX a_d z_9 z z hf z z ev) ?_;rintro _ ⟨_,_,_,rfl,hx⟩;refine dRg z z z G z (mv z)<|dRg z z z G z (mv z) ?_
   obtain ⟨_,ey,hmz⟩:=bdS hmw;refine c_n z z z G z (at_ (α:=Str) a_d z_9 z z z hf ey) ?_;rintro _ ⟨_,_,_,rfl,a3,a4,_⟩;obtain ⟨rfl,a5⟩:=b_P a4;refine dRg z z z G z (l0 g_9 z<|a3.at0 z) ?_;obtain ⟨a6,a7,V⟩:=bdS hmz;refine dEg z z z G z (fc call166 z<|W_w2q a7 (zt' I<|lt_ he s6.s) hx a5) (.inr fun _ _ h=>o_<|h.1) ?_;rintro _ _ ⟨a8,rfl⟩;exact dR z z (pF z G z)<|pD (fun _ q=>⟨a6,som V,q.k<|s3 z z z,bup (bup s5 s6) a8⟩)
  rintro a9 _ ⟨x2,rfl,_,sg⟩;revert a9;refine Wo<|Wc z (fun J=>?_) (fun J=>?_)
  ·exact Ws<|Rw z<|Wr<|rtO<|qL (som<|ifT hmb J).symm<|f_ hr z ⟨bup s4 sg,z⟩
  exact Wk<|Wg<|Rm z<|R z (inc_ hka (lt_ (repS.len H) G_) z z)<|Ra z<|Wl (fun _ q=>⟨(),(som<|ifF hmb J).symm,⟨q.k<|s2 z z,bup s4 sg⟩⟩)
 ·rintro _ _ _ ⟨W,sh⟩;refine Wu ?_ W;refine Wq<|Wm z<|Rm z<|R z (lnR a_d z<|H.e sh)<|Rl z z z<|Wx z (fun hc=>(a_1 hc).elim) (fun _=>?_)
  exact We<|fun _ q=>⟨rfl,⟨q.k<|s1 z,sh⟩⟩
 ·rintro _ aa _ rfl ⟨_,s7⟩;have Y:=elL L;revert aa;refine Wo<|Wm z ?_
  have hi:=H.e s7;refine R z (lnR a_d z hi) ?_;obtain ⟨_,ab,a0⟩:=bdS Y;refine E z (fc call50 z<|b_l ab (zt' I s7.s) (b_h<|repS.len hi) (ii z)<|ii z) ?_;rintro _ _ ⟨ad,rfl⟩;refine Rw z ?_
  obtain rfl:=som a0;exact Wr<|f_ hr z ⟨bup s7 ad,z⟩
 rintro _ _ _ _ rfl ⟨rfl,a1⟩;have a2:=elR L;obtain rfl:=som a2;exact ⟨a1,z⟩
theorem W_w2s {x1:c_}{x2:g_}{res:Bool}(hm:g_V x1 x2=some res)(O:B<=w0.z)(a2:repS w0 B (sl A0 N0 C0) x1.rules)(aO:x2.name.b.length<=LEN)(aP:inI x2.kind)(aQ:inI x2.size)(aR:repS w0 B (sl A3 N3 C3) x2.bytes)(aS:repS w0 B (sl A2 N2 C2) x2.names)(J:repS w0 B (sl A1 N1 C1) x2.tags)(V:repS w0 B (sl A4 N4 C4) x2.kids):l_ prog 155 [(.agg #[sl A0 N0 C0]),(.agg #[Str.v x2.name,vI x2.kind,vI x2.size,vB x2.little,sl A3 N3 C3,sl A2 N2 C2,sl A1 N1 C1,sl A4 N4 C4])] w0 (Q7 w0 B res):=by
 unfold g_V at hm
 refine goG func155 z z z fun fn hr=>Ws<|E z (fb z) ?_
 rintro _ L ⟨rfl,hn⟩;have h4:=hn.below;refine E z (fb z) ?_;rintro _ wd ⟨rfl,ho⟩;have h3:=ho.below;have ha:Blk wd L.z (vR x2 A3 N3 C3 A2 N2 C2 A1 N1 C1 A4 N4 C4):=ho.blk;refine Rw z<|Wq<|Wq ?_
 obtain ⟨aj,hup,hmq⟩:=bdS hm;refine Wt (fun a w=>∃(xg:Bool),xg=aj/\Sat 59 [(2,pt w0.z),(3,pt L.z),(20,vB xg)] a/\Below wd.z wd w) ?_ ?_
 ·refine Wg<|Rf z R_ z<|R z (l0 A_ z<|ha.at z) ?_
  have ht:=(h4.ag B).e h3;refine R z (lnR y_ z<|V.g ht)<|Rf z b_f z<|R z (l0 A_ z<|ha.at z) ?_
  have hh:=J.g ht;refine R z (lnR y_ z hh)<|R z (add_ z z)<|R z (nq z z)<|Rm z ?_
  rcases bs ((x2.kids.length:Int) != (m_ (x2.tags.length:Int) 1)) with I | I
  ·iterate 5 refine Nh z I ?_
   exact R z (pT z I z)<|Wl (fun _ q=>⟨true,som<|ifT hup I,q.k<|s3 z z z,br wd⟩)
  refine Rh z I (fd b_f z)<|Rh z I (l0 A_ z<|ha.at z)<|Rh z I (lnR y_ z hh) ?_
  obtain ⟨ak,al,a3⟩:=bdS<|ifF hup I;refine Eg z z I z (fc call50 z<|b_l al (zt' O<|lt_ h4.s h3.s) (b_h<|repS.len hh) (ii z)<|ii z) ?_;rintro _ _ ⟨am,rfl⟩;exact Rh z I (not_ z)<|R z (pF z I z)<|Wl (fun _ q=>⟨!ak,som a3,q.k<|s3 z z z,am⟩)
 rintro an wb ⟨xg,rfl,_,s5⟩;revert an;refine Wo<|Wc z (fun hci=>?_) (fun hci=>?_)
 ·refine Ws<|Rw z ?_
  obtain rfl:=som<|ifT hmq hci;exact Wr<|f_ hr z ⟨bup (bup h4 h3) s5,z⟩
 refine Wk<|Wq<|Ws<|Rw z ?_
 obtain ⟨_,a4,hmr⟩:=bdS<|ifF hmq hci;refine Wf (σ:=Unit) (ρ:=Bool) (fun (ke:Nat)(_:Unit) a w=>Sat 59 [(2,pt w0.z),(3,pt L.z),(5,vI ((ke:Nat):Int))] a/\Below wb.z wb w) (fun (_:Unit) a w=>Sat 59 [] a/\Below wb.z wb w) (rQ prog fn<|Q7 w0 B) a4 ?_ ?_ ?_ ?_ ?_
 ·exact fun _ q=>⟨q.k<|s3 z z z,br wb⟩
 ·rintro ke _ _ ws _ hku ⟨a5,s7⟩ a6;refine Wu ?_ a5;refine Wq<|Wm z<|Rf z b_f z ?_
  have hv:=(ha.e s5).e s7;refine R z (l0 A_ z<|hv.at z) ?_;have hw:=(((h4.ag B).e h3).e s5).e s7;refine R z (lnR y_ z<|J.g hw)<|Rl z z z<|Wx z (fun _=>?_) (fun hc=>(a_0 hku hc).elim)
  refine Wk<|Wq<|Wb<|Wq ?_
  obtain ⟨ao,a7,hmx⟩:=bdS a6;refine Wt (fun a w=>∃(xj:Bool),xj=ao/\Sat 59 [(2,pt w0.z),(3,pt L.z),(5,vI ((ke:Nat):Int)),(58,vB xj)] a/\Below ws.z ws w) ?_ ?_
  ·refine Wd (X:=noX) 0 (pl_ 31 [10,11]) mo (by kernel_rfl) fun aT s6 _=>dR z z (fd b_f z) ?_
   have hk:=hv.e s6;refine dR z z (l0 A_ z<|hk.at z)<|dM z z z ?_
   obtain ⟨_,ap,a8⟩:=bdS a7;have hf:=hw.e s6;refine dRX z z (at_ (α:=Int) y_ z_3 z z z (J.g hf) ap) ?_;rintro _ ⟨_,_,_,rfl,aq,ar,_⟩;obtain ⟨rfl,au⟩:=T_ ar;refine dR z z (l0 g_3 z<|aq.at0 z)<|dR z z (lN (vs:=[sl A0 N0 C0]) w_ v_ z z fid<|(((((hn.blk:Blk L w0.z [sl A0 N0 C0]).e h3).e s5).e s7).e s6).row 0 1 z)<|dR z z (fd R_ z)<|dR z z (l0 A_ z<|hk.at z) ?_
   obtain ⟨_,av,a9⟩:=bdS a8;refine dRX z z (at_ (α:=Int) y_ z_3 z z z (V.g hf) av) ?_;rintro _ ⟨_,_,_,rfl,aw,ax,_⟩;obtain ⟨rfl,ay⟩:=T_ ax;refine dR z z (l0 g_3 z<|aw.at0 z) ?_;have hy:=lt_ (lt_ (lt_ (lt_ h4.s h3.s) s5.s) s7.s) s6.s;obtain ⟨_,az,aa⟩:=bdS a9;refine dE z z (fc call131 z<|h_y az (zt' O hy) (a2.g hf) ay) (.inr fun _ _ h=>o_<|h.1) ?_;rintro _ _ ⟨s8,rfl,aA⟩;obtain ⟨aB,aC,hmz⟩:=bdS aa;refine dE z z (fc call50 z<|b_l aC (zt' O<|lt_ hy s8.s) au (ii z) aA) (.inr fun _ _ h=>o_<|h.1) ?_;rintro _ _ ⟨sc,rfl⟩;refine dR z z (not_ z)<|dM z z z ?_
   rcases bs (!aB) with H | H
   ·iterate 3 refine dRn z z z H z ?_
    iterate 12 refine dRu z z z z ?_
    exact dRn z z z H z<|dR z z (pT z H z)<|pD (fun _ q=>⟨true,som<|ifT hmz H,q.k<|s4 z z z z,bup (bup s6 s8) sc⟩)
   have W:=ifF hmz H;refine dRg z z z H z (mv z)<|dRg z z z H z (a_C z z)<|dRg z z z H z (mv z) ?_
   rcases bs (decide<|0<((ke:Nat):Int)) with G | G
   ·refine dRg z z z G z (fd b_f z) ?_;have Y:=(hk.e s8).e sc;refine dRg z z z G z (l0 A_ z<|Y.at z)<|dRg z z z G z (mv z)<|dRg z z z G z (sb_ z z) ?_
    obtain ⟨aD,aE,ab⟩:=bdS<|ifT W G;have a0:=J.g<|(hf.e s8).e sc
    refine c_n z z z G z (at_ (α:=Int) y_ z_3 z z z a0 aE) ?_;rintro _ ⟨_,_,_,rfl,aF,aG,_⟩;obtain ⟨rfl,_⟩:=T_ aG;refine dRg z z z G z (l0 g_3 z<|aF.at0 z)<|dRg z z z G z (fd b_f z)<|dRg z z z G z (l0 A_ z<|Y.at z)<|dRg z z z G z (mv z) ?_
    obtain ⟨aH,aI,ad⟩:=bdS ab;refine c_n z z z G z (at_ (α:=Int) y_ z_3 z z z a0 aI) ?_;rintro _ ⟨_,_,_,rfl,aJ,aK,_⟩;obtain ⟨rfl,_⟩:=T_ aK;exact dRg z z z G z (l0 g_3 z<|aJ.at0 z)<|dRg z z z G z (a_z z z)<|dRg z z z H z (pT z G z)<|dR z z (pF z H z)<|pD (fun _ q=>⟨decide<|aH<=aD,som ad,q.k<|s4 z z z z,bup (bup s6 s8) sc⟩)
   iterate 12 refine dRn z z z G z ?_
   exact dRg z z z H z (pF z G z)<|dR z z (pF z H z)<|pD (fun _ q=>⟨false,som<|ifF W G,q.k<|s4 z z z z,bup (bup s6 s8) sc⟩)
  rintro aL _ ⟨xj,rfl,_,a1⟩;revert aL;refine Wo<|Wc z (fun hcl=>?_) (fun hcl=>?_)
  ·exact Ws<|Rw z<|Wr<|rtO<|qL (som<|ifT hmx hcl).symm<|f_ hr z ⟨bup (bup (bup (bup h4 h3) s5) s7) a1,z⟩
  exact Wk<|Wg<|Rm z<|R z (inc_ hku (lt_ (repS.len J) G_) z z)<|Ra z<|Wl (fun _ q=>⟨(),(som<|ifF hmx hcl).symm,⟨q.k<|s3 z z z,bup s7 a1⟩⟩)
 ·rintro _ _ _ ⟨ae,sm⟩;refine Wu ?_ ae;refine Wq<|Wm z<|Rf z b_f z<|R z (l0 A_ z<|((ha.e s5).e sm).at z)<|R z (lnR y_ z<|J.g<|(((h4.ag B).e h3).e s5).e sm)<|Rl z z z<|Wx z (fun hc=>(a_1 hc).elim) (fun _=>?_)
  exact We<|fun _ q=>⟨rfl,⟨q.k sn,sm⟩⟩
 ·rintro _ aM _ rfl ⟨_,aN⟩;have af:=elL hmr;revert aM;refine Wo<|Ws<|Rw z ?_
  obtain rfl:=som af;exact Wr<|f_ hr z ⟨bup (bup (bup h4 h3) s5) aN,z⟩
 rintro _ _ _ _ rfl ⟨rfl,ah⟩;have ai:=elR hmr;obtain rfl:=som ai;exact ⟨ah,z⟩
theorem W_w2t {x1:c_}{x2:g_}{res:Bool}(hm:g_W x1 x2=some res)(I:B<=w0.z)(a8:repS w0 B (sl A0 N0 C0) x1.rules)(a2:x2.name.b.length<=LEN)(a3:inI x2.kind)(V:inI x2.size)(W:repS w0 B (sl A3 N3 C3) x2.bytes)(a0:repS w0 B (sl A2 N2 C2) x2.names)(a4:repS w0 B (sl A1 N1 C1) x2.tags)(Y:repS w0 B (sl A4 N4 C4) x2.kids):l_ prog 128 [(.agg #[sl A0 N0 C0]),(.agg #[Str.v x2.name,vI x2.kind,vI x2.size,vB x2.little,sl A3 N3 C3,sl A2 N2 C2,sl A1 N1 C1,sl A4 N4 C4])] w0 (Q7 w0 B res):=by
 unfold g_W at hm
 refine goG func128 z z z fun fn hr=>Ws<|E z (fb z) ?_
 rintro _ al ⟨rfl,aT⟩;have h1:=aT.below;have am:Blk al w0.z [sl A0 N0 C0]:=aT.blk;refine E z (fb z) ?_;rintro _ H ⟨rfl,aU⟩;have G:=aU.below;have h3:Blk H al.z (vR x2 A3 N3 C3 A2 N2 C2 A1 N1 C1 A4 N4 C4):=aU.blk;refine Rw z<|Wq<|Ws<|Rf z a_M z<|R z (l0 g_3 z<|h3.at z)<|Wn<|Wb<|Ws<|Rq z z z<|Rw z<|Wc z (fun a9=>?_) (fun a9=>?_)
 ·refine Wq ?_;obtain ⟨bK,bg,bh⟩:=bdS<|ifT hm a9;refine Wt (fun a w=>∃(an:Bool),an=bK/\Sat 114 [(4,vB an)] a/\Below H.z H w) ?_ ?_
  ·refine Wg<|R z (lN (vs:=vR x2 A3 N3 C3 A2 N2 C2 A1 N1 C1 A4 N4 C4) D_ t_ z z fid<|h3.row 0 8 z) ?_
   have hw:=(h1.ag B).e G;have aV:=lt_ h1.s G.s;obtain ⟨bL,bM,az⟩:=bdS bg;refine E z (fc call153 z<|d_B bM (zt' I aV) a2 a3 V (W.g hw) (a0.g hw) (a4.g hw) (Y.g hw)<|ii z) ?_;rintro _ _ ⟨sg,rfl⟩;refine Rm z ?_
   rcases bs bL with hca | hca
   ·refine Rh z hca (fd a_G z) ?_;have aW:=h3.e sg;refine Rh z hca (l0 g_3 z<|aW.at z) ?_;obtain ⟨bN,bO,aA⟩:=bdS<|ifT az hca;refine Eg z z hca z (fc call50 z<|b_l bO (zt' I<|lt_ aV sg.s) V (ii z)<|ii z) ?_;rintro _ _ ⟨sx,rfl⟩;refine R z (pT z hca z)<|Rm z ?_
    rcases bs bN with O | O
    ·have aB:=ifT aA O;refine Rh z O (fd c_R z) ?_;have aX:=aW.e sx;refine Rh z O (l0 g_4 z<|aX.at z)<|Rh z O (not_ z)<|Rh z O (mv z) ?_
     rcases bs (!x2.little) with hcb | hcb
     ·iterate 3 refine Nh z hcb ?_
      exact Rh z O (pT z hcb z)<|R z (pT z O z)<|Ra z<|Wl (fun _ q=>⟨true,som<|ifT aB hcb,q.k<|s1 z,bup sg sx⟩)
     exact Rh z hcb (fd a_G z)<|Rh z hcb (l0 g_3 z<|aX.at z)<|Rh z hcb (a_C z z)<|Rh z O (pF z hcb z)<|R z (pT z O z)<|Ra z<|Wl (fun _ q=>⟨decide<|1<x2.size,som<|ifF aB hcb,q.k<|s1 z,bup sg sx⟩)
    iterate 4 refine Nh z O ?_
    exact Nv z<|Nv z<|Nv z<|Nh z O<|R z (pF z O z)<|Ra z<|Wl (fun _ q=>⟨false,som<|ifF aA O,q.k<|s1 z,bup sg sx⟩)
   iterate 3 refine Nh z hca ?_
   exact R z (pF z hca z)<|Rm z<|Nh z z<|Nh z z<|Nh z z<|Nh z z<|Nv z<|Nv z<|Nv z<|Nh z z<|R z (pF z z z)<|Ra z<|Wl (fun _ q=>⟨false,som<|ifF az hca,q.k<|s1 z,sg⟩)
  rintro bP _ ⟨an,rfl,_,bQ⟩;revert bP;refine Wo ?_;obtain rfl:=som bh;exact Wr<|rtO<|f_ hr z ⟨bup (bup h1 G) bQ,z⟩
 have aC:=ifF hm a9;refine Ws<|Rq z z z<|Rw z<|Wc z (fun aa=>?_) (fun aa=>?_)
 ·refine Wq ?_;obtain ⟨bR,bi,bj⟩:=bdS<|ifT aC aa;refine Wt (fun a w=>∃(ao:Bool),ao=bR/\Sat 114 [(4,vB ao)] a/\Below H.z H w) ?_ ?_
  ·refine Wg<|R z (lN (vs:=vR x2 A3 N3 C3 A2 N2 C2 A1 N1 C1 A4 N4 C4) D_ t_ z z fid<|h3.row 0 8 z) ?_
   have hl:=(h1.ag B).e G;have aY:=lt_ h1.s G.s;obtain ⟨bS,bT,aD⟩:=bdS bi;refine E z (fc call153 z<|d_B bT (zt' I aY) a2 a3 V (W.g hl) (a0.g hl) (a4.g hl) (Y.g hl)<|ii z) ?_;rintro _ _ ⟨sn,rfl⟩;refine Rm z ?_
   rcases bs bS with a5 | a5
   ·refine Rh z a5 (fd a_Z z)<|Rh z a5 (l0 J_ z<|(h3.e sn).at z) ?_
    have aZ:=W.g<|hl.e sn
    refine Rh z a5 (lnR n_ z aZ) ?_;obtain ⟨bU,bV,bk⟩:=bdS<|ifT aD a5;refine Eg z z a5 z (fc call50 z<|b_l bV (zt' I<|lt_ aY sn.s) (b_h<|repS.len aZ) (ii z)<|ii z) ?_;rintro _ _ ⟨bW,rfl⟩;exact R z (pT z a5 z)<|Ra z<|Wl (fun _ q=>⟨bU,som bk,q.k<|s1 z,bup sn bW⟩)
   iterate 4 refine Nh z a5 ?_
   exact R z (pF z a5 z)<|Ra z<|Wl (fun _ q=>⟨false,som<|ifF aD a5,q.k<|s1 z,sn⟩)
  rintro bX _ ⟨ao,rfl,_,bY⟩;revert bX;refine Wo ?_;obtain rfl:=som bj;exact Wr<|rtO<|f_ hr z ⟨bup (bup h1 G) bY,z⟩
 have aE:=ifF aC aa;refine Ws<|Rq z z z<|Rw z<|Wc z (fun ab=>?_) (fun ab=>?_)
 ·refine Wq ?_;obtain ⟨bZ,bm,bn⟩:=bdS<|ifT aE ab;refine Wt (fun a w=>∃(ap:Bool),ap=bZ/\Sat 114 [(4,vB ap)] a/\Below H.z H w) ?_ ?_
  ·refine Wg<|R z (lN (vs:=vR x2 A3 N3 C3 A2 N2 C2 A1 N1 C1 A4 N4 C4) D_ t_ z z fid<|h3.row 0 8 z) ?_
   have hy:=(h1.ag B).e G;have b0:=lt_ h1.s G.s;obtain ⟨c0,c1,aF⟩:=bdS bm;refine E z (fc call153 z<|d_B c1 (zt' I b0) a2 a3 V (W.g hy) (a0.g hy) (a4.g hy) (Y.g hy)<|ii z) ?_;rintro _ _ ⟨sz,rfl⟩;refine Rm z ?_
   rcases bs c0 with hcc | hcc
   ·refine Rh z hcc (fd a_G z)<|Rh z hcc (l0 g_3 z<|(h3.e sz).at z) ?_
    obtain ⟨c2,c3,bo⟩:=bdS<|ifT aF hcc;refine Eg z z hcc z (fc call50 z<|b_l c3 (zt' I<|lt_ b0 sz.s) V (ii z)<|ii z) ?_;rintro _ _ ⟨c4,rfl⟩;exact R z (pT z hcc z)<|Ra z<|Wl (fun _ q=>⟨c2,som bo,q.k<|s1 z,bup sz c4⟩)
   iterate 3 refine Nh z hcc ?_
   exact R z (pF z hcc z)<|Ra z<|Wl (fun _ q=>⟨false,som<|ifF aF hcc,q.k<|s1 z,sz⟩)
  rintro c5 _ ⟨ap,rfl,_,c6⟩;revert c5;refine Wo ?_;obtain rfl:=som bn;exact Wr<|rtO<|f_ hr z ⟨bup (bup h1 G) c6,z⟩
 have aG:=ifF aE ab;refine Ws<|Rq z z z<|Rw z<|Wc z (fun ad=>?_) (fun ad=>?_)
 ·refine Wq ?_;obtain ⟨c7,bp,bq⟩:=bdS<|ifT aG ad;refine Wt (fun a w=>∃(aq:Bool),aq=c7/\Sat 114 [(4,vB aq)] a/\Below H.z H w) ?_ ?_
  ·refine Wd (X:=noX) 0 (pl_ 12 [1,8]) mo (by kernel_rfl) fun cZ sh _=>?_
   have b3:=h3.e sh;refine dR z z (lN (vs:=vR x2 A3 N3 C3 A2 N2 C2 A1 N1 C1 A4 N4 C4) D_ t_ z z fid<|b3.row 0 8 z) ?_;have ho:=((h1.ag B).e G).e sh;have b4:=lt_ (lt_ h1.s G.s) sh.s;obtain ⟨c8,c9,aH⟩:=bdS bp;refine dE z z (fc call153 z<|d_B c9 (zt' I b4) a2 a3 V (W.g ho) (a0.g ho) (a4.g ho) (Y.g ho)<|ii z) (.inr fun _ _ h=>o_<|h.1) ?_;rintro _ _ ⟨si,rfl⟩;refine dM z z z ?_
   rcases bs c8 with J | J
   ·refine dRg z z z J z (lN (vs:=[sl A0 N0 C0]) w_ v_ z z fid<|(((am.e G).e sh).e si).row 0 1 z)<|dRg z z z J z (fd R_ z)<|dRg z z z J z (l0 A_ z<|(b3.e si).at z) ?_
    obtain ⟨_,ca,bt⟩:=bdS<|ifT aH J;have b5:=ho.e si;refine c_n z z z J z (at_ (α:=Int) y_ z_3 z z z (Y.g b5) ca) ?_;rintro _ ⟨_,_,_,rfl,cb,cc,_⟩;obtain ⟨rfl,cd⟩:=T_ cc;refine dRg z z z J z (l0 g_3 z<|cb.at0 z) ?_;obtain ⟨ce,cf,bu⟩:=bdS bt;refine dEg z z z J z (fc call131 z<|h_y cf (zt' I<|lt_ b4 si.s) (a8.g b5) cd) (.inr fun _ _ h=>o_<|h.1) ?_;rintro _ _ ⟨cg,rfl,_⟩;exact dRg z z z J z (a_C z z)<|dR z z (pT z J z)<|dQ z z z<|pD (fun _ q=>⟨decide<|0<ce,som bu,q.k<|s1 z,bup (bup sh si) cg⟩)
   iterate 5 refine dRn z z z J z ?_
   exact dEn z z z J z<|dRn z z z J z<|dR z z (pF z J z)<|dQ z z z<|pD (fun _ q=>⟨false,som<|ifF aH J,q.k<|s1 z,bup sh si⟩)
  rintro ch _ ⟨aq,rfl,_,ci⟩;revert ch;refine Wo ?_;obtain rfl:=som bq;exact Wr<|rtO<|f_ hr z ⟨bup (bup h1 G) ci,z⟩
 have aI:=ifF aG ad;refine Ws<|Rq z z z<|Rw z<|Wc z (fun ae=>?_) (fun ae=>?_)
 ·refine Wq ?_;obtain ⟨cj,bv,bw⟩:=bdS<|ifT aI ae;refine Wt (fun a w=>∃(ar:Bool),ar=cj/\Sat 114 [(4,vB ar)] a/\Below H.z H w) ?_ ?_
  ·refine Wd (X:=noX) 0 (pl_ 12 [1,8]) mo (by kernel_rfl) fun d0 sj _=>?_
   have b6:=h3.e sj;refine dR z z (lN (vs:=vR x2 A3 N3 C3 A2 N2 C2 A1 N1 C1 A4 N4 C4) D_ t_ z z fid<|b6.row 0 8 z) ?_;have hp:=((h1.ag B).e G).e sj;have b7:=lt_ (lt_ h1.s G.s) sj.s;obtain ⟨ck,cl,aJ⟩:=bdS bv;refine dE z z (fc call153 z<|d_B cl (zt' I b7) a2 a3 V (W.g hp) (a0.g hp) (a4.g hp) (Y.g hp)<|ii z) (.inr fun _ _ h=>o_<|h.1) ?_;rintro _ _ ⟨sk,rfl⟩;refine dM z z z ?_
   rcases bs ck with L | L
   ·refine dRg z z z L z (lN (vs:=[sl A0 N0 C0]) w_ v_ z z fid<|(((am.e G).e sj).e sk).row 0 1 z)<|dRg z z z L z (fd R_ z)<|dRg z z z L z (l0 A_ z<|(b6.e sk).at z) ?_
    obtain ⟨_,cm,bx⟩:=bdS<|ifT aJ L;have b8:=hp.e sk;refine c_n z z z L z (at_ (α:=Int) y_ z_3 z z z (Y.g b8) cm) ?_;rintro _ ⟨_,_,_,rfl,cn,co,_⟩;obtain ⟨rfl,cp⟩:=T_ co;refine dRg z z z L z (l0 g_3 z<|cn.at0 z) ?_;obtain ⟨cq,cr,bz⟩:=bdS bx;refine dEg z z z L z (fc call131 z<|h_y cr (zt' I<|lt_ b7 sk.s) (a8.g b8) cp) (.inr fun _ _ h=>o_<|h.1) ?_;rintro _ _ ⟨ct,rfl,_⟩;exact dRg z z z L z (a_C z z)<|dR z z (pT z L z)<|dQ z z z<|pD (fun _ q=>⟨decide<|0<cq,som bz,q.k<|s1 z,bup (bup sj sk) ct⟩)
   iterate 5 refine dRn z z z L z ?_
   exact dEn z z z L z<|dRn z z z L z<|dR z z (pF z L z)<|dQ z z z<|pD (fun _ q=>⟨false,som<|ifF aJ L,q.k<|s1 z,bup sj sk⟩)
  rintro cu _ ⟨ar,rfl,_,cv⟩;revert cu;refine Wo ?_;obtain rfl:=som bw;exact Wr<|rtO<|f_ hr z ⟨bup (bup h1 G) cv,z⟩
 have aK:=ifF aI ae;refine Ws<|Rq z z z<|Rw z<|Wc z (fun af=>?_) (fun af=>?_)
 ·refine Wq ?_;obtain ⟨cw,bA,bB⟩:=bdS<|ifT aK af;refine Wt (fun a w=>∃(au:Bool),au=cw/\Sat 114 [(4,vB au)] a/\Below H.z H w) ?_ ?_
  ·refine Wg<|R z (lN (vs:=vR x2 A3 N3 C3 A2 N2 C2 A1 N1 C1 A4 N4 C4) D_ t_ z z fid<|h3.row 0 8 z)<|Rf z c_b z<|R z (l0 b_L z<|h3.at z) ?_
   have hq:=(h1.ag B).e G;have av:=a0.g hq;refine R z (lnR a_d z av) ?_;have b9:=lt_ h1.s G.s;obtain ⟨cx,cy,aL⟩:=bdS bA;refine E z (fc call153 z<|d_B cy (zt' I b9) a2 a3 V (W.g hq) av (a4.g hq) (Y.g hq)<|b_h<|repS.len av) ?_;rintro _ _ ⟨sr,rfl⟩;refine Rm z ?_
   rcases bs cx with hcd | hcd
   ·refine Rh z hcd (fd c_b z)<|Rh z hcd (l0 b_L z<|(h3.e sr).at z) ?_
    obtain ⟨cz,cA,bC⟩:=bdS<|ifT aL hcd;refine Eg z z hcd z (fc call154 z<|W_w2r cA (zt' I<|lt_ b9 sr.s)<|a0.g<|hq.e sr) ?_;rintro _ _ ⟨cB,rfl⟩;exact R z (pT z hcd z)<|Ra z<|Wl (fun _ q=>⟨cz,som bC,q.k<|s1 z,bup sr cB⟩)
   iterate 3 refine Nh z hcd ?_
   exact R z (pF z hcd z)<|Ra z<|Wl (fun _ q=>⟨false,som<|ifF aL hcd,q.k<|s1 z,sr⟩)
  rintro cC _ ⟨au,rfl,_,cD⟩;revert cC;refine Wo ?_;obtain rfl:=som bB;exact Wr<|rtO<|f_ hr z ⟨bup (bup h1 G) cD,z⟩
 have aM:=ifF aK af;refine Ws<|Rq z z z<|Rw z<|Wc z (fun ah=>?_) (fun ah=>?_)
 ·refine Wq ?_;obtain ⟨cE,bD,bE⟩:=bdS<|ifT aM ah;refine Wt (fun a w=>∃(aw:Bool),aw=cE/\Sat 114 [(4,vB aw)] a/\Below H.z H w) ?_ ?_
  ·refine Wg<|R z (lN (vs:=vR x2 A3 N3 C3 A2 N2 C2 A1 N1 C1 A4 N4 C4) D_ t_ z z fid<|h3.row 0 8 z) ?_
   have ht:=(h1.ag B).e G;have ba:=lt_ h1.s G.s;obtain ⟨cF,cG,aN⟩:=bdS bD;refine E z (fc call153 z<|d_B cG (zt' I ba) a2 a3 V (W.g ht) (a0.g ht) (a4.g ht) (Y.g ht)<|ii z) ?_;rintro _ _ ⟨sm,rfl⟩;refine Rm z ?_
   rcases bs cF with hce | hce
   ·refine Rh z hce (lN (vs:=[sl A0 N0 C0]) w_ v_ z z fid<|((am.e G).e sm).row 0 1 z)<|Rh z hce (lN (vs:=vR x2 A3 N3 C3 A2 N2 C2 A1 N1 C1 A4 N4 C4) D_ t_ z z fid<|(h3.e sm).row 0 8 z) ?_
    have hu:=ht.e sm;obtain ⟨cH,cI,bF⟩:=bdS<|ifT aN hce;refine Eg z z hce z (fc call155 z<|W_w2s cI (zt' I<|lt_ ba sm.s) (a8.g hu) a2 a3 V (W.g hu) (a0.g hu) (a4.g hu)<|Y.g hu) ?_;rintro _ _ ⟨cJ,rfl⟩;exact R z (pT z hce z)<|Ra z<|Wl (fun _ q=>⟨cH,som bF,q.k<|s1 z,bup sm cJ⟩)
   iterate 3 refine Nh z hce ?_
   exact R z (pF z hce z)<|Ra z<|Wl (fun _ q=>⟨false,som<|ifF aN hce,q.k<|s1 z,sm⟩)
  rintro cK _ ⟨aw,rfl,_,cL⟩;revert cK;refine Wo ?_;obtain rfl:=som bE;exact Wr<|rtO<|f_ hr z ⟨bup (bup h1 G) cL,z⟩
 refine Wq<|Ws<|Rq z z z<|Rw z ?_
 obtain ⟨cM,aO,aP⟩:=bdS<|ifF aM ah;refine Wt (fun a w=>∃(ax:Bool),ax=cM/\Sat 114 [(3,pt al.z),(6,vI x2.kind),(92,vB ax)] a/\Below H.z H w) ?_ ?_
 ·refine Wc z (fun ai=>?_)<|fun ai=>?_
  ·exact a_I<|fun _ q=>⟨x2.kind==8,som<|ifT aO ai,q.k<|s3 z z z,br H⟩
  exact Wg<|Rq z z z<|Ra z<|Wl (fun _ q=>⟨x2.kind==9,som<|ifF aO ai,q.k<|s3 z z z,br H⟩)
 rintro cN bb ⟨ax,rfl,_,sf⟩;revert cN;refine Wo<|Wc z (fun aj=>?_) (fun aj=>?_)
 ·refine Ws<|R z (lN (vs:=vR x2 A3 N3 C3 A2 N2 C2 A1 N1 C1 A4 N4 C4) D_ t_ z z fid<|(h3.e sf).row 0 8 z) ?_
  have a7:=((h1.ag B).e G).e sf;obtain ⟨_,cO,bG⟩:=bdS<|ifT aP aj;refine E z (fc call153 z<|d_B cO (zt' I<|lt_ (lt_ h1.s G.s) sf.s) a2 a3 V (W.g a7) (a0.g a7) (a4.g a7) (Y.g a7)<|ii z) ?_;rintro _ _ ⟨cP,rfl⟩;refine Rw z ?_
  obtain rfl:=som bG;exact Wr<|rtO<|f_ hr z ⟨bup (bup (bup h1 G) sf) cP,z⟩
 have aQ:=ifF aP aj;refine Ws<|Rq z z z<|Rw z<|Wc z (fun ak=>?_) (fun ak=>?_)
 ·refine Wq ?_;obtain ⟨cQ,bH,bI⟩:=bdS<|ifT aQ ak;refine Wt (fun a w=>∃(ay:Bool),ay=cQ/\Sat 114 [(4,vB ay)] a/\Below bb.z bb w) ?_ ?_
  ·refine Wg ?_;have bc:=h3.e sf;refine R z (lN (vs:=vR x2 A3 N3 C3 A2 N2 C2 A1 N1 C1 A4 N4 C4) D_ t_ z z fid<|bc.row 0 8 z) ?_;have hv:=((h1.ag B).e G).e sf;obtain ⟨cR,cS,aR⟩:=bdS bH;refine E z (fc call153 z<|d_B cS (zt' I<|lt_ (lt_ h1.s G.s) sf.s) a2 a3 V (W.g hv) (a0.g hv) (a4.g hv) (Y.g hv)<|ii z) ?_;rintro _ _ ⟨ss,rfl⟩;refine Rm z ?_
   rcases bs cR with a6 | a6
   ·have aS:=ifT aR a6;refine Rh z a6 (fd a_Z z) ?_;have be:=bc.e ss;refine Rh z a6 (l0 J_ z<|be.at z) ?_;have bf:=W.g<|hv.e ss
    refine Rh z a6 (lnR n_ z bf)<|Rh z a6 (eql z z)<|R z (pT z a6 z)<|Rm z ?_
    rcases bs ((x2.bytes.length:Int)==1) with a1 | a1
    ·refine Rh z a1 (fd a_Z z)<|Rh z a1 (l0 J_ z<|be.at z) ?_
     obtain ⟨cT,cU,bJ⟩:=bdS<|ifT aS a1;refine RXg z z a1 z (at_ (α:=UInt8) n_ z_5 z z z bf cU) ?_;rintro _ ⟨_,_,_,rfl,cV,cW,_⟩;obtain rfl:=u8 cW;exact Rh z a1 (l0 g_5 z<|cV.at0 z)<|Rh z a1 (nq z z)<|R z (pT z a1 z)<|Ra z<|Wl (fun _ q=>⟨(byteI cT) != (byteI (92:UInt8)),som bJ,q.k<|s1 z,ss⟩)
    iterate 5 refine Nh z a1 ?_
    exact R z (pF z a1 z)<|Ra z<|Wl (fun _ q=>⟨false,som<|ifF aS a1,q.k<|s1 z,ss⟩)
   iterate 4 refine Nh z a6 ?_
   exact R z (pF z a6 z)<|Rm z<|Nh z z<|Nh z z<|Nh z z<|Nh z z<|Nh z z<|R z (pF z z z)<|Ra z<|Wl (fun _ q=>⟨false,som<|ifF aR a6,q.k<|s1 z,ss⟩)
  rintro cX _ ⟨ay,rfl,_,cY⟩;revert cX;refine Wo ?_;obtain rfl:=som bI;exact Wr<|rtO<|f_ hr z ⟨bup (bup (bup h1 G) sf) cY,z⟩
 refine Wk<|Ws<|Rw z ?_
 obtain rfl:=som<|ifF aQ ak;exact Wr<|f_ hr z ⟨bup (bup h1 G) sf,z⟩
theorem W_w2u {x1:c_}{x2:Int}{res:Bool}(hm:g_X x1 x2=some res)(J:B<=w0.z)(O:repS w0 B (sl A0 N0 C0) x1.rules)(a0:inI x2):l_ prog 95 [(.agg #[sl A0 N0 C0]),vI x2] w0 (Q7 w0 B res):=by
 unfold g_X at hm
 refine goG func95 z z z fun fn hr=>Ws<|E z (fb z) ?_
 rintro _ aO ⟨rfl,a9⟩;have h1:=a9.below;have he:Blk aO w0.z [sl A0 N0 C0]:=a9.blk;refine Rw z<|Wq<|Wm z<|Rf z a_9 z<|R z (l0 a_b z<|he.at z)<|R z (lnR a_3 z<|O.e h1)<|R z (sb_ z z) ?_
 obtain ⟨_,aP,a1⟩:=bdS hm;refine E z (fc call50 z<|b_l aP (zt' J h1.s) a0 (ii z)<|iS _ _) ?_;rintro _ I ⟨G,rfl⟩;refine R z (not_ z)<|Wx z (fun hci=>?_) (fun hci=>?_)
 ·refine Ws<|Rw z ?_
  obtain rfl:=som<|ifT a1 hci;exact Wr<|f_ hr z ⟨bup h1 G,z⟩
 refine Wk<|Ws<|Rf z a_9 z ?_
 have hj:=he.e G;refine R z (l0 a_b z<|hj.at z)<|Rm z ?_
 obtain ⟨xk,aQ,ar⟩:=bdS<|ifF a1 hci;have hl:=(h1.ag B).e G;refine RX z (at_ (α:=g_) a_3 t_ z z z (O.g hl) aQ) ?_;rintro _ ⟨_,_,_,rfl,aR,aS,_⟩;obtain ⟨am,nn,co,ap,nq,cr,au,ns,ct,av,nw,cx,rfl,aa,aT,aU,aV,aW,aX,hf⟩:=a_v aS;refine R z (lN (vs:=vR xk am nn co ap nq cr au ns ct av nw cx) D_ t_ z z fid aR)<|E z (fa b_Y) ?_
 rintro _ aY ⟨rfl,ab⟩;have h2:=ab.below;refine E0 (fs0 (cur':=vR xk am nn co ap nq cr au ns ct av nw cx) t_ z z (ab.blk:Blk aY I.z [(Str.v (⟨[]⟩:Str)),vI 0,vI 0,vB false,sl none 0 0,sl none 0 0,sl none 0 0,sl none 0 0]) z z z z) ?_;rintro _ L ⟨hg,aZ⟩;have h3:=aZ.one;refine Wn<|Wq<|Ws<|Rw z ?_
 obtain ⟨_,aw,a2⟩:=bdS ar;refine Wf (σ:=Unit) (ρ:=Bool) (fun (ad:Nat)(_:Unit) a w=>Sat 58 [(1,vI x2),(2,pt w0.z),(5,pt I.z),(6,vI ((ad:Nat):Int))] a/\Below L.z L w) (fun (_:Unit) a w=>Sat 58 [(1,vI x2),(2,pt w0.z),(5,pt I.z)] a/\Below L.z L w) (rQ prog fn<|Q7 w0 B) aw ?_ ?_ ?_ ?_ ?_
 ·exact fun _ q=>⟨q.k<|s4 z z z z,br L⟩
 ·rintro ad _ _ _ _ a3 ⟨ax,sa⟩ ay;refine Wu ?_ ax;refine Wq<|Wm z<|Rm z<|Rl z z z<|Wx z (fun _=>?_) (fun hc=>(noltI a3 hc).elim)
  refine Wk<|Wq<|Wb<|Wq (Wd (X:=noX) 0 (pl_ 9 []) mo (by kernel_rfl) fun bn sb _=>dR z z (fd a_9 z)<|dR z z (l0 a_b z<|((((hj.e h2).c h3<|djs<|mm1 he.lt G.s).e sa).e sb).at z)<|dM z z z ?_)
  obtain ⟨_,b0,a4⟩:=bdS ay;have ae:=lt_ h1.s G.s;refine dRX z z (at_ (α:=g_) a_3 t_ z z z (O.g<|(((hl.e h2).c h3<|e_ (or0 (d_ lr) (p_<|zt' J ae):∀k∈[I.z],¬B k)).e sa).e sb) b0) ?_;rintro _ ⟨_,_,_,rfl,b3,b4,_⟩;obtain ⟨_,_,_,_,_,_,_,_,_,_,_,_,rfl,_,_,_,_,_,_,_⟩:=a_v b4;refine dR z z (fd d_z z)<|dR z z (l0 g_9 z<|b3.at (j:=0) z)<|dR z z (fd d_z z)<|dR z z (l0 g_9 z<|((hg.e sa).e sb).at z)<|dR z z (e_l z z)<|pD<|Wo<|Wc z (fun hcy=>?_) (fun hcy=>?_)
  ·exact Ws<|Rw z<|Wr<|rtO<|qL (som<|ifT a4 hcy).symm<|f_ hr z ⟨bup (bup (bM (bup (bup h1 G) h2) h3<|m1 ae) sa) sb,z⟩
  exact Wk<|Wg<|Rm z<|R z (inc_ a3 (tl_ a0) z z)<|Ra z<|Wl (fun _ q=>⟨(),(som<|ifF a4 hcy).symm,⟨q.k<|s4 z z z z,bup sa sb⟩⟩)
 ·rintro _ _ _ ⟨az,b5⟩;refine Wu ?_ az;refine Wq<|Wm z<|Rm z<|Rl z z z<|Wx z (fun hc=>(l_z hc).elim) (fun _=>?_)
  exact We<|fun _ q=>⟨rfl,⟨q.k<|s3 z z z,b5⟩⟩
 ·rintro _ b6 wc rfl ⟨_,s5⟩;have aA:=elL a2;revert b6;refine Wo<|Wq<|Ws<|Rw z ?_
  obtain ⟨_,aB,a5⟩:=bdS aA;refine Wf (σ:=Unit) (ρ:=Bool) (fun (af:Nat)(_:Unit) a w=>Sat 58 [(1,vI x2),(2,pt w0.z),(5,pt I.z),(7,vI ((af:Nat):Int))] a/\Below wc.z wc w) (fun (_:Unit) a w=>Sat 58 [(2,pt w0.z),(5,pt I.z)] a/\Below wc.z wc w) (rQ prog fn<|Q7 w0 B) aB ?_ ?_ ?_ ?_ ?_
  ·exact fun _ q=>⟨q.k<|s4 z z z z,br wc⟩
  ·rintro af _ _ _ _ a6 ⟨aC,sd⟩ aD;refine Wu ?_ aC;refine Wq<|Wm z<|Rf z R_ z ?_
   have ah:=(hg.e s5).e sd;refine R z (l0 A_ z<|ah.at z) ?_;have hz:=lt_ h1.s G.s;have ai:=hf.g<|(((h2.ag B).c h3<|e_ (or0 (d_ lr) (p_<|zt' J hz):∀k∈[I.z],¬B k)).e s5).e sd
   refine R z (lnR y_ z ai)<|Rl z z z<|Wx z (fun _=>?_) (fun hc=>(a_0 a6 hc).elim)
   refine Wk<|Wq<|Wb<|Ws<|Rf z R_ z<|R z (l0 A_ z<|ah.at z)<|Rm z ?_
   obtain ⟨_,b7,aE⟩:=bdS aD;refine RX z (at_ (α:=Int) y_ z_3 z z z ai b7) ?_;rintro _ ⟨_,_,_,rfl,b8,b9,_⟩;obtain ⟨rfl,ba⟩:=T_ b9;refine R z (l0 g_3 z<|b8.at0 z)<|Rm z<|R z (sb_ z z) ?_
   obtain ⟨_,bb,a7⟩:=bdS aE;refine E z (fc call50 z<|b_l bb (zt' J<|lt_ (lt_ (lt_ (lt_ hz h2.s) h3.s) s5.s) sd.s) ba (ii z)<|iS _ _) ?_;rintro _ _ ⟨aj,rfl⟩;refine R z (not_ z)<|Wx z (fun V=>?_) (fun V=>?_)
   ·exact Ws<|Rw z<|Wr<|rtO<|qL (som<|ifT a7 V).symm<|f_ hr z ⟨bup (bup (bup (bM (bup (bup h1 G) h2) h3<|m1 hz) s5) sd) aj,z⟩
   exact Wk<|Wg<|Rm z<|R z (inc_ a6 (lt_ (repS.len hf) G_) z z)<|Ra z<|Wl (fun _ q=>⟨(),(som<|ifF a7 V).symm,⟨q.k<|s4 z z z z,bup sd aj⟩⟩)
  ·rintro _ _ _ ⟨aF,W⟩;refine Wu ?_ aF;refine Wq<|Wm z<|Rf z R_ z<|R z (l0 A_ z<|((hg.e s5).e W).at z) ?_
   refine R z (lnR y_ z<|hf.g<|(((h2.ag B).c h3<|e_ (or0 (d_ lr) (p_<|zt' J<|lt_ h1.s G.s):∀k∈[I.z],¬B k)).e s5).e W)<|Rl z z z<|Wx z (fun hc=>(a_1 hc).elim) (fun _=>?_)
   exact We<|fun _ q=>⟨rfl,⟨q.k<|s2 z z,W⟩⟩
  ·rintro _ bc ak rfl ⟨_,s8⟩;have aG:=elL a5;revert bc;refine Wo<|Wq ?_
   obtain ⟨be,aH,aI⟩:=bdS aG;refine Wt (fun a w=>∃(Y:Bool),Y=be/\Sat 58 [(4,vB Y)] a/\Below ak.z ak w) ?_ ?_
   ·refine Wg<|Rf z d_z z ?_
    have al:=(hg.e s5).e s8;refine R z (l0 g_9 z<|al.at z) ?_;have an:=lt_ h1.s G.s;have ao:=lt_ (lt_ (lt_ (lt_ an h2.s) h3.s) s5.s) s8.s;obtain ⟨bf,bg,a8⟩:=bdS aH;refine E z (fc call127 z<|W_w1c bg (zt' J ao) aa) ?_;rintro _ _ ⟨s7,rfl⟩;refine Rm z ?_
    rcases bs bf with H | H
    ·refine Rh z H (lN (vs:=[sl A0 N0 C0]) w_ v_ z z fid<|(((((hj.e h2).c h3<|djs<|mm1 he.lt G.s).e s5).e s8).e s7).row 0 1 z)<|Rh z H (lN (vs:=vR xk am nn co ap nq cr au ns ct av nw cx) D_ t_ z z fid<|(al.e s7).row 0 8 z) ?_
     have aq:∀k∈[I.z],¬B k:=or0 (d_ lr)<|p_<|zt' J an;have hh:=((((h2.ag B).c h3<|e_ aq).e s5).e s8).e s7;obtain ⟨bh,bi,aJ⟩:=bdS<|ifT a8 H;refine Eg z z H z (fc call128 z<|W_w2t bi (zt' J<|lt_ ao s7.s) (O.g<|((((hl.e h2).c h3<|e_ aq).e s5).e s8).e s7) aa aT aU (aV.g hh) (aW.g hh) (aX.g hh)<|hf.g hh) ?_;rintro _ _ ⟨bj,rfl⟩;exact R z (pT z H z)<|Ra z<|Wl (fun _ q=>⟨bh,som aJ,q.k<|s1 z,bup s7 bj⟩)
    iterate 3 refine Nh z H ?_
    exact R z (pF z H z)<|Ra z<|Wl (fun _ q=>⟨false,som<|ifF a8 H,q.k<|s1 z,s7⟩)
   rintro bk _ ⟨Y,rfl,_,bm⟩;revert bk;refine Wo ?_;obtain rfl:=som aI;exact Wr<|f_ hr z ⟨bup (bup (bup (bM (bup (bup h1 G) h2) h3<|m1<|lt_ h1.s G.s) s5) s8) bm,z⟩
  rintro _ _ _ _ rfl ⟨rfl,aK⟩;have aL:=elR a5;obtain rfl:=som aL;exact ⟨aK,z⟩
 rintro _ _ _ _ rfl ⟨rfl,aM⟩;have aN:=elR a2;obtain rfl:=som aN;exact ⟨aM,z⟩
theorem W_w2v {x1:c_}{res:Bool}(hm:g_Y x1=some res)(O:B<=w0.z)(I:repS w0 B (sl A0 N0 C0) x1.rules):l_ prog 53 [(.agg #[sl A0 N0 C0])] w0 (Q7 w0 B res):=by
 unfold g_Y at hm
 refine goG func53 z z z fun fn hr=>Ws<|E z (fb z) ?_
 rintro _ H ⟨rfl,W⟩;have G:=W.below;have h2:Blk H w0.z [sl A0 N0 C0]:=W.blk;refine Rw z<|Wq<|Ws<|Rw z ?_
 obtain ⟨_,hug,V⟩:=bdS hm;refine Wf (σ:=Unit) (ρ:=Bool) (fun (ka:Nat)(_:Unit) a w=>Sat 19 [(1,pt w0.z),(3,vI ((ka:Nat):Int))] a/\Below H.z H w) (fun (_:Unit) a w=>Sat 19 [(1,pt w0.z)] a/\Below H.z H w) (rQ prog fn<|Q7 w0 B) hug ?_ ?_ ?_ ?_ ?_
 ·exact fun _ q=>⟨q.k<|s2 z z,br H⟩
 ·rintro ka _ _ _ _ J ⟨hSh,s3⟩ hmi;refine Wu ?_ hSh;refine Wq<|Wm z<|Rf z a_9 z ?_
  have hb:=h2.e s3;refine R z (l0 a_b z<|hb.at z) ?_;have hd:=I.g<|(G.ag B).e s3
  refine R z (lnR a_3 z hd)<|Rl z z z<|Wx z (fun _=>?_) (fun hc=>(a_0 J hc).elim)
  refine Wk<|Wq<|Wb<|Ws<|R z (lN (vs:=[sl A0 N0 C0]) w_ v_ z z fid<|hb.row 0 1 z)<|Rm z ?_
  obtain ⟨_,ej,hmc⟩:=bdS hmi;refine E z (fc call95 z<|W_w2u ej (zt' O<|lt_ G.s s3.s) hd<|ic (Nat.le_of_lt J)<|lt_ (repS.len I) G_) ?_;rintro _ _ ⟨se,rfl⟩;refine R z (not_ z)<|Wx z (fun L=>?_) (fun L=>?_)
  ·exact Ws<|Rw z<|Wr<|rtO<|qL (som<|ifT hmc L).symm<|f_ hr z ⟨bup (bup G s3) se,z⟩
  exact Wk<|Wg<|Rm z<|R z (inc_ J (lt_ (repS.len I) G_) z z)<|Ra z<|Wl (fun _ q=>⟨(),(som<|ifF hmc L).symm,⟨q.k<|s2 z z,bup s3 se⟩⟩)
 ·rintro _ _ _ ⟨hSk,s7⟩;refine Wu ?_ hSk;refine Wq<|Wm z<|Rf z a_9 z<|R z (l0 a_b z<|(h2.e s7).at z)<|R z (lnR a_3 z<|I.g<|(G.ag B).e s7)<|Rl z z z<|Wx z (fun hc=>(a_1 hc).elim) (fun _=>?_)
  exact We<|fun _ q=>⟨rfl,⟨q.k<|s1 z,s7⟩⟩
 ·rintro _ al _ rfl ⟨_,s4⟩;have hmm:=elL V;revert al;refine Wo<|Ws<|Rf z a_9 z<|R z (l0 a_b z<|(h2.e s4).at z) ?_
  have hf:=I.g<|(G.ag B).e s4
  refine R z (lnR a_3 z hf) ?_;obtain ⟨_,en,hmo⟩:=bdS hmm;refine E z (fc call50 z<|b_l en (zt' O<|lt_ G.s s4.s) (b_h<|repS.len hf) (ii z)<|ii z) ?_;rintro _ _ ⟨sp,rfl⟩;refine Rw z ?_
  obtain rfl:=som hmo;exact Wr<|f_ hr z ⟨bup (bup G s4) sp,z⟩
 rintro _ _ _ _ rfl ⟨rfl,hqq⟩;have hmr:=elR V;obtain rfl:=som hmr;exact ⟨hqq,z⟩
theorem k_x {x1:c_}{x2:Int}{res:Bool}(hm:e_w x1 x2=some res)(J:B<=w0.z)(I:repS w0 B (sl A0 N0 C0) x1.rules)(O:inI x2):l_ prog 33 [(.agg #[sl A0 N0 C0]),vI x2] w0 (Q7 w0 B res):=by
 unfold e_w at hm
 refine goG func33 z z z fun fn hr=>Ws<|E z (fb z) ?_
 rintro _ H ⟨rfl,h5⟩;have h1:=h5.below;have h6:Blk H w0.z [sl A0 N0 C0]:=h5.blk;refine Rw z<|Wq ?_
 obtain ⟨u8,V,hma⟩:=bdS hm;refine Wt (fun a w=>∃(x4:Bool),x4=u8/\Sat 15 [(4,vB x4)] a/\Below H.z H w) ?_ ?_
 ·refine Wg<|Rm z<|Rf z a_9 z<|R z (l0 a_b z<|h6.at z)<|R z (lnR a_3 z<|I.e h1)<|R z (sb_ z z) ?_
  obtain ⟨rb,ec,L⟩:=bdS V;refine E z (fc call50 z<|b_l ec (zt' J h1.s) O (ii z)<|iS _ _) ?_;rintro _ _ ⟨s2,rfl⟩;refine Rm z ?_
  rcases bs rb with G | G
  ·refine Rh z G (lN (vs:=[sl A0 N0 C0]) w_ v_ z z fid<|(h6.e s2).row 0 1 z) ?_;obtain ⟨rd,ee,hmf⟩:=bdS<|ifT L G;refine Eg z z G z (fc call53 z<|W_w2v ee (zt' J<|lt_ h1.s s2.s)<|I.g<|(h1.ag B).e s2) ?_;rintro _ _ ⟨sg,rfl⟩;exact R z (pT z G z)<|Ra z<|Wl (fun _ q=>⟨rd,som hmf,q.k<|s1 z,bup s2 sg⟩)
  exact Nh z G<|Nh z G<|R z (pF z G z)<|Ra z<|Wl (fun _ q=>⟨false,som<|ifF L G,q.k<|s1 z,s2⟩)
 rintro ah _ ⟨x4,rfl,_,si⟩;revert ah;refine Wo ?_;obtain rfl:=som hma;exact Wr<|f_ hr z ⟨bup h1 si,z⟩
theorem W_w2w {x1:List UInt8}{x2:Bool}{res:Int}(hm:g_Z x1 x2=some res)(V:B<=w0.z)(G:repS w0 B (sl A0 N0 C0) x1):l_ prog 124 [sl A0 N0 C0,vB x2] w0 (Q0 w0 B res):=by
 unfold g_Z at hm
 refine goG func124 z z z fun fn hr=>Ws<|Rw z<|Ws<|Rw z<|Wq<|Wm z<|R z (lnR n_ z G)<|R z (a_C z z)<|Wx z (fun I=>?_) (fun I=>?_)
 ·refine Ws<|Rw z ?_
  obtain rfl:=som<|ifT hm I;exact Wr<|f_ hr z ⟨br w0,z,ii z⟩
 refine Wk<|Wq<|Ws<|Rw z ?_
 obtain ⟨_,hue,O⟩:=bdS<|ifF hm I;refine Wf (σ:=Int) (ρ:=Int) (fun (k1:Nat)(x0:Int) a w=>Sat 33 [(0,sl A0 N0 C0),(1,vB x2),(5,vI x0),(6,vI ((k1:Nat):Int))] a/\Below w0.z w0 w/\inI x0) (fun (x0:Int) a w=>Sat 33 [(5,vI x0)] a/\Below w0.z w0 w/\inI x0) (rQ prog fn<|Q0 w0 B) hue ?_ ?_ ?_ ?_ ?_
 ·exact fun _ q=>⟨q.k<|s4 z z z z,br w0,ii z⟩
 ·rintro k1 x0 _ H _ J ⟨hSf,s7,h3⟩ hmg;refine Wu ?_ hSf;refine Wq<|Wm z<|Rm z ?_
  have ha:=G.e s7;refine R z (lnR n_ z ha)<|Rl z z z<|Wx z (fun _=>?_) (fun hc=>(a_0 J hc).elim)
  refine Wk<|Wq<|Wb<|Wm z<|Rw z<|Wq<|Wm z<|Wn ?_
  obtain ⟨uh,hub,hmi⟩:=bdS hmg;refine Wt (fun a w=>∃(x4:Int),x4=uh/\Sat 33 [(0,sl A0 N0 C0),(1,vB x2),(5,vI x0),(6,vI ((k1:Nat):Int)),(7,vI x4)] a/\Below H.z H w/\inI x4) ?_ ?_
  ·refine Wc z (fun L=>?_)<|fun L=>?_
   ·exact Wg<|Rm z<|R z (lnR n_ z ha)<|R z (sb_ z z)<|Rm z<|R z (sb_ z z)<|Ra z<|Wl (fun _ q=>⟨r_ (r_ (x1.length:Int) 1) ((k1:Nat):Int),som<|ifT hub L,q.k<|s5 z z z z z,br H,iS _ _⟩)
   exact a_I<|fun _ q=>⟨((k1:Nat):Int),som<|ifF hub L,q.k<|s5 z z z z z,br H,ic (Nat.le_of_lt J)<|lt_ (repS.len G) G_⟩
  rintro aj _ ⟨x4,rfl,_,sc,_⟩;revert aj;refine Wo<|Wg<|Rm z<|R z (d_p z z)<|RM z z ?_
  obtain ⟨xk,el,hmm⟩:=bdS hmi;refine RX z (at_ (α:=UInt8) n_ z_5 z z z (G.g<|(s7.ag B).e sc) el) ?_;rintro _ ⟨_,_,_,rfl,hn,ho,_⟩;obtain rfl:=u8 ho;exact R z (l0 g_5 z<|hn.at0 z)<|R z (b_E d_5 d_3 z)<|R z (add_ z z)<|Rw z<|Wg<|Rm z<|R z (inc_ J (lt_ (repS.len G) G_) z z)<|Ra z<|Wl (fun _ q=>⟨m_ (a_f x0 256)<|byteI xk,(som hmm).symm,⟨q.k<|s4 z z z z,bup s7 sc,iA _ _⟩⟩)
 ·rintro x0 _ _ ⟨hSp,sd,h3⟩;refine Wu ?_ hSp;refine Wq<|Wm z<|Rm z<|R z (lnR n_ z<|G.e sd)<|Rl z z z<|Wx z (fun hc=>(a_1 hc).elim) (fun _=>?_)
  exact We<|fun _ q=>⟨rfl,⟨q.k<|s1 z,sd,h3⟩⟩
 ·rintro x0 aq _ rfl ⟨_,sr,h3⟩;have hms:=elL O;revert aq;refine Wo<|Wm z<|Rw z ?_
  obtain rfl:=som hms;exact Wr<|f_ hr z ⟨sr,z,h3⟩
 rintro _ _ _ _ rfl ⟨rfl,hqt⟩;have hmu:=elR O;obtain rfl:=som hmu;exact ⟨hqt,z⟩
def Q8 (w0:World)(B:Zone)(r:Int×Int×Bool)(v:Value)(w':World):Prop:=Bw w0 w'/\un3 (fun G H I=>v = .tuple #[vI G,vI H,vB I]/\inI G/\inI H) r
theorem k_y {x1:c_}{x2:Int}{x3:List UInt8}{x4:Int}{res:Int×Int×Bool}(hm:e_u x1 x2 x3 x4=some res)(L:B<=w0.z)(Y:repS w0 B (sl A0 N0 C0) x1.rules)(a5:inI x2)(J:repS w0 B (sl A9 N9 C9) x3)(a0:inI x4):l_ prog 86 [(.agg #[sl A0 N0 C0]),vI x2,sl A9 N9 C9,vI x4] w0 (Q8 w0 B res):=by
 unfold e_u at hm
 refine goG func86 z z z fun fn hr=>Ws<|E z (fb z) ?_
 rintro _ I ⟨rfl,V⟩;have G:=V.below;refine RA z z<|Rw z<|Ws<|Rf z a_9 z<|R z (l0 a_b z<|(V.blk:Blk I w0.z [sl A0 N0 C0]).at z)<|Rm z ?_
 obtain ⟨W,em,O⟩:=bdS hm;refine RX z (at_ (α:=g_) a_3 t_ z z z (Y.e G) em) ?_;rintro _ ⟨_,_,_,rfl,ht,hu,_⟩;obtain ⟨aa,nb,cc,ad,ne,cf,ah,ng,ci,aj,nk,cl,rfl,_,_,_,_,_,_,_⟩:=a_v hu;refine R z (lN (vs:=vR W aa nb cc ad ne cf ah ng ci aj nk cl) D_ t_ z z fid ht)<|E z (fa b_Y) ?_
 rintro _ wr ⟨rfl,hn⟩;have h1:=hn.below;refine E0 (fs0 (cur':=vR W aa nb cc ad ne cf ah ng ci aj nk cl) t_ z z (hn.blk:Blk wr I.z [(Str.v (⟨[]⟩:Str)),vI 0,vI 0,vB false,sl none 0 0,sl none 0 0,sl none 0 0,sl none 0 0]) z z z z) ?_;rintro _ _ ⟨ho,ss⟩;have h2:=ss.one;refine Wn<|Wq<|Wm z ?_
 have hp:=((G.ag B).e h1).c h2<|e_ (or0 (d_ lr) (p_<|zt' L G.s):∀k∈[I.z],¬B k)
 refine R z (lnR n_ z<|J.g hp)<|Rm z<|R z (sb_ z z)<|Rf z a_G z<|R z (l0 g_3 z<|ho.at z)<|Rl z z z<|Wx z (fun H=>?_) (fun H=>?_)
 ·refine Wm z<|RA z z<|Rw z ?_
  obtain rfl:=som<|ifT O H;exact Wr<|B_ hr z z z ⟨bM (bup G h1) h2<|m1 G.s,z,ii z,a0⟩
 refine Wk<|Wq (Wd (X:=noX) 0 (.rd 0<|.rd 1<|.rd 2<|.rd 3<|.rd 4<|.rd 5<|.rd 6<|.rd 7<|.rd 8<|.rd 10<|.rd 11<|.rd 12<|.rd 13<|.ef 9<|.rd 14<|.rd 15<|.rd 16 .done) mo (by kernel_rfl) fun a6 s3 _=>?_)
 iterate 3 refine dM z z z ?_
 refine dR z z (fd a_G z) ?_;have h6:=ho.e s3;refine dR z z (l0 g_3 z<|h6.at z)<|dR z z (add_ z z) ?_
 obtain ⟨_,ex,hmy⟩:=bdS<|ifF O H;refine dRX z z (rX n_ z_5 z z (J.g<|hp.e s3) z z ex) ?_;rintro _ ⟨_,_,_,rfl,hz⟩;refine dR z z (fd c_R z)<|dR z z (l0 g_4 z<|h6.at z)<|dM z z z<|dR z z (fd a_G z)<|dR z z (l0 g_3 z<|h6.at z)<|dR z z (add_ z z) ?_
 obtain ⟨_,a2,a1⟩:=bdS hmy;refine dE z z (fc call124 z<|W_w2w a2 (zt' L<|lt_ (lt_ (lt_ G.s h1.s) h2.s) s3.s) hz) (.inr fun _ _ h=>o_<|h.1) ?_;rintro _ _ ⟨a3,rfl,a4⟩
 iterate 3 refine dQ z z z ?_
 refine pD<|Wo ?_
 obtain rfl:=som a1;exact Wr<|B_ hr z z z ⟨bup (bup (bM (bup G h1) h2<|m1 G.s) s3) a3,z,a4,iA _ _⟩
def Q9 (w0:World)(B:Zone)(r:Val×Int×Int)(v:Value)(w':World):Prop:=Bw w0 w'/\un3 (fun G H I=>∃J L O S1 a2 V W S2,v = .tuple #[(.agg #[vI G.number,sl J L O,sl a2 V W]),vI H,vI I]/\inI G.number/\a_ w' S1 (sl J L O) G.bytes/\a_ w' S2 (sl a2 V W) G.items/\inI H/\inI I/\(S1++S2).Nodup/\(∀k∈(S1++S2),w0.z<=k)) r
theorem W_w2x {x1:g_}{x2:List UInt8}{x3:Int}{res:Val×Int×Int}(hm:h_0 x1 x2 x3=some res)(ab:B<=w0.z)(a5:x1.name.b.length<=LEN)(a6:inI x1.kind)(a7:inI x1.size)(I:repS w0 B (sl AC NC CC) x1.bytes)(a8:repS w0 B (sl AB NB CB) x1.names)(a9:repS w0 B (sl AD ND CD) x1.tags)(aa:repS w0 B (sl AE NE CE) x1.kids)(O:repS w0 B (sl A6 N6 C6) x2)(V:inI x3):l_ prog 87 [(.agg #[Str.v x1.name,vI x1.kind,vI x1.size,vB x1.little,sl AC NC CC,sl AB NB CB,sl AD ND CD,sl AE NE CE]),sl A6 N6 C6,vI x3] w0 (Q9 w0 B res):=by
 unfold h_0 at hm
 refine goG func87 z z z fun fn hr=>Ws<|E z (fb z) ?_
 rintro _ J ⟨rfl,he⟩;have G:=he.below;have h5:Blk J w0.z (vR x1 AC NC CC AB NB CB AD ND CD AE NE CE):=he.blk;refine E z (fa E_) ?_;rintro _ H ⟨rfl,hf⟩;have h1:=hf.below;have L:Blk H J.z [vI 0,sl none 0 0,sl none 0 0]:=hf.blk;refine Ra z<|Rw z<|Wq<|Ws<|Rw z ?_
 obtain ⟨_,hun,hmg⟩:=bdS hm;refine Wf (σ:=Unit) (ρ:=Val×Int×Int) (fun (kh:Nat)(_:Unit) a w=>Sat 47 [(1,sl A6 N6 C6),(2,vI x3),(3,pt w0.z),(6,pt J.z),(9,vI ((kh:Nat):Int))] a/\Below H.z H w) (fun (_:Unit) a w=>Sat 47 [(2,vI x3),(3,pt w0.z),(6,pt J.z)] a/\Below H.z H w) (rQ prog fn<|Q9 w0 B) hun ?_ ?_ ?_ ?_ ?_
 ·exact fun _ q=>⟨q.k<|s5 z z z z z,br H⟩
 ·rintro kh _ _ _ _ hki ⟨hSo,s2⟩ hmj;refine Wu ?_ hSo;refine Wq<|Wm z<|Rf z a_Z z ?_
  have hk:=(h5.e h1).e s2;refine R z (l0 J_ z<|hk.at z) ?_;have ha:=((G.ag B).e h1).e s2;refine R z (lnR n_ z<|I.g ha)<|Rl z z z<|Wx z (fun _=>?_) (fun hc=>(a_0 hki hc).elim)
  refine Wk<|Wq<|Wb<|Wq<|Wm z<|Rm z<|R z (add_ z z)<|Rm z<|R z (lnR n_ z<|O.g ha)<|R z (a_z z z)<|Wx z (fun hcb=>?_) (fun hcb=>?_)
  ·refine Ws<|R z (bP (parts:=[]) (cs:=[vI 0,sl none 0 0,sl none 0 0]) P_ z z)<|Rm z<|E0 (fs0 (cur':=[vI 0,sl none 0 0,sl none 0 0]) b_ z z (L.e s2) z z z z) ?_
   rintro _ _ ⟨hp,sq⟩;exact Ra z<|Rw z<|Wr<|rtO<|qL (som<|ifT hmj hcb).symm<|B_ hr (u_ i_ b_ z hp z) z z ⟨bM (bup (bup G h1) s2) sq.one<|m1 G.s,none,0,0,[],none,0,0,[],z,ii z,onL,onL,V,ii z,nd0,al0⟩
  refine Wk<|Wq (Wd (X:=noX) 0 (pl_ 12 []) mo (by kernel_rfl) fun ad s6 _=>?_)
  iterate 3 refine dM z z z ?_
  refine dR z z (add_ z z) ?_;obtain ⟨_,er,hms⟩:=bdS<|ifF hmj hcb;have hl:=ha.e s6;refine dRX z z (at_ (α:=UInt8) n_ z_5 z z z (O.g hl) er) ?_;rintro _ ⟨_,_,_,rfl,ht,hu,_⟩;obtain rfl:=u8 hu;refine dR z z (l0 g_5 z<|ht.at0 z)<|dR z z (fd a_Z z)<|dR z z (l0 J_ z<|(hk.e s6).at z)<|dM z z z ?_
  obtain ⟨_,ev,hmm⟩:=bdS hms;refine dRX z z (at_ (α:=UInt8) n_ z_5 z z z (I.g hl) ev) ?_;rintro _ ⟨_,_,_,rfl,hw,hx,_⟩;obtain rfl:=u8 hx;refine dR z z (l0 g_5 z<|hw.at0 z)<|dR z z (nq z z)<|pD<|Wo<|Wc z (fun hcc=>?_) (fun hcc=>?_)
  ·refine Ws<|R z (bP (parts:=[]) (cs:=[vI 0,sl none 0 0,sl none 0 0]) P_ z z)<|RM z z<|R z (add_ z z)<|E0 (fs0 (cur':=[vI 0,sl none 0 0,sl none 0 0]) b_ z z ((L.e s2).e s6) z z z z) ?_
   rintro _ _ ⟨hy,sz⟩;exact Ra z<|Rw z<|Wr<|rtO<|qL (som<|ifT hmm hcc).symm<|B_ hr (u_ i_ b_ z hy z) z z ⟨bM (bup (bup (bup G h1) s2) s6) sz.one<|m1 G.s,none,0,0,[],none,0,0,[],z,ii z,onL,onL,iA _ _,ii z,nd0,al0⟩
  exact Wk<|Wg<|Rm z<|R z (inc_ hki (lt_ (repS.len I) G_) z z)<|Ra z<|Wl (fun _ q=>⟨(),(som<|ifF hmm hcc).symm,⟨q.k<|s5 z z z z z,bup s2 s6⟩⟩)
 ·rintro _ _ _ ⟨W,sd⟩;refine Wu ?_ W;refine Wq<|Wm z<|Rf z a_Z z<|R z (l0 J_ z<|((h5.e h1).e sd).at z)<|R z (lnR n_ z<|I.g<|((G.ag B).e h1).e sd)<|Rl z z z<|Wx z (fun hc=>(a_1 hc).elim) (fun _=>?_)
  exact We<|fun _ q=>⟨rfl,⟨q.k<|s3 z z z,sd⟩⟩
 ·rintro _ a2 _ rfl ⟨_,s7⟩;have Y:=elL hmg;revert a2;refine Wo<|Wq (Wd (X:=(· ∈ [J.z])) 0 (pl_ 9 [6]) mo (by kernel_rfl) fun ae s8 _=>dR z z (bP (parts:=[]) (cs:=[vI 0,sl none 0 0,sl none 0 0]) P_ z z)<|dM z z z<|dR z z (fd a_Z z)<|dR z z (l1 J_ z (djs<|mmr h5.lt)<|(((h5.e h1).e s7).e s8).at z)<|dR z z (lnR n_ z<|I.g<|(((G.ag B).e h1).e s7).e s8)<|dR z z (add_ z z)<|dE0 z (fs0 (cur':=[vI 0,sl none 0 0,sl none 0 0]) b_ z z ((L.e s7).e s8) z z z z) (.inr fun _ _ h=>chgIn (List.mem_singleton.2 z) h.2) ?_)
  rintro _ _ ⟨a3,a4⟩;refine dQ z z z<|dQ z z z<|pD<|Wo ?_
  obtain rfl:=som Y;exact Wr<|B_ hr (u_ i_ b_ z a3 z) z z ⟨bM (bup (bup (bup G h1) s7) s8) a4.one<|m1 G.s,none,0,0,[],none,0,0,[],z,ii z,onL,onL,iA _ _,ii z,nd0,al0⟩
 rintro _ _ _ _ rfl ⟨rfl,a0⟩;have a1:=elR hmg;obtain rfl:=som a1;exact ⟨a0,z⟩
theorem W_w1d {x1:List UInt8}{x2:Int}{x3:Int}{res:Val×Int×Int}(hm:f_m x1 x2 x3=some res)(a1:B<=w0.z)(O:repS w0 B (sl A0 N0 C0) x1)(Y:inI x2)(a0:inI x3):l_ prog 88 [sl A0 N0 C0,vI x2,vI x3] w0 (Q9 w0 B res):=by
 unfold f_m at hm
 refine goG func88 z z z fun fn hr=>Ws<|E z (fa E_) ?_
 rintro _ we ⟨rfl,V⟩;have G:=V.below;have h2:Blk we w0.z [vI 0,sl none 0 0,sl none 0 0]:=V.blk;refine Ra z<|Rw z<|Wq<|Wm z<|R z (lnR n_ z<|O.e G)<|Rm z<|R z (sb_ z z)<|Rm z<|Rl z z z<|Wx z (fun H=>?_) (fun H=>?_)
 ·refine Ws<|R z (bP (parts:=[]) (cs:=[vI 0,sl none 0 0,sl none 0 0]) P_ z z)<|Rm z<|E0 (fs0 (cur':=[vI 0,sl none 0 0,sl none 0 0]) b_ z z h2 z z z z) ?_
  rintro _ _ ⟨hf,sg⟩;refine Ra z<|Rw z ?_
  obtain rfl:=som<|ifT hm H;exact Wr<|B_ hr (u_ i_ b_ z hf z) z z ⟨bM G sg.one<|d_ lr,none,0,0,[],none,0,0,[],z,ii z,onL,onL,Y,ii z,nd0,al0⟩
 refine Wk<|Ws<|E z (f0 (α:=UInt8) I_) ?_
 rintro _ _ ⟨_,_,_,rfl,s1,hh⟩;refine RM z z<|RM z z<|R z (add_ z z) ?_
 obtain ⟨_,ei,hmj⟩:=bdS<|ifF hm H;refine RX z (rX n_ z_5 z z (O.g<|(G.ag B).e s1) z z ei) ?_;rintro _ ⟨_,_,_,rfl,hk⟩;obtain ⟨_,el,hmm⟩:=bdS hmj;refine E z (fN (α:=UInt8) I_ el z z hh a_e hk) ?_;rintro _ _ ⟨W,I,J,L,rfl,s9,hn,ho,ha⟩;refine R z (bP (parts:=[(1,.tmp 24)]) (cs:=[vI 0,sl I J L,sl none 0 0]) P_ z z)<|RM z z<|R z (add_ z z) ?_
 have hb:=mmr h2.lt;refine E0 (fs0 (cur':=[vI 0,sl I J L,sl none 0 0]) b_ z z ((h2.e s1).c s9<|djs hb) z z z z) ?_;rintro _ _ ⟨hp,sq⟩;have hc:=sq.one;refine Ra z<|Rw z ?_
 obtain rfl:=som hmm;have hd:=m1 G.s;exact Wr<|B_ hr (u_ i_ b_ z hp z) z z ⟨bM (bM (bup G s1) s9 hd) hc<|d_ lr,I,J,L,W,none,0,0,[],z,ii z,hn.c hc (or1 ha hb (S_ (d_ h2.lt) s1.s):∀k∈W,k∉[w0.z]),onL,iA _ _,ii z,na_ ho K_<|nmN _,aa_ (a_l ha hd<|lt_ G.s s1.s) an_⟩
def Q10 (w0:World)(B:Zone)(r:(List UInt8)×Int×Bool)(v:Value)(w':World):Prop:=Bw w0 w'/\un3 (fun L G O=>∃H I J S1,v = .tuple #[sl H I J,vI G,vB O]/\a_ w' S1 (sl H I J) L/\inI G/\S1.Nodup/\(∀k∈S1,w0.z<=k)) r
theorem W_w2y {x1:List UInt8}{x2:Int}{x3:UInt8}{res:(List UInt8)×Int×Bool}(hm:h_1 n x1 x2 x3=some res)(W:B<=w0.z)(O:repS w0 B (sl A0 N0 C0) x1)(V:inI x2):l_ prog 89 [sl A0 N0 C0,vI x2,vU<|byteI x3] w0 (Q10 w0 B res):=by
 unfold h_1 at hm
 refine goG func89 z z z fun fn hr=>Ws<|RA z z<|Rw z<|Ws<|E z (f0 (α:=UInt8) I_) ?_
 rintro _ G ⟨al,am,an,rfl,s9,ao⟩;refine Rw z<|Wq<|Wm z<|Rw z ?_
 obtain ⟨_,a7,hmr⟩:=bdS hm;refine b_S (σ:=(List UInt8)×Int) (ρ:=(List UInt8)×Int×Bool) (fun s a w=>un2 (fun xb x5=>∃a2 I J H,Sat 54 [(0,sl A0 N0 C0),(1,vI x2),(2,vU<|byteI x3),(9,sl a2 I J),(10,vI x5)] a/\Chg (· ∈ [w0.z]) G w/\a_ w H (sl a2 I J) xb/\H.Nodup/\(∀k∈H,k∈[w0.z]∨G.z<=k)/\inI x5) s) (fun s a w=>un2 (fun xb x5=>∃a2 I J H,Sat 54 [(1,vI x2)] a/\Chg (· ∈ [w0.z]) G w/\a_ w H (sl a2 I J) xb/\H.Nodup/\(∀k∈H,k∈[w0.z]∨G.z<=k)/\inI x5) s) (rQ prog fn<|Q10 w0 B) a7 ?_ ?_ ?_ ?_
 ·exact fun _ q=>⟨al,am,an,[w0.z],q.k<|s5 z z z z z,cr [w0.z] G,ao,a_e,io sr,V⟩
 ·rintro ⟨xb,x5⟩ _ wc _ ⟨a2,I,J,H,a8,s8,hd,he,hf,hi⟩ a9;refine Wu ?_ a8;refine Wq<|Wq ?_
  obtain ⟨ap,aa,hms⟩:=bdS<|a_t a9;refine Wt (fun a w=>∃(xj:Bool),xj=ap/\Sat 54 [(0,sl A0 N0 C0),(1,vI x2),(2,vU<|byteI x3),(9,sl a2 I J),(10,vI x5),(22,vB xj)] a/\Below wc.z wc w) ?_ ?_
  ·refine Wg<|RM z z ?_
   have hu:=(s9.ag B).c s8<|e_ (or0 (d_ lr) (p_ W):∀k∈[w0.z],¬B k)
   have hv:=O.g hu;refine R z (lnR n_ z hv) ?_;obtain ⟨aq,ar,hmw⟩:=bdS aa;refine E z (fc call50 z<|b_l ar (zt' W<|lt_ s9.s s8.s) V (ii z)<|b_h<|repS.len hv) ?_;rintro _ _ ⟨sk,rfl⟩;refine Rm z ?_
   rcases bs aq with L | L
   ·exact Rh z L (mv z)<|Rh z L (mv z)<|Rh z L (lnR n_ z<|O.g<|hu.e sk)<|Rh z L (lss z z)<|R z (pT z L z)<|Wl (fun _ q=>⟨decide<|x5<(x1.length:Int),som<|ifT hmw L,q.k<|s6 z z z z z z,sk⟩)
   iterate 4 refine Nh z L ?_
   exact R z (pF z L z)<|Wl (fun _ q=>⟨false,som<|ifF hmw L,q.k<|s6 z z z z z z,sk⟩)
  rintro au wa ⟨xj,rfl,_,s7⟩;revert au;refine Wo<|Wc z (fun hcl=>?_) (fun hcl=>?_)
  ·refine Wk<|Wq<|Wb<|Wq<|Wm z<|Rm z ?_
   obtain ⟨_,av,hmx⟩:=bdS<|ifT hms hcl;have hy:=((s9.ag B).c s8<|e_ (or0 (d_ lr) (p_ W):∀k∈[w0.z],¬B k)).e s7;have hn:=O.g hy;refine RX z (at_ (α:=UInt8) n_ z_5 z z z hn av) ?_;rintro _ ⟨_,_,_,rfl,aw,ax,_⟩;obtain rfl:=u8 ax;refine R z (l0 g_5 z<|aw.at0 z)<|Rm z<|Rq z z z<|Wx z (fun hcm=>?_) (fun hcm=>?_)
   ·refine Wm z<|Rm z<|R z (add_ z z)<|RA z z<|Rw z ?_
    exact Wr<|rtO<|qL (som<|ifT hmx hcm).symm<|B_ hr z z z ⟨bup (bM s9 s8<|d_ lr) s7,a2,I,J,H,z,hd.e s7,iA _ _,he,(or1 hf (d_ lr) (b_9 s9.s):∀k∈H,w0.z<=k)⟩
   refine Wk<|Wq<|Wm z<|Rm z ?_
   obtain ⟨_,ay,ab⟩:=bdS<|ifF hmx hcm;refine RX z (at_ (α:=UInt8) n_ z_5 z z z hn ay) ?_;rintro _ ⟨_,_,_,rfl,az,aA,_⟩;obtain rfl:=u8 aA;refine R z (l0 g_5 z<|az.at0 z)<|Rq z z z<|Wn ?_
   obtain ⟨aB,huz,Y⟩:=bdS ab;refine Wt (fun a w=>∃(xg:Int),Sum.inl xg=aB/\Sat 54 [(0,sl A0 N0 C0),(1,vI x2),(2,vU<|byteI x3),(9,sl a2 I J),(10,vI xg)] a/\Below wa.z wa w/\inI xg) ?_ ?_
   ·refine Wc z (fun hco=>?_)<|fun hco=>?_
    ·have a0:=ifT huz hco;refine Wm z<|R z (add_ z z)<|Rw z<|Wm z<|Rm z<|R z (lnR n_ z hn)<|Rq z z z<|Wx z (fun hcp=>?_) (fun hcp=>?_)
     ·obtain rfl:=som<|ifT a0 hcp;have ad:=elR Y;exact We<|exO z (fun _ q=>b_F (som ad).symm ⟨a2,I,J,H,q.k<|s1 z,(k_ (cM (cr [w0.z] G) s8 (io sr):Chg (· ∈ [w0.z]) G wc) s7:Chg (· ∈ [w0.z]) G wa),hd.e s7,he,(or1 hf (io sr) (q_ lr):∀k∈H,k∈[w0.z]∨G.z<=k),iA _ _⟩)
     exact a_I<|fun _ q=>⟨m_ x5 1,som<|ifF a0 hcp,q.k<|s5 z z z z z,br wa,iA _ _⟩
    exact a_I<|fun _ q=>⟨x5,som<|ifF huz hco,q.k<|s5 z z z z z,br wa,hi⟩
   rintro aC a1 ⟨xg,rfl,_,sh,_⟩;have ae:=elL Y;revert aC;refine Wo<|Wg<|RM z z<|Rm z ?_
   obtain ⟨aD,aE,af⟩:=bdS ae;refine RX z (at_ (α:=UInt8) n_ z_5 z z z (O.g<|hy.e sh) aE) ?_;rintro _ ⟨_,_,_,rfl,aF,aG,_⟩;obtain rfl:=u8 aG;refine R z (l0 g_5 z<|aF.at0 z)<|E z (fS [(.tmp 49)] I_ z z z (a_J z) (lb z)<|lb z) ?_
   rintro _ a3 ⟨rfl,hq⟩;have ht:=hq.below;have aY:=b_0 hq a_s;obtain ⟨aH,aI,ah⟩:=bdS af;refine E z (b_i (α:=UInt8) I_ aI z z (((hd.e s7).e sh).e ht) he (hq.blk:Blk a3 a1.z [vU (byteI aD)]) a_s an_ K_) ?_;rintro _ aJ ⟨a4,aK,aL,aM,rfl,aN,aO,aP,aQ⟩;refine Rw z<|Wg<|Rm z<|R z (add_ z z)<|Ra z<|Wl ?_
   have a5:∀k∈H,k∈[w0.z]∨G.z<=k:=or1 hf (io sr)<|q_ lr;exact fun _ q=>⟨(aH,m_ xg 1),(som ah).symm,⟨aK,aL,aM,a4,q.k<|s5 z z z z z,(cM (k_ (k_ (k_ (cM (cr [w0.z] G) s8 (io sr):Chg (· ∈ [w0.z]) G wc) s7:Chg (· ∈ [w0.z]) G wa) sh:Chg (· ∈ [w0.z]) G a1) ht:Chg (· ∈ [w0.z]) G a3) aN a5:Chg (· ∈ [w0.z]) G aJ),aO,aP,(or2 aQ a5 an_ (q_<|lt_ (lt_ (lt_ s8.s s7.s) sh.s) ht.s):∀k∈a4,k∈[w0.z]∨G.z<=k),iA _ _⟩⟩
  exact We<|fun _ q=>b_F (som<|ifF hms hcl).symm ⟨a2,I,J,H,q.k<|s1 z,(k_ (cM (cr [w0.z] G) s8 (io sr):Chg (· ∈ [w0.z]) G wc) s7:Chg (· ∈ [w0.z]) G wa),hd.e s7,he,(or1 hf (io sr) (q_ lr):∀k∈H,k∈[w0.z]∨G.z<=k),hi⟩
 ·rintro ⟨xb,x5⟩ aR aS rfl ⟨a2,I,J,H,_,a6,hd,he,hf,hi⟩;have ai:=elL hmr;revert aR;refine Wo<|Ws<|E z (f0 (α:=UInt8) I_) ?_
  rintro _ _ ⟨aT,aU,aV,rfl,aW,aX⟩;refine Rm z<|RA z z<|Rw z ?_
  obtain rfl:=som<|a_t ai;exact Wr<|B_ hr z z z ⟨bup (bM s9 a6<|d_ lr) aW,aT,aU,aV,[aS.z],z,aX,V,a_e,m1<|lt_ s9.s a6.s⟩
 rintro _ _ _ _ rfl ⟨rfl,aj⟩;have ak:=elR hmr;obtain rfl:=som ak;exact ⟨aj,z⟩
theorem e_5 {x1:g_}{x2:Int}{x3:Int}{res:Int}(hm:b_d x1 x2 x3=some res)(aQ:B<=w0.z)(aJ:x1.name.b.length<=LEN)(aK:inI x1.kind)(aL:inI x1.size)(aM:repS w0 B (sl AC NC CC) x1.bytes)(aN:repS w0 B (sl AB NB CB) x1.names)(I:repS w0 B (sl AD ND CD) x1.tags)(J:repS w0 B (sl AE NE CE) x1.kids)(aO:inI x2)(aP:inI x3):l_ prog 97 [(.agg #[Str.v x1.name,vI x1.kind,vI x1.size,vB x1.little,sl AC NC CC,sl AB NB CB,sl AD ND CD,sl AE NE CE]),vI x2,vI x3] w0 (Q0 w0 B res):=by
 unfold b_d at hm
 refine goG func97 z z z fun fn hr=>Ws<|E z (fb z) ?_
 rintro _ G ⟨rfl,hi⟩;have H:=hi.below;have h2:Blk G w0.z (vR x1 AC NC CC AB NB CB AD ND CD AE NE CE):=hi.blk;refine Rw z<|Wq<|Ws<|Rf z a_M z<|R z (l0 g_3 z<|h2.at z)<|Wn<|Wb<|Ws<|Rq z z z<|Rw z<|Wc z (fun O=>?_) (fun O=>?_)
 ·refine Ws<|Rf z R_ z<|R z (l0 A_ z<|h2.at z) ?_
  obtain ⟨_,eu,hmv⟩:=bdS<|ifT hm O;refine RX z (at_ (α:=Int) y_ z_3 z z z (J.e H) eu) ?_;rintro _ ⟨_,_,_,rfl,hw,hx,_⟩;obtain ⟨rfl,hy⟩:=T_ hx;refine R z (l0 g_3 z<|hw.at0 z)<|Rw z ?_
  obtain rfl:=som hmv;exact Wr<|rtO<|f_ hr z ⟨H,z,hy⟩
 refine Ws<|Rq z z z<|Rw z ?_
 obtain ⟨uz,huj,L⟩:=bdS<|ifF hm O;refine Wt (fun a w=>Sum.inl ()=uz/\Sat 57 [] a/\Below G.z G w) ?_ ?_
 ·refine Wc z (fun V=>?_)<|fun V=>?_
  ·have hmk:=ifT huj V;refine Wm z<|Rf z R_ z<|R z (l0 A_ z<|h2.at z) ?_
   have hl:=J.e H;refine R z (lnR y_ z hl)<|Rl z z z<|Wx z (fun W=>?_) (fun W=>?_)
   ·refine Ws<|Rf z R_ z<|R z (l0 A_ z<|h2.at z)<|Rm z ?_
    obtain ⟨_,aj,a0⟩:=bdS<|ifT hmk W;refine RX z (at_ (α:=Int) y_ z_3 z z z hl aj) ?_;rintro _ ⟨_,_,_,rfl,ak,al,_⟩;obtain ⟨rfl,am⟩:=T_ al;refine R z (l0 g_3 z<|ak.at0 z)<|Rw z ?_
    obtain rfl:=som a0;have a1:=elR L;obtain rfl:=som a1;exact Wr<|rtO<|f_ hr z ⟨H,z,am⟩
   exact a_I<|fun _ q=>⟨som<|ifF hmk W,q.k sn,br G⟩
  refine Ws<|Rq z z z<|Rw z ?_
  obtain ⟨an,hum,Y⟩:=bdS<|ifF huj V;refine Wt (fun a w=>Sum.inl ()=an/\Sat 57 [] a/\Below G.z G w) ?_ ?_
  ·refine Wc z (fun hca=>?_)<|fun hca=>?_
   ·refine Ws<|Rw z ?_
    obtain ⟨_,a2,hmn⟩:=bdS<|ifT hum hca;refine Wf (σ:=Unit) (ρ:=Int) (fun (ko:Nat)(_:Unit) a w=>Sat 57 [(1,vI x2),(3,pt w0.z),(7,vI ((ko:Nat):Int))] a/\Below G.z G w) (fun (_:Unit) a w=>Sat 57 [] a/\Below G.z G w) (rQ prog fn<|Q0 w0 B) a2 ?_ ?_ ?_ ?_ ?_
    ·exact fun _ q=>⟨q.k<|s3 z z z,br G⟩
    ·rintro ko _ _ _ _ hkb ⟨a3,s4⟩ a4;refine Wu ?_ a3;refine Wq<|Wm z<|Rf z b_f z ?_
     have hd:=h2.e s4;refine R z (l0 A_ z<|hd.at z) ?_;have hp:=(H.ag B).e s4;have hq:=I.g hp;refine R z (lnR y_ z hq)<|Rl z z z<|Wx z (fun _=>?_) (fun hc=>(a_0 hkb hc).elim)
     refine Wk<|Wq<|Wb<|Ws<|Rf z b_f z<|R z (l0 A_ z<|hd.at z)<|Rm z ?_
     obtain ⟨_,ao,hmr⟩:=bdS a4;refine RX z (at_ (α:=Int) y_ z_3 z z z hq ao) ?_;rintro _ ⟨_,_,_,rfl,ap,aq,_⟩;obtain ⟨rfl,_⟩:=T_ aq;refine R z (l0 g_3 z<|ap.at0 z)<|Rm z<|Rq z z z<|Wx z (fun hcc=>?_) (fun hcc=>?_)
     ·refine Ws<|Rf z R_ z<|R z (l0 A_ z<|hd.at z)<|Rm z<|R z (inc_ hkb (lt_ (repS.len I) G_) z z) ?_
      obtain ⟨_,ar,a5⟩:=bdS<|ifT hmr hcc;refine RX z (at_ (α:=Int) y_ z_3 z z z (J.g hp) ar) ?_;rintro _ ⟨_,_,_,rfl,au,av,_⟩;obtain ⟨rfl,aw⟩:=T_ av;exact R z (l0 g_3 z<|au.at0 z)<|Rw z<|Wr<|rtO<|qL (som a5).symm<|f_ hr z ⟨bup H s4,z,aw⟩
     exact Wk<|Wg<|Rm z<|R z (inc_ hkb (lt_ (repS.len I) G_) z z)<|Ra z<|Wl (fun _ q=>⟨(),(som<|ifF hmr hcc).symm,⟨q.k<|s3 z z z,s4⟩⟩)
    ·rintro _ _ _ ⟨a6,se⟩;refine Wu ?_ a6;refine Wq<|Wm z<|Rf z b_f z<|R z (l0 A_ z<|(h2.e se).at z)<|R z (lnR y_ z<|I.g<|(H.ag B).e se)<|Rl z z z<|Wx z (fun hc=>(a_1 hc).elim) (fun _=>?_)
     exact We<|fun _ q=>⟨rfl,⟨q.k sn,se⟩⟩
    ·rintro _ ax _ rfl ⟨_,ay⟩;have a7:=elL hmn;revert ax;exact fun _ q=>⟨som a7,q.k sn,ay⟩
    rintro _ _ _ _ rfl ⟨rfl,a8⟩;have a9:=elR hmn;obtain rfl:=som a9;have aa:=elR Y;obtain rfl:=som aa;have ab:=elR L;obtain rfl:=som ab;exact ⟨a8,z⟩
   refine Wq<|Ws<|Rq z z z<|Rw z ?_
   obtain ⟨az,hus,hmt⟩:=bdS<|ifF hum hca;refine Wt (fun a w=>∃(xf:Bool),xf=az/\Sat 57 [(3,pt w0.z),(50,vB xf)] a/\Below G.z G w) ?_ ?_
   ·refine Wc z (fun hcg=>?_)<|fun hcg=>?_
    ·exact a_I<|fun _ q=>⟨x1.kind==8,som<|ifT hus hcg,q.k<|s2 z z,br G⟩
    exact Wg<|Rq z z z<|Ra z<|Wl (fun _ q=>⟨x1.kind==9,som<|ifF hus hcg,q.k<|s2 z z,br G⟩)
   rintro aA _ ⟨xf,rfl,_,s5⟩;revert aA;refine Wo<|Wc z (fun hch=>?_) (fun hch=>?_)
   ·refine Ws<|Rf z R_ z<|R z (l0 A_ z<|(h2.e s5).at z) ?_
    obtain ⟨_,aB,ad⟩:=bdS<|ifT hmt hch;refine RX z (at_ (α:=Int) y_ z_3 z z z (J.g<|(H.ag B).e s5) aB) ?_;rintro _ ⟨_,_,_,rfl,aC,aD,_⟩;obtain ⟨rfl,aE⟩:=T_ aD;refine R z (l0 g_3 z<|aC.at0 z)<|Rw z ?_
    obtain rfl:=som ad;have ae:=elR Y;obtain rfl:=som ae;have af:=elR L;obtain rfl:=som af;exact Wr<|rtO<|f_ hr z ⟨bup H s5,z,aE⟩
   exact a_I<|fun _ q=>⟨som<|ifF hmt hch,q.k sn,s5⟩
  rintro aF _ ⟨rfl,_,aG⟩;have ah:=elL Y;revert aF;exact fun _ q=>⟨som ah,q.k sn,aG⟩
 rintro aH _ ⟨rfl,_,aI⟩;have ai:=elL L;revert aH;refine Wo<|Ws<|Rw z ?_
 obtain rfl:=som ai;exact Wr<|f_ hr z ⟨bup H aI,z,ii z⟩
theorem W_w1e {x1:List UInt8}{res:Int}(hm:f_n x1=some res)(O:B<=w0.z)(G:repS w0 B (sl A0 N0 C0) x1):l_ prog 125 [sl A0 N0 C0] w0 (Q0 w0 B res):=by
 unfold f_n at hm
 refine goG func125 z z z fun fn hr=>Ws<|Rw z<|Ws<|Rw z<|Wq<|Ws<|Rw z ?_
 obtain ⟨_,J,H⟩:=bdS hm;refine Wf (σ:=Int) (ρ:=Int) (fun (k3:Nat)(x0:Int) a w=>Sat 20 [(0,sl A0 N0 C0),(3,vI x0),(4,vI ((k3:Nat):Int))] a/\Below w0.z w0 w/\inI x0) (fun (x0:Int) a w=>Sat 20 [(3,vI x0)] a/\Below w0.z w0 w/\inI x0) (rQ prog fn<|Q0 w0 B) J ?_ ?_ ?_ ?_ ?_
 ·exact fun _ q=>⟨q.k<|s3 z z z,br w0,ii z⟩
 ·rintro k3 x0 _ _ _ I ⟨L,s5,h1⟩ hma;refine Wu ?_ L;refine Wq<|Wm z<|Rm z ?_
  have h6:=G.e s5;refine R z (lnR n_ z h6)<|Rl z z z<|Wx z (fun _=>?_) (fun hc=>(a_0 I hc).elim)
  refine Wk<|Wq<|Wb<|Wg<|RM z z<|Rm z ?_
  obtain ⟨xb,ec,hmd⟩:=bdS hma;refine RX z (at_ (α:=UInt8) n_ z_5 z z z h6 ec) ?_;rintro _ ⟨_,_,_,rfl,he,hf,_⟩;obtain rfl:=u8 hf;exact R z (l0 g_5 z<|he.at0 z)<|R z (b_E d_5 d_3 z)<|R z (add_ z z)<|R z (g_n z z (by decide))<|Rw z<|Wg<|Rm z<|R z (inc_ I (lt_ (repS.len G) G_) z z)<|Ra z<|Wl (fun _ q=>⟨b_2 (m_ x0<|byteI xb) 256,(som hmd).symm,⟨q.k<|s3 z z z,s5,j_A<|iA _ _⟩⟩)
 ·rintro x0 _ _ ⟨hSg,s7,h1⟩;refine Wu ?_ hSg;refine Wq<|Wm z<|Rm z<|R z (lnR n_ z<|G.e s7)<|Rl z z z<|Wx z (fun hc=>(a_1 hc).elim) (fun _=>?_)
  exact We<|fun _ q=>⟨rfl,⟨q.k<|s1 z,s7,h1⟩⟩
 ·rintro x0 ah _ rfl ⟨_,si,h1⟩;have hmj:=elL H;revert ah;refine Wo<|Wm z<|Rw z ?_
  obtain rfl:=som hmj;exact Wr<|f_ hr z ⟨si,z,h1⟩
 rintro _ _ _ _ rfl ⟨rfl,hqk⟩;have hml:=elR H;obtain rfl:=som hml;exact ⟨hqk,z⟩
structure k_z (f:c_->Int->(List UInt8)->Int->Option (Val×Int×Int)):Prop where
  run:∀{A0 A9:Option Addr}{N0 C0 N9 C9:Nat}{B:Zone}{x1:c_}{x2:Int}{x3:List UInt8}{x4:Int}{res:Val×Int×Int}{w0:World}(hm:f x1 x2 x3 x4=some res)(hBw:B<=w0.z)(p1_0:repS w0 B (sl A0 N0 C0) x1.rules)(p2_0:inI x2)(p3_0:repS w0 B (sl A9 N9 C9) x3)(p4_0:inI x4),l_ prog 51 [(.agg #[sl A0 N0 C0]),vI x2,sl A9 N9 C9,vI x4] w0<|Q9 w0 B res
structure k_A (f:c_->g_->Int->Int->(List UInt8)->Int->Option (Val×Int×Int)):Prop where
  run:∀{A0 A3 A2 A1 A4 AH:Option Addr}{N0 C0 N3 C3 N2 C2 N1 C1 N4 C4 NH CH:Nat}{B:Zone}{x1:c_}{x2:g_}{x3:Int}{x4:Int}{x5:List UInt8}{x6:Int}{res:Val×Int×Int}{w0:World}(hm:f x1 x2 x3 x4 x5 x6=some res)(hBw:B<=w0.z)(p1_0:repS w0 B (sl A0 N0 C0) x1.rules)(p2_0:x2.name.b.length<=LEN)(p2_1:inI x2.kind)(p2_2:inI x2.size)(p2_4:repS w0 B (sl A3 N3 C3) x2.bytes)(p2_5:repS w0 B (sl A2 N2 C2) x2.names)(p2_6:repS w0 B (sl A1 N1 C1) x2.tags)(p2_7:repS w0 B (sl A4 N4 C4) x2.kids)(p3_0:inI x3)(p4_0:inI x4)(p5_0:repS w0 B (sl AH NH CH) x5)(p6_0:inI x6),l_ prog 90 [(.agg #[sl A0 N0 C0]),.agg #[Str.v x2.name,vI x2.kind,vI x2.size,vB x2.little,sl A3 N3 C3,sl A2 N2 C2,sl A1 N1 C1,sl A4 N4 C4],vI x3,vI x4,sl AH NH CH,vI x6] w0<|Q9 w0 B res
structure k_B (f:c_->g_->(List UInt8)->Int->Option (Val×Int×Int)):Prop where
  run:∀{A0 A3 A2 A1 A4 A9:Option Addr}{N0 C0 N3 C3 N2 C2 N1 C1 N4 C4 N9 C9:Nat}{B:Zone}{x1:c_}{x2:g_}{x3:List UInt8}{x4:Int}{res:Val×Int×Int}{w0:World}(hm:f x1 x2 x3 x4=some res)(hBw:B<=w0.z)(p1_0:repS w0 B (sl A0 N0 C0) x1.rules)(p2_0:x2.name.b.length<=LEN)(p2_1:inI x2.kind)(p2_2:inI x2.size)(p2_4:repS w0 B (sl A3 N3 C3) x2.bytes)(p2_5:repS w0 B (sl A2 N2 C2) x2.names)(p2_6:repS w0 B (sl A1 N1 C1) x2.tags)(p2_7:repS w0 B (sl A4 N4 C4) x2.kids)(p3_0:repS w0 B (sl A9 N9 C9) x3)(p4_0:inI x4),l_ prog 91 [(.agg #[sl A0 N0 C0]),.agg #[Str.v x2.name,vI x2.kind,vI x2.size,vB x2.little,sl A3 N3 C3,sl A2 N2 C2,sl A1 N1 C1,sl A4 N4 C4],sl A9 N9 C9,vI x4] w0<|Q9 w0 B res
structure k_C (f:c_->g_->(List UInt8)->Int->Option (Val×Int×Int)):Prop where
  run:∀{A0 A3 A2 A1 A4 A9:Option Addr}{N0 C0 N3 C3 N2 C2 N1 C1 N4 C4 N9 C9:Nat}{B:Zone}{x1:c_}{x2:g_}{x3:List UInt8}{x4:Int}{res:Val×Int×Int}{w0:World}(hm:f x1 x2 x3 x4=some res)(hBw:B<=w0.z)(p1_0:repS w0 B (sl A0 N0 C0) x1.rules)(p2_0:x2.name.b.length<=LEN)(p2_1:inI x2.kind)(p2_2:inI x2.size)(p2_4:repS w0 B (sl A3 N3 C3) x2.bytes)(p2_5:repS w0 B (sl A2 N2 C2) x2.names)(p2_6:repS w0 B (sl A1 N1 C1) x2.tags)(p2_7:repS w0 B (sl A4 N4 C4) x2.kids)(p3_0:repS w0 B (sl A9 N9 C9) x3)(p4_0:inI x4),l_ prog 92 [(.agg #[sl A0 N0 C0]),.agg #[Str.v x2.name,vI x2.kind,vI x2.size,vB x2.little,sl A3 N3 C3,sl A2 N2 C2,sl A1 N1 C1,sl A4 N4 C4],sl A9 N9 C9,vI x4] w0<|Q9 w0 B res
structure k_D (f:c_->g_->(List UInt8)->Int->Option (Val×Int×Int)):Prop where
  run:∀{A0 A3 A2 A1 A4 A9:Option Addr}{N0 C0 N3 C3 N2 C2 N1 C1 N4 C4 N9 C9:Nat}{B:Zone}{x1:c_}{x2:g_}{x3:List UInt8}{x4:Int}{res:Val×Int×Int}{w0:World}(hm:f x1 x2 x3 x4=some res)(hBw:B<=w0.z)(p1_0:repS w0 B (sl A0 N0 C0) x1.rules)(p2_0:x2.name.b.length<=LEN)(p2_1:inI x2.kind)(p2_2:inI x2.size)(p2_4:repS w0 B (sl A3 N3 C3) x2.bytes)(p2_5:repS w0 B (sl A2 N2 C2) x2.names)(p2_6:repS w0 B (sl A1 N1 C1) x2.tags)(p2_7:repS w0 B (sl A4 N4 C4) x2.kids)(p3_0:repS w0 B (sl A9 N9 C9) x3)(p4_0:inI x4),l_ prog 93 [(.agg #[sl A0 N0 C0]),.agg #[Str.v x2.name,vI x2.kind,vI x2.size,vB x2.little,sl A3 N3 C3,sl A2 N2 C2,sl A1 N1 C1,sl A4 N4 C4],sl A9 N9 C9,vI x4] w0<|Q9 w0 B res
abbrev f_z (n:Nat):Prop:=k_z (a_h n).spec_l11Read/\k_A (a_h n).spec_l11Items/\k_B (a_h n).spec_l11Choice/\k_C (a_h n).spec_l11Option/\k_D (a_h n).spec_l11Checked
theorem T_w02 (ih:f_z n):k_z (h_2 n<|a_h n):=by
 obtain ⟨_,bq,dd,de,df⟩:=ih
 constructor
 intro A0 A9 N0 C0 N9 C9 B x1 x2 x3 x4 res w0 hm H W d2 J I;unfold h_2 at hm
 refine goG func51 z z z fun fn hr=>Ws<|E z (fb z) ?_
 rintro _ br ⟨rfl,bs⟩;have h3:=bs.below;have hn:Blk br w0.z [sl A0 N0 C0]:=bs.blk;refine E z (fa E_) ?_;rintro _ L ⟨rfl,bt⟩;have h4:=bt.below;have h2:Blk L br.z [vI 0,sl none 0 0,sl none 0 0]:=bt.blk;refine Ra z<|Rw z<|Ws<|Rf z a_9 z ?_
 have ho:=hn.e h4;refine R z (l0 a_b z<|ho.at z)<|Rm z ?_
 obtain ⟨xa,dg,bb⟩:=bdS hm;have O:=(h3.ag B).e h4;refine RX z (at_ (α:=g_) a_3 t_ z z z (W.g O) dg) ?_;rintro _ ⟨_,_,_,rfl,dh,di,_⟩;obtain ⟨ab,nc,cd,ae,nf,cg,ah,ni,cj,ak,nl,cm,rfl,hu,hv,hp,hq,hw,hx,ht⟩:=a_v di;refine R z (lN (vs:=vR xa ab nc cd ae nf cg ah ni cj ak nl cm) D_ t_ z z fid dh)<|E z (fa b_Y) ?_
 rintro _ dj ⟨rfl,bu⟩;have G:=bu.below;refine E0 (fs0 (cur':=vR xa ab nc cd ae nf cg ah ni cj ak nl cm) t_ z z (bu.blk:Blk dj L.z [(Str.v (⟨[]⟩:Str)),vI 0,vI 0,vB false,sl none 0 0,sl none 0 0,sl none 0 0,sl none 0 0]) z z z z) ?_;rintro _ _ ⟨V,dk⟩;have h1:=dk.one;refine Wn<|Wq<|Ws<|Rf z a_M z<|R z (l0 g_3 z<|V.at z)<|Wn<|Wb<|Ws<|Rq z z z<|Rw z<|Wc z (fun al=>?_) (fun al=>?_)
 ·refine Ws<|R z (lN (vs:=[sl A0 N0 C0]) w_ v_ z z fid<|((ho.e G).c h1<|djs<|mm1 hn.lt h4.s).row 0 1 z)<|RM z z<|Rm z ?_
  have hz:=lt_ h3.s h4.s;have bv:=(O.e G).c h1<|e_ (or0 (d_ lr) (p_<|zt' H hz):∀k∈[L.z],¬B k)
  obtain ⟨bw,_,_,dl,bc⟩:=O_<|ifT bb al;refine E z (fc call86 z<|k_y dl (zt' H<|lt_ (lt_ hz G.s) h1.s) (W.g bv) d2 (J.g bv) I) ?_;rintro _ _ ⟨sr,rfl,dm,dn⟩;refine Rm z ?_
  iterate 3 refine Re z z z ?_
  refine RA z z<|Rw z<|Wq<|Wm z<|R z (not_ z)<|Wx z (fun am=>?_) (fun am=>?_)
  ·refine Ws<|R z (bP (parts:=[]) (cs:=[vI 0,sl none 0 0,sl none 0 0]) P_ z z)<|Rm z<|E0 (fs0 (cur':=[vI 0,sl none 0 0,sl none 0 0]) b_ z z (((h2.e G).c h1<|djs<|mmr h2.lt).e sr) z z z z) ?_
   rintro _ _ ⟨dp,dq⟩;refine Ra z<|Rw z ?_
   obtain rfl:=som<|ifT bc am;exact Wr<|rtO<|B_ hr (u_ i_ b_ z dp z) z z ⟨bM (bup (bM (bup (bup h3 h4) G) h1<|m1 hz) sr) dq.one<|m1 h3.s,none,0,0,[],none,0,0,[],z,ii z,onL,onL,I,ii z,nd0,al0⟩
  refine Wk<|Wm z<|R z (bP (parts:=[(0,.tmp 43)]) (cs:=[vI bw,sl none 0 0,sl none 0 0]) P_ z z)<|Rm z<|E0 (fs0 (cur':=[vI bw,sl none 0 0,sl none 0 0]) b_ z z (((h2.e G).c h1<|djs<|mmr h2.lt).e sr) z z z z) ?_
  rintro _ _ ⟨dr,ds⟩;refine Ra z<|Rw z ?_
  obtain rfl:=som<|ifF bc am;exact Wr<|rtO<|B_ hr (u_ i_ b_ z dr z) z z ⟨bM (bup (bM (bup (bup h3 h4) G) h1<|m1 hz) sr) ds.one<|m1 h3.s,none,0,0,[],none,0,0,[],z,dm,onL,onL,dn,ii z,nd0,al0⟩
 have be:=ifF bb al;refine Ws<|Rq z z z<|Rw z<|Wc z (fun an=>?_) (fun an=>?_)
 ·refine Ws<|R z (lN (vs:=vR xa ab nc cd ae nf cg ah ni cj ak nl cm) D_ t_ z z fid<|V.row 0 8 z)<|RM z z ?_
  have aA:=lt_ h3.s h4.s;have bx:∀k∈[L.z],¬B k:=or0 (d_ lr)<|p_<|zt' H aA;have Y:=(G.ag B).c h1<|e_ bx
  have aB:=lt_ (lt_ aA G.s) h1.s;obtain ⟨dt,_,_,du,d3⟩:=O_<|ifT be an;refine E z (fc call87 z<|W_w2x du (zt' H aB) hu hv hp (hq.g Y) (hw.g Y) (hx.g Y) (ht.g Y) (J.g<|(O.e G).c h1<|e_ bx) I) ?_;rintro _ _ ⟨bz,bA,bB,bC,dv,bD,bE,bF,dw,rfl,dx,dy,dz,dA,dB,aC,a0⟩
  iterate 3 refine Re z z z ?_
  refine E0 (fs0 (cur':=[vI dt.number,sl bA bB bC,sl bD bE bF]) b_ z z (((h2.e G).c h1<|djs<|mmr h2.lt).e bz) z z z z) ?_;rintro _ _ ⟨dC,dD⟩;have aD:=dD.one;refine Ra z<|Rw z ?_
  obtain rfl:=som d3;have bG:=lt_ G.s h1.s;exact Wr<|rtO<|B_ hr (u_ i_ b_ z dC z) z z ⟨bM (bup (bM (bup (bup h3 h4) G) h1<|m1 aA) bz) aD<|m1 h3.s,bA,bB,bC,dv,bD,bE,bF,dw,z,dx,dy.c aD<|h_ (al_ a0) h2.lt bG,dz.c aD<|h_ (ar_ a0) h2.lt bG,dA,dB,na_ (nl_ aC) (nr_ aC)<|nj aC,aa_ (j_ (al_ a0) aB)<|j_ (ar_ a0) aB⟩
 have bf:=ifF be an;refine Ws<|Rq z z z<|Rw z<|Wc z (fun ao=>?_) (fun ao=>?_)
 ·refine Wm z<|Rm z<|Rf z a_G z<|R z (l0 g_3 z<|V.at z) ?_
  have aE:=lt_ h3.s h4.s;have aF:=lt_ (lt_ aE G.s) h1.s;obtain ⟨dF,_,_,dG,d4⟩:=O_<|ifT bf ao;refine E z (fc call88 z<|W_w1d dG (zt' H aF) (J.g<|(O.e G).c h1<|e_ (or0 (d_ lr) (p_<|zt' H aE):∀k∈[L.z],¬B k)) I hp) ?_;rintro _ _ ⟨bH,bI,bJ,bK,dH,bL,bN,bO,dI,rfl,dJ,dK,dL,dN,dO,aG,a1⟩
  iterate 3 refine Re z z z ?_
  refine E0 (fs0 (cur':=[vI dF.number,sl bI bJ bK,sl bL bN bO]) b_ z z (((h2.e G).c h1<|djs<|mmr h2.lt).e bH) z z z z) ?_;rintro _ _ ⟨dP,dS⟩;have aH:=dS.one;refine Ra z<|Rw z ?_
  obtain rfl:=som d4;have bQ:=lt_ G.s h1.s;exact Wr<|rtO<|B_ hr (u_ i_ b_ z dP z) z z ⟨bM (bup (bM (bup (bup h3 h4) G) h1<|m1 aE) bH) aH<|m1 h3.s,bI,bJ,bK,dH,bL,bN,bO,dI,z,dJ,dK.c aH<|h_ (al_ a1) h2.lt bQ,dL.c aH<|h_ (ar_ a1) h2.lt bQ,dN,dO,na_ (nl_ aG) (nr_ aG)<|nj aG,aa_ (j_ (al_ a1) aF)<|j_ (ar_ a1) aF⟩
 have bg:=ifF bf ao;refine Ws<|Rq z z z<|Rw z<|Wc z (fun ap=>?_) (fun ap=>?_)
 ·refine Wm z<|Rm z<|Rf z a_Z z<|R z (l0 J_ z<|V.at z) ?_
  obtain ⟨_,dT,d5⟩:=bdS<|ifT bg ap;have a2:=lt_ h3.s h4.s;have bR:∀k∈[L.z],¬B k:=or0 (d_ lr)<|p_<|zt' H a2;refine RX z (at_ (α:=UInt8) n_ z_5 z z z (hq.g<|(G.ag B).c h1<|e_ bR) dT) ?_;rintro _ ⟨_,_,_,rfl,dU,dV,_⟩;obtain rfl:=u8 dV;refine R z (l0 g_5 z<|dU.at0 z) ?_;have bS:=lt_ (lt_ a2 G.s) h1.s;obtain ⟨_,_,_,dW,bh⟩:=O_ d5;refine E z (fc call89 z<|W_w2y dW (zt' H bS) (J.g<|(O.e G).c h1<|e_ bR) I) ?_;rintro _ _ ⟨ss,aI,aJ,aK,dX,rfl,dY,dZ,e0,bT⟩;refine Rm z ?_
  iterate 3 refine Re z z z ?_
  refine RA z z<|Rw z<|Wq<|Wm z<|R z (not_ z)<|Wx z (fun aq=>?_) (fun aq=>?_)
  ·refine Ws<|R z (bP (parts:=[]) (cs:=[vI 0,sl none 0 0,sl none 0 0]) P_ z z)<|Rm z<|E0 (fs0 (cur':=[vI 0,sl none 0 0,sl none 0 0]) b_ z z (((h2.e G).c h1<|djs<|mmr h2.lt).e ss) z z z z) ?_
   rintro _ _ ⟨e1,e2⟩;refine Ra z<|Rw z ?_
   obtain rfl:=som<|ifT bh aq;exact Wr<|rtO<|B_ hr (u_ i_ b_ z e1 z) z z ⟨bM (bup (bM (bup (bup h3 h4) G) h1<|m1 a2) ss) e2.one<|m1 h3.s,none,0,0,[],none,0,0,[],z,ii z,onL,onL,I,ii z,nd0,al0⟩
  refine Wk<|Wm z<|R z (bP (parts:=[(1,.tmp 82)]) (cs:=[vI 0,sl aI aJ aK,sl none 0 0]) P_ z z)<|Rm z<|E0 (fs0 (cur':=[vI 0,sl aI aJ aK,sl none 0 0]) b_ z z (((h2.e G).c h1<|djs<|mmr h2.lt).e ss) z z z z) ?_
  rintro _ _ ⟨e3,e4⟩;have bU:=e4.one;refine Ra z<|Rw z ?_
  obtain rfl:=som<|ifF bh aq;exact Wr<|rtO<|B_ hr (u_ i_ b_ z e3 z) z z ⟨bM (bup (bM (bup (bup h3 h4) G) h1<|m1 a2) ss) bU<|m1 h3.s,aI,aJ,aK,dX,none,0,0,[],z,ii z,dY.c bU<|h_ bT h2.lt<|lt_ G.s h1.s,onL,dZ,ii z,na_ e0 K_<|nmN _,aa_ (j_ bT bS) an_⟩
 have bi:=ifF bg ap;refine Ws<|Rq z z z<|Rw z<|Wc z (fun ar=>?_) (fun ar=>?_)
 ·refine Ws<|R z (lN (vs:=[sl A0 N0 C0]) w_ v_ z z fid<|((ho.e G).c h1<|djs<|mm1 hn.lt h4.s).row 0 1 z)<|R z (lN (vs:=vR xa ab nc cd ae nf cg ah ni cj ak nl cm) D_ t_ z z fid<|V.row 0 8 z)<|Rf z R_ z<|R z (l0 A_ z<|V.at z) ?_
  have aL:=lt_ h3.s h4.s;have bV:∀k∈[L.z],¬B k:=or0 (d_ lr)<|p_<|zt' H aL;have a3:=(G.ag B).c h1<|e_ bV
  have aM:=ht.g a3;refine R z (lnR y_ z aM)<|RM z z ?_
  have bW:=(O.e G).c h1<|e_ bV
  have aN:=lt_ (lt_ aL G.s) h1.s;obtain ⟨e5,_,_,e6,d6⟩:=O_<|ifT bi ar;refine E z (fc call90 z<|bq.run e6 (zt' H aN) (W.g bW) hu hv hp (hq.g a3) (hw.g a3) (hx.g a3) aM (ii z) (b_h<|repS.len aM) (J.g bW) I) ?_;rintro _ _ ⟨bX,bY,bZ,c0,e7,c1,c2,c3,e8,rfl,e9,ea,eb,ec,ed,aO,a4⟩
  iterate 3 refine Re z z z ?_
  refine E0 (fs0 (cur':=[vI e5.number,sl bY bZ c0,sl c1 c2 c3]) b_ z z (((h2.e G).c h1<|djs<|mmr h2.lt).e bX) z z z z) ?_;rintro _ _ ⟨ee,ef⟩;have aP:=ef.one;refine Ra z<|Rw z ?_
  obtain rfl:=som d6;have c4:=lt_ G.s h1.s;exact Wr<|rtO<|B_ hr (u_ i_ b_ z ee z) z z ⟨bM (bup (bM (bup (bup h3 h4) G) h1<|m1 aL) bX) aP<|m1 h3.s,bY,bZ,c0,e7,c1,c2,c3,e8,z,e9,ea.c aP<|h_ (al_ a4) h2.lt c4,eb.c aP<|h_ (ar_ a4) h2.lt c4,ec,ed,na_ (nl_ aO) (nr_ aO)<|nj aO,aa_ (j_ (al_ a4) aN)<|j_ (ar_ a4) aN⟩
 have bj:=ifF bi ar;refine Ws<|Rq z z z<|Rw z<|Wc z (fun au=>?_) (fun au=>?_)
 ·refine Ws<|R z (lN (vs:=[sl A0 N0 C0]) w_ v_ z z fid<|((ho.e G).c h1<|djs<|mm1 hn.lt h4.s).row 0 1 z)<|R z (lN (vs:=vR xa ab nc cd ae nf cg ah ni cj ak nl cm) D_ t_ z z fid<|V.row 0 8 z)<|RM z z ?_
  have aQ:=lt_ h3.s h4.s;have c5:∀k∈[L.z],¬B k:=or0 (d_ lr)<|p_<|zt' H aQ;have c6:=(O.e G).c h1<|e_ c5
  have a5:=(G.ag B).c h1<|e_ c5
  have aR:=lt_ (lt_ aQ G.s) h1.s;obtain ⟨eg,_,_,eh,d7⟩:=O_<|ifT bj au;refine E z (fc call91 z<|dd.run eh (zt' H aR) (W.g c6) hu hv hp (hq.g a5) (hw.g a5) (hx.g a5) (ht.g a5) (J.g c6) I) ?_;rintro _ _ ⟨c7,c8,c9,ca,ei,cb,cc,ce,ej,rfl,ek,em,en,eo,ep,aS,a6⟩
  iterate 3 refine Re z z z ?_
  refine E0 (fs0 (cur':=[vI eg.number,sl c8 c9 ca,sl cb cc ce]) b_ z z (((h2.e G).c h1<|djs<|mmr h2.lt).e c7) z z z z) ?_;rintro _ _ ⟨er,es⟩;have aT:=es.one;refine Ra z<|Rw z ?_
  obtain rfl:=som d7;have cf:=lt_ G.s h1.s;exact Wr<|rtO<|B_ hr (u_ i_ b_ z er z) z z ⟨bM (bup (bM (bup (bup h3 h4) G) h1<|m1 aQ) c7) aT<|m1 h3.s,c8,c9,ca,ei,cb,cc,ce,ej,z,ek,em.c aT<|h_ (al_ a6) h2.lt cf,en.c aT<|h_ (ar_ a6) h2.lt cf,eo,ep,na_ (nl_ aS) (nr_ aS)<|nj aS,aa_ (j_ (al_ a6) aR)<|j_ (ar_ a6) aR⟩
 have bk:=ifF bj au;refine Ws<|Rq z z z<|Rw z<|Wc z (fun av=>?_) (fun av=>?_)
 ·refine Ws<|R z (lN (vs:=[sl A0 N0 C0]) w_ v_ z z fid<|((ho.e G).c h1<|djs<|mm1 hn.lt h4.s).row 0 1 z)<|R z (lN (vs:=vR xa ab nc cd ae nf cg ah ni cj ak nl cm) D_ t_ z z fid<|V.row 0 8 z)<|RM z z ?_
  have aU:=lt_ h3.s h4.s;have ch:∀k∈[L.z],¬B k:=or0 (d_ lr)<|p_<|zt' H aU;have ci:=(O.e G).c h1<|e_ ch
  have a7:=(G.ag B).c h1<|e_ ch
  have aV:=lt_ (lt_ aU G.s) h1.s;obtain ⟨eu,_,_,ew,d8⟩:=O_<|ifT bk av;refine E z (fc call92 z<|de.run ew (zt' H aV) (W.g ci) hu hv hp (hq.g a7) (hw.g a7) (hx.g a7) (ht.g a7) (J.g ci) I) ?_;rintro _ _ ⟨ck,cl,cn,co,ex,cp,cq,cr,ey,rfl,ez,eA,eB,eC,eD,aW,a8⟩
  iterate 3 refine Re z z z ?_
  refine E0 (fs0 (cur':=[vI eu.number,sl cl cn co,sl cp cq cr]) b_ z z (((h2.e G).c h1<|djs<|mmr h2.lt).e ck) z z z z) ?_;rintro _ _ ⟨eE,eF⟩;have aX:=eF.one;refine Ra z<|Rw z ?_
  obtain rfl:=som d8;have ct:=lt_ G.s h1.s;exact Wr<|rtO<|B_ hr (u_ i_ b_ z eE z) z z ⟨bM (bup (bM (bup (bup h3 h4) G) h1<|m1 aU) ck) aX<|m1 h3.s,cl,cn,co,ex,cp,cq,cr,ey,z,ez,eA.c aX<|h_ (al_ a8) h2.lt ct,eB.c aX<|h_ (ar_ a8) h2.lt ct,eC,eD,na_ (nl_ aW) (nr_ aW)<|nj aW,aa_ (j_ (al_ a8) aV)<|j_ (ar_ a8) aV⟩
 have bm:=ifF bk av;refine Ws<|Rq z z z<|Rw z<|Wc z (fun aw=>?_) (fun aw=>?_)
 ·refine Ws<|R z (lN (vs:=[sl A0 N0 C0]) w_ v_ z z fid<|((ho.e G).c h1<|djs<|mm1 hn.lt h4.s).row 0 1 z)<|R z (lN (vs:=vR xa ab nc cd ae nf cg ah ni cj ak nl cm) D_ t_ z z fid<|V.row 0 8 z)<|RM z z ?_
  have aY:=lt_ h3.s h4.s;have cu:∀k∈[L.z],¬B k:=or0 (d_ lr)<|p_<|zt' H aY;have cv:=(O.e G).c h1<|e_ cu
  have a9:=(G.ag B).c h1<|e_ cu
  have aZ:=lt_ (lt_ aY G.s) h1.s;obtain ⟨eG,_,_,eH,d9⟩:=O_<|ifT bm aw;refine E z (fc call93 z<|df.run eH (zt' H aZ) (W.g cv) hu hv hp (hq.g a9) (hw.g a9) (hx.g a9) (ht.g a9) (J.g cv) I) ?_;rintro _ _ ⟨cw,cx,cy,cz,eI,cA,cB,cC,eJ,rfl,eK,eL,eM,eN,eO,b0,aa⟩
  iterate 3 refine Re z z z ?_
  refine E0 (fs0 (cur':=[vI eG.number,sl cx cy cz,sl cA cB cC]) b_ z z (((h2.e G).c h1<|djs<|mmr h2.lt).e cw) z z z z) ?_;rintro _ _ ⟨eP,eQ⟩;have b3:=eQ.one;refine Ra z<|Rw z ?_
  obtain rfl:=som d9;have cD:=lt_ G.s h1.s;exact Wr<|rtO<|B_ hr (u_ i_ b_ z eP z) z z ⟨bM (bup (bM (bup (bup h3 h4) G) h1<|m1 aY) cw) b3<|m1 h3.s,cx,cy,cz,eI,cA,cB,cC,eJ,z,eK,eL.c b3<|h_ (al_ aa) h2.lt cD,eM.c b3<|h_ (ar_ aa) h2.lt cD,eN,eO,na_ (nl_ b0) (nr_ b0)<|nj b0,aa_ (j_ (al_ aa) aZ)<|j_ (ar_ aa) aZ⟩
 refine Wk<|Wq (Wd (X:=noX) 0 (pl_ 15 [7]) mo (by kernel_rfl) fun fr s6 _=>?_)
 have cE:=((ho.e G).c h1<|djs<|mm1 hn.lt h4.s).e s6;refine dR z z (lN (vs:=[sl A0 N0 C0]) w_ v_ z z fid<|cE.row 0 1 z)<|dR z z (fd R_ z) ?_
 have cF:=V.e s6;refine dR z z (l0 A_ z<|cF.at z) ?_;obtain ⟨_,eR,da⟩:=bdS<|ifF bm aw;have hy:=lt_ h3.s h4.s;have cG:∀k∈[L.z],¬B k:=or0 (d_ lr)<|p_<|zt' H hy;have cH:=((G.ag B).c h1<|e_ cG).e s6;refine dRX z z (at_ (α:=Int) y_ z_3 z z z (ht.g cH) eR) ?_;rintro _ ⟨_,_,_,rfl,eS,eT,_⟩;obtain ⟨rfl,eU⟩:=T_ eT;refine dR z z (l0 g_3 z<|eS.at0 z)<|dM z z z<|dM z z z ?_
 have ad:=((O.e G).c h1<|e_ cG).e s6;have b4:=lt_ (lt_ (lt_ hy G.s) h1.s) s6.s;obtain ⟨_,_,_,eV,bn⟩:=O_ da;refine dE z z (fc call86 z<|k_y eV (zt' H b4) (W.g ad) eU (J.g ad) I) (.inr fun _ _ h=>o_<|h.1) ?_;rintro _ _ ⟨s5,rfl,cI,cJ⟩;refine dM z z z ?_
 iterate 3 refine dR z z (ext_ z z) ?_
 iterate 3 refine dQ z z z ?_
 refine pD<|Wo<|Wq<|Wb<|Wm z<|R z (not_ z)<|Rw z<|Wc z (fun ax=>?_) (fun ax=>?_)
 ·refine Ws<|R z (bP (parts:=[]) (cs:=[vI 0,sl none 0 0,sl none 0 0]) P_ z z)<|Rm z<|E0 (fs0 (cur':=[vI 0,sl none 0 0,sl none 0 0]) b_ z z ((((h2.e G).c h1<|djs<|mmr h2.lt).e s6).e s5) z z z z) ?_
  rintro _ _ ⟨eW,eX⟩;refine Ra z<|Rw z ?_
  obtain rfl:=som<|ifT bn ax;exact Wr<|rtO<|B_ hr (u_ i_ b_ z eW z) z z ⟨bM (bup (bup (bM (bup (bup h3 h4) G) h1<|m1 hy) s6) s5) eX.one<|m1 h3.s,none,0,0,[],none,0,0,[],z,ii z,onL,onL,I,ii z,nd0,al0⟩
 have bo:=ifF bn ax;refine Ws<|Rf z a_M z ?_
 have cK:=cF.e s5;refine R z (l0 g_3 z<|cK.at z)<|Rq z z z<|Rw z<|Wc z (fun ay=>?_) (fun ay=>?_)
 ·refine Wm z<|RM z z ?_
  have b5:=lt_ b4 s5.s;obtain ⟨eY,_,_,eZ,db⟩:=O_<|ifT bo ay;refine E z (fc call88 z<|W_w1d eZ (zt' H b5) (J.g<|ad.e s5) cJ cI) ?_;rintro _ _ ⟨cL,cM,cN,cO,f0,cP,cQ,cR,f1,rfl,f2,f3,f4,f5,f6,b6,af⟩
  iterate 3 refine Re z z z ?_
  refine E0 (fs0 (cur':=[vI eY.number,sl cM cN cO,sl cP cQ cR]) b_ z z (((((h2.e G).c h1<|djs<|mmr h2.lt).e s6).e s5).e cL) z z z z) ?_;rintro _ _ ⟨f7,f8⟩;have b7:=f8.one;refine Ra z<|Rw z ?_
  obtain rfl:=som db;have cS:=lt_ (lt_ (lt_ G.s h1.s) s6.s) s5.s;exact Wr<|rtO<|B_ hr (u_ i_ b_ z f7 z) z z ⟨bM (bup (bup (bup (bM (bup (bup h3 h4) G) h1<|m1 hy) s6) s5) cL) b7<|m1 h3.s,cM,cN,cO,f0,cP,cQ,cR,f1,z,f2,f3.c b7<|h_ (al_ af) h2.lt cS,f4.c b7<|h_ (ar_ af) h2.lt cS,f5,f6,na_ (nl_ b6) (nr_ b6)<|nj b6,aa_ (j_ (al_ af) b5)<|j_ (ar_ af) b5⟩
 have bp:=ifF bo ay;refine Wm z<|R z (a_C z z)<|Rw z<|Wc z (fun az=>?_) (fun az=>?_)
 ·refine Ws<|R z (bP (parts:=[]) (cs:=[vI 0,sl none 0 0,sl none 0 0]) P_ z z)<|Rm z<|E0 (fs0 (cur':=[vI 0,sl none 0 0,sl none 0 0]) b_ z z ((((h2.e G).c h1<|djs<|mmr h2.lt).e s6).e s5) z z z z) ?_
  rintro _ _ ⟨f9,fe⟩;refine Ra z<|Rw z ?_
  obtain rfl:=som<|ifT bp az;exact Wr<|rtO<|B_ hr (u_ i_ b_ z f9 z) z z ⟨bM (bup (bup (bM (bup (bup h3 h4) G) h1<|m1 hy) s6) s5) fe.one<|m1 h3.s,none,0,0,[],none,0,0,[],z,ii z,onL,onL,I,ii z,nd0,al0⟩
 refine Wk<|Ws<|R z (lN (vs:=[sl A0 N0 C0]) w_ v_ z z fid<|(cE.e s5).row 0 1 z)<|R z (lN (vs:=vR xa ab nc cd ae nf cg ah ni cj ak nl cm) D_ t_ z z fid<|cK.row 0 8 z)<|RM z z<|Rm z ?_
 have cT:=ad.e s5;have ai:=cH.e s5;have b8:=lt_ b4 s5.s;obtain ⟨ff,_,_,fg,dc⟩:=O_<|ifF bp az;refine E z (fc call90 z<|bq.run fg (zt' H b8) (W.g cT) hu hv hp (hq.g ai) (hw.g ai) (hx.g ai) (ht.g ai) (ii z) cI (J.g cT) cJ) ?_;rintro _ _ ⟨cU,cV,cW,cX,fh,cY,cZ,d0,fi,rfl,fj,fk,fl,fm,fo,b9,aj⟩
 iterate 3 refine Re z z z ?_
 refine E0 (fs0 (cur':=[vI ff.number,sl cV cW cX,sl cY cZ d0]) b_ z z (((((h2.e G).c h1<|djs<|mmr h2.lt).e s6).e s5).e cU) z z z z) ?_;rintro _ _ ⟨fp,fq⟩;have ba:=fq.one;refine Ra z<|Rw z ?_
 obtain rfl:=som dc;have d1:=lt_ (lt_ (lt_ G.s h1.s) s6.s) s5.s;exact Wr<|B_ hr (u_ i_ b_ z fp z) z z ⟨bM (bup (bup (bup (bM (bup (bup h3 h4) G) h1<|m1 hy) s6) s5) cU) ba<|m1 h3.s,cV,cW,cX,fh,cY,cZ,d0,fi,z,fj,fk.c ba<|h_ (al_ aj) h2.lt d1,fl.c ba<|h_ (ar_ aj) h2.lt d1,fm,fo,na_ (nl_ b9) (nr_ b9)<|nj b9,aa_ (j_ (al_ aj) b8)<|j_ (ar_ aj) b8⟩
theorem T_w1f (ih:f_z n):k_A (h_3 n<|a_h n):=by
 obtain ⟨am,_,_,_,_⟩:=ih
 constructor
 intro A0 A3 A2 A1 A4 AH N0 C0 N3 C3 N2 C2 N1 C1 N4 C4 NH CH B x1 x2 x3 x4 x5 x6 res w0 hm V ai aL aM aN aO aP aQ aR aS aj ak ck;unfold h_3 at hm
 refine goG func90 z z z fun fn hr=>Ws<|E z (fb z) ?_
 rintro _ a4 ⟨rfl,aX⟩;have hd:=aX.below;have an:Blk a4 w0.z [sl A0 N0 C0]:=aX.blk;refine E z (fb z) ?_;rintro _ wr ⟨rfl,aY⟩;have hb:=aY.below;have ao:Blk wr a4.z (vR x2 A3 N3 C3 A2 N2 C2 A1 N1 C1 A4 N4 C4):=aY.blk;refine E z (fa E_) ?_;rintro _ G ⟨rfl,aZ⟩;have h5:=aZ.below;have hu:Blk G wr.z [vI 0,sl none 0 0,sl none 0 0]:=aZ.blk;refine Ra z<|Rw z<|Ws<|R z (bP (parts:=[]) (cs:=[vI 0,sl none 0 0,sl none 0 0]) P_ z z)<|E z (fa E_) ?_
 rintro _ cA ⟨rfl,b0⟩;have h3:=b0.below;have hv:Blk cA G.z [vI 0,sl none 0 0,sl none 0 0]:=b0.blk;refine E0 (fs0 (cur':=[vI 0,sl none 0 0,sl none 0 0]) b_ z z hv z z z z) ?_;rintro _ I ⟨cB,cC⟩;have H:=cC.one;refine Wn<|Wq<|Ws<|Rw z ?_
 obtain ⟨_,cl,aT⟩:=bdS hm;refine Wf (σ:=Int×(List Val)) (ρ:=Val×Int×Int) (fun (ap:Nat) s a w=>un2 (fun xc xp=>∃L O ca J,Sat 52 [(2,vI x3),(3,vI x4),(4,sl AH NH CH),(5,vI xc),(6,pt w0.z),(7,pt a4.z),(12,pt wr.z),(15,pt G.z),(16,vI ((ap:Nat):Int))] a/\Chg (· ∈ [G.z]) I w/\inI xc/\a_ w J (sl L O ca) xp/\J.Nodup/\(∀k∈J,I.z<=k)/\Blk w G.z [vI 0,sl none 0 0,sl L O ca]) s) (fun s a w=>un2 (fun xc xp=>∃L O ca J,Sat 52 [(5,vI xc),(12,pt wr.z),(15,pt G.z)] a/\Chg (· ∈ [G.z]) I w/\inI xc/\a_ w J (sl L O ca) xp/\J.Nodup/\(∀k∈J,I.z<=k)/\Blk w G.z [vI 0,sl none 0 0,sl L O ca]) s) (rQ prog fn<|Q9 w0 B) cl ?_ ?_ ?_ ?_ ?_
 ·exact fun _ q=>⟨none,0,0,[],q.k<|s9 z z z z z z z z z,cr [G.z] I,ck,onL,K_,an_,cB⟩
 ·rintro ap ⟨xc,xp⟩ _ wg _ a3 ⟨L,O,ca,J,cm,s4,hh,hi,hw,he,hx⟩ cn;refine Wu ?_ cm;refine Wq<|Wm z<|Rm z<|Rl z z z<|Wx z (fun _=>?_) (fun hc=>(noltI a3 hc).elim)
  refine Wk<|Wq<|Wb<|Wq ?_
  obtain ⟨cD,aU,co⟩:=bdS<|a_t cn;refine Wt (fun a w=>∃(xj:Int)(a5:List UInt8)(a6:List Val)(xs:Int)(a7:Int),(xj,a5,a6,xs,a7)=cD/\∃ay nz W Sk Y a0 a1 Sl gq,Sat 52 [(2,vI x3),(3,vI x4),(4,sl AH NH CH),(6,pt w0.z),(7,pt a4.z),(12,pt wr.z),(15,pt G.z),(16,vI ((ap:Nat):Int)),(17,pt gq),(18,vI xs),(19,vI a7)] a/\Below wg.z wg w/\inI xj/\a_ w Sk (sl ay nz W) a5/\Sk.Nodup/\(∀k∈Sk,wg.z<=k)/\a_ w Sl (sl Y a0 a1) a6/\Sl.Nodup/\(∀k∈Sl,wg.z<=k)/\(∀k∈Sl,k∉Sk)/\inI xs/\inI a7/\Blk w gq [vI xj,sl ay nz W,sl Y a0 a1]/\wg.z<=gq/\(∀k∈Sk,k∉[gq])/\(∀k∈Sl,k∉[gq])) ?_ ?_
  ·refine Wd (X:=fun k=>k∈([]:List Nat)∨wg.z<=k) 0 (.rd 0<|.rd 1<|.rd 2<|.rd 3<|.rd 5<|.rd 6<|.br 4 (.br 7 (.rd 8<|.rd 9<|.rd 10<|.rd 11<|.ef 12<|.ef 13<|.rd 14<|.rd 15 .done) 12<|.ef 7<|.rd 8<|.rd 9<|.rd 10<|.rd 11<|.ef 13<|.rd 14<|.rd 15 .done) 12<|.ef 4<|.ef 7<|.rd 8<|.rd 9<|.rd 10<|.rd 11<|.ef 13<|.rd 14<|.rd 15 .done) mo (by kernel_rfl) fun b3 s7 _=>?_
   have b4:=lt_ hb.s h5.s;have b5:=mm1 an.lt b4;refine dR z z (lN (vs:=[sl A0 N0 C0]) w_ v_ z z (b_t nm0<|Nat.lt_of_lt_of_le an.lt<|lt_ (lt_ (lt_ b4 h3.s) H.s) s4.s)<|((((((an.e hb).e h5).e h3).c H<|djs b5).c s4<|djs b5).e s7).row 0 1 z) ?_;have b6:=mm1 ao.lt h5.s;refine dR z z (lN (vs:=vR x2 A3 N3 C3 A2 N2 C2 A1 N1 C1 A4 N4 C4) D_ t_ z z (b_t nm0<|Nat.lt_of_lt_of_le ao.lt<|lt_ (lt_ (lt_ h5.s h3.s) H.s) s4.s)<|(((((ao.e h5).e h3).c H<|djs b6).c s4<|djs b6).e s7).row 0 8 z) ?_
   iterate 4 refine dM z z z ?_
   refine b_x ?_ ?_
   ·have b7:=lt_ (lt_ hd.s hb.s) h5.s;have b8:∀k∈[G.z],¬B k:=or0 (d_ lr)<|p_<|zt' V b7;have ht:=((((((hd.ag B).e hb).e h5).e h3).c H<|e_ b8).c s4<|e_ b8).e s7;have aq:=lt_ (lt_ (lt_ (lt_ b7 h3.s) H.s) s4.s) s7.s;obtain ⟨_,cE,aV⟩:=bdS aU;refine dE z z (fc call97 z<|e_5 cE (zt' V aq) aL aM aN (aO.g ht) (aP.g ht) (aQ.g ht) (aR.g ht) aS<|ic (Nat.le_of_lt a3)<|tl_ aj) (.inr fun _ _ h=>o_<|h.1) ?_;rintro _ b9 ⟨sf,rfl,ba⟩;refine b_x ?_ ?_
    ·have bb:=ht.e sf;obtain ⟨a9,cF,cG,cH,cp⟩:=O_ aV;refine dE z z (fc call51 z<|am.run cH (zt' V<|lt_ aq sf.s) (ai.g bb) ba (ak.g bb) hh) (.inr fun _ _ h=>o_<|h.1) ?_;rintro _ bc ⟨be,bf,bg,bh,cI,bi,bj,bk,cJ,rfl,cK,bm,bn,cL,cN,ar,bo⟩;refine dM z z z ?_
     iterate 3 refine dR z z (ext_ z z) ?_
     refine dE z z (fa E_) (.inr fun _ _ h=>o_<|h.2.below) ?_;rintro _ cO ⟨rfl,bp⟩;have au:=bp.below;have av:=lt_ s7.s sf.s;have aw:=m1<|lt_ av be.s
     refine dE0 z (fs0 (cur':=[vI a9.number,sl bf bg bh,sl bi bj bk]) b_ z z (bp.blk:Blk cO bc.z [vI 0,sl none 0 0,sl none 0 0]) z z z z) (.inr fun _ _ h=>b_1 (atp aw) h.2) ?_;rintro _ _ ⟨cP,cQ⟩;have ax:=cQ.one;refine dQ z z z<|dQ z z z<|pD ?_
     have bq:=mnr<|a_.lt bm
     have bs:=mnr<|a_.lt bn
     exact fun _ q=>⟨a9.number,a9.bytes,a9.items,cF,cG,som cp,bf,bg,bh,cI,bi,bj,bk,cJ,bc.z,q.k<|sc z<|sc z<|sc z<|sc z<|sc z<|sc z<|sc z<|sc z<|sc z<|sc z<|sc z sn,bM (bup (bup (bup s7 sf) be) au) ax aw,cK,(bm.e au).c ax<|ds bq,nl_ ar,j_ (al_ bo) av,(bn.e au).c ax<|ds bs,nr_ ar,j_ (ar_ bo) av,ds<|nj ar,cL,cN,cP,atp aw,ds bq,ds bs⟩
    refine dE z z (fa E_) (.inr fun _ _ h=>o_<|h.2.below) ?_;rintro _ cR ⟨rfl,bt⟩;have aa:=bt.below;have az:Blk cR b9.z [vI 0,sl none 0 0,sl none 0 0]:=bt.blk;have bu:=(ht.e sf).e aa;obtain ⟨ab,cS,cT,cU,cq⟩:=O_ aV;refine dE z z (fc call51 z<|am.run cU (zt' V<|lt_ (lt_ aq sf.s) aa.s) (ai.g bu) ba (ak.g bu) hh) (.inr fun _ _ h=>o_<|h.1) ?_;rintro _ _ ⟨bv,bw,bx,bz,cV,bA,bB,bC,cW,rfl,cX,cY,cZ,d0,d1,aA,ad⟩;refine dM z z z ?_
    iterate 3 refine dR z z (ext_ z z) ?_
    have bD:=lt_ s7.s sf.s;have aB:=m1 bD;refine dE0 z (fs0 (cur':=[vI ab.number,sl bw bx bz,sl bA bB bC]) b_ z z (az.e bv) z z z z) (.inr fun _ _ h=>b_1 (atp aB) h.2) ?_;rintro _ _ ⟨d2,d3⟩;have aC:=d3.one;refine dQ z z z<|dQ z z z<|pD ?_
    have bE:=h_ (al_ ad) az.lt lr;have bF:=lt_ bD aa.s;have bG:=h_ (ar_ ad) az.lt lr;exact fun _ q=>⟨ab.number,ab.bytes,ab.items,cS,cT,som cq,bw,bx,bz,cV,bA,bB,bC,cW,b9.z,q.k<|sc z<|sc z<|sc z<|sc z<|sc z<|sc z<|sc z<|sc z<|sc z<|sc z<|sc z sn,bM (bup (bup (bup s7 sf) aa) bv) aC aB,cX,cY.c aC bE,nl_ aA,j_ (al_ ad) bF,cZ.c aC bG,nr_ aA,j_ (ar_ ad) bF,ds<|nj aA,d0,d1,d2,atp aB,bE,bG⟩
   refine dE z z (fa E_) (.inr fun _ _ h=>o_<|h.2.below) ?_;rintro _ d4 ⟨rfl,bH⟩;have ae:=bH.below;have aD:Blk d4 b3.z [vI 0,sl none 0 0,sl none 0 0]:=bH.blk;have bI:=lt_ (lt_ hd.s hb.s) h5.s;have bJ:∀k∈[G.z],¬B k:=or0 (d_ lr)<|p_<|zt' V bI;have a2:=(((((((hd.ag B).e hb).e h5).e h3).c H<|e_ bJ).c s4<|e_ bJ).e s7).e ae;have bK:=lt_ (lt_ (lt_ (lt_ (lt_ bI h3.s) H.s) s4.s) s7.s) ae.s;obtain ⟨_,d5,ct⟩:=bdS aU;refine dE z z (fc call97 z<|e_5 d5 (zt' V bK) aL aM aN (aO.g a2) (aP.g a2) (aQ.g a2) (aR.g a2) aS<|ic (Nat.le_of_lt a3)<|tl_ aj) (.inr fun _ _ h=>o_<|h.1) ?_;rintro _ _ ⟨sm,rfl,d6⟩;have bL:=a2.e sm;obtain ⟨af,d7,d8,d9,cu⟩:=O_ ct;refine dE z z (fc call51 z<|am.run d9 (zt' V<|lt_ bK sm.s) (ai.g bL) d6 (ak.g bL) hh) (.inr fun _ _ h=>o_<|h.1) ?_;rintro _ _ ⟨bN,bO,bQ,bR,da,bS,bT,bU,db,rfl,dc,dd,de,df,dg,aE,ah⟩;refine dM z z z ?_
   iterate 3 refine dR z z (ext_ z z) ?_
   have aF:=m1 s7.s;refine dE0 z (fs0 (cur':=[vI af.number,sl bO bQ bR,sl bS bT bU]) b_ z z ((aD.e sm).e bN) z z z z) (.inr fun _ _ h=>b_1 (atp aF) h.2) ?_;rintro _ _ ⟨dh,di⟩;have aG:=di.one;refine dQ z z z<|dQ z z z<|pD ?_
   have bV:=h_ (al_ ah) aD.lt sm.s;have bW:=lt_ (lt_ s7.s ae.s) sm.s;have bX:=h_ (ar_ ah) aD.lt sm.s;exact fun _ q=>⟨af.number,af.bytes,af.items,d7,d8,som cu,bO,bQ,bR,da,bS,bT,bU,db,b3.z,q.k<|sc z<|sc z<|sc z<|sc z<|sc z<|sc z<|sc z<|sc z<|sc z<|sc z<|sc z sn,bM (bup (bup (bup s7 ae) sm) bN) aG aF,dc,dd.c aG bV,nl_ aE,j_ (al_ ah) bW,de.c aG bX,nr_ aE,j_ (ar_ ah) bW,ds<|nj aE,df,dg,dh,atp aF,bV,bX⟩
  rintro dj bY ⟨xj,a5,a6,xs,a7,rfl,ay,nz,W,Sk,Y,a0,a1,Sl,gq,_,so,dk,dl,dm,aH,dn,dp,aI,dq,bZ,dr,dt,_,_,_⟩;have aW:=un5S co;revert dj;refine Wo<|Wq<|Wm z<|R z (nq z z)<|Wx z (fun al=>?_) (fun al=>?_)
  ·refine Ws<|R z (bP (parts:=[]) (cs:=[vI 0,sl none 0 0,sl none 0 0]) P_ z z)<|RM z z ?_
   have c0:=mmr hu.lt;refine E0 (fs0 (cur':=[vI 0,sl none 0 0,sl none 0 0]) b_ z z ((((hu.e h3).c H<|djs c0).c s4<|djs c0).e so) z z z z) ?_;rintro _ _ ⟨du,dv⟩;refine Ra z<|Rw z ?_
   have c1:=lt_ hd.s hb.s;have c2:=m1<|lt_ c1 h5.s
   exact Wr<|rtO<|qL (som<|ifT aW al).symm<|B_ hr (u_ i_ b_ z du z) z z ⟨bM (bup (bM (bM (bup (bup (bup hd hb) h5) h3) H c2) s4 c2) so) dv.one<|m1 c1,none,0,0,[],none,0,0,[],z,ii z,onL,onL,bZ,dr,nd0,al0⟩
  refine Wk<|Ws<|Rf z Q_ z ?_
  have c3:=hx.e so;refine R z (l0 X_ z<|c3.at z)<|R z (lN (vs:=[vI xj,sl ay nz W,sl Y a0 a1]) i_ b_ z z fid<|dt.row 0 3 z)<|E z (fS [(.tmp 45)] c_a z z z (a_J z) (lb z)<|lb z) ?_
  rintro _ c4 ⟨rfl,c5⟩;have hn:=c5.below;obtain ⟨dw,dx,cv⟩:=bdS<|ifF aW al;refine E z (b_i (α:=Val) c_a dx z z ((hi.e so).e hn) hw (c5.blk:Blk c4 bY.z [vI xj,sl ay nz W,sl Y a0 a1]) (e_0 (x:=(⟨xj,a5,a6⟩:Val)) (S1:=Sk) (S2:=Sl) dk (dl.e hn)<|dn.e hn) (aa_ (a_Y aH (a_.lt hi) lr)<|a_Y aI (a_.lt hi) lr)<|na_ dm dp<|ds dq) ?_;rintro _ dy ⟨aJ,c6,c7,c8,rfl,c9,dz,dA,cb⟩;refine Rf z Q_ z ?_;have cc:=h_ he hv.lt H.s;refine E0 (fs0 (cur':=[vI 0,sl none 0 0,sl c6 c7 c8]) d_h z z ((c3.e hn).c c9<|djs cc) z z z z) ?_;rintro _ dB ⟨dC,dD⟩;have cd:=dD.one;refine Wn<|Wg<|Rm z<|Rw z<|Wg<|Rm z<|R z (inc_ a3 (tl_ aj) z z)<|Ra z<|Wl ?_
  have aK:=lt_ H.s s4.s;exact fun _ q=>⟨(xs,dw),(som cv).symm,⟨c6,c7,c8,aJ,q.k<|s9 z z z z z z z z z,(cM (cM (k_ (k_ (cM (cr [G.z] I) s4 (io sr):Chg (· ∈ [G.z]) I wg) so:Chg (· ∈ [G.z]) I bY) hn:Chg (· ∈ [G.z]) I c4) c9 (or0 he (q_ lr):∀k∈J,k∈[G.z]∨I.z<=k):Chg (· ∈ [G.z]) I dy) cd (io sr):Chg (· ∈ [G.z]) I dB),bZ,dz.c cd (or2 cb cc (aa_ (h_ aH hv.lt aK)<|h_ aI hv.lt aK) (S_ (d_ hv.lt)<|lt_ (lt_ aK so.s) hn.s):∀k∈aJ,k∉[G.z]),dA,(or2 cb he (aa_ (j_ aH s4.s)<|j_ aI s4.s) (b_9<|lt_ (lt_ s4.s so.s) hn.s):∀k∈aJ,I.z<=k),dC⟩⟩
 ·rintro ⟨xc,xp⟩ _ dF ⟨L,O,ca,J,cw,dG,hh,hi,hw,he,hx⟩;refine Wu ?_ cw;refine Wq<|Wm z<|Rm z<|Rl z z z<|Wx z (fun hc=>(l_z hc).elim) (fun _=>?_)
  exact We<|fun _ q=>⟨rfl,⟨L,O,ca,J,q.k<|s3 z z z,(cM (cr [G.z] I) dG (io sr):Chg (· ∈ [G.z]) I dF),hh,hi,hw,he,hx⟩⟩
 ·rintro ⟨xc,xp⟩ dH _ rfl ⟨L,O,ca,J,_,ce,hh,hi,hw,he,hx⟩;have cx:=elL aT;revert dH;refine Wo<|Ws<|R z (lN (vs:=[vI 0,sl none 0 0,sl L O ca]) i_ b_ z z fid<|hx.row 0 3 z)<|Rm z ?_
  have cf:=mmr hu.lt;refine E0 (fs0 (cur':=[vI 0,sl none 0 0,sl L O ca]) b_ z z (((hu.e h3).c H<|djs cf).c ce<|djs cf) z z z z) ?_;rintro _ _ ⟨dI,dJ⟩;have cg:=dJ.one;refine Ra z<|Rw z ?_
  obtain rfl:=som<|a_t cx;have ch:=lt_ hd.s hb.s;have ci:=lt_ ch h5.s;have cj:=m1 ci;exact Wr<|B_ hr (u_ i_ b_ z dI z) z z ⟨bM (bM (bM (bup (bup (bup hd hb) h5) h3) H cj) ce cj) cg<|m1 ch,none,0,0,[],L,O,ca,J,z,ii z,onL,hi.c cg<|h_ he hu.lt<|lt_ h3.s H.s,hh,ii z,na_ K_ hw an_,aa_ an_<|j_ he<|lt_ (lt_ ci h3.s) H.s⟩
 rintro _ _ _ _ rfl ⟨rfl,cy⟩;have cz:=elR aT;obtain rfl:=som cz;exact ⟨cy,z⟩
theorem T_w1g (ih:f_z n):k_B (h_4 n<|a_h n):=by
 obtain ⟨_,aA,_,_,_⟩:=ih
 constructor
 intro A0 A3 A2 A1 A4 A9 N0 C0 N3 C3 N2 C2 N1 C1 N4 C4 N9 C9 B x1 x2 x3 x4 res w0 hm W Y a0 a1 a2 a3 a4 a5 O a6 V;unfold h_4 at hm
 refine goG func91 z z z fun fn hr=>Ws<|E z (fb z) ?_
 rintro _ wy ⟨rfl,hz⟩;have hf:=hz.below;refine E z (fb z) ?_;rintro _ wq ⟨rfl,ad⟩;have h5:=ad.below;refine E z (fa E_) ?_;rintro _ aB ⟨rfl,ae⟩;have h3:=ae.below;have h6:Blk aB wq.z [vI 0,sl none 0 0,sl none 0 0]:=ae.blk;refine Ra z<|Rw z<|Wq (Wd (X:=noX) 0 (pl_ 15 [7]) mo (by kernel_rfl) fun b8 G _=>?_)
 have af:=(((hz.blk:Blk wy w0.z [sl A0 N0 C0]).e h5).e h3).e G;refine dR z z (lN (vs:=[sl A0 N0 C0]) w_ v_ z z fid<|af.row 0 1 z)<|dR z z (fd R_ z) ?_
 have ah:=((ad.blk:Blk wq wy.z (vR x2 A3 N3 C3 A2 N2 C2 A1 N1 C1 A4 N4 C4)).e h3).e G;refine dR z z (l0 A_ z<|ah.at z) ?_;obtain ⟨_,aC,ax⟩:=bdS hm;have hh:=(((hf.ag B).e h5).e h3).e G;refine dRX z z (at_ (α:=Int) y_ z_3 z z z (O.g hh) aC) ?_;rintro _ ⟨_,_,_,rfl,aD,aE,_⟩;obtain ⟨rfl,aF⟩:=T_ aE;refine dR z z (l0 g_3 z<|aD.at0 z)<|dM z z z<|dM z z z ?_
 have hi:=lt_ hf.s h5.s;have ai:=lt_ (lt_ hi h3.s) G.s;obtain ⟨aj,_,_,aG,a7⟩:=O_ ax;refine dE z z (fc call86 z<|k_y aG (zt' W ai) (Y.g hh) aF (a6.g hh) V) (.inr fun _ _ h=>o_<|h.1) ?_;rintro _ _ ⟨s1,rfl,ht,aH⟩;refine dM z z z ?_
 iterate 3 refine dR z z (ext_ z z) ?_
 iterate 3 refine dQ z z z ?_
 refine pD<|Wo<|Wq<|Wm z<|R z (not_ z)<|Wx z (fun hcr=>?_) (fun hcr=>?_)
 ·refine Ws<|R z (bP (parts:=[]) (cs:=[vI 0,sl none 0 0,sl none 0 0]) P_ z z)<|Rm z<|E0 (fs0 (cur':=[vI 0,sl none 0 0,sl none 0 0]) b_ z z ((h6.e G).e s1) z z z z) ?_
  rintro _ _ ⟨aI,aJ⟩;refine Ra z<|Rw z ?_
  obtain rfl:=som<|ifT a7 hcr;exact Wr<|B_ hr (u_ i_ b_ z aI z) z z ⟨bM (bup (bup (bup (bup hf h5) h3) G) s1) aJ.one<|m1 hi,none,0,0,[],none,0,0,[],z,ii z,onL,onL,V,ii z,nd0,al0⟩
 refine Wk<|Wq<|Ws ?_
 have ak:=ah.e s1;refine R z (lN (vs:=vR x2 A3 N3 C3 A2 N2 C2 A1 N1 C1 A4 N4 C4) D_ t_ z z fid<|ak.row 0 8 z)<|Rm z ?_
 have hg:=hh.e s1;have al:=lt_ ai s1.s;obtain ⟨_,aK,a9⟩:=bdS<|ifF a7 hcr;refine E z (fc call97 z<|e_5 aK (zt' W al) a0 a1 a2 (a3.g hg) (a4.g hg) (a5.g hg) (O.g hg) ht<|ii z) ?_;rintro _ _ ⟨s2,rfl,_⟩;refine Rl z z z<|Wx z (fun hcs=>?_) (fun hcs=>?_)
 ·refine Ws<|R z (bP (parts:=[]) (cs:=[vI 0,sl none 0 0,sl none 0 0]) P_ z z)<|Rm z<|E0 (fs0 (cur':=[vI 0,sl none 0 0,sl none 0 0]) b_ z z (((h6.e G).e s1).e s2) z z z z) ?_
  rintro _ _ ⟨aL,aM⟩;refine Ra z<|Rw z ?_
  obtain rfl:=som<|ifT a9 hcs;exact Wr<|B_ hr (u_ i_ b_ z aL z) z z ⟨bM (bup (bup (bup (bup (bup hf h5) h3) G) s1) s2) aM.one<|m1 hi,none,0,0,[],none,0,0,[],z,ii z,onL,onL,V,ii z,nd0,al0⟩
 refine Wk<|Ws<|R z (lN (vs:=[sl A0 N0 C0]) w_ v_ z z fid<|((af.e s1).e s2).row 0 1 z)<|R z (lN (vs:=vR x2 A3 N3 C3 A2 N2 C2 A1 N1 C1 A4 N4 C4) D_ t_ z z fid<|(ak.e s2).row 0 8 z)<|RM z z<|Rm z ?_
 have I:=hg.e s2;have hj:=lt_ al s2.s;obtain ⟨am,aN,aO,aP,ay⟩:=O_<|ifF a9 hcs;refine E z (fc call90 z<|aA.run aP (zt' W hj) (Y.g I) a0 a1 a2 (a3.g I) (a4.g I) (a5.g I) (O.g I) ht (ii z) (a6.g I) aH) ?_;rintro _ H ⟨sk,J,L,ca,aQ,ab,nc,cd,aR,rfl,aS,an,ao,aT,aU,hu,hl⟩;refine Rm z ?_
 iterate 3 refine Re z z z ?_
 refine E z (fa E_) ?_;rintro _ aV ⟨rfl,ap⟩;have hn:=ap.below;refine E0 (fs0 (cur':=[vI am.number,sl J L ca,sl ab nc cd]) b_ z z (ap.blk:Blk aV H.z [vI 0,sl none 0 0,sl none 0 0]) z z z z) ?_;rintro _ wm ⟨aq,aW⟩;have ho:=aW.one;refine Ra z<|Rw z<|Wq<|Wm z<|Rq z z z<|Wn ?_
 obtain ⟨aX,aa,az⟩:=bdS ay;refine Wt (fun a w=>∃(xe:Int),xe=aX/\Sat 56 [(8,pt wq.z),(14,pt H.z),(15,vI aN),(16,vI aO)] a/\Chg (· ∈ [H.z]) wm w/\inI xe/\Blk w H.z [vI xe,sl J L ca,sl ab nc cd]) ?_ ?_
 ·refine Wc z (fun hcv=>?_)<|fun hcv=>?_
  ·refine Wg<|Rm z<|Rf z a_F z<|E0 (fs0 (cur':=[vI aj,sl J L ca,sl ab nc cd]) z_3 z z aq z z z z) ?_
   rintro _ aY ⟨aZ,b0⟩;refine Wl ?_;exact fun _ q=>⟨aj,som<|ifT aa hcv,q.k<|s4 z z z z,(cM (cr [H.z] wm) b0.one (io sr):Chg (· ∈ [H.z]) wm aY),ht,aZ⟩
  exact a_I<|fun _ q=>⟨am.number,som<|ifF aa hcv,q.k<|s4 z z z z,cr [H.z] wm,aS,aq⟩
 rintro b3 _ ⟨xe,rfl,_,sp,b4,b5⟩;revert b3;refine Wo<|Ws<|R z (lN (vs:=[vI xe,sl J L ca,sl ab nc cd]) i_ b_ z z fid<|b5.row 0 3 z)<|RM z z ?_
 have hw:=lt_ (lt_ G.s s1.s) s2.s;have ar:=mm1 h6.lt<|lt_ hw sk.s
 refine E0 (fs0 (cur':=[vI xe,sl J L ca,sl ab nc cd]) b_ z z (((((((h6.e G).e s1).e s2).e sk).e hn).c ho<|djs ar).c sp<|djs ar) z z z z) ?_;rintro _ _ ⟨b6,b7⟩;have hx:=b7.one;refine Ra z<|Rw z ?_
 obtain rfl:=som az;have au:=mnr<|a_.lt an
 have av:=mnr<|a_.lt ao
 have aw:=m1<|lt_ hj sk.s
 exact Wr<|B_ hr (u_ i_ b_ z b6 z) z z ⟨bM (bM (bM (bup (bup (bup (bup (bup (bup (bup hf h5) h3) G) s1) s2) sk) hn) ho aw) sp aw) hx<|m1 hi,J,L,ca,aQ,ab,nc,cd,aR,z,b4,(((an.e hn).c ho<|ds au).c sp<|ds au).c hx<|h_ (al_ hl) h6.lt hw,(((ao.e hn).c ho<|ds av).c sp<|ds av).c hx<|h_ (ar_ hl) h6.lt hw,aT,aU,na_ (nl_ hu) (nr_ hu)<|nj hu,aa_ (j_ (al_ hl) hj)<|j_ (ar_ hl) hj⟩
theorem T_w1h (ih:f_z n):k_C (h_5 n<|a_h n):=by
 obtain ⟨_,a7,_,_,_⟩:=ih
 constructor
 intro A0 A3 A2 A1 A4 A9 N0 C0 N3 C3 N2 C2 N1 C1 N4 C4 N9 C9 B x1 x2 x3 x4 res w0 hm a8 V W Y a0 a1 a2 a3 a4 L O;unfold h_5 at hm
 refine goG func92 z z z fun fn hr=>Ws<|E z (fb z) ?_
 rintro _ wc ⟨rfl,hd⟩;have h2:=hd.below;refine E z (fb z) ?_;rintro _ we ⟨rfl,hf⟩;have G:=hf.below;refine E z (fa E_) ?_;rintro _ ws ⟨rfl,hg⟩;have h3:=hg.below;have h5:Blk ws we.z [vI 0,sl none 0 0,sl none 0 0]:=hg.blk;refine Ra z<|Rw z<|Wq<|Wb<|Wm z<|Rm z ?_
 have hh:=((h2.ag B).e G).e h3;have hi:=L.g hh;refine R z (lnR n_ z hi)<|R z (a_z z z)<|Rw z<|Wc z (fun H=>?_) (fun H=>?_)
 ·refine Ws<|R z (bP (parts:=[]) (cs:=[vI 0,sl none 0 0,sl none 0 0]) P_ z z)<|Rm z<|E0 (fs0 (cur':=[vI 0,sl none 0 0,sl none 0 0]) b_ z z h5 z z z z) ?_
  rintro _ _ ⟨hw,sx⟩;refine Ra z<|Rw z ?_
  obtain rfl:=som<|ifT hm H;exact Wr<|rtO<|B_ hr (u_ i_ b_ z hw z) z z ⟨bM (bup (bup h2 G) h3) sx.one<|m1<|lt_ h2.s G.s,none,0,0,[],none,0,0,[],z,ii z,onL,onL,O,ii z,nd0,al0⟩
 refine Wm z<|Rm z ?_
 obtain ⟨_,ey,hmj⟩:=bdS<|ifF hm H;refine RX z (at_ (α:=UInt8) n_ z_5 z z z hi ey) ?_;rintro _ ⟨_,_,_,rfl,hz,a9,_⟩;obtain rfl:=u8 a9;refine R z (l0 g_5 z<|hz.at0 z)<|R z (a_C z z)<|Rw z<|Wc z (fun I=>?_) (fun I=>?_)
 ·refine Ws<|R z (bP (parts:=[]) (cs:=[vI 0,sl none 0 0,sl none 0 0]) P_ z z)<|Rm z<|E0 (fs0 (cur':=[vI 0,sl none 0 0,sl none 0 0]) b_ z z h5 z z z z) ?_
  rintro _ _ ⟨aa,ab⟩;refine Ra z<|Rw z ?_
  obtain rfl:=som<|ifT hmj I;exact Wr<|rtO<|B_ hr (u_ i_ b_ z aa z) z z ⟨bM (bup (bup h2 G) h3) ab.one<|m1<|lt_ h2.s G.s,none,0,0,[],none,0,0,[],z,ii z,onL,onL,O,ii z,nd0,al0⟩
 refine Wk<|Wq (Wd (X:=noX) 16384 (pl_ 17 [10,14]) mo (by kernel_rfl) fun aw s1 _=>dR z z (lN (vs:=[sl A0 N0 C0]) w_ v_ z z fid<|((((hd.blk:Blk wc w0.z [sl A0 N0 C0]).e G).e h3).e s1).row 0 1 z)<|dR z z (lN (vs:=vR x2 A3 N3 C3 A2 N2 C2 A1 N1 C1 A4 N4 C4) D_ t_ z z fid<|(((hf.blk:Blk we wc.z (vR x2 A3 N3 C3 A2 N2 C2 A1 N1 C1 A4 N4 C4)).e h3).e s1).row 0 8 z)<|dM z z z<|dM z z z ?_)
 obtain ⟨_,ad,a5⟩:=bdS<|ifF hmj I;have h4:=hh.e s1;have hk:=L.g h4;refine dRX z z (at_ (α:=UInt8) n_ z_5 z z z hk ad) ?_;rintro _ ⟨_,_,_,rfl,ae,af,_⟩;obtain rfl:=u8 af;refine dR z z (l0 g_5 z<|ae.at0 z)<|dR z z (b_E d_5 d_3 z)<|dM z z z<|dM z z z<|dR z z (add_ z z) ?_
 have hl:=lt_ h2.s G.s;have J:=lt_ (lt_ hl h3.s) s1.s;obtain ⟨ah,_,_,ai,a6⟩:=O_ a5;refine dE z z (fc call90 z<|a7.run ai (zt' a8 J) (V.g h4) W Y a0 (a1.g h4) (a2.g h4) (a3.g h4) (a4.g h4) (ii z) (j_B _) hk<|iA _ _) (.inr fun _ _ h=>o_<|h.1) ?_;rintro _ _ ⟨sm,an,no,cp,aj,aq,nr,ct,ak,rfl,al,am,ao,ap,ar,ha,h6⟩
 iterate 3 refine dR z z (ext_ z z) ?_
 refine dE0 z (fs0 (cur':=[vI ah.number,sl an no cp,sl aq nr ct]) b_ z z ((h5.e s1).e sm) z z z z) (.inl z) ?_;rintro _ _ ⟨au,av⟩;have hb:=av.one;refine dQ z z z<|dQ z z z<|pD<|Wo ?_
 obtain rfl:=som a6;exact Wr<|B_ hr (u_ i_ b_ z au z) z z ⟨bM (bup (bup (bup (bup h2 G) h3) s1) sm) hb<|m1 hl,an,no,cp,aj,aq,nr,ct,ak,z,al,am.c hb<|h_ (al_ h6) h5.lt s1.s,ao.c hb<|h_ (ar_ h6) h5.lt s1.s,ap,ar,na_ (nl_ ha) (nr_ ha)<|nj ha,aa_ (j_ (al_ h6) J)<|j_ (ar_ h6) J⟩
theorem T_w1i (ih:f_z n):k_D (h_6 n<|a_h n):=by
 obtain ⟨_,am,_,_,_⟩:=ih
 constructor
 intro A0 A3 A2 A1 A4 A9 N0 C0 N3 C3 N2 C2 N1 C1 N4 C4 N9 C9 B x1 x2 x3 x4 res w0 hm O a7 a8 a9 ab ae af ah ai L aj;unfold h_6 at hm
 refine goG func93 z z z fun fn hr=>Ws<|E z (fb z) ?_
 rintro _ wu ⟨rfl,hv⟩;have hh:=hv.below;refine E z (fb z) ?_;rintro _ ww ⟨rfl,hx⟩;have H:=hx.below;refine E z (fa E_) ?_;rintro _ an ⟨rfl,hy⟩;have h5:=hy.below;have h3:Blk an ww.z [vI 0,sl none 0 0,sl none 0 0]:=hy.blk;refine Ra z<|Rw z<|Ws<|R z (lN (vs:=[sl A0 N0 C0]) w_ v_ z z fid<|(((hv.blk:Blk wu w0.z [sl A0 N0 C0]).e H).e h5).row 0 1 z)<|R z (lN (vs:=vR x2 A3 N3 C3 A2 N2 C2 A1 N1 C1 A4 N4 C4) D_ t_ z z fid<|((hx.blk:Blk ww wu.z (vR x2 A3 N3 C3 A2 N2 C2 A1 N1 C1 A4 N4 C4)).e h5).row 0 8 z)<|RM z z ?_
 have I:=((hh.ag B).e H).e h5;have hj:=lt_ hh.s H.s;have J:=lt_ hj h5.s;obtain ⟨rk,_,_,ao,hmz⟩:=O_ hm;refine E z (fc call90 z<|am.run ao (zt' O J) (a7.g I) a8 a9 ab (ae.g I) (af.g I) (ah.g I) (ai.g I) (ii z) (ii z) (L.g I) aj) ?_;rintro _ Y ⟨G,aa,nb,cc,a0,ad,ne,cf,a1,rfl,a2,hn,ho,hp,ap,hi,h6⟩;refine Rm z ?_
 iterate 3 refine Re z z z ?_
 refine E z (fa E_) ?_;rintro _ aq ⟨rfl,a3⟩;have h1:=a3.below;refine E0 (fs0 (cur':=[vI rk.number,sl aa nb cc,sl ad ne cf]) b_ z z (a3.blk:Blk aq Y.z [vI 0,sl none 0 0,sl none 0 0]) z z z z) ?_;rintro _ _ ⟨a4,ar⟩;have h2:=ar.one;refine Ra z<|Rw z<|Wq<|Wb<|Wm z<|R z (nq z z)<|Rw z<|Wc z (fun hcm=>?_) (fun hcm=>?_)
 ·refine Ws<|R z (lN (vs:=[vI rk.number,sl aa nb cc,sl ad ne cf]) i_ b_ z z fid<|a4.row 0 3 z)<|RM z z<|E0 (fs0 (cur':=[vI rk.number,sl aa nb cc,sl ad ne cf]) b_ z z (((h3.e G).e h1).c h2<|djs<|mm1 h3.lt G.s) z z z z) ?_
  rintro _ _ ⟨au,av⟩;have hq:=av.one;refine Ra z<|Rw z ?_
  obtain rfl:=som<|ifT hmz hcm;exact Wr<|rtO<|B_ hr (u_ i_ b_ z au z) z z ⟨bM (bM (bup (bup (bup (bup hh H) h5) G) h1) h2<|m1<|lt_ J G.s) hq<|m1 hj,aa,nb,cc,a0,ad,ne,cf,a1,z,a2,((hn.e h1).c h2<|ds<|mnr<|a_.lt hn).c hq<|h_ (al_ h6) h3.lt lr,((ho.e h1).c h2<|ds<|mnr<|a_.lt ho).c hq<|h_ (ar_ h6) h3.lt lr,hp,ap,na_ (nl_ hi) (nr_ hi)<|nj hi,aa_ (j_ (al_ h6) J)<|j_ (ar_ h6) J⟩
 have V:=ifF hmz hcm;refine Wm z<|Rm z ?_
 have hl:=lt_ J G.s;have a5:=((I.e G).e h1).c h2<|e_ (or0 (d_ lr) (p_<|zt' O hl):∀k∈[Y.z],¬B k)
 refine R z (lnR n_ z<|L.g a5)<|R z (a_z z z)<|Rw z<|Wc z (fun hcr=>?_) (fun hcr=>?_)
 ·refine Ws<|R z (bP (parts:=[]) (cs:=[vI 0,sl none 0 0,sl none 0 0]) P_ z z)<|Rm z<|E0 (fs0 (cur':=[vI 0,sl none 0 0,sl none 0 0]) b_ z z (((h3.e G).e h1).c h2<|djs<|mm1 h3.lt G.s) z z z z) ?_
  rintro _ _ ⟨aw,ax⟩;refine Ra z<|Rw z ?_
  obtain rfl:=som<|ifT V hcr;exact Wr<|rtO<|B_ hr (u_ i_ b_ z aw z) z z ⟨bM (bM (bup (bup (bup (bup hh H) h5) G) h1) h2<|m1 hl) ax.one<|m1 hj,none,0,0,[],none,0,0,[],z,ii z,onL,onL,hp,ii z,nd0,al0⟩
 refine Wq (Wd (X:=noX) 0 (pl_ 12 [9]) mo (by kernel_rfl) fun aI s4 _=>dM z z z<|dM z z z ?_);obtain ⟨_,ay,ak⟩:=bdS<|ifF V hcr;have a6:=L.g<|a5.e s4
 refine dRX z z (at_ (α:=UInt8) n_ z_5 z z z a6 ay) ?_;rintro _ ⟨_,_,_,rfl,az,aA,_⟩;obtain rfl:=u8 aA;refine dR z z (l0 g_5 z<|az.at0 z)<|dR z z (b_E d_5 d_3 z) ?_
 iterate 3 refine dM z z z ?_
 obtain ⟨_,aB,al⟩:=bdS ak;refine dRX z z (rX n_ z_5 z z a6 z z aB) ?_;rintro _ ⟨_,_,_,rfl,aC⟩;obtain ⟨_,aD,W⟩:=bdS al;refine dE z z (fc call125 z<|W_w1e aD (zt' O<|lt_ (lt_ (lt_ hl h1.s) h2.s) s4.s) aC) (.inr fun _ _ h=>o_<|h.1) ?_;rintro _ _ ⟨sg,rfl,_⟩;refine dR z z (nq z z)<|dQ z z z<|pD<|Wo<|Wc z (fun hcs=>?_) (fun hcs=>?_)
 ·refine Ws<|R z (bP (parts:=[]) (cs:=[vI 0,sl none 0 0,sl none 0 0]) P_ z z)<|Rm z<|E0 (fs0 (cur':=[vI 0,sl none 0 0,sl none 0 0]) b_ z z (((((h3.e G).e h1).c h2<|djs<|mm1 h3.lt G.s).e s4).e sg) z z z z) ?_
  rintro _ _ ⟨aE,aF⟩;refine Ra z<|Rw z ?_
  obtain rfl:=som<|ifT W hcs;exact Wr<|rtO<|B_ hr (u_ i_ b_ z aE z) z z ⟨bM (bup (bup (bM (bup (bup (bup (bup hh H) h5) G) h1) h2<|m1 hl) s4) sg) aF.one<|m1 hj,none,0,0,[],none,0,0,[],z,ii z,onL,onL,hp,ii z,nd0,al0⟩
 refine Wk<|Ws<|R z (lN (vs:=[vI rk.number,sl aa nb cc,sl ad ne cf]) i_ b_ z z fid<|((a4.e s4).e sg).row 0 3 z)<|Rm z<|R z (add_ z z)<|E0 (fs0 (cur':=[vI rk.number,sl aa nb cc,sl ad ne cf]) b_ z z (((((h3.e G).e h1).c h2<|djs<|mm1 h3.lt G.s).e s4).e sg) z z z z) ?_
 rintro _ _ ⟨aG,aH⟩;have ht:=aH.one;refine Ra z<|Rw z ?_
 obtain rfl:=som<|ifF W hcs;exact Wr<|B_ hr (u_ i_ b_ z aG z) z z ⟨bM (bup (bup (bM (bup (bup (bup (bup hh H) h5) G) h1) h2<|m1 hl) s4) sg) ht<|m1 hj,aa,nb,cc,a0,ad,ne,cf,a1,z,a2,((((hn.e h1).c h2<|ds<|mnr<|a_.lt hn).e s4).e sg).c ht<|h_ (al_ h6) h3.lt lr,((((ho.e h1).c h2<|ds<|mnr<|a_.lt ho).e s4).e sg).c ht<|h_ (ar_ h6) h3.lt lr,iA _ _,ii z,na_ (nl_ hi) (nr_ hi)<|nj hi,aa_ (j_ (al_ h6) J)<|j_ (ar_ h6) J⟩
theorem d_i:∀n,f_z n
  | 0=>⟨⟨fun hm=>by intros;exact nomatch (show none=some _ from hm)⟩,⟨fun hm=>by intros;exact nomatch (show none=some _ from hm)⟩,⟨fun hm=>by intros;exact nomatch (show none=some _ from hm)⟩,⟨fun hm=>by intros;exact nomatch (show none=some _ from hm)⟩,⟨fun hm=>by intros;exact nomatch (show none=some _ from hm)⟩⟩
  | n+1=>⟨T_w02<|d_i n,T_w1f<|d_i n,T_w1g<|d_i n,T_w1h<|d_i n,T_w1i<|d_i n⟩
theorem W_w02:k_z (a_h n).spec_l11Read:=(d_i n).1
theorem W_w1f:k_A (a_h n).spec_l11Items:=(d_i n).2.1
theorem W_w1g:k_B (a_h n).spec_l11Choice:=(d_i n).2.2.1
theorem W_w1h:k_C (a_h n).spec_l11Option:=(d_i n).2.2.2.1
theorem W_w1i:k_D (a_h n).spec_l11Checked:=(d_i n).2.2.2.2
theorem k_E {x1:c_}{x2:Int}{x3:List UInt8}{x4:Int}{res:Val×Int×Int}(hm:h_7 n x1 x2 x3 x4=some res)(L:B<=w0.z)(W:repS w0 B (sl A0 N0 C0) x1.rules)(Y:inI x2)(J:repS w0 B (sl A9 N9 C9) x3)(a0:inI x4):l_ prog 31 [(.agg #[sl A0 N0 C0]),vI x2,sl A9 N9 C9,vI x4] w0 (Q9 w0 B res):=by
 unfold h_7 at hm
 refine goG func31 z z z fun fn hr=>Ws<|E z (fb z) ?_
 rintro _ O ⟨rfl,hg⟩;have h3:=hg.below;have hh:Blk O w0.z [sl A0 N0 C0]:=hg.blk;refine E z (fa E_) ?_;rintro _ V ⟨rfl,hi⟩;have h4:=hi.below;have h6:Blk V O.z [vI 0,sl none 0 0,sl none 0 0]:=hi.blk;refine Ra z<|Rw z<|Wq<|Wq ?_
 obtain ⟨uy,huz,hmj⟩:=bdS hm;refine Wt (fun a w=>∃(xa:Bool),xa=uy/\Sat 36 [(1,vI x2),(2,sl A9 N9 C9),(3,vI x4),(4,pt w0.z),(8,pt O.z),(26,vB xa)] a/\Below V.z V w) ?_ ?_
 ·refine Wg<|R z (lN (vs:=[sl A0 N0 C0]) w_ v_ z z fid<|(hh.e h4).row 0 1 z)<|Rm z ?_
  have hk:=(h3.ag B).e h4;have hl:=lt_ h3.s h4.s;obtain ⟨a2,a3,hmm⟩:=bdS huz;refine E z (fc call33 z<|k_x a3 (zt' L hl) (W.g hk) Y) ?_;rintro _ _ ⟨s5,rfl⟩;refine R z (not_ z)<|Rm z ?_
  rcases bs (!a2) with G | G
  ·iterate 5 refine Nh z G ?_
   exact R z (pT z G z)<|Rm z<|Nh z z<|Nh z z<|Nh z z<|R z (pT z z z)<|Wl (fun _ q=>⟨true,som<|ifT hmm G,q.k<|s6 z z z z z z,s5⟩)
  refine Rh z G (mv z)<|Rh z G (mv z) ?_
  have hn:=hk.e s5;have ho:=J.g hn;refine Rh z G (lnR n_ z ho) ?_;obtain ⟨a4,a5,hmp⟩:=bdS<|ifF hmm G;refine Eg z z G z (fc call50 z<|b_l a5 (zt' L<|lt_ hl s5.s) a0 (ii z)<|b_h<|repS.len ho) ?_;rintro _ _ ⟨sb,rfl⟩;refine Rh z G (not_ z)<|R z (pF z G z)<|Rm z ?_
  rcases bs (!a4) with H | H
  ·iterate 3 refine Nh z H ?_
   exact R z (pT z H z)<|Wl (fun _ q=>⟨true,som<|ifT hmp H,q.k<|s6 z z z z z z,bup s5 sb⟩)
  exact Rh z H (mv z)<|Rh z H (lnR n_ z<|J.g<|hn.e sb)<|Rh z H (a_C z z)<|R z (pF z H z)<|Wl (fun _ q=>⟨decide<|400<(x3.length:Int),som<|ifF hmp H,q.k<|s6 z z z z z z,bup s5 sb⟩)
 rintro a6 _ ⟨xa,rfl,_,s2⟩;revert a6;refine Wo<|Wc z (fun hcc=>?_) (fun hcc=>?_)
 ·refine Ws<|R z (bP (parts:=[]) (cs:=[vI 0,sl none 0 0,sl none 0 0]) P_ z z)<|E0 (fs0 (cur':=[vI 0,sl none 0 0,sl none 0 0]) b_ z z (h6.e s2) z z z z) ?_
  rintro _ _ ⟨a7,a8⟩;refine Ra z<|Rw z ?_
  obtain rfl:=som<|ifT hmj hcc;exact Wr<|B_ hr (u_ i_ b_ z a7 z) z z ⟨bM (bup (bup h3 h4) s2) a8.one<|m1 h3.s,none,0,0,[],none,0,0,[],z,ii z,onL,onL,ii z,ii z,nd0,al0⟩
 refine Wk<|Ws<|R z (lN (vs:=[sl A0 N0 C0]) w_ v_ z z fid<|((hh.e h4).e s2).row 0 1 z)<|RM z z<|Rm z ?_
 have hq:=((h3.ag B).e h4).e s2;have hd:=lt_ (lt_ h3.s h4.s) s2.s;obtain ⟨a9,_,_,aa,a1⟩:=O_<|ifF hmj hcc;refine E z (fc call51 z<|W_w02.run aa (zt' L hd) (W.g hq) Y (J.g hq) a0) ?_;rintro _ _ ⟨sr,au,ns,ct,ab,av,nw,cx,ad,rfl,ae,af,ah,ai,aj,he,I⟩
 iterate 3 refine Re z z z ?_
 refine E0 (fs0 (cur':=[vI a9.number,sl au ns ct,sl av nw cx]) b_ z z ((h6.e s2).e sr) z z z z) ?_;rintro _ _ ⟨ak,al⟩;have hf:=al.one;refine Ra z<|Rw z ?_
 obtain rfl:=som a1;exact Wr<|B_ hr (u_ i_ b_ z ak z) z z ⟨bM (bup (bup (bup h3 h4) s2) sr) hf<|m1 h3.s,au,ns,ct,ab,av,nw,cx,ad,z,ae,af.c hf<|h_ (al_ I) h6.lt s2.s,ah.c hf<|h_ (ar_ I) h6.lt s2.s,ai,aj,na_ (nl_ he) (nr_ he)<|nj he,aa_ (j_ (al_ I) hd)<|j_ (ar_ I) hd⟩
theorem j_f {x1:c_}{x2:List UInt8}{res:Val×Int×Int}(hm:d_U n x1 x2=some res)(W:B<=w0.z)(V:repS w0 B (sl A0 N0 C0) x1.rules)(Y:repS w0 B (sl A6 N6 C6) x2):l_ prog 12 [(.agg #[sl A0 N0 C0]),sl A6 N6 C6] w0 (Q9 w0 B res):=by
 unfold d_U at hm
 refine goG func12 z z z fun fn hr=>Ws<|E z (fb z) ?_
 rintro _ wl ⟨rfl,ao⟩;have h2:=ao.below;have hv:Blk wl w0.z [sl A0 N0 C0]:=ao.blk;refine E z (fa E_) ?_;rintro _ I ⟨rfl,ap⟩;have h1:=ap.below;have hn:Blk I wl.z [vI 0,sl none 0 0,sl none 0 0]:=ap.blk;refine Ra z<|Rw z<|Wq ?_
 obtain ⟨bp,ak,bj⟩:=bdS hm;refine Wt (fun a w=>∃(xb:Int)(xw:List UInt8)(xx:List Val)(xc:Int)(xd:Int),(xb,xw,xx,xc,xd)=bp/\∃ae nf cg J ah ni cj L O,Sat 32 [(1,sl A6 N6 C6),(4,pt wl.z),(7,pt O),(8,vI xc),(9,vI xd)] a/\Below I.z I w/\inI xb/\a_ w J (sl ae nf cg) xw/\J.Nodup/\(∀k∈J,I.z<=k)/\a_ w L (sl ah ni cj) xx/\L.Nodup/\(∀k∈L,I.z<=k)/\(∀k∈L,k∉J)/\inI xc/\inI xd/\Blk w O [vI xb,sl ae nf cg,sl ah ni cj]/\I.z<=O/\(∀k∈J,k∉[O])/\(∀k∈L,k∉[O])) ?_ ?_
 ·refine Wd (X:=fun k=>k∈([]:List Nat)∨I.z<=k) 0 (.rd 0<|.rd 1<|.rd 3<|.br 2 (.br 4 (.rd 5<|.rd 6<|.rd 7<|.rd 8<|.ef 9<|.ef 10<|.rd 11<|.rd 12 .done) 9<|.ef 4<|.rd 5<|.rd 6<|.rd 7<|.rd 8<|.ef 10<|.rd 11<|.rd 12 .done) 9<|.ef 2<|.ef 4<|.rd 5<|.rd 6<|.rd 7<|.rd 8<|.ef 10<|.rd 11<|.rd 12 .done) mo (by kernel_rfl) fun aq G _=>?_
  have ar:=(hv.e h1).e G;refine dR z z (lN (vs:=[sl A0 N0 C0]) w_ v_ z z (b_t nm0<|Nat.lt_of_lt_of_le hv.lt h1.s)<|ar.row 0 1 z)<|dR z z (lN (vs:=[sl A0 N0 C0]) w_ v_ z z (b_t nm0<|Nat.lt_of_lt_of_le hv.lt h1.s)<|ar.row 0 1 z)<|dM z z z<|b_x ?_ ?_
  ·have hy:=((h2.ag B).e h1).e G;have hz:=lt_ (lt_ h2.s h1.s) G.s;obtain ⟨_,bq,al⟩:=bdS ak;refine dE z z (fc call15 z<|e_4 bq (zt' W hz)<|V.g hy) (.inr fun _ _ h=>o_<|h.1) ?_;rintro _ au ⟨s4,rfl,av⟩;refine b_x ?_ ?_
   ·have aw:=hy.e s4;obtain ⟨rm,bt,bu,bv,bk⟩:=O_ al;refine dE z z (fc call31 z<|k_E bv (zt' W<|lt_ hz s4.s) (V.g aw) av (Y.g aw)<|ii z) (.inr fun _ _ h=>o_<|h.1) ?_;rintro _ ax ⟨ay,az,aA,aB,bw,aC,aD,aE,bx,rfl,bz,aF,aG,bA,bB,a1,aH⟩;refine dM z z z ?_
    iterate 3 refine dR z z (ext_ z z) ?_
    refine dE z z (fa E_) (.inr fun _ _ h=>o_<|h.2.below) ?_;rintro _ bC ⟨rfl,aI⟩;have a2:=aI.below;have a3:=lt_ G.s s4.s;have a4:=m1<|lt_ a3 ay.s
    refine dE0 z (fs0 (cur':=[vI rm.number,sl az aA aB,sl aC aD aE]) b_ z z (aI.blk:Blk bC ax.z [vI 0,sl none 0 0,sl none 0 0]) z z z z) (.inr fun _ _ h=>b_1 (atp a4) h.2) ?_;rintro _ _ ⟨bD,bE⟩;have a5:=bE.one;refine dQ z z z<|dQ z z z<|pD ?_
    have aJ:=mnr<|a_.lt aF
    have aK:=mnr<|a_.lt aG
    exact fun _ q=>⟨rm.number,rm.bytes,rm.items,bt,bu,som bk,az,aA,aB,bw,aC,aD,aE,bx,ax.z,q.k<|s5 z z z z z,bM (bup (bup (bup G s4) ay) a2) a5 a4,bz,(aF.e a2).c a5<|ds aJ,nl_ a1,j_ (al_ aH) a3,(aG.e a2).c a5<|ds aK,nr_ a1,j_ (ar_ aH) a3,ds<|nj a1,bA,bB,bD,atp a4,ds aJ,ds aK⟩
   refine dE z z (fa E_) (.inr fun _ _ h=>o_<|h.2.below) ?_;rintro _ bF ⟨rfl,aL⟩;have ho:=aL.below;have a6:Blk bF au.z [vI 0,sl none 0 0,sl none 0 0]:=aL.blk;have aM:=(hy.e s4).e ho;obtain ⟨rp,bG,bH,bI,bm⟩:=O_ al;refine dE z z (fc call31 z<|k_E bI (zt' W<|lt_ (lt_ hz s4.s) ho.s) (V.g aM) av (Y.g aM)<|ii z) (.inr fun _ _ h=>o_<|h.1) ?_;rintro _ _ ⟨aN,aO,aP,aQ,bJ,aR,aS,aT,bK,rfl,bL,bN,bO,bQ,bR,a7,hq⟩;refine dM z z z ?_
   iterate 3 refine dR z z (ext_ z z) ?_
   have aU:=lt_ G.s s4.s;have a8:=m1 aU;refine dE0 z (fs0 (cur':=[vI rp.number,sl aO aP aQ,sl aR aS aT]) b_ z z (a6.e aN) z z z z) (.inr fun _ _ h=>b_1 (atp a8) h.2) ?_;rintro _ _ ⟨bS,bT⟩;have a9:=bT.one;refine dQ z z z<|dQ z z z<|pD ?_
   have aV:=h_ (al_ hq) a6.lt lr;have aW:=lt_ aU ho.s;have aX:=h_ (ar_ hq) a6.lt lr;exact fun _ q=>⟨rp.number,rp.bytes,rp.items,bG,bH,som bm,aO,aP,aQ,bJ,aR,aS,aT,bK,au.z,q.k<|s5 z z z z z,bM (bup (bup (bup G s4) ho) aN) a9 a8,bL,bN.c a9 aV,nl_ a7,j_ (al_ hq) aW,bO.c a9 aX,nr_ a7,j_ (ar_ hq) aW,ds<|nj a7,bQ,bR,bS,atp a8,aV,aX⟩
  refine dE z z (fa E_) (.inr fun _ _ h=>o_<|h.2.below) ?_;rintro _ bU ⟨rfl,aY⟩;have ht:=aY.below;have aa:Blk bU aq.z [vI 0,sl none 0 0,sl none 0 0]:=aY.blk;have aZ:=(((h2.ag B).e h1).e G).e ht;have b0:=lt_ (lt_ (lt_ h2.s h1.s) G.s) ht.s;obtain ⟨_,bV,bn⟩:=bdS ak;refine dE z z (fc call15 z<|e_4 bV (zt' W b0)<|V.g aZ) (.inr fun _ _ h=>o_<|h.1) ?_;rintro _ _ ⟨s9,rfl,bW⟩;have b3:=aZ.e s9;obtain ⟨rr,bX,bY,bZ,bo⟩:=O_ bn;refine dE z z (fc call31 z<|k_E bZ (zt' W<|lt_ b0 s9.s) (V.g b3) bW (Y.g b3)<|ii z) (.inr fun _ _ h=>o_<|h.1) ?_;rintro _ _ ⟨b4,b5,b6,b7,c0,b8,b9,ba,c1,rfl,c2,c3,c4,c5,c6,ab,hu⟩;refine dM z z z ?_
  iterate 3 refine dR z z (ext_ z z) ?_
  have ad:=m1 G.s;refine dE0 z (fs0 (cur':=[vI rr.number,sl b5 b6 b7,sl b8 b9 ba]) b_ z z ((aa.e s9).e b4) z z z z) (.inr fun _ _ h=>b_1 (atp ad) h.2) ?_;rintro _ _ ⟨c7,c8⟩;have af:=c8.one;refine dQ z z z<|dQ z z z<|pD ?_
  have bb:=h_ (al_ hu) aa.lt s9.s;have bc:=lt_ (lt_ G.s ht.s) s9.s;have be:=h_ (ar_ hu) aa.lt s9.s;exact fun _ q=>⟨rr.number,rr.bytes,rr.items,bX,bY,som bo,b5,b6,b7,c0,b8,b9,ba,c1,aq.z,q.k<|s5 z z z z z,bM (bup (bup (bup G ht) s9) b4) af ad,c2,c3.c af bb,nl_ ab,j_ (al_ hu) bc,c4.c af be,nr_ ab,j_ (ar_ hu) bc,ds<|nj ab,c5,c6,c7,atp ad,bb,be⟩
 rintro c9 ws ⟨xb,xw,xx,xc,xd,rfl,ae,nf,cg,J,ah,ni,cj,L,O,_,sk,ca,cb,cc,bf,cd,ce,bg,cf,bh,ch,ci,_,_,_⟩;revert c9;refine Wo<|Wq<|Wq ?_
 obtain ⟨ck,am,an⟩:=bdS<|un5S bj;refine Wt (fun a w=>∃(ai:Bool),ai=ck/\Sat 32 [(4,pt wl.z),(7,pt O),(8,vI xc),(9,vI xd),(26,vB ai)] a/\Below ws.z ws w) ?_ ?_
 ·refine Wg<|Rm z<|Rq z z z<|Rm z ?_
  rcases bs (xd==0) with H | H
  ·exact Rh z H (mv z)<|Rh z H (mv z)<|Rh z H (lnR n_ z<|Y.g<|((h2.ag B).e h1).e sk)<|Rh z H (lss z z)<|R z (pT z H z)<|Wl (fun _ q=>⟨decide<|xc<(x2.length:Int),som<|ifT am H,q.k<|s5 z z z z z,br ws⟩)
  iterate 4 refine Nh z H ?_
  exact R z (pF z H z)<|Wl (fun _ q=>⟨false,som<|ifF am H,q.k<|s5 z z z z z,br ws⟩)
 rintro cl _ ⟨ai,rfl,_,sa⟩;revert cl;refine Wo<|Wc z (fun a0=>?_) (fun a0=>?_)
 ·refine Ws<|R z (bP (parts:=[]) (cs:=[vI 0,sl none 0 0,sl none 0 0]) P_ z z)<|Rm z<|E0 (fs0 (cur':=[vI 0,sl none 0 0,sl none 0 0]) b_ z z ((hn.e sk).e sa) z z z z) ?_
  rintro _ _ ⟨cm,cn⟩;refine Ra z<|Rw z ?_
  obtain rfl:=som<|ifT an a0;exact Wr<|B_ hr (u_ i_ b_ z cm z) z z ⟨bM (bup (bup (bup h2 h1) sk) sa) cn.one<|m1 h2.s,none,0,0,[],none,0,0,[],z,ii z,onL,onL,bh,ii z,nd0,al0⟩
 refine Wk<|Ws<|R z (lN (vs:=[vI xb,sl ae nf cg,sl ah ni cj]) i_ b_ z z fid<|(ci.e sa).row 0 3 z)<|RM z z<|E0 (fs0 (cur':=[vI xb,sl ae nf cg,sl ah ni cj]) b_ z z ((hn.e sk).e sa) z z z z) ?_
 rintro _ _ ⟨co,cp⟩;have aj:=cp.one;refine Ra z<|Rw z ?_
 obtain rfl:=som<|ifF an a0;have bi:=lt_ h2.s h1.s;exact Wr<|B_ hr (u_ i_ b_ z co z) z z ⟨bM (bup (bup (bup h2 h1) sk) sa) aj<|m1 h2.s,ae,nf,cg,J,ah,ni,cj,L,z,ca,(cb.e sa).c aj<|h_ bf hn.lt lr,(cd.e sa).c aj<|h_ bg hn.lt lr,bh,ch,na_ cc ce<|ds cf,aa_ (j_ bf bi)<|j_ bg bi⟩
theorem W_w1j {x1:Int}{x2:Int}{res:Int}(hm:f_u x1 x2=some res)(J:B<=w0.z)(H:inI x1)(I:inI x2):l_ prog 130 [vI x1,vI x2] w0 (Q0 w0 B res):=by
 unfold f_u at hm
 refine goG func130 z z z fun fn hr=>Ws<|Rw z<|Wq<|Wm z<|Rm z<|Rl z z z<|Wx z (fun G=>?_) (fun G=>?_)
 ·refine Wm z<|Rw z ?_
  obtain rfl:=som<|ifT hm G;exact Wr<|f_ hr z ⟨br w0,z,I⟩
 refine Wk<|Wm z<|Rw z ?_
 obtain rfl:=som<|ifF hm G;exact Wr<|f_ hr z ⟨br w0,z,H⟩
theorem W_w2z {x1:c_}{x2:g_}{x3:Val}{res:Bool}(hm:e_r x1 x2 x3=some res)(a0:B<=w0.z)(aq:repS w0 B (sl A0 N0 C0) x1.rules)(bi:x2.name.b.length<=LEN)(bj:inI x2.kind)(ar:inI x2.size)(bk:repS w0 B (sl A3 N3 C3) x2.bytes)(bm:repS w0 B (sl A2 N2 C2) x2.names)(bn:repS w0 B (sl A1 N1 C1) x2.tags)(a1:repS w0 B (sl A4 N4 C4) x2.kids)(au:inI x3.number)(W:repS w0 B (sl A5 N5 C5) x3.bytes)(Y:repS w0 B (sl A7 N7 C7) x3.items):l_ prog 100 [(.agg #[sl A0 N0 C0]),.agg #[Str.v x2.name,vI x2.kind,vI x2.size,vB x2.little,sl A3 N3 C3,sl A2 N2 C2,sl A1 N1 C1,sl A4 N4 C4],(.agg #[vI x3.number,sl A5 N5 C5,sl A7 N7 C7])] w0 (Q7 w0 B res):=by
 unfold e_r at hm
 refine goG func100 z z z fun fn hr=>Ws<|E z (fb z) ?_
 rintro _ aX ⟨rfl,aY⟩;have h3:=aY.below;have aZ:Blk aX w0.z [sl A0 N0 C0]:=aY.blk;refine E z (fb z) ?_;rintro _ b0 ⟨rfl,b3⟩;have h2:=b3.below;refine E z (fb z) ?_;rintro _ G ⟨rfl,b4⟩;have H:=b4.below;have h4:Blk G b0.z [vI x3.number,sl A5 N5 C5,sl A7 N7 C7]:=b4.blk;refine Rw z<|Wq<|Ws<|Rf z a_M z ?_
 have ht:=(b3.blk:Blk b0 aX.z (vR x2 A3 N3 C3 A2 N2 C2 A1 N1 C1 A4 N4 C4)).e H;refine R z (l0 g_3 z<|ht.at z)<|Wn<|Wb<|Ws<|Rq z z z<|Rw z<|Wc z (fun a2=>?_) (fun a2=>?_)
 ·refine Wq ?_;obtain ⟨bJ,bo,bp⟩:=bdS<|ifT hm a2;refine Wt (fun a w=>∃(ab:Bool),ab=bJ/\Sat 202 [(6,vB ab)] a/\Below G.z G w) ?_ ?_
  ·refine Wd (X:=noX) 0 (pl_ 20 [4,6]) mo (by kernel_rfl) fun cB sr _=>dR z z (fd a_F z) ?_
   have b5:=h4.e sr;refine dR z z (l0 g_3 z<|b5.at z)<|dR z z (fd a_G z)<|dR z z (l0 g_3 z<|(ht.e sr).at z) ?_
   have b6:=lt_ (lt_ (lt_ h3.s h2.s) H.s) sr.s;obtain ⟨_,bK,bq⟩:=bdS bo;refine dE z z (fc call129 z<|k_w bK (zt' a0 b6) ar) (.inr fun _ _ h=>o_<|h.1) ?_;rintro _ _ ⟨ss,rfl,_⟩;refine dR z z (sb_ z z) ?_;obtain ⟨bL,bM,av⟩:=bdS bq;refine dE z z (fc call50 z<|b_l bM (zt' a0<|lt_ b6 ss.s) au (ii z)<|iS _ _) (.inr fun _ _ h=>o_<|h.1) ?_;rintro _ _ ⟨sv,rfl⟩;refine dM z z z ?_
   rcases bs bL with hca | hca
   ·have aw:=ifT av hca;refine dRg z z z hca z (fd a_B z) ?_;have b7:=(b5.e ss).e sv;refine dRg z z z hca z (l0 J_ z<|b7.at z) ?_;have b8:=(((((h3.ag B).e h2).e H).e sr).e ss).e sv;refine dRg z z z hca z (lnR n_ z<|W.g b8)<|dRg z z z hca z (eql z z)<|dR z z (pT z hca z)<|dM z z z ?_
    rcases bs ((x3.bytes.length:Int)==0) with hcb | hcb
    ·exact dRg z z z hcb z (fd Q_ z)<|dRg z z z hcb z (l0 X_ z<|b7.at z)<|dRg z z z hcb z (lnR Y_ z<|Y.g b8)<|dRg z z z hcb z (eql z z)<|dR z z (pT z hcb z)<|dQ z z z<|pD (fun _ q=>⟨(x3.items.length:Int)==0,som<|ifT aw hcb,q.k<|s1 z,bup (bup sr ss) sv⟩)
    iterate 4 refine dRn z z z hcb z ?_
    exact dR z z (pF z hcb z)<|dQ z z z<|pD (fun _ q=>⟨false,som<|ifF aw hcb,q.k<|s1 z,bup (bup sr ss) sv⟩)
   iterate 4 refine dRn z z z hca z ?_
   refine dR z z (pF z hca z)<|dM z z z ?_
   iterate 4 refine dRn z z z z z ?_
   exact dR z z (pF z z z)<|dQ z z z<|pD (fun _ q=>⟨false,som<|ifF av hca,q.k<|s1 z,bup (bup sr ss) sv⟩)
  rintro bN _ ⟨ab,rfl,_,bO⟩;revert bN;refine Wo ?_;obtain rfl:=som bp;exact Wr<|rtO<|f_ hr z ⟨bup (bup (bup h3 h2) H) bO,z⟩
 have ax:=ifF hm a2;refine Ws<|Rq z z z<|Rw z<|Wc z (fun a3=>?_) (fun a3=>?_)
 ·refine Wq ?_;obtain ⟨bP,ay,bt⟩:=bdS<|ifT ax a3;refine Wt (fun a w=>∃(ad:Bool),ad=bP/\Sat 202 [(6,vB ad)] a/\Below G.z G w) ?_ ?_
  ·refine Wg<|Rf z a_F z<|R z (l0 g_3 z<|h4.at z)<|Rq z z z<|Rm z ?_
   rcases bs (x3.number==0) with hcc | hcc
   ·have az:=ifT ay hcc;refine Rh z hcc (fd a_B z)<|Rh z hcc (l0 J_ z<|h4.at z) ?_
    have b9:=((h3.ag B).e h2).e H;refine Rh z hcc (lnR n_ z<|W.g b9)<|Rh z hcc (eql z z)<|R z (pT z hcc z)<|Rm z ?_
    rcases bs ((x3.bytes.length:Int)==0) with hcd | hcd
    ·exact Rh z hcd (fd Q_ z)<|Rh z hcd (l0 X_ z<|h4.at z)<|Rh z hcd (lnR Y_ z<|Y.g b9)<|Rh z hcd (eql z z)<|R z (pT z hcd z)<|Ra z<|Wl (fun _ q=>⟨(x3.items.length:Int)==0,som<|ifT az hcd,q.k<|s1 z,br G⟩)
    iterate 4 refine Nh z hcd ?_
    exact R z (pF z hcd z)<|Ra z<|Wl (fun _ q=>⟨false,som<|ifF az hcd,q.k<|s1 z,br G⟩)
   iterate 4 refine Nh z hcc ?_
   exact R z (pF z hcc z)<|Rm z<|Nh z z<|Nh z z<|Nh z z<|Nh z z<|R z (pF z z z)<|Ra z<|Wl (fun _ q=>⟨false,som<|ifF ay hcc,q.k<|s1 z,br G⟩)
  rintro bQ _ ⟨ad,rfl,_,bR⟩;revert bQ;refine Wo ?_;obtain rfl:=som bt;exact Wr<|rtO<|f_ hr z ⟨bup (bup (bup h3 h2) H) bR,z⟩
 have aA:=ifF ax a3;refine Ws<|Rq z z z<|Rw z<|Wc z (fun a4=>?_) (fun a4=>?_)
 ·refine Wq ?_;obtain ⟨bS,aB,bu⟩:=bdS<|ifT aA a4;refine Wt (fun a w=>∃(ae:Bool),ae=bS/\Sat 202 [(6,vB ae)] a/\Below G.z G w) ?_ ?_
  ·refine Wg<|Rf z a_F z<|R z (l0 g_3 z<|h4.at z)<|Rq z z z<|Rm z ?_
   rcases bs (x3.number==0) with O | O
   ·have aC:=ifT aB O;refine Rh z O (fd a_B z)<|Rh z O (l0 J_ z<|h4.at z) ?_
    have ba:=((h3.ag B).e h2).e H;refine Rh z O (lnR n_ z<|W.g ba)<|Rh z O (fd a_G z)<|Rh z O (l0 g_3 z<|ht.at z)<|Rh z O (eql z z)<|R z (pT z O z)<|Rm z ?_
    rcases bs ((x3.bytes.length:Int)==x2.size) with hce | hce
    ·exact Rh z hce (fd Q_ z)<|Rh z hce (l0 X_ z<|h4.at z)<|Rh z hce (lnR Y_ z<|Y.g ba)<|Rh z hce (eql z z)<|R z (pT z hce z)<|Ra z<|Wl (fun _ q=>⟨(x3.items.length:Int)==0,som<|ifT aC hce,q.k<|s1 z,br G⟩)
    iterate 4 refine Nh z hce ?_
    exact R z (pF z hce z)<|Ra z<|Wl (fun _ q=>⟨false,som<|ifF aC hce,q.k<|s1 z,br G⟩)
   iterate 6 refine Nh z O ?_
   exact R z (pF z O z)<|Rm z<|Nh z z<|Nh z z<|Nh z z<|Nh z z<|R z (pF z z z)<|Ra z<|Wl (fun _ q=>⟨false,som<|ifF aB O,q.k<|s1 z,br G⟩)
  rintro bT _ ⟨ae,rfl,_,bU⟩;revert bT;refine Wo ?_;obtain rfl:=som bu;exact Wr<|rtO<|f_ hr z ⟨bup (bup (bup h3 h2) H) bU,z⟩
 have aD:=ifF aA a4;refine Ws<|Rq z z z<|Rw z<|Wc z (fun a5=>?_) (fun a5=>?_)
 ·refine Wq ?_;obtain ⟨bV,aE,bv⟩:=bdS<|ifT aD a5;refine Wt (fun a w=>∃(af:Bool),af=bV/\Sat 202 [(6,vB af)] a/\Below G.z G w) ?_ ?_
  ·refine Wd (X:=noX) 0 (pl_ 23 [12,13]) mo (by kernel_rfl) fun cC sp _=>dR z z (fd a_F z) ?_
   have ah:=h4.e sp;refine dR z z (l0 g_3 z<|ah.at z)<|dR z z (eql z z)<|dM z z z ?_
   rcases bs (x3.number==0) with I | I
   ·refine dRg z z z I z (fd a_B z)<|dRg z z z I z (l0 J_ z<|ah.at z) ?_
    have hx:=(((h3.ag B).e h2).e H).e sp;refine dRg z z z I z (lnR n_ z<|W.g hx)<|dRg z z z I z (lN (vs:=[sl A0 N0 C0]) w_ v_ z z fid<|(((aZ.e h2).e H).e sp).row 0 1 z)<|dRg z z z I z (fd R_ z)<|dRg z z z I z (l0 A_ z<|(ht.e sp).at z) ?_
    obtain ⟨_,bW,bw⟩:=bdS<|ifT aE I;refine c_n z z z I z (at_ (α:=Int) y_ z_3 z z z (a1.g hx) bW) ?_;rintro _ ⟨_,_,_,rfl,bX,bY,_⟩;obtain ⟨rfl,bZ⟩:=T_ bY;refine dRg z z z I z (l0 g_3 z<|bX.at0 z) ?_;have bb:=lt_ (lt_ (lt_ h3.s h2.s) H.s) sp.s;obtain ⟨_,c0,bx⟩:=bdS bw;refine dEg z z z I z (fc call131 z<|h_y c0 (zt' a0 bb) (aq.g hx) bZ) (.inr fun _ _ h=>o_<|h.1) ?_;rintro _ _ ⟨sw,rfl,c1⟩;obtain ⟨c2,c3,aF⟩:=bdS bx;refine dEg z z z I z (fc call130 z<|W_w1j c3 (zt' a0<|lt_ bb sw.s) (ii z) c1) (.inr fun _ _ h=>o_<|h.1) ?_;rintro _ _ ⟨sy,rfl,_⟩;refine dRg z z z I z (b_o z z)<|dR z z (pT z I z)<|dM z z z ?_
    rcases bs (decide<|(x3.bytes.length:Int)<=c2) with hcf | hcf
    ·exact dRg z z z hcf z (fd Q_ z)<|dRg z z z hcf z (l0 X_ z<|((ah.e sw).e sy).at z)<|dRg z z z hcf z (lnR Y_ z<|Y.g<|(hx.e sw).e sy)<|dRg z z z hcf z (eql z z)<|dR z z (pT z hcf z)<|dQ z z z<|pD (fun _ q=>⟨(x3.items.length:Int)==0,som<|ifT aF hcf,q.k<|s1 z,bup (bup sp sw) sy⟩)
    iterate 4 refine dRn z z z hcf z ?_
    exact dR z z (pF z hcf z)<|dQ z z z<|pD (fun _ q=>⟨false,som<|ifF aF hcf,q.k<|s1 z,bup (bup sp sw) sy⟩)
   iterate 8 refine dRn z z z I z ?_
   refine dEn z z z I z<|dEn z z z I z<|dRn z z z I z<|dR z z (pF z I z)<|dM z z z ?_
   iterate 4 refine dRn z z z z z ?_
   exact dR z z (pF z z z)<|dQ z z z<|pD (fun _ q=>⟨false,som<|ifF aE I,q.k<|s1 z,sp⟩)
  rintro c4 _ ⟨af,rfl,_,c5⟩;revert c4;refine Wo ?_;obtain rfl:=som bv;exact Wr<|rtO<|f_ hr z ⟨bup (bup (bup h3 h2) H) c5,z⟩
 have aG:=ifF aD a5;refine Ws<|Rq z z z<|Rw z<|Wc z (fun a6=>?_) (fun a6=>?_)
 ·refine Wq ?_;obtain ⟨c6,aH,bz⟩:=bdS<|ifT aG a6;refine Wt (fun a w=>∃(ai:Bool),ai=c6/\Sat 202 [(6,vB ai)] a/\Below G.z G w) ?_ ?_
  ·refine Wg<|Rf z a_F z<|R z (l0 g_3 z<|h4.at z)<|Rq z z z<|Rm z ?_
   rcases bs (x3.number==0) with hcg | hcg
   ·have aI:=ifT aH hcg;refine Rh z hcg (fd a_B z)<|Rh z hcg (l0 J_ z<|h4.at z) ?_
    have bc:=((h3.ag B).e h2).e H;refine Rh z hcg (lnR n_ z<|W.g bc)<|Rh z hcg (b_o z z)<|R z (pT z hcg z)<|Rm z ?_
    rcases bs (decide<|(x3.bytes.length:Int)<=400) with hch | hch
    ·exact Rh z hch (fd Q_ z)<|Rh z hch (l0 X_ z<|h4.at z)<|Rh z hch (lnR Y_ z<|Y.g bc)<|Rh z hch (eql z z)<|R z (pT z hch z)<|Ra z<|Wl (fun _ q=>⟨(x3.items.length:Int)==0,som<|ifT aI hch,q.k<|s1 z,br G⟩)
    iterate 4 refine Nh z hch ?_
    exact R z (pF z hch z)<|Ra z<|Wl (fun _ q=>⟨false,som<|ifF aI hch,q.k<|s1 z,br G⟩)
   iterate 4 refine Nh z hcg ?_
   exact R z (pF z hcg z)<|Rm z<|Nh z z<|Nh z z<|Nh z z<|Nh z z<|R z (pF z z z)<|Ra z<|Wl (fun _ q=>⟨false,som<|ifF aH hcg,q.k<|s1 z,br G⟩)
  rintro c7 _ ⟨ai,rfl,_,c8⟩;revert c7;refine Wo ?_;obtain rfl:=som bz;exact Wr<|rtO<|f_ hr z ⟨bup (bup (bup h3 h2) H) c8,z⟩
 have aJ:=ifF aG a6;refine Ws<|Rq z z z<|Rw z<|Wc z (fun a7=>?_) (fun a7=>?_)
 ·refine Wq ?_;obtain ⟨c9,aK,bA⟩:=bdS<|ifT aJ a7;refine Wt (fun a w=>∃(aj:Bool),aj=c9/\Sat 202 [(6,vB aj)] a/\Below G.z G w) ?_ ?_
  ·refine Wd (X:=noX) 0 (pl_ 23 [18,19]) mo (by kernel_rfl) fun cD sq _=>dR z z (fd a_F z) ?_
   have ak:=h4.e sq;refine dR z z (l0 g_3 z<|ak.at z)<|dR z z (eql z z)<|dM z z z ?_
   rcases bs (x3.number==0) with hci | hci
   ·have aL:=ifT aK hci;refine dRg z z z hci z (fd a_B z)<|dRg z z z hci z (l0 J_ z<|ak.at z) ?_
    have hz:=(((h3.ag B).e h2).e H).e sq;refine dRg z z z hci z (lnR n_ z<|W.g hz)<|dRg z z z hci z (eql z z)<|dR z z (pT z hci z)<|dM z z z ?_
    rcases bs ((x3.bytes.length:Int)==0) with J | J
    ·refine dRg z z z J z (fd Q_ z)<|dRg z z z J z (l0 X_ z<|ak.at z)<|dRg z z z J z (lnR Y_ z<|Y.g hz)<|dRg z z z J z (lN (vs:=[sl A0 N0 C0]) w_ v_ z z fid<|(((aZ.e h2).e H).e sq).row 0 1 z)<|dRg z z z J z (fd R_ z)<|dRg z z z J z (l0 A_ z<|(ht.e sq).at z) ?_
     obtain ⟨_,ca,bB⟩:=bdS<|ifT aL J;refine c_n z z z J z (at_ (α:=Int) y_ z_3 z z z (a1.g hz) ca) ?_;rintro _ ⟨_,_,_,rfl,cb,cc,_⟩;obtain ⟨rfl,cd⟩:=T_ cc;refine dRg z z z J z (l0 g_3 z<|cb.at0 z) ?_;have be:=lt_ (lt_ (lt_ h3.s h2.s) H.s) sq.s;obtain ⟨_,ce,bC⟩:=bdS bB;refine dEg z z z J z (fc call131 z<|h_y ce (zt' a0 be) (aq.g hz) cd) (.inr fun _ _ h=>o_<|h.1) ?_;rintro _ _ ⟨bf,rfl,cf⟩;obtain ⟨cg,ch,bD⟩:=bdS bC;refine dEg z z z J z (fc call130 z<|W_w1j ch (zt' a0<|lt_ be bf.s) (ii z) cf) (.inr fun _ _ h=>o_<|h.1) ?_;rintro _ _ ⟨ci,rfl,_⟩;exact dRg z z z J z (b_o z z)<|dR z z (pT z J z)<|dQ z z z<|pD (fun _ q=>⟨decide<|(x3.items.length:Int)<=cg,som bD,q.k<|s1 z,bup (bup sq bf) ci⟩)
    iterate 8 refine dRn z z z J z ?_
    exact dEn z z z J z<|dEn z z z J z<|dRn z z z J z<|dR z z (pF z J z)<|dQ z z z<|pD (fun _ q=>⟨false,som<|ifF aL J,q.k<|s1 z,sq⟩)
   iterate 4 refine dRn z z z hci z ?_
   refine dR z z (pF z hci z)<|dM z z z ?_
   iterate 8 refine dRn z z z z z ?_
   exact dEn z z z z z<|dEn z z z z z<|dRn z z z z z<|dR z z (pF z z z)<|dQ z z z<|pD (fun _ q=>⟨false,som<|ifF aK hci,q.k<|s1 z,sq⟩)
  rintro cj _ ⟨aj,rfl,_,ck⟩;revert cj;refine Wo ?_;obtain rfl:=som bA;exact Wr<|rtO<|f_ hr z ⟨bup (bup (bup h3 h2) H) ck,z⟩
 have aM:=ifF aJ a7;refine Ws<|Rq z z z<|Rw z<|Wc z (fun a8=>?_) (fun a8=>?_)
 ·refine Wq ?_;obtain ⟨cl,aN,bE⟩:=bdS<|ifT aM a8;refine Wt (fun a w=>∃(al:Bool),al=cl/\Sat 202 [(6,vB al)] a/\Below G.z G w) ?_ ?_
  ·refine Wg<|Rf z a_F z<|R z (l0 g_3 z<|h4.at z)<|Rq z z z<|Rm z ?_
   rcases bs (x3.number==0) with hcj | hcj
   ·have aO:=ifT aN hcj;refine Rh z hcj (fd a_B z)<|Rh z hcj (l0 J_ z<|h4.at z) ?_
    have am:=((h3.ag B).e h2).e H;refine Rh z hcj (lnR n_ z<|W.g am)<|Rh z hcj (eql z z)<|R z (pT z hcj z)<|Rm z ?_
    rcases bs ((x3.bytes.length:Int)==0) with L | L
    ·exact Rh z L (fd Q_ z)<|Rh z L (l0 X_ z<|h4.at z)<|Rh z L (lnR Y_ z<|Y.g am)<|Rh z L (fd R_ z)<|Rh z L (l0 A_ z<|ht.at z)<|Rh z L (lnR y_ z<|a1.g am)<|Rh z L (eql z z)<|R z (pT z L z)<|Ra z<|Wl (fun _ q=>⟨(x3.items.length:Int)==(x2.kids.length:Int),som<|ifT aO L,q.k<|s1 z,br G⟩)
    iterate 7 refine Nh z L ?_
    exact R z (pF z L z)<|Ra z<|Wl (fun _ q=>⟨false,som<|ifF aO L,q.k<|s1 z,br G⟩)
   iterate 4 refine Nh z hcj ?_
   exact R z (pF z hcj z)<|Rm z<|Nh z z<|Nh z z<|Nh z z<|Nh z z<|Nh z z<|Nh z z<|Nh z z<|R z (pF z z z)<|Ra z<|Wl (fun _ q=>⟨false,som<|ifF aN hcj,q.k<|s1 z,br G⟩)
  rintro cm _ ⟨al,rfl,_,cn⟩;revert cm;refine Wo ?_;obtain rfl:=som bE;exact Wr<|rtO<|f_ hr z ⟨bup (bup (bup h3 h2) H) cn,z⟩
 have aP:=ifF aM a8;refine Ws<|Rq z z z<|Rw z<|Wc z (fun a9=>?_) (fun a9=>?_)
 ·refine Wq ?_;obtain ⟨co,aQ,bF⟩:=bdS<|ifT aP a9;refine Wt (fun a w=>∃(an:Bool),an=co/\Sat 202 [(6,vB an)] a/\Below G.z G w) ?_ ?_
  ·refine Wg<|Rf z a_B z<|R z (l0 J_ z<|h4.at z) ?_
   have hu:=((h3.ag B).e h2).e H;refine R z (lnR n_ z<|W.g hu)<|Rq z z z<|Rm z ?_
   rcases bs ((x3.bytes.length:Int)==0) with hck | hck
   ·have aR:=ifT aQ hck;refine Rh z hck (fd Q_ z)<|Rh z hck (l0 X_ z<|h4.at z)<|Rh z hck (lnR Y_ z<|Y.g hu)<|Rh z hck (eql z z)<|R z (pT z hck z)<|Rm z ?_
    rcases bs ((x3.items.length:Int)==1) with V | V
    ·refine Rh z V (lN (vs:=vR x2 A3 N3 C3 A2 N2 C2 A1 N1 C1 A4 N4 C4) D_ t_ z z fid<|ht.row 0 8 z)<|Rh z V (fd a_F z)<|Rh z V (l0 g_3 z<|h4.at z) ?_
     obtain ⟨cp,cq,bG⟩:=bdS<|ifT aR V;refine Eg z z V z (fc call97 z<|e_5 cq (zt' a0<|lt_ (lt_ h3.s h2.s) H.s) bi bj ar (bk.g hu) (bm.g hu) (bn.g hu) (a1.g hu) au<|ii z) ?_;rintro _ _ ⟨cr,rfl,_⟩;exact Rh z V (a_z z z)<|R z (pT z V z)<|Ra z<|Wl (fun _ q=>⟨decide<|0<=cp,som bG,q.k<|s1 z,cr⟩)
    iterate 5 refine Nh z V ?_
    exact R z (pF z V z)<|Ra z<|Wl (fun _ q=>⟨false,som<|ifF aR V,q.k<|s1 z,br G⟩)
   iterate 4 refine Nh z hck ?_
   exact R z (pF z hck z)<|Rm z<|Nh z z<|Nh z z<|Nh z z<|Nh z z<|Nh z z<|R z (pF z z z)<|Ra z<|Wl (fun _ q=>⟨false,som<|ifF aQ hck,q.k<|s1 z,br G⟩)
  rintro ct _ ⟨an,rfl,_,cu⟩;revert ct;refine Wo ?_;obtain rfl:=som bF;exact Wr<|rtO<|f_ hr z ⟨bup (bup (bup h3 h2) H) cu,z⟩
 have aS:=ifF aP a9;refine Ws<|Rq z z z<|Rw z<|Wc z (fun aa=>?_) (fun aa=>?_)
 ·refine Wq ?_;obtain ⟨cv,aT,bH⟩:=bdS<|ifT aS aa;refine Wt (fun a w=>∃(ao:Bool),ao=cv/\Sat 202 [(6,vB ao)] a/\Below G.z G w) ?_ ?_
  ·refine Wg<|Rf z a_F z<|R z (l0 g_3 z<|h4.at z)<|Rq z z z<|Rm z ?_
   rcases bs (x3.number==0) with hcl | hcl
   ·have aU:=ifT aT hcl;refine Rh z hcl (fd a_B z)<|Rh z hcl (l0 J_ z<|h4.at z) ?_
    have bg:=((h3.ag B).e h2).e H;refine Rh z hcl (lnR n_ z<|W.g bg)<|Rh z hcl (eql z z)<|R z (pT z hcl z)<|Rm z ?_
    rcases bs ((x3.bytes.length:Int)==0) with hcm | hcm
    ·exact Rh z hcm (fd Q_ z)<|Rh z hcm (l0 X_ z<|h4.at z)<|Rh z hcm (lnR Y_ z<|Y.g bg)<|Rh z hcm (b_o z z)<|R z (pT z hcm z)<|Ra z<|Wl (fun _ q=>⟨decide<|(x3.items.length:Int)<=1,som<|ifT aU hcm,q.k<|s1 z,br G⟩)
    iterate 4 refine Nh z hcm ?_
    exact R z (pF z hcm z)<|Ra z<|Wl (fun _ q=>⟨false,som<|ifF aU hcm,q.k<|s1 z,br G⟩)
   iterate 4 refine Nh z hcl ?_
   exact R z (pF z hcl z)<|Rm z<|Nh z z<|Nh z z<|Nh z z<|Nh z z<|R z (pF z z z)<|Ra z<|Wl (fun _ q=>⟨false,som<|ifF aT hcl,q.k<|s1 z,br G⟩)
  rintro cw _ ⟨ao,rfl,_,cx⟩;revert cw;refine Wo ?_;obtain rfl:=som bH;exact Wr<|rtO<|f_ hr z ⟨bup (bup (bup h3 h2) H) cx,z⟩
 refine Wk<|Wq ?_
 obtain ⟨cy,aV,bI⟩:=bdS<|ifF aS aa;refine Wt (fun a w=>∃(ap:Bool),ap=cy/\Sat 202 [(6,vB ap)] a/\Below G.z G w) ?_ ?_
 ·refine Wg<|Rf z a_F z<|R z (l0 g_3 z<|h4.at z)<|Rq z z z<|Rm z ?_
  rcases bs (x3.number==0) with hcn | hcn
  ·have aW:=ifT aV hcn;refine Rh z hcn (fd a_B z)<|Rh z hcn (l0 J_ z<|h4.at z) ?_
   have bh:=((h3.ag B).e h2).e H;refine Rh z hcn (lnR n_ z<|W.g bh)<|Rh z hcn (eql z z)<|R z (pT z hcn z)<|Rm z ?_
   rcases bs ((x3.bytes.length:Int)==0) with hco | hco
   ·exact Rh z hco (fd Q_ z)<|Rh z hco (l0 X_ z<|h4.at z)<|Rh z hco (lnR Y_ z<|Y.g bh)<|Rh z hco (eql z z)<|R z (pT z hco z)<|Ra z<|Wl (fun _ q=>⟨(x3.items.length:Int)==1,som<|ifT aW hco,q.k<|s1 z,br G⟩)
   iterate 4 refine Nh z hco ?_
   exact R z (pF z hco z)<|Ra z<|Wl (fun _ q=>⟨false,som<|ifF aW hco,q.k<|s1 z,br G⟩)
  iterate 4 refine Nh z hcn ?_
  exact R z (pF z hcn z)<|Rm z<|Nh z z<|Nh z z<|Nh z z<|Nh z z<|R z (pF z z z)<|Ra z<|Wl (fun _ q=>⟨false,som<|ifF aV hcn,q.k<|s1 z,br G⟩)
 rintro cz _ ⟨ap,rfl,_,cA⟩;revert cz;refine Wo ?_;obtain rfl:=som bI;exact Wr<|f_ hr z ⟨bup (bup (bup h3 h2) H) cA,z⟩
structure k_F (f:c_->Int->Val->Option Bool):Prop where
  run:∀{A0 A5 A7:Option Addr}{N0 C0 N5 C5 N7 C7:Nat}{B:Zone}{x1:c_}{x2:Int}{x3:Val}{res:Bool}{w0:World}(hm:f x1 x2 x3=some res)(hBw:B<=w0.z)(p1_0:repS w0 B (sl A0 N0 C0) x1.rules)(p2_0:inI x2)(p3_0:inI x3.number)(p3_1:repS w0 B (sl A5 N5 C5) x3.bytes)(p3_2:repS w0 B (sl A7 N7 C7) x3.items),l_ prog 57 [(.agg #[sl A0 N0 C0]),vI x2,(.agg #[vI x3.number,sl A5 N5 C5,sl A7 N7 C7])] w0<|Q7 w0 B res
abbrev n_q (n:Nat):Prop:=k_F (d_a n).spec_l9Valid
theorem T_w0k (aH:n_q n):k_F (e_s n<|d_a n):=by
 constructor
 intro A0 A5 A7 N0 C0 N5 C5 N7 C7 B x1 x2 x3 res w0 hm O V b8 W aw H;unfold e_s at hm
 refine goG func57 z z z fun fn hr=>Ws<|E z (fb z) ?_
 rintro _ wr ⟨rfl,hx⟩;have I:=hx.below;have hy:Blk wr w0.z [sl A0 N0 C0]:=hx.blk;refine E z (fb z) ?_;rintro _ wc ⟨rfl,hz⟩;have h4:=hz.below;have a2:Blk wc wr.z [vI x3.number,sl A5 N5 C5,sl A7 N7 C7]:=hz.blk;refine Rw z<|Ws<|Rf z a_9 z ?_
 have a3:=hy.e h4;refine R z (l0 a_b z<|a3.at z)<|Rm z ?_
 obtain ⟨xd,aI,ax⟩:=bdS hm;have a4:=(I.ag B).e h4;refine RX z (at_ (α:=g_) a_3 t_ z z z (V.g a4) aI) ?_;rintro _ ⟨_,_,_,rfl,aJ,aK,_⟩;obtain ⟨ae,nf,cg,ah,ni,cj,ak,nl,cm,an,no,cp,rfl,a5,a6,a7,a8,a9,aa,ab⟩:=a_v aK;refine R z (lN (vs:=vR xd ae nf cg ah ni cj ak nl cm an no cp) D_ t_ z z fid aJ)<|E z (fa b_Y) ?_
 rintro _ aL ⟨rfl,ad⟩;have h1:=ad.below;refine E0 (fs0 (cur':=vR xd ae nf cg ah ni cj ak nl cm an no cp) t_ z z (ad.blk:Blk aL wc.z [(Str.v (⟨[]⟩:Str)),vI 0,vI 0,vB false,sl none 0 0,sl none 0 0,sl none 0 0,sl none 0 0]) z z z z) ?_;rintro _ _ ⟨af,aM⟩;have h2:=aM.one;refine Wn<|Wq<|Ws ?_
 have ai:=(a3.e h1).c h2<|djs<|mm1 hy.lt h4.s
 refine R z (lN (vs:=[sl A0 N0 C0]) w_ v_ z z fid<|ai.row 0 1 z)<|R z (lN (vs:=vR xd ae nf cg ah ni cj ak nl cm an no cp) D_ t_ z z fid<|af.row 0 8 z) ?_
 have ht:=(a2.e h1).c h2<|djs<|mmr a2.lt
 refine R z (lN (vs:=[vI x3.number,sl A5 N5 C5,sl A7 N7 C7]) i_ b_ z z fid<|ht.row 0 3 z) ?_;have J:=lt_ I.s h4.s;have aj:∀k∈[wc.z],¬B k:=or0 (d_ lr)<|p_<|zt' O J;have L:=(a4.e h1).c h2<|e_ aj
 have ha:=(h1.ag B).c h2<|e_ aj
 have al:=lt_ (lt_ J h1.s) h2.s;obtain ⟨_,aN,Y⟩:=bdS ax;refine E z (fc call100 z<|W_w2z aN (zt' O al) (V.g L) a5 a6 a7 (a8.g ha) (a9.g ha) (aa.g ha) (ab.g ha) W (aw.g L)<|H.g L) ?_;rintro _ wb ⟨G,rfl⟩;refine R z (not_ z)<|Wx z (fun hcs=>?_) (fun hcs=>?_)
 ·refine Ws<|Rw z ?_
  obtain rfl:=som<|ifT Y hcs;exact Wr<|f_ hr z ⟨bup (bM (bup (bup I h4) h1) h2<|m1 J) G,z⟩
 refine Wk<|Wq<|Ws<|Rw z ?_
 obtain ⟨_,ay,a0⟩:=bdS<|ifF Y hcs;refine Wf (σ:=Unit) (ρ:=Bool) (fun (am:Nat)(_:Unit) a w=>Sat 39 [(3,pt w0.z),(5,pt wr.z),(7,pt wc.z),(8,vI ((am:Nat):Int))] a/\Below wb.z wb w) (fun (_:Unit) a w=>Sat 39 [] a/\Below wb.z wb w) (rQ prog fn<|Q7 w0 B) ay ?_ ?_ ?_ ?_ ?_
 ·exact fun _ q=>⟨q.k<|s4 z z z z,br wb⟩
 ·rintro am _ _ _ _ hku ⟨az,s3⟩ aA;refine Wu ?_ az;refine Wq<|Wm z<|Rf z Q_ z ?_
  have ao:=(ht.e G).e s3;refine R z (l0 X_ z<|ao.at z) ?_;have ap:=(L.e G).e s3;refine R z (lnR Y_ z<|H.g ap)<|Rl z z z<|Wx z (fun _=>?_) (fun hc=>(a_0 hku hc).elim)
  refine Wk<|Wq<|Wb<|Wq (Wd (X:=noX) 0 (.rd 0<|.rd 1<|.rd 2<|.rd 3<|.rd 4<|.rd 6<|.rd 7<|.rd 8<|.rd 9<|.rd 10<|.ef 5<|.ef 11<|.rd 12 .done) mo (by kernel_rfl) fun b9 s5 _=>dR z z (lN (vs:=[sl A0 N0 C0]) w_ v_ z z fid<|(((ai.e G).e s3).e s5).row 0 1 z)<|dR z z (lN (vs:=vR xd ae nf cg ah ni cj ak nl cm an no cp) D_ t_ z z fid<|(((af.e G).e s3).e s5).row 0 8 z)<|dR z z (fd a_F z) ?_)
  have aq:=ao.e s5;refine dR z z (l0 g_3 z<|aq.at z)<|dM z z z<|dR z z (fd Q_ z)<|dR z z (l0 X_ z<|aq.at z)<|dM z z z ?_
  obtain ⟨aO,aP,aB⟩:=bdS aA;have ar:=ap.e s5;refine dRX z z (at_ (α:=Val) Y_ b_ z z z (H.g ar) aP) ?_;rintro _ ⟨_,_,_,rfl,aQ,aR,_⟩;obtain ⟨aS,aT,aU,aV,aW,aX,rfl,aY,aZ,b0⟩:=d_f aR;refine dR z z (lN (vs:=[vI aO.number,sl aS aT aU,sl aV aW aX]) i_ b_ z z fid aQ) ?_;have hq:=((ha.e G).e s3).e s5;have au:=lt_ (lt_ (lt_ al G.s) s3.s) s5.s;obtain ⟨_,b3,aC⟩:=bdS aB;refine dE z z (fc call97 z<|e_5 b3 (zt' O au) a5 a6 a7 (a8.g hq) (a9.g hq) (aa.g hq) (ab.g hq) W<|ic (Nat.le_of_lt hku)<|lt_ (repS.len H) G_) (.inr fun _ _ h=>o_<|h.1) ?_;rintro _ _ ⟨s6,rfl,b4⟩;obtain ⟨_,b5,a1⟩:=bdS aC;refine dE z z (fc call57 z<|aH.run b5 (zt' O<|lt_ au s6.s) (V.g<|ar.e s6) b4 aY (aZ.e s6)<|b0.e s6) (.inr fun _ _ h=>o_<|h.1) ?_;rintro _ _ ⟨av,rfl⟩;refine dR z z (not_ z)<|pD<|Wo<|Wc z (fun hcv=>?_) (fun hcv=>?_)
  ·exact Ws<|Rw z<|Wr<|rtO<|qL (som<|ifT a1 hcv).symm<|f_ hr z ⟨bup (bup (bup (bup (bup (bM (bup (bup I h4) h1) h2<|m1 J) G) s3) s5) s6) av,z⟩
  exact Wk<|Wg<|Rm z<|R z (inc_ hku (lt_ (repS.len H) G_) z z)<|Ra z<|Wl (fun _ q=>⟨(),(som<|ifF a1 hcv).symm,⟨q.k<|s4 z z z z,bup (bup (bup s3 s5) s6) av⟩⟩)
 ·rintro _ _ _ ⟨aD,sw⟩;refine Wu ?_ aD;refine Wq<|Wm z<|Rf z Q_ z<|R z (l0 X_ z<|((ht.e G).e sw).at z)<|R z (lnR Y_ z<|H.g<|(L.e G).e sw)<|Rl z z z<|Wx z (fun hc=>(a_1 hc).elim) (fun _=>?_)
  exact We<|fun _ q=>⟨rfl,⟨q.k sn,sw⟩⟩
 ·rintro _ b6 _ rfl ⟨_,b7⟩;have aE:=elL a0;revert b6;refine Wo<|Ws<|Rw z ?_
  obtain rfl:=som aE;exact Wr<|f_ hr z ⟨bup (bup (bM (bup (bup I h4) h1) h2<|m1 J) G) b7,z⟩
 rintro _ _ _ _ rfl ⟨rfl,aF⟩;have aG:=elR a0;obtain rfl:=som aG;exact ⟨aF,z⟩
theorem A_w0k:∀n,n_q n
  | 0=>⟨fun hm=>by intros;exact nomatch (show none=some _ from hm)⟩
  | n+1=>T_w0k<|A_w0k n
theorem W_w0k:k_F (d_a n).spec_l9Valid:=A_w0k n
theorem W_w1k {x1:c_}{x2:Int}{x3:Val}{res:Bool}(hm:d_b n x1 x2 x3=some res)(L:B<=w0.z)(I:repS w0 B (sl A0 N0 C0) x1.rules)(J:inI x2)(Y:inI x3.number)(a0:repS w0 B (sl A5 N5 C5) x3.bytes)(a1:repS w0 B (sl A7 N7 C7) x3.items):l_ prog 35 [(.agg #[sl A0 N0 C0]),vI x2,(.agg #[vI x3.number,sl A5 N5 C5,sl A7 N7 C7])] w0 (Q7 w0 B res):=by
 unfold d_b at hm
 refine goG func35 z z z fun fn hr=>Ws<|E z (fb z) ?_
 rintro _ O ⟨rfl,V⟩;have h3:=V.below;refine E z (fb z) ?_;rintro _ H ⟨rfl,W⟩;have h1:=W.below;refine Rw z<|Wq ?_
 obtain ⟨ug,huh,hmi⟩:=bdS hm;refine Wt (fun a w=>∃(x5:Bool),x5=ug/\Sat 16 [(6,vB x5)] a/\Below H.z H w) ?_ ?_
 ·refine Wg ?_;have ha:=(V.blk:Blk O w0.z [sl A0 N0 C0]).e h1;refine R z (lN (vs:=[sl A0 N0 C0]) w_ v_ z z fid<|ha.row 0 1 z)<|Rm z ?_
  have hb:=(h3.ag B).e h1;have hc:=lt_ h3.s h1.s;obtain ⟨rj,ek,hmd⟩:=bdS huh;refine E z (fc call33 z<|k_x ek (zt' L hc) (I.g hb) J) ?_;rintro _ _ ⟨s2,rfl⟩;refine Rm z ?_
  rcases bs rj with G | G
  ·refine Rh z G (lN (vs:=[sl A0 N0 C0]) w_ v_ z z fid<|(ha.e s2).row 0 1 z)<|Rh z G (mv z)<|Rh z G (lN (vs:=[vI x3.number,sl A5 N5 C5,sl A7 N7 C7]) i_ b_ z z fid<|((W.blk:Blk H O.z [vI x3.number,sl A5 N5 C5,sl A7 N7 C7]).e s2).row 0 3 z) ?_
   have h6:=hb.e s2;obtain ⟨rl,em,hmn⟩:=bdS<|ifT hmd G;refine Eg z z G z (fc call57 z<|W_w0k.run em (zt' L<|lt_ hc s2.s) (I.g h6) J Y (a0.g h6)<|a1.g h6) ?_;rintro _ _ ⟨so,rfl⟩;exact R z (pT z G z)<|Ra z<|Wl (fun _ q=>⟨rl,som hmn,q.k<|s1 z,bup s2 so⟩)
  iterate 4 refine Nh z G ?_
  exact R z (pF z G z)<|Ra z<|Wl (fun _ q=>⟨false,som<|ifF hmd G,q.k<|s1 z,s2⟩)
 rintro ap _ ⟨x5,rfl,_,sq⟩;revert ap;refine Wo ?_;obtain rfl:=som hmi;exact Wr<|f_ hr z ⟨bup (bup h3 h1) sq,z⟩
theorem W_w1l {x1:Int}{x2:Int}{res:(List UInt8)}(hm:e_C n x1 x2=some res)(W:B<=w0.z)(a0:inI x1)(Y:inI x2):l_ prog 152 [vI x1,vI x2] w0 (Q1 w0 B res):=by
 unfold e_C at hm
 refine goG func152 z z z fun fn hr=>Ws<|Rw z<|Ws<|E z (f0 (α:=UInt8) I_) ?_
 rintro _ wm ⟨ad,ne,cf,rfl,s7,hp⟩;refine Rw z<|Wq<|Wq ?_
 obtain ⟨af,a1,hmq⟩:=bdS hm;refine Wt (fun a w=>∃(xg:Bool),xg=af/\Sat 35 [(0,vI x1),(1,vI x2),(5,sl ad ne cf),(18,vB xg)] a/\Below wm.z wm w) ?_ ?_
 ·refine Wg<|Rm z ?_
  obtain ⟨ah,ai,hmr⟩:=bdS a1;refine E z (fc call50 z<|b_l ai (zt' W s7.s) Y (ii z)<|ii z) ?_;rintro _ _ ⟨sh,rfl⟩;refine R z (not_ z)<|Rm z ?_
  rcases bs (!ah) with I | I
  ·iterate 6 refine Nh z I ?_
   exact R z (pT z I z)<|Wl (fun _ q=>⟨true,som<|ifT hmr I,q.k<|s4 z z z z,sh⟩)
  refine Rh z I (mv z)<|Rh z I (mv z) ?_
  have ht:=lt_ s7.s sh.s;obtain ⟨_,aj,a2⟩:=bdS<|ifF hmr I;refine Eg z z I z (fc call129 z<|k_w aj (zt' W ht) Y) ?_;rintro _ _ ⟨ss,rfl,_⟩;refine Rh z I (sb_ z z) ?_;obtain ⟨ak,al,a4⟩:=bdS a2;refine Eg z z I z (fc call50 z<|b_l al (zt' W<|lt_ ht ss.s) a0 (ii z)<|iS _ _) ?_;rintro _ _ ⟨am,rfl⟩;exact Rh z I (not_ z)<|R z (pF z I z)<|Wl (fun _ q=>⟨!ak,som a4,q.k<|s4 z z z z,bup (bup sh ss) am⟩)
 rintro an G ⟨xg,rfl,_,s8⟩;revert an;refine Wo<|Wc z (fun hci=>?_) (fun hci=>?_)
 ·refine Wm z<|Rw z ?_
  obtain rfl:=som<|ifT hmq hci;exact Wr<|f_ hr z ⟨bup s7 s8,ad,ne,cf,[w0.z],z,hp.e s8,a_e,d_ lr⟩
 refine Wk<|Wq<|Wm z<|R z (sb_ z z)<|Rw z ?_
 obtain ⟨_,a5,hmu⟩:=bdS<|ifF hmq hci;refine b_S (σ:=(List UInt8)×Int) (ρ:=List UInt8) (fun s a w=>un2 (fun V x6=>∃J L O H,Sat 35 [(0,vI x1),(5,sl J L O),(6,vI x6)] a/\Chg (· ∈ [w0.z]) G w/\a_ w H (sl J L O) V/\H.Nodup/\(∀k∈H,k∈[w0.z]∨G.z<=k)/\inI x6) s) (fun s a w=>un2 (fun V x6=>∃J L O H,Sat 35 [(5,sl J L O)] a/\Chg (· ∈ [w0.z]) G w/\a_ w H (sl J L O) V/\H.Nodup/\(∀k∈H,k∈[w0.z]∨G.z<=k)/\inI x6) s) (rQ prog fn<|Q1 w0 B) a5 ?_ ?_ ?_ ?_
 ·exact fun _ q=>⟨ad,ne,cf,[w0.z],q.k<|s3 z z z,cr [w0.z] G,hp.e s8,a_e,io sr,iS _ _⟩
 ·rintro ⟨V,x6⟩ _ wj _ ⟨J,L,O,H,a6,sk,ha,hb,hc,hv⟩ a7;have hmw:=a_t a7;refine Wu ?_ a6;refine Wq<|Wm z<|R z (a_z z z)<|Wx z (fun hcl=>?_) (fun hcl=>?_)
  ·refine Wk<|Wq<|Wb<|Wg<|RM z z<|Rm z<|R z (d_p z z) ?_
   obtain ⟨_,ao,a8⟩:=bdS<|ifT hmw hcl;refine R z (j_J z z<|nnS ao)<|R z (d_m d_3 d_5 z)<|E z (fS [(.tmp 31)] I_ z z z (a_J z) (lb z)<|lb z) ?_
   rintro _ wx ⟨rfl,hn⟩;have ho:=hn.below;have aD:=b_0 hn a_s;obtain ⟨ap,aq,a9⟩:=bdS a8;refine E z (b_i (α:=UInt8) I_ aq z z (ha.e ho) hb (hn.blk:Blk wx wj.z [(vU<|byteI<|mkB<|a_y .i64 x1<|a_f 8 x6)]) a_s an_ K_) ?_;rintro _ ar ⟨Sy,au,av,aw,rfl,ax,ay,az,aA⟩;refine Rw z<|Wg<|Rm z<|R z (sb_ z z)<|Ra z<|Wl ?_
   have hz:∀k∈H,k∈[w0.z]∨G.z<=k:=or1 hc (io sr)<|q_ lr;exact fun _ q=>⟨(ap,r_ x6 1),(som a9).symm,⟨au,av,aw,Sy,q.k<|s3 z z z,(cM (k_ (cM (cr [w0.z] G) sk (io sr):Chg (· ∈ [w0.z]) G wj) ho:Chg (· ∈ [w0.z]) G wx) ax hz:Chg (· ∈ [w0.z]) G ar),ay,az,(or2 aA hz an_ (q_<|lt_ sk.s ho.s):∀k∈Sy,k∈[w0.z]∨G.z<=k),iS _ _⟩⟩
  exact We<|fun _ q=>b_F (som<|ifF hmw hcl).symm ⟨J,L,O,H,q.k<|s1 z,(cM (cr [w0.z] G) sk (io sr):Chg (· ∈ [w0.z]) G wj),ha,hb,(or1 hc (io sr) (q_ lr):∀k∈H,k∈[w0.z]∨G.z<=k),hv⟩
 ·rintro ⟨V,x6⟩ aB _ rfl ⟨J,L,O,H,_,aC,ha,hb,hc,hv⟩;have aa:=elL hmu;revert aB;refine Wo<|Wm z<|Rw z ?_
  obtain rfl:=som<|a_t aa;exact Wr<|f_ hr z ⟨bM (bup s7 s8) aC<|d_ lr,J,L,O,H,z,ha,hb,(or1 hc (d_ lr) (b_9<|lt_ s7.s s8.s):∀k∈H,w0.z<=k)⟩
 rintro _ _ _ _ rfl ⟨rfl,ab⟩;have ae:=elR hmu;obtain rfl:=som ae;exact ⟨ab,z⟩
theorem W_w30 {x1:Int}{x2:Int}{res:(List UInt8)}(hm:f_X n x1 x2=some res)(aa:B<=w0.z)(Y:inI x1)(a0:inI x2):l_ prog 151 [vI x1,vI x2] w0 (Q1 w0 B res):=by
 unfold f_X at hm
 refine goG func151 z z z fun fn hr=>Ws<|Rw z<|Wm z<|Rm z ?_
 obtain ⟨_,er,hms⟩:=bdS hm;refine E z (fc call152 z<|W_w1l (B:=B) er aa Y a0) ?_;rintro _ G ⟨sd,au,nt,cv,_,rfl,W,_,_⟩;refine Rw z<|Ws<|E z (f0 (α:=UInt8) I_) ?_
 rintro _ H ⟨aw,nx,cy,rfl,se,hz⟩;refine Rw z<|Wq<|Wm z ?_
 have hj:=W.e se;refine R z (lnR n_ z<|or_ hj<|a_.lt W)<|R z (sb_ z z)<|Rw z ?_
 obtain ⟨_,a1,hmk⟩:=bdS hms;refine b_S (σ:=(List UInt8)×Int) (ρ:=List UInt8) (fun s a w=>un2 (fun V x6=>∃J L O I,Sat 27 [(5,sl au nt cv),(6,sl J L O),(7,vI x6)] a/\Chg (· ∈ [G.z]) H w/\a_ w I (sl J L O) V/\I.Nodup/\(∀k∈I,k∈[G.z]∨H.z<=k)/\inI x6) s) (fun s a w=>un2 (fun V x6=>∃J L O I,Sat 27 [(6,sl J L O)] a/\Chg (· ∈ [G.z]) H w/\a_ w I (sl J L O) V/\I.Nodup/\(∀k∈I,k∈[G.z]∨H.z<=k)/\inI x6) s) (rQ prog fn<|Q1 w0 B) a1 ?_ ?_ ?_ ?_
 ·exact fun _ q=>⟨aw,nx,cy,[G.z],q.k<|s3 z z z,cr [G.z] H,hz,a_e,io sr,iS _ _⟩
 ·rintro ⟨V,x6⟩ _ wf _ ⟨J,L,O,I,a2,s9,ha,hb,hc,hl⟩ a4;have hmm:=a_t a4;refine Wu ?_ a2;refine Wq<|Wm z<|R z (a_z z z)<|Wx z (fun hcg=>?_) (fun hcg=>?_)
  ·refine Wk<|Wq<|Wb<|Wg<|RM z z<|Rm z ?_
   obtain ⟨ab,ad,a5⟩:=bdS<|ifT hmm hcg;refine RX z (at_ (α:=UInt8) n_ z_5 z z z (or_ (hj.c s9<|ds<|mnr<|a_.lt W)<|a_.lt W) ad) ?_;rintro _ ⟨_,_,_,rfl,ae,af,_⟩;obtain rfl:=u8 af;refine R z (l0 g_5 z<|ae.at0 z)<|E z (fS [(.tmp 23)] I_ z z z (a_J z) (lb z)<|lb z) ?_
   rintro _ wn ⟨rfl,hh⟩;have hi:=hh.below;have ax:=b_0 hh a_s;obtain ⟨ah,ai,a6⟩:=bdS a5;refine E z (b_i (α:=UInt8) I_ ai z z (ha.e hi) hb (hh.blk:Blk wn wf.z [vU (byteI ab)]) a_s an_ K_) ?_;rintro _ aj ⟨So,ak,al,am,rfl,an,ao,ap,aq⟩;refine Rw z<|Wg<|Rm z<|R z (sb_ z z)<|Ra z<|Wl ?_
   have hp:∀k∈I,k∈[G.z]∨H.z<=k:=or1 hc (io sr)<|q_ lr;exact fun _ q=>⟨(ah,r_ x6 1),(som a6).symm,⟨ak,al,am,So,q.k<|s3 z z z,(cM (k_ (cM (cr [G.z] H) s9 (io sr):Chg (· ∈ [G.z]) H wf) hi:Chg (· ∈ [G.z]) H wn) an hp:Chg (· ∈ [G.z]) H aj),ao,ap,(or2 aq hp an_ (q_<|lt_ s9.s hi.s):∀k∈So,k∈[G.z]∨H.z<=k),iS _ _⟩⟩
  exact We<|fun _ q=>b_F (som<|ifF hmm hcg).symm ⟨J,L,O,I,q.k<|s1 z,(cM (cr [G.z] H) s9 (io sr):Chg (· ∈ [G.z]) H wf),ha,hb,(or1 hc (io sr) (q_ lr):∀k∈I,k∈[G.z]∨H.z<=k),hl⟩
 ·rintro ⟨V,x6⟩ ar _ rfl ⟨J,L,O,I,_,av,ha,hb,hc,hl⟩;have a7:=elL hmk;revert ar;refine Wo<|Wm z<|Rw z ?_
  obtain rfl:=som<|a_t a7;have hq:=m1 sd.s;exact Wr<|f_ hr z ⟨bM (bup sd se) av hq,J,L,O,I,z,ha,hb,a_l hc hq<|lt_ sd.s se.s⟩
 rintro _ _ _ _ rfl ⟨rfl,a8⟩;have a9:=elR hmk;obtain rfl:=som a9;exact ⟨a8,z⟩
theorem j_g {x1:g_}{x2:Int}{res:(List UInt8)}(hm:d_l n x1 x2=some res)(L:B<=w0.z)(a0:x1.name.b.length<=LEN)(a1:inI x1.kind)(I:inI x1.size)(a2:repS w0 B (sl AC NC CC) x1.bytes)(a3:repS w0 B (sl AB NB CB) x1.names)(a4:repS w0 B (sl AD ND CD) x1.tags)(a5:repS w0 B (sl AE NE CE) x1.kids)(J:inI x2):l_ prog 126 [(.agg #[Str.v x1.name,vI x1.kind,vI x1.size,vB x1.little,sl AC NC CC,sl AB NB CB,sl AD ND CD,sl AE NE CE]),vI x2] w0 (Q1 w0 B res):=by
 unfold d_l at hm
 refine goG func126 z z z fun fn hr=>Ws<|E z (fb z) ?_
 rintro _ V ⟨rfl,h3⟩;have G:=h3.below;have h1:Blk V w0.z (vR x1 AC NC CC AB NB CB AD ND CD AE NE CE):=h3.blk;refine Rw z<|Wq<|Ws<|Rf z c_R z<|R z (l0 g_4 z<|h1.at z)<|Wx z (fun H=>?_) (fun H=>?_)
 ·refine Wm z<|Rf z a_G z<|R z (l0 g_3 z<|h1.at z) ?_
  obtain ⟨_,W,O⟩:=bdS<|ifT hm H;refine E z (fc call151 z<|W_w30 W (zt' L G.s) J I) ?_;rintro _ _ ⟨s7,Y,n9,ca,Sb,rfl,hc,hd,he⟩;refine Rw z ?_
  obtain rfl:=som O;exact Wr<|f_ hr z ⟨bup G s7,Y,n9,ca,Sb,z,hc,hd,j_ he G.s⟩
 refine Wk<|Wm z<|Rf z a_G z<|R z (l0 g_3 z<|h1.at z) ?_
 obtain ⟨_,ef,hmg⟩:=bdS<|ifF hm H;refine E z (fc call152 z<|W_w1l ef (zt' L G.s) J I) ?_;rintro _ _ ⟨sh,ai,nj,ck,Sl,rfl,hn,ho,hp⟩;refine Rw z ?_
 obtain rfl:=som hmg;exact Wr<|f_ hr z ⟨bup G sh,ai,nj,ck,Sl,z,hn,ho,j_ hp G.s⟩
structure k_G (f:c_->Int->Val->Option (List UInt8)):Prop where
  run:∀{A0 A5 A7:Option Addr}{N0 C0 N5 C5 N7 C7:Nat}{B:Zone}{x1:c_}{x2:Int}{x3:Val}{res:(List UInt8)}{w0:World}(hm:f x1 x2 x3=some res)(hBw:B<=w0.z)(p1_0:repS w0 B (sl A0 N0 C0) x1.rules)(p2_0:inI x2)(p3_0:inI x3.number)(p3_1:repS w0 B (sl A5 N5 C5) x3.bytes)(p3_2:repS w0 B (sl A7 N7 C7) x3.items),l_ prog 94 [(.agg #[sl A0 N0 C0]),vI x2,(.agg #[vI x3.number,sl A5 N5 C5,sl A7 N7 C7])] w0<|Q1 w0 B res
abbrev n_r (n:Nat):Prop:=k_G (e_a n).spec_l11Print
theorem T_w0l (gZ:n_r n):k_G (b_N n<|e_a n):=by
 constructor
 intro A0 A5 A7 N0 C0 N5 C5 N7 C7 B x1 x2 x3 res w0 hm H a4 j3 aA O V;unfold b_N at hm
 refine goG func94 z z z fun fn hr=>Ws<|E z (fb z) ?_
 rintro _ wm ⟨rfl,bU⟩;have J:=bU.below;have ho:Blk wm w0.z [sl A0 N0 C0]:=bU.blk;refine E z (fb z) ?_;rintro _ wa ⟨rfl,bV⟩;have h4:=bV.below;have h5:Blk wa wm.z [vI x3.number,sl A5 N5 C5,sl A7 N7 C7]:=bV.blk;refine Rw z<|Ws<|Rf z a_9 z ?_
 have a5:=ho.e h4;refine R z (l0 a_b z<|a5.at z)<|Rm z ?_
 obtain ⟨aa,h2,dN⟩:=bdS hm;have hn:=(J.ag B).e h4;refine RX z (at_ (α:=g_) a_3 t_ z z z (a4.g hn) h2) ?_;rintro _ ⟨_,_,_,rfl,h3,h6,_⟩;obtain ⟨ab,ad,ae,af,ai,ak,al,am,an,ao,ap,aq,rfl,bW,bX,bY,a6,bZ,c0,a7⟩:=a_v h6;refine R z (lN (vs:=vR aa ab ad ae af ai ak al am an ao ap aq) D_ t_ z z fid h3)<|E z (fa b_Y) ?_
 rintro _ h7 ⟨rfl,c1⟩;have h1:=c1.below;have a8:Blk h7 wa.z [(Str.v (⟨[]⟩:Str)),vI 0,vI 0,vB false,sl none 0 0,sl none 0 0,sl none 0 0,sl none 0 0]:=c1.blk;refine E0 (fs0 (cur':=vR aa ab ad ae af ai ak al am an ao ap aq) t_ z z a8 z z z z) ?_;rintro _ I ⟨c2,h9⟩;have G:=h9.one;refine Wn<|Ws<|E z (f0 (α:=UInt8) I_) ?_
 rintro _ wc ⟨ha,hb,hf,rfl,s3,hg⟩;refine Rw z<|Wq<|Ws<|Rw z ?_
 obtain ⟨_,dO,bF⟩:=bdS dN;refine Wf (σ:=List UInt8) (ρ:=List UInt8) (fun (c3:Nat)(W:List UInt8) a w=>∃ah ng ci S2,Sat 169 [(3,pt w0.z),(5,pt wm.z),(7,pt wa.z),(8,sl ah ng ci),(9,vI ((c3:Nat):Int))] a/\Chg (· ∈ [I.z]) wc w/\a_ w S2 (sl ah ng ci) W/\S2.Nodup/\(∀k∈S2,k∈[I.z]∨wc.z<=k)) (fun (W:List UInt8) a w=>∃ah ng ci S2,Sat 169 [(3,pt w0.z),(5,pt wm.z),(7,pt wa.z),(8,sl ah ng ci)] a/\Chg (· ∈ [I.z]) wc w/\a_ w S2 (sl ah ng ci) W/\S2.Nodup/\(∀k∈S2,k∈[I.z]∨wc.z<=k)) (rQ prog fn<|Q1 w0 B) dO ?_ ?_ ?_ ?_ ?_
 ·exact fun _ q=>⟨ha,hb,hf,[I.z],q.k<|s5 z z z z z,cr [I.z] wc,hg,a_e,io sr⟩
 ·rintro c3 W _ hh _ aB ⟨ah,ng,ci,S2,dP,ss,hd,hw,he⟩ dS;refine Wu ?_ dP;refine Wq<|Wm z<|Rf z Q_ z ?_
  have c4:=(((h5.e h1).c G<|djs<|mmr h5.lt).e s3).c ss<|djs<|mm1 h5.lt<|lt_ h1.s G.s
  refine R z (l0 X_ z<|c4.at z) ?_;have c5:=lt_ J.s h4.s;have c6:∀k∈[wa.z],¬B k:=or0 (d_ lr)<|p_<|zt' H c5;have c7:=lt_ (lt_ c5 h1.s) G.s;have c8:∀k∈[I.z],¬B k:=or0 (d_ lr)<|p_<|zt' H c7;have c9:=(((hn.e h1).c G<|e_ c6).e s3).c ss<|e_ c8
  refine R z (lnR Y_ z<|V.g c9)<|Rl z z z<|Wx z (fun _=>?_) (fun hc=>(a_0 aB hc).elim)
  refine Wk<|Wq<|Wb (Wd (X:=noX) 8192 (.rd 0<|.rd 1<|.rd 2<|.rd 3<|.rd 4<|.rd 5<|.rd 7<|.rd 8<|.rd 9<|.rd 10<|.rd 11<|.ef 6<|.ef 12<|.ef 13<|.rd 14 .done) mo (by kernel_rfl) fun hi sp _=>dM z z z ?_)
  refine dR z z (lN (vs:=[sl A0 N0 C0]) w_ v_ z z fid<|(((((a5.e h1).c G<|djs<|mm1 ho.lt h4.s).e s3).c ss<|djs<|mm1 ho.lt<|lt_ (lt_ h4.s h1.s) G.s).e sp).row 0 1 z)<|dR z z (lN (vs:=vR aa ab ad ae af ai ak al am an ao ap aq) D_ t_ z z fid<|(((c2.e s3).c ss<|djs<|mm1 a8.lt G.s).e sp).row 0 8 z)<|dR z z (fd a_F z) ?_
  have ca:=c4.e sp;refine dR z z (l0 g_3 z<|ca.at z)<|dM z z z<|dR z z (fd Q_ z)<|dR z z (l0 X_ z<|ca.at z)<|dM z z z ?_
  obtain ⟨hj,hk,dT⟩:=bdS dS;have cb:=c9.e sp;refine dRX z z (at_ (α:=Val) Y_ b_ z z z (V.g cb) hk) ?_;rintro _ ⟨_,_,_,rfl,hl,hp,_⟩;obtain ⟨hq,hu,hv,hx,hy,hA,rfl,hB,hC,hD⟩:=d_f hp;refine dR z z (lN (vs:=[vI hj.number,sl hq hu hv,sl hx hy hA]) i_ b_ z z fid hl) ?_;have ar:=((((h1.ag B).c G<|e_ c6).e s3).c ss<|e_ c8).e sp;have cc:=lt_ (lt_ (lt_ c7 s3.s) ss.s) sp.s;obtain ⟨_,hE,dU⟩:=bdS dT;refine dE z z (fc call97 z<|e_5 hE (zt' H cc) bW bX bY (a6.g ar) (bZ.g ar) (c0.g ar) (a7.g ar) aA<|ic (Nat.le_of_lt aB)<|lt_ (repS.len V) G_) (.inr fun _ _ h=>o_<|h.1) ?_;rintro _ hF ⟨sx,rfl,hG⟩;obtain ⟨_,hH,dV⟩:=bdS dU;refine dE z z (fc call94 z<|gZ.run hH (zt' H<|lt_ cc sx.s) (a4.g<|cb.e sx) hG hB (hC.e sx)<|hD.e sx) (.inr fun _ _ h=>o_<|h.1) ?_;rintro _ hI ⟨aM,_,_,_,_,rfl,hJ,_,_⟩;obtain ⟨hK,hL,dW⟩:=bdS dV;refine dE z z (fN (α:=UInt8) I_ hL z z (((hd.e sp).e sx).e aM) hw<|a_.rep hJ) (.inl z) ?_;rintro _ hM ⟨cd,hN,hO,hP,rfl,hQ,hR,hS,hT⟩;refine dQ z z z<|pD<|Wo<|Wg<|Rm z<|R z (inc_ aB (lt_ (repS.len V) G_) z z)<|Ra z<|Wl ?_
  have ce:∀k∈S2,k∈[I.z]∨wc.z<=k:=or1 he (io sr)<|q_ lr;exact fun _ q=>⟨hK,(som dW).symm,⟨hN,hO,hP,cd,q.k<|s5 z z z z z,(cM (k_ (k_ (k_ (cM (cr [I.z] wc) ss (io sr):Chg (· ∈ [I.z]) wc hh) sp:Chg (· ∈ [I.z]) wc hi) sx:Chg (· ∈ [I.z]) wc hF) aM:Chg (· ∈ [I.z]) wc hI) hQ ce:Chg (· ∈ [I.z]) wc hM),hR,hS,(or1 hT ce (q_<|lt_ (lt_ (lt_ ss.s sp.s) sx.s) aM.s):∀k∈cd,k∈[I.z]∨wc.z<=k)⟩⟩
 ·rintro W _ hU ⟨ah,ng,ci,S2,dX,aN,hd,hw,he⟩;refine Wu ?_ dX;refine Wq<|Wm z<|Rf z Q_ z<|R z (l0 X_ z<|((((h5.e h1).c G<|djs<|mmr h5.lt).e s3).c aN<|djs<|mm1 h5.lt<|lt_ h1.s G.s).at z) ?_
  have cf:=lt_ J.s h4.s;refine R z (lnR Y_ z<|V.g<|(((hn.e h1).c G<|e_ (or0 (d_ lr) (p_<|zt' H cf):∀k∈[wa.z],¬B k)).e s3).c aN<|e_ (or0 (d_ lr) (p_<|zt' H<|lt_ (lt_ cf h1.s) G.s):∀k∈[I.z],¬B k))<|Rl z z z<|Wx z (fun hc=>(a_1 hc).elim) (fun _=>?_)
  exact We<|fun _ q=>⟨rfl,⟨ah,ng,ci,S2,q.k<|s4 z z z z,(cM (cr [I.z] wc) aN (io sr):Chg (· ∈ [I.z]) wc hU),hd,hw,(or1 he (io sr) (q_ lr):∀k∈S2,k∈[I.z]∨wc.z<=k)⟩⟩
 ·rintro W hV wb rfl ⟨ah,ng,ci,S2,_,s6,hd,hw,he⟩;have bG:=elL bF;revert hV;refine Wo<|Wq<|Ws<|Rf z a_M z ?_
  have aO:=mm1 a8.lt G.s;have ht:=(c2.e s3).c s6<|djs aO
  refine R z (l0 g_3 z<|ht.at z)<|Wn<|Wb<|Ws<|Rq z z z<|Rw z<|Wc z (fun aC=>?_) (fun aC=>?_)
  ·refine Ws<|R z (lN (vs:=vR aa ab ad ae af ai ak al am an ao ap aq) D_ t_ z z fid<|ht.row 0 8 z)<|Rf z a_F z<|R z (l0 g_3 z<|((((h5.e h1).c G<|djs<|mmr h5.lt).e s3).c s6<|djs<|mm1 h5.lt<|lt_ h1.s G.s).at z) ?_
   have aP:=lt_ J.s h4.s;have aQ:=lt_ (lt_ aP h1.s) G.s;have au:=(((h1.ag B).c G<|e_ (or0 (d_ lr) (p_<|zt' H aP):∀k∈[wa.z],¬B k)).e s3).c s6<|e_ (or0 (d_ lr) (p_<|zt' H aQ):∀k∈[I.z],¬B k)
   have cg:=lt_ (lt_ aQ s3.s) s6.s;obtain ⟨_,hW,dY⟩:=bdS<|ifT bG aC;refine E z (fc call126 z<|j_g hW (zt' H cg) bW bX bY (a6.g au) (bZ.g au) (c0.g au) (a7.g au) aA) ?_;rintro _ _ ⟨hX,hY,hZ,i0,i1,rfl,i2,i3,i4⟩;refine Rw z ?_
   obtain rfl:=som dY;exact Wr<|rtO<|f_ hr z ⟨bup (bM (bup (bM (bup (bup J h4) h1) G<|m1 aP) s3) s6<|m1 aQ) hX,hY,hZ,i0,i1,z,i2,i3,j_ i4 cg⟩
  have bH:=ifF bG aC;refine Ws<|Rq z z z<|Rw z<|Wc z (fun aD=>?_) (fun aD=>?_)
  ·refine Ws<|E z (f0 (α:=UInt8) I_) ?_
   rintro _ _ ⟨_,_,_,rfl,av,i5⟩;refine Rf z a_Z z<|R z (l0 J_ z<|(ht.e av).at z) ?_
   obtain ⟨_,i6,dZ⟩:=bdS<|ifT bH aD;have aR:=lt_ J.s h4.s;have aS:=lt_ (lt_ aR h1.s) G.s;refine E z (fN (α:=UInt8) I_ i6 z z i5 a_e<|a6.g<|((((h1.ag B).c G<|e_ (or0 (d_ lr) (p_<|zt' H aR):∀k∈[wa.z],¬B k)).e s3).c s6<|e_ (or0 (d_ lr) (p_<|zt' H aS):∀k∈[I.z],¬B k)).e av) ?_;rintro _ _ ⟨i7,i8,i9,ia,rfl,ib,id,ie,ig⟩;refine Rw z ?_
   obtain rfl:=som dZ;have ch:=lt_ (lt_ aS s3.s) s6.s;have cj:=m1 ch;exact Wr<|rtO<|f_ hr z ⟨bM (bup (bM (bup (bM (bup (bup J h4) h1) G<|m1 aR) s3) s6<|m1 aS) av) ib cj,i8,i9,ia,i7,z,id,ie,a_l ig cj<|lt_ ch av.s⟩
  have bI:=ifF bH aD;refine Ws<|Rq z z z<|Rw z<|Wc z (fun aE=>?_) (fun aE=>?_)
  ·refine Wq<|Wd (X:=noX) 16384 (.rd 0<|.rd 1<|.rd 2<|.rd 3<|.rd 4<|.rd 5<|.rd 6<|.rd 7<|.rd 8<|.rd 9<|.rd 10<|.rd 12<|.rd 13<|.ef 11<|.ef 14<|.rd 15 .done) mo (by kernel_rfl) fun j4 sy _=>dR z z (fd a_9 z) ?_;refine dR z z (l0 a_b z<|(((((a5.e h1).c G<|djs<|mm1 ho.lt h4.s).e s3).c s6<|djs<|mm1 ho.lt<|lt_ (lt_ h4.s h1.s) G.s).e sy).at z)<|dR z z (fd R_ z)<|dR z z (l0 A_ z<|(ht.e sy).at z) ?_
   obtain ⟨_,ih,e0⟩:=bdS<|ifT bI aE;have aT:=lt_ J.s h4.s;have ck:∀k∈[wa.z],¬B k:=or0 (d_ lr)<|p_<|zt' H aT;have aU:=lt_ (lt_ aT h1.s) G.s;have cm:∀k∈[I.z],¬B k:=or0 (d_ lr)<|p_<|zt' H aU;refine dRX z z (at_ (α:=Int) y_ z_3 z z z (a7.g<|((((h1.ag B).c G<|e_ ck).e s3).c s6<|e_ cm).e sy) ih) ?_;rintro _ ⟨_,_,_,rfl,ij,ik,_⟩;obtain ⟨rfl,_⟩:=T_ ik;refine dR z z (l0 g_3 z<|ij.at0 z) ?_;obtain ⟨il,im,e1⟩:=bdS e0;have aV:=((((hn.e h1).c G<|e_ ck).e s3).c s6<|e_ cm).e sy;refine dRX z z (at_ (α:=g_) a_3 t_ z z z (a4.g aV) im) ?_;rintro _ ⟨_,_,_,rfl,ip,iq,_⟩;obtain ⟨ir,it,iu,iv,iw,ix,iy,iz,iA,iB,iC,iD,rfl,iE,iF,iG,iH,iI,iJ,iK⟩:=a_v iq;refine dR z z (lN (vs:=vR il ir it iu iv iw ix iy iz iA iB iC iD) D_ t_ z z fid ip)<|dR z z (fd a_B z) ?_
   have cn:=((((h5.e h1).c G<|djs<|mmr h5.lt).e s3).c s6<|djs<|mm1 h5.lt<|lt_ h1.s G.s).e sy;refine dR z z (l0 J_ z<|cn.at z) ?_;have co:=O.g aV;refine dR z z (lnR n_ z co)<|dR z z (fd a_B z)<|dR z z (l0 J_ z<|cn.at z) ?_
   have aW:=lt_ (lt_ (lt_ aU s3.s) s6.s) sy.s;obtain ⟨_,iL,e2⟩:=bdS e1;refine dE z z (fc call126 z<|j_g iL (zt' H aW) iE iF iG iH iI iJ iK<|b_h<|repS.len co) (.inr fun _ _ h=>o_<|h.1) ?_;rintro _ _ ⟨aX,_,_,_,_,rfl,iM,iN,iO⟩;obtain ⟨_,iP,e3⟩:=bdS e2;refine dE z z (fN (α:=UInt8) I_ iP z z iM iN<|O.g<|aV.e aX) (.inl z) ?_;rintro _ _ ⟨iQ,iR,iS,iT,rfl,iU,iV,iW,iX⟩;refine dQ z z z<|pD<|Wo ?_
   obtain rfl:=som e3;have cp:=j_ iO aW;exact Wr<|rtO<|f_ hr z ⟨bM (bup (bup (bM (bup (bM (bup (bup J h4) h1) G<|m1 aT) s3) s6<|m1 aU) sy) aX) iU cp,iR,iS,iT,iQ,z,iV,iW,a_l iX cp<|lt_ aW aX.s⟩
  have bJ:=ifF bI aE;refine Ws<|Rq z z z<|Rw z<|Wc z (fun aF=>?_) (fun aF=>?_)
  ·refine Wq<|Wd (X:=noX) 8192 (.rd 0<|.rd 1<|.rd 2<|.rd 3<|.rd 4<|.rd 5<|.rd 6<|.rd 7<|.rd 8<|.rd 9<|.rd 10<|.rd 12<|.ef 11<|.ef 13<|.rd 14 .done) mo (by kernel_rfl) fun j5 su _=>dR z z (fd a_9 z) ?_;refine dR z z (l0 a_b z<|(((((a5.e h1).c G<|djs<|mm1 ho.lt h4.s).e s3).c s6<|djs<|mm1 ho.lt<|lt_ (lt_ h4.s h1.s) G.s).e su).at z)<|dR z z (fd R_ z)<|dR z z (l0 A_ z<|(ht.e su).at z) ?_
   obtain ⟨_,iY,e4⟩:=bdS<|ifT bJ aF;have aY:=lt_ J.s h4.s;have cq:∀k∈[wa.z],¬B k:=or0 (d_ lr)<|p_<|zt' H aY;have aZ:=lt_ (lt_ aY h1.s) G.s;have ct:∀k∈[I.z],¬B k:=or0 (d_ lr)<|p_<|zt' H aZ;refine dRX z z (at_ (α:=Int) y_ z_3 z z z (a7.g<|((((h1.ag B).c G<|e_ cq).e s3).c s6<|e_ ct).e su) iY) ?_;rintro _ ⟨_,_,_,rfl,iZ,j0,_⟩;obtain ⟨rfl,_⟩:=T_ j0;refine dR z z (l0 g_3 z<|iZ.at0 z) ?_;obtain ⟨j1,j2,e5⟩:=bdS e4;have cu:=((((hn.e h1).c G<|e_ cq).e s3).c s6<|e_ ct).e su;refine dRX z z (at_ (α:=g_) a_3 t_ z z z (a4.g cu) j2) ?_;rintro _ ⟨_,_,_,rfl,e6,e7,_⟩;obtain ⟨e8,e9,ea,eb,ec,ed,ee,eg,eh,ei,ej,ek,rfl,em,en,eo,ep,er,es,eu⟩:=a_v e7;refine dR z z (lN (vs:=vR j1 e8 e9 ea eb ec ed ee eg eh ei ej ek) D_ t_ z z fid e6)<|dR z z (fd Q_ z)<|dR z z (l0 X_ z<|(((((h5.e h1).c G<|djs<|mmr h5.lt).e s3).c s6<|djs<|mm1 h5.lt<|lt_ h1.s G.s).e su).at z) ?_
   have cv:=V.g cu;refine dR z z (lnR Y_ z cv)<|dM z z z ?_
   have b0:=lt_ (lt_ (lt_ aZ s3.s) s6.s) su.s;obtain ⟨_,ew,dh⟩:=bdS e5;refine dE z z (fc call126 z<|j_g ew (zt' H b0) em en eo ep er es eu<|b_h<|repS.len cv) (.inr fun _ _ h=>o_<|h.1) ?_;rintro _ _ ⟨b3,_,_,_,_,rfl,ex,ey,ez⟩;obtain ⟨_,eA,di⟩:=bdS dh;refine dE z z (fN (α:=UInt8) I_ eA z z ex ey<|or_ ((hd.e su).e b3)<|a_.lt hd) (.inl z) ?_;rintro _ _ ⟨eB,eC,eD,eE,rfl,eF,eG,eH,eI⟩;refine dQ z z z<|pD<|Wo ?_
   obtain rfl:=som di;have cw:=j_ ez b0;exact Wr<|rtO<|f_ hr z ⟨bM (bup (bup (bM (bup (bM (bup (bup J h4) h1) G<|m1 aY) s3) s6<|m1 aZ) su) b3) eF cw,eC,eD,eE,eB,z,eG,eH,a_l eI cw<|lt_ b0 b3.s⟩
  have bK:=ifF bJ aF;refine Ws<|Rq z z z<|Rw z<|Wc z (fun aG=>?_) (fun aG=>?_)
  ·refine Wq<|Wd (X:=noX) 4096 (.rd 0<|.rd 1<|.rd 2<|.rd 3<|.rd 4<|.rd 5<|.rd 6<|.rd 7<|.rd 8<|.rd 9<|.rd 11<|.ef 10<|.ef 12<|.rd 13 .done) mo (by kernel_rfl) fun j6 sv _=>dR z z (fd a_9 z) ?_;refine dR z z (l0 a_b z<|(((((a5.e h1).c G<|djs<|mm1 ho.lt h4.s).e s3).c s6<|djs<|mm1 ho.lt<|lt_ (lt_ h4.s h1.s) G.s).e sv).at z)<|dR z z (fd R_ z)<|dR z z (l0 A_ z<|(ht.e sv).at z) ?_
   obtain ⟨_,eJ,dj⟩:=bdS<|ifT bK aG;have b4:=lt_ J.s h4.s;have cx:∀k∈[wa.z],¬B k:=or0 (d_ lr)<|p_<|zt' H b4;have b5:=lt_ (lt_ b4 h1.s) G.s;have cy:∀k∈[I.z],¬B k:=or0 (d_ lr)<|p_<|zt' H b5;refine dRX z z (at_ (α:=Int) y_ z_3 z z z (a7.g<|((((h1.ag B).c G<|e_ cx).e s3).c s6<|e_ cy).e sv) eJ) ?_;rintro _ ⟨_,_,_,rfl,eK,eL,_⟩;obtain ⟨rfl,_⟩:=T_ eL;refine dR z z (l0 g_3 z<|eK.at0 z) ?_;obtain ⟨eM,eN,dk⟩:=bdS dj;refine dRX z z (at_ (α:=g_) a_3 t_ z z z (a4.g<|((((hn.e h1).c G<|e_ cx).e s3).c s6<|e_ cy).e sv) eN) ?_;rintro _ ⟨_,_,_,rfl,eO,eP,_⟩;obtain ⟨eQ,eR,eS,eT,eU,eV,eW,eX,eY,eZ,f1,f2,rfl,f3,f4,f5,f6,f7,f8,f9⟩:=a_v eP;refine dR z z (lN (vs:=vR eM eQ eR eS eT eU eV eW eX eY eZ f1 f2) D_ t_ z z fid eO)<|dR z z (fd a_F z)<|dR z z (l0 g_3 z<|(((((h5.e h1).c G<|djs<|mmr h5.lt).e s3).c s6<|djs<|mm1 h5.lt<|lt_ h1.s G.s).e sv).at z)<|dM z z z ?_
   have b6:=lt_ (lt_ (lt_ b5 s3.s) s6.s) sv.s;obtain ⟨_,fe,dl⟩:=bdS dk;refine dE z z (fc call126 z<|j_g fe (zt' H b6) f3 f4 f5 f6 f7 f8 f9 aA) (.inr fun _ _ h=>o_<|h.1) ?_;rintro _ _ ⟨b7,_,_,_,_,rfl,ff,fg,fh⟩;obtain ⟨_,fi,dm⟩:=bdS dl;refine dE z z (fN (α:=UInt8) I_ fi z z ff fg<|or_ ((hd.e sv).e b7)<|a_.lt hd) (.inl z) ?_;rintro _ _ ⟨fj,fk,fl,fm,rfl,fo,fp,fq,fr⟩;refine dQ z z z<|pD<|Wo ?_
   obtain rfl:=som dm;have cz:=j_ fh b6;exact Wr<|rtO<|f_ hr z ⟨bM (bup (bup (bM (bup (bM (bup (bup J h4) h1) G<|m1 b4) s3) s6<|m1 b5) sv) b7) fo cz,fk,fl,fm,fj,z,fp,fq,a_l fr cz<|lt_ b6 b7.s⟩
  have bL:=ifF bK aG;refine Ws<|Rq z z z<|Rw z<|Wc z (fun aH=>?_) (fun aH=>?_)
  ·refine Ws<|Rf z Q_ z<|R z (l0 X_ z<|((((h5.e h1).c G<|djs<|mmr h5.lt).e s3).c s6<|djs<|mm1 h5.lt<|lt_ h1.s G.s).at z) ?_
   have b8:=lt_ J.s h4.s;have b9:=lt_ (lt_ b8 h1.s) G.s;refine R z (lnR Y_ z<|V.g<|(((hn.e h1).c G<|e_ (or0 (d_ lr) (p_<|zt' H b8):∀k∈[wa.z],¬B k)).e s3).c s6<|e_ (or0 (d_ lr) (p_<|zt' H b9):∀k∈[I.z],¬B k))<|R z (d_m d_3 d_5 z)<|E z (fS [(.tmp 105)] I_ z z z (a_J z) (lb z)<|lb z) ?_
   rintro _ fs ⟨rfl,ba⟩;have bb:=ba.below;have j7:Blk fs wb.z [(vU<|byteI<|mkB (x3.items.length:Int))]:=ba.blk;refine Rm z ?_;obtain ⟨_,ft,dn⟩:=bdS<|ifT bL aH;refine E z (fN (α:=UInt8) I_ ft z z (b_0 ba a_s) a_e<|or_ (hd.e bb)<|a_.lt hd) ?_;rintro _ _ ⟨fu,fv,fw,fx,rfl,fy,fz,fA,fB⟩;refine Rw z ?_
   obtain rfl:=som dn;have cA:=lt_ (lt_ b9 s3.s) s6.s;have cB:=m1 cA;exact Wr<|rtO<|f_ hr z ⟨bM (bup (bM (bup (bM (bup (bup J h4) h1) G<|m1 b8) s3) s6<|m1 b9) bb) fy cB,fv,fw,fx,fu,z,fz,fA,a_l fB cB<|lt_ cA bb.s⟩
  have bN:=ifF bL aH;refine Ws<|Rq z z z<|Rw z<|Wc z (fun aI=>?_) (fun aI=>?_)
  ·refine Wm z<|Rm z ?_
   obtain ⟨fC,fD,dp⟩:=bdS<|ifT bN aI;refine E z (fc call125 z<|W_w1e (B:=wb.z) fD zr<|a_.rep hd) ?_;rintro _ fE ⟨bc,rfl,_⟩;refine R z (d_m d_3 d_5 z)<|E z (fS [(.tmp 114)] I_ z z z (a_J z) (lb z)<|lb z) ?_
   rintro _ fF ⟨rfl,be⟩;have bf:=be.below;have j8:=b_0 be a_s;obtain ⟨_,fG,dq⟩:=bdS dp;refine E z (b_i (α:=UInt8) I_ fG z z ((hd.e bc).e bf) hw (be.blk:Blk fF fE.z [(vU<|byteI<|mkB fC)]) a_s an_ K_) ?_;rintro _ _ ⟨cC,fH,fI,fJ,rfl,fK,fL,fM,fO⟩;refine Rw z ?_
   obtain rfl:=som dq;have cD:=lt_ J.s h4.s;have cE:=lt_ (lt_ cD h1.s) G.s;have cF:=m1 cE;have cG:=lt_ cE s3.s;have cH:=a_l he cF cG;exact Wr<|rtO<|f_ hr z ⟨bM (bup (bup (bM (bup (bM (bup (bup J h4) h1) G<|m1 cD) s3) s6 cF) bc) bf) fK cH,fH,fI,fJ,cC,z,fL,fM,(or2 fO cH an_ (b_9<|lt_ (lt_ (lt_ cG s6.s) bc.s) bf.s):∀k∈cC,w0.z<=k)⟩
  have bO:=ifF bN aI;refine Ws<|Rq z z z<|Rw z<|Wc z (fun aJ=>?_) (fun aJ=>?_)
  ·refine Wq<|Ws<|Rw z ?_
   obtain ⟨_,dr,bP⟩:=bdS<|ifT bO aJ;refine Wf (σ:=List UInt8) (ρ:=List UInt8) (fun (aw:Nat)(xr:List UInt8) a w=>∃aj nk cl L,Sat 169 [(5,pt wm.z),(7,pt wa.z),(8,sl aj nk cl),(10,vI ((aw:Nat):Int))] a/\Chg (· ∈ S2) wb w/\a_ w L (sl aj nk cl) xr/\L.Nodup/\(∀k∈L,k∈S2∨wb.z<=k)) (fun (xr:List UInt8) a w=>∃aj nk cl L,Sat 169 [(7,pt wa.z),(8,sl aj nk cl)] a/\Chg (· ∈ S2) wb w/\a_ w L (sl aj nk cl) xr/\L.Nodup/\(∀k∈L,k∈S2∨wb.z<=k)) (rQ prog fn<|Q1 w0 B) dr ?_ ?_ ?_ ?_ ?_
   ·exact fun _ q=>⟨ah,ng,ci,S2,q.k<|s4 z z z z,cr S2 wb,hd,hw,io sr⟩
   ·rintro aw xr _ bg _ bQ ⟨aj,nk,cl,L,ds,Y,a0,a1,hz⟩ dt;refine Wu ?_ ds;refine Wq<|Wm z<|Rf z a_B z ?_
    have cI:=lt_ h1.s G.s;have cJ:=mm1 h5.lt cI;have cK:=lt_ cI s3.s;have cL:∀k∈S2,k∉[wm.z]:=or1 he cJ<|S_ (d_ h5.lt) cK;have bh:=((((h5.e h1).c G<|djs<|mmr h5.lt).e s3).c s6<|djs cJ).c Y<|djs cL
    refine R z (l0 J_ z<|bh.at z) ?_;have cN:=lt_ J.s h4.s;have cO:∀k∈[wa.z],¬B k:=or0 (d_ lr)<|p_<|zt' H cN;have cP:=lt_ (lt_ cN h1.s) G.s;have bi:∀k∈[I.z],¬B k:=or0 (d_ lr)<|p_<|zt' H cP;have cQ:=lt_ cP s3.s;have bj:∀k∈S2,¬B k:=or1 he bi<|p_<|zt' H cQ;have bk:=((((hn.e h1).c G<|e_ cO).e s3).c s6<|e_ bi).c Y<|e_ bj
    refine R z (lnR n_ z<|O.g bk)<|Rl z z z<|Wx z (fun _=>?_) (fun hc=>(a_0 bQ hc).elim)
    refine Wk<|Wq<|Wb<|Wq<|Wq ?_
    obtain ⟨fP,du,dv⟩:=bdS dt;refine Wt (fun a w=>∃(bm:Bool),bm=fP/\Sat 169 [(5,pt wm.z),(7,pt wa.z),(8,sl aj nk cl),(10,vI ((aw:Nat):Int)),(143,vB bm)] a/\Below bg.z bg w) ?_ ?_
    ·refine Wd (X:=noX) 0 (pl_ 18 []) mo (by kernel_rfl) fun j9 a2 _=>dR z z (fd a_B z) ?_
     have cR:=bh.e a2;refine dR z z (l0 J_ z<|cR.at z)<|dM z z z ?_
     obtain ⟨fQ,fR,dw⟩:=bdS du;have cS:=O.g<|bk.e a2
     refine dRX z z (at_ (α:=UInt8) n_ z_5 z z z cS fR) ?_;rintro _ ⟨_,_,_,rfl,fT,fU,_⟩;obtain rfl:=u8 fU;refine dR z z (l0 g_5 z<|fT.at0 z)<|dR z z (fd a_Z z) ?_
     refine dR z z (l0 J_ z<|((ht.c Y<|djs (or1 he aO (S_ (d_ a8.lt)<|lt_ G.s s3.s):∀k∈S2,k∉[wa.z])).e a2).at z) ?_;obtain ⟨fV,fW,bR⟩:=bdS dw;refine dRX z z (at_ (α:=UInt8) n_ z_5 z z z (a6.g<|(((((h1.ag B).c G<|e_ cO).e s3).c s6<|e_ bi).c Y<|e_ bj).e a2) fW) ?_;rintro _ ⟨_,_,_,rfl,fX,fY,_⟩;obtain rfl:=u8 fY;refine dR z z (l0 g_5 z<|fX.at0 z)<|dR z z (eql z z)<|dM z z z ?_
     rcases bs ((byteI fQ)==(byteI fV)) with hcf | hcf
     ·iterate 6 refine dRn z z z hcf z ?_
      exact dR z z (pT z hcf z)<|pD (fun _ q=>⟨true,som<|ifT bR hcf,q.k<|s5 z z z z z,a2⟩)
     refine dRg z z z hcf z (fd a_B z)<|dRg z z z hcf z (l0 J_ z<|cR.at z)<|dRg z z z hcf z (mv z) ?_
     obtain ⟨fZ,g0,dx⟩:=bdS<|ifF bR hcf;refine c_n z z z hcf z (at_ (α:=UInt8) n_ z_5 z z z cS g0) ?_;rintro _ ⟨_,_,_,rfl,g1,g2,_⟩;obtain rfl:=u8 g2;exact dRg z z z hcf z (l0 g_5 z<|g1.at0 z)<|dRg z z z hcf z (eql z z)<|dR z z (pF z hcf z)<|pD (fun _ q=>⟨(byteI fZ)==(byteI (92:UInt8)),som dx,q.k<|s5 z z z z z,a2⟩)
    rintro g3 wq ⟨bm,rfl,_,a3⟩;revert g3;refine Wo ?_;obtain ⟨g4,bS,dy⟩:=bdS dv;refine Wt (fun a w=>∃(bn:List UInt8),bn=g4/\∃bo bp bq a9,Sat 169 [(5,pt wm.z),(7,pt wa.z),(8,sl bo bp bq),(10,vI ((aw:Nat):Int))] a/\Chg (· ∈ L) wq w/\a_ w a9 (sl bo bp bq) bn/\a9.Nodup/\(∀k∈a9,k∈L∨wq.z<=k)) ?_ ?_
    ·refine Wc z (fun aK=>?_)<|fun aK=>?_
     ·refine Wg<|Rm z<|E z (fS [(.const<|.int .u8 92)] I_ z z z (a_J z) (lb z)<|lb z) ?_
      rintro _ cT ⟨rfl,br⟩;have bt:=br.below;have ja:=b_0 br<|h_P (x:=(92:UInt8)) z
      obtain ⟨g5,g6,dz⟩:=bdS<|ifT bS aK;refine E z (b_i (α:=UInt8) I_ g6 z z ((a0.e a3).e bt) a1 (br.blk:Blk cT wq.z [(vU<|byteI (92:UInt8))]) (h_P (x:=(92:UInt8)) z) an_ K_) ?_;rintro _ g7 ⟨cU,g8,g9,ga,rfl,gb,gc,ge,gf⟩;refine Ra z<|Wl ?_
      exact fun _ q=>⟨g5,som dz,g8,g9,ga,cU,q.k<|s4 z z z z,(cM (k_ (cr L wq) bt:Chg (· ∈ L) wq cT) gb (io sr):Chg (· ∈ L) wq g7),gc,ge,(or2 gf (io sr) an_ (q_ bt.s):∀k∈cU,k∈L∨wq.z<=k)⟩
     exact a_I<|fun _ q=>⟨xr,som<|ifF bS aK,aj,nk,cl,L,q.k<|s4 z z z z,cr L wq,a0.e a3,a1,io sr⟩
    rintro gg cV ⟨bn,rfl,bo,bp,bq,a9,_,ax,gh,gi,gj⟩;revert gg;refine Wo<|Wg<|Rm z<|Rf z a_B z ?_
    refine R z (l0 J_ z<|((bh.e a3).c ax<|djs (or1 hz cL (S_ (d_ h5.lt)<|lt_ cK s6.s):∀k∈L,k∉[wm.z])).at z)<|Rm z ?_
    obtain ⟨gk,gl,dA⟩:=bdS dy;refine RX z (at_ (α:=UInt8) n_ z_5 z z z (O.g<|(bk.e a3).c ax<|e_ (or1 hz bj (p_<|zt' H<|lt_ cQ s6.s):∀k∈L,¬B k)) gl) ?_;rintro _ ⟨_,_,_,rfl,gm,gn,_⟩;obtain rfl:=u8 gn;refine R z (l0 g_5 z<|gm.at0 z)<|E z (fS [(.tmp 152)] I_ z z z (a_J z) (lb z)<|lb z) ?_
    rintro _ cW ⟨rfl,bu⟩;have bv:=bu.below;have jb:=b_0 bu a_s;obtain ⟨gp,gq,dB⟩:=bdS dA;refine E z (b_i (α:=UInt8) I_ gq z z (gh.e bv) gi (bu.blk:Blk cW cV.z [vU (byteI gk)]) a_s an_ K_) ?_;rintro _ gr ⟨cX,gs,gt,gu,rfl,gv,gw,gx,gy⟩;refine Rw z<|Wg<|Rm z<|R z (inc_ bQ (lt_ (repS.len O) G_) z z)<|Ra z<|Wl ?_
    have cY:=lt_ Y.s a3.s;have cZ:∀k∈L,k∈S2∨wb.z<=k:=or1 hz (io sr)<|q_ lr;have d0:∀k∈a9,k∈S2∨wb.z<=k:=or1 gj cZ<|q_ cY;exact fun _ q=>⟨gp,(som dB).symm,⟨gs,gt,gu,cX,q.k<|s4 z z z z,(cM (k_ (cM (k_ (cM (cr S2 wb) Y (io sr):Chg (· ∈ S2) wb bg) a3:Chg (· ∈ S2) wb wq) ax cZ:Chg (· ∈ S2) wb cV) bv:Chg (· ∈ S2) wb cW) gv d0:Chg (· ∈ S2) wb gr),gw,gx,(or2 gy d0 an_ (q_<|lt_ (lt_ cY ax.s) bv.s):∀k∈cX,k∈S2∨wb.z<=k)⟩⟩
   ·rintro xr _ gz ⟨aj,nk,cl,L,dC,bw,a0,a1,hz⟩;refine Wu ?_ dC;refine Wq<|Wm z<|Rf z a_B z ?_
    have d1:=lt_ h1.s G.s;have d2:=mm1 h5.lt d1;refine R z (l0 J_ z<|(((((h5.e h1).c G<|djs<|mmr h5.lt).e s3).c s6<|djs d2).c bw<|djs (or1 he d2 (S_ (d_ h5.lt)<|lt_ d1 s3.s):∀k∈S2,k∉[wm.z])).at z) ?_;have d3:=lt_ J.s h4.s;have d4:=lt_ (lt_ d3 h1.s) G.s;have d5:∀k∈[I.z],¬B k:=or0 (d_ lr)<|p_<|zt' H d4;refine R z (lnR n_ z<|O.g<|((((hn.e h1).c G<|e_ (or0 (d_ lr) (p_<|zt' H d3):∀k∈[wa.z],¬B k)).e s3).c s6<|e_ d5).c bw<|e_ (or1 he d5 (p_<|zt' H<|lt_ d4 s3.s):∀k∈S2,¬B k))<|Rl z z z<|Wx z (fun hc=>(a_1 hc).elim) (fun _=>?_)
    exact We<|fun _ q=>⟨rfl,⟨aj,nk,cl,L,q.k<|s2 z z,(cM (cr S2 wb) bw (io sr):Chg (· ∈ S2) wb gz),a0,a1,(or1 hz (io sr) (q_ lr):∀k∈L,k∈S2∨wb.z<=k)⟩⟩
   ·rintro xr gA gB rfl ⟨aj,nk,cl,L,_,ay,a0,a1,hz⟩;have dD:=elL bP;revert gA;refine Wo<|Wm z<|Rf z a_Z z ?_
    refine R z (l0 J_ z<|(ht.c ay<|djs (or1 he aO (S_ (d_ a8.lt)<|lt_ G.s s3.s):∀k∈S2,k∉[wa.z])).at z) ?_;obtain ⟨gC,gD,dF⟩:=bdS dD;have bx:=lt_ J.s h4.s;have bz:=lt_ (lt_ bx h1.s) G.s;have d6:∀k∈[I.z],¬B k:=or0 (d_ lr)<|p_<|zt' H bz;have bA:=lt_ bz s3.s;refine RX z (at_ (α:=UInt8) n_ z_5 z z z (a6.g<|((((h1.ag B).c G<|e_ (or0 (d_ lr) (p_<|zt' H bx):∀k∈[wa.z],¬B k)).e s3).c s6<|e_ d6).c ay<|e_ (or1 he d6 (p_<|zt' H bA):∀k∈S2,¬B k)) gD) ?_;rintro _ ⟨_,_,_,rfl,gE,gF,_⟩;obtain rfl:=u8 gF;refine R z (l0 g_5 z<|gE.at0 z)<|E z (fS [(.tmp 159)] I_ z z z (a_J z) (lb z)<|lb z) ?_
    rintro _ gG ⟨rfl,bB⟩;have bC:=bB.below;have jc:=b_0 bB a_s;obtain ⟨_,gH,dG⟩:=bdS dF;refine E z (b_i (α:=UInt8) I_ gH z z (a0.e bC) a1 (bB.blk:Blk gG gB.z [vU (byteI gC)]) a_s an_ K_) ?_;rintro _ _ ⟨d7,gI,gJ,gK,rfl,gL,gM,gN,gO⟩;refine Rw z ?_
    obtain rfl:=som dG;have d8:=m1 bz;have d9:=a_l he d8 bA;have da:=lt_ bA s6.s;have db:=a_l hz d9 da;exact Wr<|rtO<|f_ hr z ⟨bM (bup (bM (bM (bup (bM (bup (bup J h4) h1) G<|m1 bx) s3) s6 d8) ay d9) bC) gL db,gI,gJ,gK,d7,z,gM,gN,(or2 gO db an_ (b_9<|lt_ (lt_ da ay.s) bC.s):∀k∈d7,w0.z<=k)⟩
   rintro _ _ _ _ rfl ⟨rfl,dH⟩;have dI:=elR bP;obtain rfl:=som dI;exact ⟨dH,z⟩
  have bT:=ifF bO aJ;refine Ws<|Rq z z z<|Rw z<|Wc z (fun aL=>?_) (fun aL=>?_)
  ·refine Ws<|E z (f0 (α:=UInt8) I_) ?_
   rintro _ _ ⟨_,_,_,rfl,az,gP⟩;refine Rf z a_B z<|R z (l0 J_ z<|(((((h5.e h1).c G<|djs<|mmr h5.lt).e s3).c s6<|djs<|mm1 h5.lt<|lt_ h1.s G.s).e az).at z) ?_
   obtain ⟨_,gQ,dJ⟩:=bdS<|ifT bT aL;have bD:=lt_ J.s h4.s;have bE:=lt_ (lt_ bD h1.s) G.s;refine E z (fN (α:=UInt8) I_ gQ z z gP a_e<|O.g<|((((hn.e h1).c G<|e_ (or0 (d_ lr) (p_<|zt' H bD):∀k∈[wa.z],¬B k)).e s3).c s6<|e_ (or0 (d_ lr) (p_<|zt' H bE):∀k∈[I.z],¬B k)).e az) ?_;rintro _ _ ⟨gR,gS,gT,gU,rfl,gV,gW,gX,gY⟩;refine Rw z ?_
   obtain rfl:=som dJ;have dc:=lt_ (lt_ bE s3.s) s6.s;have dd:=m1 dc;exact Wr<|rtO<|f_ hr z ⟨bM (bup (bM (bup (bM (bup (bup J h4) h1) G<|m1 bD) s3) s6<|m1 bE) az) gV dd,gS,gT,gU,gR,z,gW,gX,a_l gY dd<|lt_ dc az.s⟩
  refine Wk<|Wm z<|Rw z ?_
  obtain rfl:=som<|ifF bT aL;have de:=lt_ J.s h4.s;have df:=lt_ (lt_ de h1.s) G.s;have dg:=m1 df;exact Wr<|f_ hr z ⟨bM (bup (bM (bup (bup J h4) h1) G<|m1 de) s3) s6 dg,ah,ng,ci,S2,z,hd,hw,a_l he dg<|lt_ df s3.s⟩
 rintro _ _ _ _ rfl ⟨rfl,dK⟩;have dL:=elR bF;obtain rfl:=som dL;exact ⟨dK,z⟩
theorem A_w0l:∀n,n_r n
  | 0=>⟨fun hm=>by intros;exact nomatch (show none=some _ from hm)⟩
  | n+1=>T_w0l<|A_w0l n
theorem W_w0l:k_G (e_a n).spec_l11Print:=A_w0l n
def Q11 (w0:World)(B:Zone)(r:(List UInt8)×Bool)(v:Value)(w':World):Prop:=Bw w0 w'/\un2 (fun J L=>∃G H I S1,v = .tuple #[sl G H I,vB L]/\a_ w' S1 (sl G H I) J/\S1.Nodup/\(∀k∈S1,w0.z<=k)) r
theorem W_w31 {x1:c_}{x2:Int}{x3:Val}{res:(List UInt8)×Bool}(hm:j_0 n x1 x2 x3=some res)(a0:B<=w0.z)(L:repS w0 B (sl A0 N0 C0) x1.rules)(O:inI x2)(V:inI x3.number)(W:repS w0 B (sl A5 N5 C5) x3.bytes)(Y:repS w0 B (sl A7 N7 C7) x3.items):l_ prog 52 [(.agg #[sl A0 N0 C0]),vI x2,(.agg #[vI x3.number,sl A5 N5 C5,sl A7 N7 C7])] w0 (Q11 w0 B res):=by
 unfold j_0 at hm
 refine goG func52 z z z fun fn hr=>Ws<|E z (fb z) ?_
 rintro _ wa ⟨rfl,hb⟩;have h2:=hb.below;refine E z (fb z) ?_;rintro _ wj ⟨rfl,hc⟩;have h1:=hc.below;have hd:Blk wj wa.z [vI x3.number,sl A5 N5 C5,sl A7 N7 C7]:=hc.blk;refine Ra z<|Rw z<|Wq<|Ws ?_
 have he:=(hb.blk:Blk wa w0.z [sl A0 N0 C0]).e h1;refine R z (lN (vs:=[sl A0 N0 C0]) w_ v_ z z fid<|he.row 0 1 z)<|Rm z<|R z (lN (vs:=[vI x3.number,sl A5 N5 C5,sl A7 N7 C7]) i_ b_ z z fid<|hd.row 0 3 z) ?_
 have h3:=(h2.ag B).e h1;have h4:=lt_ h2.s h1.s;obtain ⟨_,ek,hmf⟩:=bdS hm;refine E z (fc call35 z<|W_w1k ek (zt' a0 h4) (L.g h3) O V (W.g h3)<|Y.g h3) ?_;rintro _ wl ⟨G,rfl⟩;refine R z (not_ z)<|Wx z (fun H=>?_) (fun H=>?_)
 ·refine Ws<|E z (f0 (α:=UInt8) I_) ?_
  rintro _ _ ⟨am,nn,co,rfl,sp,hq⟩;refine Ra z<|Rw z ?_
  obtain rfl:=som<|ifT hmf H;exact Wr<|F_ hr z z ⟨bup (bup (bup h2 h1) G) sp,am,nn,co,[wl.z],z,hq,a_e,m1<|lt_ h4 G.s⟩
 refine Wk<|Ws<|R z (lN (vs:=[sl A0 N0 C0]) w_ v_ z z fid<|(he.e G).row 0 1 z)<|Rm z<|R z (lN (vs:=[vI x3.number,sl A5 N5 C5,sl A7 N7 C7]) i_ b_ z z fid<|(hd.e G).row 0 3 z) ?_
 have h6:=h3.e G;have J:=lt_ h4 G.s;obtain ⟨_,er,hmg⟩:=bdS<|ifF hmf H;refine E z (fc call94 z<|W_w0l.run er (zt' a0 J) (L.g h6) O V (W.g h6)<|Y.g h6) ?_;rintro _ ws ⟨s8,au,nt,cv,Sw,rfl,hh,hx,hy⟩;refine Rw z<|Wq<|Wm z<|R z (lnR n_ z<|a_.rep hh)<|R z (a_C z z)<|Wx z (fun I=>?_) (fun I=>?_)
 ·refine Ws<|E z (f0 (α:=UInt8) I_) ?_
  rintro _ _ ⟨az,a1,a2,rfl,a3,a4⟩;refine Ra z<|Rw z ?_
  obtain rfl:=som<|ifT hmg I;exact Wr<|F_ hr z z ⟨bup (bup (bup (bup h2 h1) G) s8) a3,az,a1,a2,[ws.z],z,a4,a_e,m1<|lt_ J s8.s⟩
 refine Wk<|Wm z<|Ra z<|Rw z ?_
 obtain rfl:=som<|ifF hmg I;exact Wr<|F_ hr z z ⟨bup (bup (bup h2 h1) G) s8,au,nt,cv,Sw,z,hh,hx,j_ hy J⟩
theorem W_w32 {x1:c_}{x2:Val}{res:(List UInt8)×Bool}(hm:g_M n x1 x2=some res)(I:B<=w0.z)(H:repS w0 B (sl A0 N0 C0) x1.rules)(W:inI x2.number)(Y:repS w0 B (sl AA NA CA) x2.bytes)(a0:repS w0 B (sl AF NF CF) x2.items):l_ prog 32 [(.agg #[sl A0 N0 C0]),(.agg #[vI x2.number,sl AA NA CA,sl AF NF CF])] w0 (Q11 w0 B res):=by
 unfold g_M at hm
 refine goG func32 z z z fun fn hr=>Ws<|E z (fb z) ?_
 rintro _ J ⟨rfl,h6⟩;have h2:=h6.below;refine E z (fb z) ?_;rintro _ wd ⟨rfl,L⟩;have h1:=L.below;refine Ra z<|Rw z<|Wq (Wd (X:=noX) 0 (.rd 0<|.rd 1<|.rd 3<|.ef 2<|.ef 4<|.rd 5<|.rd 6<|.rd 7<|.rd 8 .done) mo (by kernel_rfl) fun wr G _=>?_)
 have O:=((h6.blk:Blk J w0.z [sl A0 N0 C0]).e h1).e G;refine dR z z (lN (vs:=[sl A0 N0 C0]) w_ v_ z z fid<|O.row 0 1 z)<|dR z z (lN (vs:=[sl A0 N0 C0]) w_ v_ z z fid<|O.row 0 1 z)<|dR z z (lN (vs:=[vI x2.number,sl AA NA CA,sl AF NF CF]) i_ b_ z z fid<|((L.blk:Blk wd J.z [vI x2.number,sl AA NA CA,sl AF NF CF]).e G).row 0 3 z) ?_
 have V:=((h2.ag B).e h1).e G;have ha:=lt_ (lt_ h2.s h1.s) G.s;obtain ⟨_,eg,hmf⟩:=bdS hm;refine dE z z (fc call15 z<|e_4 eg (zt' I ha)<|H.g V) (.inr fun _ _ h=>o_<|h.1) ?_;rintro _ _ ⟨s3,rfl,hh⟩;have h4:=V.e s3;have hb:=lt_ ha s3.s;obtain ⟨_,_,ei,hmj⟩:=V_ hmf;refine dE z z (fc call52 z<|W_w31 ei (zt' I hb) (H.g h4) hh W (Y.g h4)<|a0.g h4) (.inr fun _ _ h=>o_<|h.1) ?_;rintro _ _ ⟨sk,al,nm,cn,So,rfl,hp,hq,ht⟩;refine dR z z (ext_ z z)<|dR z z (ext_ z z)<|dQ z z z<|dQ z z z<|pD<|Wo ?_
 obtain rfl:=som hmj;exact Wr<|F_ hr z z ⟨bup (bup (bup (bup h2 h1) G) s3) sk,al,nm,cn,So,z,hp,hq,j_ ht hb⟩
theorem W_w1m {x1:c_}{x2:List UInt8}{res:(List UInt8)×Bool}(hm:e_M n x1 x2=some res)(V:B<=w0.z)(O:repS w0 B (sl A0 N0 C0) x1.rules)(W:repS w0 B (sl A6 N6 C6) x2):l_ prog 13 [(.agg #[sl A0 N0 C0]),sl A6 N6 C6] w0 (Q11 w0 B res):=by
 unfold e_M at hm
 refine goG func13 z z z fun fn hr=>Ws<|E z (fb z) ?_
 rintro _ wm ⟨rfl,ha⟩;have h2:=ha.below;have h4:Blk wm w0.z [sl A0 N0 C0]:=ha.blk;refine Ra z<|Rw z<|Ws<|R z (lN (vs:=[sl A0 N0 C0]) w_ v_ z z fid<|h4.row 0 1 z)<|Rm z ?_
 obtain ⟨rb,_,_,en,hmc⟩:=O_ hm;refine E z (fc call12 z<|j_f en (zt' V h2.s) (O.e h2)<|W.e h2) ?_;rintro _ I ⟨s3,ad,ne,cf,_,ah,ng,ci,_,rfl,ho,h6,J,_,_,_,_⟩;refine Rm z ?_
 iterate 3 refine Re z z z ?_
 refine E z (fa E_) ?_;rintro _ wp ⟨rfl,hj⟩;have G:=hj.below;refine E0 (fs0 (cur':=[vI rb.number,sl ad ne cf,sl ah ng ci]) b_ z z (hj.blk:Blk wp I.z [vI 0,sl none 0 0,sl none 0 0]) z z z z) ?_;rintro _ wr ⟨ht,ss⟩;have h1:=ss.one;refine Ra z<|Rw z<|Wq<|Wm z<|R z (nq z z)<|Wx z (fun H=>?_) (fun H=>?_)
 ·refine Ws<|E z (f0 (α:=UInt8) I_) ?_
  rintro _ _ ⟨au,nv,cw,rfl,sx,hy⟩;refine Ra z<|Rw z ?_
  obtain rfl:=som<|ifT hmc H;have hk:=lt_ h2.s s3.s;exact Wr<|F_ hr z z ⟨bup (bM (bup (bup h2 s3) G) h1<|m1 hk) sx,au,nv,cw,[wr.z],z,hy,a_e,m1<|lt_ (lt_ hk G.s) h1.s⟩
 refine Wk<|Ws<|R z (lN (vs:=[sl A0 N0 C0]) w_ v_ z z fid<|(((h4.e s3).e G).c h1<|djs<|mm1 h4.lt s3.s).row 0 1 z)<|R z (lN (vs:=[vI rb.number,sl ad ne cf,sl ah ng ci]) i_ b_ z z fid<|ht.row 0 3 z) ?_
 have L:=lt_ h2.s s3.s;have hl:=zt' V L;obtain ⟨_,_,a0,Y⟩:=V_<|ifF hmc H;refine E z (fc call32 z<|W_w32 (B:=I.z) a0 (M_<|lt_ G.s h1.s) (repS.mono (O.g<|(((h2.ag B).e s3).e G).c h1<|e_ (or0 (d_ lr) (p_ hl):∀k∈[I.z],¬B k)) hl) ho (or_ ((h6.e G).c h1<|ds<|mnr<|a_.lt h6)<|a_.lt h6)<|or_ ((J.e G).c h1<|ds<|mnr<|a_.lt J)<|a_.lt J) ?_;rintro _ _ ⟨a1,a2,a3,a4,a5,rfl,a6,a7,a8⟩;refine Re z z z<|Re z z z<|Ra z<|Rw z ?_
 obtain rfl:=som Y;exact Wr<|F_ hr z z ⟨bup (bM (bup (bup h2 s3) G) h1<|m1 L) a1,a2,a3,a4,a5,z,a6,a7,j_ a8<|lt_ (lt_ L G.s) h1.s⟩
def Q12 (w0:World)(B:Zone)(r:Str)(v:Value)(w':World):Prop:=Bw w0 w'/\(fun G=>(Str.v G)=v/\G.b.length<=LEN) r
theorem W_w1n {x1:Int}{res:Str}(hm:f_l n x1=some res)(V:B<=w0.z)(O:inI x1):l_ prog 59 [vI x1] w0 (Q12 w0 B res):=by
 unfold f_l at hm
 refine goG func59 z z z fun fn hr=>Ws<|Rw z<|Wq<|Wm z<|Rq z z z<|Wx z (fun H=>?_) (fun H=>?_)
 ·refine Ws<|Rw z ?_
  obtain rfl:=som<|ifT hm H;exact Wr<|f_ hr z ⟨br w0,z,lb z⟩
 refine Wk<|Ws<|Rw z<|Wq<|Wm z<|Rw z ?_
 obtain ⟨_,huj,hmb⟩:=bdS<|ifF hm H;refine b_S (σ:=Str×Int) (ρ:=Str) (fun s a w=>un2 (fun x2 x0=>Sat 31 [(0,vI x1),(3,Str.v x2),(4,vI x0)] a/\Below w0.z w0 w/\x2.b.length<=LEN/\inI x0) s) (fun s a w=>un2 (fun x2 x0=>Sat 31 [(0,vI x1),(3,Str.v x2)] a/\Below w0.z w0 w/\x2.b.length<=LEN/\inI x0) s) (rQ prog fn<|Q12 w0 B) huj ?_ ?_ ?_ ?_
 ·exact fun _ q=>⟨q.k<|s3 z z z,br w0,lb z,O⟩
 ·rintro ⟨x2,x0⟩ _ G _ ⟨hSk,sc,h5,h6⟩ hml;have hmd:=a_t hml;refine Wu ?_ hSk;refine Wq<|Wm z<|R z (nq z z)<|Wx z (fun I=>?_) (fun I=>?_)
  ·refine Wk<|Wq<|Wb<|Wm z<|R z (g_n z z (by decide))<|Rw z<|Wq<|Wm z<|Rl z z z<|Wn ?_
   obtain ⟨um,hue,hmn⟩:=bdS<|ifT hmd I;refine Wt (fun a w=>∃(x3:Int),x3=um/\Sat 31 [(0,vI x1),(3,Str.v x2),(4,vI x0),(5,vI x3)] a/\Below G.z G w/\inI x3) ?_ ?_
   ·refine Wc z (fun J=>?_)<|fun J=>?_
    ·exact Wg<|Rm z<|R z (rd_neg z)<|Ra z<|Wl (fun _ q=>⟨f_0<|b_2 x0 10,som<|ifT hue J,q.k<|s4 z z z z,br G,o_4 _⟩)
    exact a_I<|fun _ q=>⟨b_2 x0 10,som<|ifF hue J,q.k<|s4 z z z z,br G,j_A h6⟩
   rintro ao wp ⟨x3,rfl,_,sq,_⟩;revert ao;refine Wo<|Wg<|Rm z<|R z (add_ z z)<|R z (d_m d_3 d_5 z)<|E z (fS [(.tmp 21)] I_ z z z (a_J z) (lb z)<|lb z) ?_
   rintro _ wr ⟨rfl,L⟩;have W:Blk wr wp.z [(vU<|byteI<|mkB<|m_ 48 x3)]:=L.blk;refine R z (i_i n_ d_9 d_5 z_5 z<|a_.rep<|b_0 L a_s)<|Rm z ?_
   obtain ⟨xs,ef,hmt⟩:=bdS hmn;exact R z (a_o z z ef)<|Rw z<|Wg<|Rm z<|R z (l_N z z (by decide))<|Ra z<|Wl (fun _ q=>⟨(xs,c_C x0 10),(som hmt).symm,⟨q.k<|s3 z z z,bup (bup sc sq) L.below,b_8 ef,o_3 _ _⟩⟩)
  exact We<|fun _ q=>b_F (som<|ifF hmd I).symm ⟨q.k<|s2 z z,sc,h5,h6⟩
 ·rintro ⟨x2,x0⟩ au _ rfl ⟨_,sg,h5,h6⟩;have hmv:=elL hmb;have hmh:=a_t hmv;revert au;refine Wo<|Wq<|Wm z<|Rl z z z<|Wx z (fun hca=>?_) (fun hca=>?_)
  ·refine Wm z ?_
   obtain ⟨_,ei,hmw⟩:=bdS<|ifT hmh hca;refine R z (a_o z z ei)<|Rw z ?_
   obtain rfl:=som hmw;exact Wr<|f_ hr z ⟨sg,z,b_8 ei⟩
  refine Wk<|Wm z<|Rw z ?_
  obtain rfl:=som<|ifF hmh hca;exact Wr<|f_ hr z ⟨sg,z,h5⟩
 rintro _ _ _ _ rfl ⟨rfl,hqx⟩;have hmy:=elR hmb;obtain rfl:=som hmy;exact ⟨hqx,z⟩
theorem W_w33 {x1:Int}{x2:Str}{x3:Str}{x4:Str}{res:Str}(hm:j_b n x1 x2 x3 x4=some res)(I:B<=w0.z)(H:inI x1)(a0:x2.b.length<=LEN)(a1:x3.b.length<=LEN)(a2:x4.b.length<=LEN):l_ prog 60 [vI x1,Str.v x2,Str.v x3,Str.v x4] w0 (Q12 w0 B res):=by
 unfold j_b at hm
 refine goG func60 z z z fun fn hr=>Ws<|Rw z<|Wm z ?_
 obtain ⟨_,W,J⟩:=bdS hm;refine E z (fc call59 z<|W_w1n (B:=B) W I H) ?_;rintro _ _ ⟨s3,rfl,_⟩;refine Rm z ?_;obtain ⟨_,Y,L⟩:=bdS J;refine R z (a_o z z Y)<|Rm z ?_
 obtain ⟨_,e6,O⟩:=bdS L;refine R z (a_o z z e6)<|Rm z ?_
 obtain ⟨_,G,V⟩:=bdS O;refine R z (a_o z z G)<|Rw z ?_
 obtain rfl:=som V;exact Wr<|f_ hr z ⟨s3,z,b_8 G⟩
theorem W_w34 {x1:List UInt8}{res:Str}(hm:h_s x1=some res)(O:B<=w0.z)(G:repS w0 B (sl A0 N0 C0) x1):l_ prog 61 [sl A0 N0 C0] w0 (Q12 w0 B res):=by
 unfold h_s at hm
 refine goG func61 z z z fun fn hr=>Ws<|Rw z<|Ws<|Rw z<|Ws<|Rw z<|Wq<|Ws<|Rw z ?_
 obtain ⟨_,L,H⟩:=bdS hm;refine Wf (σ:=Str) (ρ:=Str) (fun (k4:Nat)(x0:Str) a w=>Sat 40 [(0,sl A0 N0 C0),(3,Str.v (⟨[48,49,50,51,52,53,54,55,56,57,97,98,99,100,101,102]⟩:Str)),(4,Str.v x0),(5,vI ((k4:Nat):Int))] a/\Below w0.z w0 w/\x0.b.length<=LEN) (fun (x0:Str) a w=>Sat 40 [(4,Str.v x0)] a/\Below w0.z w0 w/\x0.b.length<=LEN) (rQ prog fn<|Q12 w0 B) L ?_ ?_ ?_ ?_ ?_
 ·exact fun _ q=>⟨q.k<|s4 z z z z,br w0,lb z⟩
 ·rintro k4 x0 _ _ _ I ⟨hSa,s6,h1⟩ hmb;refine Wu ?_ hSa;refine Wq<|Wm z<|Rm z ?_
  have h2:=G.e s6;refine R z (lnR n_ z h2)<|Rl z z z<|Wx z (fun _=>?_) (fun hc=>(a_0 I hc).elim)
  refine Wk<|Wq<|Wb<|Wm z<|Rm z ?_
  obtain ⟨_,ec,hmd⟩:=bdS hmb;refine RX z (at_ (α:=UInt8) n_ z_5 z z z h2 ec) ?_;rintro _ ⟨_,_,_,rfl,he,hf,_⟩;obtain rfl:=u8 hf;refine R z (l0 g_5 z<|he.at0 z)<|R z (b_E d_5 d_3 z)<|R z (l_N z z (by decide))<|Rw z<|Wm z<|Rm z ?_
  obtain ⟨_,eg,hmh⟩:=bdS hmd;refine RX z (at_ (α:=UInt8) n_ z_5 z z z h2 eg) ?_;rintro _ ⟨_,_,_,rfl,hi,hj,_⟩;obtain rfl:=u8 hj;refine R z (l0 g_5 z<|hi.at0 z)<|R z (b_E d_5 d_3 z)<|R z (g_n z z (by decide))<|Ra z<|Wn (Wd (X:=noX) 0 (pl_ 14 []) mo (by kernel_rfl) fun V sk _=>?_)
  iterate 4 refine dM z z z ?_
  refine dR z z (add_ z z) ?_;obtain ⟨_,el,hmm⟩:=bdS hmh;refine dR z z (i_r d_9 z z z (lb z) el) ?_;obtain ⟨_,en,hmo⟩:=bdS hmm;refine dR z z (a_o z z en) ?_
  iterate 3 refine dM z z z ?_
  refine dR z z (add_ z z) ?_;obtain ⟨_,ep,hmq⟩:=bdS hmo;refine dR z z (i_r d_9 z z z (lb z) ep) ?_;obtain ⟨xr,J,hms⟩:=bdS hmq;exact dR z z (a_o z z J)<|dQ z z z<|pD<|Wo<|Wg<|Rm z<|R z (inc_ I (lt_ (repS.len G) G_) z z)<|Ra z<|Wl (fun _ q=>⟨xr,(som hms).symm,⟨q.k<|s4 z z z z,bup s6 sk,b_8 J⟩⟩)
 ·rintro x0 _ _ ⟨hSt,s8,h1⟩;refine Wu ?_ hSt;refine Wq<|Wm z<|Rm z<|R z (lnR n_ z<|G.e s8)<|Rl z z z<|Wx z (fun hc=>(a_1 hc).elim) (fun _=>?_)
  exact We<|fun _ q=>⟨rfl,⟨q.k<|s1 z,s8,h1⟩⟩
 ·rintro x0 au _ rfl ⟨_,sv,h1⟩;have hmw:=elL H;revert au;refine Wo<|Wm z<|Rw z ?_
  obtain rfl:=som hmw;exact Wr<|f_ hr z ⟨sv,z,h1⟩
 rintro _ _ _ _ rfl ⟨rfl,hqx⟩;have hmy:=elR H;obtain rfl:=som hmy;exact ⟨hqx,z⟩
structure k_H (f:c_->Int->Val->Option Str):Prop where
  run:∀{A0 A5 A7:Option Addr}{N0 C0 N5 C5 N7 C7:Nat}{B:Zone}{x1:c_}{x2:Int}{x3:Val}{res:Str}{w0:World}(hm:f x1 x2 x3=some res)(hBw:B<=w0.z)(p1_0:repS w0 B (sl A0 N0 C0) x1.rules)(p2_0:inI x2)(p3_0:inI x3.number)(p3_1:repS w0 B (sl A5 N5 C5) x3.bytes)(p3_2:repS w0 B (sl A7 N7 C7) x3.items),l_ prog 36 [(.agg #[sl A0 N0 C0]),vI x2,(.agg #[vI x3.number,sl A5 N5 C5,sl A7 N7 C7])] w0<|Q12 w0 B res
structure k_I (f:c_->g_->Val->Option Str):Prop where
  run:∀{A0 A3 A2 A1 A4 A5 A7:Option Addr}{N0 C0 N3 C3 N2 C2 N1 C1 N4 C4 N5 C5 N7 C7:Nat}{B:Zone}{x1:c_}{x2:g_}{x3:Val}{res:Str}{w0:World}(hm:f x1 x2 x3=some res)(hBw:B<=w0.z)(p1_0:repS w0 B (sl A0 N0 C0) x1.rules)(p2_0:x2.name.b.length<=LEN)(p2_1:inI x2.kind)(p2_2:inI x2.size)(p2_4:repS w0 B (sl A3 N3 C3) x2.bytes)(p2_5:repS w0 B (sl A2 N2 C2) x2.names)(p2_6:repS w0 B (sl A1 N1 C1) x2.tags)(p2_7:repS w0 B (sl A4 N4 C4) x2.kids)(p3_0:inI x3.number)(p3_1:repS w0 B (sl A5 N5 C5) x3.bytes)(p3_2:repS w0 B (sl A7 N7 C7) x3.items),l_ prog 58 [(.agg #[sl A0 N0 C0]),.agg #[Str.v x2.name,vI x2.kind,vI x2.size,vB x2.little,sl A3 N3 C3,sl A2 N2 C2,sl A1 N1 C1,sl A4 N4 C4],(.agg #[vI x3.number,sl A5 N5 C5,sl A7 N7 C7])] w0<|Q12 w0 B res
abbrev k_J (n:Nat):Prop:=k_H (b_g n).spec_l10Text/\k_I (b_g n).spec_l10List
end Go.Vw
