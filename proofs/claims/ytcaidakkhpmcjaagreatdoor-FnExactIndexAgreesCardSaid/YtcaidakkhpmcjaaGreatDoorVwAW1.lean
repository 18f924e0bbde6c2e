
import Derived.Test.YtcaidakkhpmcjaaGreatDoorVmB
import Derived.Lib.Join
import Derived.Test.YtcaidakkhpmcjaaGreatDoorVwAFacts
import Derived.Test.YtcaidakkhpmcjaaGreatDoorVwAExt
import Derived.Laws.CopyRow
import Derived.Laws.IdiomStrings
import Derived.Lib.AppendStr
import Derived.Recover
import Derived.Tactics
import Derived.Tactics2
import Derived.Laws.Pointers
import Derived.Lib.Hide
set_option linter.unusedVariables false
namespace Go.Vw
open Go.RowKit Dat Go.Proofs
open Go.Proofs.Tryz
open Go.Vw renaming a_S->Wq,b_o->Wg,WC.of_KC->Wo,a_T->Wl,c_S->Wc,d_F->Wr,g_k->Wu,i_m->pT,i_n->pF,g_o->fd,c_g->l1,i_D->lN,b_O->mv,d_p->asg,g_f->lnR,f_f->lss,g_s->eql,g_p->ext_,i_p->bP,g_q->add_,g_b->inc_,e_w->not_,g_g->at_,e_Z->fc,b_z->fs,e_Y->fb,e_n->fa,i_g->sr,i_k->cr,i_l->cM,d_l->bM,i_7->iS,i_6->iA,i_9->br,b_L->oA,i_c->bs,ltge->lg,inor->io,g_t->nq,i_E->lnT,i_F->sb_,i_e->ar_,i_d->al_,i_f->ds,j_6->m1,i_i->nr_,i_h->nl_,g_d->aa_,all_nil->an_,d_G->Wb,g_c->u8,i_3->pD,g_7->We,i_8->Wt,g_a->fS,e_Q->or_,i_y->Wf,i_u->qL,i_2->Wd,i_q->fN,g_e->na_,i_j->nj,f_7->f0,i_o->rX,i_r->tl_,i_s->ic
variable {A0:Option Addr}{N0 C0:Nat}{B:Zone}{w0:World}{AD:Option Addr}{A8:Option Addr}{AE:Option Addr}{AF:Option Addr}{ND CD:Nat}{N8 C8:Nat}{NE CE:Nat}{NF CF:Nat}{A3:Option Addr}{A4:Option Addr}{A2:Option Addr}{A5:Option Addr}{N3 C3:Nat}{N4 C4:Nat}{N2 C2:Nat}{N5 C5:Nat}{A7:Option Addr}{N7 C7:Nat}{A6:Option Addr}{N6 C6:Nat}{n:Nat}{AA:Option Addr}{AB:Option Addr}{NA CA:Nat}{NB CB:Nat}{A9:Option Addr}{AG:Option Addr}{N9 C9:Nat}{NG CG:Nat}{A1:Option Addr}{N1 C1:Nat}
def Q0 (w0:World)(B:Zone)(r:Int)(v:Value)(w':World):Prop:=Bw w0 w'/\(fun G=>(vI G)=v/\inI G) r
theorem W_w27 {x1:List UInt8}{x2:Int}{res:Int}(hm:j_7 x1 x2=some res)(J:B<=w0.z)(H:repS w0 B (sl A0 N0 C0) x1)(I:inI x2):i_ prog 54 [sl A0 N0 C0,vI x2] w0 (Q0 w0 B res):=by
 unfold j_7 at hm
 refine goG func54 z z z fun fn hr=>Ws<|Rw z<|Wm z<|Rm z<|R z (lnR o_ z H)<|R z (sb_ z z)<|Rw z<|Wq<|Wm z<|Rl z z z<|Wx z (fun G=>?_) (fun G=>?_)
 ·refine Ws<|Rw z ?_
  obtain rfl:=som<|ifT hm G;exact Wr<|d_ hr z ⟨br w0,z,ii z⟩
 refine Wk<|Wm z<|Rw z ?_
 obtain rfl:=som<|ifF hm G;exact Wr<|d_ hr z ⟨br w0,z,iS _ _⟩
theorem W_w28 {x1:List Str}{x2:Int}{res:Int}(hm:g_S x1 x2=some res)(Y:B<=w0.z)(G:repS w0 B (sl A0 N0 C0) x1)(W:inI x2):i_ prog 55 [sl A0 N0 C0,vI x2] w0 (Q0 w0 B res):=by
 unfold g_S at hm
 refine goG func55 z z z fun fn hr=>Ws<|Rw z<|Wm z<|Rm z<|R z (lnR T_ z G)<|R z (sb_ z z)<|Rw z<|Wq<|Wm z<|Rl z z z<|Wx z (fun H=>?_) (fun H=>?_)
 ·refine Ws<|Rw z ?_
  obtain rfl:=som<|ifT hm H;exact Wr<|d_ hr z ⟨br w0,z,ii z⟩
 refine Wk<|Wq<|Ws<|Rw z ?_
 obtain ⟨_,hub,J⟩:=bdS<|ifF hm H;refine Wf (σ:=Int) (ρ:=Int) (fun (k6:Nat)(x0:Int) a w=>Sat 28 [(0,sl A0 N0 C0),(1,vI x0),(5,vI ((k6:Nat):Int))] a/\Below w0.z w0 w/\inI x0) (fun (x0:Int) a w=>Sat 28 [(1,vI x0)] a/\Below w0.z w0 w/\inI x0) (rQ prog fn<|Q0 w0 B) hub ?_ ?_ ?_ ?_ ?_
 ·exact fun _ q=>⟨q.k<|s3 z z z,br w0,iS _ _⟩
 ·rintro k6 x0 _ _ _ L ⟨hSc,s4,h1⟩ hmd;refine Wu ?_ hSc;refine Wq<|Wm z<|Rm z ?_
  have V:=G.e s4;refine R z (lnR T_ z V)<|Rl z z z<|Wx z (fun _=>?_) (fun hc=>(V_ L hc).elim)
  refine Wk<|Wq<|Wb<|Wm z<|RM z z ?_
  obtain ⟨xe,ef,O⟩:=bdS hmd;refine RX z (at_ (α:=Str) T_ z_9 z z z V ef) ?_;rintro _ ⟨_,_,_,rfl,hg,hh,_⟩;obtain ⟨rfl,_⟩:=b_2 hh;refine R z (l0 g_9 z<|hg.at0 z)<|R z (lnT d_9 z)<|R z (sb_ z z)<|Rw z<|Wm z<|Rl z z z<|Wx z (fun I=>?_) (fun I=>?_)
  ·exact Ws<|Rw z<|Wr<|rtO<|qL (som<|ifT O I).symm<|d_ hr z ⟨s4,z,ii z⟩
  exact Wk<|Wg<|Rm z<|R z (inc_ L (lt_ (repS.len G) D_) z z)<|Ra z<|Wl (fun _ q=>⟨S_ x0 (xe.b.length:Int),(som<|ifF O I).symm,⟨q.k<|s3 z z z,s4,iS _ _⟩⟩)
 ·rintro x0 _ _ ⟨hSi,sa,h1⟩;refine Wu ?_ hSi;refine Wq<|Wm z<|Rm z<|R z (lnR T_ z<|G.e sa)<|Rl z z z<|Wx z (fun hc=>(W_ hc).elim) (fun _=>?_)
  exact We<|fun _ q=>⟨rfl,⟨q.k<|s1 z,sa,h1⟩⟩
 ·rintro x0 aj _ rfl ⟨_,sk,h1⟩;have hml:=elL J;revert aj;refine Wo<|Wm z<|Rw z ?_
  obtain rfl:=som hml;exact Wr<|d_ hr z ⟨sk,z,h1⟩
 rintro _ _ _ _ rfl ⟨rfl,hqm⟩;have hmn:=elR J;obtain rfl:=som hmn;exact ⟨hqm,z⟩
theorem W_w16 {x1:List Int}{x2:Int}{res:Int}(hm:g_T x1 x2=some res)(J:B<=w0.z)(H:repS w0 B (sl A0 N0 C0) x1)(I:inI x2):i_ prog 56 [sl A0 N0 C0,vI x2] w0 (Q0 w0 B res):=by
 unfold g_T at hm
 refine goG func56 z z z fun fn hr=>Ws<|Rw z<|Wm z<|Rm z<|R z (lnR x_ z H)<|R z (sb_ z z)<|Rw z<|Wq<|Wm z<|Rl z z z<|Wx z (fun G=>?_) (fun G=>?_)
 ·refine Ws<|Rw z ?_
  obtain rfl:=som<|ifT hm G;exact Wr<|d_ hr z ⟨br w0,z,ii z⟩
 refine Wk<|Wm z<|Rw z ?_
 obtain rfl:=som<|ifF hm G;exact Wr<|d_ hr z ⟨br w0,z,iS _ _⟩
theorem W_w29 {x1:e_}{x2:Int}{res:Int}(hm:f_x x1 x2=some res)(H:B<=w0.z)(a2:x1.name.b.length<=LEN)(a3:inI x1.kind)(a4:inI x1.size)(W:repS w0 B (sl AD ND CD) x1.bytes)(Y:repS w0 B (sl A8 N8 C8) x1.names)(a0:repS w0 B (sl AE NE CE) x1.tags)(a1:repS w0 B (sl AF NF CF) x1.kids)(a5:inI x2):i_ prog 26 [(.agg #[Str.v x1.name,vI x1.kind,vI x1.size,vB x1.little,sl AD ND CD,sl A8 N8 C8,sl AE NE CE,sl AF NF CF]),vI x2] w0 (Q0 w0 B res):=by
 unfold f_x at hm
 refine goG func26 z z z fun fn hr=>Ws<|E z (fb z) ?_
 rintro _ wl ⟨rfl,ha⟩;have G:=ha.below;have h4:Blk wl w0.z (vR x1 AD ND CD A8 N8 C8 AE NE CE AF NF CF):=ha.blk;refine Rw z<|Wm z<|Rf z l_j z<|R z (l0 g_9 z<|h4.at z)<|R z (lnT d_9 z)<|R z (sb_ z z)<|Rw z<|Wq<|Wm z<|Rl z z z<|Wx z (fun I=>?_) (fun I=>?_)
 ·refine Ws<|Rw z ?_
  obtain rfl:=som<|ifT hm I;exact Wr<|d_ hr z ⟨G,z,ii z⟩
 refine Wk<|Ws<|Rf z l_k z<|R z (l0 R_ z<|h4.at z)<|Rm z ?_
 obtain ⟨_,en,hmb⟩:=bdS<|ifF hm I;refine E z (fc call54 z<|W_w27 en (zt' H G.s) (W.e G)<|iS _ _) ?_;rintro _ _ ⟨s1,rfl,ho⟩;refine Rw z<|Wq<|Wm z<|Rl z z z<|Wx z (fun J=>?_) (fun J=>?_)
 ·refine Ws<|Rw z ?_
  obtain rfl:=som<|ifT hmb J;exact Wr<|d_ hr z ⟨bup G s1,z,ii z⟩
 refine Wk<|Ws<|Rf z l_l z ?_
 have hc:=h4.e s1;refine R z (l0 a_I z<|hc.at z)<|Rm z ?_
 have hd:=(G.ag B).e s1;have he:=lt_ G.s s1.s;obtain ⟨_,ep,hmf⟩:=bdS<|ifF hmb J;refine E z (fc call55 z<|W_w28 ep (zt' H he) (Y.g hd) ho) ?_;rintro _ _ ⟨s2,rfl,hq⟩;refine Rw z<|Wq<|Wm z<|Rl z z z<|Wx z (fun L=>?_) (fun L=>?_)
 ·refine Ws<|Rw z ?_
  obtain rfl:=som<|ifT hmf L;exact Wr<|d_ hr z ⟨bup (bup G s1) s2,z,ii z⟩
 refine Wk<|Ws<|Rf z l_m z ?_
 have hg:=hc.e s2;refine R z (l0 A_ z<|hg.at z)<|Rm z ?_
 have hh:=hd.e s2;have hi:=lt_ he s2.s;obtain ⟨_,er,hmj⟩:=bdS<|ifF hmf L;refine E z (fc call56 z<|W_w16 er (zt' H hi) (a0.g hh) hq) ?_;rintro _ _ ⟨s3,rfl,ht⟩;refine Rw z<|Wq<|Wm z<|Rl z z z<|Wx z (fun O=>?_) (fun O=>?_)
 ·refine Ws<|Rw z ?_
  obtain rfl:=som<|ifT hmj O;exact Wr<|d_ hr z ⟨bup (bup (bup G s1) s2) s3,z,ii z⟩
 refine Wk<|Ws<|Rf z l_n z<|R z (l0 A_ z<|(hg.e s3).at z)<|Rm z ?_
 obtain ⟨_,es,hmk⟩:=bdS<|ifF hmj O;refine E z (fc call56 z<|W_w16 es (zt' H<|lt_ hi s3.s) (a1.g<|hh.e s3) ht) ?_;rintro _ _ ⟨sm,rfl,hu⟩;refine Rw z<|Wq<|Wm z<|Rl z z z<|Wx z (fun V=>?_) (fun V=>?_)
 ·refine Ws<|Rw z ?_
  obtain rfl:=som<|ifT hmk V;exact Wr<|d_ hr z ⟨bup (bup (bup (bup G s1) s2) s3) sm,z,ii z⟩
 refine Wk<|Wm z<|Rw z ?_
 obtain rfl:=som<|ifF hmk V;exact Wr<|d_ hr z ⟨bup (bup (bup (bup G s1) s2) s3) sm,z,hu⟩
theorem W_w2a {x1:List e_}{x2:Int}{res:Int}(hm:j_8 x1 x2=some res)(a2:B<=w0.z)(G:repS w0 B (sl A0 N0 C0) x1)(ab:inI x2):i_ prog 11 [sl A0 N0 C0,vI x2] w0 (Q0 w0 B res):=by
 unfold j_8 at hm
 refine goG func11 z z z fun fn hr=>Ws<|Rw z<|Wm z<|Rm z<|R z (lnR d_C z G)<|R z (sb_ z z)<|Rw z<|Wq<|Wm z<|Rl z z z<|Wx z (fun H=>?_) (fun H=>?_)
 ·refine Ws<|Rw z ?_
  obtain rfl:=som<|ifT hm H;exact Wr<|d_ hr z ⟨br w0,z,ii z⟩
 refine Wk<|Wq<|Ws<|Rw z ?_
 obtain ⟨_,huc,J⟩:=bdS<|ifF hm H;refine Wf (σ:=Int) (ρ:=Int) (fun (k6:Nat)(x0:Int) a w=>Sat 27 [(0,sl A0 N0 C0),(1,vI x0),(5,vI ((k6:Nat):Int))] a/\Below w0.z w0 w/\inI x0) (fun (x0:Int) a w=>Sat 27 [(1,vI x0)] a/\Below w0.z w0 w/\inI x0) (rQ prog fn<|Q0 w0 B) huc ?_ ?_ ?_ ?_ ?_
 ·exact fun _ q=>⟨q.k<|s3 z z z,br w0,iS _ _⟩
 ·rintro k6 x0 _ _ _ L ⟨hSd,s2,h1⟩ hme;refine Wu ?_ hSd;refine Wq<|Wm z<|Rm z ?_
  have V:=G.e s2;refine R z (lnR d_C z V)<|Rl z z z<|Wx z (fun _=>?_) (fun hc=>(V_ L hc).elim)
  refine Wk<|Wq<|Wb<|Wm z<|Rm z ?_
  obtain ⟨xf,eg,hmh⟩:=bdS hme;refine RX z (at_ (α:=e_) d_C z_60 z z z V eg) ?_;rintro _ ⟨_,_,_,rfl,hi,hj,_⟩;obtain ⟨ak,nl,cm,an,no,cp,aq,nr,cs,au,nt,cv,rfl,hw,hx,hy,hz,a3,a4,a5⟩:=a_w hj;refine R z (lN (vs:=vR xf ak nl cm an no cp aq nr cs au nt cv) g_60 z_60 z z fid hi)<|Rm z ?_
  obtain ⟨a6,a7,O⟩:=bdS hmh;refine E z (fc call26 z<|W_w29 a7 (zt' a2 s2.s) hw hx hy hz a3 a4 a5 h1) ?_;rintro _ _ ⟨sa,rfl,a8⟩;refine Rw z<|Wm z<|Rl z z z<|Wx z (fun I=>?_) (fun I=>?_)
  ·exact Ws<|Rw z<|Wr<|rtO<|qL (som<|ifT O I).symm<|d_ hr z ⟨bup s2 sa,z,ii z⟩
  exact Wk<|Wg<|Rm z<|R z (inc_ L (lt_ (repS.len G) D_) z z)<|Ra z<|Wl (fun _ q=>⟨a6,(som<|ifF O I).symm,⟨q.k<|s3 z z z,bup s2 sa,a8⟩⟩)
 ·rintro x0 _ _ ⟨W,sb,h1⟩;refine Wu ?_ W;refine Wq<|Wm z<|Rm z<|R z (lnR d_C z<|G.e sb)<|Rl z z z<|Wx z (fun hc=>(W_ hc).elim) (fun _=>?_)
  exact We<|fun _ q=>⟨rfl,⟨q.k<|s1 z,sb,h1⟩⟩
 ·rintro x0 a9 _ rfl ⟨_,aa,h1⟩;have Y:=elL J;revert a9;refine Wo<|Wm z<|Rw z ?_
  obtain rfl:=som Y;exact Wr<|d_ hr z ⟨aa,z,h1⟩
 rintro _ _ _ _ rfl ⟨rfl,a0⟩;have a1:=elR J;obtain rfl:=som a1;exact ⟨a0,z⟩
theorem W_w2b {x1:b_}{x2:Int}{res:Int}(hm:g_U x1 x2=some res)(O:B<=w0.z)(J:repS w0 B (sl A0 N0 C0) x1.rules)(L:inI x2):i_ prog 4 [(.agg #[sl A0 N0 C0]),vI x2] w0 (Q0 w0 B res):=by
 unfold g_U at hm
 refine goG func4 z z z fun fn hr=>Ws<|E z (fb z) ?_
 rintro _ V ⟨rfl,h2⟩;have G:=h2.below;refine Rw z<|Ws<|Rf z l_h z<|R z (l0 g_22 z<|(h2.blk:Blk V w0.z [sl A0 N0 C0]).at z)<|Rm z ?_
 obtain ⟨_,W,I⟩:=bdS hm;refine E z (fc call11 z<|W_w2a W (zt' O G.s) (J.e G) L) ?_;rintro _ _ ⟨s4,rfl,Y⟩;refine Rw z<|Wq<|Wm z<|Rl z z z<|Wx z (fun H=>?_) (fun H=>?_)
 ·refine Ws<|Rw z ?_
  obtain rfl:=som<|ifT I H;exact Wr<|d_ hr z ⟨bup G s4,z,ii z⟩
 refine Wk<|Wm z<|Rw z ?_
 obtain rfl:=som<|ifF I H;exact Wr<|d_ hr z ⟨bup G s4,z,Y⟩
def Q1 (w0:World)(B:Zone)(r:(List UInt8))(v:Value)(w':World):Prop:=Bw w0 w'/\(fun J=>∃G H I S1,(sl G H I)=v/\a_ w' S1 (sl G H I) J/\S1.Nodup/\(∀k∈S1,w0.z<=k)) r
theorem h_V {x1:List UInt8}{res:(List UInt8)}(hm:e_4 x1=some res)(Y:B<=w0.z)(W:repS w0 B (sl A0 N0 C0) x1):i_ prog 7 [sl A0 N0 C0] w0 (Q1 w0 B res):=by
 unfold e_4 at hm
 refine goG func7 z z z fun fn hr=>Ws<|Rw z<|Wm z<|R z (lnR o_ z W) ?_
 obtain ⟨_,ej,hmk⟩:=bdS hm;refine E z (g_j (α:=UInt8) a_o (fun _=>p_r) ej z z) ?_;rintro _ H ⟨I,J,L,rfl,s9,hl⟩;refine Rw z<|Wq<|Ws<|Rw z ?_
 obtain ⟨_,hum,hmb⟩:=bdS hmk;refine Wf (σ:=List UInt8) (ρ:=List UInt8) (fun (kc:Nat)(x2:List UInt8) a w=>∃(G:List Nat),Sat 22 [(0,sl A0 N0 C0),(3,sl I J L),(4,vI ((kc:Nat):Int))] a/\Chg (· ∈ [w0.z]) H w/\a_ w G (sl I J L) x2/\G.Nodup/\(∀k∈G,k∈[w0.z]∨H.z<=k)) (fun (x2:List UInt8) a w=>∃(G:List Nat),Sat 22 [(3,sl I J L)] a/\Chg (· ∈ [w0.z]) H w/\a_ w G (sl I J L) x2/\G.Nodup/\(∀k∈G,k∈[w0.z]∨H.z<=k)) (rQ prog fn<|Q1 w0 B) hum ?_ ?_ ?_ ?_ ?_
 ·exact fun _ q=>⟨[w0.z],q.k<|s3 z z z,cr [w0.z] H,hl,a_b,io sr⟩
 ·rintro kc x2 _ wn _ hkd ⟨G,hSo,sa,h3,O,V⟩ hmp;refine Wu ?_ hSo;refine Wq<|Wm z<|Rm z ?_
  have he:=W.g<|(s9.ag B).c sa<|g_ (or0 (f_ lr) (t_ Y):∀k∈[w0.z],¬B k)
  refine R z (lnR o_ z he)<|Rl z z z<|Wx z (fun _=>?_) (fun hc=>(V_ hkd hc).elim)
  refine Wk<|Wq<|Wb<|Wg<|RM z z<|RM z z ?_
  obtain ⟨_,er,hms⟩:=bdS hmp;refine RX z (at_ (α:=UInt8) o_ z_5 z z z he er) ?_;rintro _ ⟨_,_,_,rfl,ht,hu,_⟩;obtain rfl:=u8 hu;refine R z (l0 g_5 z<|ht.at0 z) ?_;obtain ⟨xv,ef,hmw⟩:=bdS hms;refine RX z (g_h (α:=UInt8) o_ z_5 z z h3 ef) ?_;rintro _ ⟨_,hx,rfl⟩;refine E0 (g_i (α:=UInt8) z_5 z hx z z z ef h3 O f_6 an_ a_x) ?_;rintro _ wy ⟨Sg,sz,a5,a6,a7⟩;refine Wn<|Wg<|Rm z<|R z (inc_ hkd (lt_ (repS.len W) D_) z z)<|Ra z<|Wl ?_
  have hh:∀k∈G,k∈[w0.z]∨H.z<=k:=or1 V (io sr)<|M_ lr;exact fun _ q=>⟨xv,(som hmw).symm,⟨Sg,q.k<|s3 z z z,(cM (cM (cr [w0.z] H) sa (io sr):Chg (· ∈ [w0.z]) H wn) sz hh:Chg (· ∈ [w0.z]) H wy),a5,a6,(or2 a7 hh an_ (M_ sa.s):∀k∈Sg,k∈[w0.z]∨H.z<=k)⟩⟩
 ·rintro x2 _ a8 ⟨G,a0,si,h3,O,V⟩;refine Wu ?_ a0;refine Wq<|Wm z<|Rm z ?_
  refine R z (lnR o_ z<|W.g<|(s9.ag B).c si<|g_ (or0 (f_ lr) (t_ Y):∀k∈[w0.z],¬B k))<|Rl z z z<|Wx z (fun hc=>(W_ hc).elim) (fun _=>?_)
  exact We<|fun _ q=>⟨rfl,⟨G,q.k<|s1 z,(cM (cr [w0.z] H) si (io sr):Chg (· ∈ [w0.z]) H a8),h3,O,(or1 V (io sr) (M_ lr):∀k∈G,k∈[w0.z]∨H.z<=k)⟩⟩
 ·rintro x2 a9 _ rfl ⟨G,_,aa,h3,O,V⟩;have a1:=elL hmb;revert a9;refine Wo<|Wm z<|Rw z ?_
  obtain rfl:=som a1;exact Wr<|d_ hr z ⟨bM s9 aa<|f_ lr,I,J,L,G,z,h3,O,(or1 V (f_ lr) (c_3 s9.s):∀k∈G,w0.z<=k)⟩
 rintro _ _ _ _ rfl ⟨rfl,a2⟩;have a3:=elR hmb;obtain rfl:=som a3;exact ⟨a2,z⟩
def Q2 (w0:World)(B:Zone)(r:(List Str))(v:Value)(w':World):Prop:=Bw w0 w'/\(fun J=>∃G H I S1,(sl G H I)=v/\a_ w' S1 (sl G H I) J/\S1.Nodup/\(∀k∈S1,w0.z<=k)) r
theorem W_w2c {x1:List Str}{res:(List Str)}(hm:g_V x1=some res)(Y:B<=w0.z)(W:repS w0 B (sl A0 N0 C0) x1):i_ prog 73 [sl A0 N0 C0] w0 (Q2 w0 B res):=by
 unfold g_V at hm
 refine goG func73 z z z fun fn hr=>Ws<|Rw z<|Wm z<|R z (lnR T_ z W) ?_
 obtain ⟨_,ej,hmk⟩:=bdS hm;refine E z (g_j (α:=Str) b_C (fun _=>c_t<|lb z) ej z z) ?_;rintro _ H ⟨I,J,L,rfl,s9,hl⟩;refine Rw z<|Wq<|Ws<|Rw z ?_
 obtain ⟨_,hum,hmb⟩:=bdS hmk;refine Wf (σ:=List Str) (ρ:=List Str) (fun (kc:Nat)(x2:List Str) a w=>∃(G:List Nat),Sat 22 [(0,sl A0 N0 C0),(3,sl I J L),(4,vI ((kc:Nat):Int))] a/\Chg (· ∈ [w0.z]) H w/\a_ w G (sl I J L) x2/\G.Nodup/\(∀k∈G,k∈[w0.z]∨H.z<=k)) (fun (x2:List Str) a w=>∃(G:List Nat),Sat 22 [(3,sl I J L)] a/\Chg (· ∈ [w0.z]) H w/\a_ w G (sl I J L) x2/\G.Nodup/\(∀k∈G,k∈[w0.z]∨H.z<=k)) (rQ prog fn<|Q2 w0 B) hum ?_ ?_ ?_ ?_ ?_
 ·exact fun _ q=>⟨[w0.z],q.k<|s3 z z z,cr [w0.z] H,hl,a_b,io sr⟩
 ·rintro kc x2 _ wn _ hkd ⟨G,hSo,sa,h3,O,V⟩ hmp;refine Wu ?_ hSo;refine Wq<|Wm z<|Rm z ?_
  have he:=W.g<|(s9.ag B).c sa<|g_ (or0 (f_ lr) (t_ Y):∀k∈[w0.z],¬B k)
  refine R z (lnR T_ z he)<|Rl z z z<|Wx z (fun _=>?_) (fun hc=>(V_ hkd hc).elim)
  refine Wk<|Wq<|Wb<|Wg<|RM z z<|RM z z ?_
  obtain ⟨_,er,hms⟩:=bdS hmp;refine RX z (at_ (α:=Str) T_ z_9 z z z he er) ?_;rintro _ ⟨_,_,_,rfl,ht,hu,_⟩;obtain ⟨rfl,hv⟩:=b_2 hu;refine R z (l0 g_9 z<|ht.at0 z) ?_;obtain ⟨xw,ef,hmx⟩:=bdS hms;refine RX z (g_h (α:=Str) T_ z_9 z z h3 ef) ?_;rintro _ ⟨_,hy,rfl⟩;refine E0 (g_i (α:=Str) z_9 z hy z z z ef h3 O (c_t hv) an_ a_x) ?_;rintro _ wz ⟨Sg,a5,a6,a7,a8⟩;refine Wn<|Wg<|Rm z<|R z (inc_ hkd (lt_ (repS.len W) D_) z z)<|Ra z<|Wl ?_
  have hh:∀k∈G,k∈[w0.z]∨H.z<=k:=or1 V (io sr)<|M_ lr;exact fun _ q=>⟨xw,(som hmx).symm,⟨Sg,q.k<|s3 z z z,(cM (cM (cr [w0.z] H) sa (io sr):Chg (· ∈ [w0.z]) H wn) a5 hh:Chg (· ∈ [w0.z]) H wz),a6,a7,(or2 a8 hh an_ (M_ sa.s):∀k∈Sg,k∈[w0.z]∨H.z<=k)⟩⟩
 ·rintro x2 _ a9 ⟨G,a0,si,h3,O,V⟩;refine Wu ?_ a0;refine Wq<|Wm z<|Rm z ?_
  refine R z (lnR T_ z<|W.g<|(s9.ag B).c si<|g_ (or0 (f_ lr) (t_ Y):∀k∈[w0.z],¬B k))<|Rl z z z<|Wx z (fun hc=>(W_ hc).elim) (fun _=>?_)
  exact We<|fun _ q=>⟨rfl,⟨G,q.k<|s1 z,(cM (cr [w0.z] H) si (io sr):Chg (· ∈ [w0.z]) H a9),h3,O,(or1 V (io sr) (M_ lr):∀k∈G,k∈[w0.z]∨H.z<=k)⟩⟩
 ·rintro x2 aa _ rfl ⟨G,_,ab,h3,O,V⟩;have a1:=elL hmb;revert aa;refine Wo<|Wm z<|Rw z ?_
  obtain rfl:=som a1;exact Wr<|d_ hr z ⟨bM s9 ab<|f_ lr,I,J,L,G,z,h3,O,(or1 V (f_ lr) (c_3 s9.s):∀k∈G,w0.z<=k)⟩
 rintro _ _ _ _ rfl ⟨rfl,a2⟩;have a3:=elR hmb;obtain rfl:=som a3;exact ⟨a2,z⟩
def Q3 (w0:World)(B:Zone)(r:(List Int))(v:Value)(w':World):Prop:=Bw w0 w'/\(fun J=>∃G H I S1,(sl G H I)=v/\a_ w' S1 (sl G H I) J/\S1.Nodup/\(∀k∈S1,w0.z<=k)) r
theorem W_w17 {x1:List Int}{res:(List Int)}(hm:f_y x1=some res)(Y:B<=w0.z)(W:repS w0 B (sl A0 N0 C0) x1):i_ prog 74 [sl A0 N0 C0] w0 (Q3 w0 B res):=by
 unfold f_y at hm
 refine goG func74 z z z fun fn hr=>Ws<|Rw z<|Wm z<|R z (lnR x_ z W) ?_
 obtain ⟨_,ej,hmk⟩:=bdS hm;refine E z (g_j (α:=Int) j_j (fun _=>c_W<|ii z) ej z z) ?_;rintro _ H ⟨I,J,L,rfl,s9,hl⟩;refine Rw z<|Wq<|Ws<|Rw z ?_
 obtain ⟨_,hum,hmb⟩:=bdS hmk;refine Wf (σ:=List Int) (ρ:=List Int) (fun (kc:Nat)(x2:List Int) a w=>∃(G:List Nat),Sat 22 [(0,sl A0 N0 C0),(3,sl I J L),(4,vI ((kc:Nat):Int))] a/\Chg (· ∈ [w0.z]) H w/\a_ w G (sl I J L) x2/\G.Nodup/\(∀k∈G,k∈[w0.z]∨H.z<=k)) (fun (x2:List Int) a w=>∃(G:List Nat),Sat 22 [(3,sl I J L)] a/\Chg (· ∈ [w0.z]) H w/\a_ w G (sl I J L) x2/\G.Nodup/\(∀k∈G,k∈[w0.z]∨H.z<=k)) (rQ prog fn<|Q3 w0 B) hum ?_ ?_ ?_ ?_ ?_
 ·exact fun _ q=>⟨[w0.z],q.k<|s3 z z z,cr [w0.z] H,hl,a_b,io sr⟩
 ·rintro kc x2 _ wn _ hkd ⟨G,hSo,sa,h3,O,V⟩ hmp;refine Wu ?_ hSo;refine Wq<|Wm z<|Rm z ?_
  have he:=W.g<|(s9.ag B).c sa<|g_ (or0 (f_ lr) (t_ Y):∀k∈[w0.z],¬B k)
  refine R z (lnR x_ z he)<|Rl z z z<|Wx z (fun _=>?_) (fun hc=>(V_ hkd hc).elim)
  refine Wk<|Wq<|Wb<|Wg<|RM z z<|RM z z ?_
  obtain ⟨_,er,hms⟩:=bdS hmp;refine RX z (at_ (α:=Int) x_ z_3 z z z he er) ?_;rintro _ ⟨_,_,_,rfl,ht,hu,_⟩;obtain ⟨rfl,hv⟩:=O_ hu;refine R z (l0 g_3 z<|ht.at0 z) ?_;obtain ⟨xw,ef,hmx⟩:=bdS hms;refine RX z (g_h (α:=Int) x_ z_3 z z h3 ef) ?_;rintro _ ⟨_,hy,rfl⟩;refine E0 (g_i (α:=Int) z_3 z hy z z z ef h3 O (c_W hv) an_ a_x) ?_;rintro _ wz ⟨Sg,a5,a6,a7,a8⟩;refine Wn<|Wg<|Rm z<|R z (inc_ hkd (lt_ (repS.len W) D_) z z)<|Ra z<|Wl ?_
  have hh:∀k∈G,k∈[w0.z]∨H.z<=k:=or1 V (io sr)<|M_ lr;exact fun _ q=>⟨xw,(som hmx).symm,⟨Sg,q.k<|s3 z z z,(cM (cM (cr [w0.z] H) sa (io sr):Chg (· ∈ [w0.z]) H wn) a5 hh:Chg (· ∈ [w0.z]) H wz),a6,a7,(or2 a8 hh an_ (M_ sa.s):∀k∈Sg,k∈[w0.z]∨H.z<=k)⟩⟩
 ·rintro x2 _ a9 ⟨G,a0,si,h3,O,V⟩;refine Wu ?_ a0;refine Wq<|Wm z<|Rm z ?_
  refine R z (lnR x_ z<|W.g<|(s9.ag B).c si<|g_ (or0 (f_ lr) (t_ Y):∀k∈[w0.z],¬B k))<|Rl z z z<|Wx z (fun hc=>(W_ hc).elim) (fun _=>?_)
  exact We<|fun _ q=>⟨rfl,⟨G,q.k<|s1 z,(cM (cr [w0.z] H) si (io sr):Chg (· ∈ [w0.z]) H a9),h3,O,(or1 V (io sr) (M_ lr):∀k∈G,k∈[w0.z]∨H.z<=k)⟩⟩
 ·rintro x2 aa _ rfl ⟨G,_,ab,h3,O,V⟩;have a1:=elL hmb;revert aa;refine Wo<|Wm z<|Rw z ?_
  obtain rfl:=som a1;exact Wr<|d_ hr z ⟨bM s9 ab<|f_ lr,I,J,L,G,z,h3,O,(or1 V (f_ lr) (c_3 s9.s):∀k∈G,w0.z<=k)⟩
 rintro _ _ _ _ rfl ⟨rfl,a2⟩;have a3:=elR hmb;obtain rfl:=som a3;exact ⟨a2,z⟩
def Q4 (w0:World)(B:Zone)(r:e_)(v:Value)(w':World):Prop:=Bw w0 w'/\(fun G=>∃H I J S1 a2 L O S2 V W Y S3 a4 n4 c4 S4,(.agg #[Str.v G.name,vI G.kind,vI G.size,vB G.little,sl H I J,sl a2 L O,sl V W Y,sl a4 n4 c4])=v/\G.name.b.length<=LEN/\inI G.kind/\inI G.size/\a_ w' S1 (sl H I J) G.bytes/\a_ w' S2 (sl a2 L O) G.names/\a_ w' S3 (sl V W Y) G.tags/\a_ w' S4 (sl a4 n4 c4) G.kids/\(S1++(S2++(S3++S4))).Nodup/\(∀k∈(S1++(S2++(S3++S4))),w0.z<=k)) r
theorem W_w2d {x1:e_}{res:e_}(hm:g_W x1=some res)(L:B<=w0.z)(aE:x1.name.b.length<=LEN)(aF:inI x1.kind)(aG:inI x1.size)(aH:repS w0 B (sl AD ND CD) x1.bytes)(aI:repS w0 B (sl A8 N8 C8) x1.names)(aJ:repS w0 B (sl AE NE CE) x1.tags)(aK:repS w0 B (sl AF NF CF) x1.kids):i_ prog 40 [(.agg #[Str.v x1.name,vI x1.kind,vI x1.size,vB x1.little,sl AD ND CD,sl A8 N8 C8,sl AE NE CE,sl AF NF CF])] w0 (Q4 w0 B res):=by
 unfold g_W at hm
 refine goG func40 z z z fun fn hr=>Ws<|E z (fb z) ?_
 rintro _ a7 ⟨rfl,a8⟩;have hw:=a8.below;have a9:Blk a7 w0.z (vR x1 AD ND CD A8 N8 C8 AE NE CE AF NF CF):=a8.blk;refine E z (fa b_l) ?_;rintro _ Y ⟨rfl,aa⟩;have hp:=aa.below;have hh:Blk Y a7.z [(Str.v (⟨[]⟩:Str)),vI 0,vI 0,vB false,sl none 0 0,sl none 0 0,sl none 0 0,sl none 0 0]:=aa.blk;refine Wn<|Ws<|E z (fa b_l) ?_
 rintro _ aP ⟨rfl,ab⟩;have hi:=ab.below;have hq:Blk aP Y.z [(Str.v (⟨[]⟩:Str)),vI 0,vI 0,vB false,sl none 0 0,sl none 0 0,sl none 0 0,sl none 0 0]:=ab.blk;refine Wn<|Ws<|Rf z l_j z ?_
 have ad:=(a9.e hp).e hi;refine R z (l0 g_9 z<|ad.at z)<|Rf z d_d z<|E0 (fs0 (cur':=[Str.v x1.name,vI 0,vI 0,vB false,sl none 0 0,sl none 0 0,sl none 0 0,sl none 0 0]) z_9 z z hq z z z z) ?_
 rintro _ _ ⟨aQ,aR⟩;have I:=aR.one;refine Wn<|Ws<|Rf z f_60_1 z ?_
 have J:=mm1 a9.lt hp.s;have af:=ad.c I<|djs J
 refine R z (l0 g_3 z<|af.at z)<|Rf z a_e z<|E0 (fs0 (cur':=[Str.v x1.name,vI x1.kind,vI 0,vB false,sl none 0 0,sl none 0 0,sl none 0 0,sl none 0 0]) z_3 z z aQ z z z z) ?_
 rintro _ _ ⟨aS,aT⟩;have ha:=aT.one;refine Wn<|Ws<|Rf z f_60_2 z ?_
 have ah:=af.c ha<|djs J
 refine R z (l0 g_3 z<|ah.at z)<|Rf z a_F z<|E0 (fs0 (cur':=[Str.v x1.name,vI x1.kind,vI x1.size,vB false,sl none 0 0,sl none 0 0,sl none 0 0,sl none 0 0]) z_3 z z aS z z z z) ?_
 rintro _ _ ⟨aU,aV⟩;have hb:=aV.one;refine Wn<|Ws<|Rf z f_60_3 z ?_
 have ai:=ah.c hb<|djs J
 refine R z (l0 g_4 z<|ai.at z)<|Rf z c_s z<|E0 (fs0 (cur':=vR x1 none 0 0 none 0 0 none 0 0 none 0 0) z_4 z z aU z z z z) ?_
 rintro _ _ ⟨aW,aX⟩;have hc:=aX.one;refine Wn<|Ws<|Rf z l_k z ?_
 have ak:=ai.c hc<|djs J
 refine R z (l0 R_ z<|ak.at z) ?_;have a0:=lt_ hw.s hp.s;have hd:∀k∈[Y.z],¬B k:=or0 (f_ lr)<|t_<|zt' L a0;have al:=((((((hw.ag B).e hp).e hi).c I<|g_ hd).c ha<|g_ hd).c hb<|g_ hd).c hc<|g_ hd
 have a1:=lt_ (lt_ (lt_ (lt_ (lt_ a0 hi.s) I.s) ha.s) hb.s) hc.s;obtain ⟨_,aY,aL⟩:=bdS hm;refine E z (fc call7 z<|h_V aY (zt' L a1)<|aH.g al) ?_;rintro _ _ ⟨s5,ae,nf,cg,aZ,rfl,hx,b0,a2⟩;refine Rf z b_1 z<|E0 (fs0 (cur':=vR x1 ae nf cg none 0 0 none 0 0 none 0 0) z_25 z z (aW.e s5) z z z z) ?_
 rintro _ _ ⟨b1,b2⟩;have h3:=b2.one;refine Wn<|Ws<|Rf z l_l z ?_
 have am:=(ak.e s5).c h3<|djs J
 refine R z (l0 a_I z<|am.at z) ?_;have an:=(al.e s5).c h3<|g_ hd
 have a3:=lt_ (lt_ a1 s5.s) h3.s;obtain ⟨_,b3,aM⟩:=bdS aL;refine E z (fc call73 z<|W_w2c b3 (zt' L a3)<|aI.g an) ?_;rintro _ _ ⟨s4,aj,nk,cl,b4,rfl,a4,b5,hy⟩;refine Rf z b_y z<|E0 (fs0 (cur':=vR x1 ae nf cg aj nk cl none 0 0 none 0 0) e_k z z (b1.e s4) z z z z) ?_
 rintro _ _ ⟨b6,b7⟩;have h1:=b7.one;refine Wn<|Ws<|Rf z l_m z ?_
 have ao:=(am.e s4).c h1<|djs J
 refine R z (l0 A_ z<|ao.at z) ?_;have ap:=(an.e s4).c h1<|g_ hd
 have a5:=lt_ (lt_ a3 s4.s) h1.s;obtain ⟨_,b8,aN⟩:=bdS aM;refine E z (fc call74 z<|W_w17 b8 (zt' L a5)<|aJ.g ap) ?_;rintro _ _ ⟨s2,ar,ns,ct,b9,rfl,aq,ba,hu⟩;refine Rf z a_R z<|E0 (fs0 (cur':=vR x1 ae nf cg aj nk cl ar ns ct none 0 0) z_58 z z (b6.e s2) z z z z) ?_
 rintro _ _ ⟨bb,bc⟩;have G:=bc.one;refine Wn<|Ws<|Rf z l_n z<|R z (l0 A_ z<|((ao.e s2).c G<|djs J).at z) ?_
 have au:=lt_ (lt_ a5 s2.s) G.s;obtain ⟨_,be,aO⟩:=bdS aN;refine E z (fc call74 z<|W_w17 be (zt' L au)<|aK.g<|(ap.e s2).c G<|g_ hd) ?_;rintro _ _ ⟨sm,az,O,V,bf,rfl,bg,bh,hn⟩;refine Rf z N_ z<|E0 (fs0 (cur':=vR x1 ae nf cg aj nk cl ar ns ct az O V) z_58 z z (bb.e sm) z z z z) ?_
 rintro _ _ ⟨bi,bj⟩;have ho:=bj.one;refine Wn<|Ws<|R z (lN (vs:=vR x1 ae nf cg aj nk cl ar ns ct az O V) G_ m_ z z fid<|bi.row 0 8 z) ?_
 have h6:=mmr hh.lt;refine E0 (fs0 (cur':=vR x1 ae nf cg aj nk cl ar ns ct az O V) m_ z z (((((((((((((hh.e hi).c I<|djs h6).c ha<|djs h6).c hb<|djs h6).c hc<|djs h6).e s5).c h3<|djs h6).e s4).c h1<|djs h6).e s2).c G<|djs h6).e sm).c ho<|djs h6) z z z z) ?_;rintro _ _ ⟨bk,bm⟩;have hv:=bm.one;refine Wn ?_;obtain rfl:=som aO;have av:=lt_ (lt_ (lt_ I.s ha.s) hb.s) hc.s;have W:=n_ a2 hq.lt av;have aw:=lt_ (lt_ (lt_ (lt_ hi.s I.s) ha.s) hb.s) hc.s;have ax:=lt_ (lt_ av s5.s) h3.s;have a6:=n_ hy hq.lt ax;have ay:=lt_ (lt_ aw s5.s) h3.s;have aA:=lt_ (lt_ ax s4.s) h1.s;have aB:=n_ hu hq.lt aA;have aC:=lt_ (lt_ ay s4.s) h1.s;have H:=m1 a0;have aD:=lt_ (lt_ h3.s s4.s) h1.s;exact Wr<|d_ hr (q_ G_ m_ z bk z) ⟨bM (bM (bup (bM (bup (bM (bup (bM (bup (bM (bM (bM (bM (bup (bup hw hp) hi) I H) ha H) hb H) hc H) s5) h3 H) s4) h1 H) s2) G H) sm) ho H) hv<|m1 hw.s,ae,nf,cg,aZ,aj,nk,cl,b4,ar,ns,ct,b9,az,O,V,bf,z,aE,aF,aG,(((((((hx.c h3 W).e s4).c h1 W).e s2).c G W).e sm).c ho W).c hv<|n_ a2 hh.lt aw,(((((a4.c h1 a6).e s2).c G a6).e sm).c ho a6).c hv<|n_ hy hh.lt ay,(((aq.c G aB).e sm).c ho aB).c hv<|n_ hu hh.lt aC,(bg.c ho<|n_ hn hq.lt<|lt_ (lt_ aA s2.s) G.s).c hv<|n_ hn hh.lt<|lt_ (lt_ aC s2.s) G.s,na_ b0 (na_ b5 (na_ ba bh<|ds<|b_w hn (a_.lt aq) G.s)<|nmA (ds<|b_w hu (a_.lt a4) h1.s)<|ds<|b_w hn (a_.lt a4)<|lt_ (lt_ h1.s s2.s) G.s)<|nmA (ds<|b_w hy (a_.lt hx) h3.s)<|nmA (ds<|b_w hu (a_.lt hx) aD)<|ds<|b_w hn (a_.lt hx)<|lt_ (lt_ aD s2.s) G.s,aa_ (p_ a2 a1)<|aa_ (p_ hy a3)<|aa_ (p_ hu a5)<|p_ hn au⟩
def Q5 (w0:World)(B:Zone)(r:(List e_))(v:Value)(w':World):Prop:=Bw w0 w'/\(fun J=>∃G H I S1,(sl G H I)=v/\a_ w' S1 (sl G H I) J/\S1.Nodup/\(∀k∈S1,w0.z<=k)) r
theorem W_w2e {x1:List e_}{res:(List e_)}(hm:j_9 x1=some res)(V:B<=w0.z)(O:repS w0 B (sl A0 N0 C0) x1):i_ prog 18 [sl A0 N0 C0] w0 (Q5 w0 B res):=by
 unfold j_9 at hm
 refine goG func18 z z z fun fn hr=>Ws<|Rw z<|Wm z<|R z (lnR d_C z O) ?_
 obtain ⟨_,er,hms⟩:=bdS hm;refine E z (g_j (α:=e_) el_28 (fun _=>l_I (x:=(⟨(⟨[]⟩:Str),0,0,false,([]:List UInt8),([]:List Str),([]:List Int),([]:List Int)⟩:e_)) (S1:=([]:List Nat)) (S2:=([]:List Nat)) (S3:=([]:List Nat)) (S4:=([]:List Nat)) (lb z) (ii z) (ii z) onL onL onL onL) er z z) ?_;rintro _ G ⟨I,J,L,rfl,sa,ht⟩;refine Rw z<|Wq<|Ws<|Rw z ?_
 obtain ⟨_,huu,hme⟩:=bdS hms;refine Wf (σ:=List e_) (ρ:=List e_) (fun (kf:Nat)(x6:List e_) a w=>∃(H:List Nat),Sat 23 [(0,sl A0 N0 C0),(3,sl I J L),(4,vI ((kf:Nat):Int))] a/\Chg (· ∈ [w0.z]) G w/\a_ w H (sl I J L) x6/\H.Nodup/\(∀k∈H,k∈[w0.z]∨G.z<=k)) (fun (x6:List e_) a w=>∃(H:List Nat),Sat 23 [(3,sl I J L)] a/\Chg (· ∈ [w0.z]) G w/\a_ w H (sl I J L) x6/\H.Nodup/\(∀k∈H,k∈[w0.z]∨G.z<=k)) (rQ prog fn<|Q5 w0 B) huu ?_ ?_ ?_ ?_ ?_
 ·exact fun _ q=>⟨[w0.z],q.k<|s3 z z z,cr [w0.z] G,ht,a_b,io sr⟩
 ·rintro kf x6 _ wv _ hkg ⟨H,hSw,s4,h3,hb,hd⟩ hmx;refine Wu ?_ hSw;refine Wq<|Wm z<|Rm z ?_
  have hh:=O.g<|(sa.ag B).c s4<|g_ (or0 (f_ lr) (t_ V):∀k∈[w0.z],¬B k)
  refine R z (lnR d_C z hh)<|Rl z z z<|Wx z (fun _=>?_) (fun hc=>(V_ hkg hc).elim)
  refine Wk<|Wq<|Wb<|Wg<|RM z z<|RM z z ?_
  obtain ⟨xz,a5,W⟩:=bdS hmx;refine RX z (at_ (α:=e_) d_C z_60 z z z hh a5) ?_;rintro _ ⟨_,_,_,rfl,a6,a8,_⟩;obtain ⟨a9,aa,ab,ad,ae,af,ah,ai,aj,ak,al,am,rfl,an,ao,ap,aq,ar,au,av⟩:=a_w a8;refine R z (lN (vs:=vR xz a9 aa ab ad ae af ah ai aj ak al am) g_60 z_60 z z fid a6) ?_;obtain ⟨aw,ax,Y⟩:=bdS W;refine E z (fc call40 z<|W_w2d ax (zt' V<|lt_ sa.s s4.s) an ao ap aq ar au av) ?_;rintro _ ay ⟨sc,_,_,_,Si,_,_,_,Sj,_,_,_,Sk,_,_,_,Sl,rfl,az,aA,aB,aC,aD,aE,aF,h2,h5⟩;obtain ⟨aG,em,a0⟩:=bdS Y;have hn:=h3.e sc;refine RX z (g_h (α:=e_) a_0 m_ z z hn em) ?_;rintro _ ⟨_,aH,rfl⟩;refine E0 (g_i (α:=e_) m_ z aH z z z em hn hb (l_I (x:=aw) (S1:=Si) (S2:=Sj) (S3:=Sk) (S4:=Sl) az aA aB aC aD aE aF) (aa_ (b_w (al_ h5) (a_.lt h3) lr)<|aa_ (b_w (al_<|ar_ h5) (a_.lt h3) lr)<|aa_ (b_w (al_<|ar_<|ar_ h5) (a_.lt h3) lr)<|b_w (ar_<|ar_<|ar_ h5) (a_.lt h3) lr)<|na_ (nl_ h2) (na_ (nl_<|nr_ h2) (na_ (nl_<|nr_<|nr_ h2) (nr_<|nr_<|nr_ h2)<|nj<|nr_<|nr_ h2)<|nmA (nmL<|nj<|nr_ h2)<|nmR<|nj<|nr_ h2)<|nmA (nmL<|nj h2)<|nmA (nmL<|nmR<|nj h2)<|nmR<|nmR<|nj h2) ?_;rintro _ aI ⟨So,aJ,aK,aL,aM⟩;refine Wn<|Wg<|Rm z<|R z (inc_ hkg (lt_ (repS.len O) D_) z z)<|Ra z<|Wl ?_
  have hp:∀k∈H,k∈[w0.z]∨G.z<=k:=or1 hd (io sr)<|M_ lr;exact fun _ q=>⟨aG,(som a0).symm,⟨So,q.k<|s3 z z z,(cM (h_ (cM (cr [w0.z] G) s4 (io sr):Chg (· ∈ [w0.z]) G wv) sc:Chg (· ∈ [w0.z]) G ay) aJ hp:Chg (· ∈ [w0.z]) G aI),aK,aL,(or2 aM hp (aa_ (or0 (al_ h5) (M_ s4.s):∀k∈Si,k∈[w0.z]∨G.z<=k)<|aa_ (or0 (al_<|ar_ h5) (M_ s4.s):∀k∈Sj,k∈[w0.z]∨G.z<=k)<|aa_ (or0 (al_<|ar_<|ar_ h5) (M_ s4.s):∀k∈Sk,k∈[w0.z]∨G.z<=k) (or0 (ar_<|ar_<|ar_ h5) (M_ s4.s):∀k∈Sl,k∈[w0.z]∨G.z<=k)) (M_<|lt_ s4.s sc.s):∀k∈So,k∈[w0.z]∨G.z<=k)⟩⟩
 ·rintro x6 _ aN ⟨H,a1,sq,h3,hb,hd⟩;refine Wu ?_ a1;refine Wq<|Wm z<|Rm z ?_
  refine R z (lnR d_C z<|O.g<|(sa.ag B).c sq<|g_ (or0 (f_ lr) (t_ V):∀k∈[w0.z],¬B k))<|Rl z z z<|Wx z (fun hc=>(W_ hc).elim) (fun _=>?_)
  exact We<|fun _ q=>⟨rfl,⟨H,q.k<|s1 z,(cM (cr [w0.z] G) sq (io sr):Chg (· ∈ [w0.z]) G aN),h3,hb,(or1 hd (io sr) (M_ lr):∀k∈H,k∈[w0.z]∨G.z<=k)⟩⟩
 ·rintro x6 aO _ rfl ⟨H,_,aP,h3,hb,hd⟩;have a2:=elL hme;revert aO;refine Wo<|Wm z<|Rw z ?_
  obtain rfl:=som a2;exact Wr<|d_ hr z ⟨bM sa aP<|f_ lr,I,J,L,H,z,h3,hb,(or1 hd (f_ lr) (c_3 sa.s):∀k∈H,w0.z<=k)⟩
 rintro _ _ _ _ rfl ⟨rfl,a3⟩;have a4:=elR hme;obtain rfl:=som a4;exact ⟨a3,z⟩
def Q6 (w0:World)(B:Zone)(r:b_)(v:Value)(w':World):Prop:=Bw w0 w'/\(fun J=>∃G H I S1,(.agg #[.slice G H I])=v/\a_ w' S1 (sl G H I) J.rules/\S1.Nodup/\(∀k∈S1,w0.z<=k)) r
theorem j_n {x1:b_}{res:b_}(hm:e_G x1=some res)(W:B<=w0.z)(V:repS w0 B (sl A0 N0 C0) x1.rules):i_ prog 6 [(.agg #[sl A0 N0 C0])] w0 (Q6 w0 B res):=by
 unfold e_G at hm
 refine goG func6 z z z fun fn hr=>Ws<|E z (fb z) ?_
 rintro _ wa ⟨rfl,hb⟩;have h1:=hb.below;refine E z (fa j_l) ?_;rintro _ wc ⟨rfl,hd⟩;have h2:=hd.below;have h6:Blk wc wa.z [sl none 0 0]:=hd.blk;refine Wn<|Ws<|E z (fa j_l) ?_
 rintro _ wk ⟨rfl,he⟩;have G:=he.below;have hf:Blk wk wc.z [sl none 0 0]:=he.blk;refine Wn<|Ws<|Rf z l_h z<|R z (l0 g_22 z<|(((hb.blk:Blk wa w0.z [sl A0 N0 C0]).e h2).e G).at z) ?_
 have hg:=lt_ h1.s h2.s;have hh:=lt_ hg G.s;obtain ⟨_,el,hmm⟩:=bdS hm;refine E z (fc call18 z<|W_w2e el (zt' W hh)<|V.g<|((h1.ag B).e h2).e G) ?_;rintro _ _ ⟨s7,H,I,J,Sn,rfl,ho,hp,L⟩;refine Rf z a_9 z<|E0 (fs0 (cur':=[sl H I J]) z_28 z z (hf.e s7) z z z z) ?_
 rintro _ _ ⟨hq,sr⟩;have O:=sr.one;refine Wn<|Ws<|R z (lN (vs:=[sl H I J]) w_ u_ z z fid<|hq.row 0 1 z)<|E0 (fs0 (cur':=[sl H I J]) u_ z z (((h6.e G).e s7).c O<|djs<|mmr h6.lt) z z z z) ?_
 rintro _ _ ⟨ht,ss⟩;have hi:=ss.one;refine Wn ?_;obtain rfl:=som hmm;exact Wr<|d_ hr (q_ w_ u_ z ht z) ⟨bM (bM (bup (bup (bup h1 h2) G) s7) O<|m1 hg) hi<|m1 h1.s,H,I,J,Sn,z,(ho.c O<|n_ L hf.lt lr).c hi<|n_ L h6.lt G.s,hp,p_ L hh⟩
theorem f_Y {x1:b_}{res:Int}(hm:e_6 x1=some res)(J:B<=w0.z)(H:repS w0 B (sl A0 N0 C0) x1.rules):i_ prog 29 [(.agg #[sl A0 N0 C0])] w0 (Q0 w0 B res):=by
 unfold e_6 at hm
 refine goG func29 z z z fun fn hr=>Ws<|E z (fb z) ?_
 rintro _ I ⟨rfl,G⟩;have h1:=G.below;refine Rw z<|Ws<|Rf z a_9 z<|R z (l0 a_d z<|(G.blk:Blk I w0.z [sl A0 N0 C0]).at z)<|R z (lnR a_0 z<|H.e h1)<|R z (sb_ z z)<|Rw z ?_
 obtain rfl:=som hm;exact Wr<|d_ hr z ⟨h1,z,iS _ _⟩
def Q7 (w0:World)(B:Zone)(r:Bool)(v:Value)(w':World):Prop:=Bw w0 w'/\(fun G=>(vB G)=v) r
theorem b_m {x1:Int}{x2:Int}{x3:Int}{res:Bool}(hm:a_K x1 x2 x3=some res)(Y:B<=w0.z)(O:inI x1)(V:inI x2)(W:inI x3):i_ prog 60 [vI x1,vI x2,vI x3] w0 (Q7 w0 B res):=by
 unfold a_K at hm
 refine goG func60 z z z fun fn hr=>Ws<|Rw z<|Wq ?_
 obtain ⟨J,H,I⟩:=bdS hm;refine Wt (fun a w=>∃(x4:Bool),x4=J/\Sat 15 [(6,vB x4)] a/\Below w0.z w0 w) ?_ ?_
 ·refine Wg<|RM z z<|R z (b_s z z)<|Rm z ?_
  rcases bs (decide<|x2<=x1) with G | G
  ·exact Rh z G (mv z)<|Rh z G (mv z)<|Rh z G (b_P z z)<|R z (pT z G z)<|Ra z<|Wl (fun _ q=>⟨decide<|x1<=x3,som<|ifT H G,q.k<|s1 z,br w0⟩)
  iterate 3 refine Nh z G ?_
  exact R z (pF z G z)<|Ra z<|Wl (fun _ q=>⟨false,som<|ifF H G,q.k<|s1 z,br w0⟩)
 rintro L _ ⟨x4,rfl,_,s6⟩;revert L;refine Wo ?_;obtain rfl:=som I;exact Wr<|d_ hr z ⟨s6,z⟩
theorem j_o {x1:Str}{res:Bool}(hm:e_H x1=some res)(a9:B<=w0.z)(Y:x1.b.length<=LEN):i_ prog 95 [Str.v x1] w0 (Q7 w0 B res):=by
 unfold e_H at hm
 refine goG func95 z z z fun fn hr=>Ws<|Rw z<|Wq<|Ws<|Rw z ?_
 obtain ⟨_,hus,hmc⟩:=bdS hm;refine Wf (σ:=Unit) (ρ:=Bool) (fun (k4:Nat)(_:Unit) a w=>Sat 45 [(0,Str.v x1),(3,vI ((k4:Nat):Int))] a/\Below w0.z w0 w) (fun (_:Unit) a w=>Sat 45 [(0,Str.v x1)] a/\Below w0.z w0 w) (rQ prog fn<|Q7 w0 B) hus ?_ ?_ ?_ ?_ ?_
 ·exact fun _ q=>⟨q.k<|s2 z z,br w0⟩
 ·rintro k4 _ _ O _ hkd ⟨hSt,se⟩ hmu;refine Wu ?_ hSt;refine Wq<|Wm z<|Rm z<|R z (lnT d_9 z)<|Rl z z z<|Wx z (fun _=>?_) (fun hc=>(V_ hkd hc).elim)
  refine Wk<|Wq<|Wb<|Wq ?_
  obtain ⟨uv,huw,hmx⟩:=bdS hmu;refine Wt (fun a w=>∃(x5:Bool),x5=uv/\Sat 45 [(0,Str.v x1),(3,vI ((k4:Nat):Int)),(4,vB x5)] a/\Below O.z O w) ?_ ?_
  ·refine Wg<|RM z z ?_
   obtain ⟨xy,ef,hmg⟩:=bdS huw;refine R z (c_4 d_9 z z (a_z ef).1 (a_z ef).2.1)<|R z (b_s z z)<|Rm z ?_
   rcases bs (decide<|(byteI (97:UInt8))<=(byteI xy)) with H | H
   ·refine Rh z H (mv z)<|Rh z H (mv z) ?_
    obtain ⟨xz,eh,a0⟩:=bdS<|ifT hmg H;exact Rh z H (c_4 d_9 z z (a_z eh).1 (a_z eh).2.1)<|Rh z H (b_P z z)<|R z (pT z H z)<|Ra z<|Wl (fun _ q=>⟨decide<|(byteI xz)<=(byteI (122:UInt8)),som a0,q.k<|s3 z z z,br O⟩)
   iterate 4 refine Nh z H ?_
   exact R z (pF z H z)<|Ra z<|Wl (fun _ q=>⟨false,som<|ifF hmg H,q.k<|s3 z z z,br O⟩)
  rintro aa V ⟨x5,rfl,_,si⟩;revert aa;refine Wo<|Wq ?_
  obtain ⟨ab,a1,a2⟩:=bdS hmx;refine Wt (fun a w=>∃(W:Bool),W=ab/\Sat 45 [(0,Str.v x1),(3,vI ((k4:Nat):Int)),(4,vB x5),(5,vB W)] a/\Below V.z V w) ?_ ?_
  ·refine Wg<|RM z z ?_
   obtain ⟨ad,ej,hmk⟩:=bdS a1;refine R z (c_4 d_9 z z (a_z ej).1 (a_z ej).2.1)<|R z (b_s z z)<|Rm z ?_
   rcases bs (decide<|(byteI (48:UInt8))<=(byteI ad)) with I | I
   ·refine Rh z I (mv z)<|Rh z I (mv z) ?_
    obtain ⟨ae,el,a3⟩:=bdS<|ifT hmk I;exact Rh z I (c_4 d_9 z z (a_z el).1 (a_z el).2.1)<|Rh z I (b_P z z)<|R z (pT z I z)<|Ra z<|Wl (fun _ q=>⟨decide<|(byteI ae)<=(byteI (57:UInt8)),som a3,q.k<|s4 z z z z,br V⟩)
   iterate 4 refine Nh z I ?_
   exact R z (pF z I z)<|Ra z<|Wl (fun _ q=>⟨false,som<|ifF hmk I,q.k<|s4 z z z z,br V⟩)
  rintro af L ⟨W,rfl,_,sm⟩;revert af;refine Wo<|Wq ?_
  obtain ⟨ah,hun,hmo⟩:=bdS a2;refine Wt (fun a w=>∃(xa:Bool),xa=ah/\Sat 45 [(0,Str.v x1),(3,vI ((k4:Nat):Int)),(41,vB xa)] a/\Below L.z L w) ?_ ?_
  ·refine Wg<|Rm z<|R z (not_ z)<|Rm z ?_
   rcases bs (!x5) with G | G
   ·have hmp:=ifT hun G;refine Rh z G (mv z)<|Rh z G (not_ z)<|Rh z G (mv z) ?_
    rcases bs (!W) with J | J
    ·exact Nh z J<|Nh z J<|Rh z G (pT z J z)<|R z (pT z G z)<|Wl (fun _ q=>⟨true,som<|ifT hmp J,q.k<|s3 z z z,br L⟩)
    exact Rh z J (mv z)<|Rh z J (eql z z)<|Rh z G (pF z J z)<|R z (pT z G z)<|Wl (fun _ q=>⟨((k4:Nat):Int)==0,som<|ifF hmp J,q.k<|s3 z z z,br L⟩)
   iterate 3 refine Nh z G ?_
   exact Nv z<|Nv z<|Nh z G<|R z (pF z G z)<|Wl (fun _ q=>⟨false,som<|ifF hun G,q.k<|s3 z z z,br L⟩)
  rintro ai _ ⟨xa,rfl,_,sq⟩;revert ai;refine Wo<|Wc z (fun hcb=>?_) (fun hcb=>?_)
  ·exact Ws<|Rw z<|Wr<|rtO<|qL (som<|ifT hmo hcb).symm<|d_ hr z ⟨bup (bup (bup se si) sm) sq,z⟩
  exact Wk<|Wg<|Rm z<|R z (inc_ hkd (lt_ Y D_) z z)<|Ra z<|Wl (fun _ q=>⟨(),(som<|ifF hmo hcb).symm,⟨q.k<|s2 z z,bup (bup (bup se si) sm) sq⟩⟩)
 ·rintro _ _ _ ⟨a4,aj⟩;refine Wu ?_ a4;refine Wq<|Wm z<|Rm z<|R z (lnT d_9 z)<|Rl z z z<|Wx z (fun hc=>(W_ hc).elim) (fun _=>?_)
  exact We<|fun _ q=>⟨rfl,⟨q.k<|s1 z,aj⟩⟩
 ·rintro _ ak _ rfl ⟨_,sr⟩;have a5:=elL hmc;revert ak;refine Wo<|Wm z<|R z (lnT d_9 z) ?_
  obtain ⟨_,al,a6⟩:=bdS a5;refine E z (fc call60 z<|b_m al (zt' a9 sr.s) (b_D Y) (ii z)<|ii z) ?_;rintro _ _ ⟨am,rfl⟩;refine Rw z ?_
  obtain rfl:=som a6;exact Wr<|d_ hr z ⟨bup sr am,z⟩
 rintro _ _ _ _ rfl ⟨rfl,a7⟩;have a8:=elR hmc;obtain rfl:=som a8;exact ⟨a7,z⟩
theorem d_f {x1:e_}{x2:Bool}{x3:Bool}{x4:Bool}{x5:Bool}{x6:Int}{res:Bool}(hm:c_9 x1 x2 x3 x4 x5 x6=some res)(af:B<=w0.z)(aa:x1.name.b.length<=LEN)(ab:inI x1.kind)(ad:inI x1.size)(a1:repS w0 B (sl AD ND CD) x1.bytes)(a2:repS w0 B (sl A8 N8 C8) x1.names)(a3:repS w0 B (sl AE NE CE) x1.tags)(a4:repS w0 B (sl AF NF CF) x1.kids)(ae:inI x6):i_ prog 128 [(.agg #[Str.v x1.name,vI x1.kind,vI x1.size,vB x1.little,sl AD ND CD,sl A8 N8 C8,sl AE NE CE,sl AF NF CF]),vB x2,vB x3,vB x4,vB x5,vI x6] w0 (Q7 w0 B res):=by
 unfold c_9 at hm
 refine goG func128 z z z fun fn hr=>Ws<|E z (fb z) ?_
 rintro _ wc ⟨rfl,hf⟩;have hd:=hf.below;have hb:Blk wc w0.z (vR x1 AD ND CD A8 N8 C8 AE NE CE AF NF CF):=hf.blk;refine Rw z<|Wq ?_
 obtain ⟨uw,hux,hmy⟩:=bdS hm;refine Wt (fun a w=>∃(xe:Bool),xe=uw/\Sat 67 [(12,vB xe)] a/\Below wc.z wc w) ?_ ?_
 ·refine Wg<|RM z z ?_
  obtain ⟨ug,huh,hmz⟩:=bdS hux;refine c_U 18 ug 4 ?_ ?_
  ·rcases bs x2 with a0 | a0
   ·iterate 3 refine Nh z a0 ?_
    exact R z (pT z a0 z)<|WLq 4 (ifT huh a0) z z z
   exact Rh z a0 (fd a_F z)<|Rh z a0 (l0 g_3 z<|hb.at z)<|Rh z a0 (eql z z)<|R z (pF z a0 z)<|WLq 4 (ifF huh a0) z z z
  refine Rm z ?_;obtain ⟨ui,huj,a5⟩:=bdS hmz;refine c_U 27 ui 8 ?_ ?_
  ·rcases bs ug with H | H
   ·have hmk:=ifT huj H;refine Rh z H (mv z)<|Rh z H (mv z) ?_
    rcases bs x3 with V | V
    ·iterate 4 refine Nh z V ?_
     exact Rh z H (pT z V z)<|R z (pT z H z)<|WLq 8 (ifT hmk V) z z z
    exact Rh z V (fd b_1 z)<|Rh z V (l0 R_ z<|hb.at z)<|Rh z V (lnR o_ z<|a1.e hd)<|Rh z V (eql z z)<|Rh z H (pF z V z)<|R z (pT z H z)<|WLq 8 (ifF hmk V) z z z
   exact Nh z H<|Nh z H<|Nv z<|Nv z<|Nv z<|Nv z<|Nh z H<|R z (pF z H z)<|WLq 8 (ifF huj H) z z z
  refine Rm z ?_;obtain ⟨ul,hum,a6⟩:=bdS a5;refine c_U 36 ul 8 ?_ ?_
  ·rcases bs ui with I | I
   ·have hmn:=ifT hum I;refine Rh z I (mv z)<|Rh z I (mv z) ?_
    rcases bs x4 with W | W
    ·iterate 4 refine Nh z W ?_
     exact Rh z I (pT z W z)<|R z (pT z I z)<|WLq 8 (ifT hmn W) z z z
    exact Rh z W (fd b_y z)<|Rh z W (l0 a_I z<|hb.at z)<|Rh z W (lnR T_ z<|a2.e hd)<|Rh z W (eql z z)<|Rh z I (pF z W z)<|R z (pT z I z)<|WLq 8 (ifF hmn W) z z z
   exact Nh z I<|Nh z I<|Nv z<|Nv z<|Nv z<|Nv z<|Nh z I<|R z (pF z I z)<|WLq 8 (ifF hum I) z z z
  refine Rm z ?_;obtain ⟨uo,hup,a7⟩:=bdS a6;refine c_U 45 uo 8 ?_ ?_
  ·rcases bs ul with J | J
   ·have hmq:=ifT hup J;refine Rh z J (mv z)<|Rh z J (mv z) ?_
    rcases bs x5 with Y | Y
    ·iterate 4 refine Nh z Y ?_
     exact Rh z J (pT z Y z)<|R z (pT z J z)<|WLq 8 (ifT hmq Y) z z z
    exact Rh z Y (fd a_R z)<|Rh z Y (l0 A_ z<|hb.at z)<|Rh z Y (lnR x_ z<|a3.e hd)<|Rh z Y (eql z z)<|Rh z J (pF z Y z)<|R z (pT z J z)<|WLq 8 (ifF hmq Y) z z z
   exact Nh z J<|Nh z J<|Nv z<|Nv z<|Nv z<|Nv z<|Nh z J<|R z (pF z J z)<|WLq 8 (ifF hup J) z z z
  refine Rm z ?_;obtain ⟨ur,hus,hmt⟩:=bdS a7;refine c_U 56 ur 10 ?_ ?_
  ·rcases bs uo with L | L
   ·have hmu:=ifT hus L;refine Rh z L (mv z)<|Rh z L (lss z z)<|Rh z L (mv z) ?_
    rcases bs (decide<|x6<0) with O | O
    ·iterate 5 refine Nh z O ?_
     exact Rh z L (pT z O z)<|R z (pT z L z)<|WLq 10 (ifT hmu O) z z z
    exact Rh z O (fd N_ z)<|Rh z O (l0 A_ z<|hb.at z)<|Rh z O (lnR x_ z<|a4.e hd)<|Rh z O (mv z)<|Rh z O (eql z z)<|Rh z L (pF z O z)<|R z (pT z L z)<|WLq 10 (ifF hmu O) z z z
   iterate 3 refine Nh z L ?_
   exact Nv z<|Nv z<|Nv z<|Nv z<|Nv z<|Nh z L<|R z (pF z L z)<|WLq 10 (ifF hus L) z z z
  refine Rm z ?_
  rcases bs ur with G | G
  ·have hmv:=ifT hmt G;refine Rh z G (fd c_s z)<|Rh z G (l0 g_4 z<|hb.at z)<|Rh z G (not_ z)<|Rh z G (mv z) ?_
   rcases bs (!x1.little) with hca | hca
   ·iterate 3 refine Nh z hca ?_
    exact Rh z G (pT z hca z)<|R z (pT z G z)<|Ra z<|Wl (fun _ q=>⟨true,som<|ifT hmv hca,q.k<|s1 z,br wc⟩)
   exact Rh z hca (fd a_e z)<|Rh z hca (l0 g_3 z<|hb.at z)<|Rh z hca (eql z z)<|Rh z G (pF z hca z)<|R z (pT z G z)<|Ra z<|Wl (fun _ q=>⟨x1.kind==1,som<|ifF hmv hca,q.k<|s1 z,br wc⟩)
  iterate 4 refine Nh z G ?_
  exact Nv z<|Nv z<|Nv z<|Nh z G<|R z (pF z G z)<|Ra z<|Wl (fun _ q=>⟨false,som<|ifF hmt G,q.k<|s1 z,br wc⟩)
 rintro a8 _ ⟨xe,rfl,_,a9⟩;revert a8;refine Wo ?_;obtain rfl:=som hmy;exact Wr<|d_ hr z ⟨bup hd a9,z⟩
theorem W_w18 {x1:Int}{res:Int}(hm:e_5 x1=some res)(J:B<=w0.z)(I:inI x1):i_ prog 132 [vI x1] w0 (Q0 w0 B res):=by
 unfold e_5 at hm
 refine goG func132 z z z fun fn hr=>Ws<|Rw z<|Wm z<|R z (g_r z z) ?_
 obtain ⟨_,H,G⟩:=bdS hm;refine R z (i_G z z<|nnS H)<|Rw z ?_
 obtain rfl:=som G;exact Wr<|d_ hr z ⟨br w0,z,p_q<|ii z⟩
theorem f_Z {x1:b_}{x2:Int}{res:Int}(hm:d_x x1 x2=some res)(J:B<=w0.z)(I:repS w0 B (sl A0 N0 C0) x1.rules)(Y:inI x2):i_ prog 129 [(.agg #[sl A0 N0 C0]),vI x2] w0 (Q0 w0 B res):=by
 unfold d_x at hm
 refine goG func129 z z z fun fn hr=>Ws<|E z (fb z) ?_
 rintro _ O ⟨rfl,W⟩;have h2:=W.below;have h6:Blk O w0.z [sl A0 N0 C0]:=W.blk;refine Rw z<|Wq<|Wq ?_
 obtain ⟨uf,hug,hma⟩:=bdS hm;refine Wt (fun a w=>∃(V:Bool),V=uf/\Sat 39 [(1,vI x2),(2,pt w0.z),(30,vB V)] a/\Below O.z O w) ?_ ?_
 ·refine Wg<|Rm z<|Rf z a_9 z<|R z (l0 a_d z<|h6.at z)<|R z (lnR a_0 z<|I.e h2)<|R z (sb_ z z) ?_
  obtain ⟨rh,ei,hmb⟩:=bdS hug;refine E z (fc call60 z<|b_m ei (zt' J h2.s) Y (ii z)<|iS _ _) ?_;rintro _ _ ⟨s4,rfl⟩;refine R z (not_ z)<|Rm z ?_
  rcases bs (!rh) with H | H
  ·iterate 7 refine Nh z H ?_
   exact R z (pT z H z)<|Rm z<|Nh z z<|Nh z z<|Nh z z<|Nh z z<|Nh z z<|Nh z z<|Nh z z<|Nh z z<|R z (pT z z z)<|Wl (fun _ q=>⟨true,som<|ifT hmb H,q.k<|s3 z z z,s4⟩)
  refine Rh z H (fd a_9 z) ?_;have hc:=h6.e s4;refine Rh z H (l0 a_d z<|hc.at z)<|Rh z H (mv z) ?_
  obtain ⟨xj,ek,hmd⟩:=bdS<|ifF hmb H;have he:=I.g<|(h2.ag B).e s4
  refine RXg z z H z (at_ (α:=e_) a_0 m_ z z z he ek) ?_;rintro _ ⟨_,_,_,rfl,hl,hn,_⟩;obtain ⟨_,_,_,_,_,_,_,_,_,_,_,_,rfl,_,_,_,_,_,_,_⟩:=a_w hn;refine Rh z H (fd a_e z)<|Rh z H (l0 g_3 z<|hl.at (j:=1) z)<|Rh z H (nq z z)<|R z (pF z H z)<|Rm z ?_
  rcases bs (xj.kind != 1) with G | G
  ·iterate 8 refine Nh z G ?_
   exact R z (pT z G z)<|Wl (fun _ q=>⟨true,som<|ifT hmd G,q.k<|s3 z z z,s4⟩)
  refine Rh z G (fd a_9 z)<|Rh z G (l0 a_d z<|hc.at z)<|Rh z G (mv z) ?_
  obtain ⟨_,em,hmo⟩:=bdS<|ifF hmd G;refine RXg z z G z (at_ (α:=e_) a_0 m_ z z z he em) ?_;rintro _ ⟨_,_,_,rfl,hp,hq,_⟩;obtain ⟨_,_,_,_,_,_,_,_,_,_,_,_,rfl,_,_,ht,_,_,_,_⟩:=a_w hq;refine Rh z G (fd a_F z)<|Rh z G (l0 g_3 z<|hp.at (j:=2) z) ?_
  obtain ⟨rr,es,hmu⟩:=bdS hmo;refine Eg z z G z (fc call60 z<|b_m es (zt' J<|lt_ h2.s s4.s) ht (ii z)<|ii z) ?_;rintro _ _ ⟨sv,rfl⟩;exact Rh z G (not_ z)<|R z (pF z G z)<|Wl (fun _ q=>⟨!rr,som hmu,q.k<|s3 z z z,bup s4 sv⟩)
 rintro aw _ ⟨V,rfl,_,s5⟩;revert aw;refine Wo<|Wc z (fun L=>?_) (fun L=>?_)
 ·refine Ws<|Rw z ?_
  obtain rfl:=som<|ifT hma L;exact Wr<|d_ hr z ⟨bup h2 s5,z,ii z⟩
 refine Wk<|Ws<|Rf z a_9 z<|R z (l0 a_d z<|(h6.e s5).at z)<|Rm z ?_
 obtain ⟨_,ex,hmy⟩:=bdS<|ifF hma L;refine RX z (at_ (α:=e_) a_0 m_ z z z (I.g<|(h2.ag B).e s5) ex) ?_;rintro _ ⟨_,_,_,rfl,hz,a1,_⟩;obtain ⟨_,_,_,_,_,_,_,_,_,_,_,_,rfl,_,_,a2,_,_,_,_⟩:=a_w a1;refine Rf z a_F z<|R z (l0 g_3 z<|hz.at (j:=2) z) ?_
 obtain ⟨_,a3,a0⟩:=bdS hmy;refine E z (fc call132 z<|W_w18 a3 (zt' J<|lt_ h2.s s5.s) a2) ?_;rintro _ _ ⟨a4,rfl,_⟩;refine R z (sb_ z z)<|Rw z ?_
 obtain rfl:=som a0;exact Wr<|d_ hr z ⟨bup (bup h2 s5) a4,z,iS _ _⟩
theorem W_w2f {x1:List Str}{x2:Str}{res:Bool}(hm:g_Z x1 x2=some res)(a0:B<=w0.z)(G:repS w0 B (sl A0 N0 C0) x1)(Y:x2.b.length<=LEN):i_ prog 155 [sl A0 N0 C0,Str.v x2] w0 (Q7 w0 B res):=by
 unfold g_Z at hm
 refine goG func155 z z z fun fn hr=>Ws<|Rw z<|Wq<|Ws<|Rw z ?_
 obtain ⟨_,V,J⟩:=bdS hm;refine Wf (σ:=Unit) (ρ:=Bool) (fun (k3:Nat)(_:Unit) a w=>Sat 18 [(0,sl A0 N0 C0),(1,Str.v x2),(5,vI ((k3:Nat):Int))] a/\Below w0.z w0 w) (fun (_:Unit) a w=>Sat 18 [] a/\Below w0.z w0 w) (rQ prog fn<|Q7 w0 B) V ?_ ?_ ?_ ?_ ?_
 ·exact fun _ q=>⟨q.k<|s3 z z z,br w0⟩
 ·rintro k3 _ _ _ _ L ⟨W,I⟩ hma;refine Wu ?_ W;refine Wq<|Wm z<|Rm z ?_
  have h5:=G.e I;refine R z (lnR T_ z h5)<|Rl z z z<|Wx z (fun _=>?_) (fun hc=>(V_ L hc).elim)
  refine Wk<|Wq<|Wb<|Wm z<|Rm z ?_
  obtain ⟨_,eb,O⟩:=bdS hma;refine RX z (at_ (α:=Str) T_ z_9 z z z h5 eb) ?_;rintro _ ⟨_,_,_,rfl,hd,he,_⟩;obtain ⟨rfl,_⟩:=b_2 he;refine R z (l0 g_9 z<|hd.at0 z)<|Rm z<|R z (a_V z z)<|Wx z (fun H=>?_) (fun H=>?_)
  ·exact Ws<|Rw z<|Wr<|rtO<|qL (som<|ifT O H).symm<|d_ hr z ⟨I,z⟩
  exact Wk<|Wg<|Rm z<|R z (inc_ L (lt_ (repS.len G) D_) z z)<|Ra z<|Wl (fun _ q=>⟨(),(som<|ifF O H).symm,⟨q.k<|s3 z z z,I⟩⟩)
 ·rintro _ _ _ ⟨hSc,s7⟩;refine Wu ?_ hSc;refine Wq<|Wm z<|Rm z<|R z (lnR T_ z<|G.e s7)<|Rl z z z<|Wx z (fun hc=>(W_ hc).elim) (fun _=>?_)
  exact We<|fun _ q=>⟨rfl,⟨q.k sn,s7⟩⟩
 ·rintro _ af _ rfl ⟨_,sg⟩;have hmh:=elL J;revert af;refine Wo<|Ws<|Rw z ?_
  obtain rfl:=som hmh;exact Wr<|d_ hr z ⟨sg,z⟩
 rintro _ _ _ _ rfl ⟨rfl,hqi⟩;have hmj:=elR J;obtain rfl:=som hmj;exact ⟨hqi,z⟩
theorem W_w2g {x1:List Str}{res:Bool}(hm:h_0 x1=some res)(I:B<=w0.z)(H:repS w0 B (sl A0 N0 C0) x1):i_ prog 130 [sl A0 N0 C0] w0 (Q7 w0 B res):=by
 unfold h_0 at hm
 refine goG func130 z z z fun fn hr=>Ws<|Rw z<|Wq<|Ws<|Rw z ?_
 obtain ⟨_,huj,L⟩:=bdS hm;refine Wf (σ:=Unit) (ρ:=Bool) (fun (k1:Nat)(_:Unit) a w=>Sat 29 [(0,sl A0 N0 C0),(3,vI ((k1:Nat):Int))] a/\Below w0.z w0 w) (fun (_:Unit) a w=>Sat 29 [(0,sl A0 N0 C0)] a/\Below w0.z w0 w) (rQ prog fn<|Q7 w0 B) huj ?_ ?_ ?_ ?_ ?_
 ·exact fun _ q=>⟨q.k<|s2 z z,br w0⟩
 ·rintro k1 _ _ O _ hka ⟨hSk,s4⟩ hml;refine Wu ?_ hSk;refine Wq<|Wm z<|Rm z<|R z (lnR T_ z<|H.e s4)<|Rl z z z<|Wx z (fun _=>?_) (fun hc=>(V_ hka hc).elim)
  refine Wk<|Wq<|Wb<|Wq ?_
  obtain ⟨um,hun,hmb⟩:=bdS hml;refine Wt (fun a w=>∃(x2:Bool),x2=um/\Sat 29 [(0,sl A0 N0 C0),(3,vI ((k1:Nat):Int)),(25,vB x2)] a/\Below O.z O w) ?_ ?_
  ·refine Wd (X:=noX) 0 (pl_ 16 [4,14]) mo (by kernel_rfl) fun ae s5 _=>dM z z z<|dM z z z ?_
   obtain ⟨_,eo,hmp⟩:=bdS hun;have hd:=(s4.ag B).e s5;refine dRX z z (at_ (α:=Str) T_ z_9 z z z (H.g hd) eo) ?_;rintro _ ⟨_,_,_,rfl,hq,ht,_⟩;obtain ⟨rfl,hu⟩:=b_2 ht;refine dR z z (l0 g_9 z<|hq.at0 z) ?_;have he:=lt_ s4.s s5.s;obtain ⟨rr,es,hmc⟩:=bdS hmp;refine dE z z (fc call95 z<|j_o es (zt' I he) hu) (.inr fun _ _ h=>l_<|h.1) ?_;rintro _ _ ⟨s6,rfl⟩;refine dR z z (not_ z)<|dM z z z ?_
   rcases bs (!rr) with G | G
   ·iterate 7 refine dRn z z z G z ?_
    exact dEn z z z G z<|dR z z (pT z G z)<|pD (fun _ q=>⟨true,som<|ifT hmc G,q.k<|s3 z z z,bup s5 s6⟩)
   refine dRg z z z G z (mv z)<|dRg z z z G z (mv z) ?_
   obtain ⟨_,ev,hmw⟩:=bdS<|ifF hmc G;have hf:=H.g<|hd.e s6
   refine b_M z z z G z (rX T_ z_9 z z hf z z ev) ?_;rintro _ ⟨_,_,_,rfl,hx⟩;refine dRg z z z G z (mv z)<|dRg z z z G z (mv z) ?_
   obtain ⟨_,ey,hmz⟩:=bdS hmw;refine b_M z z z G z (at_ (α:=Str) T_ z_9 z z z hf ey) ?_;rintro _ ⟨_,_,_,rfl,a3,a4,_⟩;obtain ⟨rfl,a5⟩:=b_2 a4;refine dRg z z z G z (l0 g_9 z<|a3.at0 z) ?_;obtain ⟨a6,a7,V⟩:=bdS hmz;refine dEg z z z G z (fc call155 z<|W_w2f a7 (zt' I<|lt_ he s6.s) hx a5) (.inr fun _ _ h=>l_<|h.1) ?_;rintro _ _ ⟨a8,rfl⟩;exact dR z z (pF z G z)<|pD (fun _ q=>⟨a6,som V,q.k<|s3 z z z,bup (bup s5 s6) a8⟩)
  rintro a9 _ ⟨x2,rfl,_,sg⟩;revert a9;refine Wo<|Wc z (fun J=>?_) (fun J=>?_)
  ·exact Ws<|Rw z<|Wr<|rtO<|qL (som<|ifT hmb J).symm<|d_ hr z ⟨bup s4 sg,z⟩
  exact Wk<|Wg<|Rm z<|R z (inc_ hka (lt_ (repS.len H) D_) z z)<|Ra z<|Wl (fun _ q=>⟨(),(som<|ifF hmb J).symm,⟨q.k<|s2 z z,bup s4 sg⟩⟩)
 ·rintro _ _ _ ⟨W,sh⟩;refine Wu ?_ W;refine Wq<|Wm z<|Rm z<|R z (lnR T_ z<|H.e sh)<|Rl z z z<|Wx z (fun hc=>(W_ hc).elim) (fun _=>?_)
  exact We<|fun _ q=>⟨rfl,⟨q.k<|s1 z,sh⟩⟩
 ·rintro _ aa _ rfl ⟨_,s7⟩;have Y:=elL L;revert aa;refine Wo<|Wm z ?_
  have hi:=H.e s7;refine R z (lnR T_ z hi) ?_;obtain ⟨_,ab,a0⟩:=bdS Y;refine E z (fc call60 z<|b_m ab (zt' I s7.s) (b_D<|repS.len hi) (ii z)<|ii z) ?_;rintro _ _ ⟨ad,rfl⟩;refine Rw z ?_
  obtain rfl:=som a0;exact Wr<|d_ hr z ⟨bup s7 ad,z⟩
 rintro _ _ _ _ rfl ⟨rfl,a1⟩;have a2:=elR L;obtain rfl:=som a2;exact ⟨a1,z⟩
theorem W_w2h {x1:b_}{x2:e_}{res:Bool}(hm:h_1 x1 x2=some res)(O:B<=w0.z)(a2:repS w0 B (sl A0 N0 C0) x1.rules)(aO:x2.name.b.length<=LEN)(aP:inI x2.kind)(aQ:inI x2.size)(aR:repS w0 B (sl A3 N3 C3) x2.bytes)(aS:repS w0 B (sl A4 N4 C4) x2.names)(J:repS w0 B (sl A2 N2 C2) x2.tags)(V:repS w0 B (sl A5 N5 C5) x2.kids):i_ prog 131 [(.agg #[sl A0 N0 C0]),(.agg #[Str.v x2.name,vI x2.kind,vI x2.size,vB x2.little,sl A3 N3 C3,sl A4 N4 C4,sl A2 N2 C2,sl A5 N5 C5])] w0 (Q7 w0 B res):=by
 unfold h_1 at hm
 refine goG func131 z z z fun fn hr=>Ws<|E z (fb z) ?_
 rintro _ L ⟨rfl,hn⟩;have h4:=hn.below;refine E z (fb z) ?_;rintro _ wd ⟨rfl,ho⟩;have h3:=ho.below;have ha:Blk wd L.z (vR x2 A3 N3 C3 A4 N4 C4 A2 N2 C2 A5 N5 C5):=ho.blk;refine Rw z<|Wq<|Wq ?_
 obtain ⟨aj,hup,hmq⟩:=bdS hm;refine Wt (fun a w=>∃(xg:Bool),xg=aj/\Sat 59 [(2,pt w0.z),(3,pt L.z),(20,vB xg)] a/\Below wd.z wd w) ?_ ?_
 ·refine Wg<|Rf z N_ z<|R z (l0 A_ z<|ha.at z) ?_
  have ht:=(h4.ag B).e h3;refine R z (lnR x_ z<|V.g ht)<|Rf z a_R z<|R z (l0 A_ z<|ha.at z) ?_
  have hh:=J.g ht;refine R z (lnR x_ z hh)<|R z (add_ z z)<|R z (nq z z)<|Rm z ?_
  rcases bs ((x2.kids.length:Int) != (j_ (x2.tags.length:Int) 1)) with I | I
  ·iterate 5 refine Nh z I ?_
   exact R z (pT z I z)<|Wl (fun _ q=>⟨true,som<|ifT hup I,q.k<|s3 z z z,br wd⟩)
  refine Rh z I (fd a_R z)<|Rh z I (l0 A_ z<|ha.at z)<|Rh z I (lnR x_ z hh) ?_
  obtain ⟨ak,al,a3⟩:=bdS<|ifF hup I;refine Eg z z I z (fc call60 z<|b_m al (zt' O<|lt_ h4.s h3.s) (b_D<|repS.len hh) (ii z)<|ii z) ?_;rintro _ _ ⟨am,rfl⟩;exact Rh z I (not_ z)<|R z (pF z I z)<|Wl (fun _ q=>⟨!ak,som a3,q.k<|s3 z z z,am⟩)
 rintro an wb ⟨xg,rfl,_,s5⟩;revert an;refine Wo<|Wc z (fun hci=>?_) (fun hci=>?_)
 ·refine Ws<|Rw z ?_
  obtain rfl:=som<|ifT hmq hci;exact Wr<|d_ hr z ⟨bup (bup h4 h3) s5,z⟩
 refine Wk<|Wq<|Ws<|Rw z ?_
 obtain ⟨_,a4,hmr⟩:=bdS<|ifF hmq hci;refine Wf (σ:=Unit) (ρ:=Bool) (fun (ke:Nat)(_:Unit) a w=>Sat 59 [(2,pt w0.z),(3,pt L.z),(5,vI ((ke:Nat):Int))] a/\Below wb.z wb w) (fun (_:Unit) a w=>Sat 59 [] a/\Below wb.z wb w) (rQ prog fn<|Q7 w0 B) a4 ?_ ?_ ?_ ?_ ?_
 ·exact fun _ q=>⟨q.k<|s3 z z z,br wb⟩
 ·rintro ke _ _ ws _ hku ⟨a5,s7⟩ a6;refine Wu ?_ a5;refine Wq<|Wm z<|Rf z a_R z ?_
  have hv:=(ha.e s5).e s7;refine R z (l0 A_ z<|hv.at z) ?_;have hw:=(((h4.ag B).e h3).e s5).e s7;refine R z (lnR x_ z<|J.g hw)<|Rl z z z<|Wx z (fun _=>?_) (fun hc=>(V_ hku hc).elim)
  refine Wk<|Wq<|Wb<|Wq ?_
  obtain ⟨ao,a7,hmx⟩:=bdS a6;refine Wt (fun a w=>∃(xj:Bool),xj=ao/\Sat 59 [(2,pt w0.z),(3,pt L.z),(5,vI ((ke:Nat):Int)),(58,vB xj)] a/\Below ws.z ws w) ?_ ?_
  ·refine Wd (X:=noX) 0 (pl_ 31 [10,11]) mo (by kernel_rfl) fun aT s6 _=>dR z z (fd a_R z) ?_
   have hk:=hv.e s6;refine dR z z (l0 A_ z<|hk.at z)<|dM z z z ?_
   obtain ⟨_,ap,a8⟩:=bdS a7;have hf:=hw.e s6;refine dRX z z (at_ (α:=Int) x_ z_3 z z z (J.g hf) ap) ?_;rintro _ ⟨_,_,_,rfl,aq,ar,_⟩;obtain ⟨rfl,au⟩:=O_ ar;refine dR z z (l0 g_3 z<|aq.at0 z)<|dR z z (lN (vs:=[sl A0 N0 C0]) w_ u_ z z fid<|(((((hn.blk:Blk L w0.z [sl A0 N0 C0]).e h3).e s5).e s7).e s6).row 0 1 z)<|dR z z (fd N_ z)<|dR z z (l0 A_ z<|hk.at z) ?_
   obtain ⟨_,av,a9⟩:=bdS a8;refine dRX z z (at_ (α:=Int) x_ z_3 z z z (V.g hf) av) ?_;rintro _ ⟨_,_,_,rfl,aw,ax,_⟩;obtain ⟨rfl,ay⟩:=O_ ax;refine dR z z (l0 g_3 z<|aw.at0 z) ?_;have hy:=lt_ (lt_ (lt_ (lt_ h4.s h3.s) s5.s) s7.s) s6.s;obtain ⟨_,az,aa⟩:=bdS a9;refine dE z z (fc call129 z<|f_Z az (zt' O hy) (a2.g hf) ay) (.inr fun _ _ h=>l_<|h.1) ?_;rintro _ _ ⟨s8,rfl,aA⟩;obtain ⟨aB,aC,hmz⟩:=bdS aa;refine dE z z (fc call60 z<|b_m aC (zt' O<|lt_ hy s8.s) au (ii z) aA) (.inr fun _ _ h=>l_<|h.1) ?_;rintro _ _ ⟨sc,rfl⟩;refine dR z z (not_ z)<|dM z z z ?_
   rcases bs (!aB) with H | H
   ·iterate 3 refine dRn z z z H z ?_
    iterate 12 refine dRu z z z z ?_
    exact dRn z z z H z<|dR z z (pT z H z)<|pD (fun _ q=>⟨true,som<|ifT hmz H,q.k<|s4 z z z z,bup (bup s6 s8) sc⟩)
   have W:=ifF hmz H;refine dRg z z z H z (mv z)<|dRg z z z H z (a_i z z)<|dRg z z z H z (mv z) ?_
   rcases bs (decide<|0<((ke:Nat):Int)) with G | G
   ·refine dRg z z z G z (fd a_R z) ?_;have Y:=(hk.e s8).e sc;refine dRg z z z G z (l0 A_ z<|Y.at z)<|dRg z z z G z (mv z)<|dRg z z z G z (sb_ z z) ?_
    obtain ⟨aD,aE,ab⟩:=bdS<|ifT W G;have a0:=J.g<|(hf.e s8).e sc
    refine b_M z z z G z (at_ (α:=Int) x_ z_3 z z z a0 aE) ?_;rintro _ ⟨_,_,_,rfl,aF,aG,_⟩;obtain ⟨rfl,_⟩:=O_ aG;refine dRg z z z G z (l0 g_3 z<|aF.at0 z)<|dRg z z z G z (fd a_R z)<|dRg z z z G z (l0 A_ z<|Y.at z)<|dRg z z z G z (mv z) ?_
    obtain ⟨aH,aI,ad⟩:=bdS ab;refine b_M z z z G z (at_ (α:=Int) x_ z_3 z z z a0 aI) ?_;rintro _ ⟨_,_,_,rfl,aJ,aK,_⟩;obtain ⟨rfl,_⟩:=O_ aK;exact dRg z z z G z (l0 g_3 z<|aJ.at0 z)<|dRg z z z G z (b_s z z)<|dRg z z z H z (pT z G z)<|dR z z (pF z H z)<|pD (fun _ q=>⟨decide<|aH<=aD,som ad,q.k<|s4 z z z z,bup (bup s6 s8) sc⟩)
   iterate 12 refine dRn z z z G z ?_
   exact dRg z z z H z (pF z G z)<|dR z z (pF z H z)<|pD (fun _ q=>⟨false,som<|ifF W G,q.k<|s4 z z z z,bup (bup s6 s8) sc⟩)
  rintro aL _ ⟨xj,rfl,_,a1⟩;revert aL;refine Wo<|Wc z (fun hcl=>?_) (fun hcl=>?_)
  ·exact Ws<|Rw z<|Wr<|rtO<|qL (som<|ifT hmx hcl).symm<|d_ hr z ⟨bup (bup (bup (bup h4 h3) s5) s7) a1,z⟩
  exact Wk<|Wg<|Rm z<|R z (inc_ hku (lt_ (repS.len J) D_) z z)<|Ra z<|Wl (fun _ q=>⟨(),(som<|ifF hmx hcl).symm,⟨q.k<|s3 z z z,bup s7 a1⟩⟩)
 ·rintro _ _ _ ⟨ae,sm⟩;refine Wu ?_ ae;refine Wq<|Wm z<|Rf z a_R z<|R z (l0 A_ z<|((ha.e s5).e sm).at z)<|R z (lnR x_ z<|J.g<|(((h4.ag B).e h3).e s5).e sm)<|Rl z z z<|Wx z (fun hc=>(W_ hc).elim) (fun _=>?_)
  exact We<|fun _ q=>⟨rfl,⟨q.k sn,sm⟩⟩
 ·rintro _ aM _ rfl ⟨_,aN⟩;have af:=elL hmr;revert aM;refine Wo<|Ws<|Rw z ?_
  obtain rfl:=som af;exact Wr<|d_ hr z ⟨bup (bup (bup h4 h3) s5) aN,z⟩
 rintro _ _ _ _ rfl ⟨rfl,ah⟩;have ai:=elR hmr;obtain rfl:=som ai;exact ⟨ah,z⟩
theorem W_w2i {x1:b_}{x2:e_}{res:Bool}(hm:h_2 x1 x2=some res)(I:B<=w0.z)(a8:repS w0 B (sl A0 N0 C0) x1.rules)(a2:x2.name.b.length<=LEN)(a3:inI x2.kind)(V:inI x2.size)(W:repS w0 B (sl A3 N3 C3) x2.bytes)(a0:repS w0 B (sl A4 N4 C4) x2.names)(a4:repS w0 B (sl A2 N2 C2) x2.tags)(Y:repS w0 B (sl A5 N5 C5) x2.kids):i_ prog 97 [(.agg #[sl A0 N0 C0]),(.agg #[Str.v x2.name,vI x2.kind,vI x2.size,vB x2.little,sl A3 N3 C3,sl A4 N4 C4,sl A2 N2 C2,sl A5 N5 C5])] w0 (Q7 w0 B res):=by
 unfold h_2 at hm
 refine goG func97 z z z fun fn hr=>Ws<|E z (fb z) ?_
 rintro _ al ⟨rfl,aT⟩;have h1:=aT.below;have am:Blk al w0.z [sl A0 N0 C0]:=aT.blk;refine E z (fb z) ?_;rintro _ H ⟨rfl,aU⟩;have G:=aU.below;have h3:Blk H al.z (vR x2 A3 N3 C3 A4 N4 C4 A2 N2 C2 A5 N5 C5):=aU.blk;refine Rw z<|Wq<|Ws<|Rf z a_e z<|R z (l0 g_3 z<|h3.at z)<|Wn<|Wb<|Ws<|Rq z z z<|Rw z<|Wc z (fun a9=>?_) (fun a9=>?_)
 ·refine Wq ?_;obtain ⟨bI,be,bf⟩:=bdS<|ifT hm a9;refine Wt (fun a w=>∃(an:Bool),an=bI/\Sat 114 [(4,vB an)] a/\Below H.z H w) ?_ ?_
  ·refine Wg<|R z (lN (vs:=vR x2 A3 N3 C3 A4 N4 C4 A2 N2 C2 A5 N5 C5) G_ m_ z z fid<|h3.row 0 8 z) ?_
   have hw:=(h1.ag B).e G;have aV:=lt_ h1.s G.s;obtain ⟨bJ,bK,az⟩:=bdS be;refine E z (fc call128 z<|d_f bK (zt' I aV) a2 a3 V (W.g hw) (a0.g hw) (a4.g hw) (Y.g hw)<|ii z) ?_;rintro _ _ ⟨sg,rfl⟩;refine Rm z ?_
   rcases bs bJ with hca | hca
   ·refine Rh z hca (fd a_F z) ?_;have aW:=h3.e sg;refine Rh z hca (l0 g_3 z<|aW.at z) ?_;obtain ⟨bL,bM,aA⟩:=bdS<|ifT az hca;refine Eg z z hca z (fc call60 z<|b_m bM (zt' I<|lt_ aV sg.s) V (ii z)<|ii z) ?_;rintro _ _ ⟨sx,rfl⟩;refine R z (pT z hca z)<|Rm z ?_
    rcases bs bL with O | O
    ·have aB:=ifT aA O;refine Rh z O (fd c_s z) ?_;have aX:=aW.e sx;refine Rh z O (l0 g_4 z<|aX.at z)<|Rh z O (not_ z)<|Rh z O (mv z) ?_
     rcases bs (!x2.little) with hcb | hcb
     ·iterate 3 refine Nh z hcb ?_
      exact Rh z O (pT z hcb z)<|R z (pT z O z)<|Ra z<|Wl (fun _ q=>⟨true,som<|ifT aB hcb,q.k<|s1 z,bup sg sx⟩)
     exact Rh z hcb (fd a_F z)<|Rh z hcb (l0 g_3 z<|aX.at z)<|Rh z hcb (a_i z z)<|Rh z O (pF z hcb z)<|R z (pT z O z)<|Ra z<|Wl (fun _ q=>⟨decide<|1<x2.size,som<|ifF aB hcb,q.k<|s1 z,bup sg sx⟩)
    iterate 4 refine Nh z O ?_
    exact Nv z<|Nv z<|Nv z<|Nh z O<|R z (pF z O z)<|Ra z<|Wl (fun _ q=>⟨false,som<|ifF aA O,q.k<|s1 z,bup sg sx⟩)
   iterate 3 refine Nh z hca ?_
   exact R z (pF z hca z)<|Rm z<|Nh z z<|Nh z z<|Nh z z<|Nh z z<|Nv z<|Nv z<|Nv z<|Nh z z<|R z (pF z z z)<|Ra z<|Wl (fun _ q=>⟨false,som<|ifF az hca,q.k<|s1 z,sg⟩)
  rintro bN _ ⟨an,rfl,_,bO⟩;revert bN;refine Wo ?_;obtain rfl:=som bf;exact Wr<|rtO<|d_ hr z ⟨bup (bup h1 G) bO,z⟩
 have aC:=ifF hm a9;refine Ws<|Rq z z z<|Rw z<|Wc z (fun aa=>?_) (fun aa=>?_)
 ·refine Wq ?_;obtain ⟨bP,bg,bh⟩:=bdS<|ifT aC aa;refine Wt (fun a w=>∃(ao:Bool),ao=bP/\Sat 114 [(4,vB ao)] a/\Below H.z H w) ?_ ?_
  ·refine Wg<|R z (lN (vs:=vR x2 A3 N3 C3 A4 N4 C4 A2 N2 C2 A5 N5 C5) G_ m_ z z fid<|h3.row 0 8 z) ?_
   have hl:=(h1.ag B).e G;have aY:=lt_ h1.s G.s;obtain ⟨bQ,bR,aD⟩:=bdS bg;refine E z (fc call128 z<|d_f bR (zt' I aY) a2 a3 V (W.g hl) (a0.g hl) (a4.g hl) (Y.g hl)<|ii z) ?_;rintro _ _ ⟨sn,rfl⟩;refine Rm z ?_
   rcases bs bQ with a5 | a5
   ·refine Rh z a5 (fd b_1 z)<|Rh z a5 (l0 R_ z<|(h3.e sn).at z) ?_
    have aZ:=W.g<|hl.e sn
    refine Rh z a5 (lnR o_ z aZ) ?_;obtain ⟨bS,bT,bi⟩:=bdS<|ifT aD a5;refine Eg z z a5 z (fc call60 z<|b_m bT (zt' I<|lt_ aY sn.s) (b_D<|repS.len aZ) (ii z)<|ii z) ?_;rintro _ _ ⟨bU,rfl⟩;exact R z (pT z a5 z)<|Ra z<|Wl (fun _ q=>⟨bS,som bi,q.k<|s1 z,bup sn bU⟩)
   iterate 4 refine Nh z a5 ?_
   exact R z (pF z a5 z)<|Ra z<|Wl (fun _ q=>⟨false,som<|ifF aD a5,q.k<|s1 z,sn⟩)
  rintro bV _ ⟨ao,rfl,_,bW⟩;revert bV;refine Wo ?_;obtain rfl:=som bh;exact Wr<|rtO<|d_ hr z ⟨bup (bup h1 G) bW,z⟩
 have aE:=ifF aC aa;refine Ws<|Rq z z z<|Rw z<|Wc z (fun ab=>?_) (fun ab=>?_)
 ·refine Wq ?_;obtain ⟨bX,bj,bk⟩:=bdS<|ifT aE ab;refine Wt (fun a w=>∃(ap:Bool),ap=bX/\Sat 114 [(4,vB ap)] a/\Below H.z H w) ?_ ?_
  ·refine Wg<|R z (lN (vs:=vR x2 A3 N3 C3 A4 N4 C4 A2 N2 C2 A5 N5 C5) G_ m_ z z fid<|h3.row 0 8 z) ?_
   have hy:=(h1.ag B).e G;have b0:=lt_ h1.s G.s;obtain ⟨bY,bZ,aF⟩:=bdS bj;refine E z (fc call128 z<|d_f bZ (zt' I b0) a2 a3 V (W.g hy) (a0.g hy) (a4.g hy) (Y.g hy)<|ii z) ?_;rintro _ _ ⟨sz,rfl⟩;refine Rm z ?_
   rcases bs bY with hcc | hcc
   ·refine Rh z hcc (fd a_F z)<|Rh z hcc (l0 g_3 z<|(h3.e sz).at z) ?_
    obtain ⟨c0,c1,bm⟩:=bdS<|ifT aF hcc;refine Eg z z hcc z (fc call60 z<|b_m c1 (zt' I<|lt_ b0 sz.s) V (ii z)<|ii z) ?_;rintro _ _ ⟨c2,rfl⟩;exact R z (pT z hcc z)<|Ra z<|Wl (fun _ q=>⟨c0,som bm,q.k<|s1 z,bup sz c2⟩)
   iterate 3 refine Nh z hcc ?_
   exact R z (pF z hcc z)<|Ra z<|Wl (fun _ q=>⟨false,som<|ifF aF hcc,q.k<|s1 z,sz⟩)
  rintro c3 _ ⟨ap,rfl,_,c4⟩;revert c3;refine Wo ?_;obtain rfl:=som bk;exact Wr<|rtO<|d_ hr z ⟨bup (bup h1 G) c4,z⟩
 have aG:=ifF aE ab;refine Ws<|Rq z z z<|Rw z<|Wc z (fun ad=>?_) (fun ad=>?_)
 ·refine Wq ?_;obtain ⟨c5,bn,bo⟩:=bdS<|ifT aG ad;refine Wt (fun a w=>∃(aq:Bool),aq=c5/\Sat 114 [(4,vB aq)] a/\Below H.z H w) ?_ ?_
  ·refine Wd (X:=noX) 0 (pl_ 12 [1,8]) mo (by kernel_rfl) fun cX sh _=>?_
   have b1:=h3.e sh;refine dR z z (lN (vs:=vR x2 A3 N3 C3 A4 N4 C4 A2 N2 C2 A5 N5 C5) G_ m_ z z fid<|b1.row 0 8 z) ?_;have ho:=((h1.ag B).e G).e sh;have b2:=lt_ (lt_ h1.s G.s) sh.s;obtain ⟨c6,c7,aH⟩:=bdS bn;refine dE z z (fc call128 z<|d_f c7 (zt' I b2) a2 a3 V (W.g ho) (a0.g ho) (a4.g ho) (Y.g ho)<|ii z) (.inr fun _ _ h=>l_<|h.1) ?_;rintro _ _ ⟨si,rfl⟩;refine dM z z z ?_
   rcases bs c6 with J | J
   ·refine dRg z z z J z (lN (vs:=[sl A0 N0 C0]) w_ u_ z z fid<|(((am.e G).e sh).e si).row 0 1 z)<|dRg z z z J z (fd N_ z)<|dRg z z z J z (l0 A_ z<|(b1.e si).at z) ?_
    obtain ⟨_,c8,bp⟩:=bdS<|ifT aH J;have b3:=ho.e si;refine b_M z z z J z (at_ (α:=Int) x_ z_3 z z z (Y.g b3) c8) ?_;rintro _ ⟨_,_,_,rfl,c9,ca,_⟩;obtain ⟨rfl,cb⟩:=O_ ca;refine dRg z z z J z (l0 g_3 z<|c9.at0 z) ?_;obtain ⟨cc,cd,bq⟩:=bdS bp;refine dEg z z z J z (fc call129 z<|f_Z cd (zt' I<|lt_ b2 si.s) (a8.g b3) cb) (.inr fun _ _ h=>l_<|h.1) ?_;rintro _ _ ⟨ce,rfl,_⟩;exact dRg z z z J z (a_i z z)<|dR z z (pT z J z)<|dQ z z z<|pD (fun _ q=>⟨decide<|0<cc,som bq,q.k<|s1 z,bup (bup sh si) ce⟩)
   iterate 5 refine dRn z z z J z ?_
   exact dEn z z z J z<|dRn z z z J z<|dR z z (pF z J z)<|dQ z z z<|pD (fun _ q=>⟨false,som<|ifF aH J,q.k<|s1 z,bup sh si⟩)
  rintro cf _ ⟨aq,rfl,_,cg⟩;revert cf;refine Wo ?_;obtain rfl:=som bo;exact Wr<|rtO<|d_ hr z ⟨bup (bup h1 G) cg,z⟩
 have aI:=ifF aG ad;refine Ws<|Rq z z z<|Rw z<|Wc z (fun ae=>?_) (fun ae=>?_)
 ·refine Wq ?_;obtain ⟨ch,bt,bu⟩:=bdS<|ifT aI ae;refine Wt (fun a w=>∃(ar:Bool),ar=ch/\Sat 114 [(4,vB ar)] a/\Below H.z H w) ?_ ?_
  ·refine Wd (X:=noX) 0 (pl_ 12 [1,8]) mo (by kernel_rfl) fun cY sj _=>?_
   have b4:=h3.e sj;refine dR z z (lN (vs:=vR x2 A3 N3 C3 A4 N4 C4 A2 N2 C2 A5 N5 C5) G_ m_ z z fid<|b4.row 0 8 z) ?_;have hp:=((h1.ag B).e G).e sj;have b5:=lt_ (lt_ h1.s G.s) sj.s;obtain ⟨ci,cj,aJ⟩:=bdS bt;refine dE z z (fc call128 z<|d_f cj (zt' I b5) a2 a3 V (W.g hp) (a0.g hp) (a4.g hp) (Y.g hp)<|ii z) (.inr fun _ _ h=>l_<|h.1) ?_;rintro _ _ ⟨sk,rfl⟩;refine dM z z z ?_
   rcases bs ci with L | L
   ·refine dRg z z z L z (lN (vs:=[sl A0 N0 C0]) w_ u_ z z fid<|(((am.e G).e sj).e sk).row 0 1 z)<|dRg z z z L z (fd N_ z)<|dRg z z z L z (l0 A_ z<|(b4.e sk).at z) ?_
    obtain ⟨_,ck,bv⟩:=bdS<|ifT aJ L;have b6:=hp.e sk;refine b_M z z z L z (at_ (α:=Int) x_ z_3 z z z (Y.g b6) ck) ?_;rintro _ ⟨_,_,_,rfl,cl,cm,_⟩;obtain ⟨rfl,cn⟩:=O_ cm;refine dRg z z z L z (l0 g_3 z<|cl.at0 z) ?_;obtain ⟨co,cp,bw⟩:=bdS bv;refine dEg z z z L z (fc call129 z<|f_Z cp (zt' I<|lt_ b5 sk.s) (a8.g b6) cn) (.inr fun _ _ h=>l_<|h.1) ?_;rintro _ _ ⟨cq,rfl,_⟩;exact dRg z z z L z (a_i z z)<|dR z z (pT z L z)<|dQ z z z<|pD (fun _ q=>⟨decide<|0<co,som bw,q.k<|s1 z,bup (bup sj sk) cq⟩)
   iterate 5 refine dRn z z z L z ?_
   exact dEn z z z L z<|dRn z z z L z<|dR z z (pF z L z)<|dQ z z z<|pD (fun _ q=>⟨false,som<|ifF aJ L,q.k<|s1 z,bup sj sk⟩)
  rintro cr _ ⟨ar,rfl,_,ct⟩;revert cr;refine Wo ?_;obtain rfl:=som bu;exact Wr<|rtO<|d_ hr z ⟨bup (bup h1 G) ct,z⟩
 have aK:=ifF aI ae;refine Ws<|Rq z z z<|Rw z<|Wc z (fun af=>?_) (fun af=>?_)
 ·refine Wq ?_;obtain ⟨cu,bx,bz⟩:=bdS<|ifT aK af;refine Wt (fun a w=>∃(au:Bool),au=cu/\Sat 114 [(4,vB au)] a/\Below H.z H w) ?_ ?_
  ·refine Wg<|R z (lN (vs:=vR x2 A3 N3 C3 A4 N4 C4 A2 N2 C2 A5 N5 C5) G_ m_ z z fid<|h3.row 0 8 z)<|Rf z b_y z<|R z (l0 a_I z<|h3.at z) ?_
   have hq:=(h1.ag B).e G;have av:=a0.g hq;refine R z (lnR T_ z av) ?_;have b7:=lt_ h1.s G.s;obtain ⟨cv,cw,aL⟩:=bdS bx;refine E z (fc call128 z<|d_f cw (zt' I b7) a2 a3 V (W.g hq) av (a4.g hq) (Y.g hq)<|b_D<|repS.len av) ?_;rintro _ _ ⟨sr,rfl⟩;refine Rm z ?_
   rcases bs cv with hcd | hcd
   ·refine Rh z hcd (fd b_y z)<|Rh z hcd (l0 a_I z<|(h3.e sr).at z) ?_
    obtain ⟨cx,cy,bA⟩:=bdS<|ifT aL hcd;refine Eg z z hcd z (fc call130 z<|W_w2g cy (zt' I<|lt_ b7 sr.s)<|a0.g<|hq.e sr) ?_;rintro _ _ ⟨cz,rfl⟩;exact R z (pT z hcd z)<|Ra z<|Wl (fun _ q=>⟨cx,som bA,q.k<|s1 z,bup sr cz⟩)
   iterate 3 refine Nh z hcd ?_
   exact R z (pF z hcd z)<|Ra z<|Wl (fun _ q=>⟨false,som<|ifF aL hcd,q.k<|s1 z,sr⟩)
  rintro cA _ ⟨au,rfl,_,cB⟩;revert cA;refine Wo ?_;obtain rfl:=som bz;exact Wr<|rtO<|d_ hr z ⟨bup (bup h1 G) cB,z⟩
 have aM:=ifF aK af;refine Ws<|Rq z z z<|Rw z<|Wc z (fun ah=>?_) (fun ah=>?_)
 ·refine Wq ?_;obtain ⟨cC,bB,bC⟩:=bdS<|ifT aM ah;refine Wt (fun a w=>∃(aw:Bool),aw=cC/\Sat 114 [(4,vB aw)] a/\Below H.z H w) ?_ ?_
  ·refine Wg<|R z (lN (vs:=vR x2 A3 N3 C3 A4 N4 C4 A2 N2 C2 A5 N5 C5) G_ m_ z z fid<|h3.row 0 8 z) ?_
   have ht:=(h1.ag B).e G;have b8:=lt_ h1.s G.s;obtain ⟨cD,cE,aN⟩:=bdS bB;refine E z (fc call128 z<|d_f cE (zt' I b8) a2 a3 V (W.g ht) (a0.g ht) (a4.g ht) (Y.g ht)<|ii z) ?_;rintro _ _ ⟨sm,rfl⟩;refine Rm z ?_
   rcases bs cD with hce | hce
   ·refine Rh z hce (lN (vs:=[sl A0 N0 C0]) w_ u_ z z fid<|((am.e G).e sm).row 0 1 z)<|Rh z hce (lN (vs:=vR x2 A3 N3 C3 A4 N4 C4 A2 N2 C2 A5 N5 C5) G_ m_ z z fid<|(h3.e sm).row 0 8 z) ?_
    have hu:=ht.e sm;obtain ⟨cF,cG,bD⟩:=bdS<|ifT aN hce;refine Eg z z hce z (fc call131 z<|W_w2h cG (zt' I<|lt_ b8 sm.s) (a8.g hu) a2 a3 V (W.g hu) (a0.g hu) (a4.g hu)<|Y.g hu) ?_;rintro _ _ ⟨cH,rfl⟩;exact R z (pT z hce z)<|Ra z<|Wl (fun _ q=>⟨cF,som bD,q.k<|s1 z,bup sm cH⟩)
   iterate 3 refine Nh z hce ?_
   exact R z (pF z hce z)<|Ra z<|Wl (fun _ q=>⟨false,som<|ifF aN hce,q.k<|s1 z,sm⟩)
  rintro cI _ ⟨aw,rfl,_,cJ⟩;revert cI;refine Wo ?_;obtain rfl:=som bC;exact Wr<|rtO<|d_ hr z ⟨bup (bup h1 G) cJ,z⟩
 refine Wq<|Ws<|Rq z z z<|Rw z ?_
 obtain ⟨cK,aO,aP⟩:=bdS<|ifF aM ah;refine Wt (fun a w=>∃(ax:Bool),ax=cK/\Sat 114 [(3,pt al.z),(6,vI x2.kind),(92,vB ax)] a/\Below H.z H w) ?_ ?_
 ·refine Wc z (fun ai=>?_)<|fun ai=>?_
  ·exact a_k<|fun _ q=>⟨x2.kind==8,som<|ifT aO ai,q.k<|s3 z z z,br H⟩
  exact Wg<|Rq z z z<|Ra z<|Wl (fun _ q=>⟨x2.kind==9,som<|ifF aO ai,q.k<|s3 z z z,br H⟩)
 rintro cL b9 ⟨ax,rfl,_,sf⟩;revert cL;refine Wo<|Wc z (fun aj=>?_) (fun aj=>?_)
 ·refine Ws<|R z (lN (vs:=vR x2 A3 N3 C3 A4 N4 C4 A2 N2 C2 A5 N5 C5) G_ m_ z z fid<|(h3.e sf).row 0 8 z) ?_
  have a7:=((h1.ag B).e G).e sf;obtain ⟨_,cM,bE⟩:=bdS<|ifT aP aj;refine E z (fc call128 z<|d_f cM (zt' I<|lt_ (lt_ h1.s G.s) sf.s) a2 a3 V (W.g a7) (a0.g a7) (a4.g a7) (Y.g a7)<|ii z) ?_;rintro _ _ ⟨cN,rfl⟩;refine Rw z ?_
  obtain rfl:=som bE;exact Wr<|rtO<|d_ hr z ⟨bup (bup (bup h1 G) sf) cN,z⟩
 have aQ:=ifF aP aj;refine Ws<|Rq z z z<|Rw z<|Wc z (fun ak=>?_) (fun ak=>?_)
 ·refine Wq ?_;obtain ⟨cO,bF,bG⟩:=bdS<|ifT aQ ak;refine Wt (fun a w=>∃(ay:Bool),ay=cO/\Sat 114 [(4,vB ay)] a/\Below b9.z b9 w) ?_ ?_
  ·refine Wg ?_;have ba:=h3.e sf;refine R z (lN (vs:=vR x2 A3 N3 C3 A4 N4 C4 A2 N2 C2 A5 N5 C5) G_ m_ z z fid<|ba.row 0 8 z) ?_;have hv:=((h1.ag B).e G).e sf;obtain ⟨cP,cQ,aR⟩:=bdS bF;refine E z (fc call128 z<|d_f cQ (zt' I<|lt_ (lt_ h1.s G.s) sf.s) a2 a3 V (W.g hv) (a0.g hv) (a4.g hv) (Y.g hv)<|ii z) ?_;rintro _ _ ⟨ss,rfl⟩;refine Rm z ?_
   rcases bs cP with a6 | a6
   ·have aS:=ifT aR a6;refine Rh z a6 (fd b_1 z) ?_;have bb:=ba.e ss;refine Rh z a6 (l0 R_ z<|bb.at z) ?_;have bc:=W.g<|hv.e ss
    refine Rh z a6 (lnR o_ z bc)<|Rh z a6 (eql z z)<|R z (pT z a6 z)<|Rm z ?_
    rcases bs ((x2.bytes.length:Int)==1) with a1 | a1
    ·refine Rh z a1 (fd b_1 z)<|Rh z a1 (l0 R_ z<|bb.at z) ?_
     obtain ⟨cR,cS,bH⟩:=bdS<|ifT aS a1;refine RXg z z a1 z (at_ (α:=UInt8) o_ z_5 z z z bc cS) ?_;rintro _ ⟨_,_,_,rfl,cT,cU,_⟩;obtain rfl:=u8 cU;exact Rh z a1 (l0 g_5 z<|cT.at0 z)<|Rh z a1 (nq z z)<|R z (pT z a1 z)<|Ra z<|Wl (fun _ q=>⟨(byteI cR) != (byteI (92:UInt8)),som bH,q.k<|s1 z,ss⟩)
    iterate 5 refine Nh z a1 ?_
    exact R z (pF z a1 z)<|Ra z<|Wl (fun _ q=>⟨false,som<|ifF aS a1,q.k<|s1 z,ss⟩)
   iterate 4 refine Nh z a6 ?_
   exact R z (pF z a6 z)<|Rm z<|Nh z z<|Nh z z<|Nh z z<|Nh z z<|Nh z z<|R z (pF z z z)<|Ra z<|Wl (fun _ q=>⟨false,som<|ifF aR a6,q.k<|s1 z,ss⟩)
  rintro cV _ ⟨ay,rfl,_,cW⟩;revert cV;refine Wo ?_;obtain rfl:=som bG;exact Wr<|rtO<|d_ hr z ⟨bup (bup (bup h1 G) sf) cW,z⟩
 refine Wk<|Ws<|Rw z ?_
 obtain rfl:=som<|ifF aQ ak;exact Wr<|d_ hr z ⟨bup (bup h1 G) sf,z⟩
theorem W_w2j {x1:b_}{x2:Int}{res:Bool}(hm:h_3 x1 x2=some res)(J:B<=w0.z)(O:repS w0 B (sl A0 N0 C0) x1.rules)(a0:inI x2):i_ prog 63 [(.agg #[sl A0 N0 C0]),vI x2] w0 (Q7 w0 B res):=by
 unfold h_3 at hm
 refine goG func63 z z z fun fn hr=>Ws<|E z (fb z) ?_
 rintro _ aO ⟨rfl,a9⟩;have h1:=a9.below;have he:Blk aO w0.z [sl A0 N0 C0]:=a9.blk;refine Rw z<|Wq<|Wm z<|Rf z a_9 z<|R z (l0 a_d z<|he.at z)<|R z (lnR a_0 z<|O.e h1)<|R z (sb_ z z) ?_
 obtain ⟨_,aP,a1⟩:=bdS hm;refine E z (fc call60 z<|b_m aP (zt' J h1.s) a0 (ii z)<|iS _ _) ?_;rintro _ I ⟨G,rfl⟩;refine R z (not_ z)<|Wx z (fun hci=>?_) (fun hci=>?_)
 ·refine Ws<|Rw z ?_
  obtain rfl:=som<|ifT a1 hci;exact Wr<|d_ hr z ⟨bup h1 G,z⟩
 refine Wk<|Ws<|Rf z a_9 z ?_
 have hj:=he.e G;refine R z (l0 a_d z<|hj.at z)<|Rm z ?_
 obtain ⟨xk,aQ,ar⟩:=bdS<|ifF a1 hci;have hl:=(h1.ag B).e G;refine RX z (at_ (α:=e_) a_0 m_ z z z (O.g hl) aQ) ?_;rintro _ ⟨_,_,_,rfl,aR,aS,_⟩;obtain ⟨am,nn,co,ap,nq,cr,au,ns,ct,av,nw,cx,rfl,aa,aT,aU,aV,aW,aX,hf⟩:=a_w aS;refine R z (lN (vs:=vR xk am nn co ap nq cr au ns ct av nw cx) G_ m_ z z fid aR)<|E z (fa b_l) ?_
 rintro _ aY ⟨rfl,ab⟩;have h2:=ab.below;refine E0 (fs0 (cur':=vR xk am nn co ap nq cr au ns ct av nw cx) m_ z z (ab.blk:Blk aY I.z [(Str.v (⟨[]⟩:Str)),vI 0,vI 0,vB false,sl none 0 0,sl none 0 0,sl none 0 0,sl none 0 0]) z z z z) ?_;rintro _ L ⟨hg,aZ⟩;have h3:=aZ.one;refine Wn<|Wq<|Ws<|Rw z ?_
 obtain ⟨_,aw,a2⟩:=bdS ar;refine Wf (σ:=Unit) (ρ:=Bool) (fun (ad:Nat)(_:Unit) a w=>Sat 58 [(1,vI x2),(2,pt w0.z),(5,pt I.z),(6,vI ((ad:Nat):Int))] a/\Below L.z L w) (fun (_:Unit) a w=>Sat 58 [(1,vI x2),(2,pt w0.z),(5,pt I.z)] a/\Below L.z L w) (rQ prog fn<|Q7 w0 B) aw ?_ ?_ ?_ ?_ ?_
 ·exact fun _ q=>⟨q.k<|s4 z z z z,br L⟩
 ·rintro ad _ _ _ _ a3 ⟨ax,sa⟩ ay;refine Wu ?_ ax;refine Wq<|Wm z<|Rm z<|Rl z z z<|Wx z (fun _=>?_) (fun hc=>(k_6 a3 hc).elim)
  refine Wk<|Wq<|Wb<|Wq (Wd (X:=noX) 0 (pl_ 9 []) mo (by kernel_rfl) fun bk sb _=>dR z z (fd a_9 z)<|dR z z (l0 a_d z<|((((hj.e h2).c h3<|djs<|mm1 he.lt G.s).e sa).e sb).at z)<|dM z z z ?_)
  obtain ⟨_,b0,a4⟩:=bdS ay;have ae:=lt_ h1.s G.s;refine dRX z z (at_ (α:=e_) a_0 m_ z z z (O.g<|(((hl.e h2).c h3<|g_ (or0 (f_ lr) (t_<|zt' J ae):∀k∈[I.z],¬B k)).e sa).e sb) b0) ?_;rintro _ ⟨_,_,_,rfl,b1,b2,_⟩;obtain ⟨_,_,_,_,_,_,_,_,_,_,_,_,rfl,_,_,_,_,_,_,_⟩:=a_w b2;refine dR z z (fd d_d z)<|dR z z (l0 g_9 z<|b1.at (j:=0) z)<|dR z z (fd d_d z)<|dR z z (l0 g_9 z<|((hg.e sa).e sb).at z)<|dR z z (a_V z z)<|pD<|Wo<|Wc z (fun hcy=>?_) (fun hcy=>?_)
  ·exact Ws<|Rw z<|Wr<|rtO<|qL (som<|ifT a4 hcy).symm<|d_ hr z ⟨bup (bup (bM (bup (bup h1 G) h2) h3<|m1 ae) sa) sb,z⟩
  exact Wk<|Wg<|Rm z<|R z (inc_ a3 (tl_ a0) z z)<|Ra z<|Wl (fun _ q=>⟨(),(som<|ifF a4 hcy).symm,⟨q.k<|s4 z z z z,bup sa sb⟩⟩)
 ·rintro _ _ _ ⟨az,b3⟩;refine Wu ?_ az;refine Wq<|Wm z<|Rm z<|Rl z z z<|Wx z (fun hc=>(k_7 hc).elim) (fun _=>?_)
  exact We<|fun _ q=>⟨rfl,⟨q.k<|s3 z z z,b3⟩⟩
 ·rintro _ b4 wc rfl ⟨_,s5⟩;have aA:=elL a2;revert b4;refine Wo<|Wq<|Ws<|Rw z ?_
  obtain ⟨_,aB,a5⟩:=bdS aA;refine Wf (σ:=Unit) (ρ:=Bool) (fun (af:Nat)(_:Unit) a w=>Sat 58 [(1,vI x2),(2,pt w0.z),(5,pt I.z),(7,vI ((af:Nat):Int))] a/\Below wc.z wc w) (fun (_:Unit) a w=>Sat 58 [(2,pt w0.z),(5,pt I.z)] a/\Below wc.z wc w) (rQ prog fn<|Q7 w0 B) aB ?_ ?_ ?_ ?_ ?_
  ·exact fun _ q=>⟨q.k<|s4 z z z z,br wc⟩
  ·rintro af _ _ _ _ a6 ⟨aC,sd⟩ aD;refine Wu ?_ aC;refine Wq<|Wm z<|Rf z N_ z ?_
   have ah:=(hg.e s5).e sd;refine R z (l0 A_ z<|ah.at z) ?_;have hz:=lt_ h1.s G.s;have ai:=hf.g<|(((h2.ag B).c h3<|g_ (or0 (f_ lr) (t_<|zt' J hz):∀k∈[I.z],¬B k)).e s5).e sd
   refine R z (lnR x_ z ai)<|Rl z z z<|Wx z (fun _=>?_) (fun hc=>(V_ a6 hc).elim)
   refine Wk<|Wq<|Wb<|Ws<|Rf z N_ z<|R z (l0 A_ z<|ah.at z)<|Rm z ?_
   obtain ⟨_,b5,aE⟩:=bdS aD;refine RX z (at_ (α:=Int) x_ z_3 z z z ai b5) ?_;rintro _ ⟨_,_,_,rfl,b6,b7,_⟩;obtain ⟨rfl,b8⟩:=O_ b7;refine R z (l0 g_3 z<|b6.at0 z)<|Rm z<|R z (sb_ z z) ?_
   obtain ⟨_,b9,a7⟩:=bdS aE;refine E z (fc call60 z<|b_m b9 (zt' J<|lt_ (lt_ (lt_ (lt_ hz h2.s) h3.s) s5.s) sd.s) b8 (ii z)<|iS _ _) ?_;rintro _ _ ⟨aj,rfl⟩;refine R z (not_ z)<|Wx z (fun V=>?_) (fun V=>?_)
   ·exact Ws<|Rw z<|Wr<|rtO<|qL (som<|ifT a7 V).symm<|d_ hr z ⟨bup (bup (bup (bM (bup (bup h1 G) h2) h3<|m1 hz) s5) sd) aj,z⟩
   exact Wk<|Wg<|Rm z<|R z (inc_ a6 (lt_ (repS.len hf) D_) z z)<|Ra z<|Wl (fun _ q=>⟨(),(som<|ifF a7 V).symm,⟨q.k<|s4 z z z z,bup sd aj⟩⟩)
  ·rintro _ _ _ ⟨aF,W⟩;refine Wu ?_ aF;refine Wq<|Wm z<|Rf z N_ z<|R z (l0 A_ z<|((hg.e s5).e W).at z) ?_
   refine R z (lnR x_ z<|hf.g<|(((h2.ag B).c h3<|g_ (or0 (f_ lr) (t_<|zt' J<|lt_ h1.s G.s):∀k∈[I.z],¬B k)).e s5).e W)<|Rl z z z<|Wx z (fun hc=>(W_ hc).elim) (fun _=>?_)
   exact We<|fun _ q=>⟨rfl,⟨q.k<|s2 z z,W⟩⟩
  ·rintro _ ba ak rfl ⟨_,s8⟩;have aG:=elL a5;revert ba;refine Wo<|Wq ?_
   obtain ⟨bb,aH,aI⟩:=bdS aG;refine Wt (fun a w=>∃(Y:Bool),Y=bb/\Sat 58 [(4,vB Y)] a/\Below ak.z ak w) ?_ ?_
   ·refine Wg<|Rf z d_d z ?_
    have al:=(hg.e s5).e s8;refine R z (l0 g_9 z<|al.at z) ?_;have an:=lt_ h1.s G.s;have ao:=lt_ (lt_ (lt_ (lt_ an h2.s) h3.s) s5.s) s8.s;obtain ⟨bc,be,a8⟩:=bdS aH;refine E z (fc call95 z<|j_o be (zt' J ao) aa) ?_;rintro _ _ ⟨s7,rfl⟩;refine Rm z ?_
    rcases bs bc with H | H
    ·refine Rh z H (lN (vs:=[sl A0 N0 C0]) w_ u_ z z fid<|(((((hj.e h2).c h3<|djs<|mm1 he.lt G.s).e s5).e s8).e s7).row 0 1 z)<|Rh z H (lN (vs:=vR xk am nn co ap nq cr au ns ct av nw cx) G_ m_ z z fid<|(al.e s7).row 0 8 z) ?_
     have aq:∀k∈[I.z],¬B k:=or0 (f_ lr)<|t_<|zt' J an;have hh:=((((h2.ag B).c h3<|g_ aq).e s5).e s8).e s7;obtain ⟨bf,bg,aJ⟩:=bdS<|ifT a8 H;refine Eg z z H z (fc call97 z<|W_w2i bg (zt' J<|lt_ ao s7.s) (O.g<|((((hl.e h2).c h3<|g_ aq).e s5).e s8).e s7) aa aT aU (aV.g hh) (aW.g hh) (aX.g hh)<|hf.g hh) ?_;rintro _ _ ⟨bh,rfl⟩;exact R z (pT z H z)<|Ra z<|Wl (fun _ q=>⟨bf,som aJ,q.k<|s1 z,bup s7 bh⟩)
    iterate 3 refine Nh z H ?_
    exact R z (pF z H z)<|Ra z<|Wl (fun _ q=>⟨false,som<|ifF a8 H,q.k<|s1 z,s7⟩)
   rintro bi _ ⟨Y,rfl,_,bj⟩;revert bi;refine Wo ?_;obtain rfl:=som aI;exact Wr<|d_ hr z ⟨bup (bup (bup (bM (bup (bup h1 G) h2) h3<|m1<|lt_ h1.s G.s) s5) s8) bj,z⟩
  rintro _ _ _ _ rfl ⟨rfl,aK⟩;have aL:=elR a5;obtain rfl:=som aL;exact ⟨aK,z⟩
 rintro _ _ _ _ rfl ⟨rfl,aM⟩;have aN:=elR a2;obtain rfl:=som aN;exact ⟨aM,z⟩
theorem W_w19 {x1:b_}{res:Bool}(hm:f_A x1=some res)(O:B<=w0.z)(I:repS w0 B (sl A0 N0 C0) x1.rules):i_ prog 32 [(.agg #[sl A0 N0 C0])] w0 (Q7 w0 B res):=by
 unfold f_A at hm
 refine goG func32 z z z fun fn hr=>Ws<|E z (fb z) ?_
 rintro _ H ⟨rfl,W⟩;have G:=W.below;have h2:Blk H w0.z [sl A0 N0 C0]:=W.blk;refine Rw z<|Wq<|Ws<|Rw z ?_
 obtain ⟨_,hug,V⟩:=bdS hm;refine Wf (σ:=Unit) (ρ:=Bool) (fun (ka:Nat)(_:Unit) a w=>Sat 19 [(1,pt w0.z),(3,vI ((ka:Nat):Int))] a/\Below H.z H w) (fun (_:Unit) a w=>Sat 19 [(1,pt w0.z)] a/\Below H.z H w) (rQ prog fn<|Q7 w0 B) hug ?_ ?_ ?_ ?_ ?_
 ·exact fun _ q=>⟨q.k<|s2 z z,br H⟩
 ·rintro ka _ _ _ _ J ⟨hSh,s3⟩ hmi;refine Wu ?_ hSh;refine Wq<|Wm z<|Rf z a_9 z ?_
  have hb:=h2.e s3;refine R z (l0 a_d z<|hb.at z) ?_;have hd:=I.g<|(G.ag B).e s3
  refine R z (lnR a_0 z hd)<|Rl z z z<|Wx z (fun _=>?_) (fun hc=>(V_ J hc).elim)
  refine Wk<|Wq<|Wb<|Ws<|R z (lN (vs:=[sl A0 N0 C0]) w_ u_ z z fid<|hb.row 0 1 z)<|Rm z ?_
  obtain ⟨_,ej,hmc⟩:=bdS hmi;refine E z (fc call63 z<|W_w2j ej (zt' O<|lt_ G.s s3.s) hd<|ic (Nat.le_of_lt J)<|lt_ (repS.len I) D_) ?_;rintro _ _ ⟨se,rfl⟩;refine R z (not_ z)<|Wx z (fun L=>?_) (fun L=>?_)
  ·exact Ws<|Rw z<|Wr<|rtO<|qL (som<|ifT hmc L).symm<|d_ hr z ⟨bup (bup G s3) se,z⟩
  exact Wk<|Wg<|Rm z<|R z (inc_ J (lt_ (repS.len I) D_) z z)<|Ra z<|Wl (fun _ q=>⟨(),(som<|ifF hmc L).symm,⟨q.k<|s2 z z,bup s3 se⟩⟩)
 ·rintro _ _ _ ⟨hSk,s7⟩;refine Wu ?_ hSk;refine Wq<|Wm z<|Rf z a_9 z<|R z (l0 a_d z<|(h2.e s7).at z)<|R z (lnR a_0 z<|I.g<|(G.ag B).e s7)<|Rl z z z<|Wx z (fun hc=>(W_ hc).elim) (fun _=>?_)
  exact We<|fun _ q=>⟨rfl,⟨q.k<|s1 z,s7⟩⟩
 ·rintro _ al _ rfl ⟨_,s4⟩;have hmm:=elL V;revert al;refine Wo<|Ws<|Rf z a_9 z<|R z (l0 a_d z<|(h2.e s4).at z) ?_
  have hf:=I.g<|(G.ag B).e s4
  refine R z (lnR a_0 z hf) ?_;obtain ⟨_,en,hmo⟩:=bdS hmm;refine E z (fc call60 z<|b_m en (zt' O<|lt_ G.s s4.s) (b_D<|repS.len hf) (ii z)<|ii z) ?_;rintro _ _ ⟨sp,rfl⟩;refine Rw z ?_
  obtain rfl:=som hmo;exact Wr<|d_ hr z ⟨bup (bup G s4) sp,z⟩
 rintro _ _ _ _ rfl ⟨rfl,hqq⟩;have hmr:=elR V;obtain rfl:=som hmr;exact ⟨hqq,z⟩
theorem j_p {x1:b_}{x2:Int}{res:Bool}(hm:e_9 x1 x2=some res)(J:B<=w0.z)(I:repS w0 B (sl A0 N0 C0) x1.rules)(O:inI x2):i_ prog 59 [(.agg #[sl A0 N0 C0]),vI x2] w0 (Q7 w0 B res):=by
 unfold e_9 at hm
 refine goG func59 z z z fun fn hr=>Ws<|E z (fb z) ?_
 rintro _ H ⟨rfl,h5⟩;have h1:=h5.below;have h6:Blk H w0.z [sl A0 N0 C0]:=h5.blk;refine Rw z<|Wq ?_
 obtain ⟨u8,V,hma⟩:=bdS hm;refine Wt (fun a w=>∃(x4:Bool),x4=u8/\Sat 15 [(4,vB x4)] a/\Below H.z H w) ?_ ?_
 ·refine Wg<|Rm z<|Rf z a_9 z<|R z (l0 a_d z<|h6.at z)<|R z (lnR a_0 z<|I.e h1)<|R z (sb_ z z) ?_
  obtain ⟨rb,ec,L⟩:=bdS V;refine E z (fc call60 z<|b_m ec (zt' J h1.s) O (ii z)<|iS _ _) ?_;rintro _ _ ⟨s2,rfl⟩;refine Rm z ?_
  rcases bs rb with G | G
  ·refine Rh z G (lN (vs:=[sl A0 N0 C0]) w_ u_ z z fid<|(h6.e s2).row 0 1 z) ?_;obtain ⟨rd,ee,hmf⟩:=bdS<|ifT L G;refine Eg z z G z (fc call32 z<|W_w19 ee (zt' J<|lt_ h1.s s2.s)<|I.g<|(h1.ag B).e s2) ?_;rintro _ _ ⟨sg,rfl⟩;exact R z (pT z G z)<|Ra z<|Wl (fun _ q=>⟨rd,som hmf,q.k<|s1 z,bup s2 sg⟩)
  exact Nh z G<|Nh z G<|R z (pF z G z)<|Ra z<|Wl (fun _ q=>⟨false,som<|ifF L G,q.k<|s1 z,s2⟩)
 rintro ah _ ⟨x4,rfl,_,si⟩;revert ah;refine Wo ?_;obtain rfl:=som hma;exact Wr<|d_ hr z ⟨bup h1 si,z⟩
theorem W_w2k {x1:List UInt8}{x2:Bool}{res:Int}(hm:h_4 x1 x2=some res)(V:B<=w0.z)(G:repS w0 B (sl A0 N0 C0) x1):i_ prog 93 [sl A0 N0 C0,vB x2] w0 (Q0 w0 B res):=by
 unfold h_4 at hm
 refine goG func93 z z z fun fn hr=>Ws<|Rw z<|Ws<|Rw z<|Wq<|Wm z<|R z (lnR o_ z G)<|R z (a_i z z)<|Wx z (fun I=>?_) (fun I=>?_)
 ·refine Ws<|Rw z ?_
  obtain rfl:=som<|ifT hm I;exact Wr<|d_ hr z ⟨br w0,z,ii z⟩
 refine Wk<|Wq<|Ws<|Rw z ?_
 obtain ⟨_,hue,O⟩:=bdS<|ifF hm I;refine Wf (σ:=Int) (ρ:=Int) (fun (k1:Nat)(x0:Int) a w=>Sat 33 [(0,sl A0 N0 C0),(1,vB x2),(5,vI x0),(6,vI ((k1:Nat):Int))] a/\Below w0.z w0 w/\inI x0) (fun (x0:Int) a w=>Sat 33 [(5,vI x0)] a/\Below w0.z w0 w/\inI x0) (rQ prog fn<|Q0 w0 B) hue ?_ ?_ ?_ ?_ ?_
 ·exact fun _ q=>⟨q.k<|s4 z z z z,br w0,ii z⟩
 ·rintro k1 x0 _ H _ J ⟨hSf,s7,h3⟩ hmg;refine Wu ?_ hSf;refine Wq<|Wm z<|Rm z ?_
  have ha:=G.e s7;refine R z (lnR o_ z ha)<|Rl z z z<|Wx z (fun _=>?_) (fun hc=>(V_ J hc).elim)
  refine Wk<|Wq<|Wb<|Wm z<|Rw z<|Wq<|Wm z<|Wn ?_
  obtain ⟨uh,hub,hmi⟩:=bdS hmg;refine Wt (fun a w=>∃(x4:Int),x4=uh/\Sat 33 [(0,sl A0 N0 C0),(1,vB x2),(5,vI x0),(6,vI ((k1:Nat):Int)),(7,vI x4)] a/\Below H.z H w/\inI x4) ?_ ?_
  ·refine Wc z (fun L=>?_)<|fun L=>?_
   ·exact Wg<|Rm z<|R z (lnR o_ z ha)<|R z (sb_ z z)<|Rm z<|R z (sb_ z z)<|Ra z<|Wl (fun _ q=>⟨S_ (S_ (x1.length:Int) 1) ((k1:Nat):Int),som<|ifT hub L,q.k<|s5 z z z z z,br H,iS _ _⟩)
   exact a_k<|fun _ q=>⟨((k1:Nat):Int),som<|ifF hub L,q.k<|s5 z z z z z,br H,ic (Nat.le_of_lt J)<|lt_ (repS.len G) D_⟩
  rintro aj _ ⟨x4,rfl,_,sc,_⟩;revert aj;refine Wo<|Wg<|Rm z<|R z (g_r z z)<|RM z z ?_
  obtain ⟨xk,el,hmm⟩:=bdS hmi;refine RX z (at_ (α:=UInt8) o_ z_5 z z z (G.g<|(s7.ag B).e sc) el) ?_;rintro _ ⟨_,_,_,rfl,hn,ho,_⟩;obtain rfl:=u8 ho;exact R z (l0 g_5 z<|hn.at0 z)<|R z (c_e d_5 d_3 z)<|R z (add_ z z)<|Rw z<|Wg<|Rm z<|R z (inc_ J (lt_ (repS.len G) D_) z z)<|Ra z<|Wl (fun _ q=>⟨j_ (b_g x0 256)<|byteI xk,(som hmm).symm,⟨q.k<|s4 z z z z,bup s7 sc,iA _ _⟩⟩)
 ·rintro x0 _ _ ⟨hSp,sd,h3⟩;refine Wu ?_ hSp;refine Wq<|Wm z<|Rm z<|R z (lnR o_ z<|G.e sd)<|Rl z z z<|Wx z (fun hc=>(W_ hc).elim) (fun _=>?_)
  exact We<|fun _ q=>⟨rfl,⟨q.k<|s1 z,sd,h3⟩⟩
 ·rintro x0 aq _ rfl ⟨_,sr,h3⟩;have hms:=elL O;revert aq;refine Wo<|Wm z<|Rw z ?_
  obtain rfl:=som hms;exact Wr<|d_ hr z ⟨sr,z,h3⟩
 rintro _ _ _ _ rfl ⟨rfl,hqt⟩;have hmu:=elR O;obtain rfl:=som hmu;exact ⟨hqt,z⟩
def Q8 (w0:World)(B:Zone)(r:Int×Int×Bool)(v:Value)(w':World):Prop:=Bw w0 w'/\un3 (fun G H I=>v = .tuple #[vI G,vI H,vB I]/\inI G/\inI H) r
theorem g_0 {x1:b_}{x2:Int}{x3:List UInt8}{x4:Int}{res:Int×Int×Bool}(hm:c_a x1 x2 x3 x4=some res)(L:B<=w0.z)(Y:repS w0 B (sl A0 N0 C0) x1.rules)(a5:inI x2)(J:repS w0 B (sl A7 N7 C7) x3)(a0:inI x4):i_ prog 57 [(.agg #[sl A0 N0 C0]),vI x2,sl A7 N7 C7,vI x4] w0 (Q8 w0 B res):=by
 unfold c_a at hm
 refine goG func57 z z z fun fn hr=>Ws<|E z (fb z) ?_
 rintro _ I ⟨rfl,V⟩;have G:=V.below;refine RA z z<|Rw z<|Ws<|Rf z a_9 z<|R z (l0 a_d z<|(V.blk:Blk I w0.z [sl A0 N0 C0]).at z)<|Rm z ?_
 obtain ⟨W,em,O⟩:=bdS hm;refine RX z (at_ (α:=e_) a_0 m_ z z z (Y.e G) em) ?_;rintro _ ⟨_,_,_,rfl,ht,hu,_⟩;obtain ⟨aa,nb,cc,ad,ne,cf,ah,ng,ci,aj,nk,cl,rfl,_,_,_,_,_,_,_⟩:=a_w hu;refine R z (lN (vs:=vR W aa nb cc ad ne cf ah ng ci aj nk cl) G_ m_ z z fid ht)<|E z (fa b_l) ?_
 rintro _ wr ⟨rfl,hn⟩;have h1:=hn.below;refine E0 (fs0 (cur':=vR W aa nb cc ad ne cf ah ng ci aj nk cl) m_ z z (hn.blk:Blk wr I.z [(Str.v (⟨[]⟩:Str)),vI 0,vI 0,vB false,sl none 0 0,sl none 0 0,sl none 0 0,sl none 0 0]) z z z z) ?_;rintro _ _ ⟨ho,ss⟩;have h2:=ss.one;refine Wn<|Wq<|Wm z ?_
 have hp:=((G.ag B).e h1).c h2<|g_ (or0 (f_ lr) (t_<|zt' L G.s):∀k∈[I.z],¬B k)
 refine R z (lnR o_ z<|J.g hp)<|Rm z<|R z (sb_ z z)<|Rf z a_F z<|R z (l0 g_3 z<|ho.at z)<|Rl z z z<|Wx z (fun H=>?_) (fun H=>?_)
 ·refine Wm z<|RA z z<|Rw z ?_
  obtain rfl:=som<|ifT O H;exact Wr<|z_ hr z z z ⟨bM (bup G h1) h2<|m1 G.s,z,ii z,a0⟩
 refine Wk<|Wq (Wd (X:=noX) 0 (.rd 0<|.rd 1<|.rd 2<|.rd 3<|.rd 4<|.rd 5<|.rd 6<|.rd 7<|.rd 8<|.rd 10<|.rd 11<|.rd 12<|.rd 13<|.ef 9<|.rd 14<|.rd 15<|.rd 16 .done) mo (by kernel_rfl) fun a6 s3 _=>?_)
 iterate 3 refine dM z z z ?_
 refine dR z z (fd a_F z) ?_;have h6:=ho.e s3;refine dR z z (l0 g_3 z<|h6.at z)<|dR z z (add_ z z) ?_
 obtain ⟨_,ex,hmy⟩:=bdS<|ifF O H;refine dRX z z (rX o_ z_5 z z (J.g<|hp.e s3) z z ex) ?_;rintro _ ⟨_,_,_,rfl,hz⟩;refine dR z z (fd c_s z)<|dR z z (l0 g_4 z<|h6.at z)<|dM z z z<|dR z z (fd a_F z)<|dR z z (l0 g_3 z<|h6.at z)<|dR z z (add_ z z) ?_
 obtain ⟨_,a2,a1⟩:=bdS hmy;refine dE z z (fc call93 z<|W_w2k a2 (zt' L<|lt_ (lt_ (lt_ G.s h1.s) h2.s) s3.s) hz) (.inr fun _ _ h=>l_<|h.1) ?_;rintro _ _ ⟨a3,rfl,a4⟩
 iterate 3 refine dQ z z z ?_
 refine pD<|Wo ?_
 obtain rfl:=som a1;exact Wr<|z_ hr z z z ⟨bup (bup (bM (bup G h1) h2<|m1 G.s) s3) a3,z,a4,iA _ _⟩
def Q9 (w0:World)(B:Zone)(r:Val×Int×Int)(v:Value)(w':World):Prop:=Bw w0 w'/\un3 (fun G H I=>∃J L O S1 a2 V W S2,v = .tuple #[(.agg #[vI G.number,sl J L O,sl a2 V W]),vI H,vI I]/\inI G.number/\a_ w' S1 (sl J L O) G.bytes/\a_ w' S2 (sl a2 V W) G.items/\inI H/\inI I/\(S1++S2).Nodup/\(∀k∈(S1++S2),w0.z<=k)) r
theorem W_w2l {x1:e_}{x2:List UInt8}{x3:Int}{res:Val×Int×Int}(hm:h_5 x1 x2 x3=some res)(ab:B<=w0.z)(a5:x1.name.b.length<=LEN)(a6:inI x1.kind)(a7:inI x1.size)(I:repS w0 B (sl AD ND CD) x1.bytes)(a8:repS w0 B (sl A8 N8 C8) x1.names)(a9:repS w0 B (sl AE NE CE) x1.tags)(aa:repS w0 B (sl AF NF CF) x1.kids)(O:repS w0 B (sl A6 N6 C6) x2)(V:inI x3):i_ prog 65 [(.agg #[Str.v x1.name,vI x1.kind,vI x1.size,vB x1.little,sl AD ND CD,sl A8 N8 C8,sl AE NE CE,sl AF NF CF]),sl A6 N6 C6,vI x3] w0 (Q9 w0 B res):=by
 unfold h_5 at hm
 refine goG func65 z z z fun fn hr=>Ws<|E z (fb z) ?_
 rintro _ J ⟨rfl,he⟩;have G:=he.below;have h5:Blk J w0.z (vR x1 AD ND CD A8 N8 C8 AE NE CE AF NF CF):=he.blk;refine E z (fa J_) ?_;rintro _ H ⟨rfl,hf⟩;have h1:=hf.below;have L:Blk H J.z [vI 0,sl none 0 0,sl none 0 0]:=hf.blk;refine Ra z<|Rw z<|Wq<|Ws<|Rw z ?_
 obtain ⟨_,hun,hmg⟩:=bdS hm;refine Wf (σ:=Unit) (ρ:=Val×Int×Int) (fun (kh:Nat)(_:Unit) a w=>Sat 47 [(1,sl A6 N6 C6),(2,vI x3),(3,pt w0.z),(6,pt J.z),(9,vI ((kh:Nat):Int))] a/\Below H.z H w) (fun (_:Unit) a w=>Sat 47 [(2,vI x3),(3,pt w0.z),(6,pt J.z)] a/\Below H.z H w) (rQ prog fn<|Q9 w0 B) hun ?_ ?_ ?_ ?_ ?_
 ·exact fun _ q=>⟨q.k<|s5 z z z z z,br H⟩
 ·rintro kh _ _ _ _ hki ⟨hSo,s2⟩ hmj;refine Wu ?_ hSo;refine Wq<|Wm z<|Rf z b_1 z ?_
  have hk:=(h5.e h1).e s2;refine R z (l0 R_ z<|hk.at z) ?_;have ha:=((G.ag B).e h1).e s2;refine R z (lnR o_ z<|I.g ha)<|Rl z z z<|Wx z (fun _=>?_) (fun hc=>(V_ hki hc).elim)
  refine Wk<|Wq<|Wb<|Wq<|Wm z<|Rm z<|R z (add_ z z)<|Rm z<|R z (lnR o_ z<|O.g ha)<|R z (b_s z z)<|Wx z (fun hcb=>?_) (fun hcb=>?_)
  ·refine Ws<|R z (bP (parts:=[]) (cs:=[vI 0,sl none 0 0,sl none 0 0]) L_ z z)<|Rm z<|E0 (fs0 (cur':=[vI 0,sl none 0 0,sl none 0 0]) c_ z z (L.e s2) z z z z) ?_
   rintro _ _ ⟨hp,sq⟩;exact Ra z<|Rw z<|Wr<|rtO<|qL (som<|ifT hmj hcb).symm<|z_ hr (q_ r_ c_ z hp z) z z ⟨bM (bup (bup G h1) s2) sq.one<|m1 G.s,none,0,0,[],none,0,0,[],z,ii z,onL,onL,V,ii z,nd0,al0⟩
  refine Wk<|Wq (Wd (X:=noX) 0 (pl_ 12 []) mo (by kernel_rfl) fun ad s6 _=>?_)
  iterate 3 refine dM z z z ?_
  refine dR z z (add_ z z) ?_;obtain ⟨_,er,hms⟩:=bdS<|ifF hmj hcb;have hl:=ha.e s6;refine dRX z z (at_ (α:=UInt8) o_ z_5 z z z (O.g hl) er) ?_;rintro _ ⟨_,_,_,rfl,ht,hu,_⟩;obtain rfl:=u8 hu;refine dR z z (l0 g_5 z<|ht.at0 z)<|dR z z (fd b_1 z)<|dR z z (l0 R_ z<|(hk.e s6).at z)<|dM z z z ?_
  obtain ⟨_,ev,hmm⟩:=bdS hms;refine dRX z z (at_ (α:=UInt8) o_ z_5 z z z (I.g hl) ev) ?_;rintro _ ⟨_,_,_,rfl,hw,hx,_⟩;obtain rfl:=u8 hx;refine dR z z (l0 g_5 z<|hw.at0 z)<|dR z z (nq z z)<|pD<|Wo<|Wc z (fun hcc=>?_) (fun hcc=>?_)
  ·refine Ws<|R z (bP (parts:=[]) (cs:=[vI 0,sl none 0 0,sl none 0 0]) L_ z z)<|RM z z<|R z (add_ z z)<|E0 (fs0 (cur':=[vI 0,sl none 0 0,sl none 0 0]) c_ z z ((L.e s2).e s6) z z z z) ?_
   rintro _ _ ⟨hy,sz⟩;exact Ra z<|Rw z<|Wr<|rtO<|qL (som<|ifT hmm hcc).symm<|z_ hr (q_ r_ c_ z hy z) z z ⟨bM (bup (bup (bup G h1) s2) s6) sz.one<|m1 G.s,none,0,0,[],none,0,0,[],z,ii z,onL,onL,iA _ _,ii z,nd0,al0⟩
  exact Wk<|Wg<|Rm z<|R z (inc_ hki (lt_ (repS.len I) D_) z z)<|Ra z<|Wl (fun _ q=>⟨(),(som<|ifF hmm hcc).symm,⟨q.k<|s5 z z z z z,bup s2 s6⟩⟩)
 ·rintro _ _ _ ⟨W,sd⟩;refine Wu ?_ W;refine Wq<|Wm z<|Rf z b_1 z<|R z (l0 R_ z<|((h5.e h1).e sd).at z)<|R z (lnR o_ z<|I.g<|((G.ag B).e h1).e sd)<|Rl z z z<|Wx z (fun hc=>(W_ hc).elim) (fun _=>?_)
  exact We<|fun _ q=>⟨rfl,⟨q.k<|s3 z z z,sd⟩⟩
 ·rintro _ a2 _ rfl ⟨_,s7⟩;have Y:=elL hmg;revert a2;refine Wo<|Wq (Wd (X:=(· ∈ [J.z])) 0 (pl_ 9 [6]) mo (by kernel_rfl) fun ae s8 _=>dR z z (bP (parts:=[]) (cs:=[vI 0,sl none 0 0,sl none 0 0]) L_ z z)<|dM z z z<|dR z z (fd b_1 z)<|dR z z (l1 R_ z (djs<|mmr h5.lt)<|(((h5.e h1).e s7).e s8).at z)<|dR z z (lnR o_ z<|I.g<|(((G.ag B).e h1).e s7).e s8)<|dR z z (add_ z z)<|dE0 z (fs0 (cur':=[vI 0,sl none 0 0,sl none 0 0]) c_ z z ((L.e s7).e s8) z z z z) (.inr fun _ _ h=>k_9 (List.mem_singleton.2 z) h.2) ?_)
  rintro _ _ ⟨a3,a4⟩;refine dQ z z z<|dQ z z z<|pD<|Wo ?_
  obtain rfl:=som Y;exact Wr<|z_ hr (q_ r_ c_ z a3 z) z z ⟨bM (bup (bup (bup G h1) s7) s8) a4.one<|m1 G.s,none,0,0,[],none,0,0,[],z,ii z,onL,onL,iA _ _,ii z,nd0,al0⟩
 rintro _ _ _ _ rfl ⟨rfl,a0⟩;have a1:=elR hmg;obtain rfl:=som a1;exact ⟨a0,z⟩
theorem W_w1a {x1:List UInt8}{x2:Int}{x3:Int}{res:Val×Int×Int}(hm:f_B x1 x2 x3=some res)(a1:B<=w0.z)(O:repS w0 B (sl A0 N0 C0) x1)(Y:inI x2)(a0:inI x3):i_ prog 66 [sl A0 N0 C0,vI x2,vI x3] w0 (Q9 w0 B res):=by
 unfold f_B at hm
 refine goG func66 z z z fun fn hr=>Ws<|E z (fa J_) ?_
 rintro _ we ⟨rfl,V⟩;have G:=V.below;have h2:Blk we w0.z [vI 0,sl none 0 0,sl none 0 0]:=V.blk;refine Ra z<|Rw z<|Wq<|Wm z<|R z (lnR o_ z<|O.e G)<|Rm z<|R z (sb_ z z)<|Rm z<|Rl z z z<|Wx z (fun H=>?_) (fun H=>?_)
 ·refine Ws<|R z (bP (parts:=[]) (cs:=[vI 0,sl none 0 0,sl none 0 0]) L_ z z)<|Rm z<|E0 (fs0 (cur':=[vI 0,sl none 0 0,sl none 0 0]) c_ z z h2 z z z z) ?_
  rintro _ _ ⟨hf,sg⟩;refine Ra z<|Rw z ?_
  obtain rfl:=som<|ifT hm H;exact Wr<|z_ hr (q_ r_ c_ z hf z) z z ⟨bM G sg.one<|f_ lr,none,0,0,[],none,0,0,[],z,ii z,onL,onL,Y,ii z,nd0,al0⟩
 refine Wk<|Ws<|E z (f0 (α:=UInt8) a_o) ?_
 rintro _ _ ⟨_,_,_,rfl,s1,hh⟩;refine RM z z<|RM z z<|R z (add_ z z) ?_
 obtain ⟨_,ei,hmj⟩:=bdS<|ifF hm H;refine RX z (rX o_ z_5 z z (O.g<|(G.ag B).e s1) z z ei) ?_;rintro _ ⟨_,_,_,rfl,hk⟩;obtain ⟨_,el,hmm⟩:=bdS hmj;refine E z (fN (α:=UInt8) a_o el z z hh a_b hk) ?_;rintro _ _ ⟨W,I,J,L,rfl,s9,hn,ho,ha⟩;refine R z (bP (parts:=[(1,.tmp 24)]) (cs:=[vI 0,sl I J L,sl none 0 0]) L_ z z)<|RM z z<|R z (add_ z z) ?_
 have hb:=mmr h2.lt;refine E0 (fs0 (cur':=[vI 0,sl I J L,sl none 0 0]) c_ z z ((h2.e s1).c s9<|djs hb) z z z z) ?_;rintro _ _ ⟨hp,sq⟩;have hc:=sq.one;refine Ra z<|Rw z ?_
 obtain rfl:=som hmm;have hd:=m1 G.s;exact Wr<|z_ hr (q_ r_ c_ z hp z) z z ⟨bM (bM (bup G s1) s9 hd) hc<|f_ lr,I,J,L,W,none,0,0,[],z,ii z,hn.c hc (or1 ha hb (a_f (f_ h2.lt) s1.s):∀k∈W,k∉[w0.z]),onL,iA _ _,ii z,na_ ho a_x<|nmN _,aa_ (a_E ha hd<|lt_ G.s s1.s) an_⟩
def Q10 (w0:World)(B:Zone)(r:(List UInt8)×Int×Bool)(v:Value)(w':World):Prop:=Bw w0 w'/\un3 (fun L G O=>∃H I J S1,v = .tuple #[sl H I J,vI G,vB O]/\a_ w' S1 (sl H I J) L/\inI G/\S1.Nodup/\(∀k∈S1,w0.z<=k)) r
theorem W_w2m {x1:List UInt8}{x2:Int}{x3:UInt8}{res:(List UInt8)×Int×Bool}(hm:h_6 n x1 x2 x3=some res)(W:B<=w0.z)(O:repS w0 B (sl A0 N0 C0) x1)(V:inI x2):i_ prog 67 [sl A0 N0 C0,vI x2,vU<|byteI x3] w0 (Q10 w0 B res):=by
 unfold h_6 at hm
 refine goG func67 z z z fun fn hr=>Ws<|RA z z<|Rw z<|Ws<|E z (f0 (α:=UInt8) a_o) ?_
 rintro _ G ⟨al,am,an,rfl,s9,ao⟩;refine Rw z<|Wq<|Wm z<|Rw z ?_
 obtain ⟨_,a7,hmr⟩:=bdS hm;refine d_P (σ:=(List UInt8)×Int) (ρ:=(List UInt8)×Int×Bool) (fun s a w=>un2 (fun xb x5=>∃a2 I J H,Sat 54 [(0,sl A0 N0 C0),(1,vI x2),(2,vU<|byteI x3),(9,sl a2 I J),(10,vI x5)] a/\Chg (· ∈ [w0.z]) G w/\a_ w H (sl a2 I J) xb/\H.Nodup/\(∀k∈H,k∈[w0.z]∨G.z<=k)/\inI x5) s) (fun s a w=>un2 (fun xb x5=>∃a2 I J H,Sat 54 [(1,vI x2)] a/\Chg (· ∈ [w0.z]) G w/\a_ w H (sl a2 I J) xb/\H.Nodup/\(∀k∈H,k∈[w0.z]∨G.z<=k)/\inI x5) s) (rQ prog fn<|Q10 w0 B) a7 ?_ ?_ ?_ ?_
 ·exact fun _ q=>⟨al,am,an,[w0.z],q.k<|s5 z z z z z,cr [w0.z] G,ao,a_b,io sr,V⟩
 ·rintro ⟨xb,x5⟩ _ wc _ ⟨a2,I,J,H,a8,s8,hd,he,hf,hi⟩ a9;refine Wu ?_ a8;refine Wq<|Wq ?_
  obtain ⟨ap,aa,hms⟩:=bdS<|a_G a9;refine Wt (fun a w=>∃(xj:Bool),xj=ap/\Sat 54 [(0,sl A0 N0 C0),(1,vI x2),(2,vU<|byteI x3),(9,sl a2 I J),(10,vI x5),(22,vB xj)] a/\Below wc.z wc w) ?_ ?_
  ·refine Wg<|RM z z ?_
   have hu:=(s9.ag B).c s8<|g_ (or0 (f_ lr) (t_ W):∀k∈[w0.z],¬B k)
   have hv:=O.g hu;refine R z (lnR o_ z hv) ?_;obtain ⟨aq,ar,hmw⟩:=bdS aa;refine E z (fc call60 z<|b_m ar (zt' W<|lt_ s9.s s8.s) V (ii z)<|b_D<|repS.len hv) ?_;rintro _ _ ⟨sk,rfl⟩;refine Rm z ?_
   rcases bs aq with L | L
   ·exact Rh z L (mv z)<|Rh z L (mv z)<|Rh z L (lnR o_ z<|O.g<|hu.e sk)<|Rh z L (lss z z)<|R z (pT z L z)<|Wl (fun _ q=>⟨decide<|x5<(x1.length:Int),som<|ifT hmw L,q.k<|s6 z z z z z z,sk⟩)
   iterate 4 refine Nh z L ?_
   exact R z (pF z L z)<|Wl (fun _ q=>⟨false,som<|ifF hmw L,q.k<|s6 z z z z z z,sk⟩)
  rintro au wa ⟨xj,rfl,_,s7⟩;revert au;refine Wo<|Wc z (fun hcl=>?_) (fun hcl=>?_)
  ·refine Wk<|Wq<|Wb<|Wq<|Wm z<|Rm z ?_
   obtain ⟨_,av,hmx⟩:=bdS<|ifT hms hcl;have hy:=((s9.ag B).c s8<|g_ (or0 (f_ lr) (t_ W):∀k∈[w0.z],¬B k)).e s7;have hn:=O.g hy;refine RX z (at_ (α:=UInt8) o_ z_5 z z z hn av) ?_;rintro _ ⟨_,_,_,rfl,aw,ax,_⟩;obtain rfl:=u8 ax;refine R z (l0 g_5 z<|aw.at0 z)<|Rm z<|Rq z z z<|Wx z (fun hcm=>?_) (fun hcm=>?_)
   ·refine Wm z<|Rm z<|R z (add_ z z)<|RA z z<|Rw z ?_
    exact Wr<|rtO<|qL (som<|ifT hmx hcm).symm<|z_ hr z z z ⟨bup (bM s9 s8<|f_ lr) s7,a2,I,J,H,z,hd.e s7,iA _ _,he,(or1 hf (f_ lr) (c_3 s9.s):∀k∈H,w0.z<=k)⟩
   refine Wk<|Wq<|Wm z<|Rm z ?_
   obtain ⟨_,ay,ab⟩:=bdS<|ifF hmx hcm;refine RX z (at_ (α:=UInt8) o_ z_5 z z z hn ay) ?_;rintro _ ⟨_,_,_,rfl,az,aA,_⟩;obtain rfl:=u8 aA;refine R z (l0 g_5 z<|az.at0 z)<|Rq z z z<|Wn ?_
   obtain ⟨aB,huz,Y⟩:=bdS ab;refine Wt (fun a w=>∃(xg:Int),Sum.inl xg=aB/\Sat 54 [(0,sl A0 N0 C0),(1,vI x2),(2,vU<|byteI x3),(9,sl a2 I J),(10,vI xg)] a/\Below wa.z wa w/\inI xg) ?_ ?_
   ·refine Wc z (fun hco=>?_)<|fun hco=>?_
    ·have a0:=ifT huz hco;refine Wm z<|R z (add_ z z)<|Rw z<|Wm z<|Rm z<|R z (lnR o_ z hn)<|Rq z z z<|Wx z (fun hcp=>?_) (fun hcp=>?_)
     ·obtain rfl:=som<|ifT a0 hcp;have ad:=elR Y;exact We<|exO z (fun _ q=>c_v (som ad).symm ⟨a2,I,J,H,q.k<|s1 z,(h_ (cM (cr [w0.z] G) s8 (io sr):Chg (· ∈ [w0.z]) G wc) s7:Chg (· ∈ [w0.z]) G wa),hd.e s7,he,(or1 hf (io sr) (M_ lr):∀k∈H,k∈[w0.z]∨G.z<=k),iA _ _⟩)
     exact a_k<|fun _ q=>⟨j_ x5 1,som<|ifF a0 hcp,q.k<|s5 z z z z z,br wa,iA _ _⟩
    exact a_k<|fun _ q=>⟨x5,som<|ifF huz hco,q.k<|s5 z z z z z,br wa,hi⟩
   rintro aC a1 ⟨xg,rfl,_,sh,_⟩;have ae:=elL Y;revert aC;refine Wo<|Wg<|RM z z<|Rm z ?_
   obtain ⟨aD,aE,af⟩:=bdS ae;refine RX z (at_ (α:=UInt8) o_ z_5 z z z (O.g<|hy.e sh) aE) ?_;rintro _ ⟨_,_,_,rfl,aF,aG,_⟩;obtain rfl:=u8 aG;refine R z (l0 g_5 z<|aF.at0 z)<|E z (fS [(.tmp 49)] a_o z z z (b_V z) (lb z)<|lb z) ?_
   rintro _ a3 ⟨rfl,hq⟩;have ht:=hq.below;have aY:=d_k hq f_6;obtain ⟨aH,aI,ah⟩:=bdS af;refine E z (c_u (α:=UInt8) a_o aI z z (((hd.e s7).e sh).e ht) he (hq.blk:Blk a3 a1.z [vU (byteI aD)]) f_6 an_ a_x) ?_;rintro _ aJ ⟨a4,aK,aL,aM,rfl,aN,aO,aP,aQ⟩;refine Rw z<|Wg<|Rm z<|R z (add_ z z)<|Ra z<|Wl ?_
   have a5:∀k∈H,k∈[w0.z]∨G.z<=k:=or1 hf (io sr)<|M_ lr;exact fun _ q=>⟨(aH,j_ xg 1),(som ah).symm,⟨aK,aL,aM,a4,q.k<|s5 z z z z z,(cM (h_ (h_ (h_ (cM (cr [w0.z] G) s8 (io sr):Chg (· ∈ [w0.z]) G wc) s7:Chg (· ∈ [w0.z]) G wa) sh:Chg (· ∈ [w0.z]) G a1) ht:Chg (· ∈ [w0.z]) G a3) aN a5:Chg (· ∈ [w0.z]) G aJ),aO,aP,(or2 aQ a5 an_ (M_<|lt_ (lt_ (lt_ s8.s s7.s) sh.s) ht.s):∀k∈a4,k∈[w0.z]∨G.z<=k),iA _ _⟩⟩
  exact We<|fun _ q=>c_v (som<|ifF hms hcl).symm ⟨a2,I,J,H,q.k<|s1 z,(h_ (cM (cr [w0.z] G) s8 (io sr):Chg (· ∈ [w0.z]) G wc) s7:Chg (· ∈ [w0.z]) G wa),hd.e s7,he,(or1 hf (io sr) (M_ lr):∀k∈H,k∈[w0.z]∨G.z<=k),hi⟩
 ·rintro ⟨xb,x5⟩ aR aS rfl ⟨a2,I,J,H,_,a6,hd,he,hf,hi⟩;have ai:=elL hmr;revert aR;refine Wo<|Ws<|E z (f0 (α:=UInt8) a_o) ?_
  rintro _ _ ⟨aT,aU,aV,rfl,aW,aX⟩;refine Rm z<|RA z z<|Rw z ?_
  obtain rfl:=som<|a_G ai;exact Wr<|z_ hr z z z ⟨bup (bM s9 a6<|f_ lr) aW,aT,aU,aV,[aS.z],z,aX,V,a_b,m1<|lt_ s9.s a6.s⟩
 rintro _ _ _ _ rfl ⟨rfl,aj⟩;have ak:=elR hmr;obtain rfl:=som ak;exact ⟨aj,z⟩
theorem d_g {x1:e_}{x2:Int}{x3:Int}{res:Int}(hm:a_Z x1 x2 x3=some res)(aQ:B<=w0.z)(aJ:x1.name.b.length<=LEN)(aK:inI x1.kind)(aL:inI x1.size)(aM:repS w0 B (sl AD ND CD) x1.bytes)(aN:repS w0 B (sl A8 N8 C8) x1.names)(I:repS w0 B (sl AE NE CE) x1.tags)(J:repS w0 B (sl AF NF CF) x1.kids)(aO:inI x2)(aP:inI x3):i_ prog 37 [(.agg #[Str.v x1.name,vI x1.kind,vI x1.size,vB x1.little,sl AD ND CD,sl A8 N8 C8,sl AE NE CE,sl AF NF CF]),vI x2,vI x3] w0 (Q0 w0 B res):=by
 unfold a_Z at hm
 refine goG func37 z z z fun fn hr=>Ws<|E z (fb z) ?_
 rintro _ G ⟨rfl,hi⟩;have H:=hi.below;have h2:Blk G w0.z (vR x1 AD ND CD A8 N8 C8 AE NE CE AF NF CF):=hi.blk;refine Rw z<|Wq<|Ws<|Rf z a_e z<|R z (l0 g_3 z<|h2.at z)<|Wn<|Wb<|Ws<|Rq z z z<|Rw z<|Wc z (fun O=>?_) (fun O=>?_)
 ·refine Ws<|Rf z N_ z<|R z (l0 A_ z<|h2.at z) ?_
  obtain ⟨_,eu,hmv⟩:=bdS<|ifT hm O;refine RX z (at_ (α:=Int) x_ z_3 z z z (J.e H) eu) ?_;rintro _ ⟨_,_,_,rfl,hw,hx,_⟩;obtain ⟨rfl,hy⟩:=O_ hx;refine R z (l0 g_3 z<|hw.at0 z)<|Rw z ?_
  obtain rfl:=som hmv;exact Wr<|rtO<|d_ hr z ⟨H,z,hy⟩
 refine Ws<|Rq z z z<|Rw z ?_
 obtain ⟨uz,huj,L⟩:=bdS<|ifF hm O;refine Wt (fun a w=>Sum.inl ()=uz/\Sat 57 [] a/\Below G.z G w) ?_ ?_
 ·refine Wc z (fun V=>?_)<|fun V=>?_
  ·have hmk:=ifT huj V;refine Wm z<|Rf z N_ z<|R z (l0 A_ z<|h2.at z) ?_
   have hl:=J.e H;refine R z (lnR x_ z hl)<|Rl z z z<|Wx z (fun W=>?_) (fun W=>?_)
   ·refine Ws<|Rf z N_ z<|R z (l0 A_ z<|h2.at z)<|Rm z ?_
    obtain ⟨_,aj,a0⟩:=bdS<|ifT hmk W;refine RX z (at_ (α:=Int) x_ z_3 z z z hl aj) ?_;rintro _ ⟨_,_,_,rfl,ak,al,_⟩;obtain ⟨rfl,am⟩:=O_ al;refine R z (l0 g_3 z<|ak.at0 z)<|Rw z ?_
    obtain rfl:=som a0;have a1:=elR L;obtain rfl:=som a1;exact Wr<|rtO<|d_ hr z ⟨H,z,am⟩
   exact a_k<|fun _ q=>⟨som<|ifF hmk W,q.k sn,br G⟩
  refine Ws<|Rq z z z<|Rw z ?_
  obtain ⟨an,hum,Y⟩:=bdS<|ifF huj V;refine Wt (fun a w=>Sum.inl ()=an/\Sat 57 [] a/\Below G.z G w) ?_ ?_
  ·refine Wc z (fun hca=>?_)<|fun hca=>?_
   ·refine Ws<|Rw z ?_
    obtain ⟨_,a2,hmn⟩:=bdS<|ifT hum hca;refine Wf (σ:=Unit) (ρ:=Int) (fun (ko:Nat)(_:Unit) a w=>Sat 57 [(1,vI x2),(3,pt w0.z),(7,vI ((ko:Nat):Int))] a/\Below G.z G w) (fun (_:Unit) a w=>Sat 57 [] a/\Below G.z G w) (rQ prog fn<|Q0 w0 B) a2 ?_ ?_ ?_ ?_ ?_
    ·exact fun _ q=>⟨q.k<|s3 z z z,br G⟩
    ·rintro ko _ _ _ _ hkb ⟨a3,s4⟩ a4;refine Wu ?_ a3;refine Wq<|Wm z<|Rf z a_R z ?_
     have hd:=h2.e s4;refine R z (l0 A_ z<|hd.at z) ?_;have hp:=(H.ag B).e s4;have hq:=I.g hp;refine R z (lnR x_ z hq)<|Rl z z z<|Wx z (fun _=>?_) (fun hc=>(V_ hkb hc).elim)
     refine Wk<|Wq<|Wb<|Ws<|Rf z a_R z<|R z (l0 A_ z<|hd.at z)<|Rm z ?_
     obtain ⟨_,ao,hmr⟩:=bdS a4;refine RX z (at_ (α:=Int) x_ z_3 z z z hq ao) ?_;rintro _ ⟨_,_,_,rfl,ap,aq,_⟩;obtain ⟨rfl,_⟩:=O_ aq;refine R z (l0 g_3 z<|ap.at0 z)<|Rm z<|Rq z z z<|Wx z (fun hcc=>?_) (fun hcc=>?_)
     ·refine Ws<|Rf z N_ z<|R z (l0 A_ z<|hd.at z)<|Rm z<|R z (inc_ hkb (lt_ (repS.len I) D_) z z) ?_
      obtain ⟨_,ar,a5⟩:=bdS<|ifT hmr hcc;refine RX z (at_ (α:=Int) x_ z_3 z z z (J.g hp) ar) ?_;rintro _ ⟨_,_,_,rfl,au,av,_⟩;obtain ⟨rfl,aw⟩:=O_ av;exact R z (l0 g_3 z<|au.at0 z)<|Rw z<|Wr<|rtO<|qL (som a5).symm<|d_ hr z ⟨bup H s4,z,aw⟩
     exact Wk<|Wg<|Rm z<|R z (inc_ hkb (lt_ (repS.len I) D_) z z)<|Ra z<|Wl (fun _ q=>⟨(),(som<|ifF hmr hcc).symm,⟨q.k<|s3 z z z,s4⟩⟩)
    ·rintro _ _ _ ⟨a6,se⟩;refine Wu ?_ a6;refine Wq<|Wm z<|Rf z a_R z<|R z (l0 A_ z<|(h2.e se).at z)<|R z (lnR x_ z<|I.g<|(H.ag B).e se)<|Rl z z z<|Wx z (fun hc=>(W_ hc).elim) (fun _=>?_)
     exact We<|fun _ q=>⟨rfl,⟨q.k sn,se⟩⟩
    ·rintro _ ax _ rfl ⟨_,ay⟩;have a7:=elL hmn;revert ax;exact fun _ q=>⟨som a7,q.k sn,ay⟩
    rintro _ _ _ _ rfl ⟨rfl,a8⟩;have a9:=elR hmn;obtain rfl:=som a9;have aa:=elR Y;obtain rfl:=som aa;have ab:=elR L;obtain rfl:=som ab;exact ⟨a8,z⟩
   refine Wq<|Ws<|Rq z z z<|Rw z ?_
   obtain ⟨az,hus,hmt⟩:=bdS<|ifF hum hca;refine Wt (fun a w=>∃(xf:Bool),xf=az/\Sat 57 [(3,pt w0.z),(50,vB xf)] a/\Below G.z G w) ?_ ?_
   ·refine Wc z (fun hcg=>?_)<|fun hcg=>?_
    ·exact a_k<|fun _ q=>⟨x1.kind==8,som<|ifT hus hcg,q.k<|s2 z z,br G⟩
    exact Wg<|Rq z z z<|Ra z<|Wl (fun _ q=>⟨x1.kind==9,som<|ifF hus hcg,q.k<|s2 z z,br G⟩)
   rintro aA _ ⟨xf,rfl,_,s5⟩;revert aA;refine Wo<|Wc z (fun hch=>?_) (fun hch=>?_)
   ·refine Ws<|Rf z N_ z<|R z (l0 A_ z<|(h2.e s5).at z) ?_
    obtain ⟨_,aB,ad⟩:=bdS<|ifT hmt hch;refine RX z (at_ (α:=Int) x_ z_3 z z z (J.g<|(H.ag B).e s5) aB) ?_;rintro _ ⟨_,_,_,rfl,aC,aD,_⟩;obtain ⟨rfl,aE⟩:=O_ aD;refine R z (l0 g_3 z<|aC.at0 z)<|Rw z ?_
    obtain rfl:=som ad;have ae:=elR Y;obtain rfl:=som ae;have af:=elR L;obtain rfl:=som af;exact Wr<|rtO<|d_ hr z ⟨bup H s5,z,aE⟩
   exact a_k<|fun _ q=>⟨som<|ifF hmt hch,q.k sn,s5⟩
  rintro aF _ ⟨rfl,_,aG⟩;have ah:=elL Y;revert aF;exact fun _ q=>⟨som ah,q.k sn,aG⟩
 rintro aH _ ⟨rfl,_,aI⟩;have ai:=elL L;revert aH;refine Wo<|Ws<|Rw z ?_
 obtain rfl:=som ai;exact Wr<|d_ hr z ⟨bup H aI,z,ii z⟩
theorem W_w2n {x1:List UInt8}{res:Int}(hm:h_7 x1=some res)(O:B<=w0.z)(G:repS w0 B (sl A0 N0 C0) x1):i_ prog 98 [sl A0 N0 C0] w0 (Q0 w0 B res):=by
 unfold h_7 at hm
 refine goG func98 z z z fun fn hr=>Ws<|Rw z<|Ws<|Rw z<|Wq<|Ws<|Rw z ?_
 obtain ⟨_,J,H⟩:=bdS hm;refine Wf (σ:=Int) (ρ:=Int) (fun (k3:Nat)(x0:Int) a w=>Sat 20 [(0,sl A0 N0 C0),(3,vI x0),(4,vI ((k3:Nat):Int))] a/\Below w0.z w0 w/\inI x0) (fun (x0:Int) a w=>Sat 20 [(3,vI x0)] a/\Below w0.z w0 w/\inI x0) (rQ prog fn<|Q0 w0 B) J ?_ ?_ ?_ ?_ ?_
 ·exact fun _ q=>⟨q.k<|s3 z z z,br w0,ii z⟩
 ·rintro k3 x0 _ _ _ I ⟨L,s5,h1⟩ hma;refine Wu ?_ L;refine Wq<|Wm z<|Rm z ?_
  have h6:=G.e s5;refine R z (lnR o_ z h6)<|Rl z z z<|Wx z (fun _=>?_) (fun hc=>(V_ I hc).elim)
  refine Wk<|Wq<|Wb<|Wg<|RM z z<|Rm z ?_
  obtain ⟨xb,ec,hmd⟩:=bdS hma;refine RX z (at_ (α:=UInt8) o_ z_5 z z z h6 ec) ?_;rintro _ ⟨_,_,_,rfl,he,hf,_⟩;obtain rfl:=u8 hf;exact R z (l0 g_5 z<|he.at0 z)<|R z (c_e d_5 d_3 z)<|R z (add_ z z)<|R z (k_n z z (by decide))<|Rw z<|Wg<|Rm z<|R z (inc_ I (lt_ (repS.len G) D_) z z)<|Ra z<|Wl (fun _ q=>⟨b_r (j_ x0<|byteI xb) 256,(som hmd).symm,⟨q.k<|s3 z z z,s5,k_4<|iA _ _⟩⟩)
 ·rintro x0 _ _ ⟨hSg,s7,h1⟩;refine Wu ?_ hSg;refine Wq<|Wm z<|Rm z<|R z (lnR o_ z<|G.e s7)<|Rl z z z<|Wx z (fun hc=>(W_ hc).elim) (fun _=>?_)
  exact We<|fun _ q=>⟨rfl,⟨q.k<|s1 z,s7,h1⟩⟩
 ·rintro x0 ah _ rfl ⟨_,si,h1⟩;have hmj:=elL H;revert ah;refine Wo<|Wm z<|Rw z ?_
  obtain rfl:=som hmj;exact Wr<|d_ hr z ⟨si,z,h1⟩
 rintro _ _ _ _ rfl ⟨rfl,hqk⟩;have hml:=elR H;obtain rfl:=som hml;exact ⟨hqk,z⟩
structure j_q (f:b_->Int->(List UInt8)->Int->Option (Val×Int×Int)):Prop where
  run:∀{A0 A7:Option Addr}{N0 C0 N7 C7:Nat}{B:Zone}{x1:b_}{x2:Int}{x3:List UInt8}{x4:Int}{res:Val×Int×Int}{w0:World}(hm:f x1 x2 x3 x4=some res)(hBw:B<=w0.z)(p1_0:repS w0 B (sl A0 N0 C0) x1.rules)(p2_0:inI x2)(p3_0:repS w0 B (sl A7 N7 C7) x3)(p4_0:inI x4),i_ prog 34 [(.agg #[sl A0 N0 C0]),vI x2,sl A7 N7 C7,vI x4] w0<|Q9 w0 B res
structure j_r (f:b_->e_->Int->Int->(List UInt8)->Int->Option (Val×Int×Int)):Prop where
  run:∀{A0 A3 A4 A2 A5 AH:Option Addr}{N0 C0 N3 C3 N4 C4 N2 C2 N5 C5 NH CH:Nat}{B:Zone}{x1:b_}{x2:e_}{x3:Int}{x4:Int}{x5:List UInt8}{x6:Int}{res:Val×Int×Int}{w0:World}(hm:f x1 x2 x3 x4 x5 x6=some res)(hBw:B<=w0.z)(p1_0:repS w0 B (sl A0 N0 C0) x1.rules)(p2_0:x2.name.b.length<=LEN)(p2_1:inI x2.kind)(p2_2:inI x2.size)(p2_4:repS w0 B (sl A3 N3 C3) x2.bytes)(p2_5:repS w0 B (sl A4 N4 C4) x2.names)(p2_6:repS w0 B (sl A2 N2 C2) x2.tags)(p2_7:repS w0 B (sl A5 N5 C5) x2.kids)(p3_0:inI x3)(p4_0:inI x4)(p5_0:repS w0 B (sl AH NH CH) x5)(p6_0:inI x6),i_ prog 68 [(.agg #[sl A0 N0 C0]),.agg #[Str.v x2.name,vI x2.kind,vI x2.size,vB x2.little,sl A3 N3 C3,sl A4 N4 C4,sl A2 N2 C2,sl A5 N5 C5],vI x3,vI x4,sl AH NH CH,vI x6] w0<|Q9 w0 B res
structure j_s (f:b_->e_->(List UInt8)->Int->Option (Val×Int×Int)):Prop where
  run:∀{A0 A3 A4 A2 A5 A7:Option Addr}{N0 C0 N3 C3 N4 C4 N2 C2 N5 C5 N7 C7:Nat}{B:Zone}{x1:b_}{x2:e_}{x3:List UInt8}{x4:Int}{res:Val×Int×Int}{w0:World}(hm:f x1 x2 x3 x4=some res)(hBw:B<=w0.z)(p1_0:repS w0 B (sl A0 N0 C0) x1.rules)(p2_0:x2.name.b.length<=LEN)(p2_1:inI x2.kind)(p2_2:inI x2.size)(p2_4:repS w0 B (sl A3 N3 C3) x2.bytes)(p2_5:repS w0 B (sl A4 N4 C4) x2.names)(p2_6:repS w0 B (sl A2 N2 C2) x2.tags)(p2_7:repS w0 B (sl A5 N5 C5) x2.kids)(p3_0:repS w0 B (sl A7 N7 C7) x3)(p4_0:inI x4),i_ prog 69 [(.agg #[sl A0 N0 C0]),.agg #[Str.v x2.name,vI x2.kind,vI x2.size,vB x2.little,sl A3 N3 C3,sl A4 N4 C4,sl A2 N2 C2,sl A5 N5 C5],sl A7 N7 C7,vI x4] w0<|Q9 w0 B res
structure j_t (f:b_->e_->(List UInt8)->Int->Option (Val×Int×Int)):Prop where
  run:∀{A0 A3 A4 A2 A5 A7:Option Addr}{N0 C0 N3 C3 N4 C4 N2 C2 N5 C5 N7 C7:Nat}{B:Zone}{x1:b_}{x2:e_}{x3:List UInt8}{x4:Int}{res:Val×Int×Int}{w0:World}(hm:f x1 x2 x3 x4=some res)(hBw:B<=w0.z)(p1_0:repS w0 B (sl A0 N0 C0) x1.rules)(p2_0:x2.name.b.length<=LEN)(p2_1:inI x2.kind)(p2_2:inI x2.size)(p2_4:repS w0 B (sl A3 N3 C3) x2.bytes)(p2_5:repS w0 B (sl A4 N4 C4) x2.names)(p2_6:repS w0 B (sl A2 N2 C2) x2.tags)(p2_7:repS w0 B (sl A5 N5 C5) x2.kids)(p3_0:repS w0 B (sl A7 N7 C7) x3)(p4_0:inI x4),i_ prog 70 [(.agg #[sl A0 N0 C0]),.agg #[Str.v x2.name,vI x2.kind,vI x2.size,vB x2.little,sl A3 N3 C3,sl A4 N4 C4,sl A2 N2 C2,sl A5 N5 C5],sl A7 N7 C7,vI x4] w0<|Q9 w0 B res
structure j_u (f:b_->e_->(List UInt8)->Int->Option (Val×Int×Int)):Prop where
  run:∀{A0 A3 A4 A2 A5 A7:Option Addr}{N0 C0 N3 C3 N4 C4 N2 C2 N5 C5 N7 C7:Nat}{B:Zone}{x1:b_}{x2:e_}{x3:List UInt8}{x4:Int}{res:Val×Int×Int}{w0:World}(hm:f x1 x2 x3 x4=some res)(hBw:B<=w0.z)(p1_0:repS w0 B (sl A0 N0 C0) x1.rules)(p2_0:x2.name.b.length<=LEN)(p2_1:inI x2.kind)(p2_2:inI x2.size)(p2_4:repS w0 B (sl A3 N3 C3) x2.bytes)(p2_5:repS w0 B (sl A4 N4 C4) x2.names)(p2_6:repS w0 B (sl A2 N2 C2) x2.tags)(p2_7:repS w0 B (sl A5 N5 C5) x2.kids)(p3_0:repS w0 B (sl A7 N7 C7) x3)(p4_0:inI x4),i_ prog 71 [(.agg #[sl A0 N0 C0]),.agg #[Str.v x2.name,vI x2.kind,vI x2.size,vB x2.little,sl A3 N3 C3,sl A4 N4 C4,sl A2 N2 C2,sl A5 N5 C5],sl A7 N7 C7,vI x4] w0<|Q9 w0 B res
abbrev e_V (n:Nat):Prop:=j_q (a_m n).spec_l11Read/\j_r (a_m n).spec_l11Items/\j_s (a_m n).spec_l11Choice/\j_t (a_m n).spec_l11Option/\j_u (a_m n).spec_l11Checked
theorem T_w01 (ih:e_V n):j_q (h_8 n<|a_m n):=by
 obtain ⟨_,bo,db,dc,dd⟩:=ih
 constructor
 intro A0 A7 N0 C0 N7 C7 B x1 x2 x3 x4 res w0 hm H W d0 J I;unfold h_8 at hm
 refine goG func34 z z z fun fn hr=>Ws<|E z (fb z) ?_
 rintro _ bp ⟨rfl,bq⟩;have h3:=bq.below;have hn:Blk bp w0.z [sl A0 N0 C0]:=bq.blk;refine E z (fa J_) ?_;rintro _ L ⟨rfl,br⟩;have h4:=br.below;have h2:Blk L bp.z [vI 0,sl none 0 0,sl none 0 0]:=br.blk;refine Ra z<|Rw z<|Ws<|Rf z a_9 z ?_
 have ho:=hn.e h4;refine R z (l0 a_d z<|ho.at z)<|Rm z ?_
 obtain ⟨xa,de,b9⟩:=bdS hm;have O:=(h3.ag B).e h4;refine RX z (at_ (α:=e_) a_0 m_ z z z (W.g O) de) ?_;rintro _ ⟨_,_,_,rfl,df,dg,_⟩;obtain ⟨ab,nc,cd,ae,nf,cg,ah,ni,cj,ak,nl,cm,rfl,hu,hv,hp,hq,hw,hx,ht⟩:=a_w dg;refine R z (lN (vs:=vR xa ab nc cd ae nf cg ah ni cj ak nl cm) G_ m_ z z fid df)<|E z (fa b_l) ?_
 rintro _ dh ⟨rfl,bs⟩;have G:=bs.below;refine E0 (fs0 (cur':=vR xa ab nc cd ae nf cg ah ni cj ak nl cm) m_ z z (bs.blk:Blk dh L.z [(Str.v (⟨[]⟩:Str)),vI 0,vI 0,vB false,sl none 0 0,sl none 0 0,sl none 0 0,sl none 0 0]) z z z z) ?_;rintro _ _ ⟨V,di⟩;have h1:=di.one;refine Wn<|Wq<|Ws<|Rf z a_e z<|R z (l0 g_3 z<|V.at z)<|Wn<|Wb<|Ws<|Rq z z z<|Rw z<|Wc z (fun al=>?_) (fun al=>?_)
 ·refine Ws<|R z (lN (vs:=[sl A0 N0 C0]) w_ u_ z z fid<|((ho.e G).c h1<|djs<|mm1 hn.lt h4.s).row 0 1 z)<|RM z z<|Rm z ?_
  have hz:=lt_ h3.s h4.s;have bt:=(O.e G).c h1<|g_ (or0 (f_ lr) (t_<|zt' H hz):∀k∈[L.z],¬B k)
  obtain ⟨bu,_,_,dj,ba⟩:=I_<|ifT b9 al;refine E z (fc call57 z<|g_0 dj (zt' H<|lt_ (lt_ hz G.s) h1.s) (W.g bt) d0 (J.g bt) I) ?_;rintro _ _ ⟨sr,rfl,dk,dl⟩;refine Rm z ?_
  iterate 3 refine Re z z z ?_
  refine RA z z<|Rw z<|Wq<|Wm z<|R z (not_ z)<|Wx z (fun am=>?_) (fun am=>?_)
  ·refine Ws<|R z (bP (parts:=[]) (cs:=[vI 0,sl none 0 0,sl none 0 0]) L_ z z)<|Rm z<|E0 (fs0 (cur':=[vI 0,sl none 0 0,sl none 0 0]) c_ z z (((h2.e G).c h1<|djs<|mmr h2.lt).e sr) z z z z) ?_
   rintro _ _ ⟨dm,dn⟩;refine Ra z<|Rw z ?_
   obtain rfl:=som<|ifT ba am;exact Wr<|rtO<|z_ hr (q_ r_ c_ z dm z) z z ⟨bM (bup (bM (bup (bup h3 h4) G) h1<|m1 hz) sr) dn.one<|m1 h3.s,none,0,0,[],none,0,0,[],z,ii z,onL,onL,I,ii z,nd0,al0⟩
  refine Wk<|Wm z<|R z (bP (parts:=[(0,.tmp 43)]) (cs:=[vI bu,sl none 0 0,sl none 0 0]) L_ z z)<|Rm z<|E0 (fs0 (cur':=[vI bu,sl none 0 0,sl none 0 0]) c_ z z (((h2.e G).c h1<|djs<|mmr h2.lt).e sr) z z z z) ?_
  rintro _ _ ⟨dp,dq⟩;refine Ra z<|Rw z ?_
  obtain rfl:=som<|ifF ba am;exact Wr<|rtO<|z_ hr (q_ r_ c_ z dp z) z z ⟨bM (bup (bM (bup (bup h3 h4) G) h1<|m1 hz) sr) dq.one<|m1 h3.s,none,0,0,[],none,0,0,[],z,dk,onL,onL,dl,ii z,nd0,al0⟩
 have bb:=ifF b9 al;refine Ws<|Rq z z z<|Rw z<|Wc z (fun an=>?_) (fun an=>?_)
 ·refine Ws<|R z (lN (vs:=vR xa ab nc cd ae nf cg ah ni cj ak nl cm) G_ m_ z z fid<|V.row 0 8 z)<|RM z z ?_
  have aA:=lt_ h3.s h4.s;have bv:∀k∈[L.z],¬B k:=or0 (f_ lr)<|t_<|zt' H aA;have Y:=(G.ag B).c h1<|g_ bv
  have aB:=lt_ (lt_ aA G.s) h1.s;obtain ⟨dr,_,_,ds,d1⟩:=I_<|ifT bb an;refine E z (fc call65 z<|W_w2l ds (zt' H aB) hu hv hp (hq.g Y) (hw.g Y) (hx.g Y) (ht.g Y) (J.g<|(O.e G).c h1<|g_ bv) I) ?_;rintro _ _ ⟨bw,bx,bz,bA,dt,bB,bC,bD,du,rfl,dv,dw,dx,dy,dz,aC,a0⟩
  iterate 3 refine Re z z z ?_
  refine E0 (fs0 (cur':=[vI dr.number,sl bx bz bA,sl bB bC bD]) c_ z z (((h2.e G).c h1<|djs<|mmr h2.lt).e bw) z z z z) ?_;rintro _ _ ⟨dA,dB⟩;have aD:=dB.one;refine Ra z<|Rw z ?_
  obtain rfl:=som d1;have bE:=lt_ G.s h1.s;exact Wr<|rtO<|z_ hr (q_ r_ c_ z dA z) z z ⟨bM (bup (bM (bup (bup h3 h4) G) h1<|m1 aA) bw) aD<|m1 h3.s,bx,bz,bA,dt,bB,bC,bD,du,z,dv,dw.c aD<|n_ (al_ a0) h2.lt bE,dx.c aD<|n_ (ar_ a0) h2.lt bE,dy,dz,na_ (nl_ aC) (nr_ aC)<|nj aC,aa_ (p_ (al_ a0) aB)<|p_ (ar_ a0) aB⟩
 have bc:=ifF bb an;refine Ws<|Rq z z z<|Rw z<|Wc z (fun ao=>?_) (fun ao=>?_)
 ·refine Wm z<|Rm z<|Rf z a_F z<|R z (l0 g_3 z<|V.at z) ?_
  have aE:=lt_ h3.s h4.s;have aF:=lt_ (lt_ aE G.s) h1.s;obtain ⟨dC,_,_,dD,d2⟩:=I_<|ifT bc ao;refine E z (fc call66 z<|W_w1a dD (zt' H aF) (J.g<|(O.e G).c h1<|g_ (or0 (f_ lr) (t_<|zt' H aE):∀k∈[L.z],¬B k)) I hp) ?_;rintro _ _ ⟨bF,bG,bH,bI,dF,bJ,bK,bL,dG,rfl,dH,dI,dJ,dK,dL,aG,a1⟩
  iterate 3 refine Re z z z ?_
  refine E0 (fs0 (cur':=[vI dC.number,sl bG bH bI,sl bJ bK bL]) c_ z z (((h2.e G).c h1<|djs<|mmr h2.lt).e bF) z z z z) ?_;rintro _ _ ⟨dN,dO⟩;have aH:=dO.one;refine Ra z<|Rw z ?_
  obtain rfl:=som d2;have bN:=lt_ G.s h1.s;exact Wr<|rtO<|z_ hr (q_ r_ c_ z dN z) z z ⟨bM (bup (bM (bup (bup h3 h4) G) h1<|m1 aE) bF) aH<|m1 h3.s,bG,bH,bI,dF,bJ,bK,bL,dG,z,dH,dI.c aH<|n_ (al_ a1) h2.lt bN,dJ.c aH<|n_ (ar_ a1) h2.lt bN,dK,dL,na_ (nl_ aG) (nr_ aG)<|nj aG,aa_ (p_ (al_ a1) aF)<|p_ (ar_ a1) aF⟩
 have be:=ifF bc ao;refine Ws<|Rq z z z<|Rw z<|Wc z (fun ap=>?_) (fun ap=>?_)
 ·refine Wm z<|Rm z<|Rf z b_1 z<|R z (l0 R_ z<|V.at z) ?_
  obtain ⟨_,dP,d3⟩:=bdS<|ifT be ap;have a2:=lt_ h3.s h4.s;have bO:∀k∈[L.z],¬B k:=or0 (f_ lr)<|t_<|zt' H a2;refine RX z (at_ (α:=UInt8) o_ z_5 z z z (hq.g<|(G.ag B).c h1<|g_ bO) dP) ?_;rintro _ ⟨_,_,_,rfl,dS,dT,_⟩;obtain rfl:=u8 dT;refine R z (l0 g_5 z<|dS.at0 z) ?_;have bQ:=lt_ (lt_ a2 G.s) h1.s;obtain ⟨_,_,_,dU,bf⟩:=I_ d3;refine E z (fc call67 z<|W_w2m dU (zt' H bQ) (J.g<|(O.e G).c h1<|g_ bO) I) ?_;rintro _ _ ⟨ss,aI,aJ,aK,dV,rfl,dW,dX,dY,bR⟩;refine Rm z ?_
  iterate 3 refine Re z z z ?_
  refine RA z z<|Rw z<|Wq<|Wm z<|R z (not_ z)<|Wx z (fun aq=>?_) (fun aq=>?_)
  ·refine Ws<|R z (bP (parts:=[]) (cs:=[vI 0,sl none 0 0,sl none 0 0]) L_ z z)<|Rm z<|E0 (fs0 (cur':=[vI 0,sl none 0 0,sl none 0 0]) c_ z z (((h2.e G).c h1<|djs<|mmr h2.lt).e ss) z z z z) ?_
   rintro _ _ ⟨dZ,e0⟩;refine Ra z<|Rw z ?_
   obtain rfl:=som<|ifT bf aq;exact Wr<|rtO<|z_ hr (q_ r_ c_ z dZ z) z z ⟨bM (bup (bM (bup (bup h3 h4) G) h1<|m1 a2) ss) e0.one<|m1 h3.s,none,0,0,[],none,0,0,[],z,ii z,onL,onL,I,ii z,nd0,al0⟩
  refine Wk<|Wm z<|R z (bP (parts:=[(1,.tmp 82)]) (cs:=[vI 0,sl aI aJ aK,sl none 0 0]) L_ z z)<|Rm z<|E0 (fs0 (cur':=[vI 0,sl aI aJ aK,sl none 0 0]) c_ z z (((h2.e G).c h1<|djs<|mmr h2.lt).e ss) z z z z) ?_
  rintro _ _ ⟨e1,e2⟩;have bS:=e2.one;refine Ra z<|Rw z ?_
  obtain rfl:=som<|ifF bf aq;exact Wr<|rtO<|z_ hr (q_ r_ c_ z e1 z) z z ⟨bM (bup (bM (bup (bup h3 h4) G) h1<|m1 a2) ss) bS<|m1 h3.s,aI,aJ,aK,dV,none,0,0,[],z,ii z,dW.c bS<|n_ bR h2.lt<|lt_ G.s h1.s,onL,dX,ii z,na_ dY a_x<|nmN _,aa_ (p_ bR bQ) an_⟩
 have bg:=ifF be ap;refine Ws<|Rq z z z<|Rw z<|Wc z (fun ar=>?_) (fun ar=>?_)
 ·refine Ws<|R z (lN (vs:=[sl A0 N0 C0]) w_ u_ z z fid<|((ho.e G).c h1<|djs<|mm1 hn.lt h4.s).row 0 1 z)<|R z (lN (vs:=vR xa ab nc cd ae nf cg ah ni cj ak nl cm) G_ m_ z z fid<|V.row 0 8 z)<|Rf z N_ z<|R z (l0 A_ z<|V.at z) ?_
  have aL:=lt_ h3.s h4.s;have bT:∀k∈[L.z],¬B k:=or0 (f_ lr)<|t_<|zt' H aL;have a3:=(G.ag B).c h1<|g_ bT
  have aM:=ht.g a3;refine R z (lnR x_ z aM)<|RM z z ?_
  have bU:=(O.e G).c h1<|g_ bT
  have aN:=lt_ (lt_ aL G.s) h1.s;obtain ⟨e3,_,_,e4,d4⟩:=I_<|ifT bg ar;refine E z (fc call68 z<|bo.run e4 (zt' H aN) (W.g bU) hu hv hp (hq.g a3) (hw.g a3) (hx.g a3) aM (ii z) (b_D<|repS.len aM) (J.g bU) I) ?_;rintro _ _ ⟨bV,bW,bX,bY,e5,bZ,c0,c1,e6,rfl,e7,e8,e9,ea,eb,aO,a4⟩
  iterate 3 refine Re z z z ?_
  refine E0 (fs0 (cur':=[vI e3.number,sl bW bX bY,sl bZ c0 c1]) c_ z z (((h2.e G).c h1<|djs<|mmr h2.lt).e bV) z z z z) ?_;rintro _ _ ⟨ec,ed⟩;have aP:=ed.one;refine Ra z<|Rw z ?_
  obtain rfl:=som d4;have c2:=lt_ G.s h1.s;exact Wr<|rtO<|z_ hr (q_ r_ c_ z ec z) z z ⟨bM (bup (bM (bup (bup h3 h4) G) h1<|m1 aL) bV) aP<|m1 h3.s,bW,bX,bY,e5,bZ,c0,c1,e6,z,e7,e8.c aP<|n_ (al_ a4) h2.lt c2,e9.c aP<|n_ (ar_ a4) h2.lt c2,ea,eb,na_ (nl_ aO) (nr_ aO)<|nj aO,aa_ (p_ (al_ a4) aN)<|p_ (ar_ a4) aN⟩
 have bh:=ifF bg ar;refine Ws<|Rq z z z<|Rw z<|Wc z (fun au=>?_) (fun au=>?_)
 ·refine Ws<|R z (lN (vs:=[sl A0 N0 C0]) w_ u_ z z fid<|((ho.e G).c h1<|djs<|mm1 hn.lt h4.s).row 0 1 z)<|R z (lN (vs:=vR xa ab nc cd ae nf cg ah ni cj ak nl cm) G_ m_ z z fid<|V.row 0 8 z)<|RM z z ?_
  have aQ:=lt_ h3.s h4.s;have c3:∀k∈[L.z],¬B k:=or0 (f_ lr)<|t_<|zt' H aQ;have c4:=(O.e G).c h1<|g_ c3
  have a5:=(G.ag B).c h1<|g_ c3
  have aR:=lt_ (lt_ aQ G.s) h1.s;obtain ⟨ee,_,_,ef,d5⟩:=I_<|ifT bh au;refine E z (fc call69 z<|db.run ef (zt' H aR) (W.g c4) hu hv hp (hq.g a5) (hw.g a5) (hx.g a5) (ht.g a5) (J.g c4) I) ?_;rintro _ _ ⟨c5,c6,c7,c8,eg,c9,ca,cb,eh,rfl,ei,ej,ek,em,en,aS,a6⟩
  iterate 3 refine Re z z z ?_
  refine E0 (fs0 (cur':=[vI ee.number,sl c6 c7 c8,sl c9 ca cb]) c_ z z (((h2.e G).c h1<|djs<|mmr h2.lt).e c5) z z z z) ?_;rintro _ _ ⟨eo,ep⟩;have aT:=ep.one;refine Ra z<|Rw z ?_
  obtain rfl:=som d5;have cc:=lt_ G.s h1.s;exact Wr<|rtO<|z_ hr (q_ r_ c_ z eo z) z z ⟨bM (bup (bM (bup (bup h3 h4) G) h1<|m1 aQ) c5) aT<|m1 h3.s,c6,c7,c8,eg,c9,ca,cb,eh,z,ei,ej.c aT<|n_ (al_ a6) h2.lt cc,ek.c aT<|n_ (ar_ a6) h2.lt cc,em,en,na_ (nl_ aS) (nr_ aS)<|nj aS,aa_ (p_ (al_ a6) aR)<|p_ (ar_ a6) aR⟩
 have bi:=ifF bh au;refine Ws<|Rq z z z<|Rw z<|Wc z (fun av=>?_) (fun av=>?_)
 ·refine Ws<|R z (lN (vs:=[sl A0 N0 C0]) w_ u_ z z fid<|((ho.e G).c h1<|djs<|mm1 hn.lt h4.s).row 0 1 z)<|R z (lN (vs:=vR xa ab nc cd ae nf cg ah ni cj ak nl cm) G_ m_ z z fid<|V.row 0 8 z)<|RM z z ?_
  have aU:=lt_ h3.s h4.s;have ce:∀k∈[L.z],¬B k:=or0 (f_ lr)<|t_<|zt' H aU;have cf:=(O.e G).c h1<|g_ ce
  have a7:=(G.ag B).c h1<|g_ ce
  have aV:=lt_ (lt_ aU G.s) h1.s;obtain ⟨er,_,_,es,d6⟩:=I_<|ifT bi av;refine E z (fc call70 z<|dc.run es (zt' H aV) (W.g cf) hu hv hp (hq.g a7) (hw.g a7) (hx.g a7) (ht.g a7) (J.g cf) I) ?_;rintro _ _ ⟨ch,ci,ck,cl,eu,cn,co,cp,ew,rfl,ex,ey,ez,eA,eB,aW,a8⟩
  iterate 3 refine Re z z z ?_
  refine E0 (fs0 (cur':=[vI er.number,sl ci ck cl,sl cn co cp]) c_ z z (((h2.e G).c h1<|djs<|mmr h2.lt).e ch) z z z z) ?_;rintro _ _ ⟨eC,eD⟩;have aX:=eD.one;refine Ra z<|Rw z ?_
  obtain rfl:=som d6;have cq:=lt_ G.s h1.s;exact Wr<|rtO<|z_ hr (q_ r_ c_ z eC z) z z ⟨bM (bup (bM (bup (bup h3 h4) G) h1<|m1 aU) ch) aX<|m1 h3.s,ci,ck,cl,eu,cn,co,cp,ew,z,ex,ey.c aX<|n_ (al_ a8) h2.lt cq,ez.c aX<|n_ (ar_ a8) h2.lt cq,eA,eB,na_ (nl_ aW) (nr_ aW)<|nj aW,aa_ (p_ (al_ a8) aV)<|p_ (ar_ a8) aV⟩
 have bj:=ifF bi av;refine Ws<|Rq z z z<|Rw z<|Wc z (fun aw=>?_) (fun aw=>?_)
 ·refine Ws<|R z (lN (vs:=[sl A0 N0 C0]) w_ u_ z z fid<|((ho.e G).c h1<|djs<|mm1 hn.lt h4.s).row 0 1 z)<|R z (lN (vs:=vR xa ab nc cd ae nf cg ah ni cj ak nl cm) G_ m_ z z fid<|V.row 0 8 z)<|RM z z ?_
  have aY:=lt_ h3.s h4.s;have cr:∀k∈[L.z],¬B k:=or0 (f_ lr)<|t_<|zt' H aY;have ct:=(O.e G).c h1<|g_ cr
  have a9:=(G.ag B).c h1<|g_ cr
  have aZ:=lt_ (lt_ aY G.s) h1.s;obtain ⟨eE,_,_,eF,d7⟩:=I_<|ifT bj aw;refine E z (fc call71 z<|dd.run eF (zt' H aZ) (W.g ct) hu hv hp (hq.g a9) (hw.g a9) (hx.g a9) (ht.g a9) (J.g ct) I) ?_;rintro _ _ ⟨cu,cv,cw,cx,eG,cy,cz,cA,eH,rfl,eI,eJ,eK,eL,eM,b0,aa⟩
  iterate 3 refine Re z z z ?_
  refine E0 (fs0 (cur':=[vI eE.number,sl cv cw cx,sl cy cz cA]) c_ z z (((h2.e G).c h1<|djs<|mmr h2.lt).e cu) z z z z) ?_;rintro _ _ ⟨eN,eO⟩;have b1:=eO.one;refine Ra z<|Rw z ?_
  obtain rfl:=som d7;have cB:=lt_ G.s h1.s;exact Wr<|rtO<|z_ hr (q_ r_ c_ z eN z) z z ⟨bM (bup (bM (bup (bup h3 h4) G) h1<|m1 aY) cu) b1<|m1 h3.s,cv,cw,cx,eG,cy,cz,cA,eH,z,eI,eJ.c b1<|n_ (al_ aa) h2.lt cB,eK.c b1<|n_ (ar_ aa) h2.lt cB,eL,eM,na_ (nl_ b0) (nr_ b0)<|nj b0,aa_ (p_ (al_ aa) aZ)<|p_ (ar_ aa) aZ⟩
 refine Wk<|Wq (Wd (X:=noX) 0 (pl_ 15 [7]) mo (by kernel_rfl) fun fp s6 _=>?_)
 have cC:=((ho.e G).c h1<|djs<|mm1 hn.lt h4.s).e s6;refine dR z z (lN (vs:=[sl A0 N0 C0]) w_ u_ z z fid<|cC.row 0 1 z)<|dR z z (fd N_ z) ?_
 have cD:=V.e s6;refine dR z z (l0 A_ z<|cD.at z) ?_;obtain ⟨_,eP,d8⟩:=bdS<|ifF bj aw;have hy:=lt_ h3.s h4.s;have cE:∀k∈[L.z],¬B k:=or0 (f_ lr)<|t_<|zt' H hy;have cF:=((G.ag B).c h1<|g_ cE).e s6;refine dRX z z (at_ (α:=Int) x_ z_3 z z z (ht.g cF) eP) ?_;rintro _ ⟨_,_,_,rfl,eQ,eR,_⟩;obtain ⟨rfl,eS⟩:=O_ eR;refine dR z z (l0 g_3 z<|eQ.at0 z)<|dM z z z<|dM z z z ?_
 have ad:=((O.e G).c h1<|g_ cE).e s6;have b2:=lt_ (lt_ (lt_ hy G.s) h1.s) s6.s;obtain ⟨_,_,_,eT,bk⟩:=I_ d8;refine dE z z (fc call57 z<|g_0 eT (zt' H b2) (W.g ad) eS (J.g ad) I) (.inr fun _ _ h=>l_<|h.1) ?_;rintro _ _ ⟨s5,rfl,cG,cH⟩;refine dM z z z ?_
 iterate 3 refine dR z z (ext_ z z) ?_
 iterate 3 refine dQ z z z ?_
 refine pD<|Wo<|Wq<|Wb<|Wm z<|R z (not_ z)<|Rw z<|Wc z (fun ax=>?_) (fun ax=>?_)
 ·refine Ws<|R z (bP (parts:=[]) (cs:=[vI 0,sl none 0 0,sl none 0 0]) L_ z z)<|Rm z<|E0 (fs0 (cur':=[vI 0,sl none 0 0,sl none 0 0]) c_ z z ((((h2.e G).c h1<|djs<|mmr h2.lt).e s6).e s5) z z z z) ?_
  rintro _ _ ⟨eU,eV⟩;refine Ra z<|Rw z ?_
  obtain rfl:=som<|ifT bk ax;exact Wr<|rtO<|z_ hr (q_ r_ c_ z eU z) z z ⟨bM (bup (bup (bM (bup (bup h3 h4) G) h1<|m1 hy) s6) s5) eV.one<|m1 h3.s,none,0,0,[],none,0,0,[],z,ii z,onL,onL,I,ii z,nd0,al0⟩
 have bm:=ifF bk ax;refine Ws<|Rf z a_e z ?_
 have cI:=cD.e s5;refine R z (l0 g_3 z<|cI.at z)<|Rq z z z<|Rw z<|Wc z (fun ay=>?_) (fun ay=>?_)
 ·refine Wm z<|RM z z ?_
  have b3:=lt_ b2 s5.s;obtain ⟨eW,_,_,eX,d9⟩:=I_<|ifT bm ay;refine E z (fc call66 z<|W_w1a eX (zt' H b3) (J.g<|ad.e s5) cH cG) ?_;rintro _ _ ⟨cJ,cK,cL,cM,eY,cN,cO,cP,eZ,rfl,f0,f1,f2,f3,f4,b4,af⟩
  iterate 3 refine Re z z z ?_
  refine E0 (fs0 (cur':=[vI eW.number,sl cK cL cM,sl cN cO cP]) c_ z z (((((h2.e G).c h1<|djs<|mmr h2.lt).e s6).e s5).e cJ) z z z z) ?_;rintro _ _ ⟨f5,f6⟩;have b5:=f6.one;refine Ra z<|Rw z ?_
  obtain rfl:=som d9;have cQ:=lt_ (lt_ (lt_ G.s h1.s) s6.s) s5.s;exact Wr<|rtO<|z_ hr (q_ r_ c_ z f5 z) z z ⟨bM (bup (bup (bup (bM (bup (bup h3 h4) G) h1<|m1 hy) s6) s5) cJ) b5<|m1 h3.s,cK,cL,cM,eY,cN,cO,cP,eZ,z,f0,f1.c b5<|n_ (al_ af) h2.lt cQ,f2.c b5<|n_ (ar_ af) h2.lt cQ,f3,f4,na_ (nl_ b4) (nr_ b4)<|nj b4,aa_ (p_ (al_ af) b3)<|p_ (ar_ af) b3⟩
 have bn:=ifF bm ay;refine Wm z<|R z (a_i z z)<|Rw z<|Wc z (fun az=>?_) (fun az=>?_)
 ·refine Ws<|R z (bP (parts:=[]) (cs:=[vI 0,sl none 0 0,sl none 0 0]) L_ z z)<|Rm z<|E0 (fs0 (cur':=[vI 0,sl none 0 0,sl none 0 0]) c_ z z ((((h2.e G).c h1<|djs<|mmr h2.lt).e s6).e s5) z z z z) ?_
  rintro _ _ ⟨f7,f8⟩;refine Ra z<|Rw z ?_
  obtain rfl:=som<|ifT bn az;exact Wr<|rtO<|z_ hr (q_ r_ c_ z f7 z) z z ⟨bM (bup (bup (bM (bup (bup h3 h4) G) h1<|m1 hy) s6) s5) f8.one<|m1 h3.s,none,0,0,[],none,0,0,[],z,ii z,onL,onL,I,ii z,nd0,al0⟩
 refine Wk<|Ws<|R z (lN (vs:=[sl A0 N0 C0]) w_ u_ z z fid<|(cC.e s5).row 0 1 z)<|R z (lN (vs:=vR xa ab nc cd ae nf cg ah ni cj ak nl cm) G_ m_ z z fid<|cI.row 0 8 z)<|RM z z<|Rm z ?_
 have cR:=ad.e s5;have ai:=cF.e s5;have b6:=lt_ b2 s5.s;obtain ⟨f9,_,_,fe,da⟩:=I_<|ifF bn az;refine E z (fc call68 z<|bo.run fe (zt' H b6) (W.g cR) hu hv hp (hq.g ai) (hw.g ai) (hx.g ai) (ht.g ai) (ii z) cG (J.g cR) cH) ?_;rintro _ _ ⟨cS,cT,cU,cV,ff,cW,cX,cY,fg,rfl,fh,fi,fj,fk,fl,b7,aj⟩
 iterate 3 refine Re z z z ?_
 refine E0 (fs0 (cur':=[vI f9.number,sl cT cU cV,sl cW cX cY]) c_ z z (((((h2.e G).c h1<|djs<|mmr h2.lt).e s6).e s5).e cS) z z z z) ?_;rintro _ _ ⟨fm,fo⟩;have b8:=fo.one;refine Ra z<|Rw z ?_
 obtain rfl:=som da;have cZ:=lt_ (lt_ (lt_ G.s h1.s) s6.s) s5.s;exact Wr<|z_ hr (q_ r_ c_ z fm z) z z ⟨bM (bup (bup (bup (bM (bup (bup h3 h4) G) h1<|m1 hy) s6) s5) cS) b8<|m1 h3.s,cT,cU,cV,ff,cW,cX,cY,fg,z,fh,fi.c b8<|n_ (al_ aj) h2.lt cZ,fj.c b8<|n_ (ar_ aj) h2.lt cZ,fk,fl,na_ (nl_ b7) (nr_ b7)<|nj b7,aa_ (p_ (al_ aj) b6)<|p_ (ar_ aj) b6⟩
theorem T_w1b (ih:e_V n):j_r (h_9 n<|a_m n):=by
 obtain ⟨am,_,_,_,_⟩:=ih
 constructor
 intro A0 A3 A4 A2 A5 AH N0 C0 N3 C3 N4 C4 N2 C2 N5 C5 NH CH B x1 x2 x3 x4 x5 x6 res w0 hm V ai aL aM aN aO aP aQ aR aS aj ak ci;unfold h_9 at hm
 refine goG func68 z z z fun fn hr=>Ws<|E z (fb z) ?_
 rintro _ a4 ⟨rfl,aX⟩;have hd:=aX.below;have an:Blk a4 w0.z [sl A0 N0 C0]:=aX.blk;refine E z (fb z) ?_;rintro _ wr ⟨rfl,aY⟩;have hb:=aY.below;have ao:Blk wr a4.z (vR x2 A3 N3 C3 A4 N4 C4 A2 N2 C2 A5 N5 C5):=aY.blk;refine E z (fa J_) ?_;rintro _ G ⟨rfl,aZ⟩;have h5:=aZ.below;have hu:Blk G wr.z [vI 0,sl none 0 0,sl none 0 0]:=aZ.blk;refine Ra z<|Rw z<|Ws<|R z (bP (parts:=[]) (cs:=[vI 0,sl none 0 0,sl none 0 0]) L_ z z)<|E z (fa J_) ?_
 rintro _ cy ⟨rfl,b0⟩;have h3:=b0.below;have hv:Blk cy G.z [vI 0,sl none 0 0,sl none 0 0]:=b0.blk;refine E0 (fs0 (cur':=[vI 0,sl none 0 0,sl none 0 0]) c_ z z hv z z z z) ?_;rintro _ I ⟨cz,cA⟩;have H:=cA.one;refine Wn<|Wq<|Ws<|Rw z ?_
 obtain ⟨_,cj,aT⟩:=bdS hm;refine Wf (σ:=Int×(List Val)) (ρ:=Val×Int×Int) (fun (ap:Nat) s a w=>un2 (fun xc xp=>∃L O ca J,Sat 52 [(2,vI x3),(3,vI x4),(4,sl AH NH CH),(5,vI xc),(6,pt w0.z),(7,pt a4.z),(12,pt wr.z),(15,pt G.z),(16,vI ((ap:Nat):Int))] a/\Chg (· ∈ [G.z]) I w/\inI xc/\a_ w J (sl L O ca) xp/\J.Nodup/\(∀k∈J,I.z<=k)/\Blk w G.z [vI 0,sl none 0 0,sl L O ca]) s) (fun s a w=>un2 (fun xc xp=>∃L O ca J,Sat 52 [(5,vI xc),(12,pt wr.z),(15,pt G.z)] a/\Chg (· ∈ [G.z]) I w/\inI xc/\a_ w J (sl L O ca) xp/\J.Nodup/\(∀k∈J,I.z<=k)/\Blk w G.z [vI 0,sl none 0 0,sl L O ca]) s) (rQ prog fn<|Q9 w0 B) cj ?_ ?_ ?_ ?_ ?_
 ·exact fun _ q=>⟨none,0,0,[],q.k<|s9 z z z z z z z z z,cr [G.z] I,ci,onL,a_x,an_,cz⟩
 ·rintro ap ⟨xc,xp⟩ _ wg _ a3 ⟨L,O,ca,J,ck,s4,hh,hi,hw,he,hx⟩ cl;refine Wu ?_ ck;refine Wq<|Wm z<|Rm z<|Rl z z z<|Wx z (fun _=>?_) (fun hc=>(k_6 a3 hc).elim)
  refine Wk<|Wq<|Wb<|Wq ?_
  obtain ⟨cB,aU,cm⟩:=bdS<|a_G cl;refine Wt (fun a w=>∃(xj:Int)(a5:List UInt8)(a6:List Val)(xs:Int)(a7:Int),(xj,a5,a6,xs,a7)=cB/\∃ay nz W Sk Y a0 a1 Sl gq,Sat 52 [(2,vI x3),(3,vI x4),(4,sl AH NH CH),(6,pt w0.z),(7,pt a4.z),(12,pt wr.z),(15,pt G.z),(16,vI ((ap:Nat):Int)),(17,pt gq),(18,vI xs),(19,vI a7)] a/\Below wg.z wg w/\inI xj/\a_ w Sk (sl ay nz W) a5/\Sk.Nodup/\(∀k∈Sk,wg.z<=k)/\a_ w Sl (sl Y a0 a1) a6/\Sl.Nodup/\(∀k∈Sl,wg.z<=k)/\(∀k∈Sl,k∉Sk)/\inI xs/\inI a7/\Blk w gq [vI xj,sl ay nz W,sl Y a0 a1]/\wg.z<=gq/\(∀k∈Sk,k∉[gq])/\(∀k∈Sl,k∉[gq])) ?_ ?_
  ·refine Wd (X:=fun k=>k∈([]:List Nat)∨wg.z<=k) 0 (.rd 0<|.rd 1<|.rd 2<|.rd 3<|.rd 5<|.rd 6<|.br 4 (.br 7 (.rd 8<|.rd 9<|.rd 10<|.rd 11<|.ef 12<|.ef 13<|.rd 14<|.rd 15 .done) 12<|.ef 7<|.rd 8<|.rd 9<|.rd 10<|.rd 11<|.ef 13<|.rd 14<|.rd 15 .done) 12<|.ef 4<|.ef 7<|.rd 8<|.rd 9<|.rd 10<|.rd 11<|.ef 13<|.rd 14<|.rd 15 .done) mo (by kernel_rfl) fun b1 s7 _=>?_
   have b2:=lt_ hb.s h5.s;have b3:=mm1 an.lt b2;refine dR z z (lN (vs:=[sl A0 N0 C0]) w_ u_ z z (b_q nm0<|Nat.lt_of_lt_of_le an.lt<|lt_ (lt_ (lt_ b2 h3.s) H.s) s4.s)<|((((((an.e hb).e h5).e h3).c H<|djs b3).c s4<|djs b3).e s7).row 0 1 z) ?_;have b4:=mm1 ao.lt h5.s;refine dR z z (lN (vs:=vR x2 A3 N3 C3 A4 N4 C4 A2 N2 C2 A5 N5 C5) G_ m_ z z (b_q nm0<|Nat.lt_of_lt_of_le ao.lt<|lt_ (lt_ (lt_ h5.s h3.s) H.s) s4.s)<|(((((ao.e h5).e h3).c H<|djs b4).c s4<|djs b4).e s7).row 0 8 z) ?_
   iterate 4 refine dM z z z ?_
   refine b_p ?_ ?_
   ·have b5:=lt_ (lt_ hd.s hb.s) h5.s;have b6:∀k∈[G.z],¬B k:=or0 (f_ lr)<|t_<|zt' V b5;have ht:=((((((hd.ag B).e hb).e h5).e h3).c H<|g_ b6).c s4<|g_ b6).e s7;have aq:=lt_ (lt_ (lt_ (lt_ b5 h3.s) H.s) s4.s) s7.s;obtain ⟨_,cC,aV⟩:=bdS aU;refine dE z z (fc call37 z<|d_g cC (zt' V aq) aL aM aN (aO.g ht) (aP.g ht) (aQ.g ht) (aR.g ht) aS<|ic (Nat.le_of_lt a3)<|tl_ aj) (.inr fun _ _ h=>l_<|h.1) ?_;rintro _ b7 ⟨sf,rfl,b8⟩;refine b_p ?_ ?_
    ·have b9:=ht.e sf;obtain ⟨a9,cD,cE,cF,cn⟩:=I_ aV;refine dE z z (fc call34 z<|am.run cF (zt' V<|lt_ aq sf.s) (ai.g b9) b8 (ak.g b9) hh) (.inr fun _ _ h=>l_<|h.1) ?_;rintro _ ba ⟨bb,bc,be,bf,cG,bg,bh,bi,cH,rfl,cI,bj,bk,cJ,cK,ar,bm⟩;refine dM z z z ?_
     iterate 3 refine dR z z (ext_ z z) ?_
     refine dE z z (fa J_) (.inr fun _ _ h=>l_<|h.2.below) ?_;rintro _ cL ⟨rfl,bn⟩;have au:=bn.below;have av:=lt_ s7.s sf.s;have aw:=m1<|lt_ av bb.s
     refine dE0 z (fs0 (cur':=[vI a9.number,sl bc be bf,sl bg bh bi]) c_ z z (bn.blk:Blk cL ba.z [vI 0,sl none 0 0,sl none 0 0]) z z z z) (.inr fun _ _ h=>a_C (atp aw) h.2) ?_;rintro _ _ ⟨cN,cO⟩;have ax:=cO.one;refine dQ z z z<|dQ z z z<|pD ?_
     have bo:=mnr<|a_.lt bj
     have bp:=mnr<|a_.lt bk
     exact fun _ q=>⟨a9.number,a9.bytes,a9.items,cD,cE,som cn,bc,be,bf,cG,bg,bh,bi,cH,ba.z,q.k<|sc z<|sc z<|sc z<|sc z<|sc z<|sc z<|sc z<|sc z<|sc z<|sc z<|sc z sn,bM (bup (bup (bup s7 sf) bb) au) ax aw,cI,(bj.e au).c ax<|ds bo,nl_ ar,p_ (al_ bm) av,(bk.e au).c ax<|ds bp,nr_ ar,p_ (ar_ bm) av,ds<|nj ar,cJ,cK,cN,atp aw,ds bo,ds bp⟩
    refine dE z z (fa J_) (.inr fun _ _ h=>l_<|h.2.below) ?_;rintro _ cP ⟨rfl,bq⟩;have aa:=bq.below;have az:Blk cP b7.z [vI 0,sl none 0 0,sl none 0 0]:=bq.blk;have bs:=(ht.e sf).e aa;obtain ⟨ab,cQ,cR,cS,co⟩:=I_ aV;refine dE z z (fc call34 z<|am.run cS (zt' V<|lt_ (lt_ aq sf.s) aa.s) (ai.g bs) b8 (ak.g bs) hh) (.inr fun _ _ h=>l_<|h.1) ?_;rintro _ _ ⟨bt,bu,bv,bw,cT,bx,bz,bA,cU,rfl,cV,cW,cX,cY,cZ,aA,ad⟩;refine dM z z z ?_
    iterate 3 refine dR z z (ext_ z z) ?_
    have bB:=lt_ s7.s sf.s;have aB:=m1 bB;refine dE0 z (fs0 (cur':=[vI ab.number,sl bu bv bw,sl bx bz bA]) c_ z z (az.e bt) z z z z) (.inr fun _ _ h=>a_C (atp aB) h.2) ?_;rintro _ _ ⟨d0,d1⟩;have aC:=d1.one;refine dQ z z z<|dQ z z z<|pD ?_
    have bC:=n_ (al_ ad) az.lt lr;have bD:=lt_ bB aa.s;have bE:=n_ (ar_ ad) az.lt lr;exact fun _ q=>⟨ab.number,ab.bytes,ab.items,cQ,cR,som co,bu,bv,bw,cT,bx,bz,bA,cU,b7.z,q.k<|sc z<|sc z<|sc z<|sc z<|sc z<|sc z<|sc z<|sc z<|sc z<|sc z<|sc z sn,bM (bup (bup (bup s7 sf) aa) bt) aC aB,cV,cW.c aC bC,nl_ aA,p_ (al_ ad) bD,cX.c aC bE,nr_ aA,p_ (ar_ ad) bD,ds<|nj aA,cY,cZ,d0,atp aB,bC,bE⟩
   refine dE z z (fa J_) (.inr fun _ _ h=>l_<|h.2.below) ?_;rintro _ d2 ⟨rfl,bF⟩;have ae:=bF.below;have aD:Blk d2 b1.z [vI 0,sl none 0 0,sl none 0 0]:=bF.blk;have bG:=lt_ (lt_ hd.s hb.s) h5.s;have bH:∀k∈[G.z],¬B k:=or0 (f_ lr)<|t_<|zt' V bG;have a2:=(((((((hd.ag B).e hb).e h5).e h3).c H<|g_ bH).c s4<|g_ bH).e s7).e ae;have bI:=lt_ (lt_ (lt_ (lt_ (lt_ bG h3.s) H.s) s4.s) s7.s) ae.s;obtain ⟨_,d3,cp⟩:=bdS aU;refine dE z z (fc call37 z<|d_g d3 (zt' V bI) aL aM aN (aO.g a2) (aP.g a2) (aQ.g a2) (aR.g a2) aS<|ic (Nat.le_of_lt a3)<|tl_ aj) (.inr fun _ _ h=>l_<|h.1) ?_;rintro _ _ ⟨sm,rfl,d4⟩;have bJ:=a2.e sm;obtain ⟨af,d5,d6,d7,cq⟩:=I_ cp;refine dE z z (fc call34 z<|am.run d7 (zt' V<|lt_ bI sm.s) (ai.g bJ) d4 (ak.g bJ) hh) (.inr fun _ _ h=>l_<|h.1) ?_;rintro _ _ ⟨bK,bL,bN,bO,d8,bQ,bR,bS,d9,rfl,da,db,dc,dd,de,aE,ah⟩;refine dM z z z ?_
   iterate 3 refine dR z z (ext_ z z) ?_
   have aF:=m1 s7.s;refine dE0 z (fs0 (cur':=[vI af.number,sl bL bN bO,sl bQ bR bS]) c_ z z ((aD.e sm).e bK) z z z z) (.inr fun _ _ h=>a_C (atp aF) h.2) ?_;rintro _ _ ⟨df,dg⟩;have aG:=dg.one;refine dQ z z z<|dQ z z z<|pD ?_
   have bT:=n_ (al_ ah) aD.lt sm.s;have bU:=lt_ (lt_ s7.s ae.s) sm.s;have bV:=n_ (ar_ ah) aD.lt sm.s;exact fun _ q=>⟨af.number,af.bytes,af.items,d5,d6,som cq,bL,bN,bO,d8,bQ,bR,bS,d9,b1.z,q.k<|sc z<|sc z<|sc z<|sc z<|sc z<|sc z<|sc z<|sc z<|sc z<|sc z<|sc z sn,bM (bup (bup (bup s7 ae) sm) bK) aG aF,da,db.c aG bT,nl_ aE,p_ (al_ ah) bU,dc.c aG bV,nr_ aE,p_ (ar_ ah) bU,ds<|nj aE,dd,de,df,atp aF,bT,bV⟩
  rintro dh bW ⟨xj,a5,a6,xs,a7,rfl,ay,nz,W,Sk,Y,a0,a1,Sl,gq,_,so,di,dj,dk,aH,dl,dm,aI,dn,bX,dp,dq,_,_,_⟩;have aW:=un5S cm;revert dh;refine Wo<|Wq<|Wm z<|R z (nq z z)<|Wx z (fun al=>?_) (fun al=>?_)
  ·refine Ws<|R z (bP (parts:=[]) (cs:=[vI 0,sl none 0 0,sl none 0 0]) L_ z z)<|RM z z ?_
   have bY:=mmr hu.lt;refine E0 (fs0 (cur':=[vI 0,sl none 0 0,sl none 0 0]) c_ z z ((((hu.e h3).c H<|djs bY).c s4<|djs bY).e so) z z z z) ?_;rintro _ _ ⟨dr,dt⟩;refine Ra z<|Rw z ?_
   have bZ:=lt_ hd.s hb.s;have c0:=m1<|lt_ bZ h5.s
   exact Wr<|rtO<|qL (som<|ifT aW al).symm<|z_ hr (q_ r_ c_ z dr z) z z ⟨bM (bup (bM (bM (bup (bup (bup hd hb) h5) h3) H c0) s4 c0) so) dt.one<|m1 bZ,none,0,0,[],none,0,0,[],z,ii z,onL,onL,bX,dp,nd0,al0⟩
  refine Wk<|Ws<|Rf z Z_ z ?_
  have c1:=hx.e so;refine R z (l0 a_2 z<|c1.at z)<|R z (lN (vs:=[vI xj,sl ay nz W,sl Y a0 a1]) r_ c_ z z fid<|dq.row 0 3 z)<|E z (fS [(.tmp 45)] b_x z z z (b_V z) (lb z)<|lb z) ?_
  rintro _ c2 ⟨rfl,c3⟩;have hn:=c3.below;obtain ⟨du,dv,ct⟩:=bdS<|ifF aW al;refine E z (c_u (α:=Val) b_x dv z z ((hi.e so).e hn) hw (c3.blk:Blk c2 bW.z [vI xj,sl ay nz W,sl Y a0 a1]) (j_i (x:=(⟨xj,a5,a6⟩:Val)) (S1:=Sk) (S2:=Sl) di (dj.e hn)<|dl.e hn) (aa_ (b_w aH (a_.lt hi) lr)<|b_w aI (a_.lt hi) lr)<|na_ dk dm<|ds dn) ?_;rintro _ dw ⟨aJ,c4,c5,c6,rfl,c7,dx,dy,c8⟩;refine Rf z Z_ z ?_;have c9:=n_ he hv.lt H.s;refine E0 (fs0 (cur':=[vI 0,sl none 0 0,sl c4 c5 c6]) z_40 z z ((c1.e hn).c c7<|djs c9) z z z z) ?_;rintro _ dz ⟨dA,dB⟩;have cb:=dB.one;refine Wn<|Wg<|Rm z<|Rw z<|Wg<|Rm z<|R z (inc_ a3 (tl_ aj) z z)<|Ra z<|Wl ?_
  have aK:=lt_ H.s s4.s;exact fun _ q=>⟨(xs,du),(som ct).symm,⟨c4,c5,c6,aJ,q.k<|s9 z z z z z z z z z,(cM (cM (h_ (h_ (cM (cr [G.z] I) s4 (io sr):Chg (· ∈ [G.z]) I wg) so:Chg (· ∈ [G.z]) I bW) hn:Chg (· ∈ [G.z]) I c2) c7 (or0 he (M_ lr):∀k∈J,k∈[G.z]∨I.z<=k):Chg (· ∈ [G.z]) I dw) cb (io sr):Chg (· ∈ [G.z]) I dz),bX,dx.c cb (or2 c8 c9 (aa_ (n_ aH hv.lt aK)<|n_ aI hv.lt aK) (a_f (f_ hv.lt)<|lt_ (lt_ aK so.s) hn.s):∀k∈aJ,k∉[G.z]),dy,(or2 c8 he (aa_ (p_ aH s4.s)<|p_ aI s4.s) (c_3<|lt_ (lt_ s4.s so.s) hn.s):∀k∈aJ,I.z<=k),dA⟩⟩
 ·rintro ⟨xc,xp⟩ _ dC ⟨L,O,ca,J,cu,dD,hh,hi,hw,he,hx⟩;refine Wu ?_ cu;refine Wq<|Wm z<|Rm z<|Rl z z z<|Wx z (fun hc=>(k_7 hc).elim) (fun _=>?_)
  exact We<|fun _ q=>⟨rfl,⟨L,O,ca,J,q.k<|s3 z z z,(cM (cr [G.z] I) dD (io sr):Chg (· ∈ [G.z]) I dC),hh,hi,hw,he,hx⟩⟩
 ·rintro ⟨xc,xp⟩ dF _ rfl ⟨L,O,ca,J,_,cc,hh,hi,hw,he,hx⟩;have cv:=elL aT;revert dF;refine Wo<|Ws<|R z (lN (vs:=[vI 0,sl none 0 0,sl L O ca]) r_ c_ z z fid<|hx.row 0 3 z)<|Rm z ?_
  have cd:=mmr hu.lt;refine E0 (fs0 (cur':=[vI 0,sl none 0 0,sl L O ca]) c_ z z (((hu.e h3).c H<|djs cd).c cc<|djs cd) z z z z) ?_;rintro _ _ ⟨dG,dH⟩;have ce:=dH.one;refine Ra z<|Rw z ?_
  obtain rfl:=som<|a_G cv;have cf:=lt_ hd.s hb.s;have cg:=lt_ cf h5.s;have ch:=m1 cg;exact Wr<|z_ hr (q_ r_ c_ z dG z) z z ⟨bM (bM (bM (bup (bup (bup hd hb) h5) h3) H ch) cc ch) ce<|m1 cf,none,0,0,[],L,O,ca,J,z,ii z,onL,hi.c ce<|n_ he hu.lt<|lt_ h3.s H.s,hh,ii z,na_ a_x hw an_,aa_ an_<|p_ he<|lt_ (lt_ cg h3.s) H.s⟩
 rintro _ _ _ _ rfl ⟨rfl,cw⟩;have cx:=elR aT;obtain rfl:=som cx;exact ⟨cw,z⟩
theorem T_w1c (ih:e_V n):j_s (h_a n<|a_m n):=by
 obtain ⟨_,aA,_,_,_⟩:=ih
 constructor
 intro A0 A3 A4 A2 A5 A7 N0 C0 N3 C3 N4 C4 N2 C2 N5 C5 N7 C7 B x1 x2 x3 x4 res w0 hm W Y a0 a1 a2 a3 a4 a5 O a6 V;unfold h_a at hm
 refine goG func69 z z z fun fn hr=>Ws<|E z (fb z) ?_
 rintro _ wy ⟨rfl,hz⟩;have hf:=hz.below;refine E z (fb z) ?_;rintro _ wq ⟨rfl,ad⟩;have h5:=ad.below;refine E z (fa J_) ?_;rintro _ aB ⟨rfl,ae⟩;have h3:=ae.below;have h6:Blk aB wq.z [vI 0,sl none 0 0,sl none 0 0]:=ae.blk;refine Ra z<|Rw z<|Wq (Wd (X:=noX) 0 (pl_ 15 [7]) mo (by kernel_rfl) fun b6 G _=>?_)
 have af:=(((hz.blk:Blk wy w0.z [sl A0 N0 C0]).e h5).e h3).e G;refine dR z z (lN (vs:=[sl A0 N0 C0]) w_ u_ z z fid<|af.row 0 1 z)<|dR z z (fd N_ z) ?_
 have ah:=((ad.blk:Blk wq wy.z (vR x2 A3 N3 C3 A4 N4 C4 A2 N2 C2 A5 N5 C5)).e h3).e G;refine dR z z (l0 A_ z<|ah.at z) ?_;obtain ⟨_,aC,ax⟩:=bdS hm;have hh:=(((hf.ag B).e h5).e h3).e G;refine dRX z z (at_ (α:=Int) x_ z_3 z z z (O.g hh) aC) ?_;rintro _ ⟨_,_,_,rfl,aD,aE,_⟩;obtain ⟨rfl,aF⟩:=O_ aE;refine dR z z (l0 g_3 z<|aD.at0 z)<|dM z z z<|dM z z z ?_
 have hi:=lt_ hf.s h5.s;have ai:=lt_ (lt_ hi h3.s) G.s;obtain ⟨aj,_,_,aG,a7⟩:=I_ ax;refine dE z z (fc call57 z<|g_0 aG (zt' W ai) (Y.g hh) aF (a6.g hh) V) (.inr fun _ _ h=>l_<|h.1) ?_;rintro _ _ ⟨s1,rfl,ht,aH⟩;refine dM z z z ?_
 iterate 3 refine dR z z (ext_ z z) ?_
 iterate 3 refine dQ z z z ?_
 refine pD<|Wo<|Wq<|Wm z<|R z (not_ z)<|Wx z (fun hcr=>?_) (fun hcr=>?_)
 ·refine Ws<|R z (bP (parts:=[]) (cs:=[vI 0,sl none 0 0,sl none 0 0]) L_ z z)<|Rm z<|E0 (fs0 (cur':=[vI 0,sl none 0 0,sl none 0 0]) c_ z z ((h6.e G).e s1) z z z z) ?_
  rintro _ _ ⟨aI,aJ⟩;refine Ra z<|Rw z ?_
  obtain rfl:=som<|ifT a7 hcr;exact Wr<|z_ hr (q_ r_ c_ z aI z) z z ⟨bM (bup (bup (bup (bup hf h5) h3) G) s1) aJ.one<|m1 hi,none,0,0,[],none,0,0,[],z,ii z,onL,onL,V,ii z,nd0,al0⟩
 refine Wk<|Wq<|Ws ?_
 have ak:=ah.e s1;refine R z (lN (vs:=vR x2 A3 N3 C3 A4 N4 C4 A2 N2 C2 A5 N5 C5) G_ m_ z z fid<|ak.row 0 8 z)<|Rm z ?_
 have hg:=hh.e s1;have al:=lt_ ai s1.s;obtain ⟨_,aK,a9⟩:=bdS<|ifF a7 hcr;refine E z (fc call37 z<|d_g aK (zt' W al) a0 a1 a2 (a3.g hg) (a4.g hg) (a5.g hg) (O.g hg) ht<|ii z) ?_;rintro _ _ ⟨s2,rfl,_⟩;refine Rl z z z<|Wx z (fun hcs=>?_) (fun hcs=>?_)
 ·refine Ws<|R z (bP (parts:=[]) (cs:=[vI 0,sl none 0 0,sl none 0 0]) L_ z z)<|Rm z<|E0 (fs0 (cur':=[vI 0,sl none 0 0,sl none 0 0]) c_ z z (((h6.e G).e s1).e s2) z z z z) ?_
  rintro _ _ ⟨aL,aM⟩;refine Ra z<|Rw z ?_
  obtain rfl:=som<|ifT a9 hcs;exact Wr<|z_ hr (q_ r_ c_ z aL z) z z ⟨bM (bup (bup (bup (bup (bup hf h5) h3) G) s1) s2) aM.one<|m1 hi,none,0,0,[],none,0,0,[],z,ii z,onL,onL,V,ii z,nd0,al0⟩
 refine Wk<|Ws<|R z (lN (vs:=[sl A0 N0 C0]) w_ u_ z z fid<|((af.e s1).e s2).row 0 1 z)<|R z (lN (vs:=vR x2 A3 N3 C3 A4 N4 C4 A2 N2 C2 A5 N5 C5) G_ m_ z z fid<|(ak.e s2).row 0 8 z)<|RM z z<|Rm z ?_
 have I:=hg.e s2;have hj:=lt_ al s2.s;obtain ⟨am,aN,aO,aP,ay⟩:=I_<|ifF a9 hcs;refine E z (fc call68 z<|aA.run aP (zt' W hj) (Y.g I) a0 a1 a2 (a3.g I) (a4.g I) (a5.g I) (O.g I) ht (ii z) (a6.g I) aH) ?_;rintro _ H ⟨sk,J,L,ca,aQ,ab,nc,cd,aR,rfl,aS,an,ao,aT,aU,hu,hl⟩;refine Rm z ?_
 iterate 3 refine Re z z z ?_
 refine E z (fa J_) ?_;rintro _ aV ⟨rfl,ap⟩;have hn:=ap.below;refine E0 (fs0 (cur':=[vI am.number,sl J L ca,sl ab nc cd]) c_ z z (ap.blk:Blk aV H.z [vI 0,sl none 0 0,sl none 0 0]) z z z z) ?_;rintro _ wm ⟨aq,aW⟩;have ho:=aW.one;refine Ra z<|Rw z<|Wq<|Wm z<|Rq z z z<|Wn ?_
 obtain ⟨aX,aa,az⟩:=bdS ay;refine Wt (fun a w=>∃(xe:Int),xe=aX/\Sat 56 [(8,pt wq.z),(14,pt H.z),(15,vI aN),(16,vI aO)] a/\Chg (· ∈ [H.z]) wm w/\inI xe/\Blk w H.z [vI xe,sl J L ca,sl ab nc cd]) ?_ ?_
 ·refine Wc z (fun hcv=>?_)<|fun hcv=>?_
  ·refine Wg<|Rm z<|Rf z b_0 z<|E0 (fs0 (cur':=[vI aj,sl J L ca,sl ab nc cd]) z_3 z z aq z z z z) ?_
   rintro _ aY ⟨aZ,b0⟩;refine Wl ?_;exact fun _ q=>⟨aj,som<|ifT aa hcv,q.k<|s4 z z z z,(cM (cr [H.z] wm) b0.one (io sr):Chg (· ∈ [H.z]) wm aY),ht,aZ⟩
  exact a_k<|fun _ q=>⟨am.number,som<|ifF aa hcv,q.k<|s4 z z z z,cr [H.z] wm,aS,aq⟩
 rintro b1 _ ⟨xe,rfl,_,sp,b2,b3⟩;revert b1;refine Wo<|Ws<|R z (lN (vs:=[vI xe,sl J L ca,sl ab nc cd]) r_ c_ z z fid<|b3.row 0 3 z)<|RM z z ?_
 have hw:=lt_ (lt_ G.s s1.s) s2.s;have ar:=mm1 h6.lt<|lt_ hw sk.s
 refine E0 (fs0 (cur':=[vI xe,sl J L ca,sl ab nc cd]) c_ z z (((((((h6.e G).e s1).e s2).e sk).e hn).c ho<|djs ar).c sp<|djs ar) z z z z) ?_;rintro _ _ ⟨b4,b5⟩;have hx:=b5.one;refine Ra z<|Rw z ?_
 obtain rfl:=som az;have au:=mnr<|a_.lt an
 have av:=mnr<|a_.lt ao
 have aw:=m1<|lt_ hj sk.s
 exact Wr<|z_ hr (q_ r_ c_ z b4 z) z z ⟨bM (bM (bM (bup (bup (bup (bup (bup (bup (bup hf h5) h3) G) s1) s2) sk) hn) ho aw) sp aw) hx<|m1 hi,J,L,ca,aQ,ab,nc,cd,aR,z,b2,(((an.e hn).c ho<|ds au).c sp<|ds au).c hx<|n_ (al_ hl) h6.lt hw,(((ao.e hn).c ho<|ds av).c sp<|ds av).c hx<|n_ (ar_ hl) h6.lt hw,aT,aU,na_ (nl_ hu) (nr_ hu)<|nj hu,aa_ (p_ (al_ hl) hj)<|p_ (ar_ hl) hj⟩
theorem T_w1d (ih:e_V n):j_t (h_b n<|a_m n):=by
 obtain ⟨_,a7,_,_,_⟩:=ih
 constructor
 intro A0 A3 A4 A2 A5 A7 N0 C0 N3 C3 N4 C4 N2 C2 N5 C5 N7 C7 B x1 x2 x3 x4 res w0 hm a8 V W Y a0 a1 a2 a3 a4 L O;unfold h_b at hm
 refine goG func70 z z z fun fn hr=>Ws<|E z (fb z) ?_
 rintro _ wc ⟨rfl,hd⟩;have h2:=hd.below;refine E z (fb z) ?_;rintro _ we ⟨rfl,hf⟩;have G:=hf.below;refine E z (fa J_) ?_;rintro _ ws ⟨rfl,hg⟩;have h3:=hg.below;have h5:Blk ws we.z [vI 0,sl none 0 0,sl none 0 0]:=hg.blk;refine Ra z<|Rw z<|Wq<|Wb<|Wm z<|Rm z ?_
 have hh:=((h2.ag B).e G).e h3;have hi:=L.g hh;refine R z (lnR o_ z hi)<|R z (b_s z z)<|Rw z<|Wc z (fun H=>?_) (fun H=>?_)
 ·refine Ws<|R z (bP (parts:=[]) (cs:=[vI 0,sl none 0 0,sl none 0 0]) L_ z z)<|Rm z<|E0 (fs0 (cur':=[vI 0,sl none 0 0,sl none 0 0]) c_ z z h5 z z z z) ?_
  rintro _ _ ⟨hw,sx⟩;refine Ra z<|Rw z ?_
  obtain rfl:=som<|ifT hm H;exact Wr<|rtO<|z_ hr (q_ r_ c_ z hw z) z z ⟨bM (bup (bup h2 G) h3) sx.one<|m1<|lt_ h2.s G.s,none,0,0,[],none,0,0,[],z,ii z,onL,onL,O,ii z,nd0,al0⟩
 refine Wm z<|Rm z ?_
 obtain ⟨_,ey,hmj⟩:=bdS<|ifF hm H;refine RX z (at_ (α:=UInt8) o_ z_5 z z z hi ey) ?_;rintro _ ⟨_,_,_,rfl,hz,a9,_⟩;obtain rfl:=u8 a9;refine R z (l0 g_5 z<|hz.at0 z)<|R z (a_i z z)<|Rw z<|Wc z (fun I=>?_) (fun I=>?_)
 ·refine Ws<|R z (bP (parts:=[]) (cs:=[vI 0,sl none 0 0,sl none 0 0]) L_ z z)<|Rm z<|E0 (fs0 (cur':=[vI 0,sl none 0 0,sl none 0 0]) c_ z z h5 z z z z) ?_
  rintro _ _ ⟨aa,ab⟩;refine Ra z<|Rw z ?_
  obtain rfl:=som<|ifT hmj I;exact Wr<|rtO<|z_ hr (q_ r_ c_ z aa z) z z ⟨bM (bup (bup h2 G) h3) ab.one<|m1<|lt_ h2.s G.s,none,0,0,[],none,0,0,[],z,ii z,onL,onL,O,ii z,nd0,al0⟩
 refine Wk<|Wq (Wd (X:=noX) 16384 (pl_ 17 [10,14]) mo (by kernel_rfl) fun aw s1 _=>dR z z (lN (vs:=[sl A0 N0 C0]) w_ u_ z z fid<|((((hd.blk:Blk wc w0.z [sl A0 N0 C0]).e G).e h3).e s1).row 0 1 z)<|dR z z (lN (vs:=vR x2 A3 N3 C3 A4 N4 C4 A2 N2 C2 A5 N5 C5) G_ m_ z z fid<|(((hf.blk:Blk we wc.z (vR x2 A3 N3 C3 A4 N4 C4 A2 N2 C2 A5 N5 C5)).e h3).e s1).row 0 8 z)<|dM z z z<|dM z z z ?_)
 obtain ⟨_,ad,a5⟩:=bdS<|ifF hmj I;have h4:=hh.e s1;have hk:=L.g h4;refine dRX z z (at_ (α:=UInt8) o_ z_5 z z z hk ad) ?_;rintro _ ⟨_,_,_,rfl,ae,af,_⟩;obtain rfl:=u8 af;refine dR z z (l0 g_5 z<|ae.at0 z)<|dR z z (c_e d_5 d_3 z)<|dM z z z<|dM z z z<|dR z z (add_ z z) ?_
 have hl:=lt_ h2.s G.s;have J:=lt_ (lt_ hl h3.s) s1.s;obtain ⟨ah,_,_,ai,a6⟩:=I_ a5;refine dE z z (fc call68 z<|a7.run ai (zt' a8 J) (V.g h4) W Y a0 (a1.g h4) (a2.g h4) (a3.g h4) (a4.g h4) (ii z) (l_V _) hk<|iA _ _) (.inr fun _ _ h=>l_<|h.1) ?_;rintro _ _ ⟨sm,an,no,cp,aj,aq,nr,ct,ak,rfl,al,am,ao,ap,ar,ha,h6⟩
 iterate 3 refine dR z z (ext_ z z) ?_
 refine dE0 z (fs0 (cur':=[vI ah.number,sl an no cp,sl aq nr ct]) c_ z z ((h5.e s1).e sm) z z z z) (.inl z) ?_;rintro _ _ ⟨au,av⟩;have hb:=av.one;refine dQ z z z<|dQ z z z<|pD<|Wo ?_
 obtain rfl:=som a6;exact Wr<|z_ hr (q_ r_ c_ z au z) z z ⟨bM (bup (bup (bup (bup h2 G) h3) s1) sm) hb<|m1 hl,an,no,cp,aj,aq,nr,ct,ak,z,al,am.c hb<|n_ (al_ h6) h5.lt s1.s,ao.c hb<|n_ (ar_ h6) h5.lt s1.s,ap,ar,na_ (nl_ ha) (nr_ ha)<|nj ha,aa_ (p_ (al_ h6) J)<|p_ (ar_ h6) J⟩
theorem T_w1e (ih:e_V n):j_u (h_c n<|a_m n):=by
 obtain ⟨_,am,_,_,_⟩:=ih
 constructor
 intro A0 A3 A4 A2 A5 A7 N0 C0 N3 C3 N4 C4 N2 C2 N5 C5 N7 C7 B x1 x2 x3 x4 res w0 hm O a7 a8 a9 ab ae af ah ai L aj;unfold h_c at hm
 refine goG func71 z z z fun fn hr=>Ws<|E z (fb z) ?_
 rintro _ wu ⟨rfl,hv⟩;have hh:=hv.below;refine E z (fb z) ?_;rintro _ ww ⟨rfl,hx⟩;have H:=hx.below;refine E z (fa J_) ?_;rintro _ an ⟨rfl,hy⟩;have h5:=hy.below;have h3:Blk an ww.z [vI 0,sl none 0 0,sl none 0 0]:=hy.blk;refine Ra z<|Rw z<|Ws<|R z (lN (vs:=[sl A0 N0 C0]) w_ u_ z z fid<|(((hv.blk:Blk wu w0.z [sl A0 N0 C0]).e H).e h5).row 0 1 z)<|R z (lN (vs:=vR x2 A3 N3 C3 A4 N4 C4 A2 N2 C2 A5 N5 C5) G_ m_ z z fid<|((hx.blk:Blk ww wu.z (vR x2 A3 N3 C3 A4 N4 C4 A2 N2 C2 A5 N5 C5)).e h5).row 0 8 z)<|RM z z ?_
 have I:=((hh.ag B).e H).e h5;have hj:=lt_ hh.s H.s;have J:=lt_ hj h5.s;obtain ⟨rk,_,_,ao,hmz⟩:=I_ hm;refine E z (fc call68 z<|am.run ao (zt' O J) (a7.g I) a8 a9 ab (ae.g I) (af.g I) (ah.g I) (ai.g I) (ii z) (ii z) (L.g I) aj) ?_;rintro _ Y ⟨G,aa,nb,cc,a0,ad,ne,cf,a1,rfl,a2,hn,ho,hp,ap,hi,h6⟩;refine Rm z ?_
 iterate 3 refine Re z z z ?_
 refine E z (fa J_) ?_;rintro _ aq ⟨rfl,a3⟩;have h1:=a3.below;refine E0 (fs0 (cur':=[vI rk.number,sl aa nb cc,sl ad ne cf]) c_ z z (a3.blk:Blk aq Y.z [vI 0,sl none 0 0,sl none 0 0]) z z z z) ?_;rintro _ _ ⟨a4,ar⟩;have h2:=ar.one;refine Ra z<|Rw z<|Wq<|Wb<|Wm z<|R z (nq z z)<|Rw z<|Wc z (fun hcm=>?_) (fun hcm=>?_)
 ·refine Ws<|R z (lN (vs:=[vI rk.number,sl aa nb cc,sl ad ne cf]) r_ c_ z z fid<|a4.row 0 3 z)<|RM z z<|E0 (fs0 (cur':=[vI rk.number,sl aa nb cc,sl ad ne cf]) c_ z z (((h3.e G).e h1).c h2<|djs<|mm1 h3.lt G.s) z z z z) ?_
  rintro _ _ ⟨au,av⟩;have hq:=av.one;refine Ra z<|Rw z ?_
  obtain rfl:=som<|ifT hmz hcm;exact Wr<|rtO<|z_ hr (q_ r_ c_ z au z) z z ⟨bM (bM (bup (bup (bup (bup hh H) h5) G) h1) h2<|m1<|lt_ J G.s) hq<|m1 hj,aa,nb,cc,a0,ad,ne,cf,a1,z,a2,((hn.e h1).c h2<|ds<|mnr<|a_.lt hn).c hq<|n_ (al_ h6) h3.lt lr,((ho.e h1).c h2<|ds<|mnr<|a_.lt ho).c hq<|n_ (ar_ h6) h3.lt lr,hp,ap,na_ (nl_ hi) (nr_ hi)<|nj hi,aa_ (p_ (al_ h6) J)<|p_ (ar_ h6) J⟩
 have V:=ifF hmz hcm;refine Wm z<|Rm z ?_
 have hl:=lt_ J G.s;have a5:=((I.e G).e h1).c h2<|g_ (or0 (f_ lr) (t_<|zt' O hl):∀k∈[Y.z],¬B k)
 refine R z (lnR o_ z<|L.g a5)<|R z (b_s z z)<|Rw z<|Wc z (fun hcr=>?_) (fun hcr=>?_)
 ·refine Ws<|R z (bP (parts:=[]) (cs:=[vI 0,sl none 0 0,sl none 0 0]) L_ z z)<|Rm z<|E0 (fs0 (cur':=[vI 0,sl none 0 0,sl none 0 0]) c_ z z (((h3.e G).e h1).c h2<|djs<|mm1 h3.lt G.s) z z z z) ?_
  rintro _ _ ⟨aw,ax⟩;refine Ra z<|Rw z ?_
  obtain rfl:=som<|ifT V hcr;exact Wr<|rtO<|z_ hr (q_ r_ c_ z aw z) z z ⟨bM (bM (bup (bup (bup (bup hh H) h5) G) h1) h2<|m1 hl) ax.one<|m1 hj,none,0,0,[],none,0,0,[],z,ii z,onL,onL,hp,ii z,nd0,al0⟩
 refine Wq (Wd (X:=noX) 0 (pl_ 12 [9]) mo (by kernel_rfl) fun aI s4 _=>dM z z z<|dM z z z ?_);obtain ⟨_,ay,ak⟩:=bdS<|ifF V hcr;have a6:=L.g<|a5.e s4
 refine dRX z z (at_ (α:=UInt8) o_ z_5 z z z a6 ay) ?_;rintro _ ⟨_,_,_,rfl,az,aA,_⟩;obtain rfl:=u8 aA;refine dR z z (l0 g_5 z<|az.at0 z)<|dR z z (c_e d_5 d_3 z) ?_
 iterate 3 refine dM z z z ?_
 obtain ⟨_,aB,al⟩:=bdS ak;refine dRX z z (rX o_ z_5 z z a6 z z aB) ?_;rintro _ ⟨_,_,_,rfl,aC⟩;obtain ⟨_,aD,W⟩:=bdS al;refine dE z z (fc call98 z<|W_w2n aD (zt' O<|lt_ (lt_ (lt_ hl h1.s) h2.s) s4.s) aC) (.inr fun _ _ h=>l_<|h.1) ?_;rintro _ _ ⟨sg,rfl,_⟩;refine dR z z (nq z z)<|dQ z z z<|pD<|Wo<|Wc z (fun hcs=>?_) (fun hcs=>?_)
 ·refine Ws<|R z (bP (parts:=[]) (cs:=[vI 0,sl none 0 0,sl none 0 0]) L_ z z)<|Rm z<|E0 (fs0 (cur':=[vI 0,sl none 0 0,sl none 0 0]) c_ z z (((((h3.e G).e h1).c h2<|djs<|mm1 h3.lt G.s).e s4).e sg) z z z z) ?_
  rintro _ _ ⟨aE,aF⟩;refine Ra z<|Rw z ?_
  obtain rfl:=som<|ifT W hcs;exact Wr<|rtO<|z_ hr (q_ r_ c_ z aE z) z z ⟨bM (bup (bup (bM (bup (bup (bup (bup hh H) h5) G) h1) h2<|m1 hl) s4) sg) aF.one<|m1 hj,none,0,0,[],none,0,0,[],z,ii z,onL,onL,hp,ii z,nd0,al0⟩
 refine Wk<|Ws<|R z (lN (vs:=[vI rk.number,sl aa nb cc,sl ad ne cf]) r_ c_ z z fid<|((a4.e s4).e sg).row 0 3 z)<|Rm z<|R z (add_ z z)<|E0 (fs0 (cur':=[vI rk.number,sl aa nb cc,sl ad ne cf]) c_ z z (((((h3.e G).e h1).c h2<|djs<|mm1 h3.lt G.s).e s4).e sg) z z z z) ?_
 rintro _ _ ⟨aG,aH⟩;have ht:=aH.one;refine Ra z<|Rw z ?_
 obtain rfl:=som<|ifF W hcs;exact Wr<|z_ hr (q_ r_ c_ z aG z) z z ⟨bM (bup (bup (bM (bup (bup (bup (bup hh H) h5) G) h1) h2<|m1 hl) s4) sg) ht<|m1 hj,aa,nb,cc,a0,ad,ne,cf,a1,z,a2,((((hn.e h1).c h2<|ds<|mnr<|a_.lt hn).e s4).e sg).c ht<|n_ (al_ h6) h3.lt lr,((((ho.e h1).c h2<|ds<|mnr<|a_.lt ho).e s4).e sg).c ht<|n_ (ar_ h6) h3.lt lr,iA _ _,ii z,na_ (nl_ hi) (nr_ hi)<|nj hi,aa_ (p_ (al_ h6) J)<|p_ (ar_ h6) J⟩
theorem c_Q:∀n,e_V n
  | 0=>⟨⟨fun hm=>by intros;exact nomatch (show none=some _ from hm)⟩,⟨fun hm=>by intros;exact nomatch (show none=some _ from hm)⟩,⟨fun hm=>by intros;exact nomatch (show none=some _ from hm)⟩,⟨fun hm=>by intros;exact nomatch (show none=some _ from hm)⟩,⟨fun hm=>by intros;exact nomatch (show none=some _ from hm)⟩⟩
  | n+1=>⟨T_w01<|c_Q n,T_w1b<|c_Q n,T_w1c<|c_Q n,T_w1d<|c_Q n,T_w1e<|c_Q n⟩
theorem g_1:j_q (a_m n).spec_l11Read:=(c_Q n).1
theorem W_w1b:j_r (a_m n).spec_l11Items:=(c_Q n).2.1
theorem W_w1c:j_s (a_m n).spec_l11Choice:=(c_Q n).2.2.1
theorem W_w1d:j_t (a_m n).spec_l11Option:=(c_Q n).2.2.2.1
theorem W_w1e:j_u (a_m n).spec_l11Checked:=(c_Q n).2.2.2.2
theorem j_v {x1:b_}{x2:Int}{x3:List UInt8}{x4:Int}{res:Val×Int×Int}(hm:h_d n x1 x2 x3 x4=some res)(L:B<=w0.z)(W:repS w0 B (sl A0 N0 C0) x1.rules)(Y:inI x2)(J:repS w0 B (sl A7 N7 C7) x3)(a0:inI x4):i_ prog 30 [(.agg #[sl A0 N0 C0]),vI x2,sl A7 N7 C7,vI x4] w0 (Q9 w0 B res):=by
 unfold h_d at hm
 refine goG func30 z z z fun fn hr=>Ws<|E z (fb z) ?_
 rintro _ O ⟨rfl,hg⟩;have h3:=hg.below;have hh:Blk O w0.z [sl A0 N0 C0]:=hg.blk;refine E z (fa J_) ?_;rintro _ V ⟨rfl,hi⟩;have h4:=hi.below;have h6:Blk V O.z [vI 0,sl none 0 0,sl none 0 0]:=hi.blk;refine Ra z<|Rw z<|Wq<|Wq ?_
 obtain ⟨uy,huz,hmj⟩:=bdS hm;refine Wt (fun a w=>∃(xa:Bool),xa=uy/\Sat 36 [(1,vI x2),(2,sl A7 N7 C7),(3,vI x4),(4,pt w0.z),(8,pt O.z),(26,vB xa)] a/\Below V.z V w) ?_ ?_
 ·refine Wg<|R z (lN (vs:=[sl A0 N0 C0]) w_ u_ z z fid<|(hh.e h4).row 0 1 z)<|Rm z ?_
  have hk:=(h3.ag B).e h4;have hl:=lt_ h3.s h4.s;obtain ⟨a2,a3,hmm⟩:=bdS huz;refine E z (fc call59 z<|j_p a3 (zt' L hl) (W.g hk) Y) ?_;rintro _ _ ⟨s5,rfl⟩;refine R z (not_ z)<|Rm z ?_
  rcases bs (!a2) with G | G
  ·iterate 5 refine Nh z G ?_
   exact R z (pT z G z)<|Rm z<|Nh z z<|Nh z z<|Nh z z<|R z (pT z z z)<|Wl (fun _ q=>⟨true,som<|ifT hmm G,q.k<|s6 z z z z z z,s5⟩)
  refine Rh z G (mv z)<|Rh z G (mv z) ?_
  have hn:=hk.e s5;have ho:=J.g hn;refine Rh z G (lnR o_ z ho) ?_;obtain ⟨a4,a5,hmp⟩:=bdS<|ifF hmm G;refine Eg z z G z (fc call60 z<|b_m a5 (zt' L<|lt_ hl s5.s) a0 (ii z)<|b_D<|repS.len ho) ?_;rintro _ _ ⟨sb,rfl⟩;refine Rh z G (not_ z)<|R z (pF z G z)<|Rm z ?_
  rcases bs (!a4) with H | H
  ·iterate 3 refine Nh z H ?_
   exact R z (pT z H z)<|Wl (fun _ q=>⟨true,som<|ifT hmp H,q.k<|s6 z z z z z z,bup s5 sb⟩)
  exact Rh z H (mv z)<|Rh z H (lnR o_ z<|J.g<|hn.e sb)<|Rh z H (a_i z z)<|R z (pF z H z)<|Wl (fun _ q=>⟨decide<|400<(x3.length:Int),som<|ifF hmp H,q.k<|s6 z z z z z z,bup s5 sb⟩)
 rintro a6 _ ⟨xa,rfl,_,s2⟩;revert a6;refine Wo<|Wc z (fun hcc=>?_) (fun hcc=>?_)
 ·refine Ws<|R z (bP (parts:=[]) (cs:=[vI 0,sl none 0 0,sl none 0 0]) L_ z z)<|E0 (fs0 (cur':=[vI 0,sl none 0 0,sl none 0 0]) c_ z z (h6.e s2) z z z z) ?_
  rintro _ _ ⟨a7,a8⟩;refine Ra z<|Rw z ?_
  obtain rfl:=som<|ifT hmj hcc;exact Wr<|z_ hr (q_ r_ c_ z a7 z) z z ⟨bM (bup (bup h3 h4) s2) a8.one<|m1 h3.s,none,0,0,[],none,0,0,[],z,ii z,onL,onL,ii z,ii z,nd0,al0⟩
 refine Wk<|Ws<|R z (lN (vs:=[sl A0 N0 C0]) w_ u_ z z fid<|((hh.e h4).e s2).row 0 1 z)<|RM z z<|Rm z ?_
 have hq:=((h3.ag B).e h4).e s2;have hd:=lt_ (lt_ h3.s h4.s) s2.s;obtain ⟨a9,_,_,aa,a1⟩:=I_<|ifF hmj hcc;refine E z (fc call34 z<|g_1.run aa (zt' L hd) (W.g hq) Y (J.g hq) a0) ?_;rintro _ _ ⟨sr,au,ns,ct,ab,av,nw,cx,ad,rfl,ae,af,ah,ai,aj,he,I⟩
 iterate 3 refine Re z z z ?_
 refine E0 (fs0 (cur':=[vI a9.number,sl au ns ct,sl av nw cx]) c_ z z ((h6.e s2).e sr) z z z z) ?_;rintro _ _ ⟨ak,al⟩;have hf:=al.one;refine Ra z<|Rw z ?_
 obtain rfl:=som a1;exact Wr<|z_ hr (q_ r_ c_ z ak z) z z ⟨bM (bup (bup (bup h3 h4) s2) sr) hf<|m1 h3.s,au,ns,ct,ab,av,nw,cx,ad,z,ae,af.c hf<|n_ (al_ I) h6.lt s2.s,ah.c hf<|n_ (ar_ I) h6.lt s2.s,ai,aj,na_ (nl_ he) (nr_ he)<|nj he,aa_ (p_ (al_ I) hd)<|p_ (ar_ I) hd⟩
theorem W_w1f {x1:b_}{x2:List UInt8}{res:Val×Int×Int}(hm:f_D n x1 x2=some res)(W:B<=w0.z)(V:repS w0 B (sl A0 N0 C0) x1.rules)(Y:repS w0 B (sl A6 N6 C6) x2):i_ prog 13 [(.agg #[sl A0 N0 C0]),sl A6 N6 C6] w0 (Q9 w0 B res):=by
 unfold f_D at hm
 refine goG func13 z z z fun fn hr=>Ws<|E z (fb z) ?_
 rintro _ wl ⟨rfl,ao⟩;have h2:=ao.below;have hv:Blk wl w0.z [sl A0 N0 C0]:=ao.blk;refine E z (fa J_) ?_;rintro _ I ⟨rfl,ap⟩;have h1:=ap.below;have hn:Blk I wl.z [vI 0,sl none 0 0,sl none 0 0]:=ap.blk;refine Ra z<|Rw z<|Wq ?_
 obtain ⟨bn,ak,bh⟩:=bdS hm;refine Wt (fun a w=>∃(xb:Int)(xw:List UInt8)(xx:List Val)(xc:Int)(xd:Int),(xb,xw,xx,xc,xd)=bn/\∃ae nf cg J ah ni cj L O,Sat 32 [(1,sl A6 N6 C6),(4,pt wl.z),(7,pt O),(8,vI xc),(9,vI xd)] a/\Below I.z I w/\inI xb/\a_ w J (sl ae nf cg) xw/\J.Nodup/\(∀k∈J,I.z<=k)/\a_ w L (sl ah ni cj) xx/\L.Nodup/\(∀k∈L,I.z<=k)/\(∀k∈L,k∉J)/\inI xc/\inI xd/\Blk w O [vI xb,sl ae nf cg,sl ah ni cj]/\I.z<=O/\(∀k∈J,k∉[O])/\(∀k∈L,k∉[O])) ?_ ?_
 ·refine Wd (X:=fun k=>k∈([]:List Nat)∨I.z<=k) 0 (.rd 0<|.rd 1<|.rd 3<|.br 2 (.br 4 (.rd 5<|.rd 6<|.rd 7<|.rd 8<|.ef 9<|.ef 10<|.rd 11<|.rd 12 .done) 9<|.ef 4<|.rd 5<|.rd 6<|.rd 7<|.rd 8<|.ef 10<|.rd 11<|.rd 12 .done) 9<|.ef 2<|.ef 4<|.rd 5<|.rd 6<|.rd 7<|.rd 8<|.ef 10<|.rd 11<|.rd 12 .done) mo (by kernel_rfl) fun aq G _=>?_
  have ar:=(hv.e h1).e G;refine dR z z (lN (vs:=[sl A0 N0 C0]) w_ u_ z z (b_q nm0<|Nat.lt_of_lt_of_le hv.lt h1.s)<|ar.row 0 1 z)<|dR z z (lN (vs:=[sl A0 N0 C0]) w_ u_ z z (b_q nm0<|Nat.lt_of_lt_of_le hv.lt h1.s)<|ar.row 0 1 z)<|dM z z z<|b_p ?_ ?_
  ·have hy:=((h2.ag B).e h1).e G;have hz:=lt_ (lt_ h2.s h1.s) G.s;obtain ⟨_,bo,al⟩:=bdS ak;refine dE z z (fc call29 z<|f_Y bo (zt' W hz)<|V.g hy) (.inr fun _ _ h=>l_<|h.1) ?_;rintro _ au ⟨s4,rfl,av⟩;refine b_p ?_ ?_
   ·have aw:=hy.e s4;obtain ⟨rm,bp,bq,bt,bi⟩:=I_ al;refine dE z z (fc call30 z<|j_v bt (zt' W<|lt_ hz s4.s) (V.g aw) av (Y.g aw)<|ii z) (.inr fun _ _ h=>l_<|h.1) ?_;rintro _ ax ⟨ay,az,aA,aB,bu,aC,aD,aE,bv,rfl,bw,aF,aG,bx,bz,a1,aH⟩;refine dM z z z ?_
    iterate 3 refine dR z z (ext_ z z) ?_
    refine dE z z (fa J_) (.inr fun _ _ h=>l_<|h.2.below) ?_;rintro _ bA ⟨rfl,aI⟩;have a2:=aI.below;have a3:=lt_ G.s s4.s;have a4:=m1<|lt_ a3 ay.s
    refine dE0 z (fs0 (cur':=[vI rm.number,sl az aA aB,sl aC aD aE]) c_ z z (aI.blk:Blk bA ax.z [vI 0,sl none 0 0,sl none 0 0]) z z z z) (.inr fun _ _ h=>a_C (atp a4) h.2) ?_;rintro _ _ ⟨bB,bC⟩;have a5:=bC.one;refine dQ z z z<|dQ z z z<|pD ?_
    have aJ:=mnr<|a_.lt aF
    have aK:=mnr<|a_.lt aG
    exact fun _ q=>⟨rm.number,rm.bytes,rm.items,bp,bq,som bi,az,aA,aB,bu,aC,aD,aE,bv,ax.z,q.k<|s5 z z z z z,bM (bup (bup (bup G s4) ay) a2) a5 a4,bw,(aF.e a2).c a5<|ds aJ,nl_ a1,p_ (al_ aH) a3,(aG.e a2).c a5<|ds aK,nr_ a1,p_ (ar_ aH) a3,ds<|nj a1,bx,bz,bB,atp a4,ds aJ,ds aK⟩
   refine dE z z (fa J_) (.inr fun _ _ h=>l_<|h.2.below) ?_;rintro _ bD ⟨rfl,aL⟩;have ho:=aL.below;have a6:Blk bD au.z [vI 0,sl none 0 0,sl none 0 0]:=aL.blk;have aM:=(hy.e s4).e ho;obtain ⟨rp,bE,bF,bG,bj⟩:=I_ al;refine dE z z (fc call30 z<|j_v bG (zt' W<|lt_ (lt_ hz s4.s) ho.s) (V.g aM) av (Y.g aM)<|ii z) (.inr fun _ _ h=>l_<|h.1) ?_;rintro _ _ ⟨aN,aO,aP,aQ,bH,aR,aS,aT,bI,rfl,bJ,bK,bL,bN,bO,a7,hq⟩;refine dM z z z ?_
   iterate 3 refine dR z z (ext_ z z) ?_
   have aU:=lt_ G.s s4.s;have a8:=m1 aU;refine dE0 z (fs0 (cur':=[vI rp.number,sl aO aP aQ,sl aR aS aT]) c_ z z (a6.e aN) z z z z) (.inr fun _ _ h=>a_C (atp a8) h.2) ?_;rintro _ _ ⟨bQ,bR⟩;have a9:=bR.one;refine dQ z z z<|dQ z z z<|pD ?_
   have aV:=n_ (al_ hq) a6.lt lr;have aW:=lt_ aU ho.s;have aX:=n_ (ar_ hq) a6.lt lr;exact fun _ q=>⟨rp.number,rp.bytes,rp.items,bE,bF,som bj,aO,aP,aQ,bH,aR,aS,aT,bI,au.z,q.k<|s5 z z z z z,bM (bup (bup (bup G s4) ho) aN) a9 a8,bJ,bK.c a9 aV,nl_ a7,p_ (al_ hq) aW,bL.c a9 aX,nr_ a7,p_ (ar_ hq) aW,ds<|nj a7,bN,bO,bQ,atp a8,aV,aX⟩
  refine dE z z (fa J_) (.inr fun _ _ h=>l_<|h.2.below) ?_;rintro _ bS ⟨rfl,aY⟩;have ht:=aY.below;have aa:Blk bS aq.z [vI 0,sl none 0 0,sl none 0 0]:=aY.blk;have aZ:=(((h2.ag B).e h1).e G).e ht;have b0:=lt_ (lt_ (lt_ h2.s h1.s) G.s) ht.s;obtain ⟨_,bT,bk⟩:=bdS ak;refine dE z z (fc call29 z<|f_Y bT (zt' W b0)<|V.g aZ) (.inr fun _ _ h=>l_<|h.1) ?_;rintro _ _ ⟨s9,rfl,bU⟩;have b1:=aZ.e s9;obtain ⟨rr,bV,bW,bX,bm⟩:=I_ bk;refine dE z z (fc call30 z<|j_v bX (zt' W<|lt_ b0 s9.s) (V.g b1) bU (Y.g b1)<|ii z) (.inr fun _ _ h=>l_<|h.1) ?_;rintro _ _ ⟨b2,b3,b4,b5,bY,b6,b7,b8,bZ,rfl,c0,c1,c2,c3,c4,ab,hu⟩;refine dM z z z ?_
  iterate 3 refine dR z z (ext_ z z) ?_
  have ad:=m1 G.s;refine dE0 z (fs0 (cur':=[vI rr.number,sl b3 b4 b5,sl b6 b7 b8]) c_ z z ((aa.e s9).e b2) z z z z) (.inr fun _ _ h=>a_C (atp ad) h.2) ?_;rintro _ _ ⟨c5,c6⟩;have af:=c6.one;refine dQ z z z<|dQ z z z<|pD ?_
  have b9:=n_ (al_ hu) aa.lt s9.s;have ba:=lt_ (lt_ G.s ht.s) s9.s;have bb:=n_ (ar_ hu) aa.lt s9.s;exact fun _ q=>⟨rr.number,rr.bytes,rr.items,bV,bW,som bm,b3,b4,b5,bY,b6,b7,b8,bZ,aq.z,q.k<|s5 z z z z z,bM (bup (bup (bup G ht) s9) b2) af ad,c0,c1.c af b9,nl_ ab,p_ (al_ hu) ba,c2.c af bb,nr_ ab,p_ (ar_ hu) ba,ds<|nj ab,c3,c4,c5,atp ad,b9,bb⟩
 rintro c7 ws ⟨xb,xw,xx,xc,xd,rfl,ae,nf,cg,J,ah,ni,cj,L,O,_,sk,c8,c9,ca,bc,cb,cc,be,cd,bf,ce,cf,_,_,_⟩;revert c7;refine Wo<|Wq<|Wq ?_
 obtain ⟨ch,am,an⟩:=bdS<|un5S bh;refine Wt (fun a w=>∃(ai:Bool),ai=ch/\Sat 32 [(4,pt wl.z),(7,pt O),(8,vI xc),(9,vI xd),(26,vB ai)] a/\Below ws.z ws w) ?_ ?_
 ·refine Wg<|Rm z<|Rq z z z<|Rm z ?_
  rcases bs (xd==0) with H | H
  ·exact Rh z H (mv z)<|Rh z H (mv z)<|Rh z H (lnR o_ z<|Y.g<|((h2.ag B).e h1).e sk)<|Rh z H (lss z z)<|R z (pT z H z)<|Wl (fun _ q=>⟨decide<|xc<(x2.length:Int),som<|ifT am H,q.k<|s5 z z z z z,br ws⟩)
  iterate 4 refine Nh z H ?_
  exact R z (pF z H z)<|Wl (fun _ q=>⟨false,som<|ifF am H,q.k<|s5 z z z z z,br ws⟩)
 rintro ci _ ⟨ai,rfl,_,sa⟩;revert ci;refine Wo<|Wc z (fun a0=>?_) (fun a0=>?_)
 ·refine Ws<|R z (bP (parts:=[]) (cs:=[vI 0,sl none 0 0,sl none 0 0]) L_ z z)<|Rm z<|E0 (fs0 (cur':=[vI 0,sl none 0 0,sl none 0 0]) c_ z z ((hn.e sk).e sa) z z z z) ?_
  rintro _ _ ⟨ck,cl⟩;refine Ra z<|Rw z ?_
  obtain rfl:=som<|ifT an a0;exact Wr<|z_ hr (q_ r_ c_ z ck z) z z ⟨bM (bup (bup (bup h2 h1) sk) sa) cl.one<|m1 h2.s,none,0,0,[],none,0,0,[],z,ii z,onL,onL,bf,ii z,nd0,al0⟩
 refine Wk<|Ws<|R z (lN (vs:=[vI xb,sl ae nf cg,sl ah ni cj]) r_ c_ z z fid<|(cf.e sa).row 0 3 z)<|RM z z<|E0 (fs0 (cur':=[vI xb,sl ae nf cg,sl ah ni cj]) c_ z z ((hn.e sk).e sa) z z z z) ?_
 rintro _ _ ⟨cm,cn⟩;have aj:=cn.one;refine Ra z<|Rw z ?_
 obtain rfl:=som<|ifF an a0;have bg:=lt_ h2.s h1.s;exact Wr<|z_ hr (q_ r_ c_ z cm z) z z ⟨bM (bup (bup (bup h2 h1) sk) sa) aj<|m1 h2.s,ae,nf,cg,J,ah,ni,cj,L,z,c8,(c9.e sa).c aj<|n_ bc hn.lt lr,(cb.e sa).c aj<|n_ be hn.lt lr,bf,ce,na_ ca cc<|ds cd,aa_ (p_ bc bg)<|p_ be bg⟩
theorem W_w2o {x1:b_}{x2:List UInt8}{res:Bool}(hm:h_e n x1 x2=some res)(J:B<=w0.z)(H:repS w0 B (sl A0 N0 C0) x1.rules)(I:repS w0 B (sl A6 N6 C6) x2):i_ prog 27 [(.agg #[sl A0 N0 C0]),sl A6 N6 C6] w0 (Q7 w0 B res):=by
 unfold h_e at hm
 refine goG func27 z z z fun fn hr=>Ws<|E z (fb z) ?_
 rintro _ O ⟨rfl,h1⟩;have G:=h1.below;refine Rw z<|Ws<|R z (lN (vs:=[sl A0 N0 C0]) w_ u_ z z fid<|(h1.blk:Blk O w0.z [sl A0 N0 C0]).row 0 1 z)<|Rm z ?_
 obtain ⟨V,_,_,W,L⟩:=I_ hm;refine E z (fc call13 z<|W_w1f W (zt' J G.s) (H.e G)<|I.e G) ?_;rintro _ Y ⟨s2,aa,nb,cc,_,ad,ne,cf,_,rfl,_,_,_,_,_,_,_⟩;refine Rm z ?_
 iterate 3 refine Re z z z ?_
 refine E z (fa J_) ?_;rintro _ wg ⟨rfl,h3⟩;refine E0 (fs0 (cur':=[vI V.number,sl aa nb cc,sl ad ne cf]) c_ z z (h3.blk:Blk wg Y.z [vI 0,sl none 0 0,sl none 0 0]) z z z z) ?_;rintro _ _ ⟨_,si⟩;refine Ra z<|Rw z<|Wm z<|Rq z z z<|Rw z ?_
 obtain rfl:=som L;exact Wr<|d_ hr z ⟨bM (bup (bup G s2) h3.below) si.one<|m1<|lt_ G.s s2.s,z⟩
def Q11 (w0:World)(B:Zone)(r:Str)(v:Value)(w':World):Prop:=Bw w0 w'/\(fun G=>(Str.v G)=v/\G.b.length<=LEN) r
theorem j_w {x1:Int}{res:Str}(hm:c_I n x1=some res)(V:B<=w0.z)(O:inI x1):i_ prog 94 [vI x1] w0 (Q11 w0 B res):=by
 unfold c_I at hm
 refine goG func94 z z z fun fn hr=>Ws<|Rw z<|Wq<|Wm z<|Rq z z z<|Wx z (fun H=>?_) (fun H=>?_)
 ·refine Ws<|Rw z ?_
  obtain rfl:=som<|ifT hm H;exact Wr<|d_ hr z ⟨br w0,z,lb z⟩
 refine Wk<|Ws<|Rw z<|Wq<|Wm z<|Rw z ?_
 obtain ⟨_,huj,hmb⟩:=bdS<|ifF hm H;refine d_P (σ:=Str×Int) (ρ:=Str) (fun s a w=>un2 (fun x2 x0=>Sat 31 [(0,vI x1),(3,Str.v x2),(4,vI x0)] a/\Below w0.z w0 w/\x2.b.length<=LEN/\inI x0) s) (fun s a w=>un2 (fun x2 x0=>Sat 31 [(0,vI x1),(3,Str.v x2)] a/\Below w0.z w0 w/\x2.b.length<=LEN/\inI x0) s) (rQ prog fn<|Q11 w0 B) huj ?_ ?_ ?_ ?_
 ·exact fun _ q=>⟨q.k<|s3 z z z,br w0,lb z,O⟩
 ·rintro ⟨x2,x0⟩ _ G _ ⟨hSk,sc,h5,h6⟩ hml;have hmd:=a_G hml;refine Wu ?_ hSk;refine Wq<|Wm z<|R z (nq z z)<|Wx z (fun I=>?_) (fun I=>?_)
  ·refine Wk<|Wq<|Wb<|Wm z<|R z (k_n z z (by decide))<|Rw z<|Wq<|Wm z<|Rl z z z<|Wn ?_
   obtain ⟨um,hue,hmn⟩:=bdS<|ifT hmd I;refine Wt (fun a w=>∃(x3:Int),x3=um/\Sat 31 [(0,vI x1),(3,Str.v x2),(4,vI x0),(5,vI x3)] a/\Below G.z G w/\inI x3) ?_ ?_
   ·refine Wc z (fun J=>?_)<|fun J=>?_
    ·exact Wg<|Rm z<|R z (rd_neg z)<|Ra z<|Wl (fun _ q=>⟨f_e<|b_r x0 10,som<|ifT hue J,q.k<|s4 z z z z,br G,p_8 _⟩)
    exact a_k<|fun _ q=>⟨b_r x0 10,som<|ifF hue J,q.k<|s4 z z z z,br G,k_4 h6⟩
   rintro ao wp ⟨x3,rfl,_,sq,_⟩;revert ao;refine Wo<|Wg<|Rm z<|R z (add_ z z)<|R z (p_a d_3 d_5 z)<|E z (fS [(.tmp 21)] a_o z z z (b_V z) (lb z)<|lb z) ?_
   rintro _ wr ⟨rfl,L⟩;have W:Blk wr wp.z [(vU<|byteI<|mkB<|j_ 48 x3)]:=L.blk;refine R z (k_8 o_ d_9 d_5 z_5 z<|a_.rep<|d_k L f_6)<|Rm z ?_
   obtain ⟨xs,ef,hmt⟩:=bdS hmn;exact R z (f_a z z ef)<|Rw z<|Wg<|Rm z<|R z (rd_quo z z (by decide))<|Ra z<|Wl (fun _ q=>⟨(xs,d_S x0 10),(som hmt).symm,⟨q.k<|s3 z z z,bup (bup sc sq) L.below,i_a ef,p_7 _ _⟩⟩)
  exact We<|fun _ q=>c_v (som<|ifF hmd I).symm ⟨q.k<|s2 z z,sc,h5,h6⟩
 ·rintro ⟨x2,x0⟩ au _ rfl ⟨_,sg,h5,h6⟩;have hmv:=elL hmb;have hmh:=a_G hmv;revert au;refine Wo<|Wq<|Wm z<|Rl z z z<|Wx z (fun hca=>?_) (fun hca=>?_)
  ·refine Wm z ?_
   obtain ⟨_,ei,hmw⟩:=bdS<|ifT hmh hca;refine R z (f_a z z ei)<|Rw z ?_
   obtain rfl:=som hmw;exact Wr<|d_ hr z ⟨sg,z,i_a ei⟩
  refine Wk<|Wm z<|Rw z ?_
  obtain rfl:=som<|ifF hmh hca;exact Wr<|d_ hr z ⟨sg,z,h5⟩
 rintro _ _ _ _ rfl ⟨rfl,hqx⟩;have hmy:=elR hmb;obtain rfl:=som hmy;exact ⟨hqx,z⟩
theorem j_x {x1:e_}{x2:Int}{res:Str}(hm:d_y n x1 x2=some res)(a0:B<=w0.z)(ae:x1.name.b.length<=LEN)(af:inI x1.kind)(ah:inI x1.size)(ai:repS w0 B (sl AD ND CD) x1.bytes)(V:repS w0 B (sl A8 N8 C8) x1.names)(aj:repS w0 B (sl AE NE CE) x1.tags)(ak:repS w0 B (sl AF NF CF) x1.kids)(W:inI x2):i_ prog 58 [(.agg #[Str.v x1.name,vI x1.kind,vI x1.size,vB x1.little,sl AD ND CD,sl A8 N8 C8,sl AE NE CE,sl AF NF CF]),vI x2] w0 (Q11 w0 B res):=by
 unfold d_y at hm
 refine goG func58 z z z fun fn hr=>Ws<|E z (fb z) ?_
 rintro _ L ⟨rfl,hn⟩;have h1:=hn.below;have h6:Blk L w0.z (vR x1 AD ND CD A8 N8 C8 AE NE CE AF NF CF):=hn.blk;refine Rw z<|Wq<|Wb<|Ws<|Rf z a_e z<|R z (l0 g_3 z<|h6.at z)<|Rq z z z<|Rw z<|Wc z (fun hcd=>?_) (fun hcd=>?_)
 ·refine Wm z ?_
  obtain ⟨_,ew,hmx⟩:=bdS<|ifT hm hcd;refine E z (fc call94 z<|j_w ew (zt' a0 h1.s) W) ?_;rintro _ _ ⟨sy,rfl,hz⟩;refine Rw z ?_
  obtain rfl:=som hmx;exact Wr<|rtO<|d_ hr z ⟨bup h1 sy,z,hz⟩
 refine Wq ?_;obtain ⟨a1,hum,hmo⟩:=bdS<|ifF hm hcd;refine Wt (fun a w=>∃(xe:Bool),xe=a1/\Sat 51 [(1,vI x2),(2,pt w0.z),(11,vB xe)] a/\Below L.z L w) ?_ ?_
 ·refine Wg<|Rf z a_e z<|R z (l0 g_3 z<|h6.at z)<|Rq z z z<|Rm z ?_
  rcases bs (x1.kind==6) with G | G
  ·exact Rh z G (mv z)<|Rh z G (fd b_y z)<|Rh z G (l0 a_I z<|h6.at z)<|Rh z G (lnR T_ z<|V.e h1)<|Rh z G (lss z z)<|R z (pT z G z)<|Ra z<|Wl (fun _ q=>⟨decide<|x2<(x1.names.length:Int),som<|ifT hum G,q.k<|s3 z z z,br L⟩)
  iterate 5 refine Nh z G ?_
  exact R z (pF z G z)<|Ra z<|Wl (fun _ q=>⟨false,som<|ifF hum G,q.k<|s3 z z z,br L⟩)
 rintro a2 O ⟨xe,rfl,_,s2⟩;revert a2;refine Wo<|Wc z (fun hcf=>?_) (fun hcf=>?_)
 ·refine Ws<|Rf z b_y z<|R z (l0 a_I z<|(h6.e s2).at z)<|Rm z ?_
  obtain ⟨_,a3,Y⟩:=bdS<|ifT hmo hcf;refine RX z (at_ (α:=Str) T_ z_9 z z z (V.g<|(h1.ag B).e s2) a3) ?_;rintro _ ⟨_,_,_,rfl,a4,a5,_⟩;obtain ⟨rfl,a6⟩:=b_2 a5;refine R z (l0 g_9 z<|a4.at0 z)<|Rw z ?_
  obtain rfl:=som Y;exact Wr<|rtO<|d_ hr z ⟨bup h1 s2,z,a6⟩
 refine Wq ?_;obtain ⟨a7,hup,hmq⟩:=bdS<|ifF hmo hcf;refine Wt (fun a w=>∃(xg:Bool),xg=a7/\Sat 51 [(1,vI x2),(2,pt w0.z),(27,vB xg)] a/\Below O.z O w) ?_ ?_
 ·refine Wg<|Rf z a_e z<|R z (l0 g_3 z<|(h6.e s2).at z)<|Rq z z z<|Rm z ?_
  rcases bs (x1.kind==7) with H | H
  ·exact Rh z H (mv z)<|Rh z H (eql z z)<|R z (pT z H z)<|Ra z<|Wl (fun _ q=>⟨x2==0,som<|ifT hup H,q.k<|s3 z z z,br O⟩)
  exact Nh z H<|Nh z H<|R z (pF z H z)<|Ra z<|Wl (fun _ q=>⟨false,som<|ifF hup H,q.k<|s3 z z z,br O⟩)
 rintro a8 wa ⟨xg,rfl,_,s7⟩;revert a8;refine Wo<|Wc z (fun hch=>?_) (fun hch=>?_)
 ·refine Ws<|Rw z ?_
  obtain rfl:=som<|ifT hmq hch;exact Wr<|rtO<|d_ hr z ⟨bup (bup h1 s2) s7,z,lb z⟩
 refine Wq ?_;obtain ⟨a9,hur,hms⟩:=bdS<|ifF hmq hch;refine Wt (fun a w=>∃(xi:Bool),xi=a9/\Sat 51 [(1,vI x2),(2,pt w0.z),(35,vB xi)] a/\Below wa.z wa w) ?_ ?_
 ·refine Wg<|Rf z a_e z<|R z (l0 g_3 z<|((h6.e s2).e s7).at z)<|Rq z z z<|Rm z ?_
  rcases bs (x1.kind==8) with I | I
  ·exact Rh z I (mv z)<|Rh z I (eql z z)<|R z (pT z I z)<|Ra z<|Wl (fun _ q=>⟨x2==0,som<|ifT hur I,q.k<|s3 z z z,br wa⟩)
  exact Nh z I<|Nh z I<|R z (pF z I z)<|Ra z<|Wl (fun _ q=>⟨false,som<|ifF hur I,q.k<|s3 z z z,br wa⟩)
 rintro aa wb ⟨xi,rfl,_,sc⟩;revert aa;refine Wo<|Wc z (fun hcj=>?_) (fun hcj=>?_)
 ·refine Ws<|Rw z ?_
  obtain rfl:=som<|ifT hms hcj;exact Wr<|rtO<|d_ hr z ⟨bup (bup (bup h1 s2) s7) sc,z,lb z⟩
 refine Wq ?_;obtain ⟨ab,hut,hmu⟩:=bdS<|ifF hms hcj;refine Wt (fun a w=>∃(xk:Bool),xk=ab/\Sat 51 [(43,vB xk)] a/\Below wb.z wb w) ?_ ?_
 ·refine Wg<|Rf z a_e z<|R z (l0 g_3 z<|(((h6.e s2).e s7).e sc).at z)<|Rq z z z<|Rm z ?_
  rcases bs (x1.kind==9) with J | J
  ·exact Rh z J (mv z)<|Rh z J (eql z z)<|R z (pT z J z)<|Ra z<|Wl (fun _ q=>⟨x2==0,som<|ifT hut J,q.k<|s1 z,br wb⟩)
  exact Nh z J<|Nh z J<|R z (pF z J z)<|Ra z<|Wl (fun _ q=>⟨false,som<|ifF hut J,q.k<|s1 z,br wb⟩)
 rintro ad _ ⟨xk,rfl,_,sv⟩;revert ad;refine Wo<|Wc z (fun hcl=>?_) (fun hcl=>?_)
 ·refine Ws<|Rw z ?_
  obtain rfl:=som<|ifT hmu hcl;exact Wr<|rtO<|d_ hr z ⟨bup (bup (bup (bup h1 s2) s7) sc) sv,z,lb z⟩
 refine Wk<|Ws<|Rw z ?_
 obtain rfl:=som<|ifF hmu hcl;exact Wr<|d_ hr z ⟨bup (bup (bup (bup h1 s2) s7) sc) sv,z,lb z⟩
def Q12 (w0:World)(B:Zone)(r:(List k_)×Int)(v:Value)(w':World):Prop:=Bw w0 w'/\un2 (fun L G=>∃H I J S1,v = .tuple #[sl H I J,vI G]/\a_ w' S1 (sl H I J) L/\inI G/\S1.Nodup/\(∀k∈S1,w0.z<=k)) r
structure j_y (f:b_->Int->(List UInt8)->Int->Str->Option ((List k_)×Int)):Prop where
  run:∀{A0 A7:Option Addr}{N0 C0 N7 C7:Nat}{B:Zone}{x1:b_}{x2:Int}{x3:List UInt8}{x4:Int}{x5:Str}{res:(List k_)×Int}{w0:World}(hm:f x1 x2 x3 x4 x5=some res)(hBw:B<=w0.z)(p1_0:repS w0 B (sl A0 N0 C0) x1.rules)(p2_0:inI x2)(p3_0:repS w0 B (sl A7 N7 C7) x3)(p4_0:inI x4)(p5_0:x5.b.length<=LEN),i_ prog 28 [(.agg #[sl A0 N0 C0]),vI x2,sl A7 N7 C7,vI x4,Str.v x5] w0<|Q12 w0 B res
abbrev l_q (n:Nat):Prop:=j_y (e_g n).spec_l19Build
theorem T_w0a (bB:l_q n):j_y (h_H n<|e_g n):=by
 constructor
 intro A0 A7 N0 C0 N7 C7 B x1 x2 x3 x4 x5 res w0 hm V W aB ak Y bc;unfold h_H at hm
 refine goG func28 z z z fun fn hr=>Ws<|E z (fb z) ?_
 rintro _ wi ⟨rfl,aG⟩;have hn:=aG.below;have ho:Blk wi w0.z [sl A0 N0 C0]:=aG.blk;refine Ra z<|Rw z<|Ws<|Rf z a_9 z<|R z (l0 a_d z<|ho.at z)<|Rm z ?_
 obtain ⟨xj,bC,be⟩:=bdS hm;refine RX z (at_ (α:=e_) a_0 m_ z z z (W.e hn) bC) ?_;rintro _ ⟨_,_,_,rfl,bD,bE,_⟩;obtain ⟨az,a1,a2,a3,a4,a5,a6,a7,a8,aa,ab,ad,rfl,aH,aI,aJ,aK,aL,aM,ao⟩:=a_w bE;refine R z (lN (vs:=vR xj az a1 a2 a3 a4 a5 a6 a7 a8 aa ab ad) G_ m_ z z fid bD)<|E z (fa b_l) ?_
 rintro _ bF ⟨rfl,aN⟩;have hg:=aN.below;have ap:Blk bF wi.z [(Str.v (⟨[]⟩:Str)),vI 0,vI 0,vB false,sl none 0 0,sl none 0 0,sl none 0 0,sl none 0 0]:=aN.blk;refine E0 (fs0 (cur':=vR xj az a1 a2 a3 a4 a5 a6 a7 a8 aa ab ad) m_ z z ap z z z z) ?_;rintro _ _ ⟨bG,bH⟩;have hd:=bH.one;refine Wn<|Ws ?_
 have aq:=(ho.e hg).c hd<|djs<|mmr ho.lt
 refine R z (lN (vs:=[sl A0 N0 C0]) w_ u_ z z fid<|aq.row 0 1 z)<|RM z z<|Rm z ?_
 have ar:∀k∈[wi.z],¬B k:=or0 (f_ lr)<|t_<|zt' V hn.s;have ae:=((hn.ag B).e hg).c hd<|g_ ar
 have af:=lt_ (lt_ hn.s hg.s) hd.s;obtain ⟨bI,rh,_,bJ,bf⟩:=I_ be;refine E z (fc call34 z<|g_1.run bJ (zt' V af) (W.g ae) aB (ak.g ae) Y) ?_;rintro _ wk ⟨s6,bK,bL,bN,_,bO,bQ,bR,_,rfl,bS,_,L,aO,_,_,_⟩;refine Rm z ?_
 iterate 3 refine Re z z z ?_
 refine E z (fa J_) ?_;rintro _ bT ⟨rfl,aP⟩;have h2:=aP.below;have au:Blk bT wk.z [vI 0,sl none 0 0,sl none 0 0]:=aP.blk;refine E0 (fs0 (cur':=[vI bI.number,sl bK bL bN,sl bO bQ bR]) c_ z z au z z z z) ?_;rintro _ G ⟨aQ,bU⟩;have H:=bU.one;refine Ra z<|Rw z<|Wm z<|RM z z<|Rm z<|R z (bP (parts:=[(0,.tmp 38),(1,.tmp 39),(2,.tmp 40),(3,.tmp 41)]) (cs:=[Str.v x5,vI x2,vI x4,vI rh]) c_M z z)<|E z (fS [(.tmp 42)] e_S z z z (b_V z) (lb z)<|lb z) ?_
 rintro _ wr ⟨rfl,av⟩;have h5:=av.below;have cF:Blk wr G.z [Str.v x5,vI x2,vI x4,vI rh]:=av.blk;refine Rw z<|Wm z<|Rw z<|Wq<|Ws<|Rf z a_e z ?_
 have aR:=lt_ hd.s s6.s;have aw:=(((bG.e s6).e h2).c H<|djs<|mm1 ap.lt aR).e h5;refine R z (l0 g_3 z<|aw.at z)<|Wn<|Wb<|Wq<|Ws<|Rq z z z<|Rw z ?_
 obtain ⟨bV,aC,bg⟩:=bdS bf;refine Wt (fun a w=>∃(ax:Bool),ax=bV/\Sat 98 [(2,sl A7 N7 C7),(3,vI x4),(4,Str.v x5),(5,pt w0.z),(12,pt wi.z),(13,pt wk.z),(14,vI rh),(16,sl (some ⟨G.z,0,none⟩) 1 1),(17,vI x4),(46,vI xj.kind),(47,vB ax)] a/\Below wr.z wr w) ?_ ?_
 ·refine Wc z (fun al=>?_)<|fun al=>?_
  ·exact a_k<|fun _ q=>⟨xj.kind==5,som<|ifT aC al,q.k<|sc z<|sc z<|sc z<|sc z<|sc z<|sc z<|sc z<|sc z<|sc z<|sc z<|sc z sn,br wr⟩
  exact Wg<|Rq z z z<|Ra z<|Wl (fun _ q=>⟨xj.kind==7,som<|ifF aC al,q.k<|sc z<|sc z<|sc z<|sc z<|sc z<|sc z<|sc z<|sc z<|sc z<|sc z<|sc z sn,br wr⟩)
 rintro bW wm ⟨ax,rfl,_,s3⟩;revert bW;refine Wo ?_;obtain ⟨bX,aD,bh⟩:=bdS bg;refine Wt (fun a w=>∃(ah:Int),ah=bX/\Sat 98 [(2,sl A7 N7 C7),(4,Str.v x5),(5,pt w0.z),(12,pt wi.z),(13,pt wk.z),(14,vI rh),(16,sl (some ⟨G.z,0,none⟩) 1 1),(17,vI ah)] a/\Below wm.z wm w/\inI ah) ?_ ?_
 ·refine Wc z (fun am=>?_)<|fun am=>?_
  ·refine Wq (Wd (X:=noX) 0 (pl_ 15 [7]) mo (by kernel_rfl) fun cG sp _=>dR z z (lN (vs:=[sl A0 N0 C0]) w_ u_ z z fid<|((((((aq.e s6).e h2).c H<|djs<|mm1 ho.lt<|lt_ (lt_ hg.s hd.s) s6.s).e h5).e s3).e sp).row 0 1 z)<|dR z z (fd N_ z)<|dR z z (l0 A_ z<|((aw.e s3).e sp).at z) ?_);obtain ⟨_,bY,bi⟩:=bdS<|ifT aD am;have aS:=lt_ af s6.s;have aT:∀k∈[wk.z],¬B k:=or0 (f_ lr)<|t_<|zt' V aS;refine dRX z z (at_ (α:=Int) x_ z_3 z z z (ao.g<|(((((((hg.ag B).c hd<|g_ ar).e s6).e h2).c H<|g_ aT).e h5).e s3).e sp) bY) ?_;rintro _ ⟨_,_,_,rfl,bZ,c0,_⟩;obtain ⟨rfl,c1⟩:=O_ c0;refine dR z z (l0 g_3 z<|bZ.at0 z)<|dM z z z<|dM z z z ?_
   have aU:=(((((ae.e s6).e h2).c H<|g_ aT).e h5).e s3).e sp;obtain ⟨_,c2,_,c3,bj⟩:=I_ bi;refine dE z z (fc call57 z<|g_0 c3 (zt' V<|lt_ (lt_ (lt_ (lt_ (lt_ aS h2.s) H.s) h5.s) s3.s) sp.s) (W.g aU) c1 (ak.g aU) Y) (.inr fun _ _ h=>l_<|h.1) ?_;rintro _ _ ⟨c4,rfl,_,c5⟩;refine dM z z z ?_
   iterate 3 refine dR z z (ext_ z z) ?_
   iterate 3 refine dQ z z z ?_
   exact pD<|Wo<|Wg<|Rm z<|Ra z<|Wl (fun _ q=>⟨c2,som bj,q.k<|s8 z z z z z z z z,bup sp c4,c5⟩)
  refine Ws<|Rq z z z<|Rw z ?_
  obtain ⟨c6,aE,bk⟩:=bdS<|ifF aD am;refine Wt (fun a w=>∃(xt:Int),xt=c6/\Sat 98 [(2,sl A7 N7 C7),(4,Str.v x5),(5,pt w0.z),(12,pt wi.z),(13,pt wk.z),(14,vI rh),(16,sl (some ⟨G.z,0,none⟩) 1 1),(17,vI xt)] a/\Below wm.z wm w/\inI xt) ?_ ?_
  ·refine Wc z (fun an=>?_)<|fun an=>?_
   ·exact Wg<|Rm z<|R z (add_ z z)<|Ra z<|Wl (fun _ q=>⟨j_ x4 1,som<|ifT aE an,q.k<|s8 z z z z z z z z,br wm,iA _ _⟩)
   exact a_k<|fun _ q=>⟨x4,som<|ifF aE an,q.k<|s8 z z z z z z z z,br wm,Y⟩
  rintro c7 _ ⟨xt,rfl,_,c8,c9⟩;revert c7;exact fun _ q=>⟨xt,som bk,q.k<|s8 z z z z z z z z,c8,c9⟩
 rintro ca I ⟨ah,rfl,_,sa,cb⟩;revert ca;refine Wo<|Wq<|Ws<|Rw z ?_
 obtain ⟨_,bm,aF⟩:=bdS bh;refine Wf (σ:=(List k_)×Int) (ρ:=(List k_)×Int) (fun (aV:Nat) s a w=>un2 (fun xq xl=>∃O nb cc J,Sat 98 [(2,sl A7 N7 C7),(4,Str.v x5),(5,pt w0.z),(12,pt wi.z),(13,pt wk.z),(14,vI rh),(16,sl O nb cc),(17,vI xl),(21,vI ((aV:Nat):Int))] a/\Chg (· ∈ [G.z]) I w/\a_ w J (sl O nb cc) xq/\J.Nodup/\(∀k∈J,k∈[G.z]∨I.z<=k)/\inI xl) s) (fun s a w=>un2 (fun xq xl=>∃O nb cc J,Sat 98 [(14,vI rh),(16,sl O nb cc)] a/\Chg (· ∈ [G.z]) I w/\a_ w J (sl O nb cc) xq/\J.Nodup/\(∀k∈J,k∈[G.z]∨I.z<=k)/\inI xl) s) (rQ prog fn<|Q12 w0 B) bm ?_ ?_ ?_ ?_ ?_
 ·exact fun _ q=>⟨some ⟨G.z,0,none⟩,1,1,[G.z],q.k<|s9 z z z z z z z z z,cr [G.z] I,((d_k av<|i_4 (x:=(⟨x5,x2,x4,rh⟩:k_)) bc aB Y aO).e s3).e sa,a_b,io sr,cb⟩
 ·rintro aV ⟨xq,xl⟩ _ cd _ a0 ⟨O,nb,cc,J,bn,se,hu,hv,hw,ai⟩ bo;refine Wu ?_ bn;refine Wq<|Wm z<|Rf z Z_ z ?_
  have aW:=(((aQ.e h5).e s3).e sa).c se<|djs<|mm1 au.lt H.s
  refine R z (l0 a_2 z<|aW.at z)<|R z (lnR a_a z<|or_ ((((((L.e h2).c H<|ds<|mnr<|a_.lt L).e h5).e s3).e sa).c se<|ds<|mno (a_.lt L)<|lt_ h2.s H.s)<|a_.lt L)<|Rl z z z<|Wx z (fun _=>?_) (fun hc=>(V_ a0 hc).elim)
  refine Wk<|Wq<|Wb<|Wq (Wd (X:=noX) 0 (.rd 0<|.rd 1<|.rd 2<|.rd 3<|.rd 4<|.rd 6<|.rd 7<|.rd 8<|.rd 9<|.rd 10<|.rd 11<|.ef 5<|.ef 12<|.rd 13<|.ef 14<|.rd 15<|.rd 16<|.rd 17<|.rd 18<|.rd 19 .done) mo (by kernel_rfl) fun ce sf _=>?_)
  have aX:=lt_ (lt_ hg.s hd.s) s6.s;refine dR z z (lN (vs:=[sl A0 N0 C0]) w_ u_ z z fid<|((((((((aq.e s6).e h2).c H<|djs<|mm1 ho.lt aX).e h5).e s3).e sa).c se<|djs<|mm1 ho.lt<|lt_ (lt_ aX h2.s) H.s).e sf).row 0 1 z) ?_;have aY:=(((aw.e s3).e sa).c se<|djs<|mm1 ap.lt<|lt_ (lt_ aR h2.s) H.s).e sf;refine dR z z (lN (vs:=vR xj az a1 a2 a3 a4 a5 a6 a7 a8 aa ab ad) G_ m_ z z fid<|aY.row 0 8 z)<|dR z z (fd b_0 z)<|dR z z (l0 g_3 z<|(aW.e sf).at z) ?_
  iterate 4 refine dM z z z ?_
  obtain ⟨_,cf,bp⟩:=bdS<|a_G bo;refine dR z z (f_a z z cf)<|dR z z (lN (vs:=vR xj az a1 a2 a3 a4 a5 a6 a7 a8 aa ab ad) G_ m_ z z fid<|aY.row 0 8 z)<|dM z z z ?_
  have aZ:=lt_ af s6.s;have b0:∀k∈[wk.z],¬B k:=or0 (f_ lr)<|t_<|zt' V aZ;have b1:=lt_ (lt_ aZ h2.s) H.s;have b2:∀k∈[G.z],¬B k:=or0 (f_ lr)<|t_<|zt' V b1;have hx:=(((((((((hg.ag B).c hd<|g_ ar).e s6).e h2).c H<|g_ b0).e h5).e s3).e sa).c se<|g_ b2).e sf;have b3:=lt_ (lt_ (lt_ (lt_ (lt_ b1 h5.s) s3.s) sa.s) se.s) sf.s;obtain ⟨_,cg,bq⟩:=bdS bp;refine dE z z (fc call37 z<|d_g cg (zt' V b3) aH aI aJ (aK.g hx) (aL.g hx) (aM.g hx) (ao.g hx) bS<|ic (Nat.le_of_lt a0)<|lt_ (a_.len L) D_) (.inr fun _ _ h=>l_<|h.1) ?_;rintro _ ch ⟨ss,rfl,ci⟩;have aj:=hx.e ss;have b4:=lt_ b3 ss.s;obtain ⟨_,cj,bs⟩:=bdS bq;refine dE z z (fc call58 z<|j_x cj (zt' V b4) aH aI aJ (aK.g aj) (aL.g aj) (aM.g aj) (ao.g aj)<|ic (Nat.le_of_lt a0)<|lt_ (a_.len L) D_) (.inr fun _ _ h=>l_<|h.1) ?_;rintro _ ck ⟨sy,rfl,_⟩;obtain ⟨_,b5,bt⟩:=bdS bs;refine dR z z (f_a z z b5) ?_;have b6:=(((((((((ae.e s6).e h2).c H<|g_ b0).e h5).e s3).e sa).c se<|g_ b2).e sf).e ss).e sy;obtain ⟨_,cl,cm,bu⟩:=a_3 bt;refine dE z z (fc call28 z<|bB.run cm (zt' V<|lt_ b4 sy.s) (W.g b6) ci (ak.g b6) ai<|i_a b5) (.inr fun _ _ h=>l_<|h.1) ?_;rintro _ cn ⟨ay,_,_,_,_,rfl,co,cp,_,_⟩;refine dM z z z<|dR z z (ext_ z z)<|dR z z (ext_ z z)<|dQ z z z<|dQ z z z<|pD<|Wo<|Wm z<|Rm z ?_
  obtain ⟨cq,ct,bv⟩:=bdS bu;refine E z (fN (α:=k_) e_S ct z z ((((hu.e sf).e ss).e sy).e ay) hv<|a_.rep co) ?_;rintro _ cu ⟨b7,cv,cw,cx,rfl,cy,cz,cA,cB⟩;refine Rw z<|Wg<|Rm z<|Rw z<|Wg<|Rm z<|R z (inc_ a0 (lt_ (a_.len L) D_) z z)<|Ra z<|Wl ?_
  have b8:∀k∈J,k∈[G.z]∨I.z<=k:=or1 hw (io sr)<|M_ lr;exact fun _ q=>⟨(cq,cl),(som bv).symm,⟨cv,cw,cx,b7,q.k<|s9 z z z z z z z z z,(cM (h_ (h_ (h_ (h_ (cM (cr [G.z] I) se (io sr):Chg (· ∈ [G.z]) I cd) sf:Chg (· ∈ [G.z]) I ce) ss:Chg (· ∈ [G.z]) I ch) sy:Chg (· ∈ [G.z]) I ck) ay:Chg (· ∈ [G.z]) I cn) cy b8:Chg (· ∈ [G.z]) I cu),cz,cA,(or1 cB b8 (M_<|lt_ (lt_ (lt_ (lt_ se.s sf.s) ss.s) sy.s) ay.s):∀k∈b7,k∈[G.z]∨I.z<=k),cp⟩⟩
 ·rintro ⟨xq,xl⟩ _ cC ⟨O,nb,cc,J,bw,aA,hu,hv,hw,ai⟩;refine Wu ?_ bw;refine Wq<|Wm z<|Rf z Z_ z<|R z (l0 a_2 z<|((((aQ.e h5).e s3).e sa).c aA<|djs<|mm1 au.lt H.s).at z)<|R z (lnR a_a z<|or_ ((((((L.e h2).c H<|ds<|mnr<|a_.lt L).e h5).e s3).e sa).c aA<|ds<|mno (a_.lt L)<|lt_ h2.s H.s)<|a_.lt L)<|Rl z z z<|Wx z (fun hc=>(W_ hc).elim) (fun _=>?_)
  exact We<|fun _ q=>⟨rfl,⟨O,nb,cc,J,q.k<|s2 z z,(cM (cr [G.z] I) aA (io sr):Chg (· ∈ [G.z]) I cC),hu,hv,(or1 hw (io sr) (M_ lr):∀k∈J,k∈[G.z]∨I.z<=k),ai⟩⟩
 ·rintro ⟨xq,xl⟩ cD _ rfl ⟨O,nb,cc,J,_,cE,hu,hv,hw,ai⟩;have bx:=elL aF;revert cD;refine Wo<|Wm z<|Rm z<|Ra z<|Rw z ?_
  obtain rfl:=som<|a_G bx;have b9:=lt_ af s6.s;have ba:=lt_ (lt_ b9 h2.s) H.s;have bb:=m1 ba;exact Wr<|a_4 hr z z ⟨bM (bup (bup (bup (bM (bup (bup (bM (bup hn hg) hd<|m1 hn.s) s6) h2) H<|m1 b9) h5) s3) sa) cE bb,O,nb,cc,J,z,hu,aO,hv,a_E hw bb<|lt_ (lt_ (lt_ ba h5.s) s3.s) sa.s⟩
 rintro _ _ _ _ rfl ⟨rfl,bz⟩;have bA:=elR aF;obtain rfl:=som bA;exact ⟨bz,z⟩
theorem A_w0a:∀n,l_q n
  | 0=>⟨fun hm=>by intros;exact nomatch (show none=some _ from hm)⟩
  | n+1=>T_w0a<|A_w0a n
theorem W_w0a:j_y (e_g n).spec_l19Build:=A_w0a n
def Q13 (w0:World)(B:Zone)(r:(List k_)×Bool)(v:Value)(w':World):Prop:=Bw w0 w'/\un2 (fun J L=>∃G H I S1,v = .tuple #[sl G H I,vB L]/\a_ w' S1 (sl G H I) J/\S1.Nodup/\(∀k∈S1,w0.z<=k)) r
theorem W_w2p {x1:b_}{x2:List UInt8}{res:(List k_)×Bool}(hm:h_I n x1 x2=some res)(I:B<=w0.z)(H:repS w0 B (sl A0 N0 C0) x1.rules)(L:repS w0 B (sl A6 N6 C6) x2):i_ prog 12 [(.agg #[sl A0 N0 C0]),sl A6 N6 C6] w0 (Q13 w0 B res):=by
 unfold h_I at hm
 refine goG func12 z z z fun fn hr=>Ws<|E z (fb z) ?_
 rintro _ wd ⟨rfl,h5⟩;have G:=h5.below;have h6:Blk wd w0.z [sl A0 N0 C0]:=h5.blk;refine Ra z<|Rw z<|Wq<|Ws<|R z (lN (vs:=[sl A0 N0 C0]) w_ u_ z z fid<|h6.row 0 1 z)<|Rm z ?_
 obtain ⟨_,ee,O⟩:=bdS hm;refine E z (fc call27 z<|W_w2o ee (zt' I G.s) (H.e G)<|L.e G) ?_;rintro _ wf ⟨s1,rfl⟩;refine R z (not_ z)<|Wx z (fun J=>?_) (fun J=>?_)
 ·refine Ws<|E z (f0 (α:=k_) e_S) ?_
  rintro _ _ ⟨ah,ng,ci,rfl,sj,hk⟩;refine Ra z<|Rw z ?_
  obtain rfl:=som<|ifT O J;exact Wr<|a_4 hr z z ⟨bup (bup G s1) sj,ah,ng,ci,[wf.z],z,hk,a_b,m1<|lt_ G.s s1.s⟩
 refine Wk<|Wq (Wd (X:=noX) 0 (.rd 0<|.rd 1<|.rd 3<|.ef 2<|.ef 4<|.rd 5<|.rd 6<|.rd 7<|.rd 8<|.rd 9 .done) mo (by kernel_rfl) fun Y s2 _=>?_)
 have V:=(h6.e s1).e s2;refine dR z z (lN (vs:=[sl A0 N0 C0]) w_ u_ z z fid<|V.row 0 1 z)<|dR z z (lN (vs:=[sl A0 N0 C0]) w_ u_ z z fid<|V.row 0 1 z)<|dM z z z ?_
 have W:=((G.ag B).e s1).e s2;have ha:=lt_ (lt_ G.s s1.s) s2.s;obtain ⟨_,el,hmm⟩:=bdS<|ifF O J;refine dE z z (fc call29 z<|f_Y el (zt' I ha)<|H.g W) (.inr fun _ _ h=>l_<|h.1) ?_;rintro _ _ ⟨s4,rfl,hn⟩;have hb:=W.e s4;have hc:=lt_ ha s4.s;obtain ⟨_,_,eo,hmp⟩:=a_3 hmm;refine dE z z (fc call28 z<|W_w0a.run eo (zt' I hc) (H.g hb) hn (L.g hb) (ii z)<|lb z) (.inr fun _ _ h=>l_<|h.1) ?_;rintro _ _ ⟨sq,ar,ns,ct,Su,rfl,hv,_,hw,hx⟩;refine dM z z z<|dR z z (ext_ z z)<|dR z z (ext_ z z)<|dQ z z z<|dQ z z z<|pD<|Wo<|Wm z<|Ra z<|Rw z ?_
 obtain rfl:=som hmp;exact Wr<|a_4 hr z z ⟨bup (bup (bup (bup G s1) s2) s4) sq,ar,ns,ct,Su,z,hv,hw,p_ hx hc⟩
theorem W_w2q {x1:Str}{x2:UInt8}{res:(List Str)}(hm:g_X n x1 x2=some res)(aM:B<=w0.z)(Y:x1.b.length<=LEN):i_ prog 61 [Str.v x1,vU<|byteI x2] w0 (Q2 w0 B res):=by
 unfold g_X at hm
 refine goG func61 z z z fun fn hr=>Ws<|Rw z<|Ws<|E z (f0 (α:=Str) b_C) ?_
 rintro _ H ⟨ah,aj,ak,rfl,ss,al⟩;refine Rw z<|Ws<|Rw z<|Wq<|Ws<|Rw z ?_
 obtain ⟨_,a4,hmr⟩:=bdS hm;refine d_P (σ:=(List Str)×Int×Int) (ρ:=List Str) (fun s a w=>un3 (fun W V x3=>∃a2 J L G,Sat 36 [(0,Str.v x1),(1,vU<|byteI x2),(5,sl a2 J L),(6,vI V),(7,vI x3)] a/\Chg (· ∈ [w0.z]) H w/\a_ w G (sl a2 J L) W/\G.Nodup/\(∀k∈G,k∈[w0.z]∨H.z<=k)/\inI V/\inI x3) s) (fun s a w=>un3 (fun W V x3=>∃a2 J L G,Sat 36 [(5,sl a2 J L)] a/\Chg (· ∈ [w0.z]) H w/\a_ w G (sl a2 J L) W/\G.Nodup/\(∀k∈G,k∈[w0.z]∨H.z<=k)/\inI V/\inI x3) s) (rQ prog fn<|Q2 w0 B) a4 ?_ ?_ ?_ ?_
 ·exact fun _ q=>⟨ah,aj,ak,[w0.z],q.k<|s5 z z z z z,cr [w0.z] H,al,a_b,io sr,ii z,ii z⟩
 ·rintro ⟨W,V,x3⟩ _ wa _ ⟨a2,J,L,G,a5,sm,hc,hd,hf,hl,hv⟩ a6;have hmw:=c_Z a6;refine Wu ?_ a5;refine Wq<|Wm z<|Rm z<|R z (lnT d_9 z)<|R z (b_P z z)<|Wx z (fun hcn=>?_) (fun hcn=>?_)
  ·refine Wk<|Wq<|Wb<|Wq ?_
   obtain ⟨am,hux,a7⟩:=bdS<|ifT hmw hcn;refine Wt (fun a w=>∃(xo:Bool),xo=am/\Sat 36 [(0,Str.v x1),(1,vU<|byteI x2),(5,sl a2 J L),(6,vI V),(7,vI x3),(25,vB xo)] a/\Below wa.z wa w) ?_ ?_
   ·refine Wg<|RM z z<|R z (lnT d_9 z)<|Rq z z z<|Rm z ?_
    rcases bs (x3==(x1.b.length:Int)) with I | I
    ·iterate 5 refine Nh z I ?_
     exact R z (pT z I z)<|Wl (fun _ q=>⟨true,som<|ifT hux I,q.k<|s6 z z z z z z,br wa⟩)
    refine Rh z I (mv z)<|Rh z I (mv z) ?_
    obtain ⟨an,ey,a8⟩:=bdS<|ifF hux I;exact Rh z I (c_4 d_9 z z (a_z ey).1 (a_z ey).2.1)<|Rh z I (mv z)<|Rh z I (eql z z)<|R z (pF z I z)<|Wl (fun _ q=>⟨(byteI an)==(byteI x2),som a8,q.k<|s6 z z z z z z,br wa⟩)
   rintro ao O ⟨xo,rfl,_,sg⟩;revert ao;refine Wo ?_;obtain ⟨ap,huz,a9⟩:=bdS a7;refine Wt (fun a w=>∃(xh:List Str)(xe:Int),(xh,xe)=ap/\∃ai nj ck Sb,Sat 36 [(0,Str.v x1),(1,vU<|byteI x2),(5,sl ai nj ck),(6,vI xe),(7,vI x3)] a/\Chg (· ∈ G) O w/\a_ w Sb (sl ai nj ck) xh/\Sb.Nodup/\(∀k∈Sb,k∈G∨O.z<=k)/\inI xe) ?_ ?_
   ·refine Wc z (fun hcp=>?_)<|fun hcp=>?_
    ·refine Wm z<|RM z z<|Rm z ?_
     obtain ⟨aq,eq,aa⟩:=bdS<|ifT huz hcp;refine R z (k_i d_9 z z z Y eq)<|E z (fS [(.tmp 30)] b_C z z z (b_V z) (lb z)<|lb z) ?_
     rintro _ a0 ⟨rfl,ht⟩;have hu:=ht.below;have aN:=d_k ht<|c_t<|f_b eq Y
     obtain ⟨ar,au,ab⟩:=bdS aa;refine E z (c_u (α:=Str) b_C au z z ((hc.e sg).e hu) hd (ht.blk:Blk a0 O.z [Str.v aq]) (c_t<|f_b eq Y) an_ a_x) ?_;rintro _ av ⟨a1,aw,ax,ay,rfl,az,aA,aB,aC⟩;refine Rw z<|Wg<|Rm z<|R z (add_ z z)<|Ra z<|Wl ?_
     exact fun _ q=>⟨ar,j_ x3 1,som ab,aw,ax,ay,a1,q.k<|s5 z z z z z,(cM (h_ (cr G O) hu:Chg (· ∈ G) O a0) az (io sr):Chg (· ∈ G) O av),aA,aB,(or2 aC (io sr) an_ (M_ hu.s):∀k∈a1,k∈G∨O.z<=k),iA _ _⟩
    exact a_k<|fun _ q=>⟨W,V,som<|ifF huz hcp,a2,J,L,G,q.k<|s5 z z z z z,cr G O,hc.e sg,hd,io sr,hl⟩
   rintro aD aE ⟨xh,xe,rfl,ai,nj,ck,Sb,_,aF,aG,aH,aI,aJ⟩;revert aD;refine Wo<|Wg<|Rm z<|R z (add_ z z)<|Ra z<|Wl ?_
   have a3:∀k∈G,k∈[w0.z]∨H.z<=k:=or1 hf (io sr)<|M_ lr;exact fun _ q=>⟨(xh,xe,j_ x3 1),(som<|a_G a9).symm,⟨ai,nj,ck,Sb,q.k<|s5 z z z z z,(cM (h_ (cM (cr [w0.z] H) sm (io sr):Chg (· ∈ [w0.z]) H wa) sg:Chg (· ∈ [w0.z]) H O) aF a3:Chg (· ∈ [w0.z]) H aE),aG,aH,(or1 aI a3 (M_<|lt_ sm.s sg.s):∀k∈Sb,k∈[w0.z]∨H.z<=k),aJ,iA _ _⟩⟩
  exact We<|fun _ q=>c_v (som<|ifF hmw hcn).symm ⟨a2,J,L,G,q.k<|s1 z,(cM (cr [w0.z] H) sm (io sr):Chg (· ∈ [w0.z]) H wa),hc,hd,(or1 hf (io sr) (M_ lr):∀k∈G,k∈[w0.z]∨H.z<=k),hl,hv⟩
 ·rintro ⟨W,V,x3⟩ aK _ rfl ⟨a2,J,L,G,_,aL,hc,hd,hf,hl,hv⟩;have ad:=elL hmr;revert aK;refine Wo<|Wm z<|Rw z ?_
  obtain rfl:=som<|c_Z ad;exact Wr<|d_ hr z ⟨bM ss aL<|f_ lr,a2,J,L,G,z,hc,hd,(or1 hf (f_ lr) (c_3 ss.s):∀k∈G,w0.z<=k)⟩
 rintro _ _ _ _ rfl ⟨rfl,ae⟩;have af:=elR hmr;obtain rfl:=som af;exact ⟨ae,z⟩
def Q14 (w0:World)(B:Zone)(r:Int×Bool)(v:Value)(w':World):Prop:=Bw w0 w'/\un2 (fun G H=>v = .tuple #[vI G,vB H]/\inI G) r
theorem W_w2r {x1:Str}{res:Int×Bool}(hm:g_Y n x1=some res)(I:B<=w0.z)(V:x1.b.length<=LEN):i_ prog 96 [Str.v x1] w0 (Q14 w0 B res):=by
 unfold g_Y at hm
 refine goG func96 z z z fun fn hr=>Ws<|Ra z<|Rw z<|Wq<|Wm z<|R z (lnT d_9 z) ?_
 obtain ⟨_,en,hmc⟩:=bdS hm;refine E z (fc call60 z<|b_m (B:=B) en I (b_D V) (ii z)<|ii z) ?_;rintro _ H ⟨s4,rfl⟩;refine R z (not_ z)<|Wx z (fun J=>?_) (fun J=>?_)
 ·refine Ws<|Ra z<|Rw z ?_
  obtain rfl:=som<|ifT hmc J;exact Wr<|a_4 hr z z ⟨s4,z,ii z⟩
 refine Wk<|Ws<|Rw z<|Wq<|Ws<|Rw z ?_
 obtain ⟨_,huo,hmd⟩:=bdS<|ifF hmc J;refine Wf (σ:=Int) (ρ:=Int×Bool) (fun (ke:Nat)(x0:Int) a w=>Sat 39 [(0,Str.v x1),(4,vI x0),(5,vI ((ke:Nat):Int))] a/\Below H.z H w/\inI x0) (fun (x0:Int) a w=>Sat 39 [(0,Str.v x1),(4,vI x0)] a/\Below H.z H w/\inI x0) (rQ prog fn<|Q14 w0 B) huo ?_ ?_ ?_ ?_ ?_
 ·exact fun _ q=>⟨q.k<|s3 z z z,br H,ii z⟩
 ·rintro ke x0 _ _ _ hkf ⟨hSp,s6,h3⟩ hmq;refine Wu ?_ hSp;refine Wq<|Wm z<|Rm z<|R z (lnT d_9 z)<|Rl z z z<|Wx z (fun _=>?_) (fun hc=>(V_ hkf hc).elim)
  refine Wk<|Wq<|Wb<|Wq<|Wm z<|Rm z ?_
  obtain ⟨_,eg,hmr⟩:=bdS hmq;refine R z (c_4 d_9 z z (a_z eg).1 (a_z eg).2.1)<|R z (c_e d_5 d_3 z) ?_
  obtain ⟨_,es,hmh⟩:=bdS hmr;refine E z (fc call60 z<|b_m es (zt' I<|lt_ s4.s s6.s) (l_V _) (ii z)<|ii z) ?_;rintro _ _ ⟨si,rfl⟩;refine R z (not_ z)<|Wx z (fun L=>?_) (fun L=>?_)
  ·exact Ws<|Ra z<|Rw z<|Wr<|rtO<|qL (som<|ifT hmh L).symm<|a_4 hr z z ⟨bup (bup s4 s6) si,z,ii z⟩
  refine Wk<|Wg<|Rm z<|R z (g_r z z)<|RM z z ?_
  obtain ⟨xt,ej,hmu⟩:=bdS<|ifF hmh L;exact R z (c_4 d_9 z z (a_z ej).1 (a_z ej).2.1)<|R z (l_W z z)<|R z (c_e d_5 d_3 z)<|R z (add_ z z)<|Rw z<|Wg<|Rm z<|R z (inc_ hkf (lt_ V D_) z z)<|Ra z<|Wl (fun _ q=>⟨j_ (b_g 10 x0)<|byteI<|mkB (byteI xt - byteI (48:UInt8)),(som hmu).symm,⟨q.k<|s3 z z z,bup s6 si,iA _ _⟩⟩)
 ·rintro x0 _ _ ⟨hSv,sw,h3⟩;refine Wu ?_ hSv;refine Wq<|Wm z<|Rm z<|R z (lnT d_9 z)<|Rl z z z<|Wx z (fun hc=>(W_ hc).elim) (fun _=>?_)
  exact We<|fun _ q=>⟨rfl,⟨q.k<|s2 z z,sw,h3⟩⟩
 ·rintro x0 ax O rfl ⟨_,s9,h3⟩;have hmy:=elL hmd;revert ax;refine Wo<|Wq<|Wq ?_
  obtain ⟨uz,huk,hml⟩:=bdS hmy;refine Wt (fun a w=>∃(xa:Bool),xa=uz/\Sat 39 [(4,vI x0),(37,vB xa)] a/\Below O.z O w) ?_ ?_
  ·refine Wg<|Rm z<|R z (a_i z z)<|Rm z ?_
   rcases bs (decide<|1000000000000<x0) with G | G
   ·iterate 4 refine Nh z G ?_
    exact R z (pT z G z)<|Wl (fun _ q=>⟨true,som<|ifT huk G,q.k<|s2 z z,br O⟩)
   refine Rh z G (mv z) ?_;obtain ⟨a1,a2,W⟩:=bdS<|ifF huk G;refine Eg z z G z (fc call94 z<|j_w a2 (zt' I<|lt_ s4.s s9.s) h3) ?_;rintro _ _ ⟨a3,rfl,_⟩;exact Rh z G (mv z)<|Rh z G (f_g z z)<|R z (pF z G z)<|Wl (fun _ q=>⟨a1.b != x1.b,som W,q.k<|s2 z z,a3⟩)
  rintro a4 _ ⟨xa,rfl,_,sm⟩;revert a4;refine Wo<|Wc z (fun hcb=>?_) (fun hcb=>?_)
  ·refine Ws<|Ra z<|Rw z ?_
   obtain rfl:=som<|ifT hml hcb;exact Wr<|a_4 hr z z ⟨bup (bup s4 s9) sm,z,ii z⟩
  refine Wk<|Wm z<|Ra z<|Rw z ?_
  obtain rfl:=som<|ifF hml hcb;exact Wr<|a_4 hr z z ⟨bup (bup s4 s9) sm,z,h3⟩
 rintro _ _ _ _ rfl ⟨rfl,Y⟩;have a0:=elR hmd;obtain rfl:=som a0;exact ⟨Y,z⟩
theorem W_w2s {x1:Str}{res:Bool}(hm:e_I n x1=some res)(L:B<=w0.z)(Y:x1.b.length<=LEN):i_ prog 62 [Str.v x1] w0 (Q7 w0 B res):=by
 unfold e_I at hm
 refine goG func62 z z z fun fn hr=>Ws<|Rw z<|Wq<|Wq ?_
 obtain ⟨ug,huh,hma⟩:=bdS hm;refine Wt (fun a w=>∃(x6:Bool),x6=ug/\Sat 31 [(0,Str.v x1),(18,vB x6)] a/\Below w0.z w0 w) ?_ ?_
 ·refine Wg<|Rm z ?_
  obtain ⟨ri,ej,hmb⟩:=bdS huh;refine E z (fc call95 z<|j_o (B:=B) ej L Y) ?_;rintro _ _ ⟨s4,rfl⟩;refine Rm z ?_
  rcases bs ri with H | H
  ·exact Nh z H<|Nh z H<|R z (pT z H z)<|Rm z<|Nh z z<|Nh z z<|R z (pT z z z)<|Rm z<|Nh z z<|Nh z z<|R z (pT z z z)<|Wl (fun _ q=>⟨true,som<|ifT hmb H,q.k<|s2 z z,s4⟩)
  have hmc:=ifF hmb H;refine Rh z H (mv z)<|Rh z H (a_V z z)<|R z (pF z H z)<|Rm z ?_
  rcases bs (x1.b==(⟨[42]⟩:Str).b) with I | I
  ·exact Nh z I<|Nh z I<|R z (pT z I z)<|Rm z<|Nh z z<|Nh z z<|R z (pT z z z)<|Wl (fun _ q=>⟨true,som<|ifT hmc I,q.k<|s2 z z,s4⟩)
  have hmd:=ifF hmc I;refine Rh z I (mv z)<|Rh z I (a_V z z)<|R z (pF z I z)<|Rm z ?_
  rcases bs (x1.b==(⟨[63]⟩:Str).b) with J | J
  ·exact Nh z J<|Nh z J<|R z (pT z J z)<|Wl (fun _ q=>⟨true,som<|ifT hmd J,q.k<|s2 z z,s4⟩)
  exact Rh z J (mv z)<|Rh z J (a_V z z)<|R z (pF z J z)<|Wl (fun _ q=>⟨x1.b==(⟨[43]⟩:Str).b,som<|ifF hmd J,q.k<|s2 z z,s4⟩)
 rintro ak _ ⟨x6,rfl,_,s5⟩;revert ak;refine Wo<|Wc z (fun O=>?_) (fun O=>?_)
 ·refine Ws<|Rw z ?_
  obtain rfl:=som<|ifT hma O;exact Wr<|d_ hr z ⟨s5,z⟩
 refine Wk<|Wm z ?_
 obtain ⟨_,rl,em,hmn⟩:=a_3<|ifF hma O;refine E z (fc call96 z<|W_w2r em (zt' L s5.s) Y) ?_;rintro _ V ⟨se,rfl,ho⟩;refine Rm z<|Re z z z<|Re z z z<|Ra z<|Rw z<|Wq ?_
 obtain ⟨up,huf,hmq⟩:=bdS hmn;refine Wt (fun a w=>∃(W:Bool),W=up/\Sat 31 [(2,vB W)] a/\Below V.z V w) ?_ ?_
 ·refine Wg<|RM z z ?_
  rcases bs rl with G | G
  ·refine Rh z G (mv z) ?_;obtain ⟨rr,es,hmt⟩:=bdS<|ifT huf G;refine Eg z z G z (fc call94 z<|j_w es (zt' L<|lt_ s5.s se.s) ho) ?_;rintro _ _ ⟨su,rfl,_⟩;exact Rh z G (mv z)<|Rh z G (a_V z z)<|R z (pT z G z)<|Ra z<|Wl (fun _ q=>⟨rr.b==x1.b,som hmt,q.k<|s1 z,su⟩)
  iterate 4 refine Nh z G ?_
  exact R z (pF z G z)<|Ra z<|Wl (fun _ q=>⟨false,som<|ifF huf G,q.k<|s1 z,br V⟩)
 rintro av _ ⟨W,rfl,_,sw⟩;revert av;refine Wo ?_;obtain rfl:=som hmq;exact Wr<|d_ hr z ⟨bup (bup s5 se) sw,z⟩
def Q15 (w0:World)(B:Zone)(r:(List Str)×Bool)(v:Value)(w':World):Prop:=Bw w0 w'/\un2 (fun J L=>∃G H I,v = .tuple #[sl G H I,vB L]/\repS w' (zn B w0.z w'.z) (sl G H I) J) r
theorem W_w1g {x1:Str}{res:(List Str)×Bool}(hm:f_z n x1=some res)(O:B<=w0.z)(V:x1.b.length<=LEN):i_ prog 31 [Str.v x1] w0 (Q15 w0 B res):=by
 unfold f_z at hm
 refine goG func31 z z z fun fn hr=>Ws<|Ra z<|Rw z<|Wq<|Wm z<|R z (a_V z z)<|Wx z (fun I=>?_) (fun I=>?_)
 ·refine Ws<|E z (f0 (α:=Str) b_C) ?_
  rintro _ _ ⟨aq,nr,cs,rfl,st,hc⟩;refine Ra z<|Rw z ?_
  obtain rfl:=som<|ifT hm I;exact Wr<|a_4 hr z z ⟨st,aq,nr,cs,z,or_ hc<|zin (B:=B) (f_ lr)<|a_.lt hc⟩
 refine Wk<|Wm z ?_
 obtain ⟨_,eu,hmv⟩:=bdS<|ifF hm I;refine E z (fc call61 z<|W_w2q (B:=B) eu O V) ?_;rintro _ H ⟨s3,ad,ne,cf,_,rfl,G,_,h4⟩;refine Rw z<|Wq<|Wm z ?_
 obtain ⟨_,ew,hmg⟩:=bdS hmv;refine RX z (at_ (α:=Str) T_ z_9 z z z (or_ G<|zin (B:=B) h4<|a_.lt G) ew) ?_;rintro _ ⟨_,_,_,rfl,hx,hy,_⟩;obtain ⟨rfl,_⟩:=b_2 hy;refine R z (l0 g_9 z<|hx.at0 z)<|R z (f_g z z)<|Wx z (fun J=>?_) (fun J=>?_)
 ·refine Ws<|E z (f0 (α:=Str) b_C) ?_
  rintro _ _ ⟨az,a5,a6,rfl,a7,hh⟩;refine Ra z<|Rw z ?_
  obtain rfl:=som<|ifT hmg J;exact Wr<|a_4 hr z z ⟨bup s3 a7,az,a5,a6,z,repS.mono (or_ hh<|zin (B:=B) (f_ lr)<|a_.lt hh)<|k_k s3.s lr⟩
 refine Wk<|Wq<|Ws<|Rw z ?_
 obtain ⟨_,W,hmi⟩:=bdS<|ifF hmg J;refine d_P (σ:=Int) (ρ:=(List Str)×Bool) (fun (x2:Int) a w=>Sat 34 [(4,sl ad ne cf),(5,vI x2)] a/\Below H.z H w/\inI x2) (fun (x2:Int) a w=>Sat 34 [(4,sl ad ne cf)] a/\Below H.z H w/\inI x2) (rQ prog fn<|Q15 w0 B) W ?_ ?_ ?_ ?_
 ·exact fun _ q=>⟨q.k<|s2 z z,br H,ii z⟩
 ·rintro x2 _ _ _ ⟨Y,s5,hj⟩ hmk;refine Wu ?_ Y;refine Wq<|Wm z<|Rm z ?_
  have hl:=G.e s5;refine R z (lnR T_ z<|or_ hl<|zin (B:=B) h4<|a_.lt G)<|Rl z z z<|Wx z (fun L=>?_) (fun L=>?_)
  ·refine Wk<|Wq<|Wb<|Wm z<|Rm z ?_
   obtain ⟨_,a8,a0⟩:=bdS<|ifT hmk L;refine RX z (at_ (α:=Str) T_ z_9 z z z (or_ hl<|zin (B:=B) h4<|a_.lt G) a8) ?_;rintro _ ⟨_,_,_,rfl,a9,aa,_⟩;obtain ⟨rfl,ab⟩:=b_2 aa;refine R z (l0 g_9 z<|a9.at0 z) ?_;have hn:=lt_ s3.s s5.s;obtain ⟨_,ae,hmm⟩:=bdS a0;refine E z (fc call62 z<|W_w2s ae (zt' O hn) ab) ?_;rintro _ _ ⟨s9,rfl⟩;refine R z (not_ z)<|Wx z (fun hca=>?_) (fun hca=>?_)
   ·refine Ws<|E z (f0 (α:=Str) b_C) ?_
    rintro _ _ ⟨af,ah,ai,rfl,aj,ho⟩;exact Ra z<|Rw z<|Wr<|rtO<|qL (som<|ifT hmm hca).symm<|a_4 hr z z ⟨bup (bup (bup s3 s5) s9) aj,af,ah,ai,z,repS.mono (or_ ho<|zin (B:=B) (f_ lr)<|a_.lt ho)<|k_k (lt_ hn s9.s) lr⟩
   exact Wk<|Wg<|Rm z<|R z (add_ z z)<|Ra z<|Wl (fun _ q=>⟨j_ x2 1,(som<|ifF hmm hca).symm,⟨q.k<|s2 z z,bup s5 s9,iA _ _⟩⟩)
  exact We<|fun _ q=>c_v (som<|ifF hmk L).symm ⟨q.k<|s1 z,s5,hj⟩
 ·rintro x2 ak _ rfl ⟨_,sb,hj⟩;have a1:=elL hmi;revert ak;refine Wo<|Wm z ?_
  obtain ⟨_,al,a2⟩:=bdS a1;have hp:=G.e sb;refine RX z (rX T_ z_9 z z (or_ hp<|zin (B:=B) h4<|a_.lt G) z z al) ?_;rintro _ ⟨am,an,ao,rfl,ap⟩;refine Rm z<|R z (lnR T_ z<|or_ hp<|zin (B:=B) h4<|a_.lt G)<|R z (a_i z z)<|Ra z<|Rw z ?_
  obtain rfl:=som a2;exact Wr<|a_4 hr z z ⟨bup s3 sb,am,an,ao,z,repS.mono ap<|k_k lr sb.s⟩
 rintro _ _ _ _ rfl ⟨rfl,a3⟩;have a4:=elR hmi;obtain rfl:=som a4;exact ⟨a3,z⟩
def Q16 (w0:World)(B:Zone)(r:Int×Int×Int)(v:Value)(w':World):Prop:=Bw w0 w'/\un3 (fun G H I=>v = .tuple #[vI G,vI H,vI I]/\inI G/\inI H/\inI I) r
theorem W_w2t {x1:b_}{x2:e_}{x3:List UInt8}{x4:Int}{res:Int×Int×Int}(hm:e_7 x1 x2 x3 x4=some res)(ad:B<=w0.z)(ap:repS w0 B (sl A0 N0 C0) x1.rules)(aq:x2.name.b.length<=LEN)(ar:inI x2.kind)(au:inI x2.size)(av:repS w0 B (sl A3 N3 C3) x2.bytes)(aw:repS w0 B (sl A4 N4 C4) x2.names)(ax:repS w0 B (sl A2 N2 C2) x2.tags)(W:repS w0 B (sl A5 N5 C5) x2.kids)(a0:repS w0 B (sl A7 N7 C7) x3)(V:inI x4):i_ prog 64 [(.agg #[sl A0 N0 C0]),.agg #[Str.v x2.name,vI x2.kind,vI x2.size,vB x2.little,sl A3 N3 C3,sl A4 N4 C4,sl A2 N2 C2,sl A5 N5 C5],sl A7 N7 C7,vI x4] w0 (Q16 w0 B res):=by
 unfold e_7 at hm
 refine goG func64 z z z fun fn hr=>Ws<|E z (fb z) ?_
 rintro _ wb ⟨rfl,ae⟩;have h3:=ae.below;refine E z (fb z) ?_;rintro _ H ⟨rfl,af⟩;have I:=af.below;have hf:Blk H wb.z (vR x2 A3 N3 C3 A4 N4 C4 A2 N2 C2 A5 N5 C5):=af.blk;refine RA z z<|Rw z<|Wq<|Ws<|Rf z a_e z<|R z (l0 g_3 z<|hf.at z)<|Wn<|Wb<|Ws<|Rq z z z<|Rw z<|Wc z (fun hcg=>?_) (fun hcg=>?_)
 ·refine Wq (Wd (X:=noX) 0 (pl_ 7 []) mo (by kernel_rfl) fun bh sh _=>dM z z z<|dR z z (fd N_ z)<|dR z z (l0 A_ z<|(hf.e sh).at z) ?_);have ah:=W.g<|((h3.ag B).e I).e sh
  refine dR z z (lnR x_ z ah) ?_
  iterate 3 refine dQ z z z ?_
  refine pD<|Wo ?_
  obtain rfl:=som<|ifT hm hcg;exact Wr<|rtO<|z_ hr z z z ⟨bup (bup h3 I) sh,z,V,b_D<|repS.len ah,ii z⟩
 have a1:=ifF hm hcg;refine Ws<|Rq z z z<|Rw z<|Wc z (fun hci=>?_) (fun hci=>?_)
 ·refine Wm z<|RA z z<|Rw z ?_
  obtain rfl:=som<|ifT a1 hci;exact Wr<|rtO<|z_ hr z z z ⟨bup h3 I,z,V,ii z,ii z⟩
 refine Ws<|Rq z z z<|Rw z ?_
 obtain ⟨aN,a2,hmc⟩:=bdS<|ifF a1 hci;refine Wt (fun a w=>Sum.inl ()=aN/\Sat 81 [(3,vI x4)] a/\Below H.z H w) ?_ ?_
 ·refine Wc z (fun hcj=>?_)<|fun hcj=>?_
  ·refine Wq ?_;obtain ⟨aO,a3,a4⟩:=bdS<|ifT a2 hcj;refine Wt (fun a w=>∃(xk:Bool),xk=aO/\Sat 81 [(3,vI x4),(37,vB xk)] a/\Below H.z H w) ?_ ?_
   ·refine Wg<|RM z z ?_
    have ai:=a0.g<|(h3.ag B).e I
    refine R z (lnR o_ z ai)<|Rl z z z<|Rm z ?_
    rcases bs (decide<|x4<(x3.length:Int)) with G | G
    ·refine Rh z G (mv z)<|Rh z G (mv z) ?_
     obtain ⟨aP,aQ,ay⟩:=bdS<|ifT a3 G;refine RXg z z G z (at_ (α:=UInt8) o_ z_5 z z z ai aQ) ?_;rintro _ ⟨_,_,_,rfl,aR,aS,_⟩;obtain rfl:=u8 aS;exact Rh z G (l0 g_5 z<|aR.at0 z)<|Rh z G (eql z z)<|R z (pT z G z)<|Wl (fun _ q=>⟨(byteI aP)==(byteI (1:UInt8)),som ay,q.k<|s2 z z,br H⟩)
    iterate 5 refine Nh z G ?_
    exact R z (pF z G z)<|Wl (fun _ q=>⟨false,som<|ifF a3 G,q.k<|s2 z z,br H⟩)
   rintro aT _ ⟨xk,rfl,_,aj⟩;revert aT;refine Wo<|Wc z (fun hcl=>?_) (fun hcl=>?_)
   ·refine Wm z<|R z (add_ z z)<|RA z z<|Rw z ?_
    obtain rfl:=som<|ifT a4 hcl;have az:=elR hmc;obtain rfl:=som az;exact Wr<|rtO<|z_ hr z z z ⟨bup (bup h3 I) aj,z,iA _ _,ii z,ii z⟩
   exact a_k<|fun _ q=>⟨som<|ifF a4 hcl,q.k<|s1 z,aj⟩
  refine Wq<|Ws<|Rq z z z<|Rw z ?_
  obtain ⟨aU,a5,aA⟩:=bdS<|ifF a2 hcj;refine Wt (fun a w=>∃(xm:Bool),xm=aU/\Sat 81 [(2,sl A7 N7 C7),(3,vI x4),(4,pt w0.z),(5,pt wb.z),(40,vB xm)] a/\Below H.z H w) ?_ ?_
  ·refine Wc z (fun hcn=>?_)<|fun hcn=>?_
   ·exact a_k<|fun _ q=>⟨x2.kind==5,som<|ifT a5 hcn,q.k<|s5 z z z z z,br H⟩
   exact Wg<|Rq z z z<|Ra z<|Wl (fun _ q=>⟨x2.kind==7,som<|ifF a5 hcn,q.k<|s5 z z z z z,br H⟩)
  rintro aV wo ⟨xm,rfl,_,s6⟩;revert aV;refine Wo ?_;obtain ⟨aW,a6,hmp⟩:=bdS aA;refine Wt (fun a w=>Sum.inl ()=aW/\Sat 81 [(3,vI x4)] a/\Below wo.z wo w) ?_ ?_
  ·refine Wc z (fun hcq=>?_)<|fun hcq=>?_
   ·refine Wq (Wd (X:=noX) 0 (pl_ 15 [7]) mo (by kernel_rfl) fun bi s7 _=>dR z z (lN (vs:=[sl A0 N0 C0]) w_ u_ z z fid<|((((ae.blk:Blk wb w0.z [sl A0 N0 C0]).e I).e s6).e s7).row 0 1 z)<|dR z z (fd N_ z) ?_);have ht:=(hf.e s6).e s7;refine dR z z (l0 A_ z<|ht.at z) ?_;obtain ⟨_,aX,aB⟩:=bdS<|ifT a6 hcq;have hd:=(((h3.ag B).e I).e s6).e s7;refine dRX z z (at_ (α:=Int) x_ z_3 z z z (W.g hd) aX) ?_;rintro _ ⟨_,_,_,rfl,aY,aZ,_⟩;obtain ⟨rfl,b0⟩:=O_ aZ;refine dR z z (l0 g_3 z<|aY.at0 z)<|dM z z z<|dM z z z ?_
    have ak:=lt_ (lt_ (lt_ h3.s I.s) s6.s) s7.s;obtain ⟨rr,al,_,b1,aC⟩:=I_ aB;refine dE z z (fc call57 z<|g_0 b1 (zt' ad ak) (ap.g hd) b0 (a0.g hd) V) (.inr fun _ _ h=>l_<|h.1) ?_;rintro _ O ⟨s9,rfl,hu,am⟩;refine dM z z z ?_
    iterate 3 refine dR z z (ext_ z z) ?_
    iterate 3 refine dQ z z z ?_
    refine pD<|Wo<|Wb<|Wm z<|R z (not_ z)<|Rw z ?_
    obtain ⟨b2,a7,hms⟩:=bdS aC;refine Wt (fun a w=>Sum.inl ()=b2/\Sat 81 [(3,vI x4)] a/\Below O.z O w) ?_ ?_
    ·refine Wc z (fun hcv=>?_)<|fun hcv=>?_
     ·exact a_k<|fun _ q=>⟨som<|ifT a7 hcv,q.k<|s1 z,br O⟩
     refine Wq ?_;obtain ⟨b3,a8,a9⟩:=bdS<|ifF a7 hcv;refine Wt (fun a w=>∃(xw:Bool),xw=b3/\Sat 81 [(3,vI x4),(5,pt wb.z),(11,vI rr),(12,vI al),(58,vB xw)] a/\Below O.z O w) ?_ ?_
     ·refine Wg<|Rf z a_e z<|R z (l0 g_3 z<|(ht.e s9).at z)<|Rq z z z<|Rm z ?_
      rcases bs (x2.kind==5) with L | L
      ·exact Rh z L (mv z)<|Rh z L (b_P z z)<|R z (pT z L z)<|Ra z<|Wl (fun _ q=>⟨decide<|rr<=40,som<|ifT a8 L,q.k<|s5 z z z z z,br O⟩)
      exact Nh z L<|Nh z L<|R z (pF z L z)<|Ra z<|Wl (fun _ q=>⟨false,som<|ifF a8 L,q.k<|s5 z z z z z,br O⟩)
     rintro b4 wx ⟨xw,rfl,_,sa⟩;revert b4;refine Wo<|Wc z (fun hcy=>?_) (fun hcy=>?_)
     ·refine Wm z<|Rm z<|RA z z<|Rw z ?_
      obtain rfl:=som<|ifT a9 hcy;have aD:=elR hms;obtain rfl:=som aD;have aE:=elR hmp;obtain rfl:=som aE;have aF:=elR hmc;obtain rfl:=som aF;exact Wr<|rtO<|rtO<|z_ hr z z z ⟨bup (bup (bup (bup (bup h3 I) s6) s7) s9) sa,z,am,hu,ii z⟩
     refine Wq ?_;obtain ⟨b5,aa,ab⟩:=bdS<|ifF a9 hcy;refine Wt (fun a w=>∃(xz:Bool),xz=b5/\Sat 81 [(3,vI x4),(11,vI rr),(12,vI al),(68,vB xz)] a/\Below wx.z wx w) ?_ ?_
     ·refine Wg<|Rf z a_e z ?_
      have an:=(ht.e s9).e sa;refine R z (l0 g_3 z<|an.at z)<|Rq z z z<|Rm z ?_
      rcases bs (x2.kind==7) with J | J
      ·refine Rh z J (lN (vs:=vR x2 A3 N3 C3 A4 N4 C4 A2 N2 C2 A5 N5 C5) G_ m_ z z fid<|an.row 0 8 z)<|Rh z J (mv z) ?_
       have he:=(hd.e s9).e sa;obtain ⟨b6,b7,aG⟩:=bdS<|ifT aa J;refine Eg z z J z (fc call37 z<|d_g b7 (zt' ad<|lt_ (lt_ ak s9.s) sa.s) aq ar au (av.g he) (aw.g he) (ax.g he) (W.g he) hu<|ii z) ?_;rintro _ _ ⟨b8,rfl,_⟩;exact Rh z J (b_s z z)<|R z (pT z J z)<|Ra z<|Wl (fun _ q=>⟨decide<|0<=b6,som aG,q.k<|s4 z z z z,b8⟩)
      iterate 4 refine Nh z J ?_
      exact R z (pF z J z)<|Ra z<|Wl (fun _ q=>⟨false,som<|ifF aa J,q.k<|s4 z z z z,br wx⟩)
     rintro b9 _ ⟨xz,rfl,_,ao⟩;revert b9;refine Wo<|Wc z (fun Y=>?_) (fun Y=>?_)
     ·refine Wm z<|Rm z<|RA z z<|Rw z ?_
      obtain rfl:=som<|ifT ab Y;have aH:=elR hms;obtain rfl:=som aH;have aI:=elR hmp;obtain rfl:=som aI;have aJ:=elR hmc;obtain rfl:=som aJ;exact Wr<|rtO<|rtO<|z_ hr z z z ⟨bup (bup (bup (bup (bup (bup h3 I) s6) s7) s9) sa) ao,z,am,ii z,hu⟩
     exact a_k<|fun _ q=>⟨som<|ifF ab Y,q.k<|s1 z,bup sa ao⟩
    rintro ba _ ⟨rfl,_,bb⟩;have aK:=elL hms;revert ba;exact fun _ q=>⟨som aK,q.k<|s1 z,bup (bup s7 s9) bb⟩
   exact a_k<|fun _ q=>⟨som<|ifF a6 hcq,q.k<|s1 z,br wo⟩
  rintro bc _ ⟨rfl,_,be⟩;have aL:=elL hmp;revert bc;exact fun _ q=>⟨som aL,q.k<|s1 z,bup s6 be⟩
 rintro bf _ ⟨rfl,_,bg⟩;have aM:=elL hmc;revert bf;refine Wo<|Wm z<|RA z z<|Rw z ?_
 obtain rfl:=som aM;exact Wr<|z_ hr z z z ⟨bup (bup h3 I) bg,z,V,ii z,ii z⟩
theorem W_w2u {x1:b_}{x2:Int}{x3:List UInt8}{x4:Int}{x5:Str}{res:Int×Int×Bool}(hm:c_q n x1 x2 x3 x4 x5=some res)(H:B<=w0.z)(L:repS w0 B (sl A0 N0 C0) x1.rules)(b5:inI x2)(a1:repS w0 B (sl A7 N7 C7) x3)(aq:inI x4)(b6:x5.b.length<=LEN):i_ prog 33 [(.agg #[sl A0 N0 C0]),vI x2,sl A7 N7 C7,vI x4,Str.v x5] w0 (Q8 w0 B res):=by
 unfold c_q at hm
 refine goG func33 z z z fun fn hr=>Ws<|E z (fb z) ?_
 rintro _ wp ⟨rfl,a5⟩;have G:=a5.below;have hu:Blk wp w0.z [sl A0 N0 C0]:=a5.blk;refine RA z z<|Rw z<|Ws<|Rf z a_9 z<|R z (l0 a_d z<|hu.at z)<|Rm z ?_
 obtain ⟨I,aD,ar⟩:=bdS hm;refine RX z (at_ (α:=e_) a_0 m_ z z z (L.e G) aD) ?_;rintro _ ⟨_,_,_,rfl,aE,aF,_⟩;obtain ⟨J,na,cb,ac,nd,ce,af,ng,ch,ai,nj,ck,rfl,hv,hw,hx,hy,hz,V,W⟩:=a_w aF;refine R z (lN (vs:=vR I J na cb ac nd ce af ng ch ai nj ck) G_ m_ z z fid aE)<|E z (fa b_l) ?_
 rintro _ aG ⟨rfl,a6⟩;have h4:=a6.below;refine E0 (fs0 (cur':=vR I J na cb ac nd ce af ng ch ai nj ck) m_ z z (a6.blk:Blk aG wp.z [(Str.v (⟨[]⟩:Str)),vI 0,vI 0,vB false,sl none 0 0,sl none 0 0,sl none 0 0,sl none 0 0]) z z z z) ?_;rintro _ _ ⟨a7,aH⟩;have h5:=aH.one;refine Wn<|Ws ?_
 have a8:=(hu.e h4).c h5<|djs<|mmr hu.lt
 refine R z (lN (vs:=[sl A0 N0 C0]) w_ u_ z z fid<|a8.row 0 1 z)<|R z (lN (vs:=vR I J na cb ac nd ce af ng ch ai nj ck) G_ m_ z z fid<|a7.row 0 8 z)<|RM z z ?_
 have aa:∀k∈[wp.z],¬B k:=or0 (f_ lr)<|t_<|zt' H G.s;have Y:=((G.ag B).e h4).c h5<|g_ aa
 have hl:=(h4.ag B).c h5<|g_ aa
 have ab:=lt_ (lt_ G.s h4.s) h5.s;obtain ⟨_,aI,aJ,aK,au⟩:=I_ ar;refine E z (fc call64 z<|W_w2t aK (zt' H ab) (L.g Y) hv hw hx (hy.g hl) (hz.g hl) (V.g hl) (W.g hl) (a1.g Y) aq) ?_;rintro _ wm ⟨s3,rfl,aL,a0,aM⟩;refine Rm z ?_
 iterate 3 refine Re z z z ?_
 refine RA z z<|Rw z<|Wq<|Ws<|Rw z ?_
 obtain ⟨_,av,a2⟩:=bdS au;refine Wf (σ:=Int) (ρ:=Int×Int×Bool) (fun (ad:Nat)(x6:Int) a w=>Sat 64 [(2,sl A7 N7 C7),(4,Str.v x5),(5,pt w0.z),(13,pt wp.z),(14,vI x6),(15,vI aI),(16,vI aJ),(17,vI ((ad:Nat):Int))] a/\Below wm.z wm w/\inI x6) (fun (x6:Int) a w=>Sat 64 [] a/\Below wm.z wm w/\inI x6) (rQ prog fn<|Q8 w0 B) av ?_ ?_ ?_ ?_ ?_
 ·exact fun _ q=>⟨q.k<|s8 z z z z z z z z,br wm,aL⟩
 ·rintro ad x6 _ _ _ hkq ⟨aw,s1,hn⟩ ax;refine Wu ?_ aw;refine Wq<|Wm z<|Rm z<|Rl z z z<|Wx z (fun _=>?_) (fun hc=>(k_6 hkq hc).elim)
  refine Wk<|Wq<|Wb<|Ws ?_
  have ae:=(a7.e s3).e s1;refine R z (lN (vs:=vR I J na cb ac nd ce af ng ch ai nj ck) G_ m_ z z fid<|ae.row 0 8 z)<|RM z z ?_
  have ho:=(hl.e s3).e s1;have ah:=lt_ (lt_ ab s3.s) s1.s;obtain ⟨_,aN,ay⟩:=bdS ax;refine E z (fc call37 z<|d_g aN (zt' H ah) hv hw hx (hy.g ho) (hz.g ho) (V.g ho) (W.g ho) aM<|ic (Nat.le_of_lt hkq)<|tl_ a0) ?_;rintro _ _ ⟨s2,rfl,aj⟩;refine Rw z<|Wq<|Ws<|R z (lN (vs:=vR I J na cb ac nd ce af ng ch ai nj ck) G_ m_ z z fid<|(ae.e s2).row 0 8 z)<|Rm z ?_
  have ht:=ho.e s2;have ak:=lt_ ah s2.s;obtain ⟨_,aO,a3⟩:=bdS ay;refine E z (fc call58 z<|j_x aO (zt' H ak) hv hw hx (hy.g ht) (hz.g ht) (V.g ht) (W.g ht)<|ic (Nat.le_of_lt hkq)<|tl_ a0) ?_;rintro _ _ ⟨s7,rfl,_⟩;refine Rm z<|R z (a_V z z)<|Wx z (fun hcs=>?_) (fun hcs=>?_)
  ·exact Wm z<|Rm z<|RA z z<|Rw z<|Wr<|rtO<|qL (som<|ifT a3 hcs).symm<|z_ hr z z z ⟨bup (bup (bup (bup (bM (bup G h4) h5<|m1 G.s) s3) s1) s2) s7,z,aj,hn⟩
  refine Wk<|Ws<|R z (lN (vs:=[sl A0 N0 C0]) w_ u_ z z fid<|((((a8.e s3).e s1).e s2).e s7).row 0 1 z)<|RM z z<|Rm z ?_
  have al:=(((Y.e s3).e s1).e s2).e s7;have am:=lt_ ak s7.s;obtain ⟨aP,aQ,_,aR,a4⟩:=I_<|ifF a3 hcs;refine E z (fc call34 z<|g_1.run aR (zt' H am) (L.g al) aj (a1.g al) hn) ?_;rintro _ aS ⟨sr,aT,aU,aV,_,aW,aX,aY,_,rfl,_,_,_,aZ,_,_,_⟩;refine Rm z ?_
  iterate 3 refine Re z z z ?_
  refine E z (fa J_) ?_;rintro _ b0 ⟨rfl,an⟩;have ao:=an.below;refine E0 (fs0 (cur':=[vI aP.number,sl aT aU aV,sl aW aX aY]) c_ z z (an.blk:Blk b0 aS.z [vI 0,sl none 0 0,sl none 0 0]) z z z z) ?_;rintro _ _ ⟨_,b1⟩;have ap:=b1.one;refine Ra z<|Rw z<|Wq<|Wm z<|R z (nq z z)<|Wx z (fun O=>?_) (fun O=>?_)
  ·exact Ws<|RA z z<|Rw z<|Wr<|rtO<|qL (som<|ifT a4 O).symm<|z_ hr z z z ⟨bM (bup (bup (bup (bup (bup (bup (bM (bup G h4) h5<|m1 G.s) s3) s1) s2) s7) sr) ao) ap<|m1<|lt_ am sr.s,z,ii z,ii z⟩
  exact Wk<|Wg<|Rm z<|Rw z<|Wg<|Rm z<|R z (inc_ hkq (tl_ a0) z z)<|Ra z<|Wl (fun _ q=>⟨aQ,(som<|ifF a4 O).symm,⟨q.k<|s8 z z z z z z z z,bM (bup (bup (bup (bup s1 s2) s7) sr) ao) ap<|m1<|lt_ (lt_ (lt_ s1.s s2.s) s7.s) sr.s,aZ⟩⟩)
 ·rintro x6 _ _ ⟨az,b2,hn⟩;refine Wu ?_ az;refine Wq<|Wm z<|Rm z<|Rl z z z<|Wx z (fun hc=>(k_7 hc).elim) (fun _=>?_)
  exact We<|fun _ q=>⟨rfl,⟨q.k sn,b2,hn⟩⟩
 ·rintro x6 b3 _ rfl ⟨_,b4,hn⟩;have aA:=elL a2;revert b3;refine Wo<|Ws<|RA z z<|Rw z ?_
  obtain rfl:=som aA;exact Wr<|z_ hr z z z ⟨bup (bup (bM (bup G h4) h5<|m1 G.s) s3) b4,z,ii z,ii z⟩
 rintro _ _ _ _ rfl ⟨rfl,aB⟩;have aC:=elR a2;obtain rfl:=som aC;exact ⟨aB,z⟩
def Q17 (w0:World)(B:Zone)(r:k_×Bool)(v:Value)(w':World):Prop:=Bw w0 w'/\un2 (fun G H=>v = .tuple #[(.agg #[Str.v G.path,vI G.rule,vI G.start,vI G.end_]),vB H]/\G.path.b.length<=LEN/\inI G.rule/\inI G.start/\inI G.end_) r
theorem j_z {x1:b_}{x2:List UInt8}{x3:Str}{res:k_×Bool}(hm:e_8 n x1 x2 x3=some res)(J:B<=w0.z)(L:repS w0 B (sl A0 N0 C0) x1.rules)(O:repS w0 B (sl A6 N6 C6) x2)(V:x3.b.length<=LEN):i_ prog 14 [(.agg #[sl A0 N0 C0]),sl A6 N6 C6,Str.v x3] w0 (Q17 w0 B res):=by
 unfold e_8 at hm
 refine goG func14 z z z fun fn hr=>Ws<|E z (fb z) ?_
 rintro _ wg ⟨rfl,hy⟩;have h3:=hy.below;have hz:Blk wg w0.z [sl A0 N0 C0]:=hy.blk;refine E z (fa d_D) ?_;rintro _ wm ⟨rfl,a5⟩;have h6:=a5.below;have hd:Blk wm wg.z [(Str.v (⟨[]⟩:Str)),vI 0,vI 0,vI 0]:=a5.blk;refine Rw z<|Wm z ?_
 have hn:=lt_ h3.s h6.s;obtain ⟨_,av,aw,aj⟩:=a_3 hm;refine E z (fc call31 z<|W_w1g aw (zt' J hn) V) ?_;rintro _ wh ⟨G,a6,a7,a8,rfl,hj⟩;refine Rm z<|Re z z z<|Re z z z<|Ra z<|Rw z<|Wq<|Wq ?_
 obtain ⟨ax,W,Y⟩:=bdS aj;refine Wt (fun a w=>∃(xo:Bool),xo=ax/\Sat 80 [(1,sl A6 N6 C6),(2,Str.v x3),(3,pt w0.z),(6,pt wg.z),(8,sl a6 a7 a8),(35,vB xo)] a/\Below wh.z wh w) ?_ ?_
 ·refine Wg<|Rm z<|R z (not_ z)<|Rm z ?_
  rcases bs (!av) with H | H
  ·iterate 3 refine Nh z H ?_
   exact R z (pT z H z)<|Rm z<|Nh z z<|Nh z z<|Nh z z<|R z (pT z z z)<|Wl (fun _ q=>⟨true,som<|ifT W H,q.k<|s6 z z z z z z,br wh⟩)
  refine Rh z H (lN (vs:=[sl A0 N0 C0]) w_ u_ z z fid<|((hz.e h6).e G).row 0 1 z) ?_;have a9:=((h3.ag B).e h6).e G;obtain ⟨ay,az,a0⟩:=bdS<|ifF W H;refine Eg z z H z (fc call32 z<|W_w19 az (zt' J<|lt_ hn G.s)<|L.g a9) ?_;rintro _ _ ⟨sp,rfl⟩;refine Rh z H (not_ z)<|R z (pF z H z)<|Rm z ?_
  rcases bs (!ay) with I | I
  ·iterate 3 refine Nh z I ?_
   exact R z (pT z I z)<|Wl (fun _ q=>⟨true,som<|ifT a0 I,q.k<|s6 z z z z z z,sp⟩)
  exact Rh z I (mv z)<|Rh z I (lnR o_ z<|O.g<|a9.e sp)<|Rh z I (a_i z z)<|R z (pF z I z)<|Wl (fun _ q=>⟨decide<|400<(x2.length:Int),som<|ifF a0 I,q.k<|s6 z z z z z z,sp⟩)
 rintro aA _ ⟨xo,rfl,_,s2⟩;revert aA;refine Wo<|Wc z (fun hcq=>?_) (fun hcq=>?_)
 ·refine Ws<|R z (bP (parts:=[]) (cs:=[(Str.v (⟨[]⟩:Str)),vI 0,vI 0,vI 0]) c_M z z)<|E0 (fs0 (cur':=[(Str.v (⟨[]⟩:Str)),vI 0,vI 0,vI 0]) a_v z z ((hd.e G).e s2) z z z z) ?_
  rintro _ _ ⟨aB,aC⟩;refine Rw z ?_
  obtain rfl:=som<|ifT Y hcq;exact Wr<|a_4 hr (q_ c_2 a_v z aB z) z ⟨bM (bup (bup (bup h3 h6) G) s2) aC.one<|m1 h3.s,z,lb z,ii z,ii z,ii z⟩
 refine Wk<|Ws ?_
 have ht:=((hz.e h6).e G).e s2;refine R z (lN (vs:=[sl A0 N0 C0]) w_ u_ z z fid<|ht.row 0 1 z) ?_;have hu:=(((h3.ag B).e h6).e G).e s2;have hv:=lt_ (lt_ hn G.s) s2.s;obtain ⟨_,aD,ak⟩:=bdS<|ifF Y hcq;refine E z (fc call29 z<|f_Y aD (zt' J hv)<|L.g hu) ?_;rintro _ wi ⟨s1,rfl,aE⟩;refine Rw z<|Ws<|Rw z<|Wq<|Ws<|Rw z ?_
 obtain ⟨_,al,a1⟩:=bdS ak;refine Wf (σ:=Int×Int) (ρ:=k_×Bool) (fun (aa:Nat) s a w=>un2 (fun x4 x5=>Sat 80 [(1,sl A6 N6 C6),(2,Str.v x3),(3,pt w0.z),(6,pt wg.z),(8,sl a6 a7 a8),(10,vI x4),(11,vI x5),(12,vI ((aa:Nat):Int))] a/\Below wi.z wi w/\inI x4/\inI x5) s) (fun s a w=>un2 (fun x4 x5=>Sat 80 [(1,sl A6 N6 C6),(2,Str.v x3),(3,pt w0.z),(6,pt wg.z),(10,vI x4),(11,vI x5)] a/\Below wi.z wi w/\inI x4/\inI x5) s) (rQ prog fn<|Q17 w0 B) al ?_ ?_ ?_ ?_ ?_
 ·exact fun _ q=>⟨q.k<|s8 z z z z z z z z,br wi,aE,ii z⟩
 ·rintro aa ⟨x4,x5⟩ _ _ _ a2 ⟨am,sb,he,hf⟩ an;refine Wu ?_ am;refine Wq<|Wm z<|Rm z ?_
  have ab:=((s2.ag<|zn B wm.z wh.z).e s1).e sb;refine R z (lnR T_ z<|hj.g ab)<|Rl z z z<|Wx z (fun _=>?_) (fun hc=>(V_ a2 hc).elim)
  refine Wk<|Wq<|Wb<|Wq (Wd (X:=noX) 0 (pl_ 16 [8]) mo (by kernel_rfl) fun b7 sc _=>dR z z (lN (vs:=[sl A0 N0 C0]) w_ u_ z z fid<|(((ht.e s1).e sb).e sc).row 0 1 z) ?_)
  iterate 5 refine dM z z z ?_
  obtain ⟨_,aF,ao⟩:=bdS<|a_G an;refine dRX z z (at_ (α:=Str) T_ z_9 z z z (hj.g<|ab.e sc) aF) ?_;rintro _ ⟨_,_,_,rfl,aG,aH,_⟩;obtain ⟨rfl,aI⟩:=b_2 aH;refine dR z z (l0 g_9 z<|aG.at0 z) ?_;have ad:=((hu.e s1).e sb).e sc;obtain ⟨aJ,aK,_,aL,a3⟩:=I_ ao;refine dE z z (fc call33 z<|W_w2u aL (zt' J<|lt_ (lt_ (lt_ hv s1.s) sb.s) sc.s) (L.g ad) he (O.g ad) hf aI) (.inr fun _ _ h=>l_<|h.1) ?_;rintro _ _ ⟨sr,rfl,aM,aN⟩;refine dM z z z ?_
  iterate 3 refine dR z z (ext_ z z) ?_
  iterate 3 refine dQ z z z ?_
  refine pD<|Wo<|Wq<|Wm z<|R z (not_ z)<|Wx z (fun hcs=>?_) (fun hcs=>?_)
  ·refine Ws<|R z (bP (parts:=[]) (cs:=[(Str.v (⟨[]⟩:Str)),vI 0,vI 0,vI 0]) c_M z z)<|E0 (fs0 (cur':=[(Str.v (⟨[]⟩:Str)),vI 0,vI 0,vI 0]) a_v z z ((((((hd.e G).e s2).e s1).e sb).e sc).e sr) z z z z) ?_
   rintro _ _ ⟨aO,aP⟩;exact Rw z<|Wr<|rtO<|qL (som<|ifT a3 hcs).symm<|a_4 hr (q_ c_2 a_v z aO z) z ⟨bM (bup (bup (bup (bup (bup (bup (bup h3 h6) G) s2) s1) sb) sc) sr) aP.one<|m1 h3.s,z,lb z,ii z,ii z,ii z⟩
  exact Wk<|Wm z<|Rw z<|Wg<|Rm z<|Rw z<|Wg<|Rm z<|R z (inc_ a2 (lt_ (repS.len hj) D_) z z)<|Ra z<|Wl (fun _ q=>⟨(aJ,aK),(som<|ifF a3 hcs).symm,⟨q.k<|s8 z z z z z z z z,bup (bup sb sc) sr,aM,aN⟩⟩)
 ·rintro ⟨x4,x5⟩ _ _ ⟨ap,ae,he,hf⟩;refine Wu ?_ ap;refine Wq<|Wm z<|Rm z<|R z (lnR T_ z<|hj.g<|((s2.ag<|zn B wm.z wh.z).e s1).e ae)<|Rl z z z<|Wx z (fun hc=>(W_ hc).elim) (fun _=>?_)
  exact We<|fun _ q=>⟨rfl,⟨q.k<|s6 z z z z z z,ae,he,hf⟩⟩
 ·rintro ⟨x4,x5⟩ aQ _ rfl ⟨_,s9,he,hf⟩;have aq:=elL a1;revert aQ;refine Wo<|Ws<|R z (lN (vs:=[sl A0 N0 C0]) w_ u_ z z fid<|((ht.e s1).e s9).row 0 1 z)<|RM z z<|Rm z ?_
  have af:=(hu.e s1).e s9;have hw:=lt_ (lt_ hv s1.s) s9.s;obtain ⟨aR,ah,_,aS,a4⟩:=I_<|a_G aq;refine E z (fc call34 z<|g_1.run aS (zt' J hw) (L.g af) he (O.g af) hf) ?_;rintro _ aT ⟨sa,aU,aV,aW,_,aX,aY,aZ,_,rfl,_,_,_,b0,_,_,_⟩;refine Rm z ?_
  iterate 3 refine Re z z z ?_
  refine E z (fa J_) ?_;rintro _ b1 ⟨rfl,ai⟩;have hk:=ai.below;refine E0 (fs0 (cur':=[vI aR.number,sl aU aV aW,sl aX aY aZ]) c_ z z (ai.blk:Blk b1 aT.z [vI 0,sl none 0 0,sl none 0 0]) z z z z) ?_;rintro _ _ ⟨_,b2⟩;have hl:=b2.one;refine Ra z<|Rw z<|Wq<|Wm z<|R z (nq z z)<|Wx z (fun hcx=>?_) (fun hcx=>?_)
  ·refine Ws<|R z (bP (parts:=[]) (cs:=[(Str.v (⟨[]⟩:Str)),vI 0,vI 0,vI 0]) c_M z z) ?_
   refine E0 (fs0 (cur':=[(Str.v (⟨[]⟩:Str)),vI 0,vI 0,vI 0]) a_v z z (((((((hd.e G).e s2).e s1).e s9).e sa).e hk).c hl<|djs<|mm1 hd.lt<|lt_ (lt_ (lt_ (lt_ G.s s2.s) s1.s) s9.s) sa.s) z z z z) ?_;rintro _ _ ⟨b3,b4⟩;refine Rw z ?_
   obtain rfl:=som<|ifT a4 hcx;exact Wr<|a_4 hr (q_ c_2 a_v z b3 z) z ⟨bM (bM (bup (bup (bup (bup (bup (bup (bup h3 h6) G) s2) s1) s9) sa) hk) hl<|m1<|lt_ hw sa.s) b4.one<|m1 h3.s,z,lb z,ii z,ii z,ii z⟩
  refine Wk<|Wm z<|RM z z<|Rm z<|R z (bP (parts:=[(0,.tmp 75),(1,.tmp 76),(2,.tmp 77),(3,.tmp 78)]) (cs:=[Str.v x3,vI x4,vI x5,vI ah]) c_M z z) ?_
  refine E0 (fs0 (cur':=[Str.v x3,vI x4,vI x5,vI ah]) a_v z z (((((((hd.e G).e s2).e s1).e s9).e sa).e hk).c hl<|djs<|mm1 hd.lt<|lt_ (lt_ (lt_ (lt_ G.s s2.s) s1.s) s9.s) sa.s) z z z z) ?_;rintro _ _ ⟨b5,b6⟩;refine Rw z ?_
  obtain rfl:=som<|ifF a4 hcx;exact Wr<|a_4 hr (q_ c_2 a_v z b5 z) z ⟨bM (bM (bup (bup (bup (bup (bup (bup (bup h3 h6) G) s2) s1) s9) sa) hk) hl<|m1<|lt_ hw sa.s) b6.one<|m1 h3.s,z,V,he,hf,b0⟩
 rintro _ _ _ _ rfl ⟨rfl,ar⟩;have au:=elR a1;obtain rfl:=som au;exact ⟨ar,z⟩
def Q18 (w0:World)(B:Zone)(r:Val×Bool)(v:Value)(w':World):Prop:=Bw w0 w'/\un2 (fun G V=>∃H I J S1 a2 L O S2,v = .tuple #[(.agg #[vI G.number,sl H I J,sl a2 L O]),vB V]/\inI G.number/\a_ w' S1 (sl H I J) G.bytes/\a_ w' S2 (sl a2 L O) G.items/\(S1++S2).Nodup/\(∀k∈(S1++S2),w0.z<=k)) r
theorem W_w1h {x1:b_}{x2:List UInt8}{x3:Str}{res:Val×Bool}(hm:h_E n x1 x2 x3=some res)(L:B<=w0.z)(O:repS w0 B (sl A0 N0 C0) x1.rules)(V:repS w0 B (sl A6 N6 C6) x2)(a1:x3.b.length<=LEN):i_ prog 15 [(.agg #[sl A0 N0 C0]),sl A6 N6 C6,Str.v x3] w0 (Q18 w0 B res):=by
 unfold h_E at hm
 refine goG func15 z z z fun fn hr=>Ws<|E z (fb z) ?_
 rintro _ wq ⟨rfl,ht⟩;have h4:=ht.below;have hu:Blk wq w0.z [sl A0 N0 C0]:=ht.blk;refine E z (fa J_) ?_;rintro _ a3 ⟨rfl,hv⟩;have h5:=hv.below;have h3:Blk a3 wq.z [vI 0,sl none 0 0,sl none 0 0]:=hv.blk;refine Rw z<|Ws ?_
 have hw:=hu.e h5;refine R z (lN (vs:=[sl A0 N0 C0]) w_ u_ z z fid<|hw.row 0 1 z)<|RM z z ?_
 have hi:=(h4.ag B).e h5;have hj:=lt_ h4.s h5.s;obtain ⟨H,_,a4,hmr⟩:=a_3 hm;refine E z (fc call14 z<|j_z a4 (zt' L hj) (O.g hi) (V.g hi) a1) ?_;rintro _ ws ⟨G,rfl,_,a5,a6,_⟩;refine Rm z<|Re z z z<|Re z z z<|E z (fa d_D) ?_
 rintro _ a7 ⟨rfl,hx⟩;have h1:=hx.below;refine E0 (fs0 (cur':=[Str.v H.path,vI H.rule,vI H.start,vI H.end_]) a_v z z (hx.blk:Blk a7 ws.z [(Str.v (⟨[]⟩:Str)),vI 0,vI 0,vI 0]) z z z z) ?_;rintro _ _ ⟨hy,a8⟩;have h2:=a8.one;refine Rw z<|Wq<|Wm z<|R z (not_ z)<|Wx z (fun hck=>?_) (fun hck=>?_)
 ·refine Ws<|R z (bP (parts:=[]) (cs:=[vI 0,sl none 0 0,sl none 0 0]) L_ z z)<|E0 (fs0 (cur':=[vI 0,sl none 0 0,sl none 0 0]) c_ z z (((h3.e G).e h1).c h2<|djs<|mm1 h3.lt G.s) z z z z) ?_
  rintro _ _ ⟨aa,ab⟩;refine Rw z ?_
  obtain rfl:=som<|ifT hmr hck;exact Wr<|a_4 hr (q_ r_ c_ z aa z) z ⟨bM (bM (bup (bup (bup h4 h5) G) h1) h2<|m1<|lt_ hj G.s) ab.one<|m1 h4.s,none,0,0,[],none,0,0,[],z,ii z,onL,onL,nd0,al0⟩
 refine Wk<|Ws<|R z (lN (vs:=[sl A0 N0 C0]) w_ u_ z z fid<|(((hw.e G).e h1).c h2<|djs<|mm1 hu.lt<|lt_ h5.s G.s).row 0 1 z)<|Rf z h_S z<|R z (l0 g_3 z<|hy.at z)<|Rm z<|Rf z l_i z<|R z (l0 g_3 z<|hy.at z) ?_
 have hl:=lt_ hj G.s;have hz:=((hi.e G).e h1).c h2<|g_ (or0 (f_ lr) (t_<|zt' L hl):∀k∈[ws.z],¬B k)
 have I:=lt_ (lt_ hl h1.s) h2.s;obtain ⟨rm,_,_,ad,a2⟩:=I_<|ifF hmr hck;refine E z (fc call34 z<|g_1.run ad (zt' L I) (O.g hz) a5 (V.g hz) a6) ?_;rintro _ ae ⟨s8,J,na,cb,af,ac,nd,ce,ah,rfl,ai,W,Y,_,_,hn,hf⟩;refine Rm z ?_
 iterate 3 refine Re z z z ?_
 refine E z (fa J_) ?_;rintro _ aj ⟨rfl,a0⟩;have hg:=a0.below;refine E0 (fs0 (cur':=[vI rm.number,sl J na cb,sl ac nd ce]) c_ z z (a0.blk:Blk aj ae.z [vI 0,sl none 0 0,sl none 0 0]) z z z z) ?_;rintro _ _ ⟨ak,al⟩;have hh:=al.one;refine Ra z<|Rw z<|Ws<|R z (lN (vs:=[vI rm.number,sl J na cb,sl ac nd ce]) r_ c_ z z fid<|ak.row 0 3 z) ?_
 have ho:=lt_ (lt_ G.s h1.s) h2.s;refine E0 (fs0 (cur':=[vI rm.number,sl J na cb,sl ac nd ce]) c_ z z ((((((h3.e G).e h1).c h2<|djs<|mm1 h3.lt G.s).e s8).e hg).c hh<|djs<|mm1 h3.lt<|lt_ ho s8.s) z z z z) ?_;rintro _ _ ⟨am,an⟩;have hp:=an.one;refine Rw z ?_
 obtain rfl:=som a2;exact Wr<|a_4 hr (q_ r_ c_ z am z) z ⟨bM (bM (bup (bup (bM (bup (bup (bup h4 h5) G) h1) h2<|m1 hl) s8) hg) hh<|m1<|lt_ I s8.s) hp<|m1 h4.s,J,na,cb,af,ac,nd,ce,ah,z,ai,((W.e hg).c hh<|ds<|mnr<|a_.lt W).c hp<|n_ (al_ hf) h3.lt ho,((Y.e hg).c hh<|ds<|mnr<|a_.lt Y).c hp<|n_ (ar_ hf) h3.lt ho,na_ (nl_ hn) (nr_ hn)<|nj hn,aa_ (p_ (al_ hf) I)<|p_ (ar_ hf) I⟩
theorem W_w1i {x1:Int}{x2:Int}{res:Int}(hm:f_T x1 x2=some res)(J:B<=w0.z)(H:inI x1)(I:inI x2):i_ prog 133 [vI x1,vI x2] w0 (Q0 w0 B res):=by
 unfold f_T at hm
 refine goG func133 z z z fun fn hr=>Ws<|Rw z<|Wq<|Wm z<|Rm z<|Rl z z z<|Wx z (fun G=>?_) (fun G=>?_)
 ·refine Wm z<|Rw z ?_
  obtain rfl:=som<|ifT hm G;exact Wr<|d_ hr z ⟨br w0,z,I⟩
 refine Wk<|Wm z<|Rw z ?_
 obtain rfl:=som<|ifF hm G;exact Wr<|d_ hr z ⟨br w0,z,H⟩
theorem W_w2v {x1:b_}{x2:e_}{x3:Val}{res:Bool}(hm:g_P x1 x2 x3=some res)(a0:B<=w0.z)(aq:repS w0 B (sl A0 N0 C0) x1.rules)(bg:x2.name.b.length<=LEN)(bh:inI x2.kind)(ar:inI x2.size)(bi:repS w0 B (sl A3 N3 C3) x2.bytes)(bj:repS w0 B (sl A4 N4 C4) x2.names)(bk:repS w0 B (sl A2 N2 C2) x2.tags)(a1:repS w0 B (sl A5 N5 C5) x2.kids)(au:inI x3.number)(W:repS w0 B (sl AA NA CA) x3.bytes)(Y:repS w0 B (sl AB NB CB) x3.items):i_ prog 99 [(.agg #[sl A0 N0 C0]),.agg #[Str.v x2.name,vI x2.kind,vI x2.size,vB x2.little,sl A3 N3 C3,sl A4 N4 C4,sl A2 N2 C2,sl A5 N5 C5],(.agg #[vI x3.number,sl AA NA CA,sl AB NB CB])] w0 (Q7 w0 B res):=by
 unfold g_P at hm
 refine goG func99 z z z fun fn hr=>Ws<|E z (fb z) ?_
 rintro _ aX ⟨rfl,aY⟩;have h3:=aY.below;have aZ:Blk aX w0.z [sl A0 N0 C0]:=aY.blk;refine E z (fb z) ?_;rintro _ b0 ⟨rfl,b1⟩;have h2:=b1.below;refine E z (fb z) ?_;rintro _ G ⟨rfl,b2⟩;have H:=b2.below;have h4:Blk G b0.z [vI x3.number,sl AA NA CA,sl AB NB CB]:=b2.blk;refine Rw z<|Wq<|Ws<|Rf z a_e z ?_
 have ht:=(b1.blk:Blk b0 aX.z (vR x2 A3 N3 C3 A4 N4 C4 A2 N2 C2 A5 N5 C5)).e H;refine R z (l0 g_3 z<|ht.at z)<|Wn<|Wb<|Ws<|Rq z z z<|Rw z<|Wc z (fun a2=>?_) (fun a2=>?_)
 ·refine Wq ?_;obtain ⟨bH,bm,bn⟩:=bdS<|ifT hm a2;refine Wt (fun a w=>∃(ab:Bool),ab=bH/\Sat 202 [(6,vB ab)] a/\Below G.z G w) ?_ ?_
  ·refine Wd (X:=noX) 0 (pl_ 20 [4,6]) mo (by kernel_rfl) fun cz sr _=>dR z z (fd b_0 z) ?_
   have b3:=h4.e sr;refine dR z z (l0 g_3 z<|b3.at z)<|dR z z (fd a_F z)<|dR z z (l0 g_3 z<|(ht.e sr).at z) ?_
   have b4:=lt_ (lt_ (lt_ h3.s h2.s) H.s) sr.s;obtain ⟨_,bI,bo⟩:=bdS bm;refine dE z z (fc call132 z<|W_w18 bI (zt' a0 b4) ar) (.inr fun _ _ h=>l_<|h.1) ?_;rintro _ _ ⟨ss,rfl,_⟩;refine dR z z (sb_ z z) ?_;obtain ⟨bJ,bK,av⟩:=bdS bo;refine dE z z (fc call60 z<|b_m bK (zt' a0<|lt_ b4 ss.s) au (ii z)<|iS _ _) (.inr fun _ _ h=>l_<|h.1) ?_;rintro _ _ ⟨sv,rfl⟩;refine dM z z z ?_
   rcases bs bJ with hca | hca
   ·have aw:=ifT av hca;refine dRg z z z hca z (fd b_j z) ?_;have b5:=(b3.e ss).e sv;refine dRg z z z hca z (l0 R_ z<|b5.at z) ?_;have b6:=(((((h3.ag B).e h2).e H).e sr).e ss).e sv;refine dRg z z z hca z (lnR o_ z<|W.g b6)<|dRg z z z hca z (eql z z)<|dR z z (pT z hca z)<|dM z z z ?_
    rcases bs ((x3.bytes.length:Int)==0) with hcb | hcb
    ·exact dRg z z z hcb z (fd Z_ z)<|dRg z z z hcb z (l0 a_2 z<|b5.at z)<|dRg z z z hcb z (lnR a_a z<|Y.g b6)<|dRg z z z hcb z (eql z z)<|dR z z (pT z hcb z)<|dQ z z z<|pD (fun _ q=>⟨(x3.items.length:Int)==0,som<|ifT aw hcb,q.k<|s1 z,bup (bup sr ss) sv⟩)
    iterate 4 refine dRn z z z hcb z ?_
    exact dR z z (pF z hcb z)<|dQ z z z<|pD (fun _ q=>⟨false,som<|ifF aw hcb,q.k<|s1 z,bup (bup sr ss) sv⟩)
   iterate 4 refine dRn z z z hca z ?_
   refine dR z z (pF z hca z)<|dM z z z ?_
   iterate 4 refine dRn z z z z z ?_
   exact dR z z (pF z z z)<|dQ z z z<|pD (fun _ q=>⟨false,som<|ifF av hca,q.k<|s1 z,bup (bup sr ss) sv⟩)
  rintro bL _ ⟨ab,rfl,_,bM⟩;revert bL;refine Wo ?_;obtain rfl:=som bn;exact Wr<|rtO<|d_ hr z ⟨bup (bup (bup h3 h2) H) bM,z⟩
 have ax:=ifF hm a2;refine Ws<|Rq z z z<|Rw z<|Wc z (fun a3=>?_) (fun a3=>?_)
 ·refine Wq ?_;obtain ⟨bN,ay,bp⟩:=bdS<|ifT ax a3;refine Wt (fun a w=>∃(ad:Bool),ad=bN/\Sat 202 [(6,vB ad)] a/\Below G.z G w) ?_ ?_
  ·refine Wg<|Rf z b_0 z<|R z (l0 g_3 z<|h4.at z)<|Rq z z z<|Rm z ?_
   rcases bs (x3.number==0) with hcc | hcc
   ·have az:=ifT ay hcc;refine Rh z hcc (fd b_j z)<|Rh z hcc (l0 R_ z<|h4.at z) ?_
    have b7:=((h3.ag B).e h2).e H;refine Rh z hcc (lnR o_ z<|W.g b7)<|Rh z hcc (eql z z)<|R z (pT z hcc z)<|Rm z ?_
    rcases bs ((x3.bytes.length:Int)==0) with hcd | hcd
    ·exact Rh z hcd (fd Z_ z)<|Rh z hcd (l0 a_2 z<|h4.at z)<|Rh z hcd (lnR a_a z<|Y.g b7)<|Rh z hcd (eql z z)<|R z (pT z hcd z)<|Ra z<|Wl (fun _ q=>⟨(x3.items.length:Int)==0,som<|ifT az hcd,q.k<|s1 z,br G⟩)
    iterate 4 refine Nh z hcd ?_
    exact R z (pF z hcd z)<|Ra z<|Wl (fun _ q=>⟨false,som<|ifF az hcd,q.k<|s1 z,br G⟩)
   iterate 4 refine Nh z hcc ?_
   exact R z (pF z hcc z)<|Rm z<|Nh z z<|Nh z z<|Nh z z<|Nh z z<|R z (pF z z z)<|Ra z<|Wl (fun _ q=>⟨false,som<|ifF ay hcc,q.k<|s1 z,br G⟩)
  rintro bO _ ⟨ad,rfl,_,bP⟩;revert bO;refine Wo ?_;obtain rfl:=som bp;exact Wr<|rtO<|d_ hr z ⟨bup (bup (bup h3 h2) H) bP,z⟩
 have aA:=ifF ax a3;refine Ws<|Rq z z z<|Rw z<|Wc z (fun a4=>?_) (fun a4=>?_)
 ·refine Wq ?_;obtain ⟨bQ,aB,bq⟩:=bdS<|ifT aA a4;refine Wt (fun a w=>∃(ae:Bool),ae=bQ/\Sat 202 [(6,vB ae)] a/\Below G.z G w) ?_ ?_
  ·refine Wg<|Rf z b_0 z<|R z (l0 g_3 z<|h4.at z)<|Rq z z z<|Rm z ?_
   rcases bs (x3.number==0) with O | O
   ·have aC:=ifT aB O;refine Rh z O (fd b_j z)<|Rh z O (l0 R_ z<|h4.at z) ?_
    have b8:=((h3.ag B).e h2).e H;refine Rh z O (lnR o_ z<|W.g b8)<|Rh z O (fd a_F z)<|Rh z O (l0 g_3 z<|ht.at z)<|Rh z O (eql z z)<|R z (pT z O z)<|Rm z ?_
    rcases bs ((x3.bytes.length:Int)==x2.size) with hce | hce
    ·exact Rh z hce (fd Z_ z)<|Rh z hce (l0 a_2 z<|h4.at z)<|Rh z hce (lnR a_a z<|Y.g b8)<|Rh z hce (eql z z)<|R z (pT z hce z)<|Ra z<|Wl (fun _ q=>⟨(x3.items.length:Int)==0,som<|ifT aC hce,q.k<|s1 z,br G⟩)
    iterate 4 refine Nh z hce ?_
    exact R z (pF z hce z)<|Ra z<|Wl (fun _ q=>⟨false,som<|ifF aC hce,q.k<|s1 z,br G⟩)
   iterate 6 refine Nh z O ?_
   exact R z (pF z O z)<|Rm z<|Nh z z<|Nh z z<|Nh z z<|Nh z z<|R z (pF z z z)<|Ra z<|Wl (fun _ q=>⟨false,som<|ifF aB O,q.k<|s1 z,br G⟩)
  rintro bR _ ⟨ae,rfl,_,bS⟩;revert bR;refine Wo ?_;obtain rfl:=som bq;exact Wr<|rtO<|d_ hr z ⟨bup (bup (bup h3 h2) H) bS,z⟩
 have aD:=ifF aA a4;refine Ws<|Rq z z z<|Rw z<|Wc z (fun a5=>?_) (fun a5=>?_)
 ·refine Wq ?_;obtain ⟨bT,aE,bt⟩:=bdS<|ifT aD a5;refine Wt (fun a w=>∃(af:Bool),af=bT/\Sat 202 [(6,vB af)] a/\Below G.z G w) ?_ ?_
  ·refine Wd (X:=noX) 0 (pl_ 23 [12,13]) mo (by kernel_rfl) fun cA sp _=>dR z z (fd b_0 z) ?_
   have ah:=h4.e sp;refine dR z z (l0 g_3 z<|ah.at z)<|dR z z (eql z z)<|dM z z z ?_
   rcases bs (x3.number==0) with I | I
   ·refine dRg z z z I z (fd b_j z)<|dRg z z z I z (l0 R_ z<|ah.at z) ?_
    have hx:=(((h3.ag B).e h2).e H).e sp;refine dRg z z z I z (lnR o_ z<|W.g hx)<|dRg z z z I z (lN (vs:=[sl A0 N0 C0]) w_ u_ z z fid<|(((aZ.e h2).e H).e sp).row 0 1 z)<|dRg z z z I z (fd N_ z)<|dRg z z z I z (l0 A_ z<|(ht.e sp).at z) ?_
    obtain ⟨_,bU,bu⟩:=bdS<|ifT aE I;refine b_M z z z I z (at_ (α:=Int) x_ z_3 z z z (a1.g hx) bU) ?_;rintro _ ⟨_,_,_,rfl,bV,bW,_⟩;obtain ⟨rfl,bX⟩:=O_ bW;refine dRg z z z I z (l0 g_3 z<|bV.at0 z) ?_;have b9:=lt_ (lt_ (lt_ h3.s h2.s) H.s) sp.s;obtain ⟨_,bY,bv⟩:=bdS bu;refine dEg z z z I z (fc call129 z<|f_Z bY (zt' a0 b9) (aq.g hx) bX) (.inr fun _ _ h=>l_<|h.1) ?_;rintro _ _ ⟨sw,rfl,bZ⟩;obtain ⟨c0,c1,aF⟩:=bdS bv;refine dEg z z z I z (fc call133 z<|W_w1i c1 (zt' a0<|lt_ b9 sw.s) (ii z) bZ) (.inr fun _ _ h=>l_<|h.1) ?_;rintro _ _ ⟨sy,rfl,_⟩;refine dRg z z z I z (b_P z z)<|dR z z (pT z I z)<|dM z z z ?_
    rcases bs (decide<|(x3.bytes.length:Int)<=c0) with hcf | hcf
    ·exact dRg z z z hcf z (fd Z_ z)<|dRg z z z hcf z (l0 a_2 z<|((ah.e sw).e sy).at z)<|dRg z z z hcf z (lnR a_a z<|Y.g<|(hx.e sw).e sy)<|dRg z z z hcf z (eql z z)<|dR z z (pT z hcf z)<|dQ z z z<|pD (fun _ q=>⟨(x3.items.length:Int)==0,som<|ifT aF hcf,q.k<|s1 z,bup (bup sp sw) sy⟩)
    iterate 4 refine dRn z z z hcf z ?_
    exact dR z z (pF z hcf z)<|dQ z z z<|pD (fun _ q=>⟨false,som<|ifF aF hcf,q.k<|s1 z,bup (bup sp sw) sy⟩)
   iterate 8 refine dRn z z z I z ?_
   refine dEn z z z I z<|dEn z z z I z<|dRn z z z I z<|dR z z (pF z I z)<|dM z z z ?_
   iterate 4 refine dRn z z z z z ?_
   exact dR z z (pF z z z)<|dQ z z z<|pD (fun _ q=>⟨false,som<|ifF aE I,q.k<|s1 z,sp⟩)
  rintro c2 _ ⟨af,rfl,_,c3⟩;revert c2;refine Wo ?_;obtain rfl:=som bt;exact Wr<|rtO<|d_ hr z ⟨bup (bup (bup h3 h2) H) c3,z⟩
 have aG:=ifF aD a5;refine Ws<|Rq z z z<|Rw z<|Wc z (fun a6=>?_) (fun a6=>?_)
 ·refine Wq ?_;obtain ⟨c4,aH,bw⟩:=bdS<|ifT aG a6;refine Wt (fun a w=>∃(ai:Bool),ai=c4/\Sat 202 [(6,vB ai)] a/\Below G.z G w) ?_ ?_
  ·refine Wg<|Rf z b_0 z<|R z (l0 g_3 z<|h4.at z)<|Rq z z z<|Rm z ?_
   rcases bs (x3.number==0) with hcg | hcg
   ·have aI:=ifT aH hcg;refine Rh z hcg (fd b_j z)<|Rh z hcg (l0 R_ z<|h4.at z) ?_
    have ba:=((h3.ag B).e h2).e H;refine Rh z hcg (lnR o_ z<|W.g ba)<|Rh z hcg (b_P z z)<|R z (pT z hcg z)<|Rm z ?_
    rcases bs (decide<|(x3.bytes.length:Int)<=400) with hch | hch
    ·exact Rh z hch (fd Z_ z)<|Rh z hch (l0 a_2 z<|h4.at z)<|Rh z hch (lnR a_a z<|Y.g ba)<|Rh z hch (eql z z)<|R z (pT z hch z)<|Ra z<|Wl (fun _ q=>⟨(x3.items.length:Int)==0,som<|ifT aI hch,q.k<|s1 z,br G⟩)
    iterate 4 refine Nh z hch ?_
    exact R z (pF z hch z)<|Ra z<|Wl (fun _ q=>⟨false,som<|ifF aI hch,q.k<|s1 z,br G⟩)
   iterate 4 refine Nh z hcg ?_
   exact R z (pF z hcg z)<|Rm z<|Nh z z<|Nh z z<|Nh z z<|Nh z z<|R z (pF z z z)<|Ra z<|Wl (fun _ q=>⟨false,som<|ifF aH hcg,q.k<|s1 z,br G⟩)
  rintro c5 _ ⟨ai,rfl,_,c6⟩;revert c5;refine Wo ?_;obtain rfl:=som bw;exact Wr<|rtO<|d_ hr z ⟨bup (bup (bup h3 h2) H) c6,z⟩
 have aJ:=ifF aG a6;refine Ws<|Rq z z z<|Rw z<|Wc z (fun a7=>?_) (fun a7=>?_)
 ·refine Wq ?_;obtain ⟨c7,aK,bx⟩:=bdS<|ifT aJ a7;refine Wt (fun a w=>∃(aj:Bool),aj=c7/\Sat 202 [(6,vB aj)] a/\Below G.z G w) ?_ ?_
  ·refine Wd (X:=noX) 0 (pl_ 23 [18,19]) mo (by kernel_rfl) fun cB sq _=>dR z z (fd b_0 z) ?_
   have ak:=h4.e sq;refine dR z z (l0 g_3 z<|ak.at z)<|dR z z (eql z z)<|dM z z z ?_
   rcases bs (x3.number==0) with hci | hci
   ·have aL:=ifT aK hci;refine dRg z z z hci z (fd b_j z)<|dRg z z z hci z (l0 R_ z<|ak.at z) ?_
    have hz:=(((h3.ag B).e h2).e H).e sq;refine dRg z z z hci z (lnR o_ z<|W.g hz)<|dRg z z z hci z (eql z z)<|dR z z (pT z hci z)<|dM z z z ?_
    rcases bs ((x3.bytes.length:Int)==0) with J | J
    ·refine dRg z z z J z (fd Z_ z)<|dRg z z z J z (l0 a_2 z<|ak.at z)<|dRg z z z J z (lnR a_a z<|Y.g hz)<|dRg z z z J z (lN (vs:=[sl A0 N0 C0]) w_ u_ z z fid<|(((aZ.e h2).e H).e sq).row 0 1 z)<|dRg z z z J z (fd N_ z)<|dRg z z z J z (l0 A_ z<|(ht.e sq).at z) ?_
     obtain ⟨_,c8,bz⟩:=bdS<|ifT aL J;refine b_M z z z J z (at_ (α:=Int) x_ z_3 z z z (a1.g hz) c8) ?_;rintro _ ⟨_,_,_,rfl,c9,ca,_⟩;obtain ⟨rfl,cb⟩:=O_ ca;refine dRg z z z J z (l0 g_3 z<|c9.at0 z) ?_;have bb:=lt_ (lt_ (lt_ h3.s h2.s) H.s) sq.s;obtain ⟨_,cc,bA⟩:=bdS bz;refine dEg z z z J z (fc call129 z<|f_Z cc (zt' a0 bb) (aq.g hz) cb) (.inr fun _ _ h=>l_<|h.1) ?_;rintro _ _ ⟨bc,rfl,cd⟩;obtain ⟨ce,cf,bB⟩:=bdS bA;refine dEg z z z J z (fc call133 z<|W_w1i cf (zt' a0<|lt_ bb bc.s) (ii z) cd) (.inr fun _ _ h=>l_<|h.1) ?_;rintro _ _ ⟨cg,rfl,_⟩;exact dRg z z z J z (b_P z z)<|dR z z (pT z J z)<|dQ z z z<|pD (fun _ q=>⟨decide<|(x3.items.length:Int)<=ce,som bB,q.k<|s1 z,bup (bup sq bc) cg⟩)
    iterate 8 refine dRn z z z J z ?_
    exact dEn z z z J z<|dEn z z z J z<|dRn z z z J z<|dR z z (pF z J z)<|dQ z z z<|pD (fun _ q=>⟨false,som<|ifF aL J,q.k<|s1 z,sq⟩)
   iterate 4 refine dRn z z z hci z ?_
   refine dR z z (pF z hci z)<|dM z z z ?_
   iterate 8 refine dRn z z z z z ?_
   exact dEn z z z z z<|dEn z z z z z<|dRn z z z z z<|dR z z (pF z z z)<|dQ z z z<|pD (fun _ q=>⟨false,som<|ifF aK hci,q.k<|s1 z,sq⟩)
  rintro ch _ ⟨aj,rfl,_,ci⟩;revert ch;refine Wo ?_;obtain rfl:=som bx;exact Wr<|rtO<|d_ hr z ⟨bup (bup (bup h3 h2) H) ci,z⟩
 have aM:=ifF aJ a7;refine Ws<|Rq z z z<|Rw z<|Wc z (fun a8=>?_) (fun a8=>?_)
 ·refine Wq ?_;obtain ⟨cj,aN,bC⟩:=bdS<|ifT aM a8;refine Wt (fun a w=>∃(al:Bool),al=cj/\Sat 202 [(6,vB al)] a/\Below G.z G w) ?_ ?_
  ·refine Wg<|Rf z b_0 z<|R z (l0 g_3 z<|h4.at z)<|Rq z z z<|Rm z ?_
   rcases bs (x3.number==0) with hcj | hcj
   ·have aO:=ifT aN hcj;refine Rh z hcj (fd b_j z)<|Rh z hcj (l0 R_ z<|h4.at z) ?_
    have am:=((h3.ag B).e h2).e H;refine Rh z hcj (lnR o_ z<|W.g am)<|Rh z hcj (eql z z)<|R z (pT z hcj z)<|Rm z ?_
    rcases bs ((x3.bytes.length:Int)==0) with L | L
    ·exact Rh z L (fd Z_ z)<|Rh z L (l0 a_2 z<|h4.at z)<|Rh z L (lnR a_a z<|Y.g am)<|Rh z L (fd N_ z)<|Rh z L (l0 A_ z<|ht.at z)<|Rh z L (lnR x_ z<|a1.g am)<|Rh z L (eql z z)<|R z (pT z L z)<|Ra z<|Wl (fun _ q=>⟨(x3.items.length:Int)==(x2.kids.length:Int),som<|ifT aO L,q.k<|s1 z,br G⟩)
    iterate 7 refine Nh z L ?_
    exact R z (pF z L z)<|Ra z<|Wl (fun _ q=>⟨false,som<|ifF aO L,q.k<|s1 z,br G⟩)
   iterate 4 refine Nh z hcj ?_
   exact R z (pF z hcj z)<|Rm z<|Nh z z<|Nh z z<|Nh z z<|Nh z z<|Nh z z<|Nh z z<|Nh z z<|R z (pF z z z)<|Ra z<|Wl (fun _ q=>⟨false,som<|ifF aN hcj,q.k<|s1 z,br G⟩)
  rintro ck _ ⟨al,rfl,_,cl⟩;revert ck;refine Wo ?_;obtain rfl:=som bC;exact Wr<|rtO<|d_ hr z ⟨bup (bup (bup h3 h2) H) cl,z⟩
 have aP:=ifF aM a8;refine Ws<|Rq z z z<|Rw z<|Wc z (fun a9=>?_) (fun a9=>?_)
 ·refine Wq ?_;obtain ⟨cm,aQ,bD⟩:=bdS<|ifT aP a9;refine Wt (fun a w=>∃(an:Bool),an=cm/\Sat 202 [(6,vB an)] a/\Below G.z G w) ?_ ?_
  ·refine Wg<|Rf z b_j z<|R z (l0 R_ z<|h4.at z) ?_
   have hu:=((h3.ag B).e h2).e H;refine R z (lnR o_ z<|W.g hu)<|Rq z z z<|Rm z ?_
   rcases bs ((x3.bytes.length:Int)==0) with hck | hck
   ·have aR:=ifT aQ hck;refine Rh z hck (fd Z_ z)<|Rh z hck (l0 a_2 z<|h4.at z)<|Rh z hck (lnR a_a z<|Y.g hu)<|Rh z hck (eql z z)<|R z (pT z hck z)<|Rm z ?_
    rcases bs ((x3.items.length:Int)==1) with V | V
    ·refine Rh z V (lN (vs:=vR x2 A3 N3 C3 A4 N4 C4 A2 N2 C2 A5 N5 C5) G_ m_ z z fid<|ht.row 0 8 z)<|Rh z V (fd b_0 z)<|Rh z V (l0 g_3 z<|h4.at z) ?_
     obtain ⟨cn,co,bE⟩:=bdS<|ifT aR V;refine Eg z z V z (fc call37 z<|d_g co (zt' a0<|lt_ (lt_ h3.s h2.s) H.s) bg bh ar (bi.g hu) (bj.g hu) (bk.g hu) (a1.g hu) au<|ii z) ?_;rintro _ _ ⟨cp,rfl,_⟩;exact Rh z V (b_s z z)<|R z (pT z V z)<|Ra z<|Wl (fun _ q=>⟨decide<|0<=cn,som bE,q.k<|s1 z,cp⟩)
    iterate 5 refine Nh z V ?_
    exact R z (pF z V z)<|Ra z<|Wl (fun _ q=>⟨false,som<|ifF aR V,q.k<|s1 z,br G⟩)
   iterate 4 refine Nh z hck ?_
   exact R z (pF z hck z)<|Rm z<|Nh z z<|Nh z z<|Nh z z<|Nh z z<|Nh z z<|R z (pF z z z)<|Ra z<|Wl (fun _ q=>⟨false,som<|ifF aQ hck,q.k<|s1 z,br G⟩)
  rintro cq _ ⟨an,rfl,_,cr⟩;revert cq;refine Wo ?_;obtain rfl:=som bD;exact Wr<|rtO<|d_ hr z ⟨bup (bup (bup h3 h2) H) cr,z⟩
 have aS:=ifF aP a9;refine Ws<|Rq z z z<|Rw z<|Wc z (fun aa=>?_) (fun aa=>?_)
 ·refine Wq ?_;obtain ⟨ct,aT,bF⟩:=bdS<|ifT aS aa;refine Wt (fun a w=>∃(ao:Bool),ao=ct/\Sat 202 [(6,vB ao)] a/\Below G.z G w) ?_ ?_
  ·refine Wg<|Rf z b_0 z<|R z (l0 g_3 z<|h4.at z)<|Rq z z z<|Rm z ?_
   rcases bs (x3.number==0) with hcl | hcl
   ·have aU:=ifT aT hcl;refine Rh z hcl (fd b_j z)<|Rh z hcl (l0 R_ z<|h4.at z) ?_
    have be:=((h3.ag B).e h2).e H;refine Rh z hcl (lnR o_ z<|W.g be)<|Rh z hcl (eql z z)<|R z (pT z hcl z)<|Rm z ?_
    rcases bs ((x3.bytes.length:Int)==0) with hcm | hcm
    ·exact Rh z hcm (fd Z_ z)<|Rh z hcm (l0 a_2 z<|h4.at z)<|Rh z hcm (lnR a_a z<|Y.g be)<|Rh z hcm (b_P z z)<|R z (pT z hcm z)<|Ra z<|Wl (fun _ q=>⟨decide<|(x3.items.length:Int)<=1,som<|ifT aU hcm,q.k<|s1 z,br G⟩)
    iterate 4 refine Nh z hcm ?_
    exact R z (pF z hcm z)<|Ra z<|Wl (fun _ q=>⟨false,som<|ifF aU hcm,q.k<|s1 z,br G⟩)
   iterate 4 refine Nh z hcl ?_
   exact R z (pF z hcl z)<|Rm z<|Nh z z<|Nh z z<|Nh z z<|Nh z z<|R z (pF z z z)<|Ra z<|Wl (fun _ q=>⟨false,som<|ifF aT hcl,q.k<|s1 z,br G⟩)
  rintro cu _ ⟨ao,rfl,_,cv⟩;revert cu;refine Wo ?_;obtain rfl:=som bF;exact Wr<|rtO<|d_ hr z ⟨bup (bup (bup h3 h2) H) cv,z⟩
 refine Wk<|Wq ?_
 obtain ⟨cw,aV,bG⟩:=bdS<|ifF aS aa;refine Wt (fun a w=>∃(ap:Bool),ap=cw/\Sat 202 [(6,vB ap)] a/\Below G.z G w) ?_ ?_
 ·refine Wg<|Rf z b_0 z<|R z (l0 g_3 z<|h4.at z)<|Rq z z z<|Rm z ?_
  rcases bs (x3.number==0) with hcn | hcn
  ·have aW:=ifT aV hcn;refine Rh z hcn (fd b_j z)<|Rh z hcn (l0 R_ z<|h4.at z) ?_
   have bf:=((h3.ag B).e h2).e H;refine Rh z hcn (lnR o_ z<|W.g bf)<|Rh z hcn (eql z z)<|R z (pT z hcn z)<|Rm z ?_
   rcases bs ((x3.bytes.length:Int)==0) with hco | hco
   ·exact Rh z hco (fd Z_ z)<|Rh z hco (l0 a_2 z<|h4.at z)<|Rh z hco (lnR a_a z<|Y.g bf)<|Rh z hco (eql z z)<|R z (pT z hco z)<|Ra z<|Wl (fun _ q=>⟨(x3.items.length:Int)==1,som<|ifT aW hco,q.k<|s1 z,br G⟩)
   iterate 4 refine Nh z hco ?_
   exact R z (pF z hco z)<|Ra z<|Wl (fun _ q=>⟨false,som<|ifF aW hco,q.k<|s1 z,br G⟩)
  iterate 4 refine Nh z hcn ?_
  exact R z (pF z hcn z)<|Rm z<|Nh z z<|Nh z z<|Nh z z<|Nh z z<|R z (pF z z z)<|Ra z<|Wl (fun _ q=>⟨false,som<|ifF aV hcn,q.k<|s1 z,br G⟩)
 rintro cx _ ⟨ap,rfl,_,cy⟩;revert cx;refine Wo ?_;obtain rfl:=som bG;exact Wr<|d_ hr z ⟨bup (bup (bup h3 h2) H) cy,z⟩
structure j_A (f:b_->Int->Val->Option Bool):Prop where
  run:∀{A0 AA AB:Option Addr}{N0 C0 NA CA NB CB:Nat}{B:Zone}{x1:b_}{x2:Int}{x3:Val}{res:Bool}{w0:World}(hm:f x1 x2 x3=some res)(hBw:B<=w0.z)(p1_0:repS w0 B (sl A0 N0 C0) x1.rules)(p2_0:inI x2)(p3_0:inI x3.number)(p3_1:repS w0 B (sl AA NA CA) x3.bytes)(p3_2:repS w0 B (sl AB NB CB) x3.items),i_ prog 72 [(.agg #[sl A0 N0 C0]),vI x2,(.agg #[vI x3.number,sl AA NA CA,sl AB NB CB])] w0<|Q7 w0 B res
abbrev l_r (n:Nat):Prop:=j_A (e_F n).spec_l9Valid
end Go.Vw
