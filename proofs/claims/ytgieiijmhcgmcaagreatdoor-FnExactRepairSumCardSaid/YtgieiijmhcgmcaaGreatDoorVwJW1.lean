
import Derived.Test.YtgieiijmhcgmcaaGreatDoorVmB
import Derived.Lib.Join
import Derived.Test.YtgieiijmhcgmcaaGreatDoorVwJFacts
import Derived.Test.YtgieiijmhcgmcaaGreatDoorVwJExt
import Derived.Laws.CopyRow
import Derived.Laws.IdiomStrings
import Derived.Lib.AppendStr
import Derived.Recover
import Derived.Tactics
import Derived.Tactics2
import Derived.Laws.Pointers
import Derived.Lib.Hide
set_option linter.unusedVariables false
namespace Go.Vw
open Go.RowKit Dat Go.Proofs
open Go.Proofs.Tryz
open Go.Vw renaming a_L->Wq,b_7->Wg,WC.of_KC->Wo,a_M->Wl,c_t->Wc,d_x->Wr,g_N->Wu,i_1->pT,i_2->pF,g_S->fd,c_3->l1,i_T->lN,b_y->mv,d_c->asg,g_q->lnR,f_8->lss,g_Y->eql,g_T->ext_,i_4->bP,g_U->add_,g_m->inc_,e_i->not_,g_r->at_,e_Q->fc,b_d->fs,e_P->fb,e_3->fa,h_V->sr,h_Z->cr,i_0->cM,c_Y->bM,h_L->iS,h_K->iA,h_N->br,b_t->oA,h_R->bs,ltge->lg,inor->io,g_Z->nq,i_V->lnT,i_W->sb_,h_T->ar_,h_S->al_,h_U->ds,j_v->m1,h_X->nr_,h_W->nl_,g_o->aa_,all_nil->an_,d_y->Wb,g_n->u8,h_E->pD,g_j->We,h_M->Wt,g_l->fS,e_M->or_,i_R->Wf,i_8->qL,h_D->Wd,i_5->fN,g_p->na_,h_Y->nj,e_U->f0,i_3->rX,i_6->tl_,i_7->ic
variable {A0:Option Addr}{N0 C0:Nat}{B:Zone}{w0:World}{A9:Option Addr}{A8:Option Addr}{AA:Option Addr}{AB:Option Addr}{N9 C9:Nat}{N8 C8:Nat}{NA CA:Nat}{NB CB:Nat}{A3:Option Addr}{A4:Option Addr}{A2:Option Addr}{A5:Option Addr}{N3 C3:Nat}{N4 C4:Nat}{N2 C2:Nat}{N5 C5:Nat}{A7:Option Addr}{N7 C7:Nat}{A6:Option Addr}{N6 C6:Nat}{n:Nat}{A1:Option Addr}{N1 C1:Nat}
def Q0 (w0:World)(B:Zone)(r:Int)(v:Value)(w':World):Prop:=Bw w0 w'/\(fun h=>(vI h)=v/\inI h) r
theorem W_w1q {x1:List UInt8}{x2:Int}{res:Int}(hm:h_q x1 x2=some res)(I:B<=w0.z)(G:repS w0 B (sl A0 N0 C0) x1)(H:inI x2):j_ prog 38 [sl A0 N0 C0,vI x2] w0 (Q0 w0 B res):=by
 unfold h_q at hm
 refine goG func38 z z z fun fn hr=>Ws<|Rw z<|Wm z<|Rm z<|R z (lnR l_ z G)<|R z (sb_ z z)<|Rw z<|Wq<|Wm z<|Rl z z z<|Wx z (fun h=>?_) (fun h=>?_)
 ·refine Ws<|Rw z ?_
  obtain rfl:=som<|ifT hm h;exact Wr<|e_ hr z ⟨br w0,z,ii z⟩
 refine Wk<|Wm z<|Rw z ?_
 obtain rfl:=som<|ifF hm h;exact Wr<|e_ hr z ⟨br w0,z,iS _ _⟩
theorem W_w1r {x1:List Str}{x2:Int}{res:Int}(hm:f_o x1 x2=some res)(W:B<=w0.z)(h:repS w0 B (sl A0 N0 C0) x1)(V:inI x2):j_ prog 39 [sl A0 N0 C0,vI x2] w0 (Q0 w0 B res):=by
 unfold f_o at hm
 refine goG func39 z z z fun fn hr=>Ws<|Rw z<|Wm z<|Rm z<|R z (lnR a_0 z h)<|R z (sb_ z z)<|Rw z<|Wq<|Wm z<|Rl z z z<|Wx z (fun G=>?_) (fun G=>?_)
 ·refine Ws<|Rw z ?_
  obtain rfl:=som<|ifT hm G;exact Wr<|e_ hr z ⟨br w0,z,ii z⟩
 refine Wk<|Wq<|Ws<|Rw z ?_
 obtain ⟨_,hub,I⟩:=bdS<|ifF hm G;refine Wf (σ:=Int) (ρ:=Int) (fun (k6:Nat)(x0:Int) a w=>Sat 28 [(0,sl A0 N0 C0),(1,vI x0),(5,vI ((k6:Nat):Int))] a/\Below w0.z w0 w/\inI x0) (fun (x0:Int) a w=>Sat 28 [(1,vI x0)] a/\Below w0.z w0 w/\inI x0) (rQ prog fn<|Q0 w0 B) hub ?_ ?_ ?_ ?_ ?_
 ·exact fun _ q=>⟨q.k<|s3 z z z,br w0,iS _ _⟩
 ·rintro k6 x0 _ _ _ J ⟨hSc,s4,h1⟩ hmd;refine Wu ?_ hSc;refine Wq<|Wm z<|Rm z ?_
  have O:=h.e s4;refine R z (lnR a_0 z O)<|Rl z z z<|Wx z (fun _=>?_) (fun hc=>(X_ J hc).elim)
  refine Wk<|Wq<|Wb<|Wm z<|RM z z ?_
  obtain ⟨xe,ef,L⟩:=bdS hmd;refine RX z (at_ (α:=Str) a_0 z_9 z z z O ef) ?_;rintro _ ⟨_,_,_,rfl,hg,hh,_⟩;obtain ⟨rfl,_⟩:=b_s hh;refine R z (l0 g_9 z<|hg.at0 z)<|R z (lnT d_9 z)<|R z (sb_ z z)<|Rw z<|Wm z<|Rl z z z<|Wx z (fun H=>?_) (fun H=>?_)
  ·exact Ws<|Rw z<|Wr<|rtO<|qL (som<|ifT L H).symm<|e_ hr z ⟨s4,z,ii z⟩
  exact Wk<|Wg<|Rm z<|R z (inc_ J (lt_ (repS.len h) H_) z z)<|Ra z<|Wl (fun _ q=>⟨K_ x0 (xe.b.length:Int),(som<|ifF L H).symm,⟨q.k<|s3 z z z,s4,iS _ _⟩⟩)
 ·rintro x0 _ _ ⟨hSi,sa,h1⟩;refine Wu ?_ hSi;refine Wq<|Wm z<|Rm z<|R z (lnR a_0 z<|h.e sa)<|Rl z z z<|Wx z (fun hc=>(Y_ hc).elim) (fun _=>?_)
  exact We<|fun _ q=>⟨rfl,⟨q.k<|s1 z,sa,h1⟩⟩
 ·rintro x0 aj _ rfl ⟨_,sk,h1⟩;have hml:=elL I;revert aj;refine Wo<|Wm z<|Rw z ?_
  obtain rfl:=som hml;exact Wr<|e_ hr z ⟨sk,z,h1⟩
 rintro _ _ _ _ rfl ⟨rfl,hqm⟩;have hmn:=elR I;obtain rfl:=som hmn;exact ⟨hqm,z⟩
theorem W_w0v {x1:List Int}{x2:Int}{res:Int}(hm:f_p x1 x2=some res)(I:B<=w0.z)(G:repS w0 B (sl A0 N0 C0) x1)(H:inI x2):j_ prog 40 [sl A0 N0 C0,vI x2] w0 (Q0 w0 B res):=by
 unfold f_p at hm
 refine goG func40 z z z fun fn hr=>Ws<|Rw z<|Wm z<|Rm z<|R z (lnR r_ z G)<|R z (sb_ z z)<|Rw z<|Wq<|Wm z<|Rl z z z<|Wx z (fun h=>?_) (fun h=>?_)
 ·refine Ws<|Rw z ?_
  obtain rfl:=som<|ifT hm h;exact Wr<|e_ hr z ⟨br w0,z,ii z⟩
 refine Wk<|Wm z<|Rw z ?_
 obtain rfl:=som<|ifF hm h;exact Wr<|e_ hr z ⟨br w0,z,iS _ _⟩
theorem W_w1s {x1:a_}{x2:Int}{res:Int}(hm:e_u x1 x2=some res)(G:B<=w0.z)(a1:x1.name.b.length<=LEN)(a2:inI x1.kind)(a3:inI x1.size)(V:repS w0 B (sl A9 N9 C9) x1.bytes)(W:repS w0 B (sl A8 N8 C8) x1.names)(Y:repS w0 B (sl AA NA CA) x1.tags)(a0:repS w0 B (sl AB NB CB) x1.kids)(a4:inI x2):j_ prog 25 [(.agg #[Str.v x1.name,vI x1.kind,vI x1.size,vB x1.little,sl A9 N9 C9,sl A8 N8 C8,sl AA NA CA,sl AB NB CB]),vI x2] w0 (Q0 w0 B res):=by
 unfold e_u at hm
 refine goG func25 z z z fun fn hr=>Ws<|E z (fb z) ?_
 rintro _ wl ⟨rfl,ha⟩;have h:=ha.below;have h4:Blk wl w0.z (vR x1 A9 N9 C9 A8 N8 C8 AA NA CA AB NB CB):=ha.blk;refine Rw z<|Wm z<|Rf z j_V z<|R z (l0 g_9 z<|h4.at z)<|R z (lnT d_9 z)<|R z (sb_ z z)<|Rw z<|Wq<|Wm z<|Rl z z z<|Wx z (fun H=>?_) (fun H=>?_)
 ·refine Ws<|Rw z ?_
  obtain rfl:=som<|ifT hm H;exact Wr<|e_ hr z ⟨h,z,ii z⟩
 refine Wk<|Ws<|Rf z j_W z<|R z (l0 T_ z<|h4.at z)<|Rm z ?_
 obtain ⟨_,en,hmb⟩:=bdS<|ifF hm H;refine E z (fc call38 z<|W_w1q en (zt' G h.s) (V.e h)<|iS _ _) ?_;rintro _ _ ⟨s1,rfl,ho⟩;refine Rw z<|Wq<|Wm z<|Rl z z z<|Wx z (fun I=>?_) (fun I=>?_)
 ·refine Ws<|Rw z ?_
  obtain rfl:=som<|ifT hmb I;exact Wr<|e_ hr z ⟨bup h s1,z,ii z⟩
 refine Wk<|Ws<|Rf z j_X z ?_
 have hc:=h4.e s1;refine R z (l0 a_B z<|hc.at z)<|Rm z ?_
 have hd:=(h.ag B).e s1;have he:=lt_ h.s s1.s;obtain ⟨_,ep,hmf⟩:=bdS<|ifF hmb I;refine E z (fc call39 z<|W_w1r ep (zt' G he) (W.g hd) ho) ?_;rintro _ _ ⟨s2,rfl,hq⟩;refine Rw z<|Wq<|Wm z<|Rl z z z<|Wx z (fun J=>?_) (fun J=>?_)
 ·refine Ws<|Rw z ?_
  obtain rfl:=som<|ifT hmf J;exact Wr<|e_ hr z ⟨bup (bup h s1) s2,z,ii z⟩
 refine Wk<|Ws<|Rf z j_Y z ?_
 have hg:=hc.e s2;refine R z (l0 w_ z<|hg.at z)<|Rm z ?_
 have hh:=hd.e s2;have hi:=lt_ he s2.s;obtain ⟨_,er,hmj⟩:=bdS<|ifF hmf J;refine E z (fc call40 z<|W_w0v er (zt' G hi) (Y.g hh) hq) ?_;rintro _ _ ⟨s3,rfl,ht⟩;refine Rw z<|Wq<|Wm z<|Rl z z z<|Wx z (fun L=>?_) (fun L=>?_)
 ·refine Ws<|Rw z ?_
  obtain rfl:=som<|ifT hmj L;exact Wr<|e_ hr z ⟨bup (bup (bup h s1) s2) s3,z,ii z⟩
 refine Wk<|Ws<|Rf z j_Z z<|R z (l0 w_ z<|(hg.e s3).at z)<|Rm z ?_
 obtain ⟨_,es,hmk⟩:=bdS<|ifF hmj L;refine E z (fc call40 z<|W_w0v es (zt' G<|lt_ hi s3.s) (a0.g<|hh.e s3) ht) ?_;rintro _ _ ⟨sm,rfl,hu⟩;refine Rw z<|Wq<|Wm z<|Rl z z z<|Wx z (fun O=>?_) (fun O=>?_)
 ·refine Ws<|Rw z ?_
  obtain rfl:=som<|ifT hmk O;exact Wr<|e_ hr z ⟨bup (bup (bup (bup h s1) s2) s3) sm,z,ii z⟩
 refine Wk<|Wm z<|Rw z ?_
 obtain rfl:=som<|ifF hmk O;exact Wr<|e_ hr z ⟨bup (bup (bup (bup h s1) s2) s3) sm,z,hu⟩
theorem W_w1t {x1:List a_}{x2:Int}{res:Int}(hm:h_r x1 x2=some res)(a1:B<=w0.z)(h:repS w0 B (sl A0 N0 C0) x1)(aa:inI x2):j_ prog 14 [sl A0 N0 C0,vI x2] w0 (Q0 w0 B res):=by
 unfold h_r at hm
 refine goG func14 z z z fun fn hr=>Ws<|Rw z<|Wm z<|Rm z<|R z (lnR d_2 z h)<|R z (sb_ z z)<|Rw z<|Wq<|Wm z<|Rl z z z<|Wx z (fun G=>?_) (fun G=>?_)
 ·refine Ws<|Rw z ?_
  obtain rfl:=som<|ifT hm G;exact Wr<|e_ hr z ⟨br w0,z,ii z⟩
 refine Wk<|Wq<|Ws<|Rw z ?_
 obtain ⟨_,huc,I⟩:=bdS<|ifF hm G;refine Wf (σ:=Int) (ρ:=Int) (fun (k6:Nat)(x0:Int) a w=>Sat 27 [(0,sl A0 N0 C0),(1,vI x0),(5,vI ((k6:Nat):Int))] a/\Below w0.z w0 w/\inI x0) (fun (x0:Int) a w=>Sat 27 [(1,vI x0)] a/\Below w0.z w0 w/\inI x0) (rQ prog fn<|Q0 w0 B) huc ?_ ?_ ?_ ?_ ?_
 ·exact fun _ q=>⟨q.k<|s3 z z z,br w0,iS _ _⟩
 ·rintro k6 x0 _ _ _ J ⟨hSd,s2,h1⟩ hme;refine Wu ?_ hSd;refine Wq<|Wm z<|Rm z ?_
  have O:=h.e s2;refine R z (lnR d_2 z O)<|Rl z z z<|Wx z (fun _=>?_) (fun hc=>(X_ J hc).elim)
  refine Wk<|Wq<|Wb<|Wm z<|Rm z ?_
  obtain ⟨xf,eg,hmh⟩:=bdS hme;refine RX z (at_ (α:=a_) d_2 z_57 z z z O eg) ?_;rintro _ ⟨_,_,_,rfl,hi,hj,_⟩;obtain ⟨ak,nl,cm,an,no,cp,aq,nr,cs,au,nt,cv,rfl,hw,hx,hy,hz,a2,a3,a4⟩:=a_y hj;refine R z (lN (vs:=vR xf ak nl cm an no cp aq nr cs au nt cv) g_57 z_57 z z fid hi)<|Rm z ?_
  obtain ⟨a5,a6,L⟩:=bdS hmh;refine E z (fc call25 z<|W_w1s a6 (zt' a1 s2.s) hw hx hy hz a2 a3 a4 h1) ?_;rintro _ _ ⟨sa,rfl,a7⟩;refine Rw z<|Wm z<|Rl z z z<|Wx z (fun H=>?_) (fun H=>?_)
  ·exact Ws<|Rw z<|Wr<|rtO<|qL (som<|ifT L H).symm<|e_ hr z ⟨bup s2 sa,z,ii z⟩
  exact Wk<|Wg<|Rm z<|R z (inc_ J (lt_ (repS.len h) H_) z z)<|Ra z<|Wl (fun _ q=>⟨a5,(som<|ifF L H).symm,⟨q.k<|s3 z z z,bup s2 sa,a7⟩⟩)
 ·rintro x0 _ _ ⟨V,sb,h1⟩;refine Wu ?_ V;refine Wq<|Wm z<|Rm z<|R z (lnR d_2 z<|h.e sb)<|Rl z z z<|Wx z (fun hc=>(Y_ hc).elim) (fun _=>?_)
  exact We<|fun _ q=>⟨rfl,⟨q.k<|s1 z,sb,h1⟩⟩
 ·rintro x0 a8 _ rfl ⟨_,a9,h1⟩;have W:=elL I;revert a8;refine Wo<|Wm z<|Rw z ?_
  obtain rfl:=som W;exact Wr<|e_ hr z ⟨a9,z,h1⟩
 rintro _ _ _ _ rfl ⟨rfl,Y⟩;have a0:=elR I;obtain rfl:=som a0;exact ⟨Y,z⟩
theorem W_w1u {x1:g_}{x2:Int}{res:Int}(hm:f_q x1 x2=some res)(L:B<=w0.z)(I:repS w0 B (sl A0 N0 C0) x1.rules)(J:inI x2):j_ prog 4 [(.agg #[sl A0 N0 C0]),vI x2] w0 (Q0 w0 B res):=by
 unfold f_q at hm
 refine goG func4 z z z fun fn hr=>Ws<|E z (fb z) ?_
 rintro _ O ⟨rfl,h2⟩;have h:=h2.below;refine Rw z<|Ws<|Rf z j_R z<|R z (l0 g_22 z<|(h2.blk:Blk O w0.z [sl A0 N0 C0]).at z)<|Rm z ?_
 obtain ⟨_,V,H⟩:=bdS hm;refine E z (fc call14 z<|W_w1t V (zt' L h.s) (I.e h) J) ?_;rintro _ _ ⟨s4,rfl,W⟩;refine Rw z<|Wq<|Wm z<|Rl z z z<|Wx z (fun G=>?_) (fun G=>?_)
 ·refine Ws<|Rw z ?_
  obtain rfl:=som<|ifT H G;exact Wr<|e_ hr z ⟨bup h s4,z,ii z⟩
 refine Wk<|Wm z<|Rw z ?_
 obtain rfl:=som<|ifF H G;exact Wr<|e_ hr z ⟨bup h s4,z,W⟩
def Q1 (w0:World)(B:Zone)(r:(List UInt8))(v:Value)(w':World):Prop:=Bw w0 w'/\(fun H=>∃a1 h G S1,(sl a1 h G)=v/\b_ w' S1 (sl a1 h G) H/\S1.Nodup/\(∀k∈S1,w0.z<=k)) r
theorem f_0 {x1:List UInt8}{res:(List UInt8)}(hm:c_O x1=some res)(W:B<=w0.z)(V:repS w0 B (sl A0 N0 C0) x1):j_ prog 7 [sl A0 N0 C0] w0 (Q1 w0 B res):=by
 unfold c_O at hm
 refine goG func7 z z z fun fn hr=>Ws<|Rw z<|Wm z<|R z (lnR l_ z V) ?_
 obtain ⟨_,ej,hmk⟩:=bdS hm;refine E z (e_7 (α:=UInt8) a_C (fun _=>m_H) ej z z) ?_;rintro _ G ⟨H,I,J,rfl,s9,hl⟩;refine Rw z<|Wq<|Ws<|Rw z ?_
 obtain ⟨_,hum,hmb⟩:=bdS hmk;refine Wf (σ:=List UInt8) (ρ:=List UInt8) (fun (kc:Nat)(x2:List UInt8) a w=>∃(h:List Nat),Sat 22 [(0,sl A0 N0 C0),(3,sl H I J),(4,vI ((kc:Nat):Int))] a/\Chg (· ∈ [w0.z]) G w/\b_ w h (sl H I J) x2/\h.Nodup/\(∀k∈h,k∈[w0.z]∨G.z<=k)) (fun (x2:List UInt8) a w=>∃(h:List Nat),Sat 22 [(3,sl H I J)] a/\Chg (· ∈ [w0.z]) G w/\b_ w h (sl H I J) x2/\h.Nodup/\(∀k∈h,k∈[w0.z]∨G.z<=k)) (rQ prog fn<|Q1 w0 B) hum ?_ ?_ ?_ ?_ ?_
 ·exact fun _ q=>⟨[w0.z],q.k<|s3 z z z,cr [w0.z] G,hl,a_X,io sr⟩
 ·rintro kc x2 _ wn _ hkd ⟨h,hSo,sa,h3,L,O⟩ hmp;refine Wu ?_ hSo;refine Wq<|Wm z<|Rm z ?_
  have he:=V.g<|(s9.ag B).c sa<|c_ (or0 (f_ lr) (m_ W):∀k∈[w0.z],¬B k)
  refine R z (lnR l_ z he)<|Rl z z z<|Wx z (fun _=>?_) (fun hc=>(X_ hkd hc).elim)
  refine Wk<|Wq<|Wb<|Wg<|RM z z<|RM z z ?_
  obtain ⟨_,er,hms⟩:=bdS hmp;refine RX z (at_ (α:=UInt8) l_ z_5 z z z he er) ?_;rintro _ ⟨_,_,_,rfl,ht,hu,_⟩;obtain rfl:=u8 hu;refine R z (l0 g_5 z<|ht.at0 z) ?_;obtain ⟨xv,ef,hmw⟩:=bdS hms;refine RX z (b_P (α:=UInt8) l_ z_5 z z h3 ef) ?_;rintro _ ⟨_,hx,rfl⟩;refine E0 (b_Q (α:=UInt8) z_5 z hx z z z ef h3 L c_d an_ a_f) ?_;rintro _ wy ⟨Sg,sz,a3,a5,a6⟩;refine Wn<|Wg<|Rm z<|R z (inc_ hkd (lt_ (repS.len V) H_) z z)<|Ra z<|Wl ?_
  have hh:∀k∈h,k∈[w0.z]∨G.z<=k:=or1 O (io sr)<|x_ lr;exact fun _ q=>⟨xv,(som hmw).symm,⟨Sg,q.k<|s3 z z z,(cM (cM (cr [w0.z] G) sa (io sr):Chg (· ∈ [w0.z]) G wn) sz hh:Chg (· ∈ [w0.z]) G wy),a3,a5,(or2 a6 hh an_ (x_ sa.s):∀k∈Sg,k∈[w0.z]∨G.z<=k)⟩⟩
 ·rintro x2 _ a7 ⟨h,Y,si,h3,L,O⟩;refine Wu ?_ Y;refine Wq<|Wm z<|Rm z ?_
  refine R z (lnR l_ z<|V.g<|(s9.ag B).c si<|c_ (or0 (f_ lr) (m_ W):∀k∈[w0.z],¬B k))<|Rl z z z<|Wx z (fun hc=>(Y_ hc).elim) (fun _=>?_)
  exact We<|fun _ q=>⟨rfl,⟨h,q.k<|s1 z,(cM (cr [w0.z] G) si (io sr):Chg (· ∈ [w0.z]) G a7),h3,L,(or1 O (io sr) (x_ lr):∀k∈h,k∈[w0.z]∨G.z<=k)⟩⟩
 ·rintro x2 a8 _ rfl ⟨h,_,a9,h3,L,O⟩;have a0:=elL hmb;revert a8;refine Wo<|Wm z<|Rw z ?_
  obtain rfl:=som a0;exact Wr<|e_ hr z ⟨bM s9 a9<|f_ lr,H,I,J,h,z,h3,L,(or1 O (f_ lr) (b_O s9.s):∀k∈h,w0.z<=k)⟩
 rintro _ _ _ _ rfl ⟨rfl,a1⟩;have a2:=elR hmb;obtain rfl:=som a2;exact ⟨a1,z⟩
def Q2 (w0:World)(B:Zone)(r:(List Str))(v:Value)(w':World):Prop:=Bw w0 w'/\(fun H=>∃a1 h G S1,(sl a1 h G)=v/\b_ w' S1 (sl a1 h G) H/\S1.Nodup/\(∀k∈S1,w0.z<=k)) r
theorem W_w1v {x1:List Str}{res:(List Str)}(hm:f_r x1=some res)(W:B<=w0.z)(V:repS w0 B (sl A0 N0 C0) x1):j_ prog 43 [sl A0 N0 C0] w0 (Q2 w0 B res):=by
 unfold f_r at hm
 refine goG func43 z z z fun fn hr=>Ws<|Rw z<|Wm z<|R z (lnR a_0 z V) ?_
 obtain ⟨_,ej,hmk⟩:=bdS hm;refine E z (e_7 (α:=Str) c_f (fun _=>c_x<|lb z) ej z z) ?_;rintro _ G ⟨H,I,J,rfl,s9,hl⟩;refine Rw z<|Wq<|Ws<|Rw z ?_
 obtain ⟨_,hum,hmb⟩:=bdS hmk;refine Wf (σ:=List Str) (ρ:=List Str) (fun (kc:Nat)(x2:List Str) a w=>∃(h:List Nat),Sat 22 [(0,sl A0 N0 C0),(3,sl H I J),(4,vI ((kc:Nat):Int))] a/\Chg (· ∈ [w0.z]) G w/\b_ w h (sl H I J) x2/\h.Nodup/\(∀k∈h,k∈[w0.z]∨G.z<=k)) (fun (x2:List Str) a w=>∃(h:List Nat),Sat 22 [(3,sl H I J)] a/\Chg (· ∈ [w0.z]) G w/\b_ w h (sl H I J) x2/\h.Nodup/\(∀k∈h,k∈[w0.z]∨G.z<=k)) (rQ prog fn<|Q2 w0 B) hum ?_ ?_ ?_ ?_ ?_
 ·exact fun _ q=>⟨[w0.z],q.k<|s3 z z z,cr [w0.z] G,hl,a_X,io sr⟩
 ·rintro kc x2 _ wn _ hkd ⟨h,hSo,sa,h3,L,O⟩ hmp;refine Wu ?_ hSo;refine Wq<|Wm z<|Rm z ?_
  have he:=V.g<|(s9.ag B).c sa<|c_ (or0 (f_ lr) (m_ W):∀k∈[w0.z],¬B k)
  refine R z (lnR a_0 z he)<|Rl z z z<|Wx z (fun _=>?_) (fun hc=>(X_ hkd hc).elim)
  refine Wk<|Wq<|Wb<|Wg<|RM z z<|RM z z ?_
  obtain ⟨_,er,hms⟩:=bdS hmp;refine RX z (at_ (α:=Str) a_0 z_9 z z z he er) ?_;rintro _ ⟨_,_,_,rfl,ht,hu,_⟩;obtain ⟨rfl,hv⟩:=b_s hu;refine R z (l0 g_9 z<|ht.at0 z) ?_;obtain ⟨xw,ef,hmx⟩:=bdS hms;refine RX z (b_P (α:=Str) a_0 z_9 z z h3 ef) ?_;rintro _ ⟨_,hy,rfl⟩;refine E0 (b_Q (α:=Str) z_9 z hy z z z ef h3 L (c_x hv) an_ a_f) ?_;rintro _ wz ⟨Sg,a3,a5,a6,a7⟩;refine Wn<|Wg<|Rm z<|R z (inc_ hkd (lt_ (repS.len V) H_) z z)<|Ra z<|Wl ?_
  have hh:∀k∈h,k∈[w0.z]∨G.z<=k:=or1 O (io sr)<|x_ lr;exact fun _ q=>⟨xw,(som hmx).symm,⟨Sg,q.k<|s3 z z z,(cM (cM (cr [w0.z] G) sa (io sr):Chg (· ∈ [w0.z]) G wn) a3 hh:Chg (· ∈ [w0.z]) G wz),a5,a6,(or2 a7 hh an_ (x_ sa.s):∀k∈Sg,k∈[w0.z]∨G.z<=k)⟩⟩
 ·rintro x2 _ a8 ⟨h,Y,si,h3,L,O⟩;refine Wu ?_ Y;refine Wq<|Wm z<|Rm z ?_
  refine R z (lnR a_0 z<|V.g<|(s9.ag B).c si<|c_ (or0 (f_ lr) (m_ W):∀k∈[w0.z],¬B k))<|Rl z z z<|Wx z (fun hc=>(Y_ hc).elim) (fun _=>?_)
  exact We<|fun _ q=>⟨rfl,⟨h,q.k<|s1 z,(cM (cr [w0.z] G) si (io sr):Chg (· ∈ [w0.z]) G a8),h3,L,(or1 O (io sr) (x_ lr):∀k∈h,k∈[w0.z]∨G.z<=k)⟩⟩
 ·rintro x2 a9 _ rfl ⟨h,_,aa,h3,L,O⟩;have a0:=elL hmb;revert a9;refine Wo<|Wm z<|Rw z ?_
  obtain rfl:=som a0;exact Wr<|e_ hr z ⟨bM s9 aa<|f_ lr,H,I,J,h,z,h3,L,(or1 O (f_ lr) (b_O s9.s):∀k∈h,w0.z<=k)⟩
 rintro _ _ _ _ rfl ⟨rfl,a1⟩;have a2:=elR hmb;obtain rfl:=som a2;exact ⟨a1,z⟩
def Q3 (w0:World)(B:Zone)(r:(List Int))(v:Value)(w':World):Prop:=Bw w0 w'/\(fun H=>∃a1 h G S1,(sl a1 h G)=v/\b_ w' S1 (sl a1 h G) H/\S1.Nodup/\(∀k∈S1,w0.z<=k)) r
theorem W_w0w {x1:List Int}{res:(List Int)}(hm:e_v x1=some res)(W:B<=w0.z)(V:repS w0 B (sl A0 N0 C0) x1):j_ prog 44 [sl A0 N0 C0] w0 (Q3 w0 B res):=by
 unfold e_v at hm
 refine goG func44 z z z fun fn hr=>Ws<|Rw z<|Wm z<|R z (lnR r_ z V) ?_
 obtain ⟨_,ej,hmk⟩:=bdS hm;refine E z (e_7 (α:=Int) i_c (fun _=>c_w<|ii z) ej z z) ?_;rintro _ G ⟨H,I,J,rfl,s9,hl⟩;refine Rw z<|Wq<|Ws<|Rw z ?_
 obtain ⟨_,hum,hmb⟩:=bdS hmk;refine Wf (σ:=List Int) (ρ:=List Int) (fun (kc:Nat)(x2:List Int) a w=>∃(h:List Nat),Sat 22 [(0,sl A0 N0 C0),(3,sl H I J),(4,vI ((kc:Nat):Int))] a/\Chg (· ∈ [w0.z]) G w/\b_ w h (sl H I J) x2/\h.Nodup/\(∀k∈h,k∈[w0.z]∨G.z<=k)) (fun (x2:List Int) a w=>∃(h:List Nat),Sat 22 [(3,sl H I J)] a/\Chg (· ∈ [w0.z]) G w/\b_ w h (sl H I J) x2/\h.Nodup/\(∀k∈h,k∈[w0.z]∨G.z<=k)) (rQ prog fn<|Q3 w0 B) hum ?_ ?_ ?_ ?_ ?_
 ·exact fun _ q=>⟨[w0.z],q.k<|s3 z z z,cr [w0.z] G,hl,a_X,io sr⟩
 ·rintro kc x2 _ wn _ hkd ⟨h,hSo,sa,h3,L,O⟩ hmp;refine Wu ?_ hSo;refine Wq<|Wm z<|Rm z ?_
  have he:=V.g<|(s9.ag B).c sa<|c_ (or0 (f_ lr) (m_ W):∀k∈[w0.z],¬B k)
  refine R z (lnR r_ z he)<|Rl z z z<|Wx z (fun _=>?_) (fun hc=>(X_ hkd hc).elim)
  refine Wk<|Wq<|Wb<|Wg<|RM z z<|RM z z ?_
  obtain ⟨_,er,hms⟩:=bdS hmp;refine RX z (at_ (α:=Int) r_ z_3 z z z he er) ?_;rintro _ ⟨_,_,_,rfl,ht,hu,_⟩;obtain ⟨rfl,hv⟩:=O_ hu;refine R z (l0 g_3 z<|ht.at0 z) ?_;obtain ⟨xw,ef,hmx⟩:=bdS hms;refine RX z (b_P (α:=Int) r_ z_3 z z h3 ef) ?_;rintro _ ⟨_,hy,rfl⟩;refine E0 (b_Q (α:=Int) z_3 z hy z z z ef h3 L (c_w hv) an_ a_f) ?_;rintro _ wz ⟨Sg,a3,a5,a6,a7⟩;refine Wn<|Wg<|Rm z<|R z (inc_ hkd (lt_ (repS.len V) H_) z z)<|Ra z<|Wl ?_
  have hh:∀k∈h,k∈[w0.z]∨G.z<=k:=or1 O (io sr)<|x_ lr;exact fun _ q=>⟨xw,(som hmx).symm,⟨Sg,q.k<|s3 z z z,(cM (cM (cr [w0.z] G) sa (io sr):Chg (· ∈ [w0.z]) G wn) a3 hh:Chg (· ∈ [w0.z]) G wz),a5,a6,(or2 a7 hh an_ (x_ sa.s):∀k∈Sg,k∈[w0.z]∨G.z<=k)⟩⟩
 ·rintro x2 _ a8 ⟨h,Y,si,h3,L,O⟩;refine Wu ?_ Y;refine Wq<|Wm z<|Rm z ?_
  refine R z (lnR r_ z<|V.g<|(s9.ag B).c si<|c_ (or0 (f_ lr) (m_ W):∀k∈[w0.z],¬B k))<|Rl z z z<|Wx z (fun hc=>(Y_ hc).elim) (fun _=>?_)
  exact We<|fun _ q=>⟨rfl,⟨h,q.k<|s1 z,(cM (cr [w0.z] G) si (io sr):Chg (· ∈ [w0.z]) G a8),h3,L,(or1 O (io sr) (x_ lr):∀k∈h,k∈[w0.z]∨G.z<=k)⟩⟩
 ·rintro x2 a9 _ rfl ⟨h,_,aa,h3,L,O⟩;have a0:=elL hmb;revert a9;refine Wo<|Wm z<|Rw z ?_
  obtain rfl:=som a0;exact Wr<|e_ hr z ⟨bM s9 aa<|f_ lr,H,I,J,h,z,h3,L,(or1 O (f_ lr) (b_O s9.s):∀k∈h,w0.z<=k)⟩
 rintro _ _ _ _ rfl ⟨rfl,a1⟩;have a2:=elR hmb;obtain rfl:=som a2;exact ⟨a1,z⟩
def Q4 (w0:World)(B:Zone)(r:a_)(v:Value)(w':World):Prop:=Bw w0 w'/\(fun h=>∃a1 G H S1 a2 I J S2 L O V S3 W Y c4 S4,(.agg #[Str.v h.name,vI h.kind,vI h.size,vB h.little,sl a1 G H,sl a2 I J,sl L O V,sl W Y c4])=v/\h.name.b.length<=LEN/\inI h.kind/\inI h.size/\b_ w' S1 (sl a1 G H) h.bytes/\b_ w' S2 (sl a2 I J) h.names/\b_ w' S3 (sl L O V) h.tags/\b_ w' S4 (sl W Y c4) h.kids/\(S1++(S2++(S3++S4))).Nodup/\(∀k∈(S1++(S2++(S3++S4))),w0.z<=k)) r
theorem W_w1w {x1:a_}{res:a_}(hm:f_s x1=some res)(J:B<=w0.z)(aD:x1.name.b.length<=LEN)(aE:inI x1.kind)(aF:inI x1.size)(aG:repS w0 B (sl A9 N9 C9) x1.bytes)(aH:repS w0 B (sl A8 N8 C8) x1.names)(aI:repS w0 B (sl AA NA CA) x1.tags)(aJ:repS w0 B (sl AB NB CB) x1.kids):j_ prog 27 [(.agg #[Str.v x1.name,vI x1.kind,vI x1.size,vB x1.little,sl A9 N9 C9,sl A8 N8 C8,sl AA NA CA,sl AB NB CB])] w0 (Q4 w0 B res):=by
 unfold f_s at hm
 refine goG func27 z z z fun fn hr=>Ws<|E z (fb z) ?_
 rintro _ a6 ⟨rfl,a7⟩;have hw:=a7.below;have a8:Blk a6 w0.z (vR x1 A9 N9 C9 A8 N8 C8 AA NA CA AB NB CB):=a7.blk;refine E z (fa b_w) ?_;rintro _ W ⟨rfl,a9⟩;have hp:=a9.below;have hh:Blk W a6.z [(Str.v (⟨[]⟩:Str)),vI 0,vI 0,vB false,sl none 0 0,sl none 0 0,sl none 0 0,sl none 0 0]:=a9.blk;refine Wn<|Ws<|E z (fa b_w) ?_
 rintro _ aO ⟨rfl,aa⟩;have hi:=aa.below;have hq:Blk aO W.z [(Str.v (⟨[]⟩:Str)),vI 0,vI 0,vB false,sl none 0 0,sl none 0 0,sl none 0 0,sl none 0 0]:=aa.blk;refine Wn<|Ws<|Rf z j_V z ?_
 have ab:=(a8.e hp).e hi;refine R z (l0 g_9 z<|ab.at z)<|Rf z c_g z<|E0 (fs0 (cur':=[Str.v x1.name,vI 0,vI 0,vB false,sl none 0 0,sl none 0 0,sl none 0 0,sl none 0 0]) z_9 z z hq z z z z) ?_
 rintro _ _ ⟨aP,aQ⟩;have H:=aQ.one;refine Wn<|Ws<|Rf z f_57_1 z ?_
 have I:=mm1 a8.lt hp.s;have ad:=ab.c H<|djs I
 refine R z (l0 g_3 z<|ad.at z)<|Rf z a_s z<|E0 (fs0 (cur':=[Str.v x1.name,vI x1.kind,vI 0,vB false,sl none 0 0,sl none 0 0,sl none 0 0,sl none 0 0]) z_3 z z aP z z z z) ?_
 rintro _ _ ⟨aR,aS⟩;have ha:=aS.one;refine Wn<|Ws<|Rf z f_57_2 z ?_
 have af:=ad.c ha<|djs I
 refine R z (l0 g_3 z<|af.at z)<|Rf z a_z z<|E0 (fs0 (cur':=[Str.v x1.name,vI x1.kind,vI x1.size,vB false,sl none 0 0,sl none 0 0,sl none 0 0,sl none 0 0]) z_3 z z aR z z z z) ?_
 rintro _ _ ⟨aT,aU⟩;have hb:=aU.one;refine Wn<|Ws<|Rf z f_57_3 z ?_
 have ah:=af.c hb<|djs I
 refine R z (l0 g_4 z<|ah.at z)<|Rf z b_D z<|E0 (fs0 (cur':=vR x1 none 0 0 none 0 0 none 0 0 none 0 0) z_4 z z aT z z z z) ?_
 rintro _ _ ⟨aV,aW⟩;have hc:=aW.one;refine Wn<|Ws<|Rf z j_W z ?_
 have ai:=ah.c hc<|djs I
 refine R z (l0 T_ z<|ai.at z) ?_;have Y:=lt_ hw.s hp.s;have hd:∀k∈[W.z],¬B k:=or0 (f_ lr)<|m_<|zt' J Y;have ak:=((((((hw.ag B).e hp).e hi).c H<|c_ hd).c ha<|c_ hd).c hb<|c_ hd).c hc<|c_ hd
 have a0:=lt_ (lt_ (lt_ (lt_ (lt_ Y hi.s) H.s) ha.s) hb.s) hc.s;obtain ⟨_,aX,aK⟩:=bdS hm;refine E z (fc call7 z<|f_0 aX (zt' J a0)<|aG.g ak) ?_;rintro _ _ ⟨s5,ae,nf,cg,aY,rfl,hx,aZ,a1⟩;refine Rf z a_I z<|E0 (fs0 (cur':=vR x1 ae nf cg none 0 0 none 0 0 none 0 0) z_25 z z (aV.e s5) z z z z) ?_
 rintro _ _ ⟨b0,b1⟩;have h3:=b1.one;refine Wn<|Ws<|Rf z j_X z ?_
 have al:=(ai.e s5).c h3<|djs I
 refine R z (l0 a_B z<|al.at z) ?_;have am:=(ak.e s5).c h3<|c_ hd
 have a2:=lt_ (lt_ a0 s5.s) h3.s;obtain ⟨_,b2,aL⟩:=bdS aK;refine E z (fc call43 z<|W_w1v b2 (zt' J a2)<|aH.g am) ?_;rintro _ _ ⟨s4,aj,nk,cl,b3,rfl,a3,b4,hy⟩;refine Rf z b_m z<|E0 (fs0 (cur':=vR x1 ae nf cg aj nk cl none 0 0 none 0 0) d_E z z (b0.e s4) z z z z) ?_
 rintro _ _ ⟨b5,b6⟩;have h1:=b6.one;refine Wn<|Ws<|Rf z j_Y z ?_
 have an:=(al.e s4).c h1<|djs I
 refine R z (l0 w_ z<|an.at z) ?_;have ao:=(am.e s4).c h1<|c_ hd
 have a4:=lt_ (lt_ a2 s4.s) h1.s;obtain ⟨_,b7,aM⟩:=bdS aL;refine E z (fc call44 z<|W_w0w b7 (zt' J a4)<|aI.g ao) ?_;rintro _ _ ⟨s2,ar,ns,ct,b8,rfl,ap,b9,hu⟩;refine Rf z a_D z<|E0 (fs0 (cur':=vR x1 ae nf cg aj nk cl ar ns ct none 0 0) z_55 z z (b5.e s2) z z z z) ?_
 rintro _ _ ⟨ba,bb⟩;have h:=bb.one;refine Wn<|Ws<|Rf z j_Z z<|R z (l0 w_ z<|((an.e s2).c h<|djs I).at z) ?_
 have aq:=lt_ (lt_ a4 s2.s) h.s;obtain ⟨_,bc,aN⟩:=bdS aM;refine E z (fc call44 z<|W_w0w bc (zt' J aq)<|aJ.g<|(ao.e s2).c h<|c_ hd) ?_;rintro _ _ ⟨sm,az,L,O,be,rfl,bf,bg,hn⟩;refine Rf z M_ z<|E0 (fs0 (cur':=vR x1 ae nf cg aj nk cl ar ns ct az L O) z_55 z z (ba.e sm) z z z z) ?_
 rintro _ _ ⟨bh,bi⟩;have ho:=bi.one;refine Wn<|Ws<|R z (lN (vs:=vR x1 ae nf cg aj nk cl ar ns ct az L O) G_ n_ z z fid<|bh.row 0 8 z) ?_
 have h6:=mmr hh.lt;refine E0 (fs0 (cur':=vR x1 ae nf cg aj nk cl ar ns ct az L O) n_ z z (((((((((((((hh.e hi).c H<|djs h6).c ha<|djs h6).c hb<|djs h6).c hc<|djs h6).e s5).c h3<|djs h6).e s4).c h1<|djs h6).e s2).c h<|djs h6).e sm).c ho<|djs h6) z z z z) ?_;rintro _ _ ⟨bj,bk⟩;have hv:=bk.one;refine Wn ?_;obtain rfl:=som aN;have au:=lt_ (lt_ (lt_ H.s ha.s) hb.s) hc.s;have V:=p_ a1 hq.lt au;have av:=lt_ (lt_ (lt_ (lt_ hi.s H.s) ha.s) hb.s) hc.s;have aw:=lt_ (lt_ au s5.s) h3.s;have a5:=p_ hy hq.lt aw;have ax:=lt_ (lt_ av s5.s) h3.s;have ay:=lt_ (lt_ aw s4.s) h1.s;have aA:=p_ hu hq.lt ay;have aB:=lt_ (lt_ ax s4.s) h1.s;have G:=m1 Y;have aC:=lt_ (lt_ h3.s s4.s) h1.s;exact Wr<|e_ hr (o_ G_ n_ z bj z) ⟨bM (bM (bup (bM (bup (bM (bup (bM (bup (bM (bM (bM (bM (bup (bup hw hp) hi) H G) ha G) hb G) hc G) s5) h3 G) s4) h1 G) s2) h G) sm) ho G) hv<|m1 hw.s,ae,nf,cg,aY,aj,nk,cl,b3,ar,ns,ct,b8,az,L,O,be,z,aD,aE,aF,(((((((hx.c h3 V).e s4).c h1 V).e s2).c h V).e sm).c ho V).c hv<|p_ a1 hh.lt av,(((((a3.c h1 a5).e s2).c h a5).e sm).c ho a5).c hv<|p_ hy hh.lt ax,(((ap.c h aA).e sm).c ho aA).c hv<|p_ hu hh.lt aB,(bf.c ho<|p_ hn hq.lt<|lt_ (lt_ ay s2.s) h.s).c hv<|p_ hn hh.lt<|lt_ (lt_ aB s2.s) h.s,na_ aZ (na_ b4 (na_ b9 bg<|ds<|a_G hn (b_.lt ap) h.s)<|nmA (ds<|a_G hu (b_.lt a3) h1.s)<|ds<|a_G hn (b_.lt a3)<|lt_ (lt_ h1.s s2.s) h.s)<|nmA (ds<|a_G hy (b_.lt hx) h3.s)<|nmA (ds<|a_G hu (b_.lt hx) aC)<|ds<|a_G hn (b_.lt hx)<|lt_ (lt_ aC s2.s) h.s,aa_ (k_ a1 a0)<|aa_ (k_ hy a2)<|aa_ (k_ hu a4)<|k_ hn aq⟩
def Q5 (w0:World)(B:Zone)(r:(List a_))(v:Value)(w':World):Prop:=Bw w0 w'/\(fun H=>∃a1 h G S1,(sl a1 h G)=v/\b_ w' S1 (sl a1 h G) H/\S1.Nodup/\(∀k∈S1,w0.z<=k)) r
theorem W_w1x {x1:List a_}{res:(List a_)}(hm:h_s x1=some res)(O:B<=w0.z)(L:repS w0 B (sl A0 N0 C0) x1):j_ prog 18 [sl A0 N0 C0] w0 (Q5 w0 B res):=by
 unfold h_s at hm
 refine goG func18 z z z fun fn hr=>Ws<|Rw z<|Wm z<|R z (lnR d_2 z L) ?_
 obtain ⟨_,er,hms⟩:=bdS hm;refine E z (e_7 (α:=a_) el_29 (fun _=>c_b (x:=(⟨(⟨[]⟩:Str),0,0,false,([]:List UInt8),([]:List Str),([]:List Int),([]:List Int)⟩:a_)) (S1:=([]:List Nat)) (S2:=([]:List Nat)) (S3:=([]:List Nat)) (S4:=([]:List Nat)) (lb z) (ii z) (ii z) onL onL onL onL) er z z) ?_;rintro _ h ⟨H,I,J,rfl,sa,ht⟩;refine Rw z<|Wq<|Ws<|Rw z ?_
 obtain ⟨_,huu,hme⟩:=bdS hms;refine Wf (σ:=List a_) (ρ:=List a_) (fun (kf:Nat)(x6:List a_) a w=>∃(G:List Nat),Sat 23 [(0,sl A0 N0 C0),(3,sl H I J),(4,vI ((kf:Nat):Int))] a/\Chg (· ∈ [w0.z]) h w/\b_ w G (sl H I J) x6/\G.Nodup/\(∀k∈G,k∈[w0.z]∨h.z<=k)) (fun (x6:List a_) a w=>∃(G:List Nat),Sat 23 [(3,sl H I J)] a/\Chg (· ∈ [w0.z]) h w/\b_ w G (sl H I J) x6/\G.Nodup/\(∀k∈G,k∈[w0.z]∨h.z<=k)) (rQ prog fn<|Q5 w0 B) huu ?_ ?_ ?_ ?_ ?_
 ·exact fun _ q=>⟨[w0.z],q.k<|s3 z z z,cr [w0.z] h,ht,a_X,io sr⟩
 ·rintro kf x6 _ wv _ hkg ⟨G,hSw,s4,h3,hb,hd⟩ hmx;refine Wu ?_ hSw;refine Wq<|Wm z<|Rm z ?_
  have hh:=L.g<|(sa.ag B).c s4<|c_ (or0 (f_ lr) (m_ O):∀k∈[w0.z],¬B k)
  refine R z (lnR d_2 z hh)<|Rl z z z<|Wx z (fun _=>?_) (fun hc=>(X_ hkg hc).elim)
  refine Wk<|Wq<|Wb<|Wg<|RM z z<|RM z z ?_
  obtain ⟨xz,a4,V⟩:=bdS hmx;refine RX z (at_ (α:=a_) d_2 z_57 z z z hh a4) ?_;rintro _ ⟨_,_,_,rfl,a5,a6,_⟩;obtain ⟨a8,a9,aa,ab,ad,ae,af,ah,ai,aj,ak,al,rfl,am,an,ao,ap,aq,ar,au⟩:=a_y a6;refine R z (lN (vs:=vR xz a8 a9 aa ab ad ae af ah ai aj ak al) g_57 z_57 z z fid a5) ?_;obtain ⟨av,aw,W⟩:=bdS V;refine E z (fc call27 z<|W_w1w aw (zt' O<|lt_ sa.s s4.s) am an ao ap aq ar au) ?_;rintro _ ax ⟨sc,_,_,_,Si,_,_,_,Sj,_,_,_,Sk,_,_,_,Sl,rfl,ay,az,aA,aB,aC,aD,aE,h2,h5⟩;obtain ⟨aF,em,Y⟩:=bdS W;have hn:=h3.e sc;refine RX z (b_P (α:=a_) Q_ n_ z z hn em) ?_;rintro _ ⟨_,aG,rfl⟩;refine E0 (b_Q (α:=a_) n_ z aG z z z em hn hb (c_b (x:=av) (S1:=Si) (S2:=Sj) (S3:=Sk) (S4:=Sl) ay az aA aB aC aD aE) (aa_ (a_G (al_ h5) (b_.lt h3) lr)<|aa_ (a_G (al_<|ar_ h5) (b_.lt h3) lr)<|aa_ (a_G (al_<|ar_<|ar_ h5) (b_.lt h3) lr)<|a_G (ar_<|ar_<|ar_ h5) (b_.lt h3) lr)<|na_ (nl_ h2) (na_ (nl_<|nr_ h2) (na_ (nl_<|nr_<|nr_ h2) (nr_<|nr_<|nr_ h2)<|nj<|nr_<|nr_ h2)<|nmA (nmL<|nj<|nr_ h2)<|nmR<|nj<|nr_ h2)<|nmA (nmL<|nj h2)<|nmA (nmL<|nmR<|nj h2)<|nmR<|nmR<|nj h2) ?_;rintro _ aH ⟨So,aI,aJ,aK,aL⟩;refine Wn<|Wg<|Rm z<|R z (inc_ hkg (lt_ (repS.len L) H_) z z)<|Ra z<|Wl ?_
  have hp:∀k∈G,k∈[w0.z]∨h.z<=k:=or1 hd (io sr)<|x_ lr;exact fun _ q=>⟨aF,(som Y).symm,⟨So,q.k<|s3 z z z,(cM (d_ (cM (cr [w0.z] h) s4 (io sr):Chg (· ∈ [w0.z]) h wv) sc:Chg (· ∈ [w0.z]) h ax) aI hp:Chg (· ∈ [w0.z]) h aH),aJ,aK,(or2 aL hp (aa_ (or0 (al_ h5) (x_ s4.s):∀k∈Si,k∈[w0.z]∨h.z<=k)<|aa_ (or0 (al_<|ar_ h5) (x_ s4.s):∀k∈Sj,k∈[w0.z]∨h.z<=k)<|aa_ (or0 (al_<|ar_<|ar_ h5) (x_ s4.s):∀k∈Sk,k∈[w0.z]∨h.z<=k) (or0 (ar_<|ar_<|ar_ h5) (x_ s4.s):∀k∈Sl,k∈[w0.z]∨h.z<=k)) (x_<|lt_ s4.s sc.s):∀k∈So,k∈[w0.z]∨h.z<=k)⟩⟩
 ·rintro x6 _ aM ⟨G,a0,sq,h3,hb,hd⟩;refine Wu ?_ a0;refine Wq<|Wm z<|Rm z ?_
  refine R z (lnR d_2 z<|L.g<|(sa.ag B).c sq<|c_ (or0 (f_ lr) (m_ O):∀k∈[w0.z],¬B k))<|Rl z z z<|Wx z (fun hc=>(Y_ hc).elim) (fun _=>?_)
  exact We<|fun _ q=>⟨rfl,⟨G,q.k<|s1 z,(cM (cr [w0.z] h) sq (io sr):Chg (· ∈ [w0.z]) h aM),h3,hb,(or1 hd (io sr) (x_ lr):∀k∈G,k∈[w0.z]∨h.z<=k)⟩⟩
 ·rintro x6 aN _ rfl ⟨G,_,aO,h3,hb,hd⟩;have a1:=elL hme;revert aN;refine Wo<|Wm z<|Rw z ?_
  obtain rfl:=som a1;exact Wr<|e_ hr z ⟨bM sa aO<|f_ lr,H,I,J,G,z,h3,hb,(or1 hd (f_ lr) (b_O sa.s):∀k∈G,w0.z<=k)⟩
 rintro _ _ _ _ rfl ⟨rfl,a2⟩;have a3:=elR hme;obtain rfl:=som a3;exact ⟨a2,z⟩
def Q6 (w0:World)(B:Zone)(r:g_)(v:Value)(w':World):Prop:=Bw w0 w'/\(fun H=>∃a1 h G S1,(.agg #[.slice a1 h G])=v/\b_ w' S1 (sl a1 h G) H.rules/\S1.Nodup/\(∀k∈S1,w0.z<=k)) r
theorem g_B {x1:g_}{res:g_}(hm:d_o x1=some res)(V:B<=w0.z)(O:repS w0 B (sl A0 N0 C0) x1.rules):j_ prog 6 [(.agg #[sl A0 N0 C0])] w0 (Q6 w0 B res):=by
 unfold d_o at hm
 refine goG func6 z z z fun fn hr=>Ws<|E z (fb z) ?_
 rintro _ wa ⟨rfl,hb⟩;have h1:=hb.below;refine E z (fa i_f) ?_;rintro _ wc ⟨rfl,hd⟩;have h2:=hd.below;have h6:Blk wc wa.z [sl none 0 0]:=hd.blk;refine Wn<|Ws<|E z (fa i_f) ?_
 rintro _ wk ⟨rfl,he⟩;have h:=he.below;have hf:Blk wk wc.z [sl none 0 0]:=he.blk;refine Wn<|Ws<|Rf z j_R z<|R z (l0 g_22 z<|(((hb.blk:Blk wa w0.z [sl A0 N0 C0]).e h2).e h).at z) ?_
 have hg:=lt_ h1.s h2.s;have hh:=lt_ hg h.s;obtain ⟨_,el,hmm⟩:=bdS hm;refine E z (fc call18 z<|W_w1x el (zt' V hh)<|O.g<|((h1.ag B).e h2).e h) ?_;rintro _ _ ⟨s7,G,H,I,Sn,rfl,ho,hp,J⟩;refine Rf z a_9 z<|E0 (fs0 (cur':=[sl G H I]) z_29 z z (hf.e s7) z z z z) ?_
 rintro _ _ ⟨hq,sr⟩;have L:=sr.one;refine Wn<|Ws<|R z (lN (vs:=[sl G H I]) D_ C_ z z fid<|hq.row 0 1 z)<|E0 (fs0 (cur':=[sl G H I]) C_ z z (((h6.e h).e s7).c L<|djs<|mmr h6.lt) z z z z) ?_
 rintro _ _ ⟨ht,ss⟩;have hi:=ss.one;refine Wn ?_;obtain rfl:=som hmm;exact Wr<|e_ hr (o_ D_ C_ z ht z) ⟨bM (bM (bup (bup (bup h1 h2) h) s7) L<|m1 hg) hi<|m1 h1.s,G,H,I,Sn,z,(ho.c L<|p_ J hf.lt lr).c hi<|p_ J h6.lt h.s,hp,k_ J hh⟩
theorem W_w0x {x1:g_}{res:Int}(hm:f_z x1=some res)(I:B<=w0.z)(G:repS w0 B (sl A0 N0 C0) x1.rules):j_ prog 42 [(.agg #[sl A0 N0 C0])] w0 (Q0 w0 B res):=by
 unfold f_z at hm
 refine goG func42 z z z fun fn hr=>Ws<|E z (fb z) ?_
 rintro _ H ⟨rfl,h⟩;have h1:=h.below;refine Rw z<|Ws<|Rf z a_9 z<|R z (l0 a_c z<|(h.blk:Blk H w0.z [sl A0 N0 C0]).at z)<|R z (lnR Q_ z<|G.e h1)<|R z (sb_ z z)<|Rw z ?_
 obtain rfl:=som hm;exact Wr<|e_ hr z ⟨h1,z,iS _ _⟩
def Q7 (w0:World)(B:Zone)(r:Bool)(v:Value)(w':World):Prop:=Bw w0 w'/\(fun h=>(vB h)=v) r
theorem b_n {x1:Int}{x2:Int}{x3:Int}{res:Bool}(hm:a_R x1 x2 x3=some res)(W:B<=w0.z)(L:inI x1)(O:inI x2)(V:inI x3):j_ prog 59 [vI x1,vI x2,vI x3] w0 (Q7 w0 B res):=by
 unfold a_R at hm
 refine goG func59 z z z fun fn hr=>Ws<|Rw z<|Wq ?_
 obtain ⟨I,G,H⟩:=bdS hm;refine Wt (fun a w=>∃(x4:Bool),x4=I/\Sat 15 [(6,vB x4)] a/\Below w0.z w0 w) ?_ ?_
 ·refine Wg<|RM z z<|R z (b_f z z)<|Rm z ?_
  rcases bs (decide<|x2<=x1) with h | h
  ·exact Rh z h (mv z)<|Rh z h (mv z)<|Rh z h (c_J z z)<|R z (pT z h z)<|Ra z<|Wl (fun _ q=>⟨decide<|x1<=x3,som<|ifT G h,q.k<|s1 z,br w0⟩)
  iterate 3 refine Nh z h ?_
  exact R z (pF z h z)<|Ra z<|Wl (fun _ q=>⟨false,som<|ifF G h,q.k<|s1 z,br w0⟩)
 rintro J _ ⟨x4,rfl,_,s6⟩;revert J;refine Wo ?_;obtain rfl:=som H;exact Wr<|e_ hr z ⟨s6,z⟩
theorem W_w0y {x1:Str}{res:Bool}(hm:e_w x1=some res)(a8:B<=w0.z)(W:x1.b.length<=LEN):j_ prog 119 [Str.v x1] w0 (Q7 w0 B res):=by
 unfold e_w at hm
 refine goG func119 z z z fun fn hr=>Ws<|Rw z<|Wq<|Ws<|Rw z ?_
 obtain ⟨_,hus,hmc⟩:=bdS hm;refine Wf (σ:=Unit) (ρ:=Bool) (fun (k4:Nat)(_:Unit) a w=>Sat 45 [(0,Str.v x1),(3,vI ((k4:Nat):Int))] a/\Below w0.z w0 w) (fun (_:Unit) a w=>Sat 45 [(0,Str.v x1)] a/\Below w0.z w0 w) (rQ prog fn<|Q7 w0 B) hus ?_ ?_ ?_ ?_ ?_
 ·exact fun _ q=>⟨q.k<|s2 z z,br w0⟩
 ·rintro k4 _ _ L _ hkd ⟨hSt,se⟩ hmu;refine Wu ?_ hSt;refine Wq<|Wm z<|Rm z<|R z (lnT d_9 z)<|Rl z z z<|Wx z (fun _=>?_) (fun hc=>(X_ hkd hc).elim)
  refine Wk<|Wq<|Wb<|Wq ?_
  obtain ⟨uv,huw,hmx⟩:=bdS hmu;refine Wt (fun a w=>∃(x5:Bool),x5=uv/\Sat 45 [(0,Str.v x1),(3,vI ((k4:Nat):Int)),(4,vB x5)] a/\Below L.z L w) ?_ ?_
  ·refine Wg<|RM z z ?_
   obtain ⟨xy,ef,hmg⟩:=bdS huw;refine R z (c_l d_9 z z (a_n ef).1 (a_n ef).2.1)<|R z (b_f z z)<|Rm z ?_
   rcases bs (decide<|(byteI (97:UInt8))<=(byteI xy)) with G | G
   ·refine Rh z G (mv z)<|Rh z G (mv z) ?_
    obtain ⟨xz,eh,Y⟩:=bdS<|ifT hmg G;exact Rh z G (c_l d_9 z z (a_n eh).1 (a_n eh).2.1)<|Rh z G (c_J z z)<|R z (pT z G z)<|Ra z<|Wl (fun _ q=>⟨decide<|(byteI xz)<=(byteI (122:UInt8)),som Y,q.k<|s3 z z z,br L⟩)
   iterate 4 refine Nh z G ?_
   exact R z (pF z G z)<|Ra z<|Wl (fun _ q=>⟨false,som<|ifF hmg G,q.k<|s3 z z z,br L⟩)
  rintro a9 O ⟨x5,rfl,_,si⟩;revert a9;refine Wo<|Wq ?_
  obtain ⟨aa,a0,a1⟩:=bdS hmx;refine Wt (fun a w=>∃(V:Bool),V=aa/\Sat 45 [(0,Str.v x1),(3,vI ((k4:Nat):Int)),(4,vB x5),(5,vB V)] a/\Below O.z O w) ?_ ?_
  ·refine Wg<|RM z z ?_
   obtain ⟨ab,ej,hmk⟩:=bdS a0;refine R z (c_l d_9 z z (a_n ej).1 (a_n ej).2.1)<|R z (b_f z z)<|Rm z ?_
   rcases bs (decide<|(byteI (48:UInt8))<=(byteI ab)) with H | H
   ·refine Rh z H (mv z)<|Rh z H (mv z) ?_
    obtain ⟨ad,el,a2⟩:=bdS<|ifT hmk H;exact Rh z H (c_l d_9 z z (a_n el).1 (a_n el).2.1)<|Rh z H (c_J z z)<|R z (pT z H z)<|Ra z<|Wl (fun _ q=>⟨decide<|(byteI ad)<=(byteI (57:UInt8)),som a2,q.k<|s4 z z z z,br O⟩)
   iterate 4 refine Nh z H ?_
   exact R z (pF z H z)<|Ra z<|Wl (fun _ q=>⟨false,som<|ifF hmk H,q.k<|s4 z z z z,br O⟩)
  rintro ae J ⟨V,rfl,_,sm⟩;revert ae;refine Wo<|Wq ?_
  obtain ⟨af,hun,hmo⟩:=bdS a1;refine Wt (fun a w=>∃(xa:Bool),xa=af/\Sat 45 [(0,Str.v x1),(3,vI ((k4:Nat):Int)),(41,vB xa)] a/\Below J.z J w) ?_ ?_
  ·refine Wg<|Rm z<|R z (not_ z)<|Rm z ?_
   rcases bs (!x5) with h | h
   ·have hmp:=ifT hun h;refine Rh z h (mv z)<|Rh z h (not_ z)<|Rh z h (mv z) ?_
    rcases bs (!V) with I | I
    ·exact Nh z I<|Nh z I<|Rh z h (pT z I z)<|R z (pT z h z)<|Wl (fun _ q=>⟨true,som<|ifT hmp I,q.k<|s3 z z z,br J⟩)
    exact Rh z I (mv z)<|Rh z I (eql z z)<|Rh z h (pF z I z)<|R z (pT z h z)<|Wl (fun _ q=>⟨((k4:Nat):Int)==0,som<|ifF hmp I,q.k<|s3 z z z,br J⟩)
   iterate 3 refine Nh z h ?_
   exact Nv z<|Nv z<|Nh z h<|R z (pF z h z)<|Wl (fun _ q=>⟨false,som<|ifF hun h,q.k<|s3 z z z,br J⟩)
  rintro ah _ ⟨xa,rfl,_,sq⟩;revert ah;refine Wo<|Wc z (fun hcb=>?_) (fun hcb=>?_)
  ·exact Ws<|Rw z<|Wr<|rtO<|qL (som<|ifT hmo hcb).symm<|e_ hr z ⟨bup (bup (bup se si) sm) sq,z⟩
  exact Wk<|Wg<|Rm z<|R z (inc_ hkd (lt_ W H_) z z)<|Ra z<|Wl (fun _ q=>⟨(),(som<|ifF hmo hcb).symm,⟨q.k<|s2 z z,bup (bup (bup se si) sm) sq⟩⟩)
 ·rintro _ _ _ ⟨a3,ai⟩;refine Wu ?_ a3;refine Wq<|Wm z<|Rm z<|R z (lnT d_9 z)<|Rl z z z<|Wx z (fun hc=>(Y_ hc).elim) (fun _=>?_)
  exact We<|fun _ q=>⟨rfl,⟨q.k<|s1 z,ai⟩⟩
 ·rintro _ aj _ rfl ⟨_,sr⟩;have a4:=elL hmc;revert aj;refine Wo<|Wm z<|R z (lnT d_9 z) ?_
  obtain ⟨_,ak,a5⟩:=bdS a4;refine E z (fc call59 z<|b_n ak (zt' a8 sr.s) (b_B W) (ii z)<|ii z) ?_;rintro _ _ ⟨al,rfl⟩;refine Rw z ?_
  obtain rfl:=som a5;exact Wr<|e_ hr z ⟨bup sr al,z⟩
 rintro _ _ _ _ rfl ⟨rfl,a6⟩;have a7:=elR hmc;obtain rfl:=som a7;exact ⟨a6,z⟩
theorem c_D {x1:a_}{x2:Bool}{x3:Bool}{x4:Bool}{x5:Bool}{x6:Int}{res:Bool}(hm:b_L x1 x2 x3 x4 x5 x6=some res)(ae:B<=w0.z)(a9:x1.name.b.length<=LEN)(aa:inI x1.kind)(ab:inI x1.size)(a0:repS w0 B (sl A9 N9 C9) x1.bytes)(a1:repS w0 B (sl A8 N8 C8) x1.names)(a2:repS w0 B (sl AA NA CA) x1.tags)(a3:repS w0 B (sl AB NB CB) x1.kids)(ad:inI x6):j_ prog 123 [(.agg #[Str.v x1.name,vI x1.kind,vI x1.size,vB x1.little,sl A9 N9 C9,sl A8 N8 C8,sl AA NA CA,sl AB NB CB]),vB x2,vB x3,vB x4,vB x5,vI x6] w0 (Q7 w0 B res):=by
 unfold b_L at hm
 refine goG func123 z z z fun fn hr=>Ws<|E z (fb z) ?_
 rintro _ wc ⟨rfl,hf⟩;have hd:=hf.below;have hb:Blk wc w0.z (vR x1 A9 N9 C9 A8 N8 C8 AA NA CA AB NB CB):=hf.blk;refine Rw z<|Wq ?_
 obtain ⟨uw,hux,hmy⟩:=bdS hm;refine Wt (fun a w=>∃(xe:Bool),xe=uw/\Sat 67 [(12,vB xe)] a/\Below wc.z wc w) ?_ ?_
 ·refine Wg<|RM z z ?_
  obtain ⟨ug,huh,hmz⟩:=bdS hux;refine c_u 18 ug 4 ?_ ?_
  ·rcases bs x2 with Y | Y
   ·iterate 3 refine Nh z Y ?_
    exact R z (pT z Y z)<|WLq 4 (ifT huh Y) z z z
   exact Rh z Y (fd a_z z)<|Rh z Y (l0 g_3 z<|hb.at z)<|Rh z Y (eql z z)<|R z (pF z Y z)<|WLq 4 (ifF huh Y) z z z
  refine Rm z ?_;obtain ⟨ui,huj,a4⟩:=bdS hmz;refine c_u 27 ui 8 ?_ ?_
  ·rcases bs ug with G | G
   ·have hmk:=ifT huj G;refine Rh z G (mv z)<|Rh z G (mv z) ?_
    rcases bs x3 with O | O
    ·iterate 4 refine Nh z O ?_
     exact Rh z G (pT z O z)<|R z (pT z G z)<|WLq 8 (ifT hmk O) z z z
    exact Rh z O (fd a_I z)<|Rh z O (l0 T_ z<|hb.at z)<|Rh z O (lnR l_ z<|a0.e hd)<|Rh z O (eql z z)<|Rh z G (pF z O z)<|R z (pT z G z)<|WLq 8 (ifF hmk O) z z z
   exact Nh z G<|Nh z G<|Nv z<|Nv z<|Nv z<|Nv z<|Nh z G<|R z (pF z G z)<|WLq 8 (ifF huj G) z z z
  refine Rm z ?_;obtain ⟨ul,hum,a5⟩:=bdS a4;refine c_u 36 ul 8 ?_ ?_
  ·rcases bs ui with H | H
   ·have hmn:=ifT hum H;refine Rh z H (mv z)<|Rh z H (mv z) ?_
    rcases bs x4 with V | V
    ·iterate 4 refine Nh z V ?_
     exact Rh z H (pT z V z)<|R z (pT z H z)<|WLq 8 (ifT hmn V) z z z
    exact Rh z V (fd b_m z)<|Rh z V (l0 a_B z<|hb.at z)<|Rh z V (lnR a_0 z<|a1.e hd)<|Rh z V (eql z z)<|Rh z H (pF z V z)<|R z (pT z H z)<|WLq 8 (ifF hmn V) z z z
   exact Nh z H<|Nh z H<|Nv z<|Nv z<|Nv z<|Nv z<|Nh z H<|R z (pF z H z)<|WLq 8 (ifF hum H) z z z
  refine Rm z ?_;obtain ⟨uo,hup,a6⟩:=bdS a5;refine c_u 45 uo 8 ?_ ?_
  ·rcases bs ul with I | I
   ·have hmq:=ifT hup I;refine Rh z I (mv z)<|Rh z I (mv z) ?_
    rcases bs x5 with W | W
    ·iterate 4 refine Nh z W ?_
     exact Rh z I (pT z W z)<|R z (pT z I z)<|WLq 8 (ifT hmq W) z z z
    exact Rh z W (fd a_D z)<|Rh z W (l0 w_ z<|hb.at z)<|Rh z W (lnR r_ z<|a2.e hd)<|Rh z W (eql z z)<|Rh z I (pF z W z)<|R z (pT z I z)<|WLq 8 (ifF hmq W) z z z
   exact Nh z I<|Nh z I<|Nv z<|Nv z<|Nv z<|Nv z<|Nh z I<|R z (pF z I z)<|WLq 8 (ifF hup I) z z z
  refine Rm z ?_;obtain ⟨ur,hus,hmt⟩:=bdS a6;refine c_u 56 ur 10 ?_ ?_
  ·rcases bs uo with J | J
   ·have hmu:=ifT hus J;refine Rh z J (mv z)<|Rh z J (lss z z)<|Rh z J (mv z) ?_
    rcases bs (decide<|x6<0) with L | L
    ·iterate 5 refine Nh z L ?_
     exact Rh z J (pT z L z)<|R z (pT z J z)<|WLq 10 (ifT hmu L) z z z
    exact Rh z L (fd M_ z)<|Rh z L (l0 w_ z<|hb.at z)<|Rh z L (lnR r_ z<|a3.e hd)<|Rh z L (mv z)<|Rh z L (eql z z)<|Rh z J (pF z L z)<|R z (pT z J z)<|WLq 10 (ifF hmu L) z z z
   iterate 3 refine Nh z J ?_
   exact Nv z<|Nv z<|Nv z<|Nv z<|Nv z<|Nh z J<|R z (pF z J z)<|WLq 10 (ifF hus J) z z z
  refine Rm z ?_
  rcases bs ur with h | h
  ·have hmv:=ifT hmt h;refine Rh z h (fd b_D z)<|Rh z h (l0 g_4 z<|hb.at z)<|Rh z h (not_ z)<|Rh z h (mv z) ?_
   rcases bs (!x1.little) with hca | hca
   ·iterate 3 refine Nh z hca ?_
    exact Rh z h (pT z hca z)<|R z (pT z h z)<|Ra z<|Wl (fun _ q=>⟨true,som<|ifT hmv hca,q.k<|s1 z,br wc⟩)
   exact Rh z hca (fd a_s z)<|Rh z hca (l0 g_3 z<|hb.at z)<|Rh z hca (eql z z)<|Rh z h (pF z hca z)<|R z (pT z h z)<|Ra z<|Wl (fun _ q=>⟨x1.kind==1,som<|ifF hmv hca,q.k<|s1 z,br wc⟩)
  iterate 4 refine Nh z h ?_
  exact Nv z<|Nv z<|Nv z<|Nh z h<|R z (pF z h z)<|Ra z<|Wl (fun _ q=>⟨false,som<|ifF hmt h,q.k<|s1 z,br wc⟩)
 rintro a7 _ ⟨xe,rfl,_,a8⟩;revert a7;refine Wo ?_;obtain rfl:=som hmy;exact Wr<|e_ hr z ⟨bup hd a8,z⟩
theorem W_w1y {x1:Int}{res:Int}(hm:h_t x1=some res)(I:B<=w0.z)(H:inI x1):j_ prog 132 [vI x1] w0 (Q0 w0 B res):=by
 unfold h_t at hm
 refine goG func132 z z z fun fn hr=>Ws<|Rw z<|Wm z<|R z (g_V z z) ?_
 obtain ⟨_,G,h⟩:=bdS hm;refine R z (g_X z z<|nnS G)<|Rw z ?_
 obtain rfl:=som h;exact Wr<|e_ hr z ⟨br w0,z,m_G<|ii z⟩
theorem i_i {x1:g_}{x2:Int}{res:Int}(hm:d_S x1 x2=some res)(I:B<=w0.z)(H:repS w0 B (sl A0 N0 C0) x1.rules)(W:inI x2):j_ prog 124 [(.agg #[sl A0 N0 C0]),vI x2] w0 (Q0 w0 B res):=by
 unfold d_S at hm
 refine goG func124 z z z fun fn hr=>Ws<|E z (fb z) ?_
 rintro _ L ⟨rfl,V⟩;have h2:=V.below;have h6:Blk L w0.z [sl A0 N0 C0]:=V.blk;refine Rw z<|Wq<|Wq ?_
 obtain ⟨uf,hug,hma⟩:=bdS hm;refine Wt (fun a w=>∃(O:Bool),O=uf/\Sat 39 [(1,vI x2),(2,pt w0.z),(30,vB O)] a/\Below L.z L w) ?_ ?_
 ·refine Wg<|Rm z<|Rf z a_9 z<|R z (l0 a_c z<|h6.at z)<|R z (lnR Q_ z<|H.e h2)<|R z (sb_ z z) ?_
  obtain ⟨rh,ei,hmb⟩:=bdS hug;refine E z (fc call59 z<|b_n ei (zt' I h2.s) W (ii z)<|iS _ _) ?_;rintro _ _ ⟨s4,rfl⟩;refine R z (not_ z)<|Rm z ?_
  rcases bs (!rh) with G | G
  ·iterate 7 refine Nh z G ?_
   exact R z (pT z G z)<|Rm z<|Nh z z<|Nh z z<|Nh z z<|Nh z z<|Nh z z<|Nh z z<|Nh z z<|Nh z z<|R z (pT z z z)<|Wl (fun _ q=>⟨true,som<|ifT hmb G,q.k<|s3 z z z,s4⟩)
  refine Rh z G (fd a_9 z) ?_;have hc:=h6.e s4;refine Rh z G (l0 a_c z<|hc.at z)<|Rh z G (mv z) ?_
  obtain ⟨xj,ek,hmd⟩:=bdS<|ifF hmb G;have he:=H.g<|(h2.ag B).e s4
  refine RXg z z G z (at_ (α:=a_) Q_ n_ z z z he ek) ?_;rintro _ ⟨_,_,_,rfl,hl,hn,_⟩;obtain ⟨_,_,_,_,_,_,_,_,_,_,_,_,rfl,_,_,_,_,_,_,_⟩:=a_y hn;refine Rh z G (fd a_s z)<|Rh z G (l0 g_3 z<|hl.at (j:=1) z)<|Rh z G (nq z z)<|R z (pF z G z)<|Rm z ?_
  rcases bs (xj.kind != 1) with h | h
  ·iterate 8 refine Nh z h ?_
   exact R z (pT z h z)<|Wl (fun _ q=>⟨true,som<|ifT hmd h,q.k<|s3 z z z,s4⟩)
  refine Rh z h (fd a_9 z)<|Rh z h (l0 a_c z<|hc.at z)<|Rh z h (mv z) ?_
  obtain ⟨_,em,hmo⟩:=bdS<|ifF hmd h;refine RXg z z h z (at_ (α:=a_) Q_ n_ z z z he em) ?_;rintro _ ⟨_,_,_,rfl,hp,hq,_⟩;obtain ⟨_,_,_,_,_,_,_,_,_,_,_,_,rfl,_,_,ht,_,_,_,_⟩:=a_y hq;refine Rh z h (fd a_z z)<|Rh z h (l0 g_3 z<|hp.at (j:=2) z) ?_
  obtain ⟨rr,es,hmu⟩:=bdS hmo;refine Eg z z h z (fc call59 z<|b_n es (zt' I<|lt_ h2.s s4.s) ht (ii z)<|ii z) ?_;rintro _ _ ⟨sv,rfl⟩;exact Rh z h (not_ z)<|R z (pF z h z)<|Wl (fun _ q=>⟨!rr,som hmu,q.k<|s3 z z z,bup s4 sv⟩)
 rintro aw _ ⟨O,rfl,_,s5⟩;revert aw;refine Wo<|Wc z (fun J=>?_) (fun J=>?_)
 ·refine Ws<|Rw z ?_
  obtain rfl:=som<|ifT hma J;exact Wr<|e_ hr z ⟨bup h2 s5,z,ii z⟩
 refine Wk<|Ws<|Rf z a_9 z<|R z (l0 a_c z<|(h6.e s5).at z)<|Rm z ?_
 obtain ⟨_,ex,hmy⟩:=bdS<|ifF hma J;refine RX z (at_ (α:=a_) Q_ n_ z z z (H.g<|(h2.ag B).e s5) ex) ?_;rintro _ ⟨_,_,_,rfl,hz,a0,_⟩;obtain ⟨_,_,_,_,_,_,_,_,_,_,_,_,rfl,_,_,a1,_,_,_,_⟩:=a_y a0;refine Rf z a_z z<|R z (l0 g_3 z<|hz.at (j:=2) z) ?_
 obtain ⟨_,a2,Y⟩:=bdS hmy;refine E z (fc call132 z<|W_w1y a2 (zt' I<|lt_ h2.s s5.s) a1) ?_;rintro _ _ ⟨a3,rfl,_⟩;refine R z (sb_ z z)<|Rw z ?_
 obtain rfl:=som Y;exact Wr<|e_ hr z ⟨bup (bup h2 s5) a3,z,iS _ _⟩
theorem W_w1z {x1:List Str}{x2:Str}{res:Bool}(hm:f_t x1 x2=some res)(Y:B<=w0.z)(h:repS w0 B (sl A0 N0 C0) x1)(W:x2.b.length<=LEN):j_ prog 133 [sl A0 N0 C0,Str.v x2] w0 (Q7 w0 B res):=by
 unfold f_t at hm
 refine goG func133 z z z fun fn hr=>Ws<|Rw z<|Wq<|Ws<|Rw z ?_
 obtain ⟨_,O,I⟩:=bdS hm;refine Wf (σ:=Unit) (ρ:=Bool) (fun (k3:Nat)(_:Unit) a w=>Sat 18 [(0,sl A0 N0 C0),(1,Str.v x2),(5,vI ((k3:Nat):Int))] a/\Below w0.z w0 w) (fun (_:Unit) a w=>Sat 18 [] a/\Below w0.z w0 w) (rQ prog fn<|Q7 w0 B) O ?_ ?_ ?_ ?_ ?_
 ·exact fun _ q=>⟨q.k<|s3 z z z,br w0⟩
 ·rintro k3 _ _ _ _ J ⟨V,H⟩ hma;refine Wu ?_ V;refine Wq<|Wm z<|Rm z ?_
  have h5:=h.e H;refine R z (lnR a_0 z h5)<|Rl z z z<|Wx z (fun _=>?_) (fun hc=>(X_ J hc).elim)
  refine Wk<|Wq<|Wb<|Wm z<|Rm z ?_
  obtain ⟨_,eb,L⟩:=bdS hma;refine RX z (at_ (α:=Str) a_0 z_9 z z z h5 eb) ?_;rintro _ ⟨_,_,_,rfl,hd,he,_⟩;obtain ⟨rfl,_⟩:=b_s he;refine R z (l0 g_9 z<|hd.at0 z)<|Rm z<|R z (b_E z z)<|Wx z (fun G=>?_) (fun G=>?_)
  ·exact Ws<|Rw z<|Wr<|rtO<|qL (som<|ifT L G).symm<|e_ hr z ⟨H,z⟩
  exact Wk<|Wg<|Rm z<|R z (inc_ J (lt_ (repS.len h) H_) z z)<|Ra z<|Wl (fun _ q=>⟨(),(som<|ifF L G).symm,⟨q.k<|s3 z z z,H⟩⟩)
 ·rintro _ _ _ ⟨hSc,s7⟩;refine Wu ?_ hSc;refine Wq<|Wm z<|Rm z<|R z (lnR a_0 z<|h.e s7)<|Rl z z z<|Wx z (fun hc=>(Y_ hc).elim) (fun _=>?_)
  exact We<|fun _ q=>⟨rfl,⟨q.k sn,s7⟩⟩
 ·rintro _ af _ rfl ⟨_,sg⟩;have hmh:=elL I;revert af;refine Wo<|Ws<|Rw z ?_
  obtain rfl:=som hmh;exact Wr<|e_ hr z ⟨sg,z⟩
 rintro _ _ _ _ rfl ⟨rfl,hqi⟩;have hmj:=elR I;obtain rfl:=som hmj;exact ⟨hqi,z⟩
theorem W_w20 {x1:List Str}{res:Bool}(hm:f_u x1=some res)(I:B<=w0.z)(H:repS w0 B (sl A0 N0 C0) x1):j_ prog 125 [sl A0 N0 C0] w0 (Q7 w0 B res):=by
 unfold f_u at hm
 refine goG func125 z z z fun fn hr=>Ws<|Rw z<|Wq<|Ws<|Rw z ?_
 obtain ⟨_,huj,L⟩:=bdS hm;refine Wf (σ:=Unit) (ρ:=Bool) (fun (k1:Nat)(_:Unit) a w=>Sat 29 [(0,sl A0 N0 C0),(3,vI ((k1:Nat):Int))] a/\Below w0.z w0 w) (fun (_:Unit) a w=>Sat 29 [(0,sl A0 N0 C0)] a/\Below w0.z w0 w) (rQ prog fn<|Q7 w0 B) huj ?_ ?_ ?_ ?_ ?_
 ·exact fun _ q=>⟨q.k<|s2 z z,br w0⟩
 ·rintro k1 _ _ O _ hka ⟨hSk,s4⟩ hml;refine Wu ?_ hSk;refine Wq<|Wm z<|Rm z<|R z (lnR a_0 z<|H.e s4)<|Rl z z z<|Wx z (fun _=>?_) (fun hc=>(X_ hka hc).elim)
  refine Wk<|Wq<|Wb<|Wq ?_
  obtain ⟨um,hun,hmb⟩:=bdS hml;refine Wt (fun a w=>∃(x2:Bool),x2=um/\Sat 29 [(0,sl A0 N0 C0),(3,vI ((k1:Nat):Int)),(25,vB x2)] a/\Below O.z O w) ?_ ?_
  ·refine Wd (X:=noX) 0 (pl_ 16 [4,14]) mo (by kernel_rfl) fun ae s5 _=>dM z z z<|dM z z z ?_
   obtain ⟨_,eo,hmp⟩:=bdS hun;have hd:=(s4.ag B).e s5;refine dRX z z (at_ (α:=Str) a_0 z_9 z z z (H.g hd) eo) ?_;rintro _ ⟨_,_,_,rfl,hq,ht,_⟩;obtain ⟨rfl,hu⟩:=b_s ht;refine dR z z (l0 g_9 z<|hq.at0 z) ?_;have he:=lt_ s4.s s5.s;obtain ⟨rr,es,hmc⟩:=bdS hmp;refine dE z z (fc call119 z<|W_w0y es (zt' I he) hu) (.inr fun _ _ h=>F_<|h.1) ?_;rintro _ _ ⟨s6,rfl⟩;refine dR z z (not_ z)<|dM z z z ?_
   rcases bs (!rr) with G | G
   ·iterate 7 refine dRn z z z G z ?_
    exact dEn z z z G z<|dR z z (pT z G z)<|pD (fun _ q=>⟨true,som<|ifT hmc G,q.k<|s3 z z z,bup s5 s6⟩)
   refine dRg z z z G z (mv z)<|dRg z z z G z (mv z) ?_
   obtain ⟨_,ev,hmw⟩:=bdS<|ifF hmc G;have hf:=H.g<|hd.e s6
   refine c_0 z z z G z (rX a_0 z_9 z z hf z z ev) ?_;rintro _ ⟨_,_,_,rfl,hx⟩;refine dRg z z z G z (mv z)<|dRg z z z G z (mv z) ?_
   obtain ⟨_,ey,hmz⟩:=bdS hmw;refine c_0 z z z G z (at_ (α:=Str) a_0 z_9 z z z hf ey) ?_;rintro _ ⟨_,_,_,rfl,a3,a4,_⟩;obtain ⟨rfl,a5⟩:=b_s a4;refine dRg z z z G z (l0 g_9 z<|a3.at0 z) ?_;obtain ⟨a6,a7,V⟩:=bdS hmz;refine dEg z z z G z (fc call133 z<|W_w1z a7 (zt' I<|lt_ he s6.s) hx a5) (.inr fun _ _ h=>F_<|h.1) ?_;rintro _ _ ⟨a8,rfl⟩;exact dR z z (pF z G z)<|pD (fun _ q=>⟨a6,som V,q.k<|s3 z z z,bup (bup s5 s6) a8⟩)
  rintro a9 _ ⟨x2,rfl,_,sg⟩;revert a9;refine Wo<|Wc z (fun J=>?_) (fun J=>?_)
  ·exact Ws<|Rw z<|Wr<|rtO<|qL (som<|ifT hmb J).symm<|e_ hr z ⟨bup s4 sg,z⟩
  exact Wk<|Wg<|Rm z<|R z (inc_ hka (lt_ (repS.len H) H_) z z)<|Ra z<|Wl (fun _ q=>⟨(),(som<|ifF hmb J).symm,⟨q.k<|s2 z z,bup s4 sg⟩⟩)
 ·rintro _ _ _ ⟨W,sh⟩;refine Wu ?_ W;refine Wq<|Wm z<|Rm z<|R z (lnR a_0 z<|H.e sh)<|Rl z z z<|Wx z (fun hc=>(Y_ hc).elim) (fun _=>?_)
  exact We<|fun _ q=>⟨rfl,⟨q.k<|s1 z,sh⟩⟩
 ·rintro _ aa _ rfl ⟨_,s7⟩;have Y:=elL L;revert aa;refine Wo<|Wm z ?_
  have hi:=H.e s7;refine R z (lnR a_0 z hi) ?_;obtain ⟨_,ab,a0⟩:=bdS Y;refine E z (fc call59 z<|b_n ab (zt' I s7.s) (b_B<|repS.len hi) (ii z)<|ii z) ?_;rintro _ _ ⟨ad,rfl⟩;refine Rw z ?_
  obtain rfl:=som a0;exact Wr<|e_ hr z ⟨bup s7 ad,z⟩
 rintro _ _ _ _ rfl ⟨rfl,a1⟩;have a2:=elR L;obtain rfl:=som a2;exact ⟨a1,z⟩
theorem W_w21 {x1:g_}{x2:a_}{res:Bool}(hm:f_v x1 x2=some res)(O:B<=w0.z)(a2:repS w0 B (sl A0 N0 C0) x1.rules)(aO:x2.name.b.length<=LEN)(aP:inI x2.kind)(aQ:inI x2.size)(aR:repS w0 B (sl A3 N3 C3) x2.bytes)(aS:repS w0 B (sl A4 N4 C4) x2.names)(J:repS w0 B (sl A2 N2 C2) x2.tags)(V:repS w0 B (sl A5 N5 C5) x2.kids):j_ prog 126 [(.agg #[sl A0 N0 C0]),(.agg #[Str.v x2.name,vI x2.kind,vI x2.size,vB x2.little,sl A3 N3 C3,sl A4 N4 C4,sl A2 N2 C2,sl A5 N5 C5])] w0 (Q7 w0 B res):=by
 unfold f_v at hm
 refine goG func126 z z z fun fn hr=>Ws<|E z (fb z) ?_
 rintro _ L ⟨rfl,hn⟩;have h4:=hn.below;refine E z (fb z) ?_;rintro _ wd ⟨rfl,ho⟩;have h3:=ho.below;have ha:Blk wd L.z (vR x2 A3 N3 C3 A4 N4 C4 A2 N2 C2 A5 N5 C5):=ho.blk;refine Rw z<|Wq<|Wq ?_
 obtain ⟨aj,hup,hmq⟩:=bdS hm;refine Wt (fun a w=>∃(xg:Bool),xg=aj/\Sat 59 [(2,pt w0.z),(3,pt L.z),(20,vB xg)] a/\Below wd.z wd w) ?_ ?_
 ·refine Wg<|Rf z M_ z<|R z (l0 w_ z<|ha.at z) ?_
  have ht:=(h4.ag B).e h3;refine R z (lnR r_ z<|V.g ht)<|Rf z a_D z<|R z (l0 w_ z<|ha.at z) ?_
  have hh:=J.g ht;refine R z (lnR r_ z hh)<|R z (add_ z z)<|R z (nq z z)<|Rm z ?_
  rcases bs ((x2.kids.length:Int) != (h_ (x2.tags.length:Int) 1)) with I | I
  ·iterate 5 refine Nh z I ?_
   exact R z (pT z I z)<|Wl (fun _ q=>⟨true,som<|ifT hup I,q.k<|s3 z z z,br wd⟩)
  refine Rh z I (fd a_D z)<|Rh z I (l0 w_ z<|ha.at z)<|Rh z I (lnR r_ z hh) ?_
  obtain ⟨ak,al,a3⟩:=bdS<|ifF hup I;refine Eg z z I z (fc call59 z<|b_n al (zt' O<|lt_ h4.s h3.s) (b_B<|repS.len hh) (ii z)<|ii z) ?_;rintro _ _ ⟨am,rfl⟩;exact Rh z I (not_ z)<|R z (pF z I z)<|Wl (fun _ q=>⟨!ak,som a3,q.k<|s3 z z z,am⟩)
 rintro an wb ⟨xg,rfl,_,s5⟩;revert an;refine Wo<|Wc z (fun hci=>?_) (fun hci=>?_)
 ·refine Ws<|Rw z ?_
  obtain rfl:=som<|ifT hmq hci;exact Wr<|e_ hr z ⟨bup (bup h4 h3) s5,z⟩
 refine Wk<|Wq<|Ws<|Rw z ?_
 obtain ⟨_,a4,hmr⟩:=bdS<|ifF hmq hci;refine Wf (σ:=Unit) (ρ:=Bool) (fun (ke:Nat)(_:Unit) a w=>Sat 59 [(2,pt w0.z),(3,pt L.z),(5,vI ((ke:Nat):Int))] a/\Below wb.z wb w) (fun (_:Unit) a w=>Sat 59 [] a/\Below wb.z wb w) (rQ prog fn<|Q7 w0 B) a4 ?_ ?_ ?_ ?_ ?_
 ·exact fun _ q=>⟨q.k<|s3 z z z,br wb⟩
 ·rintro ke _ _ ws _ hku ⟨a5,s7⟩ a6;refine Wu ?_ a5;refine Wq<|Wm z<|Rf z a_D z ?_
  have hv:=(ha.e s5).e s7;refine R z (l0 w_ z<|hv.at z) ?_;have hw:=(((h4.ag B).e h3).e s5).e s7;refine R z (lnR r_ z<|J.g hw)<|Rl z z z<|Wx z (fun _=>?_) (fun hc=>(X_ hku hc).elim)
  refine Wk<|Wq<|Wb<|Wq ?_
  obtain ⟨ao,a7,hmx⟩:=bdS a6;refine Wt (fun a w=>∃(xj:Bool),xj=ao/\Sat 59 [(2,pt w0.z),(3,pt L.z),(5,vI ((ke:Nat):Int)),(58,vB xj)] a/\Below ws.z ws w) ?_ ?_
  ·refine Wd (X:=noX) 0 (pl_ 31 [10,11]) mo (by kernel_rfl) fun aT s6 _=>dR z z (fd a_D z) ?_
   have hk:=hv.e s6;refine dR z z (l0 w_ z<|hk.at z)<|dM z z z ?_
   obtain ⟨_,ap,a8⟩:=bdS a7;have hf:=hw.e s6;refine dRX z z (at_ (α:=Int) r_ z_3 z z z (J.g hf) ap) ?_;rintro _ ⟨_,_,_,rfl,aq,ar,_⟩;obtain ⟨rfl,au⟩:=O_ ar;refine dR z z (l0 g_3 z<|aq.at0 z)<|dR z z (lN (vs:=[sl A0 N0 C0]) D_ C_ z z fid<|(((((hn.blk:Blk L w0.z [sl A0 N0 C0]).e h3).e s5).e s7).e s6).row 0 1 z)<|dR z z (fd M_ z)<|dR z z (l0 w_ z<|hk.at z) ?_
   obtain ⟨_,av,a9⟩:=bdS a8;refine dRX z z (at_ (α:=Int) r_ z_3 z z z (V.g hf) av) ?_;rintro _ ⟨_,_,_,rfl,aw,ax,_⟩;obtain ⟨rfl,ay⟩:=O_ ax;refine dR z z (l0 g_3 z<|aw.at0 z) ?_;have hy:=lt_ (lt_ (lt_ (lt_ h4.s h3.s) s5.s) s7.s) s6.s;obtain ⟨_,az,aa⟩:=bdS a9;refine dE z z (fc call124 z<|i_i az (zt' O hy) (a2.g hf) ay) (.inr fun _ _ h=>F_<|h.1) ?_;rintro _ _ ⟨s8,rfl,aA⟩;obtain ⟨aB,aC,hmz⟩:=bdS aa;refine dE z z (fc call59 z<|b_n aC (zt' O<|lt_ hy s8.s) au (ii z) aA) (.inr fun _ _ h=>F_<|h.1) ?_;rintro _ _ ⟨sc,rfl⟩;refine dR z z (not_ z)<|dM z z z ?_
   rcases bs (!aB) with H | H
   ·iterate 3 refine dRn z z z H z ?_
    iterate 12 refine dRu z z z z ?_
    exact dRn z z z H z<|dR z z (pT z H z)<|pD (fun _ q=>⟨true,som<|ifT hmz H,q.k<|s4 z z z z,bup (bup s6 s8) sc⟩)
   have W:=ifF hmz H;refine dRg z z z H z (mv z)<|dRg z z z H z (a_b z z)<|dRg z z z H z (mv z) ?_
   rcases bs (decide<|0<((ke:Nat):Int)) with G | G
   ·refine dRg z z z G z (fd a_D z) ?_;have Y:=(hk.e s8).e sc;refine dRg z z z G z (l0 w_ z<|Y.at z)<|dRg z z z G z (mv z)<|dRg z z z G z (sb_ z z) ?_
    obtain ⟨aD,aE,ab⟩:=bdS<|ifT W G;have a0:=J.g<|(hf.e s8).e sc
    refine c_0 z z z G z (at_ (α:=Int) r_ z_3 z z z a0 aE) ?_;rintro _ ⟨_,_,_,rfl,aF,aG,_⟩;obtain ⟨rfl,_⟩:=O_ aG;refine dRg z z z G z (l0 g_3 z<|aF.at0 z)<|dRg z z z G z (fd a_D z)<|dRg z z z G z (l0 w_ z<|Y.at z)<|dRg z z z G z (mv z) ?_
    obtain ⟨aH,aI,ad⟩:=bdS ab;refine c_0 z z z G z (at_ (α:=Int) r_ z_3 z z z a0 aI) ?_;rintro _ ⟨_,_,_,rfl,aJ,aK,_⟩;obtain ⟨rfl,_⟩:=O_ aK;exact dRg z z z G z (l0 g_3 z<|aJ.at0 z)<|dRg z z z G z (b_f z z)<|dRg z z z H z (pT z G z)<|dR z z (pF z H z)<|pD (fun _ q=>⟨decide<|aH<=aD,som ad,q.k<|s4 z z z z,bup (bup s6 s8) sc⟩)
   iterate 12 refine dRn z z z G z ?_
   exact dRg z z z H z (pF z G z)<|dR z z (pF z H z)<|pD (fun _ q=>⟨false,som<|ifF W G,q.k<|s4 z z z z,bup (bup s6 s8) sc⟩)
  rintro aL _ ⟨xj,rfl,_,a1⟩;revert aL;refine Wo<|Wc z (fun hcl=>?_) (fun hcl=>?_)
  ·exact Ws<|Rw z<|Wr<|rtO<|qL (som<|ifT hmx hcl).symm<|e_ hr z ⟨bup (bup (bup (bup h4 h3) s5) s7) a1,z⟩
  exact Wk<|Wg<|Rm z<|R z (inc_ hku (lt_ (repS.len J) H_) z z)<|Ra z<|Wl (fun _ q=>⟨(),(som<|ifF hmx hcl).symm,⟨q.k<|s3 z z z,bup s7 a1⟩⟩)
 ·rintro _ _ _ ⟨ae,sm⟩;refine Wu ?_ ae;refine Wq<|Wm z<|Rf z a_D z<|R z (l0 w_ z<|((ha.e s5).e sm).at z)<|R z (lnR r_ z<|J.g<|(((h4.ag B).e h3).e s5).e sm)<|Rl z z z<|Wx z (fun hc=>(Y_ hc).elim) (fun _=>?_)
  exact We<|fun _ q=>⟨rfl,⟨q.k sn,sm⟩⟩
 ·rintro _ aM _ rfl ⟨_,aN⟩;have af:=elL hmr;revert aM;refine Wo<|Ws<|Rw z ?_
  obtain rfl:=som af;exact Wr<|e_ hr z ⟨bup (bup (bup h4 h3) s5) aN,z⟩
 rintro _ _ _ _ rfl ⟨rfl,ah⟩;have ai:=elR hmr;obtain rfl:=som ai;exact ⟨ah,z⟩
theorem W_w22 {x1:g_}{x2:a_}{res:Bool}(hm:f_w x1 x2=some res)(I:B<=w0.z)(a8:repS w0 B (sl A0 N0 C0) x1.rules)(a2:x2.name.b.length<=LEN)(a3:inI x2.kind)(V:inI x2.size)(W:repS w0 B (sl A3 N3 C3) x2.bytes)(a0:repS w0 B (sl A4 N4 C4) x2.names)(a4:repS w0 B (sl A2 N2 C2) x2.tags)(Y:repS w0 B (sl A5 N5 C5) x2.kids):j_ prog 120 [(.agg #[sl A0 N0 C0]),(.agg #[Str.v x2.name,vI x2.kind,vI x2.size,vB x2.little,sl A3 N3 C3,sl A4 N4 C4,sl A2 N2 C2,sl A5 N5 C5])] w0 (Q7 w0 B res):=by
 unfold f_w at hm
 refine goG func120 z z z fun fn hr=>Ws<|E z (fb z) ?_
 rintro _ al ⟨rfl,aT⟩;have h1:=aT.below;have am:Blk al w0.z [sl A0 N0 C0]:=aT.blk;refine E z (fb z) ?_;rintro _ H ⟨rfl,aU⟩;have G:=aU.below;have h3:Blk H al.z (vR x2 A3 N3 C3 A4 N4 C4 A2 N2 C2 A5 N5 C5):=aU.blk;refine Rw z<|Wq<|Ws<|Rf z a_s z<|R z (l0 g_3 z<|h3.at z)<|Wn<|Wb<|Ws<|Rq z z z<|Rw z<|Wc z (fun a9=>?_) (fun a9=>?_)
 ·refine Wq ?_;obtain ⟨bI,be,bf⟩:=bdS<|ifT hm a9;refine Wt (fun a w=>∃(an:Bool),an=bI/\Sat 114 [(4,vB an)] a/\Below H.z H w) ?_ ?_
  ·refine Wg<|R z (lN (vs:=vR x2 A3 N3 C3 A4 N4 C4 A2 N2 C2 A5 N5 C5) G_ n_ z z fid<|h3.row 0 8 z) ?_
   have hw:=(h1.ag B).e G;have aV:=lt_ h1.s G.s;obtain ⟨bJ,bK,az⟩:=bdS be;refine E z (fc call123 z<|c_D bK (zt' I aV) a2 a3 V (W.g hw) (a0.g hw) (a4.g hw) (Y.g hw)<|ii z) ?_;rintro _ _ ⟨sg,rfl⟩;refine Rm z ?_
   rcases bs bJ with hca | hca
   ·refine Rh z hca (fd a_z z) ?_;have aW:=h3.e sg;refine Rh z hca (l0 g_3 z<|aW.at z) ?_;obtain ⟨bL,bM,aA⟩:=bdS<|ifT az hca;refine Eg z z hca z (fc call59 z<|b_n bM (zt' I<|lt_ aV sg.s) V (ii z)<|ii z) ?_;rintro _ _ ⟨sx,rfl⟩;refine R z (pT z hca z)<|Rm z ?_
    rcases bs bL with O | O
    ·have aB:=ifT aA O;refine Rh z O (fd b_D z) ?_;have aX:=aW.e sx;refine Rh z O (l0 g_4 z<|aX.at z)<|Rh z O (not_ z)<|Rh z O (mv z) ?_
     rcases bs (!x2.little) with hcb | hcb
     ·iterate 3 refine Nh z hcb ?_
      exact Rh z O (pT z hcb z)<|R z (pT z O z)<|Ra z<|Wl (fun _ q=>⟨true,som<|ifT aB hcb,q.k<|s1 z,bup sg sx⟩)
     exact Rh z hcb (fd a_z z)<|Rh z hcb (l0 g_3 z<|aX.at z)<|Rh z hcb (a_b z z)<|Rh z O (pF z hcb z)<|R z (pT z O z)<|Ra z<|Wl (fun _ q=>⟨decide<|1<x2.size,som<|ifF aB hcb,q.k<|s1 z,bup sg sx⟩)
    iterate 4 refine Nh z O ?_
    exact Nv z<|Nv z<|Nv z<|Nh z O<|R z (pF z O z)<|Ra z<|Wl (fun _ q=>⟨false,som<|ifF aA O,q.k<|s1 z,bup sg sx⟩)
   iterate 3 refine Nh z hca ?_
   exact R z (pF z hca z)<|Rm z<|Nh z z<|Nh z z<|Nh z z<|Nh z z<|Nv z<|Nv z<|Nv z<|Nh z z<|R z (pF z z z)<|Ra z<|Wl (fun _ q=>⟨false,som<|ifF az hca,q.k<|s1 z,sg⟩)
  rintro bN _ ⟨an,rfl,_,bO⟩;revert bN;refine Wo ?_;obtain rfl:=som bf;exact Wr<|rtO<|e_ hr z ⟨bup (bup h1 G) bO,z⟩
 have aC:=ifF hm a9;refine Ws<|Rq z z z<|Rw z<|Wc z (fun aa=>?_) (fun aa=>?_)
 ·refine Wq ?_;obtain ⟨bP,bg,bh⟩:=bdS<|ifT aC aa;refine Wt (fun a w=>∃(ao:Bool),ao=bP/\Sat 114 [(4,vB ao)] a/\Below H.z H w) ?_ ?_
  ·refine Wg<|R z (lN (vs:=vR x2 A3 N3 C3 A4 N4 C4 A2 N2 C2 A5 N5 C5) G_ n_ z z fid<|h3.row 0 8 z) ?_
   have hl:=(h1.ag B).e G;have aY:=lt_ h1.s G.s;obtain ⟨bQ,bR,aD⟩:=bdS bg;refine E z (fc call123 z<|c_D bR (zt' I aY) a2 a3 V (W.g hl) (a0.g hl) (a4.g hl) (Y.g hl)<|ii z) ?_;rintro _ _ ⟨sn,rfl⟩;refine Rm z ?_
   rcases bs bQ with a5 | a5
   ·refine Rh z a5 (fd a_I z)<|Rh z a5 (l0 T_ z<|(h3.e sn).at z) ?_
    have aZ:=W.g<|hl.e sn
    refine Rh z a5 (lnR l_ z aZ) ?_;obtain ⟨bS,bT,bi⟩:=bdS<|ifT aD a5;refine Eg z z a5 z (fc call59 z<|b_n bT (zt' I<|lt_ aY sn.s) (b_B<|repS.len aZ) (ii z)<|ii z) ?_;rintro _ _ ⟨bU,rfl⟩;exact R z (pT z a5 z)<|Ra z<|Wl (fun _ q=>⟨bS,som bi,q.k<|s1 z,bup sn bU⟩)
   iterate 4 refine Nh z a5 ?_
   exact R z (pF z a5 z)<|Ra z<|Wl (fun _ q=>⟨false,som<|ifF aD a5,q.k<|s1 z,sn⟩)
  rintro bV _ ⟨ao,rfl,_,bW⟩;revert bV;refine Wo ?_;obtain rfl:=som bh;exact Wr<|rtO<|e_ hr z ⟨bup (bup h1 G) bW,z⟩
 have aE:=ifF aC aa;refine Ws<|Rq z z z<|Rw z<|Wc z (fun ab=>?_) (fun ab=>?_)
 ·refine Wq ?_;obtain ⟨bX,bj,bk⟩:=bdS<|ifT aE ab;refine Wt (fun a w=>∃(ap:Bool),ap=bX/\Sat 114 [(4,vB ap)] a/\Below H.z H w) ?_ ?_
  ·refine Wg<|R z (lN (vs:=vR x2 A3 N3 C3 A4 N4 C4 A2 N2 C2 A5 N5 C5) G_ n_ z z fid<|h3.row 0 8 z) ?_
   have hy:=(h1.ag B).e G;have b0:=lt_ h1.s G.s;obtain ⟨bY,bZ,aF⟩:=bdS bj;refine E z (fc call123 z<|c_D bZ (zt' I b0) a2 a3 V (W.g hy) (a0.g hy) (a4.g hy) (Y.g hy)<|ii z) ?_;rintro _ _ ⟨sz,rfl⟩;refine Rm z ?_
   rcases bs bY with hcc | hcc
   ·refine Rh z hcc (fd a_z z)<|Rh z hcc (l0 g_3 z<|(h3.e sz).at z) ?_
    obtain ⟨c0,c1,bm⟩:=bdS<|ifT aF hcc;refine Eg z z hcc z (fc call59 z<|b_n c1 (zt' I<|lt_ b0 sz.s) V (ii z)<|ii z) ?_;rintro _ _ ⟨c2,rfl⟩;exact R z (pT z hcc z)<|Ra z<|Wl (fun _ q=>⟨c0,som bm,q.k<|s1 z,bup sz c2⟩)
   iterate 3 refine Nh z hcc ?_
   exact R z (pF z hcc z)<|Ra z<|Wl (fun _ q=>⟨false,som<|ifF aF hcc,q.k<|s1 z,sz⟩)
  rintro c3 _ ⟨ap,rfl,_,c4⟩;revert c3;refine Wo ?_;obtain rfl:=som bk;exact Wr<|rtO<|e_ hr z ⟨bup (bup h1 G) c4,z⟩
 have aG:=ifF aE ab;refine Ws<|Rq z z z<|Rw z<|Wc z (fun ad=>?_) (fun ad=>?_)
 ·refine Wq ?_;obtain ⟨c5,bn,bo⟩:=bdS<|ifT aG ad;refine Wt (fun a w=>∃(aq:Bool),aq=c5/\Sat 114 [(4,vB aq)] a/\Below H.z H w) ?_ ?_
  ·refine Wd (X:=noX) 0 (pl_ 12 [1,8]) mo (by kernel_rfl) fun cX sh _=>?_
   have b1:=h3.e sh;refine dR z z (lN (vs:=vR x2 A3 N3 C3 A4 N4 C4 A2 N2 C2 A5 N5 C5) G_ n_ z z fid<|b1.row 0 8 z) ?_;have ho:=((h1.ag B).e G).e sh;have b2:=lt_ (lt_ h1.s G.s) sh.s;obtain ⟨c6,c7,aH⟩:=bdS bn;refine dE z z (fc call123 z<|c_D c7 (zt' I b2) a2 a3 V (W.g ho) (a0.g ho) (a4.g ho) (Y.g ho)<|ii z) (.inr fun _ _ h=>F_<|h.1) ?_;rintro _ _ ⟨si,rfl⟩;refine dM z z z ?_
   rcases bs c6 with J | J
   ·refine dRg z z z J z (lN (vs:=[sl A0 N0 C0]) D_ C_ z z fid<|(((am.e G).e sh).e si).row 0 1 z)<|dRg z z z J z (fd M_ z)<|dRg z z z J z (l0 w_ z<|(b1.e si).at z) ?_
    obtain ⟨_,c8,bp⟩:=bdS<|ifT aH J;have b3:=ho.e si;refine c_0 z z z J z (at_ (α:=Int) r_ z_3 z z z (Y.g b3) c8) ?_;rintro _ ⟨_,_,_,rfl,c9,ca,_⟩;obtain ⟨rfl,cb⟩:=O_ ca;refine dRg z z z J z (l0 g_3 z<|c9.at0 z) ?_;obtain ⟨cc,cd,bq⟩:=bdS bp;refine dEg z z z J z (fc call124 z<|i_i cd (zt' I<|lt_ b2 si.s) (a8.g b3) cb) (.inr fun _ _ h=>F_<|h.1) ?_;rintro _ _ ⟨ce,rfl,_⟩;exact dRg z z z J z (a_b z z)<|dR z z (pT z J z)<|dQ z z z<|pD (fun _ q=>⟨decide<|0<cc,som bq,q.k<|s1 z,bup (bup sh si) ce⟩)
   iterate 5 refine dRn z z z J z ?_
   exact dEn z z z J z<|dRn z z z J z<|dR z z (pF z J z)<|dQ z z z<|pD (fun _ q=>⟨false,som<|ifF aH J,q.k<|s1 z,bup sh si⟩)
  rintro cf _ ⟨aq,rfl,_,cg⟩;revert cf;refine Wo ?_;obtain rfl:=som bo;exact Wr<|rtO<|e_ hr z ⟨bup (bup h1 G) cg,z⟩
 have aI:=ifF aG ad;refine Ws<|Rq z z z<|Rw z<|Wc z (fun ae=>?_) (fun ae=>?_)
 ·refine Wq ?_;obtain ⟨ch,bt,bu⟩:=bdS<|ifT aI ae;refine Wt (fun a w=>∃(ar:Bool),ar=ch/\Sat 114 [(4,vB ar)] a/\Below H.z H w) ?_ ?_
  ·refine Wd (X:=noX) 0 (pl_ 12 [1,8]) mo (by kernel_rfl) fun cY sj _=>?_
   have b4:=h3.e sj;refine dR z z (lN (vs:=vR x2 A3 N3 C3 A4 N4 C4 A2 N2 C2 A5 N5 C5) G_ n_ z z fid<|b4.row 0 8 z) ?_;have hp:=((h1.ag B).e G).e sj;have b5:=lt_ (lt_ h1.s G.s) sj.s;obtain ⟨ci,cj,aJ⟩:=bdS bt;refine dE z z (fc call123 z<|c_D cj (zt' I b5) a2 a3 V (W.g hp) (a0.g hp) (a4.g hp) (Y.g hp)<|ii z) (.inr fun _ _ h=>F_<|h.1) ?_;rintro _ _ ⟨sk,rfl⟩;refine dM z z z ?_
   rcases bs ci with L | L
   ·refine dRg z z z L z (lN (vs:=[sl A0 N0 C0]) D_ C_ z z fid<|(((am.e G).e sj).e sk).row 0 1 z)<|dRg z z z L z (fd M_ z)<|dRg z z z L z (l0 w_ z<|(b4.e sk).at z) ?_
    obtain ⟨_,ck,bv⟩:=bdS<|ifT aJ L;have b6:=hp.e sk;refine c_0 z z z L z (at_ (α:=Int) r_ z_3 z z z (Y.g b6) ck) ?_;rintro _ ⟨_,_,_,rfl,cl,cm,_⟩;obtain ⟨rfl,cn⟩:=O_ cm;refine dRg z z z L z (l0 g_3 z<|cl.at0 z) ?_;obtain ⟨co,cp,bw⟩:=bdS bv;refine dEg z z z L z (fc call124 z<|i_i cp (zt' I<|lt_ b5 sk.s) (a8.g b6) cn) (.inr fun _ _ h=>F_<|h.1) ?_;rintro _ _ ⟨cq,rfl,_⟩;exact dRg z z z L z (a_b z z)<|dR z z (pT z L z)<|dQ z z z<|pD (fun _ q=>⟨decide<|0<co,som bw,q.k<|s1 z,bup (bup sj sk) cq⟩)
   iterate 5 refine dRn z z z L z ?_
   exact dEn z z z L z<|dRn z z z L z<|dR z z (pF z L z)<|dQ z z z<|pD (fun _ q=>⟨false,som<|ifF aJ L,q.k<|s1 z,bup sj sk⟩)
  rintro cr _ ⟨ar,rfl,_,ct⟩;revert cr;refine Wo ?_;obtain rfl:=som bu;exact Wr<|rtO<|e_ hr z ⟨bup (bup h1 G) ct,z⟩
 have aK:=ifF aI ae;refine Ws<|Rq z z z<|Rw z<|Wc z (fun af=>?_) (fun af=>?_)
 ·refine Wq ?_;obtain ⟨cu,bx,bz⟩:=bdS<|ifT aK af;refine Wt (fun a w=>∃(au:Bool),au=cu/\Sat 114 [(4,vB au)] a/\Below H.z H w) ?_ ?_
  ·refine Wg<|R z (lN (vs:=vR x2 A3 N3 C3 A4 N4 C4 A2 N2 C2 A5 N5 C5) G_ n_ z z fid<|h3.row 0 8 z)<|Rf z b_m z<|R z (l0 a_B z<|h3.at z) ?_
   have hq:=(h1.ag B).e G;have av:=a0.g hq;refine R z (lnR a_0 z av) ?_;have b7:=lt_ h1.s G.s;obtain ⟨cv,cw,aL⟩:=bdS bx;refine E z (fc call123 z<|c_D cw (zt' I b7) a2 a3 V (W.g hq) av (a4.g hq) (Y.g hq)<|b_B<|repS.len av) ?_;rintro _ _ ⟨sr,rfl⟩;refine Rm z ?_
   rcases bs cv with hcd | hcd
   ·refine Rh z hcd (fd b_m z)<|Rh z hcd (l0 a_B z<|(h3.e sr).at z) ?_
    obtain ⟨cx,cy,bA⟩:=bdS<|ifT aL hcd;refine Eg z z hcd z (fc call125 z<|W_w20 cy (zt' I<|lt_ b7 sr.s)<|a0.g<|hq.e sr) ?_;rintro _ _ ⟨cz,rfl⟩;exact R z (pT z hcd z)<|Ra z<|Wl (fun _ q=>⟨cx,som bA,q.k<|s1 z,bup sr cz⟩)
   iterate 3 refine Nh z hcd ?_
   exact R z (pF z hcd z)<|Ra z<|Wl (fun _ q=>⟨false,som<|ifF aL hcd,q.k<|s1 z,sr⟩)
  rintro cA _ ⟨au,rfl,_,cB⟩;revert cA;refine Wo ?_;obtain rfl:=som bz;exact Wr<|rtO<|e_ hr z ⟨bup (bup h1 G) cB,z⟩
 have aM:=ifF aK af;refine Ws<|Rq z z z<|Rw z<|Wc z (fun ah=>?_) (fun ah=>?_)
 ·refine Wq ?_;obtain ⟨cC,bB,bC⟩:=bdS<|ifT aM ah;refine Wt (fun a w=>∃(aw:Bool),aw=cC/\Sat 114 [(4,vB aw)] a/\Below H.z H w) ?_ ?_
  ·refine Wg<|R z (lN (vs:=vR x2 A3 N3 C3 A4 N4 C4 A2 N2 C2 A5 N5 C5) G_ n_ z z fid<|h3.row 0 8 z) ?_
   have ht:=(h1.ag B).e G;have b8:=lt_ h1.s G.s;obtain ⟨cD,cE,aN⟩:=bdS bB;refine E z (fc call123 z<|c_D cE (zt' I b8) a2 a3 V (W.g ht) (a0.g ht) (a4.g ht) (Y.g ht)<|ii z) ?_;rintro _ _ ⟨sm,rfl⟩;refine Rm z ?_
   rcases bs cD with hce | hce
   ·refine Rh z hce (lN (vs:=[sl A0 N0 C0]) D_ C_ z z fid<|((am.e G).e sm).row 0 1 z)<|Rh z hce (lN (vs:=vR x2 A3 N3 C3 A4 N4 C4 A2 N2 C2 A5 N5 C5) G_ n_ z z fid<|(h3.e sm).row 0 8 z) ?_
    have hu:=ht.e sm;obtain ⟨cF,cG,bD⟩:=bdS<|ifT aN hce;refine Eg z z hce z (fc call126 z<|W_w21 cG (zt' I<|lt_ b8 sm.s) (a8.g hu) a2 a3 V (W.g hu) (a0.g hu) (a4.g hu)<|Y.g hu) ?_;rintro _ _ ⟨cH,rfl⟩;exact R z (pT z hce z)<|Ra z<|Wl (fun _ q=>⟨cF,som bD,q.k<|s1 z,bup sm cH⟩)
   iterate 3 refine Nh z hce ?_
   exact R z (pF z hce z)<|Ra z<|Wl (fun _ q=>⟨false,som<|ifF aN hce,q.k<|s1 z,sm⟩)
  rintro cI _ ⟨aw,rfl,_,cJ⟩;revert cI;refine Wo ?_;obtain rfl:=som bC;exact Wr<|rtO<|e_ hr z ⟨bup (bup h1 G) cJ,z⟩
 refine Wq<|Ws<|Rq z z z<|Rw z ?_
 obtain ⟨cK,aO,aP⟩:=bdS<|ifF aM ah;refine Wt (fun a w=>∃(ax:Bool),ax=cK/\Sat 114 [(3,pt al.z),(6,vI x2.kind),(92,vB ax)] a/\Below H.z H w) ?_ ?_
 ·refine Wc z (fun ai=>?_)<|fun ai=>?_
  ·exact a_q<|fun _ q=>⟨x2.kind==8,som<|ifT aO ai,q.k<|s3 z z z,br H⟩
  exact Wg<|Rq z z z<|Ra z<|Wl (fun _ q=>⟨x2.kind==9,som<|ifF aO ai,q.k<|s3 z z z,br H⟩)
 rintro cL b9 ⟨ax,rfl,_,sf⟩;revert cL;refine Wo<|Wc z (fun aj=>?_) (fun aj=>?_)
 ·refine Ws<|R z (lN (vs:=vR x2 A3 N3 C3 A4 N4 C4 A2 N2 C2 A5 N5 C5) G_ n_ z z fid<|(h3.e sf).row 0 8 z) ?_
  have a7:=((h1.ag B).e G).e sf;obtain ⟨_,cM,bE⟩:=bdS<|ifT aP aj;refine E z (fc call123 z<|c_D cM (zt' I<|lt_ (lt_ h1.s G.s) sf.s) a2 a3 V (W.g a7) (a0.g a7) (a4.g a7) (Y.g a7)<|ii z) ?_;rintro _ _ ⟨cN,rfl⟩;refine Rw z ?_
  obtain rfl:=som bE;exact Wr<|rtO<|e_ hr z ⟨bup (bup (bup h1 G) sf) cN,z⟩
 have aQ:=ifF aP aj;refine Ws<|Rq z z z<|Rw z<|Wc z (fun ak=>?_) (fun ak=>?_)
 ·refine Wq ?_;obtain ⟨cO,bF,bG⟩:=bdS<|ifT aQ ak;refine Wt (fun a w=>∃(ay:Bool),ay=cO/\Sat 114 [(4,vB ay)] a/\Below b9.z b9 w) ?_ ?_
  ·refine Wg ?_;have ba:=h3.e sf;refine R z (lN (vs:=vR x2 A3 N3 C3 A4 N4 C4 A2 N2 C2 A5 N5 C5) G_ n_ z z fid<|ba.row 0 8 z) ?_;have hv:=((h1.ag B).e G).e sf;obtain ⟨cP,cQ,aR⟩:=bdS bF;refine E z (fc call123 z<|c_D cQ (zt' I<|lt_ (lt_ h1.s G.s) sf.s) a2 a3 V (W.g hv) (a0.g hv) (a4.g hv) (Y.g hv)<|ii z) ?_;rintro _ _ ⟨ss,rfl⟩;refine Rm z ?_
   rcases bs cP with a6 | a6
   ·have aS:=ifT aR a6;refine Rh z a6 (fd a_I z) ?_;have bb:=ba.e ss;refine Rh z a6 (l0 T_ z<|bb.at z) ?_;have bc:=W.g<|hv.e ss
    refine Rh z a6 (lnR l_ z bc)<|Rh z a6 (eql z z)<|R z (pT z a6 z)<|Rm z ?_
    rcases bs ((x2.bytes.length:Int)==1) with a1 | a1
    ·refine Rh z a1 (fd a_I z)<|Rh z a1 (l0 T_ z<|bb.at z) ?_
     obtain ⟨cR,cS,bH⟩:=bdS<|ifT aS a1;refine RXg z z a1 z (at_ (α:=UInt8) l_ z_5 z z z bc cS) ?_;rintro _ ⟨_,_,_,rfl,cT,cU,_⟩;obtain rfl:=u8 cU;exact Rh z a1 (l0 g_5 z<|cT.at0 z)<|Rh z a1 (nq z z)<|R z (pT z a1 z)<|Ra z<|Wl (fun _ q=>⟨(byteI cR) != (byteI (92:UInt8)),som bH,q.k<|s1 z,ss⟩)
    iterate 5 refine Nh z a1 ?_
    exact R z (pF z a1 z)<|Ra z<|Wl (fun _ q=>⟨false,som<|ifF aS a1,q.k<|s1 z,ss⟩)
   iterate 4 refine Nh z a6 ?_
   exact R z (pF z a6 z)<|Rm z<|Nh z z<|Nh z z<|Nh z z<|Nh z z<|Nh z z<|R z (pF z z z)<|Ra z<|Wl (fun _ q=>⟨false,som<|ifF aR a6,q.k<|s1 z,ss⟩)
  rintro cV _ ⟨ay,rfl,_,cW⟩;revert cV;refine Wo ?_;obtain rfl:=som bG;exact Wr<|rtO<|e_ hr z ⟨bup (bup (bup h1 G) sf) cW,z⟩
 refine Wk<|Ws<|Rw z ?_
 obtain rfl:=som<|ifF aQ ak;exact Wr<|e_ hr z ⟨bup (bup h1 G) sf,z⟩
theorem W_w23 {x1:g_}{x2:Int}{res:Bool}(hm:f_x x1 x2=some res)(I:B<=w0.z)(L:repS w0 B (sl A0 N0 C0) x1.rules)(Y:inI x2):j_ prog 108 [(.agg #[sl A0 N0 C0]),vI x2] w0 (Q7 w0 B res):=by
 unfold f_x at hm
 refine goG func108 z z z fun fn hr=>Ws<|E z (fb z) ?_
 rintro _ aN ⟨rfl,a8⟩;have h1:=a8.below;have he:Blk aN w0.z [sl A0 N0 C0]:=a8.blk;refine Rw z<|Wq<|Wm z<|Rf z a_9 z<|R z (l0 a_c z<|he.at z)<|R z (lnR Q_ z<|L.e h1)<|R z (sb_ z z) ?_
 obtain ⟨_,aO,a0⟩:=bdS hm;refine E z (fc call59 z<|b_n aO (zt' I h1.s) Y (ii z)<|iS _ _) ?_;rintro _ H ⟨h,rfl⟩;refine R z (not_ z)<|Wx z (fun hci=>?_) (fun hci=>?_)
 ·refine Ws<|Rw z ?_
  obtain rfl:=som<|ifT a0 hci;exact Wr<|e_ hr z ⟨bup h1 h,z⟩
 refine Wk<|Ws<|Rf z a_9 z ?_
 have hj:=he.e h;refine R z (l0 a_c z<|hj.at z)<|Rm z ?_
 obtain ⟨xk,aP,aq⟩:=bdS<|ifF a0 hci;have hl:=(h1.ag B).e h;refine RX z (at_ (α:=a_) Q_ n_ z z z (L.g hl) aP) ?_;rintro _ ⟨_,_,_,rfl,aQ,aR,_⟩;obtain ⟨am,nn,co,ap,nq,cr,au,ns,ct,av,nw,cx,rfl,a9,aS,aT,aU,aV,aW,hf⟩:=a_y aR;refine R z (lN (vs:=vR xk am nn co ap nq cr au ns ct av nw cx) G_ n_ z z fid aQ)<|E z (fa b_w) ?_
 rintro _ aX ⟨rfl,aa⟩;have h2:=aa.below;refine E0 (fs0 (cur':=vR xk am nn co ap nq cr au ns ct av nw cx) n_ z z (aa.blk:Blk aX H.z [(Str.v (⟨[]⟩:Str)),vI 0,vI 0,vB false,sl none 0 0,sl none 0 0,sl none 0 0,sl none 0 0]) z z z z) ?_;rintro _ J ⟨hg,aY⟩;have h3:=aY.one;refine Wn<|Wq<|Ws<|Rw z ?_
 obtain ⟨_,ar,a1⟩:=bdS aq;refine Wf (σ:=Unit) (ρ:=Bool) (fun (ab:Nat)(_:Unit) a w=>Sat 58 [(1,vI x2),(2,pt w0.z),(5,pt H.z),(6,vI ((ab:Nat):Int))] a/\Below J.z J w) (fun (_:Unit) a w=>Sat 58 [(1,vI x2),(2,pt w0.z),(5,pt H.z)] a/\Below J.z J w) (rQ prog fn<|Q7 w0 B) ar ?_ ?_ ?_ ?_ ?_
 ·exact fun _ q=>⟨q.k<|s4 z z z z,br J⟩
 ·rintro ab _ _ _ _ a2 ⟨aw,sa⟩ ax;refine Wu ?_ aw;refine Wq<|Wm z<|Rm z<|Rl z z z<|Wx z (fun _=>?_) (fun hc=>(e_V a2 hc).elim)
  refine Wk<|Wq<|Wb<|Wq (Wd (X:=noX) 0 (pl_ 9 []) mo (by kernel_rfl) fun bj sb _=>dR z z (fd a_9 z)<|dR z z (l0 a_c z<|((((hj.e h2).c h3<|djs<|mm1 he.lt h.s).e sa).e sb).at z)<|dM z z z ?_)
  obtain ⟨_,aZ,a3⟩:=bdS ax;have ad:=lt_ h1.s h.s;refine dRX z z (at_ (α:=a_) Q_ n_ z z z (L.g<|(((hl.e h2).c h3<|c_ (or0 (f_ lr) (m_<|zt' I ad):∀k∈[H.z],¬B k)).e sa).e sb) aZ) ?_;rintro _ ⟨_,_,_,rfl,b0,b1,_⟩;obtain ⟨_,_,_,_,_,_,_,_,_,_,_,_,rfl,_,_,_,_,_,_,_⟩:=a_y b1;refine dR z z (fd c_g z)<|dR z z (l0 g_9 z<|b0.at (j:=0) z)<|dR z z (fd c_g z)<|dR z z (l0 g_9 z<|((hg.e sa).e sb).at z)<|dR z z (b_E z z)<|pD<|Wo<|Wc z (fun hcy=>?_) (fun hcy=>?_)
  ·exact Ws<|Rw z<|Wr<|rtO<|qL (som<|ifT a3 hcy).symm<|e_ hr z ⟨bup (bup (bM (bup (bup h1 h) h2) h3<|m1 ad) sa) sb,z⟩
  exact Wk<|Wg<|Rm z<|R z (inc_ a2 (tl_ Y) z z)<|Ra z<|Wl (fun _ q=>⟨(),(som<|ifF a3 hcy).symm,⟨q.k<|s4 z z z z,bup sa sb⟩⟩)
 ·rintro _ _ _ ⟨ay,b2⟩;refine Wu ?_ ay;refine Wq<|Wm z<|Rm z<|Rl z z z<|Wx z (fun hc=>(e_W hc).elim) (fun _=>?_)
  exact We<|fun _ q=>⟨rfl,⟨q.k<|s3 z z z,b2⟩⟩
 ·rintro _ b3 wc rfl ⟨_,s5⟩;have az:=elL a1;revert b3;refine Wo<|Wq<|Ws<|Rw z ?_
  obtain ⟨_,aA,a4⟩:=bdS az;refine Wf (σ:=Unit) (ρ:=Bool) (fun (ae:Nat)(_:Unit) a w=>Sat 58 [(1,vI x2),(2,pt w0.z),(5,pt H.z),(7,vI ((ae:Nat):Int))] a/\Below wc.z wc w) (fun (_:Unit) a w=>Sat 58 [(2,pt w0.z),(5,pt H.z)] a/\Below wc.z wc w) (rQ prog fn<|Q7 w0 B) aA ?_ ?_ ?_ ?_ ?_
  ·exact fun _ q=>⟨q.k<|s4 z z z z,br wc⟩
  ·rintro ae _ _ _ _ a5 ⟨aB,sd⟩ aC;refine Wu ?_ aB;refine Wq<|Wm z<|Rf z M_ z ?_
   have af:=(hg.e s5).e sd;refine R z (l0 w_ z<|af.at z) ?_;have hz:=lt_ h1.s h.s;have ah:=hf.g<|(((h2.ag B).c h3<|c_ (or0 (f_ lr) (m_<|zt' I hz):∀k∈[H.z],¬B k)).e s5).e sd
   refine R z (lnR r_ z ah)<|Rl z z z<|Wx z (fun _=>?_) (fun hc=>(X_ a5 hc).elim)
   refine Wk<|Wq<|Wb<|Ws<|Rf z M_ z<|R z (l0 w_ z<|af.at z)<|Rm z ?_
   obtain ⟨_,b4,aD⟩:=bdS aC;refine RX z (at_ (α:=Int) r_ z_3 z z z ah b4) ?_;rintro _ ⟨_,_,_,rfl,b5,b6,_⟩;obtain ⟨rfl,b7⟩:=O_ b6;refine R z (l0 g_3 z<|b5.at0 z)<|Rm z<|R z (sb_ z z) ?_
   obtain ⟨_,b8,a6⟩:=bdS aD;refine E z (fc call59 z<|b_n b8 (zt' I<|lt_ (lt_ (lt_ (lt_ hz h2.s) h3.s) s5.s) sd.s) b7 (ii z)<|iS _ _) ?_;rintro _ _ ⟨ai,rfl⟩;refine R z (not_ z)<|Wx z (fun O=>?_) (fun O=>?_)
   ·exact Ws<|Rw z<|Wr<|rtO<|qL (som<|ifT a6 O).symm<|e_ hr z ⟨bup (bup (bup (bM (bup (bup h1 h) h2) h3<|m1 hz) s5) sd) ai,z⟩
   exact Wk<|Wg<|Rm z<|R z (inc_ a5 (lt_ (repS.len hf) H_) z z)<|Ra z<|Wl (fun _ q=>⟨(),(som<|ifF a6 O).symm,⟨q.k<|s4 z z z z,bup sd ai⟩⟩)
  ·rintro _ _ _ ⟨aE,V⟩;refine Wu ?_ aE;refine Wq<|Wm z<|Rf z M_ z<|R z (l0 w_ z<|((hg.e s5).e V).at z) ?_
   refine R z (lnR r_ z<|hf.g<|(((h2.ag B).c h3<|c_ (or0 (f_ lr) (m_<|zt' I<|lt_ h1.s h.s):∀k∈[H.z],¬B k)).e s5).e V)<|Rl z z z<|Wx z (fun hc=>(Y_ hc).elim) (fun _=>?_)
   exact We<|fun _ q=>⟨rfl,⟨q.k<|s2 z z,V⟩⟩
  ·rintro _ b9 aj rfl ⟨_,s8⟩;have aF:=elL a4;revert b9;refine Wo<|Wq ?_
   obtain ⟨ba,aG,aH⟩:=bdS aF;refine Wt (fun a w=>∃(W:Bool),W=ba/\Sat 58 [(4,vB W)] a/\Below aj.z aj w) ?_ ?_
   ·refine Wg<|Rf z c_g z ?_
    have ak:=(hg.e s5).e s8;refine R z (l0 g_9 z<|ak.at z) ?_;have al:=lt_ h1.s h.s;have an:=lt_ (lt_ (lt_ (lt_ al h2.s) h3.s) s5.s) s8.s;obtain ⟨bb,bc,a7⟩:=bdS aG;refine E z (fc call119 z<|W_w0y bc (zt' I an) a9) ?_;rintro _ _ ⟨s7,rfl⟩;refine Rm z ?_
    rcases bs bb with G | G
    ·refine Rh z G (lN (vs:=[sl A0 N0 C0]) D_ C_ z z fid<|(((((hj.e h2).c h3<|djs<|mm1 he.lt h.s).e s5).e s8).e s7).row 0 1 z)<|Rh z G (lN (vs:=vR xk am nn co ap nq cr au ns ct av nw cx) G_ n_ z z fid<|(ak.e s7).row 0 8 z) ?_
     have ao:∀k∈[H.z],¬B k:=or0 (f_ lr)<|m_<|zt' I al;have hh:=((((h2.ag B).c h3<|c_ ao).e s5).e s8).e s7;obtain ⟨be,bf,aI⟩:=bdS<|ifT a7 G;refine Eg z z G z (fc call120 z<|W_w22 bf (zt' I<|lt_ an s7.s) (L.g<|((((hl.e h2).c h3<|c_ ao).e s5).e s8).e s7) a9 aS aT (aU.g hh) (aV.g hh) (aW.g hh)<|hf.g hh) ?_;rintro _ _ ⟨bg,rfl⟩;exact R z (pT z G z)<|Ra z<|Wl (fun _ q=>⟨be,som aI,q.k<|s1 z,bup s7 bg⟩)
    iterate 3 refine Nh z G ?_
    exact R z (pF z G z)<|Ra z<|Wl (fun _ q=>⟨false,som<|ifF a7 G,q.k<|s1 z,s7⟩)
   rintro bh _ ⟨W,rfl,_,bi⟩;revert bh;refine Wo ?_;obtain rfl:=som aH;exact Wr<|e_ hr z ⟨bup (bup (bup (bM (bup (bup h1 h) h2) h3<|m1<|lt_ h1.s h.s) s5) s8) bi,z⟩
  rintro _ _ _ _ rfl ⟨rfl,aJ⟩;have aK:=elR a4;obtain rfl:=som aK;exact ⟨aJ,z⟩
 rintro _ _ _ _ rfl ⟨rfl,aL⟩;have aM:=elR a1;obtain rfl:=som aM;exact ⟨aL,z⟩
theorem W_w24 {x1:g_}{res:Bool}(hm:f_y x1=some res)(L:B<=w0.z)(H:repS w0 B (sl A0 N0 C0) x1.rules):j_ prog 73 [(.agg #[sl A0 N0 C0])] w0 (Q7 w0 B res):=by
 unfold f_y at hm
 refine goG func73 z z z fun fn hr=>Ws<|E z (fb z) ?_
 rintro _ G ⟨rfl,V⟩;have h:=V.below;have h2:Blk G w0.z [sl A0 N0 C0]:=V.blk;refine Rw z<|Wq<|Ws<|Rw z ?_
 obtain ⟨_,hug,O⟩:=bdS hm;refine Wf (σ:=Unit) (ρ:=Bool) (fun (ka:Nat)(_:Unit) a w=>Sat 19 [(1,pt w0.z),(3,vI ((ka:Nat):Int))] a/\Below G.z G w) (fun (_:Unit) a w=>Sat 19 [(1,pt w0.z)] a/\Below G.z G w) (rQ prog fn<|Q7 w0 B) hug ?_ ?_ ?_ ?_ ?_
 ·exact fun _ q=>⟨q.k<|s2 z z,br G⟩
 ·rintro ka _ _ _ _ I ⟨hSh,s3⟩ hmi;refine Wu ?_ hSh;refine Wq<|Wm z<|Rf z a_9 z ?_
  have hb:=h2.e s3;refine R z (l0 a_c z<|hb.at z) ?_;have hd:=H.g<|(h.ag B).e s3
  refine R z (lnR Q_ z hd)<|Rl z z z<|Wx z (fun _=>?_) (fun hc=>(X_ I hc).elim)
  refine Wk<|Wq<|Wb<|Ws<|R z (lN (vs:=[sl A0 N0 C0]) D_ C_ z z fid<|hb.row 0 1 z)<|Rm z ?_
  obtain ⟨_,ej,hmc⟩:=bdS hmi;refine E z (fc call108 z<|W_w23 ej (zt' L<|lt_ h.s s3.s) hd<|ic (Nat.le_of_lt I)<|lt_ (repS.len H) H_) ?_;rintro _ _ ⟨se,rfl⟩;refine R z (not_ z)<|Wx z (fun J=>?_) (fun J=>?_)
  ·exact Ws<|Rw z<|Wr<|rtO<|qL (som<|ifT hmc J).symm<|e_ hr z ⟨bup (bup h s3) se,z⟩
  exact Wk<|Wg<|Rm z<|R z (inc_ I (lt_ (repS.len H) H_) z z)<|Ra z<|Wl (fun _ q=>⟨(),(som<|ifF hmc J).symm,⟨q.k<|s2 z z,bup s3 se⟩⟩)
 ·rintro _ _ _ ⟨hSk,s7⟩;refine Wu ?_ hSk;refine Wq<|Wm z<|Rf z a_9 z<|R z (l0 a_c z<|(h2.e s7).at z)<|R z (lnR Q_ z<|H.g<|(h.ag B).e s7)<|Rl z z z<|Wx z (fun hc=>(Y_ hc).elim) (fun _=>?_)
  exact We<|fun _ q=>⟨rfl,⟨q.k<|s1 z,s7⟩⟩
 ·rintro _ al _ rfl ⟨_,s4⟩;have hmm:=elL O;revert al;refine Wo<|Ws<|Rf z a_9 z<|R z (l0 a_c z<|(h2.e s4).at z) ?_
  have hf:=H.g<|(h.ag B).e s4
  refine R z (lnR Q_ z hf) ?_;obtain ⟨_,en,hmo⟩:=bdS hmm;refine E z (fc call59 z<|b_n en (zt' L<|lt_ h.s s4.s) (b_B<|repS.len hf) (ii z)<|ii z) ?_;rintro _ _ ⟨sp,rfl⟩;refine Rw z ?_
  obtain rfl:=som hmo;exact Wr<|e_ hr z ⟨bup (bup h s4) sp,z⟩
 rintro _ _ _ _ rfl ⟨rfl,hqq⟩;have hmr:=elR O;obtain rfl:=som hmr;exact ⟨hqq,z⟩
theorem W_w25 {x1:g_}{x2:Int}{res:Bool}(hm:f_J x1 x2=some res)(I:B<=w0.z)(H:repS w0 B (sl A0 N0 C0) x1.rules)(L:inI x2):j_ prog 58 [(.agg #[sl A0 N0 C0]),vI x2] w0 (Q7 w0 B res):=by
 unfold f_J at hm
 refine goG func58 z z z fun fn hr=>Ws<|E z (fb z) ?_
 rintro _ G ⟨rfl,h5⟩;have h1:=h5.below;have h6:Blk G w0.z [sl A0 N0 C0]:=h5.blk;refine Rw z<|Wq ?_
 obtain ⟨u8,O,hma⟩:=bdS hm;refine Wt (fun a w=>∃(x4:Bool),x4=u8/\Sat 15 [(4,vB x4)] a/\Below G.z G w) ?_ ?_
 ·refine Wg<|Rm z<|Rf z a_9 z<|R z (l0 a_c z<|h6.at z)<|R z (lnR Q_ z<|H.e h1)<|R z (sb_ z z) ?_
  obtain ⟨rb,ec,J⟩:=bdS O;refine E z (fc call59 z<|b_n ec (zt' I h1.s) L (ii z)<|iS _ _) ?_;rintro _ _ ⟨s2,rfl⟩;refine Rm z ?_
  rcases bs rb with h | h
  ·refine Rh z h (lN (vs:=[sl A0 N0 C0]) D_ C_ z z fid<|(h6.e s2).row 0 1 z) ?_;obtain ⟨rd,ee,hmf⟩:=bdS<|ifT J h;refine Eg z z h z (fc call73 z<|W_w24 ee (zt' I<|lt_ h1.s s2.s)<|H.g<|(h1.ag B).e s2) ?_;rintro _ _ ⟨sg,rfl⟩;exact R z (pT z h z)<|Ra z<|Wl (fun _ q=>⟨rd,som hmf,q.k<|s1 z,bup s2 sg⟩)
  exact Nh z h<|Nh z h<|R z (pF z h z)<|Ra z<|Wl (fun _ q=>⟨false,som<|ifF J h,q.k<|s1 z,s2⟩)
 rintro ah _ ⟨x4,rfl,_,si⟩;revert ah;refine Wo ?_;obtain rfl:=som hma;exact Wr<|e_ hr z ⟨bup h1 si,z⟩
theorem W_w26 {x1:List UInt8}{x2:Bool}{res:Int}(hm:f_A x1 x2=some res)(O:B<=w0.z)(h:repS w0 B (sl A0 N0 C0) x1):j_ prog 109 [sl A0 N0 C0,vB x2] w0 (Q0 w0 B res):=by
 unfold f_A at hm
 refine goG func109 z z z fun fn hr=>Ws<|Rw z<|Ws<|Rw z<|Wq<|Wm z<|R z (lnR l_ z h)<|R z (a_b z z)<|Wx z (fun H=>?_) (fun H=>?_)
 ·refine Ws<|Rw z ?_
  obtain rfl:=som<|ifT hm H;exact Wr<|e_ hr z ⟨br w0,z,ii z⟩
 refine Wk<|Wq<|Ws<|Rw z ?_
 obtain ⟨_,hue,L⟩:=bdS<|ifF hm H;refine Wf (σ:=Int) (ρ:=Int) (fun (k1:Nat)(x0:Int) a w=>Sat 33 [(0,sl A0 N0 C0),(1,vB x2),(5,vI x0),(6,vI ((k1:Nat):Int))] a/\Below w0.z w0 w/\inI x0) (fun (x0:Int) a w=>Sat 33 [(5,vI x0)] a/\Below w0.z w0 w/\inI x0) (rQ prog fn<|Q0 w0 B) hue ?_ ?_ ?_ ?_ ?_
 ·exact fun _ q=>⟨q.k<|s4 z z z z,br w0,ii z⟩
 ·rintro k1 x0 _ G _ I ⟨hSf,s7,h3⟩ hmg;refine Wu ?_ hSf;refine Wq<|Wm z<|Rm z ?_
  have ha:=h.e s7;refine R z (lnR l_ z ha)<|Rl z z z<|Wx z (fun _=>?_) (fun hc=>(X_ I hc).elim)
  refine Wk<|Wq<|Wb<|Wm z<|Rw z<|Wq<|Wm z<|Wn ?_
  obtain ⟨uh,hub,hmi⟩:=bdS hmg;refine Wt (fun a w=>∃(x4:Int),x4=uh/\Sat 33 [(0,sl A0 N0 C0),(1,vB x2),(5,vI x0),(6,vI ((k1:Nat):Int)),(7,vI x4)] a/\Below G.z G w/\inI x4) ?_ ?_
  ·refine Wc z (fun J=>?_)<|fun J=>?_
   ·exact Wg<|Rm z<|R z (lnR l_ z ha)<|R z (sb_ z z)<|Rm z<|R z (sb_ z z)<|Ra z<|Wl (fun _ q=>⟨K_ (K_ (x1.length:Int) 1) ((k1:Nat):Int),som<|ifT hub J,q.k<|s5 z z z z z,br G,iS _ _⟩)
   exact a_q<|fun _ q=>⟨((k1:Nat):Int),som<|ifF hub J,q.k<|s5 z z z z z,br G,ic (Nat.le_of_lt I)<|lt_ (repS.len h) H_⟩
  rintro aj _ ⟨x4,rfl,_,sc,_⟩;revert aj;refine Wo<|Wg<|Rm z<|R z (g_V z z)<|RM z z ?_
  obtain ⟨xk,el,hmm⟩:=bdS hmi;refine RX z (at_ (α:=UInt8) l_ z_5 z z z (h.g<|(s7.ag B).e sc) el) ?_;rintro _ ⟨_,_,_,rfl,hn,ho,_⟩;obtain rfl:=u8 ho;exact R z (l0 g_5 z<|hn.at0 z)<|R z (c_c d_5 d_3 z)<|R z (add_ z z)<|Rw z<|Wg<|Rm z<|R z (inc_ I (lt_ (repS.len h) H_) z z)<|Ra z<|Wl (fun _ q=>⟨h_ (b_e x0 256)<|byteI xk,(som hmm).symm,⟨q.k<|s4 z z z z,bup s7 sc,iA _ _⟩⟩)
 ·rintro x0 _ _ ⟨hSp,sd,h3⟩;refine Wu ?_ hSp;refine Wq<|Wm z<|Rm z<|R z (lnR l_ z<|h.e sd)<|Rl z z z<|Wx z (fun hc=>(Y_ hc).elim) (fun _=>?_)
  exact We<|fun _ q=>⟨rfl,⟨q.k<|s1 z,sd,h3⟩⟩
 ·rintro x0 aq _ rfl ⟨_,sr,h3⟩;have hms:=elL L;revert aq;refine Wo<|Wm z<|Rw z ?_
  obtain rfl:=som hms;exact Wr<|e_ hr z ⟨sr,z,h3⟩
 rintro _ _ _ _ rfl ⟨rfl,hqt⟩;have hmu:=elR L;obtain rfl:=som hmu;exact ⟨hqt,z⟩
def Q8 (w0:World)(B:Zone)(r:Int×Int×Bool)(v:Value)(w':World):Prop:=Bw w0 w'/\un3 (fun h G H=>v = .tuple #[vI h,vI G,vB H]/\inI h/\inI G) r
theorem i_j {x1:g_}{x2:Int}{x3:List UInt8}{x4:Int}{res:Int×Int×Bool}(hm:d_T x1 x2 x3 x4=some res)(L:B<=w0.z)(Y:repS w0 B (sl A0 N0 C0) x1.rules)(a5:inI x2)(J:repS w0 B (sl A7 N7 C7) x3)(a0:inI x4):j_ prog 74 [(.agg #[sl A0 N0 C0]),vI x2,sl A7 N7 C7,vI x4] w0 (Q8 w0 B res):=by
 unfold d_T at hm
 refine goG func74 z z z fun fn hr=>Ws<|E z (fb z) ?_
 rintro _ I ⟨rfl,V⟩;have G:=V.below;refine RA z z<|Rw z<|Ws<|Rf z a_9 z<|R z (l0 a_c z<|(V.blk:Blk I w0.z [sl A0 N0 C0]).at z)<|Rm z ?_
 obtain ⟨W,em,O⟩:=bdS hm;refine RX z (at_ (α:=a_) Q_ n_ z z z (Y.e G) em) ?_;rintro _ ⟨_,_,_,rfl,ht,hu,_⟩;obtain ⟨aa,nb,cc,ad,ne,cf,ah,ng,ci,aj,nk,cl,rfl,_,_,_,_,_,_,_⟩:=a_y hu;refine R z (lN (vs:=vR W aa nb cc ad ne cf ah ng ci aj nk cl) G_ n_ z z fid ht)<|E z (fa b_w) ?_
 rintro _ wr ⟨rfl,hn⟩;have h1:=hn.below;refine E0 (fs0 (cur':=vR W aa nb cc ad ne cf ah ng ci aj nk cl) n_ z z (hn.blk:Blk wr I.z [(Str.v (⟨[]⟩:Str)),vI 0,vI 0,vB false,sl none 0 0,sl none 0 0,sl none 0 0,sl none 0 0]) z z z z) ?_;rintro _ _ ⟨ho,ss⟩;have h2:=ss.one;refine Wn<|Wq<|Wm z ?_
 have hp:=((G.ag B).e h1).c h2<|c_ (or0 (f_ lr) (m_<|zt' L G.s):∀k∈[I.z],¬B k)
 refine R z (lnR l_ z<|J.g hp)<|Rm z<|R z (sb_ z z)<|Rf z a_z z<|R z (l0 g_3 z<|ho.at z)<|Rl z z z<|Wx z (fun H=>?_) (fun H=>?_)
 ·refine Wm z<|RA z z<|Rw z ?_
  obtain rfl:=som<|ifT O H;exact Wr<|A_ hr z z z ⟨bM (bup G h1) h2<|m1 G.s,z,ii z,a0⟩
 refine Wk<|Wq (Wd (X:=noX) 0 (.rd 0<|.rd 1<|.rd 2<|.rd 3<|.rd 4<|.rd 5<|.rd 6<|.rd 7<|.rd 8<|.rd 10<|.rd 11<|.rd 12<|.rd 13<|.ef 9<|.rd 14<|.rd 15<|.rd 16 .done) mo (by kernel_rfl) fun a6 s3 _=>?_)
 iterate 3 refine dM z z z ?_
 refine dR z z (fd a_z z) ?_;have h6:=ho.e s3;refine dR z z (l0 g_3 z<|h6.at z)<|dR z z (add_ z z) ?_
 obtain ⟨_,ex,hmy⟩:=bdS<|ifF O H;refine dRX z z (rX l_ z_5 z z (J.g<|hp.e s3) z z ex) ?_;rintro _ ⟨_,_,_,rfl,hz⟩;refine dR z z (fd b_D z)<|dR z z (l0 g_4 z<|h6.at z)<|dM z z z<|dR z z (fd a_z z)<|dR z z (l0 g_3 z<|h6.at z)<|dR z z (add_ z z) ?_
 obtain ⟨_,a2,a1⟩:=bdS hmy;refine dE z z (fc call109 z<|W_w26 a2 (zt' L<|lt_ (lt_ (lt_ G.s h1.s) h2.s) s3.s) hz) (.inr fun _ _ h=>F_<|h.1) ?_;rintro _ _ ⟨a3,rfl,a4⟩
 iterate 3 refine dQ z z z ?_
 refine pD<|Wo ?_
 obtain rfl:=som a1;exact Wr<|A_ hr z z z ⟨bup (bup (bM (bup G h1) h2<|m1 G.s) s3) a3,z,a4,iA _ _⟩
def Q9 (w0:World)(B:Zone)(r:Val×Int×Int)(v:Value)(w':World):Prop:=Bw w0 w'/\un3 (fun h G H=>∃a1 I J S1 a2 L O S2,v = .tuple #[(.agg #[vI h.number,sl a1 I J,sl a2 L O]),vI G,vI H]/\inI h.number/\b_ w' S1 (sl a1 I J) h.bytes/\b_ w' S2 (sl a2 L O) h.items/\inI G/\inI H/\(S1++S2).Nodup/\(∀k∈(S1++S2),w0.z<=k)) r
theorem W_w27 {x1:a_}{x2:List UInt8}{x3:Int}{res:Val×Int×Int}(hm:f_B x1 x2 x3=some res)(ab:B<=w0.z)(a5:x1.name.b.length<=LEN)(a6:inI x1.kind)(a7:inI x1.size)(I:repS w0 B (sl A9 N9 C9) x1.bytes)(a8:repS w0 B (sl A8 N8 C8) x1.names)(a9:repS w0 B (sl AA NA CA) x1.tags)(aa:repS w0 B (sl AB NB CB) x1.kids)(O:repS w0 B (sl A6 N6 C6) x2)(V:inI x3):j_ prog 75 [(.agg #[Str.v x1.name,vI x1.kind,vI x1.size,vB x1.little,sl A9 N9 C9,sl A8 N8 C8,sl AA NA CA,sl AB NB CB]),sl A6 N6 C6,vI x3] w0 (Q9 w0 B res):=by
 unfold f_B at hm
 refine goG func75 z z z fun fn hr=>Ws<|E z (fb z) ?_
 rintro _ J ⟨rfl,he⟩;have G:=he.below;have h5:Blk J w0.z (vR x1 A9 N9 C9 A8 N8 C8 AA NA CA AB NB CB):=he.blk;refine E z (fa a_a) ?_;rintro _ H ⟨rfl,hf⟩;have h1:=hf.below;have L:Blk H J.z [vI 0,sl none 0 0,sl none 0 0]:=hf.blk;refine Ra z<|Rw z<|Wq<|Ws<|Rw z ?_
 obtain ⟨_,hun,hmg⟩:=bdS hm;refine Wf (σ:=Unit) (ρ:=Val×Int×Int) (fun (kh:Nat)(_:Unit) a w=>Sat 47 [(1,sl A6 N6 C6),(2,vI x3),(3,pt w0.z),(6,pt J.z),(9,vI ((kh:Nat):Int))] a/\Below H.z H w) (fun (_:Unit) a w=>Sat 47 [(2,vI x3),(3,pt w0.z),(6,pt J.z)] a/\Below H.z H w) (rQ prog fn<|Q9 w0 B) hun ?_ ?_ ?_ ?_ ?_
 ·exact fun _ q=>⟨q.k<|s5 z z z z z,br H⟩
 ·rintro kh _ _ _ _ hki ⟨hSo,s2⟩ hmj;refine Wu ?_ hSo;refine Wq<|Wm z<|Rf z a_I z ?_
  have hk:=(h5.e h1).e s2;refine R z (l0 T_ z<|hk.at z) ?_;have ha:=((G.ag B).e h1).e s2;refine R z (lnR l_ z<|I.g ha)<|Rl z z z<|Wx z (fun _=>?_) (fun hc=>(X_ hki hc).elim)
  refine Wk<|Wq<|Wb<|Wq<|Wm z<|Rm z<|R z (add_ z z)<|Rm z<|R z (lnR l_ z<|O.g ha)<|R z (b_f z z)<|Wx z (fun hcb=>?_) (fun hcb=>?_)
  ·refine Ws<|R z (bP (parts:=[]) (cs:=[vI 0,sl none 0 0,sl none 0 0]) U_ z z)<|Rm z<|E0 (fs0 (cur':=[vI 0,sl none 0 0,sl none 0 0]) i_ z z (L.e s2) z z z z) ?_
   rintro _ _ ⟨hp,sq⟩;exact Ra z<|Rw z<|Wr<|rtO<|qL (som<|ifT hmj hcb).symm<|A_ hr (o_ z_ i_ z hp z) z z ⟨bM (bup (bup G h1) s2) sq.one<|m1 G.s,none,0,0,[],none,0,0,[],z,ii z,onL,onL,V,ii z,nd0,al0⟩
  refine Wk<|Wq (Wd (X:=noX) 0 (pl_ 12 []) mo (by kernel_rfl) fun ad s6 _=>?_)
  iterate 3 refine dM z z z ?_
  refine dR z z (add_ z z) ?_;obtain ⟨_,er,hms⟩:=bdS<|ifF hmj hcb;have hl:=ha.e s6;refine dRX z z (at_ (α:=UInt8) l_ z_5 z z z (O.g hl) er) ?_;rintro _ ⟨_,_,_,rfl,ht,hu,_⟩;obtain rfl:=u8 hu;refine dR z z (l0 g_5 z<|ht.at0 z)<|dR z z (fd a_I z)<|dR z z (l0 T_ z<|(hk.e s6).at z)<|dM z z z ?_
  obtain ⟨_,ev,hmm⟩:=bdS hms;refine dRX z z (at_ (α:=UInt8) l_ z_5 z z z (I.g hl) ev) ?_;rintro _ ⟨_,_,_,rfl,hw,hx,_⟩;obtain rfl:=u8 hx;refine dR z z (l0 g_5 z<|hw.at0 z)<|dR z z (nq z z)<|pD<|Wo<|Wc z (fun hcc=>?_) (fun hcc=>?_)
  ·refine Ws<|R z (bP (parts:=[]) (cs:=[vI 0,sl none 0 0,sl none 0 0]) U_ z z)<|RM z z<|R z (add_ z z)<|E0 (fs0 (cur':=[vI 0,sl none 0 0,sl none 0 0]) i_ z z ((L.e s2).e s6) z z z z) ?_
   rintro _ _ ⟨hy,sz⟩;exact Ra z<|Rw z<|Wr<|rtO<|qL (som<|ifT hmm hcc).symm<|A_ hr (o_ z_ i_ z hy z) z z ⟨bM (bup (bup (bup G h1) s2) s6) sz.one<|m1 G.s,none,0,0,[],none,0,0,[],z,ii z,onL,onL,iA _ _,ii z,nd0,al0⟩
  exact Wk<|Wg<|Rm z<|R z (inc_ hki (lt_ (repS.len I) H_) z z)<|Ra z<|Wl (fun _ q=>⟨(),(som<|ifF hmm hcc).symm,⟨q.k<|s5 z z z z z,bup s2 s6⟩⟩)
 ·rintro _ _ _ ⟨W,sd⟩;refine Wu ?_ W;refine Wq<|Wm z<|Rf z a_I z<|R z (l0 T_ z<|((h5.e h1).e sd).at z)<|R z (lnR l_ z<|I.g<|((G.ag B).e h1).e sd)<|Rl z z z<|Wx z (fun hc=>(Y_ hc).elim) (fun _=>?_)
  exact We<|fun _ q=>⟨rfl,⟨q.k<|s3 z z z,sd⟩⟩
 ·rintro _ a2 _ rfl ⟨_,s7⟩;have Y:=elL hmg;revert a2;refine Wo<|Wq (Wd (X:=(· ∈ [J.z])) 0 (pl_ 9 [6]) mo (by kernel_rfl) fun ae s8 _=>dR z z (bP (parts:=[]) (cs:=[vI 0,sl none 0 0,sl none 0 0]) U_ z z)<|dM z z z<|dR z z (fd a_I z)<|dR z z (l1 T_ z (djs<|mmr h5.lt)<|(((h5.e h1).e s7).e s8).at z)<|dR z z (lnR l_ z<|I.g<|(((G.ag B).e h1).e s7).e s8)<|dR z z (add_ z z)<|dE0 z (fs0 (cur':=[vI 0,sl none 0 0,sl none 0 0]) i_ z z ((L.e s7).e s8) z z z z) (.inr fun _ _ h=>g_v (List.mem_singleton.2 z) h.2) ?_)
  rintro _ _ ⟨a3,a4⟩;refine dQ z z z<|dQ z z z<|pD<|Wo ?_
  obtain rfl:=som Y;exact Wr<|A_ hr (o_ z_ i_ z a3 z) z z ⟨bM (bup (bup (bup G h1) s7) s8) a4.one<|m1 G.s,none,0,0,[],none,0,0,[],z,ii z,onL,onL,iA _ _,ii z,nd0,al0⟩
 rintro _ _ _ _ rfl ⟨rfl,a0⟩;have a1:=elR hmg;obtain rfl:=som a1;exact ⟨a0,z⟩
theorem W_w0z {x1:List UInt8}{x2:Int}{x3:Int}{res:Val×Int×Int}(hm:e_x x1 x2 x3=some res)(a0:B<=w0.z)(L:repS w0 B (sl A0 N0 C0) x1)(W:inI x2)(Y:inI x3):j_ prog 76 [sl A0 N0 C0,vI x2,vI x3] w0 (Q9 w0 B res):=by
 unfold e_x at hm
 refine goG func76 z z z fun fn hr=>Ws<|E z (fa a_a) ?_
 rintro _ we ⟨rfl,O⟩;have h:=O.below;have h2:Blk we w0.z [vI 0,sl none 0 0,sl none 0 0]:=O.blk;refine Ra z<|Rw z<|Wq<|Wm z<|R z (lnR l_ z<|L.e h)<|Rm z<|R z (sb_ z z)<|Rm z<|Rl z z z<|Wx z (fun G=>?_) (fun G=>?_)
 ·refine Ws<|R z (bP (parts:=[]) (cs:=[vI 0,sl none 0 0,sl none 0 0]) U_ z z)<|Rm z<|E0 (fs0 (cur':=[vI 0,sl none 0 0,sl none 0 0]) i_ z z h2 z z z z) ?_
  rintro _ _ ⟨hf,sg⟩;refine Ra z<|Rw z ?_
  obtain rfl:=som<|ifT hm G;exact Wr<|A_ hr (o_ z_ i_ z hf z) z z ⟨bM h sg.one<|f_ lr,none,0,0,[],none,0,0,[],z,ii z,onL,onL,W,ii z,nd0,al0⟩
 refine Wk<|Ws<|E z (f0 (α:=UInt8) a_C) ?_
 rintro _ _ ⟨_,_,_,rfl,s1,hh⟩;refine RM z z<|RM z z<|R z (add_ z z) ?_
 obtain ⟨_,ei,hmj⟩:=bdS<|ifF hm G;refine RX z (rX l_ z_5 z z (L.g<|(h.ag B).e s1) z z ei) ?_;rintro _ ⟨_,_,_,rfl,hk⟩;obtain ⟨_,el,hmm⟩:=bdS hmj;refine E z (fN (α:=UInt8) a_C el z z hh a_X hk) ?_;rintro _ _ ⟨V,H,I,J,rfl,s9,hn,ho,ha⟩;refine R z (bP (parts:=[(1,.tmp 24)]) (cs:=[vI 0,sl H I J,sl none 0 0]) U_ z z)<|RM z z<|R z (add_ z z) ?_
 have hb:=mmr h2.lt;refine E0 (fs0 (cur':=[vI 0,sl H I J,sl none 0 0]) i_ z z ((h2.e s1).c s9<|djs hb) z z z z) ?_;rintro _ _ ⟨hp,sq⟩;have hc:=sq.one;refine Ra z<|Rw z ?_
 obtain rfl:=som hmm;have hd:=m1 h.s;exact Wr<|A_ hr (o_ z_ i_ z hp z) z z ⟨bM (bM (bup h s1) s9 hd) hc<|f_ lr,H,I,J,V,none,0,0,[],z,ii z,hn.c hc (or1 ha hb (a_x (f_ h2.lt) s1.s):∀k∈V,k∉[w0.z]),onL,iA _ _,ii z,na_ ho a_f<|nmN _,aa_ (a_Q ha hd<|lt_ h.s s1.s) an_⟩
def Q10 (w0:World)(B:Zone)(r:(List UInt8)×Int×Bool)(v:Value)(w':World):Prop:=Bw w0 w'/\un3 (fun I h J=>∃a1 G H S1,v = .tuple #[sl a1 G H,vI h,vB J]/\b_ w' S1 (sl a1 G H) I/\inI h/\S1.Nodup/\(∀k∈S1,w0.z<=k)) r
theorem W_w28 {x1:List UInt8}{x2:Int}{x3:UInt8}{res:(List UInt8)×Int×Bool}(hm:f_C n x1 x2 x3=some res)(V:B<=w0.z)(L:repS w0 B (sl A0 N0 C0) x1)(O:inI x2):j_ prog 77 [sl A0 N0 C0,vI x2,vU<|byteI x3] w0 (Q10 w0 B res):=by
 unfold f_C at hm
 refine goG func77 z z z fun fn hr=>Ws<|RA z z<|Rw z<|Ws<|E z (f0 (α:=UInt8) a_C) ?_
 rintro _ h ⟨ak,al,am,rfl,s9,an⟩;refine Rw z<|Wq<|Wm z<|Rw z ?_
 obtain ⟨_,a6,hmr⟩:=bdS hm;refine c_F (σ:=(List UInt8)×Int) (ρ:=(List UInt8)×Int×Bool) (fun s a w=>un2 (fun xb x5=>∃a2 H I G,Sat 54 [(0,sl A0 N0 C0),(1,vI x2),(2,vU<|byteI x3),(9,sl a2 H I),(10,vI x5)] a/\Chg (· ∈ [w0.z]) h w/\b_ w G (sl a2 H I) xb/\G.Nodup/\(∀k∈G,k∈[w0.z]∨h.z<=k)/\inI x5) s) (fun s a w=>un2 (fun xb x5=>∃a2 H I G,Sat 54 [(1,vI x2)] a/\Chg (· ∈ [w0.z]) h w/\b_ w G (sl a2 H I) xb/\G.Nodup/\(∀k∈G,k∈[w0.z]∨h.z<=k)/\inI x5) s) (rQ prog fn<|Q10 w0 B) a6 ?_ ?_ ?_ ?_
 ·exact fun _ q=>⟨ak,al,am,[w0.z],q.k<|s5 z z z z z,cr [w0.z] h,an,a_X,io sr,O⟩
 ·rintro ⟨xb,x5⟩ _ wc _ ⟨a2,H,I,G,a7,s8,hd,he,hf,hi⟩ a8;refine Wu ?_ a7;refine Wq<|Wq ?_
  obtain ⟨ao,a9,hms⟩:=bdS<|a_H a8;refine Wt (fun a w=>∃(xj:Bool),xj=ao/\Sat 54 [(0,sl A0 N0 C0),(1,vI x2),(2,vU<|byteI x3),(9,sl a2 H I),(10,vI x5),(22,vB xj)] a/\Below wc.z wc w) ?_ ?_
  ·refine Wg<|RM z z ?_
   have hu:=(s9.ag B).c s8<|c_ (or0 (f_ lr) (m_ V):∀k∈[w0.z],¬B k)
   have hv:=L.g hu;refine R z (lnR l_ z hv) ?_;obtain ⟨ap,aq,hmw⟩:=bdS a9;refine E z (fc call59 z<|b_n aq (zt' V<|lt_ s9.s s8.s) O (ii z)<|b_B<|repS.len hv) ?_;rintro _ _ ⟨sk,rfl⟩;refine Rm z ?_
   rcases bs ap with J | J
   ·exact Rh z J (mv z)<|Rh z J (mv z)<|Rh z J (lnR l_ z<|L.g<|hu.e sk)<|Rh z J (lss z z)<|R z (pT z J z)<|Wl (fun _ q=>⟨decide<|x5<(x1.length:Int),som<|ifT hmw J,q.k<|s6 z z z z z z,sk⟩)
   iterate 4 refine Nh z J ?_
   exact R z (pF z J z)<|Wl (fun _ q=>⟨false,som<|ifF hmw J,q.k<|s6 z z z z z z,sk⟩)
  rintro ar wa ⟨xj,rfl,_,s7⟩;revert ar;refine Wo<|Wc z (fun hcl=>?_) (fun hcl=>?_)
  ·refine Wk<|Wq<|Wb<|Wq<|Wm z<|Rm z ?_
   obtain ⟨_,au,hmx⟩:=bdS<|ifT hms hcl;have hy:=((s9.ag B).c s8<|c_ (or0 (f_ lr) (m_ V):∀k∈[w0.z],¬B k)).e s7;have hn:=L.g hy;refine RX z (at_ (α:=UInt8) l_ z_5 z z z hn au) ?_;rintro _ ⟨_,_,_,rfl,av,aw,_⟩;obtain rfl:=u8 aw;refine R z (l0 g_5 z<|av.at0 z)<|Rm z<|Rq z z z<|Wx z (fun hcm=>?_) (fun hcm=>?_)
   ·refine Wm z<|Rm z<|R z (add_ z z)<|RA z z<|Rw z ?_
    exact Wr<|rtO<|qL (som<|ifT hmx hcm).symm<|A_ hr z z z ⟨bup (bM s9 s8<|f_ lr) s7,a2,H,I,G,z,hd.e s7,iA _ _,he,(or1 hf (f_ lr) (b_O s9.s):∀k∈G,w0.z<=k)⟩
   refine Wk<|Wq<|Wm z<|Rm z ?_
   obtain ⟨_,ax,aa⟩:=bdS<|ifF hmx hcm;refine RX z (at_ (α:=UInt8) l_ z_5 z z z hn ax) ?_;rintro _ ⟨_,_,_,rfl,ay,az,_⟩;obtain rfl:=u8 az;refine R z (l0 g_5 z<|ay.at0 z)<|Rq z z z<|Wn ?_
   obtain ⟨aA,huz,W⟩:=bdS aa;refine Wt (fun a w=>∃(xg:Int),Sum.inl xg=aA/\Sat 54 [(0,sl A0 N0 C0),(1,vI x2),(2,vU<|byteI x3),(9,sl a2 H I),(10,vI xg)] a/\Below wa.z wa w/\inI xg) ?_ ?_
   ·refine Wc z (fun hco=>?_)<|fun hco=>?_
    ·have Y:=ifT huz hco;refine Wm z<|R z (add_ z z)<|Rw z<|Wm z<|Rm z<|R z (lnR l_ z hn)<|Rq z z z<|Wx z (fun hcp=>?_) (fun hcp=>?_)
     ·obtain rfl:=som<|ifT Y hcp;have ab:=elR W;exact We<|exO z (fun _ q=>b_u (som ab).symm ⟨a2,H,I,G,q.k<|s1 z,(d_ (cM (cr [w0.z] h) s8 (io sr):Chg (· ∈ [w0.z]) h wc) s7:Chg (· ∈ [w0.z]) h wa),hd.e s7,he,(or1 hf (io sr) (x_ lr):∀k∈G,k∈[w0.z]∨h.z<=k),iA _ _⟩)
     exact a_q<|fun _ q=>⟨h_ x5 1,som<|ifF Y hcp,q.k<|s5 z z z z z,br wa,iA _ _⟩
    exact a_q<|fun _ q=>⟨x5,som<|ifF huz hco,q.k<|s5 z z z z z,br wa,hi⟩
   rintro aB a0 ⟨xg,rfl,_,sh,_⟩;have ad:=elL W;revert aB;refine Wo<|Wg<|RM z z<|Rm z ?_
   obtain ⟨aC,aD,ae⟩:=bdS ad;refine RX z (at_ (α:=UInt8) l_ z_5 z z z (L.g<|hy.e sh) aD) ?_;rintro _ ⟨_,_,_,rfl,aE,aF,_⟩;obtain rfl:=u8 aF;refine R z (l0 g_5 z<|aE.at0 z)<|E z (fS [(.tmp 49)] a_C z z z (c_Z z) (lb z)<|lb z) ?_
   rintro _ a1 ⟨rfl,hq⟩;have ht:=hq.below;have aX:=e_T hq c_d;obtain ⟨aG,aH,af⟩:=bdS ae;refine E z (d_D (α:=UInt8) a_C aH z z (((hd.e s7).e sh).e ht) he (hq.blk:Blk a1 a0.z [vU (byteI aC)]) c_d an_ a_f) ?_;rintro _ aI ⟨a3,aJ,aK,aL,rfl,aM,aN,aO,aP⟩;refine Rw z<|Wg<|Rm z<|R z (add_ z z)<|Ra z<|Wl ?_
   have a4:∀k∈G,k∈[w0.z]∨h.z<=k:=or1 hf (io sr)<|x_ lr;exact fun _ q=>⟨(aG,h_ xg 1),(som af).symm,⟨aJ,aK,aL,a3,q.k<|s5 z z z z z,(cM (d_ (d_ (d_ (cM (cr [w0.z] h) s8 (io sr):Chg (· ∈ [w0.z]) h wc) s7:Chg (· ∈ [w0.z]) h wa) sh:Chg (· ∈ [w0.z]) h a0) ht:Chg (· ∈ [w0.z]) h a1) aM a4:Chg (· ∈ [w0.z]) h aI),aN,aO,(or2 aP a4 an_ (x_<|lt_ (lt_ (lt_ s8.s s7.s) sh.s) ht.s):∀k∈a3,k∈[w0.z]∨h.z<=k),iA _ _⟩⟩
  exact We<|fun _ q=>b_u (som<|ifF hms hcl).symm ⟨a2,H,I,G,q.k<|s1 z,(d_ (cM (cr [w0.z] h) s8 (io sr):Chg (· ∈ [w0.z]) h wc) s7:Chg (· ∈ [w0.z]) h wa),hd.e s7,he,(or1 hf (io sr) (x_ lr):∀k∈G,k∈[w0.z]∨h.z<=k),hi⟩
 ·rintro ⟨xb,x5⟩ aQ aR rfl ⟨a2,H,I,G,_,a5,hd,he,hf,hi⟩;have ah:=elL hmr;revert aQ;refine Wo<|Ws<|E z (f0 (α:=UInt8) a_C) ?_
  rintro _ _ ⟨aS,aT,aU,rfl,aV,aW⟩;refine Rm z<|RA z z<|Rw z ?_
  obtain rfl:=som<|a_H ah;exact Wr<|A_ hr z z z ⟨bup (bM s9 a5<|f_ lr) aV,aS,aT,aU,[aR.z],z,aW,O,a_X,m1<|lt_ s9.s a5.s⟩
 rintro _ _ _ _ rfl ⟨rfl,ai⟩;have aj:=elR hmr;obtain rfl:=som aj;exact ⟨ai,z⟩
theorem i_k {x1:a_}{x2:Int}{x3:Int}{res:Int}(hm:d_p x1 x2 x3=some res)(aP:B<=w0.z)(aI:x1.name.b.length<=LEN)(aJ:inI x1.kind)(aK:inI x1.size)(aL:repS w0 B (sl A9 N9 C9) x1.bytes)(aM:repS w0 B (sl A8 N8 C8) x1.names)(H:repS w0 B (sl AA NA CA) x1.tags)(I:repS w0 B (sl AB NB CB) x1.kids)(aN:inI x2)(aO:inI x3):j_ prog 110 [(.agg #[Str.v x1.name,vI x1.kind,vI x1.size,vB x1.little,sl A9 N9 C9,sl A8 N8 C8,sl AA NA CA,sl AB NB CB]),vI x2,vI x3] w0 (Q0 w0 B res):=by
 unfold d_p at hm
 refine goG func110 z z z fun fn hr=>Ws<|E z (fb z) ?_
 rintro _ h ⟨rfl,hi⟩;have G:=hi.below;have h2:Blk h w0.z (vR x1 A9 N9 C9 A8 N8 C8 AA NA CA AB NB CB):=hi.blk;refine Rw z<|Wq<|Ws<|Rf z a_s z<|R z (l0 g_3 z<|h2.at z)<|Wn<|Wb<|Ws<|Rq z z z<|Rw z<|Wc z (fun L=>?_) (fun L=>?_)
 ·refine Ws<|Rf z M_ z<|R z (l0 w_ z<|h2.at z) ?_
  obtain ⟨_,eu,hmv⟩:=bdS<|ifT hm L;refine RX z (at_ (α:=Int) r_ z_3 z z z (I.e G) eu) ?_;rintro _ ⟨_,_,_,rfl,hw,hx,_⟩;obtain ⟨rfl,hy⟩:=O_ hx;refine R z (l0 g_3 z<|hw.at0 z)<|Rw z ?_
  obtain rfl:=som hmv;exact Wr<|rtO<|e_ hr z ⟨G,z,hy⟩
 refine Ws<|Rq z z z<|Rw z ?_
 obtain ⟨uz,huj,J⟩:=bdS<|ifF hm L;refine Wt (fun a w=>Sum.inl ()=uz/\Sat 57 [] a/\Below h.z h w) ?_ ?_
 ·refine Wc z (fun O=>?_)<|fun O=>?_
  ·have hmk:=ifT huj O;refine Wm z<|Rf z M_ z<|R z (l0 w_ z<|h2.at z) ?_
   have hl:=I.e G;refine R z (lnR r_ z hl)<|Rl z z z<|Wx z (fun V=>?_) (fun V=>?_)
   ·refine Ws<|Rf z M_ z<|R z (l0 w_ z<|h2.at z)<|Rm z ?_
    obtain ⟨_,ai,Y⟩:=bdS<|ifT hmk V;refine RX z (at_ (α:=Int) r_ z_3 z z z hl ai) ?_;rintro _ ⟨_,_,_,rfl,aj,ak,_⟩;obtain ⟨rfl,al⟩:=O_ ak;refine R z (l0 g_3 z<|aj.at0 z)<|Rw z ?_
    obtain rfl:=som Y;have a0:=elR J;obtain rfl:=som a0;exact Wr<|rtO<|e_ hr z ⟨G,z,al⟩
   exact a_q<|fun _ q=>⟨som<|ifF hmk V,q.k sn,br h⟩
  refine Ws<|Rq z z z<|Rw z ?_
  obtain ⟨am,hum,W⟩:=bdS<|ifF huj O;refine Wt (fun a w=>Sum.inl ()=am/\Sat 57 [] a/\Below h.z h w) ?_ ?_
  ·refine Wc z (fun hca=>?_)<|fun hca=>?_
   ·refine Ws<|Rw z ?_
    obtain ⟨_,a1,hmn⟩:=bdS<|ifT hum hca;refine Wf (σ:=Unit) (ρ:=Int) (fun (ko:Nat)(_:Unit) a w=>Sat 57 [(1,vI x2),(3,pt w0.z),(7,vI ((ko:Nat):Int))] a/\Below h.z h w) (fun (_:Unit) a w=>Sat 57 [] a/\Below h.z h w) (rQ prog fn<|Q0 w0 B) a1 ?_ ?_ ?_ ?_ ?_
    ·exact fun _ q=>⟨q.k<|s3 z z z,br h⟩
    ·rintro ko _ _ _ _ hkb ⟨a2,s4⟩ a3;refine Wu ?_ a2;refine Wq<|Wm z<|Rf z a_D z ?_
     have hd:=h2.e s4;refine R z (l0 w_ z<|hd.at z) ?_;have hp:=(G.ag B).e s4;have hq:=H.g hp;refine R z (lnR r_ z hq)<|Rl z z z<|Wx z (fun _=>?_) (fun hc=>(X_ hkb hc).elim)
     refine Wk<|Wq<|Wb<|Ws<|Rf z a_D z<|R z (l0 w_ z<|hd.at z)<|Rm z ?_
     obtain ⟨_,an,hmr⟩:=bdS a3;refine RX z (at_ (α:=Int) r_ z_3 z z z hq an) ?_;rintro _ ⟨_,_,_,rfl,ao,ap,_⟩;obtain ⟨rfl,_⟩:=O_ ap;refine R z (l0 g_3 z<|ao.at0 z)<|Rm z<|Rq z z z<|Wx z (fun hcc=>?_) (fun hcc=>?_)
     ·refine Ws<|Rf z M_ z<|R z (l0 w_ z<|hd.at z)<|Rm z<|R z (inc_ hkb (lt_ (repS.len H) H_) z z) ?_
      obtain ⟨_,aq,a4⟩:=bdS<|ifT hmr hcc;refine RX z (at_ (α:=Int) r_ z_3 z z z (I.g hp) aq) ?_;rintro _ ⟨_,_,_,rfl,ar,au,_⟩;obtain ⟨rfl,av⟩:=O_ au;exact R z (l0 g_3 z<|ar.at0 z)<|Rw z<|Wr<|rtO<|qL (som a4).symm<|e_ hr z ⟨bup G s4,z,av⟩
     exact Wk<|Wg<|Rm z<|R z (inc_ hkb (lt_ (repS.len H) H_) z z)<|Ra z<|Wl (fun _ q=>⟨(),(som<|ifF hmr hcc).symm,⟨q.k<|s3 z z z,s4⟩⟩)
    ·rintro _ _ _ ⟨a5,se⟩;refine Wu ?_ a5;refine Wq<|Wm z<|Rf z a_D z<|R z (l0 w_ z<|(h2.e se).at z)<|R z (lnR r_ z<|H.g<|(G.ag B).e se)<|Rl z z z<|Wx z (fun hc=>(Y_ hc).elim) (fun _=>?_)
     exact We<|fun _ q=>⟨rfl,⟨q.k sn,se⟩⟩
    ·rintro _ aw _ rfl ⟨_,ax⟩;have a6:=elL hmn;revert aw;exact fun _ q=>⟨som a6,q.k sn,ax⟩
    rintro _ _ _ _ rfl ⟨rfl,a7⟩;have a8:=elR hmn;obtain rfl:=som a8;have a9:=elR W;obtain rfl:=som a9;have aa:=elR J;obtain rfl:=som aa;exact ⟨a7,z⟩
   refine Wq<|Ws<|Rq z z z<|Rw z ?_
   obtain ⟨ay,hus,hmt⟩:=bdS<|ifF hum hca;refine Wt (fun a w=>∃(xf:Bool),xf=ay/\Sat 57 [(3,pt w0.z),(50,vB xf)] a/\Below h.z h w) ?_ ?_
   ·refine Wc z (fun hcg=>?_)<|fun hcg=>?_
    ·exact a_q<|fun _ q=>⟨x1.kind==8,som<|ifT hus hcg,q.k<|s2 z z,br h⟩
    exact Wg<|Rq z z z<|Ra z<|Wl (fun _ q=>⟨x1.kind==9,som<|ifF hus hcg,q.k<|s2 z z,br h⟩)
   rintro az _ ⟨xf,rfl,_,s5⟩;revert az;refine Wo<|Wc z (fun hch=>?_) (fun hch=>?_)
   ·refine Ws<|Rf z M_ z<|R z (l0 w_ z<|(h2.e s5).at z) ?_
    obtain ⟨_,aA,ab⟩:=bdS<|ifT hmt hch;refine RX z (at_ (α:=Int) r_ z_3 z z z (I.g<|(G.ag B).e s5) aA) ?_;rintro _ ⟨_,_,_,rfl,aB,aC,_⟩;obtain ⟨rfl,aD⟩:=O_ aC;refine R z (l0 g_3 z<|aB.at0 z)<|Rw z ?_
    obtain rfl:=som ab;have ad:=elR W;obtain rfl:=som ad;have ae:=elR J;obtain rfl:=som ae;exact Wr<|rtO<|e_ hr z ⟨bup G s5,z,aD⟩
   exact a_q<|fun _ q=>⟨som<|ifF hmt hch,q.k sn,s5⟩
  rintro aE _ ⟨rfl,_,aF⟩;have af:=elL W;revert aE;exact fun _ q=>⟨som af,q.k sn,aF⟩
 rintro aG _ ⟨rfl,_,aH⟩;have ah:=elL J;revert aG;refine Wo<|Ws<|Rw z ?_
 obtain rfl:=som ah;exact Wr<|e_ hr z ⟨bup G aH,z,ii z⟩
theorem W_w29 {x1:List UInt8}{res:Int}(hm:f_D x1=some res)(L:B<=w0.z)(h:repS w0 B (sl A0 N0 C0) x1):j_ prog 111 [sl A0 N0 C0] w0 (Q0 w0 B res):=by
 unfold f_D at hm
 refine goG func111 z z z fun fn hr=>Ws<|Rw z<|Ws<|Rw z<|Wq<|Ws<|Rw z ?_
 obtain ⟨_,I,G⟩:=bdS hm;refine Wf (σ:=Int) (ρ:=Int) (fun (k3:Nat)(x0:Int) a w=>Sat 20 [(0,sl A0 N0 C0),(3,vI x0),(4,vI ((k3:Nat):Int))] a/\Below w0.z w0 w/\inI x0) (fun (x0:Int) a w=>Sat 20 [(3,vI x0)] a/\Below w0.z w0 w/\inI x0) (rQ prog fn<|Q0 w0 B) I ?_ ?_ ?_ ?_ ?_
 ·exact fun _ q=>⟨q.k<|s3 z z z,br w0,ii z⟩
 ·rintro k3 x0 _ _ _ H ⟨J,s5,h1⟩ hma;refine Wu ?_ J;refine Wq<|Wm z<|Rm z ?_
  have h6:=h.e s5;refine R z (lnR l_ z h6)<|Rl z z z<|Wx z (fun _=>?_) (fun hc=>(X_ H hc).elim)
  refine Wk<|Wq<|Wb<|Wg<|RM z z<|Rm z ?_
  obtain ⟨xb,ec,hmd⟩:=bdS hma;refine RX z (at_ (α:=UInt8) l_ z_5 z z z h6 ec) ?_;rintro _ ⟨_,_,_,rfl,he,hf,_⟩;obtain rfl:=u8 hf;exact R z (l0 g_5 z<|he.at0 z)<|R z (c_c d_5 d_3 z)<|R z (add_ z z)<|R z (g_W z z (by decide))<|Rw z<|Wg<|Rm z<|R z (inc_ H (lt_ (repS.len h) H_) z z)<|Ra z<|Wl (fun _ q=>⟨b_8 (h_ x0<|byteI xb) 256,(som hmd).symm,⟨q.k<|s3 z z z,s5,j_K<|iA _ _⟩⟩)
 ·rintro x0 _ _ ⟨hSg,s7,h1⟩;refine Wu ?_ hSg;refine Wq<|Wm z<|Rm z<|R z (lnR l_ z<|h.e s7)<|Rl z z z<|Wx z (fun hc=>(Y_ hc).elim) (fun _=>?_)
  exact We<|fun _ q=>⟨rfl,⟨q.k<|s1 z,s7,h1⟩⟩
 ·rintro x0 ah _ rfl ⟨_,si,h1⟩;have hmj:=elL G;revert ah;refine Wo<|Wm z<|Rw z ?_
  obtain rfl:=som hmj;exact Wr<|e_ hr z ⟨si,z,h1⟩
 rintro _ _ _ _ rfl ⟨rfl,hqk⟩;have hml:=elR G;obtain rfl:=som hml;exact ⟨hqk,z⟩
structure i_l (f:g_->Int->(List UInt8)->Int->Option (Val×Int×Int)):Prop where
  run:∀{A0 A7:Option Addr}{N0 C0 N7 C7:Nat}{B:Zone}{x1:g_}{x2:Int}{x3:List UInt8}{x4:Int}{res:Val×Int×Int}{w0:World}(hm:f x1 x2 x3 x4=some res)(hBw:B<=w0.z)(p1_0:repS w0 B (sl A0 N0 C0) x1.rules)(p2_0:inI x2)(p3_0:repS w0 B (sl A7 N7 C7) x3)(p4_0:inI x4),j_ prog 60 [(.agg #[sl A0 N0 C0]),vI x2,sl A7 N7 C7,vI x4] w0<|Q9 w0 B res
structure i_m (f:g_->a_->Int->Int->(List UInt8)->Int->Option (Val×Int×Int)):Prop where
  run:∀{A0 A3 A4 A2 A5 AD:Option Addr}{N0 C0 N3 C3 N4 C4 N2 C2 N5 C5 ND CD:Nat}{B:Zone}{x1:g_}{x2:a_}{x3:Int}{x4:Int}{x5:List UInt8}{x6:Int}{res:Val×Int×Int}{w0:World}(hm:f x1 x2 x3 x4 x5 x6=some res)(hBw:B<=w0.z)(p1_0:repS w0 B (sl A0 N0 C0) x1.rules)(p2_0:x2.name.b.length<=LEN)(p2_1:inI x2.kind)(p2_2:inI x2.size)(p2_4:repS w0 B (sl A3 N3 C3) x2.bytes)(p2_5:repS w0 B (sl A4 N4 C4) x2.names)(p2_6:repS w0 B (sl A2 N2 C2) x2.tags)(p2_7:repS w0 B (sl A5 N5 C5) x2.kids)(p3_0:inI x3)(p4_0:inI x4)(p5_0:repS w0 B (sl AD ND CD) x5)(p6_0:inI x6),j_ prog 78 [(.agg #[sl A0 N0 C0]),.agg #[Str.v x2.name,vI x2.kind,vI x2.size,vB x2.little,sl A3 N3 C3,sl A4 N4 C4,sl A2 N2 C2,sl A5 N5 C5],vI x3,vI x4,sl AD ND CD,vI x6] w0<|Q9 w0 B res
structure i_n (f:g_->a_->(List UInt8)->Int->Option (Val×Int×Int)):Prop where
  run:∀{A0 A3 A4 A2 A5 A7:Option Addr}{N0 C0 N3 C3 N4 C4 N2 C2 N5 C5 N7 C7:Nat}{B:Zone}{x1:g_}{x2:a_}{x3:List UInt8}{x4:Int}{res:Val×Int×Int}{w0:World}(hm:f x1 x2 x3 x4=some res)(hBw:B<=w0.z)(p1_0:repS w0 B (sl A0 N0 C0) x1.rules)(p2_0:x2.name.b.length<=LEN)(p2_1:inI x2.kind)(p2_2:inI x2.size)(p2_4:repS w0 B (sl A3 N3 C3) x2.bytes)(p2_5:repS w0 B (sl A4 N4 C4) x2.names)(p2_6:repS w0 B (sl A2 N2 C2) x2.tags)(p2_7:repS w0 B (sl A5 N5 C5) x2.kids)(p3_0:repS w0 B (sl A7 N7 C7) x3)(p4_0:inI x4),j_ prog 79 [(.agg #[sl A0 N0 C0]),.agg #[Str.v x2.name,vI x2.kind,vI x2.size,vB x2.little,sl A3 N3 C3,sl A4 N4 C4,sl A2 N2 C2,sl A5 N5 C5],sl A7 N7 C7,vI x4] w0<|Q9 w0 B res
structure i_o (f:g_->a_->(List UInt8)->Int->Option (Val×Int×Int)):Prop where
  run:∀{A0 A3 A4 A2 A5 A7:Option Addr}{N0 C0 N3 C3 N4 C4 N2 C2 N5 C5 N7 C7:Nat}{B:Zone}{x1:g_}{x2:a_}{x3:List UInt8}{x4:Int}{res:Val×Int×Int}{w0:World}(hm:f x1 x2 x3 x4=some res)(hBw:B<=w0.z)(p1_0:repS w0 B (sl A0 N0 C0) x1.rules)(p2_0:x2.name.b.length<=LEN)(p2_1:inI x2.kind)(p2_2:inI x2.size)(p2_4:repS w0 B (sl A3 N3 C3) x2.bytes)(p2_5:repS w0 B (sl A4 N4 C4) x2.names)(p2_6:repS w0 B (sl A2 N2 C2) x2.tags)(p2_7:repS w0 B (sl A5 N5 C5) x2.kids)(p3_0:repS w0 B (sl A7 N7 C7) x3)(p4_0:inI x4),j_ prog 80 [(.agg #[sl A0 N0 C0]),.agg #[Str.v x2.name,vI x2.kind,vI x2.size,vB x2.little,sl A3 N3 C3,sl A4 N4 C4,sl A2 N2 C2,sl A5 N5 C5],sl A7 N7 C7,vI x4] w0<|Q9 w0 B res
structure i_p (f:g_->a_->(List UInt8)->Int->Option (Val×Int×Int)):Prop where
  run:∀{A0 A3 A4 A2 A5 A7:Option Addr}{N0 C0 N3 C3 N4 C4 N2 C2 N5 C5 N7 C7:Nat}{B:Zone}{x1:g_}{x2:a_}{x3:List UInt8}{x4:Int}{res:Val×Int×Int}{w0:World}(hm:f x1 x2 x3 x4=some res)(hBw:B<=w0.z)(p1_0:repS w0 B (sl A0 N0 C0) x1.rules)(p2_0:x2.name.b.length<=LEN)(p2_1:inI x2.kind)(p2_2:inI x2.size)(p2_4:repS w0 B (sl A3 N3 C3) x2.bytes)(p2_5:repS w0 B (sl A4 N4 C4) x2.names)(p2_6:repS w0 B (sl A2 N2 C2) x2.tags)(p2_7:repS w0 B (sl A5 N5 C5) x2.kids)(p3_0:repS w0 B (sl A7 N7 C7) x3)(p4_0:inI x4),j_ prog 81 [(.agg #[sl A0 N0 C0]),.agg #[Str.v x2.name,vI x2.kind,vI x2.size,vB x2.little,sl A3 N3 C3,sl A4 N4 C4,sl A2 N2 C2,sl A5 N5 C5],sl A7 N7 C7,vI x4] w0<|Q9 w0 B res
abbrev e_b (n:Nat):Prop:=i_l (a_8 n).spec_l11Read/\i_m (a_8 n).spec_l11Items/\i_n (a_8 n).spec_l11Choice/\i_o (a_8 n).spec_l11Option/\i_p (a_8 n).spec_l11Checked
theorem T_w02 (ih:e_b n):i_l (f_E n<|a_8 n):=by
 obtain ⟨_,bo,db,dc,dd⟩:=ih
 constructor
 intro A0 A7 N0 C0 N7 C7 B x1 x2 x3 x4 res w0 hm H W d0 J I;unfold f_E at hm
 refine goG func60 z z z fun fn hr=>Ws<|E z (fb z) ?_
 rintro _ bp ⟨rfl,bq⟩;have h3:=bq.below;have hn:Blk bp w0.z [sl A0 N0 C0]:=bq.blk;refine E z (fa a_a) ?_;rintro _ L ⟨rfl,br⟩;have h4:=br.below;have h2:Blk L bp.z [vI 0,sl none 0 0,sl none 0 0]:=br.blk;refine Ra z<|Rw z<|Ws<|Rf z a_9 z ?_
 have ho:=hn.e h4;refine R z (l0 a_c z<|ho.at z)<|Rm z ?_
 obtain ⟨xa,de,b9⟩:=bdS hm;have O:=(h3.ag B).e h4;refine RX z (at_ (α:=a_) Q_ n_ z z z (W.g O) de) ?_;rintro _ ⟨_,_,_,rfl,df,dg,_⟩;obtain ⟨ab,nc,cd,ae,nf,cg,ah,ni,cj,ak,nl,cm,rfl,hu,hv,hp,hq,hw,hx,ht⟩:=a_y dg;refine R z (lN (vs:=vR xa ab nc cd ae nf cg ah ni cj ak nl cm) G_ n_ z z fid df)<|E z (fa b_w) ?_
 rintro _ dh ⟨rfl,bs⟩;have G:=bs.below;refine E0 (fs0 (cur':=vR xa ab nc cd ae nf cg ah ni cj ak nl cm) n_ z z (bs.blk:Blk dh L.z [(Str.v (⟨[]⟩:Str)),vI 0,vI 0,vB false,sl none 0 0,sl none 0 0,sl none 0 0,sl none 0 0]) z z z z) ?_;rintro _ _ ⟨V,di⟩;have h1:=di.one;refine Wn<|Wq<|Ws<|Rf z a_s z<|R z (l0 g_3 z<|V.at z)<|Wn<|Wb<|Ws<|Rq z z z<|Rw z<|Wc z (fun al=>?_) (fun al=>?_)
 ·refine Ws<|R z (lN (vs:=[sl A0 N0 C0]) D_ C_ z z fid<|((ho.e G).c h1<|djs<|mm1 hn.lt h4.s).row 0 1 z)<|RM z z<|Rm z ?_
  have hz:=lt_ h3.s h4.s;have bt:=(O.e G).c h1<|c_ (or0 (f_ lr) (m_<|zt' H hz):∀k∈[L.z],¬B k)
  obtain ⟨bu,_,_,dj,ba⟩:=L_<|ifT b9 al;refine E z (fc call74 z<|i_j dj (zt' H<|lt_ (lt_ hz G.s) h1.s) (W.g bt) d0 (J.g bt) I) ?_;rintro _ _ ⟨sr,rfl,dk,dl⟩;refine Rm z ?_
  iterate 3 refine Re z z z ?_
  refine RA z z<|Rw z<|Wq<|Wm z<|R z (not_ z)<|Wx z (fun am=>?_) (fun am=>?_)
  ·refine Ws<|R z (bP (parts:=[]) (cs:=[vI 0,sl none 0 0,sl none 0 0]) U_ z z)<|Rm z<|E0 (fs0 (cur':=[vI 0,sl none 0 0,sl none 0 0]) i_ z z (((h2.e G).c h1<|djs<|mmr h2.lt).e sr) z z z z) ?_
   rintro _ _ ⟨dm,dn⟩;refine Ra z<|Rw z ?_
   obtain rfl:=som<|ifT ba am;exact Wr<|rtO<|A_ hr (o_ z_ i_ z dm z) z z ⟨bM (bup (bM (bup (bup h3 h4) G) h1<|m1 hz) sr) dn.one<|m1 h3.s,none,0,0,[],none,0,0,[],z,ii z,onL,onL,I,ii z,nd0,al0⟩
  refine Wk<|Wm z<|R z (bP (parts:=[(0,.tmp 43)]) (cs:=[vI bu,sl none 0 0,sl none 0 0]) U_ z z)<|Rm z<|E0 (fs0 (cur':=[vI bu,sl none 0 0,sl none 0 0]) i_ z z (((h2.e G).c h1<|djs<|mmr h2.lt).e sr) z z z z) ?_
  rintro _ _ ⟨dp,dq⟩;refine Ra z<|Rw z ?_
  obtain rfl:=som<|ifF ba am;exact Wr<|rtO<|A_ hr (o_ z_ i_ z dp z) z z ⟨bM (bup (bM (bup (bup h3 h4) G) h1<|m1 hz) sr) dq.one<|m1 h3.s,none,0,0,[],none,0,0,[],z,dk,onL,onL,dl,ii z,nd0,al0⟩
 have bb:=ifF b9 al;refine Ws<|Rq z z z<|Rw z<|Wc z (fun an=>?_) (fun an=>?_)
 ·refine Ws<|R z (lN (vs:=vR xa ab nc cd ae nf cg ah ni cj ak nl cm) G_ n_ z z fid<|V.row 0 8 z)<|RM z z ?_
  have aA:=lt_ h3.s h4.s;have bv:∀k∈[L.z],¬B k:=or0 (f_ lr)<|m_<|zt' H aA;have Y:=(G.ag B).c h1<|c_ bv
  have aB:=lt_ (lt_ aA G.s) h1.s;obtain ⟨dr,_,_,ds,d1⟩:=L_<|ifT bb an;refine E z (fc call75 z<|W_w27 ds (zt' H aB) hu hv hp (hq.g Y) (hw.g Y) (hx.g Y) (ht.g Y) (J.g<|(O.e G).c h1<|c_ bv) I) ?_;rintro _ _ ⟨bw,bx,bz,bA,dt,bB,bC,bD,du,rfl,dv,dw,dx,dy,dz,aC,a0⟩
  iterate 3 refine Re z z z ?_
  refine E0 (fs0 (cur':=[vI dr.number,sl bx bz bA,sl bB bC bD]) i_ z z (((h2.e G).c h1<|djs<|mmr h2.lt).e bw) z z z z) ?_;rintro _ _ ⟨dA,dB⟩;have aD:=dB.one;refine Ra z<|Rw z ?_
  obtain rfl:=som d1;have bE:=lt_ G.s h1.s;exact Wr<|rtO<|A_ hr (o_ z_ i_ z dA z) z z ⟨bM (bup (bM (bup (bup h3 h4) G) h1<|m1 aA) bw) aD<|m1 h3.s,bx,bz,bA,dt,bB,bC,bD,du,z,dv,dw.c aD<|p_ (al_ a0) h2.lt bE,dx.c aD<|p_ (ar_ a0) h2.lt bE,dy,dz,na_ (nl_ aC) (nr_ aC)<|nj aC,aa_ (k_ (al_ a0) aB)<|k_ (ar_ a0) aB⟩
 have bc:=ifF bb an;refine Ws<|Rq z z z<|Rw z<|Wc z (fun ao=>?_) (fun ao=>?_)
 ·refine Wm z<|Rm z<|Rf z a_z z<|R z (l0 g_3 z<|V.at z) ?_
  have aE:=lt_ h3.s h4.s;have aF:=lt_ (lt_ aE G.s) h1.s;obtain ⟨dC,_,_,dD,d2⟩:=L_<|ifT bc ao;refine E z (fc call76 z<|W_w0z dD (zt' H aF) (J.g<|(O.e G).c h1<|c_ (or0 (f_ lr) (m_<|zt' H aE):∀k∈[L.z],¬B k)) I hp) ?_;rintro _ _ ⟨bF,bG,bH,bI,dF,bJ,bK,bL,dG,rfl,dH,dI,dJ,dK,dL,aG,a1⟩
  iterate 3 refine Re z z z ?_
  refine E0 (fs0 (cur':=[vI dC.number,sl bG bH bI,sl bJ bK bL]) i_ z z (((h2.e G).c h1<|djs<|mmr h2.lt).e bF) z z z z) ?_;rintro _ _ ⟨dN,dO⟩;have aH:=dO.one;refine Ra z<|Rw z ?_
  obtain rfl:=som d2;have bN:=lt_ G.s h1.s;exact Wr<|rtO<|A_ hr (o_ z_ i_ z dN z) z z ⟨bM (bup (bM (bup (bup h3 h4) G) h1<|m1 aE) bF) aH<|m1 h3.s,bG,bH,bI,dF,bJ,bK,bL,dG,z,dH,dI.c aH<|p_ (al_ a1) h2.lt bN,dJ.c aH<|p_ (ar_ a1) h2.lt bN,dK,dL,na_ (nl_ aG) (nr_ aG)<|nj aG,aa_ (k_ (al_ a1) aF)<|k_ (ar_ a1) aF⟩
 have be:=ifF bc ao;refine Ws<|Rq z z z<|Rw z<|Wc z (fun ap=>?_) (fun ap=>?_)
 ·refine Wm z<|Rm z<|Rf z a_I z<|R z (l0 T_ z<|V.at z) ?_
  obtain ⟨_,dP,d3⟩:=bdS<|ifT be ap;have a2:=lt_ h3.s h4.s;have bO:∀k∈[L.z],¬B k:=or0 (f_ lr)<|m_<|zt' H a2;refine RX z (at_ (α:=UInt8) l_ z_5 z z z (hq.g<|(G.ag B).c h1<|c_ bO) dP) ?_;rintro _ ⟨_,_,_,rfl,dS,dT,_⟩;obtain rfl:=u8 dT;refine R z (l0 g_5 z<|dS.at0 z) ?_;have bQ:=lt_ (lt_ a2 G.s) h1.s;obtain ⟨_,_,_,dU,bf⟩:=L_ d3;refine E z (fc call77 z<|W_w28 dU (zt' H bQ) (J.g<|(O.e G).c h1<|c_ bO) I) ?_;rintro _ _ ⟨ss,aI,aJ,aK,dV,rfl,dW,dX,dY,bR⟩;refine Rm z ?_
  iterate 3 refine Re z z z ?_
  refine RA z z<|Rw z<|Wq<|Wm z<|R z (not_ z)<|Wx z (fun aq=>?_) (fun aq=>?_)
  ·refine Ws<|R z (bP (parts:=[]) (cs:=[vI 0,sl none 0 0,sl none 0 0]) U_ z z)<|Rm z<|E0 (fs0 (cur':=[vI 0,sl none 0 0,sl none 0 0]) i_ z z (((h2.e G).c h1<|djs<|mmr h2.lt).e ss) z z z z) ?_
   rintro _ _ ⟨dZ,e0⟩;refine Ra z<|Rw z ?_
   obtain rfl:=som<|ifT bf aq;exact Wr<|rtO<|A_ hr (o_ z_ i_ z dZ z) z z ⟨bM (bup (bM (bup (bup h3 h4) G) h1<|m1 a2) ss) e0.one<|m1 h3.s,none,0,0,[],none,0,0,[],z,ii z,onL,onL,I,ii z,nd0,al0⟩
  refine Wk<|Wm z<|R z (bP (parts:=[(1,.tmp 82)]) (cs:=[vI 0,sl aI aJ aK,sl none 0 0]) U_ z z)<|Rm z<|E0 (fs0 (cur':=[vI 0,sl aI aJ aK,sl none 0 0]) i_ z z (((h2.e G).c h1<|djs<|mmr h2.lt).e ss) z z z z) ?_
  rintro _ _ ⟨e1,e2⟩;have bS:=e2.one;refine Ra z<|Rw z ?_
  obtain rfl:=som<|ifF bf aq;exact Wr<|rtO<|A_ hr (o_ z_ i_ z e1 z) z z ⟨bM (bup (bM (bup (bup h3 h4) G) h1<|m1 a2) ss) bS<|m1 h3.s,aI,aJ,aK,dV,none,0,0,[],z,ii z,dW.c bS<|p_ bR h2.lt<|lt_ G.s h1.s,onL,dX,ii z,na_ dY a_f<|nmN _,aa_ (k_ bR bQ) an_⟩
 have bg:=ifF be ap;refine Ws<|Rq z z z<|Rw z<|Wc z (fun ar=>?_) (fun ar=>?_)
 ·refine Ws<|R z (lN (vs:=[sl A0 N0 C0]) D_ C_ z z fid<|((ho.e G).c h1<|djs<|mm1 hn.lt h4.s).row 0 1 z)<|R z (lN (vs:=vR xa ab nc cd ae nf cg ah ni cj ak nl cm) G_ n_ z z fid<|V.row 0 8 z)<|Rf z M_ z<|R z (l0 w_ z<|V.at z) ?_
  have aL:=lt_ h3.s h4.s;have bT:∀k∈[L.z],¬B k:=or0 (f_ lr)<|m_<|zt' H aL;have a3:=(G.ag B).c h1<|c_ bT
  have aM:=ht.g a3;refine R z (lnR r_ z aM)<|RM z z ?_
  have bU:=(O.e G).c h1<|c_ bT
  have aN:=lt_ (lt_ aL G.s) h1.s;obtain ⟨e3,_,_,e4,d4⟩:=L_<|ifT bg ar;refine E z (fc call78 z<|bo.run e4 (zt' H aN) (W.g bU) hu hv hp (hq.g a3) (hw.g a3) (hx.g a3) aM (ii z) (b_B<|repS.len aM) (J.g bU) I) ?_;rintro _ _ ⟨bV,bW,bX,bY,e5,bZ,c0,c1,e6,rfl,e7,e8,e9,ea,eb,aO,a4⟩
  iterate 3 refine Re z z z ?_
  refine E0 (fs0 (cur':=[vI e3.number,sl bW bX bY,sl bZ c0 c1]) i_ z z (((h2.e G).c h1<|djs<|mmr h2.lt).e bV) z z z z) ?_;rintro _ _ ⟨ec,ed⟩;have aP:=ed.one;refine Ra z<|Rw z ?_
  obtain rfl:=som d4;have c2:=lt_ G.s h1.s;exact Wr<|rtO<|A_ hr (o_ z_ i_ z ec z) z z ⟨bM (bup (bM (bup (bup h3 h4) G) h1<|m1 aL) bV) aP<|m1 h3.s,bW,bX,bY,e5,bZ,c0,c1,e6,z,e7,e8.c aP<|p_ (al_ a4) h2.lt c2,e9.c aP<|p_ (ar_ a4) h2.lt c2,ea,eb,na_ (nl_ aO) (nr_ aO)<|nj aO,aa_ (k_ (al_ a4) aN)<|k_ (ar_ a4) aN⟩
 have bh:=ifF bg ar;refine Ws<|Rq z z z<|Rw z<|Wc z (fun au=>?_) (fun au=>?_)
 ·refine Ws<|R z (lN (vs:=[sl A0 N0 C0]) D_ C_ z z fid<|((ho.e G).c h1<|djs<|mm1 hn.lt h4.s).row 0 1 z)<|R z (lN (vs:=vR xa ab nc cd ae nf cg ah ni cj ak nl cm) G_ n_ z z fid<|V.row 0 8 z)<|RM z z ?_
  have aQ:=lt_ h3.s h4.s;have c3:∀k∈[L.z],¬B k:=or0 (f_ lr)<|m_<|zt' H aQ;have c4:=(O.e G).c h1<|c_ c3
  have a5:=(G.ag B).c h1<|c_ c3
  have aR:=lt_ (lt_ aQ G.s) h1.s;obtain ⟨ee,_,_,ef,d5⟩:=L_<|ifT bh au;refine E z (fc call79 z<|db.run ef (zt' H aR) (W.g c4) hu hv hp (hq.g a5) (hw.g a5) (hx.g a5) (ht.g a5) (J.g c4) I) ?_;rintro _ _ ⟨c5,c6,c7,c8,eg,c9,ca,cb,eh,rfl,ei,ej,ek,em,en,aS,a6⟩
  iterate 3 refine Re z z z ?_
  refine E0 (fs0 (cur':=[vI ee.number,sl c6 c7 c8,sl c9 ca cb]) i_ z z (((h2.e G).c h1<|djs<|mmr h2.lt).e c5) z z z z) ?_;rintro _ _ ⟨eo,ep⟩;have aT:=ep.one;refine Ra z<|Rw z ?_
  obtain rfl:=som d5;have cc:=lt_ G.s h1.s;exact Wr<|rtO<|A_ hr (o_ z_ i_ z eo z) z z ⟨bM (bup (bM (bup (bup h3 h4) G) h1<|m1 aQ) c5) aT<|m1 h3.s,c6,c7,c8,eg,c9,ca,cb,eh,z,ei,ej.c aT<|p_ (al_ a6) h2.lt cc,ek.c aT<|p_ (ar_ a6) h2.lt cc,em,en,na_ (nl_ aS) (nr_ aS)<|nj aS,aa_ (k_ (al_ a6) aR)<|k_ (ar_ a6) aR⟩
 have bi:=ifF bh au;refine Ws<|Rq z z z<|Rw z<|Wc z (fun av=>?_) (fun av=>?_)
 ·refine Ws<|R z (lN (vs:=[sl A0 N0 C0]) D_ C_ z z fid<|((ho.e G).c h1<|djs<|mm1 hn.lt h4.s).row 0 1 z)<|R z (lN (vs:=vR xa ab nc cd ae nf cg ah ni cj ak nl cm) G_ n_ z z fid<|V.row 0 8 z)<|RM z z ?_
  have aU:=lt_ h3.s h4.s;have ce:∀k∈[L.z],¬B k:=or0 (f_ lr)<|m_<|zt' H aU;have cf:=(O.e G).c h1<|c_ ce
  have a7:=(G.ag B).c h1<|c_ ce
  have aV:=lt_ (lt_ aU G.s) h1.s;obtain ⟨er,_,_,es,d6⟩:=L_<|ifT bi av;refine E z (fc call80 z<|dc.run es (zt' H aV) (W.g cf) hu hv hp (hq.g a7) (hw.g a7) (hx.g a7) (ht.g a7) (J.g cf) I) ?_;rintro _ _ ⟨ch,ci,ck,cl,eu,cn,co,cp,ew,rfl,ex,ey,ez,eA,eB,aW,a8⟩
  iterate 3 refine Re z z z ?_
  refine E0 (fs0 (cur':=[vI er.number,sl ci ck cl,sl cn co cp]) i_ z z (((h2.e G).c h1<|djs<|mmr h2.lt).e ch) z z z z) ?_;rintro _ _ ⟨eC,eD⟩;have aX:=eD.one;refine Ra z<|Rw z ?_
  obtain rfl:=som d6;have cq:=lt_ G.s h1.s;exact Wr<|rtO<|A_ hr (o_ z_ i_ z eC z) z z ⟨bM (bup (bM (bup (bup h3 h4) G) h1<|m1 aU) ch) aX<|m1 h3.s,ci,ck,cl,eu,cn,co,cp,ew,z,ex,ey.c aX<|p_ (al_ a8) h2.lt cq,ez.c aX<|p_ (ar_ a8) h2.lt cq,eA,eB,na_ (nl_ aW) (nr_ aW)<|nj aW,aa_ (k_ (al_ a8) aV)<|k_ (ar_ a8) aV⟩
 have bj:=ifF bi av;refine Ws<|Rq z z z<|Rw z<|Wc z (fun aw=>?_) (fun aw=>?_)
 ·refine Ws<|R z (lN (vs:=[sl A0 N0 C0]) D_ C_ z z fid<|((ho.e G).c h1<|djs<|mm1 hn.lt h4.s).row 0 1 z)<|R z (lN (vs:=vR xa ab nc cd ae nf cg ah ni cj ak nl cm) G_ n_ z z fid<|V.row 0 8 z)<|RM z z ?_
  have aY:=lt_ h3.s h4.s;have cr:∀k∈[L.z],¬B k:=or0 (f_ lr)<|m_<|zt' H aY;have ct:=(O.e G).c h1<|c_ cr
  have a9:=(G.ag B).c h1<|c_ cr
  have aZ:=lt_ (lt_ aY G.s) h1.s;obtain ⟨eE,_,_,eF,d7⟩:=L_<|ifT bj aw;refine E z (fc call81 z<|dd.run eF (zt' H aZ) (W.g ct) hu hv hp (hq.g a9) (hw.g a9) (hx.g a9) (ht.g a9) (J.g ct) I) ?_;rintro _ _ ⟨cu,cv,cw,cx,eG,cy,cz,cA,eH,rfl,eI,eJ,eK,eL,eM,b0,aa⟩
  iterate 3 refine Re z z z ?_
  refine E0 (fs0 (cur':=[vI eE.number,sl cv cw cx,sl cy cz cA]) i_ z z (((h2.e G).c h1<|djs<|mmr h2.lt).e cu) z z z z) ?_;rintro _ _ ⟨eN,eO⟩;have b1:=eO.one;refine Ra z<|Rw z ?_
  obtain rfl:=som d7;have cB:=lt_ G.s h1.s;exact Wr<|rtO<|A_ hr (o_ z_ i_ z eN z) z z ⟨bM (bup (bM (bup (bup h3 h4) G) h1<|m1 aY) cu) b1<|m1 h3.s,cv,cw,cx,eG,cy,cz,cA,eH,z,eI,eJ.c b1<|p_ (al_ aa) h2.lt cB,eK.c b1<|p_ (ar_ aa) h2.lt cB,eL,eM,na_ (nl_ b0) (nr_ b0)<|nj b0,aa_ (k_ (al_ aa) aZ)<|k_ (ar_ aa) aZ⟩
 refine Wk<|Wq (Wd (X:=noX) 0 (pl_ 15 [7]) mo (by kernel_rfl) fun fp s6 _=>?_)
 have cC:=((ho.e G).c h1<|djs<|mm1 hn.lt h4.s).e s6;refine dR z z (lN (vs:=[sl A0 N0 C0]) D_ C_ z z fid<|cC.row 0 1 z)<|dR z z (fd M_ z) ?_
 have cD:=V.e s6;refine dR z z (l0 w_ z<|cD.at z) ?_;obtain ⟨_,eP,d8⟩:=bdS<|ifF bj aw;have hy:=lt_ h3.s h4.s;have cE:∀k∈[L.z],¬B k:=or0 (f_ lr)<|m_<|zt' H hy;have cF:=((G.ag B).c h1<|c_ cE).e s6;refine dRX z z (at_ (α:=Int) r_ z_3 z z z (ht.g cF) eP) ?_;rintro _ ⟨_,_,_,rfl,eQ,eR,_⟩;obtain ⟨rfl,eS⟩:=O_ eR;refine dR z z (l0 g_3 z<|eQ.at0 z)<|dM z z z<|dM z z z ?_
 have ad:=((O.e G).c h1<|c_ cE).e s6;have b2:=lt_ (lt_ (lt_ hy G.s) h1.s) s6.s;obtain ⟨_,_,_,eT,bk⟩:=L_ d8;refine dE z z (fc call74 z<|i_j eT (zt' H b2) (W.g ad) eS (J.g ad) I) (.inr fun _ _ h=>F_<|h.1) ?_;rintro _ _ ⟨s5,rfl,cG,cH⟩;refine dM z z z ?_
 iterate 3 refine dR z z (ext_ z z) ?_
 iterate 3 refine dQ z z z ?_
 refine pD<|Wo<|Wq<|Wb<|Wm z<|R z (not_ z)<|Rw z<|Wc z (fun ax=>?_) (fun ax=>?_)
 ·refine Ws<|R z (bP (parts:=[]) (cs:=[vI 0,sl none 0 0,sl none 0 0]) U_ z z)<|Rm z<|E0 (fs0 (cur':=[vI 0,sl none 0 0,sl none 0 0]) i_ z z ((((h2.e G).c h1<|djs<|mmr h2.lt).e s6).e s5) z z z z) ?_
  rintro _ _ ⟨eU,eV⟩;refine Ra z<|Rw z ?_
  obtain rfl:=som<|ifT bk ax;exact Wr<|rtO<|A_ hr (o_ z_ i_ z eU z) z z ⟨bM (bup (bup (bM (bup (bup h3 h4) G) h1<|m1 hy) s6) s5) eV.one<|m1 h3.s,none,0,0,[],none,0,0,[],z,ii z,onL,onL,I,ii z,nd0,al0⟩
 have bm:=ifF bk ax;refine Ws<|Rf z a_s z ?_
 have cI:=cD.e s5;refine R z (l0 g_3 z<|cI.at z)<|Rq z z z<|Rw z<|Wc z (fun ay=>?_) (fun ay=>?_)
 ·refine Wm z<|RM z z ?_
  have b3:=lt_ b2 s5.s;obtain ⟨eW,_,_,eX,d9⟩:=L_<|ifT bm ay;refine E z (fc call76 z<|W_w0z eX (zt' H b3) (J.g<|ad.e s5) cH cG) ?_;rintro _ _ ⟨cJ,cK,cL,cM,eY,cN,cO,cP,eZ,rfl,f0,f1,f2,f3,f4,b4,af⟩
  iterate 3 refine Re z z z ?_
  refine E0 (fs0 (cur':=[vI eW.number,sl cK cL cM,sl cN cO cP]) i_ z z (((((h2.e G).c h1<|djs<|mmr h2.lt).e s6).e s5).e cJ) z z z z) ?_;rintro _ _ ⟨f5,f6⟩;have b5:=f6.one;refine Ra z<|Rw z ?_
  obtain rfl:=som d9;have cQ:=lt_ (lt_ (lt_ G.s h1.s) s6.s) s5.s;exact Wr<|rtO<|A_ hr (o_ z_ i_ z f5 z) z z ⟨bM (bup (bup (bup (bM (bup (bup h3 h4) G) h1<|m1 hy) s6) s5) cJ) b5<|m1 h3.s,cK,cL,cM,eY,cN,cO,cP,eZ,z,f0,f1.c b5<|p_ (al_ af) h2.lt cQ,f2.c b5<|p_ (ar_ af) h2.lt cQ,f3,f4,na_ (nl_ b4) (nr_ b4)<|nj b4,aa_ (k_ (al_ af) b3)<|k_ (ar_ af) b3⟩
 have bn:=ifF bm ay;refine Wm z<|R z (a_b z z)<|Rw z<|Wc z (fun az=>?_) (fun az=>?_)
 ·refine Ws<|R z (bP (parts:=[]) (cs:=[vI 0,sl none 0 0,sl none 0 0]) U_ z z)<|Rm z<|E0 (fs0 (cur':=[vI 0,sl none 0 0,sl none 0 0]) i_ z z ((((h2.e G).c h1<|djs<|mmr h2.lt).e s6).e s5) z z z z) ?_
  rintro _ _ ⟨f7,f8⟩;refine Ra z<|Rw z ?_
  obtain rfl:=som<|ifT bn az;exact Wr<|rtO<|A_ hr (o_ z_ i_ z f7 z) z z ⟨bM (bup (bup (bM (bup (bup h3 h4) G) h1<|m1 hy) s6) s5) f8.one<|m1 h3.s,none,0,0,[],none,0,0,[],z,ii z,onL,onL,I,ii z,nd0,al0⟩
 refine Wk<|Ws<|R z (lN (vs:=[sl A0 N0 C0]) D_ C_ z z fid<|(cC.e s5).row 0 1 z)<|R z (lN (vs:=vR xa ab nc cd ae nf cg ah ni cj ak nl cm) G_ n_ z z fid<|cI.row 0 8 z)<|RM z z<|Rm z ?_
 have cR:=ad.e s5;have ai:=cF.e s5;have b6:=lt_ b2 s5.s;obtain ⟨f9,_,_,fe,da⟩:=L_<|ifF bn az;refine E z (fc call78 z<|bo.run fe (zt' H b6) (W.g cR) hu hv hp (hq.g ai) (hw.g ai) (hx.g ai) (ht.g ai) (ii z) cG (J.g cR) cH) ?_;rintro _ _ ⟨cS,cT,cU,cV,ff,cW,cX,cY,fg,rfl,fh,fi,fj,fk,fl,b7,aj⟩
 iterate 3 refine Re z z z ?_
 refine E0 (fs0 (cur':=[vI f9.number,sl cT cU cV,sl cW cX cY]) i_ z z (((((h2.e G).c h1<|djs<|mmr h2.lt).e s6).e s5).e cS) z z z z) ?_;rintro _ _ ⟨fm,fo⟩;have b8:=fo.one;refine Ra z<|Rw z ?_
 obtain rfl:=som da;have cZ:=lt_ (lt_ (lt_ G.s h1.s) s6.s) s5.s;exact Wr<|A_ hr (o_ z_ i_ z fm z) z z ⟨bM (bup (bup (bup (bM (bup (bup h3 h4) G) h1<|m1 hy) s6) s5) cS) b8<|m1 h3.s,cT,cU,cV,ff,cW,cX,cY,fg,z,fh,fi.c b8<|p_ (al_ aj) h2.lt cZ,fj.c b8<|p_ (ar_ aj) h2.lt cZ,fk,fl,na_ (nl_ b7) (nr_ b7)<|nj b7,aa_ (k_ (al_ aj) b6)<|k_ (ar_ aj) b6⟩
theorem T_w10 (ih:e_b n):i_m (f_F n<|a_8 n):=by
 obtain ⟨am,_,_,_,_⟩:=ih
 constructor
 intro A0 A3 A4 A2 A5 AD N0 C0 N3 C3 N4 C4 N2 C2 N5 C5 ND CD B x1 x2 x3 x4 x5 x6 res w0 hm V ai aL aM aN aO aP aQ aR aS aj ak ci;unfold f_F at hm
 refine goG func78 z z z fun fn hr=>Ws<|E z (fb z) ?_
 rintro _ a4 ⟨rfl,aX⟩;have hd:=aX.below;have an:Blk a4 w0.z [sl A0 N0 C0]:=aX.blk;refine E z (fb z) ?_;rintro _ wr ⟨rfl,aY⟩;have hb:=aY.below;have ao:Blk wr a4.z (vR x2 A3 N3 C3 A4 N4 C4 A2 N2 C2 A5 N5 C5):=aY.blk;refine E z (fa a_a) ?_;rintro _ G ⟨rfl,aZ⟩;have h5:=aZ.below;have hu:Blk G wr.z [vI 0,sl none 0 0,sl none 0 0]:=aZ.blk;refine Ra z<|Rw z<|Ws<|R z (bP (parts:=[]) (cs:=[vI 0,sl none 0 0,sl none 0 0]) U_ z z)<|E z (fa a_a) ?_
 rintro _ cy ⟨rfl,b0⟩;have h3:=b0.below;have hv:Blk cy G.z [vI 0,sl none 0 0,sl none 0 0]:=b0.blk;refine E0 (fs0 (cur':=[vI 0,sl none 0 0,sl none 0 0]) i_ z z hv z z z z) ?_;rintro _ I ⟨cz,cA⟩;have H:=cA.one;refine Wn<|Wq<|Ws<|Rw z ?_
 obtain ⟨_,cj,aT⟩:=bdS hm;refine Wf (σ:=Int×(List Val)) (ρ:=Val×Int×Int) (fun (ap:Nat) s a w=>un2 (fun xc xp=>∃L O ca J,Sat 52 [(2,vI x3),(3,vI x4),(4,sl AD ND CD),(5,vI xc),(6,pt w0.z),(7,pt a4.z),(12,pt wr.z),(15,pt G.z),(16,vI ((ap:Nat):Int))] a/\Chg (· ∈ [G.z]) I w/\inI xc/\b_ w J (sl L O ca) xp/\J.Nodup/\(∀k∈J,I.z<=k)/\Blk w G.z [vI 0,sl none 0 0,sl L O ca]) s) (fun s a w=>un2 (fun xc xp=>∃L O ca J,Sat 52 [(5,vI xc),(12,pt wr.z),(15,pt G.z)] a/\Chg (· ∈ [G.z]) I w/\inI xc/\b_ w J (sl L O ca) xp/\J.Nodup/\(∀k∈J,I.z<=k)/\Blk w G.z [vI 0,sl none 0 0,sl L O ca]) s) (rQ prog fn<|Q9 w0 B) cj ?_ ?_ ?_ ?_ ?_
 ·exact fun _ q=>⟨none,0,0,[],q.k<|s9 z z z z z z z z z,cr [G.z] I,ci,onL,a_f,an_,cz⟩
 ·rintro ap ⟨xc,xp⟩ _ wg _ a3 ⟨L,O,ca,J,ck,s4,hh,hi,hw,he,hx⟩ cl;refine Wu ?_ ck;refine Wq<|Wm z<|Rm z<|Rl z z z<|Wx z (fun _=>?_) (fun hc=>(e_V a3 hc).elim)
  refine Wk<|Wq<|Wb<|Wq ?_
  obtain ⟨cB,aU,cm⟩:=bdS<|a_H cl;refine Wt (fun a w=>∃(xj:Int)(a5:List UInt8)(a6:List Val)(xs:Int)(a7:Int),(xj,a5,a6,xs,a7)=cB/\∃ay nz W Sk Y a0 a1 Sl gq,Sat 52 [(2,vI x3),(3,vI x4),(4,sl AD ND CD),(6,pt w0.z),(7,pt a4.z),(12,pt wr.z),(15,pt G.z),(16,vI ((ap:Nat):Int)),(17,pt gq),(18,vI xs),(19,vI a7)] a/\Below wg.z wg w/\inI xj/\b_ w Sk (sl ay nz W) a5/\Sk.Nodup/\(∀k∈Sk,wg.z<=k)/\b_ w Sl (sl Y a0 a1) a6/\Sl.Nodup/\(∀k∈Sl,wg.z<=k)/\(∀k∈Sl,k∉Sk)/\inI xs/\inI a7/\Blk w gq [vI xj,sl ay nz W,sl Y a0 a1]/\wg.z<=gq/\(∀k∈Sk,k∉[gq])/\(∀k∈Sl,k∉[gq])) ?_ ?_
  ·refine Wd (X:=fun k=>k∈([]:List Nat)∨wg.z<=k) 0 (.rd 0<|.rd 1<|.rd 2<|.rd 3<|.rd 5<|.rd 6<|.br 4 (.br 7 (.rd 8<|.rd 9<|.rd 10<|.rd 11<|.ef 12<|.ef 13<|.rd 14<|.rd 15 .done) 12<|.ef 7<|.rd 8<|.rd 9<|.rd 10<|.rd 11<|.ef 13<|.rd 14<|.rd 15 .done) 12<|.ef 4<|.ef 7<|.rd 8<|.rd 9<|.rd 10<|.rd 11<|.ef 13<|.rd 14<|.rd 15 .done) mo (by kernel_rfl) fun b1 s7 _=>?_
   have b2:=lt_ hb.s h5.s;have b3:=mm1 an.lt b2;refine dR z z (lN (vs:=[sl A0 N0 C0]) D_ C_ z z (e_9 nm0<|Nat.lt_of_lt_of_le an.lt<|lt_ (lt_ (lt_ b2 h3.s) H.s) s4.s)<|((((((an.e hb).e h5).e h3).c H<|djs b3).c s4<|djs b3).e s7).row 0 1 z) ?_;have b4:=mm1 ao.lt h5.s;refine dR z z (lN (vs:=vR x2 A3 N3 C3 A4 N4 C4 A2 N2 C2 A5 N5 C5) G_ n_ z z (e_9 nm0<|Nat.lt_of_lt_of_le ao.lt<|lt_ (lt_ (lt_ h5.s h3.s) H.s) s4.s)<|(((((ao.e h5).e h3).c H<|djs b4).c s4<|djs b4).e s7).row 0 8 z) ?_
   iterate 4 refine dM z z z ?_
   refine d_z ?_ ?_
   ·have b5:=lt_ (lt_ hd.s hb.s) h5.s;have b6:∀k∈[G.z],¬B k:=or0 (f_ lr)<|m_<|zt' V b5;have ht:=((((((hd.ag B).e hb).e h5).e h3).c H<|c_ b6).c s4<|c_ b6).e s7;have aq:=lt_ (lt_ (lt_ (lt_ b5 h3.s) H.s) s4.s) s7.s;obtain ⟨_,cC,aV⟩:=bdS aU;refine dE z z (fc call110 z<|i_k cC (zt' V aq) aL aM aN (aO.g ht) (aP.g ht) (aQ.g ht) (aR.g ht) aS<|ic (Nat.le_of_lt a3)<|tl_ aj) (.inr fun _ _ h=>F_<|h.1) ?_;rintro _ b7 ⟨sf,rfl,b8⟩;refine d_z ?_ ?_
    ·have b9:=ht.e sf;obtain ⟨a9,cD,cE,cF,cn⟩:=L_ aV;refine dE z z (fc call60 z<|am.run cF (zt' V<|lt_ aq sf.s) (ai.g b9) b8 (ak.g b9) hh) (.inr fun _ _ h=>F_<|h.1) ?_;rintro _ ba ⟨bb,bc,be,bf,cG,bg,bh,bi,cH,rfl,cI,bj,bk,cJ,cK,ar,bm⟩;refine dM z z z ?_
     iterate 3 refine dR z z (ext_ z z) ?_
     refine dE z z (fa a_a) (.inr fun _ _ h=>F_<|h.2.below) ?_;rintro _ cL ⟨rfl,bn⟩;have au:=bn.below;have av:=lt_ s7.s sf.s;have aw:=m1<|lt_ av bb.s
     refine dE0 z (fs0 (cur':=[vI a9.number,sl bc be bf,sl bg bh bi]) i_ z z (bn.blk:Blk cL ba.z [vI 0,sl none 0 0,sl none 0 0]) z z z z) (.inr fun _ _ h=>c_y (atp aw) h.2) ?_;rintro _ _ ⟨cN,cO⟩;have ax:=cO.one;refine dQ z z z<|dQ z z z<|pD ?_
     have bo:=mnr<|b_.lt bj
     have bp:=mnr<|b_.lt bk
     exact fun _ q=>⟨a9.number,a9.bytes,a9.items,cD,cE,som cn,bc,be,bf,cG,bg,bh,bi,cH,ba.z,q.k<|sc z<|sc z<|sc z<|sc z<|sc z<|sc z<|sc z<|sc z<|sc z<|sc z<|sc z sn,bM (bup (bup (bup s7 sf) bb) au) ax aw,cI,(bj.e au).c ax<|ds bo,nl_ ar,k_ (al_ bm) av,(bk.e au).c ax<|ds bp,nr_ ar,k_ (ar_ bm) av,ds<|nj ar,cJ,cK,cN,atp aw,ds bo,ds bp⟩
    refine dE z z (fa a_a) (.inr fun _ _ h=>F_<|h.2.below) ?_;rintro _ cP ⟨rfl,bq⟩;have aa:=bq.below;have az:Blk cP b7.z [vI 0,sl none 0 0,sl none 0 0]:=bq.blk;have bs:=(ht.e sf).e aa;obtain ⟨ab,cQ,cR,cS,co⟩:=L_ aV;refine dE z z (fc call60 z<|am.run cS (zt' V<|lt_ (lt_ aq sf.s) aa.s) (ai.g bs) b8 (ak.g bs) hh) (.inr fun _ _ h=>F_<|h.1) ?_;rintro _ _ ⟨bt,bu,bv,bw,cT,bx,bz,bA,cU,rfl,cV,cW,cX,cY,cZ,aA,ad⟩;refine dM z z z ?_
    iterate 3 refine dR z z (ext_ z z) ?_
    have bB:=lt_ s7.s sf.s;have aB:=m1 bB;refine dE0 z (fs0 (cur':=[vI ab.number,sl bu bv bw,sl bx bz bA]) i_ z z (az.e bt) z z z z) (.inr fun _ _ h=>c_y (atp aB) h.2) ?_;rintro _ _ ⟨d0,d1⟩;have aC:=d1.one;refine dQ z z z<|dQ z z z<|pD ?_
    have bC:=p_ (al_ ad) az.lt lr;have bD:=lt_ bB aa.s;have bE:=p_ (ar_ ad) az.lt lr;exact fun _ q=>⟨ab.number,ab.bytes,ab.items,cQ,cR,som co,bu,bv,bw,cT,bx,bz,bA,cU,b7.z,q.k<|sc z<|sc z<|sc z<|sc z<|sc z<|sc z<|sc z<|sc z<|sc z<|sc z<|sc z sn,bM (bup (bup (bup s7 sf) aa) bt) aC aB,cV,cW.c aC bC,nl_ aA,k_ (al_ ad) bD,cX.c aC bE,nr_ aA,k_ (ar_ ad) bD,ds<|nj aA,cY,cZ,d0,atp aB,bC,bE⟩
   refine dE z z (fa a_a) (.inr fun _ _ h=>F_<|h.2.below) ?_;rintro _ d2 ⟨rfl,bF⟩;have ae:=bF.below;have aD:Blk d2 b1.z [vI 0,sl none 0 0,sl none 0 0]:=bF.blk;have bG:=lt_ (lt_ hd.s hb.s) h5.s;have bH:∀k∈[G.z],¬B k:=or0 (f_ lr)<|m_<|zt' V bG;have a2:=(((((((hd.ag B).e hb).e h5).e h3).c H<|c_ bH).c s4<|c_ bH).e s7).e ae;have bI:=lt_ (lt_ (lt_ (lt_ (lt_ bG h3.s) H.s) s4.s) s7.s) ae.s;obtain ⟨_,d3,cp⟩:=bdS aU;refine dE z z (fc call110 z<|i_k d3 (zt' V bI) aL aM aN (aO.g a2) (aP.g a2) (aQ.g a2) (aR.g a2) aS<|ic (Nat.le_of_lt a3)<|tl_ aj) (.inr fun _ _ h=>F_<|h.1) ?_;rintro _ _ ⟨sm,rfl,d4⟩;have bJ:=a2.e sm;obtain ⟨af,d5,d6,d7,cq⟩:=L_ cp;refine dE z z (fc call60 z<|am.run d7 (zt' V<|lt_ bI sm.s) (ai.g bJ) d4 (ak.g bJ) hh) (.inr fun _ _ h=>F_<|h.1) ?_;rintro _ _ ⟨bK,bL,bN,bO,d8,bQ,bR,bS,d9,rfl,da,db,dc,dd,de,aE,ah⟩;refine dM z z z ?_
   iterate 3 refine dR z z (ext_ z z) ?_
   have aF:=m1 s7.s;refine dE0 z (fs0 (cur':=[vI af.number,sl bL bN bO,sl bQ bR bS]) i_ z z ((aD.e sm).e bK) z z z z) (.inr fun _ _ h=>c_y (atp aF) h.2) ?_;rintro _ _ ⟨df,dg⟩;have aG:=dg.one;refine dQ z z z<|dQ z z z<|pD ?_
   have bT:=p_ (al_ ah) aD.lt sm.s;have bU:=lt_ (lt_ s7.s ae.s) sm.s;have bV:=p_ (ar_ ah) aD.lt sm.s;exact fun _ q=>⟨af.number,af.bytes,af.items,d5,d6,som cq,bL,bN,bO,d8,bQ,bR,bS,d9,b1.z,q.k<|sc z<|sc z<|sc z<|sc z<|sc z<|sc z<|sc z<|sc z<|sc z<|sc z<|sc z sn,bM (bup (bup (bup s7 ae) sm) bK) aG aF,da,db.c aG bT,nl_ aE,k_ (al_ ah) bU,dc.c aG bV,nr_ aE,k_ (ar_ ah) bU,ds<|nj aE,dd,de,df,atp aF,bT,bV⟩
  rintro dh bW ⟨xj,a5,a6,xs,a7,rfl,ay,nz,W,Sk,Y,a0,a1,Sl,gq,_,so,di,dj,dk,aH,dl,dm,aI,dn,bX,dp,dq,_,_,_⟩;have aW:=un5S cm;revert dh;refine Wo<|Wq<|Wm z<|R z (nq z z)<|Wx z (fun al=>?_) (fun al=>?_)
  ·refine Ws<|R z (bP (parts:=[]) (cs:=[vI 0,sl none 0 0,sl none 0 0]) U_ z z)<|RM z z ?_
   have bY:=mmr hu.lt;refine E0 (fs0 (cur':=[vI 0,sl none 0 0,sl none 0 0]) i_ z z ((((hu.e h3).c H<|djs bY).c s4<|djs bY).e so) z z z z) ?_;rintro _ _ ⟨dr,dt⟩;refine Ra z<|Rw z ?_
   have bZ:=lt_ hd.s hb.s;have c0:=m1<|lt_ bZ h5.s
   exact Wr<|rtO<|qL (som<|ifT aW al).symm<|A_ hr (o_ z_ i_ z dr z) z z ⟨bM (bup (bM (bM (bup (bup (bup hd hb) h5) h3) H c0) s4 c0) so) dt.one<|m1 bZ,none,0,0,[],none,0,0,[],z,ii z,onL,onL,bX,dp,nd0,al0⟩
  refine Wk<|Ws<|Rf z g_x z ?_
  have c1:=hx.e so;refine R z (l0 g_58 z<|c1.at z)<|R z (lN (vs:=[vI xj,sl ay nz W,sl Y a0 a1]) z_ i_ z z fid<|dq.row 0 3 z)<|E z (fS [(.tmp 45)] g_w z z z (c_Z z) (lb z)<|lb z) ?_
  rintro _ c2 ⟨rfl,c3⟩;have hn:=c3.below;obtain ⟨du,dv,ct⟩:=bdS<|ifF aW al;refine E z (d_D (α:=Val) g_w dv z z ((hi.e so).e hn) hw (c3.blk:Blk c2 bW.z [vI xj,sl ay nz W,sl Y a0 a1]) (l_P (x:=(⟨xj,a5,a6⟩:Val)) (S1:=Sk) (S2:=Sl) di (dj.e hn)<|dl.e hn) (aa_ (a_G aH (b_.lt hi) lr)<|a_G aI (b_.lt hi) lr)<|na_ dk dm<|ds dn) ?_;rintro _ dw ⟨aJ,c4,c5,c6,rfl,c7,dx,dy,c8⟩;refine Rf z g_x z ?_;have c9:=p_ he hv.lt H.s;refine E0 (fs0 (cur':=[vI 0,sl none 0 0,sl c4 c5 c6]) z_58 z z ((c1.e hn).c c7<|djs c9) z z z z) ?_;rintro _ dz ⟨dA,dB⟩;have cb:=dB.one;refine Wn<|Wg<|Rm z<|Rw z<|Wg<|Rm z<|R z (inc_ a3 (tl_ aj) z z)<|Ra z<|Wl ?_
  have aK:=lt_ H.s s4.s;exact fun _ q=>⟨(xs,du),(som ct).symm,⟨c4,c5,c6,aJ,q.k<|s9 z z z z z z z z z,(cM (cM (d_ (d_ (cM (cr [G.z] I) s4 (io sr):Chg (· ∈ [G.z]) I wg) so:Chg (· ∈ [G.z]) I bW) hn:Chg (· ∈ [G.z]) I c2) c7 (or0 he (x_ lr):∀k∈J,k∈[G.z]∨I.z<=k):Chg (· ∈ [G.z]) I dw) cb (io sr):Chg (· ∈ [G.z]) I dz),bX,dx.c cb (or2 c8 c9 (aa_ (p_ aH hv.lt aK)<|p_ aI hv.lt aK) (a_x (f_ hv.lt)<|lt_ (lt_ aK so.s) hn.s):∀k∈aJ,k∉[G.z]),dy,(or2 c8 he (aa_ (k_ aH s4.s)<|k_ aI s4.s) (b_O<|lt_ (lt_ s4.s so.s) hn.s):∀k∈aJ,I.z<=k),dA⟩⟩
 ·rintro ⟨xc,xp⟩ _ dC ⟨L,O,ca,J,cu,dD,hh,hi,hw,he,hx⟩;refine Wu ?_ cu;refine Wq<|Wm z<|Rm z<|Rl z z z<|Wx z (fun hc=>(e_W hc).elim) (fun _=>?_)
  exact We<|fun _ q=>⟨rfl,⟨L,O,ca,J,q.k<|s3 z z z,(cM (cr [G.z] I) dD (io sr):Chg (· ∈ [G.z]) I dC),hh,hi,hw,he,hx⟩⟩
 ·rintro ⟨xc,xp⟩ dF _ rfl ⟨L,O,ca,J,_,cc,hh,hi,hw,he,hx⟩;have cv:=elL aT;revert dF;refine Wo<|Ws<|R z (lN (vs:=[vI 0,sl none 0 0,sl L O ca]) z_ i_ z z fid<|hx.row 0 3 z)<|Rm z ?_
  have cd:=mmr hu.lt;refine E0 (fs0 (cur':=[vI 0,sl none 0 0,sl L O ca]) i_ z z (((hu.e h3).c H<|djs cd).c cc<|djs cd) z z z z) ?_;rintro _ _ ⟨dG,dH⟩;have ce:=dH.one;refine Ra z<|Rw z ?_
  obtain rfl:=som<|a_H cv;have cf:=lt_ hd.s hb.s;have cg:=lt_ cf h5.s;have ch:=m1 cg;exact Wr<|A_ hr (o_ z_ i_ z dG z) z z ⟨bM (bM (bM (bup (bup (bup hd hb) h5) h3) H ch) cc ch) ce<|m1 cf,none,0,0,[],L,O,ca,J,z,ii z,onL,hi.c ce<|p_ he hu.lt<|lt_ h3.s H.s,hh,ii z,na_ a_f hw an_,aa_ an_<|k_ he<|lt_ (lt_ cg h3.s) H.s⟩
 rintro _ _ _ _ rfl ⟨rfl,cw⟩;have cx:=elR aT;obtain rfl:=som cx;exact ⟨cw,z⟩
theorem T_w11 (ih:e_b n):i_n (f_G n<|a_8 n):=by
 obtain ⟨_,aA,_,_,_⟩:=ih
 constructor
 intro A0 A3 A4 A2 A5 A7 N0 C0 N3 C3 N4 C4 N2 C2 N5 C5 N7 C7 B x1 x2 x3 x4 res w0 hm W Y a0 a1 a2 a3 a4 a5 O a6 V;unfold f_G at hm
 refine goG func79 z z z fun fn hr=>Ws<|E z (fb z) ?_
 rintro _ wy ⟨rfl,hz⟩;have hf:=hz.below;refine E z (fb z) ?_;rintro _ wq ⟨rfl,ad⟩;have h5:=ad.below;refine E z (fa a_a) ?_;rintro _ aB ⟨rfl,ae⟩;have h3:=ae.below;have h6:Blk aB wq.z [vI 0,sl none 0 0,sl none 0 0]:=ae.blk;refine Ra z<|Rw z<|Wq (Wd (X:=noX) 0 (pl_ 15 [7]) mo (by kernel_rfl) fun b6 G _=>?_)
 have af:=(((hz.blk:Blk wy w0.z [sl A0 N0 C0]).e h5).e h3).e G;refine dR z z (lN (vs:=[sl A0 N0 C0]) D_ C_ z z fid<|af.row 0 1 z)<|dR z z (fd M_ z) ?_
 have ah:=((ad.blk:Blk wq wy.z (vR x2 A3 N3 C3 A4 N4 C4 A2 N2 C2 A5 N5 C5)).e h3).e G;refine dR z z (l0 w_ z<|ah.at z) ?_;obtain ⟨_,aC,ax⟩:=bdS hm;have hh:=(((hf.ag B).e h5).e h3).e G;refine dRX z z (at_ (α:=Int) r_ z_3 z z z (O.g hh) aC) ?_;rintro _ ⟨_,_,_,rfl,aD,aE,_⟩;obtain ⟨rfl,aF⟩:=O_ aE;refine dR z z (l0 g_3 z<|aD.at0 z)<|dM z z z<|dM z z z ?_
 have hi:=lt_ hf.s h5.s;have ai:=lt_ (lt_ hi h3.s) G.s;obtain ⟨aj,_,_,aG,a7⟩:=L_ ax;refine dE z z (fc call74 z<|i_j aG (zt' W ai) (Y.g hh) aF (a6.g hh) V) (.inr fun _ _ h=>F_<|h.1) ?_;rintro _ _ ⟨s1,rfl,ht,aH⟩;refine dM z z z ?_
 iterate 3 refine dR z z (ext_ z z) ?_
 iterate 3 refine dQ z z z ?_
 refine pD<|Wo<|Wq<|Wm z<|R z (not_ z)<|Wx z (fun hcr=>?_) (fun hcr=>?_)
 ·refine Ws<|R z (bP (parts:=[]) (cs:=[vI 0,sl none 0 0,sl none 0 0]) U_ z z)<|Rm z<|E0 (fs0 (cur':=[vI 0,sl none 0 0,sl none 0 0]) i_ z z ((h6.e G).e s1) z z z z) ?_
  rintro _ _ ⟨aI,aJ⟩;refine Ra z<|Rw z ?_
  obtain rfl:=som<|ifT a7 hcr;exact Wr<|A_ hr (o_ z_ i_ z aI z) z z ⟨bM (bup (bup (bup (bup hf h5) h3) G) s1) aJ.one<|m1 hi,none,0,0,[],none,0,0,[],z,ii z,onL,onL,V,ii z,nd0,al0⟩
 refine Wk<|Wq<|Ws ?_
 have ak:=ah.e s1;refine R z (lN (vs:=vR x2 A3 N3 C3 A4 N4 C4 A2 N2 C2 A5 N5 C5) G_ n_ z z fid<|ak.row 0 8 z)<|Rm z ?_
 have hg:=hh.e s1;have al:=lt_ ai s1.s;obtain ⟨_,aK,a9⟩:=bdS<|ifF a7 hcr;refine E z (fc call110 z<|i_k aK (zt' W al) a0 a1 a2 (a3.g hg) (a4.g hg) (a5.g hg) (O.g hg) ht<|ii z) ?_;rintro _ _ ⟨s2,rfl,_⟩;refine Rl z z z<|Wx z (fun hcs=>?_) (fun hcs=>?_)
 ·refine Ws<|R z (bP (parts:=[]) (cs:=[vI 0,sl none 0 0,sl none 0 0]) U_ z z)<|Rm z<|E0 (fs0 (cur':=[vI 0,sl none 0 0,sl none 0 0]) i_ z z (((h6.e G).e s1).e s2) z z z z) ?_
  rintro _ _ ⟨aL,aM⟩;refine Ra z<|Rw z ?_
  obtain rfl:=som<|ifT a9 hcs;exact Wr<|A_ hr (o_ z_ i_ z aL z) z z ⟨bM (bup (bup (bup (bup (bup hf h5) h3) G) s1) s2) aM.one<|m1 hi,none,0,0,[],none,0,0,[],z,ii z,onL,onL,V,ii z,nd0,al0⟩
 refine Wk<|Ws<|R z (lN (vs:=[sl A0 N0 C0]) D_ C_ z z fid<|((af.e s1).e s2).row 0 1 z)<|R z (lN (vs:=vR x2 A3 N3 C3 A4 N4 C4 A2 N2 C2 A5 N5 C5) G_ n_ z z fid<|(ak.e s2).row 0 8 z)<|RM z z<|Rm z ?_
 have I:=hg.e s2;have hj:=lt_ al s2.s;obtain ⟨am,aN,aO,aP,ay⟩:=L_<|ifF a9 hcs;refine E z (fc call78 z<|aA.run aP (zt' W hj) (Y.g I) a0 a1 a2 (a3.g I) (a4.g I) (a5.g I) (O.g I) ht (ii z) (a6.g I) aH) ?_;rintro _ H ⟨sk,J,L,ca,aQ,ab,nc,cd,aR,rfl,aS,an,ao,aT,aU,hu,hl⟩;refine Rm z ?_
 iterate 3 refine Re z z z ?_
 refine E z (fa a_a) ?_;rintro _ aV ⟨rfl,ap⟩;have hn:=ap.below;refine E0 (fs0 (cur':=[vI am.number,sl J L ca,sl ab nc cd]) i_ z z (ap.blk:Blk aV H.z [vI 0,sl none 0 0,sl none 0 0]) z z z z) ?_;rintro _ wm ⟨aq,aW⟩;have ho:=aW.one;refine Ra z<|Rw z<|Wq<|Wm z<|Rq z z z<|Wn ?_
 obtain ⟨aX,aa,az⟩:=bdS ay;refine Wt (fun a w=>∃(xe:Int),xe=aX/\Sat 56 [(8,pt wq.z),(14,pt H.z),(15,vI aN),(16,vI aO)] a/\Chg (· ∈ [H.z]) wm w/\inI xe/\Blk w H.z [vI xe,sl J L ca,sl ab nc cd]) ?_ ?_
 ·refine Wc z (fun hcv=>?_)<|fun hcv=>?_
  ·refine Wg<|Rm z<|Rf z f_60_0 z<|E0 (fs0 (cur':=[vI aj,sl J L ca,sl ab nc cd]) z_3 z z aq z z z z) ?_
   rintro _ aY ⟨aZ,b0⟩;refine Wl ?_;exact fun _ q=>⟨aj,som<|ifT aa hcv,q.k<|s4 z z z z,(cM (cr [H.z] wm) b0.one (io sr):Chg (· ∈ [H.z]) wm aY),ht,aZ⟩
  exact a_q<|fun _ q=>⟨am.number,som<|ifF aa hcv,q.k<|s4 z z z z,cr [H.z] wm,aS,aq⟩
 rintro b1 _ ⟨xe,rfl,_,sp,b2,b3⟩;revert b1;refine Wo<|Ws<|R z (lN (vs:=[vI xe,sl J L ca,sl ab nc cd]) z_ i_ z z fid<|b3.row 0 3 z)<|RM z z ?_
 have hw:=lt_ (lt_ G.s s1.s) s2.s;have ar:=mm1 h6.lt<|lt_ hw sk.s
 refine E0 (fs0 (cur':=[vI xe,sl J L ca,sl ab nc cd]) i_ z z (((((((h6.e G).e s1).e s2).e sk).e hn).c ho<|djs ar).c sp<|djs ar) z z z z) ?_;rintro _ _ ⟨b4,b5⟩;have hx:=b5.one;refine Ra z<|Rw z ?_
 obtain rfl:=som az;have au:=mnr<|b_.lt an
 have av:=mnr<|b_.lt ao
 have aw:=m1<|lt_ hj sk.s
 exact Wr<|A_ hr (o_ z_ i_ z b4 z) z z ⟨bM (bM (bM (bup (bup (bup (bup (bup (bup (bup hf h5) h3) G) s1) s2) sk) hn) ho aw) sp aw) hx<|m1 hi,J,L,ca,aQ,ab,nc,cd,aR,z,b2,(((an.e hn).c ho<|ds au).c sp<|ds au).c hx<|p_ (al_ hl) h6.lt hw,(((ao.e hn).c ho<|ds av).c sp<|ds av).c hx<|p_ (ar_ hl) h6.lt hw,aT,aU,na_ (nl_ hu) (nr_ hu)<|nj hu,aa_ (k_ (al_ hl) hj)<|k_ (ar_ hl) hj⟩
theorem T_w12 (ih:e_b n):i_o (f_H n<|a_8 n):=by
 obtain ⟨_,a7,_,_,_⟩:=ih
 constructor
 intro A0 A3 A4 A2 A5 A7 N0 C0 N3 C3 N4 C4 N2 C2 N5 C5 N7 C7 B x1 x2 x3 x4 res w0 hm a8 V W Y a0 a1 a2 a3 a4 L O;unfold f_H at hm
 refine goG func80 z z z fun fn hr=>Ws<|E z (fb z) ?_
 rintro _ wc ⟨rfl,hd⟩;have h2:=hd.below;refine E z (fb z) ?_;rintro _ we ⟨rfl,hf⟩;have G:=hf.below;refine E z (fa a_a) ?_;rintro _ ws ⟨rfl,hg⟩;have h3:=hg.below;have h5:Blk ws we.z [vI 0,sl none 0 0,sl none 0 0]:=hg.blk;refine Ra z<|Rw z<|Wq<|Wb<|Wm z<|Rm z ?_
 have hh:=((h2.ag B).e G).e h3;have hi:=L.g hh;refine R z (lnR l_ z hi)<|R z (b_f z z)<|Rw z<|Wc z (fun H=>?_) (fun H=>?_)
 ·refine Ws<|R z (bP (parts:=[]) (cs:=[vI 0,sl none 0 0,sl none 0 0]) U_ z z)<|Rm z<|E0 (fs0 (cur':=[vI 0,sl none 0 0,sl none 0 0]) i_ z z h5 z z z z) ?_
  rintro _ _ ⟨hw,sx⟩;refine Ra z<|Rw z ?_
  obtain rfl:=som<|ifT hm H;exact Wr<|rtO<|A_ hr (o_ z_ i_ z hw z) z z ⟨bM (bup (bup h2 G) h3) sx.one<|m1<|lt_ h2.s G.s,none,0,0,[],none,0,0,[],z,ii z,onL,onL,O,ii z,nd0,al0⟩
 refine Wm z<|Rm z ?_
 obtain ⟨_,ey,hmj⟩:=bdS<|ifF hm H;refine RX z (at_ (α:=UInt8) l_ z_5 z z z hi ey) ?_;rintro _ ⟨_,_,_,rfl,hz,a9,_⟩;obtain rfl:=u8 a9;refine R z (l0 g_5 z<|hz.at0 z)<|R z (a_b z z)<|Rw z<|Wc z (fun I=>?_) (fun I=>?_)
 ·refine Ws<|R z (bP (parts:=[]) (cs:=[vI 0,sl none 0 0,sl none 0 0]) U_ z z)<|Rm z<|E0 (fs0 (cur':=[vI 0,sl none 0 0,sl none 0 0]) i_ z z h5 z z z z) ?_
  rintro _ _ ⟨aa,ab⟩;refine Ra z<|Rw z ?_
  obtain rfl:=som<|ifT hmj I;exact Wr<|rtO<|A_ hr (o_ z_ i_ z aa z) z z ⟨bM (bup (bup h2 G) h3) ab.one<|m1<|lt_ h2.s G.s,none,0,0,[],none,0,0,[],z,ii z,onL,onL,O,ii z,nd0,al0⟩
 refine Wk<|Wq (Wd (X:=noX) 16384 (pl_ 17 [10,14]) mo (by kernel_rfl) fun aw s1 _=>dR z z (lN (vs:=[sl A0 N0 C0]) D_ C_ z z fid<|((((hd.blk:Blk wc w0.z [sl A0 N0 C0]).e G).e h3).e s1).row 0 1 z)<|dR z z (lN (vs:=vR x2 A3 N3 C3 A4 N4 C4 A2 N2 C2 A5 N5 C5) G_ n_ z z fid<|(((hf.blk:Blk we wc.z (vR x2 A3 N3 C3 A4 N4 C4 A2 N2 C2 A5 N5 C5)).e h3).e s1).row 0 8 z)<|dM z z z<|dM z z z ?_)
 obtain ⟨_,ad,a5⟩:=bdS<|ifF hmj I;have h4:=hh.e s1;have hk:=L.g h4;refine dRX z z (at_ (α:=UInt8) l_ z_5 z z z hk ad) ?_;rintro _ ⟨_,_,_,rfl,ae,af,_⟩;obtain rfl:=u8 af;refine dR z z (l0 g_5 z<|ae.at0 z)<|dR z z (c_c d_5 d_3 z)<|dM z z z<|dM z z z<|dR z z (add_ z z) ?_
 have hl:=lt_ h2.s G.s;have J:=lt_ (lt_ hl h3.s) s1.s;obtain ⟨ah,_,_,ai,a6⟩:=L_ a5;refine dE z z (fc call78 z<|a7.run ai (zt' a8 J) (V.g h4) W Y a0 (a1.g h4) (a2.g h4) (a3.g h4) (a4.g h4) (ii z) (m_q _) hk<|iA _ _) (.inr fun _ _ h=>F_<|h.1) ?_;rintro _ _ ⟨sm,an,no,cp,aj,aq,nr,ct,ak,rfl,al,am,ao,ap,ar,ha,h6⟩
 iterate 3 refine dR z z (ext_ z z) ?_
 refine dE0 z (fs0 (cur':=[vI ah.number,sl an no cp,sl aq nr ct]) i_ z z ((h5.e s1).e sm) z z z z) (.inl z) ?_;rintro _ _ ⟨au,av⟩;have hb:=av.one;refine dQ z z z<|dQ z z z<|pD<|Wo ?_
 obtain rfl:=som a6;exact Wr<|A_ hr (o_ z_ i_ z au z) z z ⟨bM (bup (bup (bup (bup h2 G) h3) s1) sm) hb<|m1 hl,an,no,cp,aj,aq,nr,ct,ak,z,al,am.c hb<|p_ (al_ h6) h5.lt s1.s,ao.c hb<|p_ (ar_ h6) h5.lt s1.s,ap,ar,na_ (nl_ ha) (nr_ ha)<|nj ha,aa_ (k_ (al_ h6) J)<|k_ (ar_ h6) J⟩
theorem T_w13 (ih:e_b n):i_p (f_I n<|a_8 n):=by
 obtain ⟨_,am,_,_,_⟩:=ih
 constructor
 intro A0 A3 A4 A2 A5 A7 N0 C0 N3 C3 N4 C4 N2 C2 N5 C5 N7 C7 B x1 x2 x3 x4 res w0 hm O a7 a8 a9 ab ae af ah ai L aj;unfold f_I at hm
 refine goG func81 z z z fun fn hr=>Ws<|E z (fb z) ?_
 rintro _ wu ⟨rfl,hv⟩;have hh:=hv.below;refine E z (fb z) ?_;rintro _ ww ⟨rfl,hx⟩;have H:=hx.below;refine E z (fa a_a) ?_;rintro _ an ⟨rfl,hy⟩;have h5:=hy.below;have h3:Blk an ww.z [vI 0,sl none 0 0,sl none 0 0]:=hy.blk;refine Ra z<|Rw z<|Ws<|R z (lN (vs:=[sl A0 N0 C0]) D_ C_ z z fid<|(((hv.blk:Blk wu w0.z [sl A0 N0 C0]).e H).e h5).row 0 1 z)<|R z (lN (vs:=vR x2 A3 N3 C3 A4 N4 C4 A2 N2 C2 A5 N5 C5) G_ n_ z z fid<|((hx.blk:Blk ww wu.z (vR x2 A3 N3 C3 A4 N4 C4 A2 N2 C2 A5 N5 C5)).e h5).row 0 8 z)<|RM z z ?_
 have I:=((hh.ag B).e H).e h5;have hj:=lt_ hh.s H.s;have J:=lt_ hj h5.s;obtain ⟨rk,_,_,ao,hmz⟩:=L_ hm;refine E z (fc call78 z<|am.run ao (zt' O J) (a7.g I) a8 a9 ab (ae.g I) (af.g I) (ah.g I) (ai.g I) (ii z) (ii z) (L.g I) aj) ?_;rintro _ Y ⟨G,aa,nb,cc,a0,ad,ne,cf,a1,rfl,a2,hn,ho,hp,ap,hi,h6⟩;refine Rm z ?_
 iterate 3 refine Re z z z ?_
 refine E z (fa a_a) ?_;rintro _ aq ⟨rfl,a3⟩;have h1:=a3.below;refine E0 (fs0 (cur':=[vI rk.number,sl aa nb cc,sl ad ne cf]) i_ z z (a3.blk:Blk aq Y.z [vI 0,sl none 0 0,sl none 0 0]) z z z z) ?_;rintro _ _ ⟨a4,ar⟩;have h2:=ar.one;refine Ra z<|Rw z<|Wq<|Wb<|Wm z<|R z (nq z z)<|Rw z<|Wc z (fun hcm=>?_) (fun hcm=>?_)
 ·refine Ws<|R z (lN (vs:=[vI rk.number,sl aa nb cc,sl ad ne cf]) z_ i_ z z fid<|a4.row 0 3 z)<|RM z z<|E0 (fs0 (cur':=[vI rk.number,sl aa nb cc,sl ad ne cf]) i_ z z (((h3.e G).e h1).c h2<|djs<|mm1 h3.lt G.s) z z z z) ?_
  rintro _ _ ⟨au,av⟩;have hq:=av.one;refine Ra z<|Rw z ?_
  obtain rfl:=som<|ifT hmz hcm;exact Wr<|rtO<|A_ hr (o_ z_ i_ z au z) z z ⟨bM (bM (bup (bup (bup (bup hh H) h5) G) h1) h2<|m1<|lt_ J G.s) hq<|m1 hj,aa,nb,cc,a0,ad,ne,cf,a1,z,a2,((hn.e h1).c h2<|ds<|mnr<|b_.lt hn).c hq<|p_ (al_ h6) h3.lt lr,((ho.e h1).c h2<|ds<|mnr<|b_.lt ho).c hq<|p_ (ar_ h6) h3.lt lr,hp,ap,na_ (nl_ hi) (nr_ hi)<|nj hi,aa_ (k_ (al_ h6) J)<|k_ (ar_ h6) J⟩
 have V:=ifF hmz hcm;refine Wm z<|Rm z ?_
 have hl:=lt_ J G.s;have a5:=((I.e G).e h1).c h2<|c_ (or0 (f_ lr) (m_<|zt' O hl):∀k∈[Y.z],¬B k)
 refine R z (lnR l_ z<|L.g a5)<|R z (b_f z z)<|Rw z<|Wc z (fun hcr=>?_) (fun hcr=>?_)
 ·refine Ws<|R z (bP (parts:=[]) (cs:=[vI 0,sl none 0 0,sl none 0 0]) U_ z z)<|Rm z<|E0 (fs0 (cur':=[vI 0,sl none 0 0,sl none 0 0]) i_ z z (((h3.e G).e h1).c h2<|djs<|mm1 h3.lt G.s) z z z z) ?_
  rintro _ _ ⟨aw,ax⟩;refine Ra z<|Rw z ?_
  obtain rfl:=som<|ifT V hcr;exact Wr<|rtO<|A_ hr (o_ z_ i_ z aw z) z z ⟨bM (bM (bup (bup (bup (bup hh H) h5) G) h1) h2<|m1 hl) ax.one<|m1 hj,none,0,0,[],none,0,0,[],z,ii z,onL,onL,hp,ii z,nd0,al0⟩
 refine Wq (Wd (X:=noX) 0 (pl_ 12 [9]) mo (by kernel_rfl) fun aI s4 _=>dM z z z<|dM z z z ?_);obtain ⟨_,ay,ak⟩:=bdS<|ifF V hcr;have a6:=L.g<|a5.e s4
 refine dRX z z (at_ (α:=UInt8) l_ z_5 z z z a6 ay) ?_;rintro _ ⟨_,_,_,rfl,az,aA,_⟩;obtain rfl:=u8 aA;refine dR z z (l0 g_5 z<|az.at0 z)<|dR z z (c_c d_5 d_3 z) ?_
 iterate 3 refine dM z z z ?_
 obtain ⟨_,aB,al⟩:=bdS ak;refine dRX z z (rX l_ z_5 z z a6 z z aB) ?_;rintro _ ⟨_,_,_,rfl,aC⟩;obtain ⟨_,aD,W⟩:=bdS al;refine dE z z (fc call111 z<|W_w29 aD (zt' O<|lt_ (lt_ (lt_ hl h1.s) h2.s) s4.s) aC) (.inr fun _ _ h=>F_<|h.1) ?_;rintro _ _ ⟨sg,rfl,_⟩;refine dR z z (nq z z)<|dQ z z z<|pD<|Wo<|Wc z (fun hcs=>?_) (fun hcs=>?_)
 ·refine Ws<|R z (bP (parts:=[]) (cs:=[vI 0,sl none 0 0,sl none 0 0]) U_ z z)<|Rm z<|E0 (fs0 (cur':=[vI 0,sl none 0 0,sl none 0 0]) i_ z z (((((h3.e G).e h1).c h2<|djs<|mm1 h3.lt G.s).e s4).e sg) z z z z) ?_
  rintro _ _ ⟨aE,aF⟩;refine Ra z<|Rw z ?_
  obtain rfl:=som<|ifT W hcs;exact Wr<|rtO<|A_ hr (o_ z_ i_ z aE z) z z ⟨bM (bup (bup (bM (bup (bup (bup (bup hh H) h5) G) h1) h2<|m1 hl) s4) sg) aF.one<|m1 hj,none,0,0,[],none,0,0,[],z,ii z,onL,onL,hp,ii z,nd0,al0⟩
 refine Wk<|Ws<|R z (lN (vs:=[vI rk.number,sl aa nb cc,sl ad ne cf]) z_ i_ z z fid<|((a4.e s4).e sg).row 0 3 z)<|Rm z<|R z (add_ z z)<|E0 (fs0 (cur':=[vI rk.number,sl aa nb cc,sl ad ne cf]) i_ z z (((((h3.e G).e h1).c h2<|djs<|mm1 h3.lt G.s).e s4).e sg) z z z z) ?_
 rintro _ _ ⟨aG,aH⟩;have ht:=aH.one;refine Ra z<|Rw z ?_
 obtain rfl:=som<|ifF W hcs;exact Wr<|A_ hr (o_ z_ i_ z aG z) z z ⟨bM (bup (bup (bM (bup (bup (bup (bup hh H) h5) G) h1) h2<|m1 hl) s4) sg) ht<|m1 hj,aa,nb,cc,a0,ad,ne,cf,a1,z,a2,((((hn.e h1).c h2<|ds<|mnr<|b_.lt hn).e s4).e sg).c ht<|p_ (al_ h6) h3.lt lr,((((ho.e h1).c h2<|ds<|mnr<|b_.lt ho).e s4).e sg).c ht<|p_ (ar_ h6) h3.lt lr,iA _ _,ii z,na_ (nl_ hi) (nr_ hi)<|nj hi,aa_ (k_ (al_ h6) J)<|k_ (ar_ h6) J⟩
theorem c_i:∀n,e_b n
  | 0=>⟨⟨fun hm=>by intros;exact nomatch (show none=some _ from hm)⟩,⟨fun hm=>by intros;exact nomatch (show none=some _ from hm)⟩,⟨fun hm=>by intros;exact nomatch (show none=some _ from hm)⟩,⟨fun hm=>by intros;exact nomatch (show none=some _ from hm)⟩,⟨fun hm=>by intros;exact nomatch (show none=some _ from hm)⟩⟩
  | n+1=>⟨T_w02<|c_i n,T_w10<|c_i n,T_w11<|c_i n,T_w12<|c_i n,T_w13<|c_i n⟩
theorem W_w02:i_l (a_8 n).spec_l11Read:=(c_i n).1
theorem W_w10:i_m (a_8 n).spec_l11Items:=(c_i n).2.1
theorem W_w11:i_n (a_8 n).spec_l11Choice:=(c_i n).2.2.1
theorem W_w12:i_o (a_8 n).spec_l11Option:=(c_i n).2.2.2.1
theorem W_w13:i_p (a_8 n).spec_l11Checked:=(c_i n).2.2.2.2
theorem i_q {x1:g_}{x2:Int}{x3:List UInt8}{x4:Int}{res:Val×Int×Int}(hm:f_K n x1 x2 x3 x4=some res)(J:B<=w0.z)(V:repS w0 B (sl A0 N0 C0) x1.rules)(W:inI x2)(I:repS w0 B (sl A7 N7 C7) x3)(Y:inI x4):j_ prog 41 [(.agg #[sl A0 N0 C0]),vI x2,sl A7 N7 C7,vI x4] w0 (Q9 w0 B res):=by
 unfold f_K at hm
 refine goG func41 z z z fun fn hr=>Ws<|E z (fb z) ?_
 rintro _ L ⟨rfl,hg⟩;have h3:=hg.below;have hh:Blk L w0.z [sl A0 N0 C0]:=hg.blk;refine E z (fa a_a) ?_;rintro _ O ⟨rfl,hi⟩;have h4:=hi.below;have h6:Blk O L.z [vI 0,sl none 0 0,sl none 0 0]:=hi.blk;refine Ra z<|Rw z<|Wq<|Wq ?_
 obtain ⟨uy,huz,hmj⟩:=bdS hm;refine Wt (fun a w=>∃(xa:Bool),xa=uy/\Sat 36 [(1,vI x2),(2,sl A7 N7 C7),(3,vI x4),(4,pt w0.z),(8,pt L.z),(26,vB xa)] a/\Below O.z O w) ?_ ?_
 ·refine Wg<|R z (lN (vs:=[sl A0 N0 C0]) D_ C_ z z fid<|(hh.e h4).row 0 1 z)<|Rm z ?_
  have hk:=(h3.ag B).e h4;have hl:=lt_ h3.s h4.s;obtain ⟨a1,a2,hmm⟩:=bdS huz;refine E z (fc call58 z<|W_w25 a2 (zt' J hl) (V.g hk) W) ?_;rintro _ _ ⟨s5,rfl⟩;refine R z (not_ z)<|Rm z ?_
  rcases bs (!a1) with h | h
  ·iterate 5 refine Nh z h ?_
   exact R z (pT z h z)<|Rm z<|Nh z z<|Nh z z<|Nh z z<|R z (pT z z z)<|Wl (fun _ q=>⟨true,som<|ifT hmm h,q.k<|s6 z z z z z z,s5⟩)
  refine Rh z h (mv z)<|Rh z h (mv z) ?_
  have hn:=hk.e s5;have ho:=I.g hn;refine Rh z h (lnR l_ z ho) ?_;obtain ⟨a3,a4,hmp⟩:=bdS<|ifF hmm h;refine Eg z z h z (fc call59 z<|b_n a4 (zt' J<|lt_ hl s5.s) Y (ii z)<|b_B<|repS.len ho) ?_;rintro _ _ ⟨sb,rfl⟩;refine Rh z h (not_ z)<|R z (pF z h z)<|Rm z ?_
  rcases bs (!a3) with G | G
  ·iterate 3 refine Nh z G ?_
   exact R z (pT z G z)<|Wl (fun _ q=>⟨true,som<|ifT hmp G,q.k<|s6 z z z z z z,bup s5 sb⟩)
  exact Rh z G (mv z)<|Rh z G (lnR l_ z<|I.g<|hn.e sb)<|Rh z G (a_b z z)<|R z (pF z G z)<|Wl (fun _ q=>⟨decide<|400<(x3.length:Int),som<|ifF hmp G,q.k<|s6 z z z z z z,bup s5 sb⟩)
 rintro a5 _ ⟨xa,rfl,_,s2⟩;revert a5;refine Wo<|Wc z (fun hcc=>?_) (fun hcc=>?_)
 ·refine Ws<|R z (bP (parts:=[]) (cs:=[vI 0,sl none 0 0,sl none 0 0]) U_ z z)<|E0 (fs0 (cur':=[vI 0,sl none 0 0,sl none 0 0]) i_ z z (h6.e s2) z z z z) ?_
  rintro _ _ ⟨a6,a7⟩;refine Ra z<|Rw z ?_
  obtain rfl:=som<|ifT hmj hcc;exact Wr<|A_ hr (o_ z_ i_ z a6 z) z z ⟨bM (bup (bup h3 h4) s2) a7.one<|m1 h3.s,none,0,0,[],none,0,0,[],z,ii z,onL,onL,ii z,ii z,nd0,al0⟩
 refine Wk<|Ws<|R z (lN (vs:=[sl A0 N0 C0]) D_ C_ z z fid<|((hh.e h4).e s2).row 0 1 z)<|RM z z<|Rm z ?_
 have hq:=((h3.ag B).e h4).e s2;have hd:=lt_ (lt_ h3.s h4.s) s2.s;obtain ⟨a8,_,_,a9,a0⟩:=L_<|ifF hmj hcc;refine E z (fc call60 z<|W_w02.run a9 (zt' J hd) (V.g hq) W (I.g hq) Y) ?_;rintro _ _ ⟨sr,au,ns,ct,aa,av,nw,cx,ab,rfl,ad,ae,af,ah,ai,he,H⟩
 iterate 3 refine Re z z z ?_
 refine E0 (fs0 (cur':=[vI a8.number,sl au ns ct,sl av nw cx]) i_ z z ((h6.e s2).e sr) z z z z) ?_;rintro _ _ ⟨aj,ak⟩;have hf:=ak.one;refine Ra z<|Rw z ?_
 obtain rfl:=som a0;exact Wr<|A_ hr (o_ z_ i_ z aj z) z z ⟨bM (bup (bup (bup h3 h4) s2) sr) hf<|m1 h3.s,au,ns,ct,aa,av,nw,cx,ab,z,ad,ae.c hf<|p_ (al_ H) h6.lt s2.s,af.c hf<|p_ (ar_ H) h6.lt s2.s,ah,ai,na_ (nl_ he) (nr_ he)<|nj he,aa_ (k_ (al_ H) hd)<|k_ (ar_ H) hd⟩
theorem W_w14 {x1:g_}{x2:List UInt8}{res:Val×Int×Int}(hm:e_z n x1 x2=some res)(W:B<=w0.z)(V:repS w0 B (sl A0 N0 C0) x1.rules)(Y:repS w0 B (sl A6 N6 C6) x2):j_ prog 26 [(.agg #[sl A0 N0 C0]),sl A6 N6 C6] w0 (Q9 w0 B res):=by
 unfold e_z at hm
 refine goG func26 z z z fun fn hr=>Ws<|E z (fb z) ?_
 rintro _ wl ⟨rfl,ao⟩;have h2:=ao.below;have hv:Blk wl w0.z [sl A0 N0 C0]:=ao.blk;refine E z (fa a_a) ?_;rintro _ I ⟨rfl,ap⟩;have h1:=ap.below;have hn:Blk I wl.z [vI 0,sl none 0 0,sl none 0 0]:=ap.blk;refine Ra z<|Rw z<|Wq ?_
 obtain ⟨bn,ak,bh⟩:=bdS hm;refine Wt (fun a w=>∃(xb:Int)(xw:List UInt8)(xx:List Val)(xc:Int)(xd:Int),(xb,xw,xx,xc,xd)=bn/\∃ae nf cg J ah ni cj L O,Sat 32 [(1,sl A6 N6 C6),(4,pt wl.z),(7,pt O),(8,vI xc),(9,vI xd)] a/\Below I.z I w/\inI xb/\b_ w J (sl ae nf cg) xw/\J.Nodup/\(∀k∈J,I.z<=k)/\b_ w L (sl ah ni cj) xx/\L.Nodup/\(∀k∈L,I.z<=k)/\(∀k∈L,k∉J)/\inI xc/\inI xd/\Blk w O [vI xb,sl ae nf cg,sl ah ni cj]/\I.z<=O/\(∀k∈J,k∉[O])/\(∀k∈L,k∉[O])) ?_ ?_
 ·refine Wd (X:=fun k=>k∈([]:List Nat)∨I.z<=k) 0 (.rd 0<|.rd 1<|.rd 3<|.br 2 (.br 4 (.rd 5<|.rd 6<|.rd 7<|.rd 8<|.ef 9<|.ef 10<|.rd 11<|.rd 12 .done) 9<|.ef 4<|.rd 5<|.rd 6<|.rd 7<|.rd 8<|.ef 10<|.rd 11<|.rd 12 .done) 9<|.ef 2<|.ef 4<|.rd 5<|.rd 6<|.rd 7<|.rd 8<|.ef 10<|.rd 11<|.rd 12 .done) mo (by kernel_rfl) fun aq G _=>?_
  have ar:=(hv.e h1).e G;refine dR z z (lN (vs:=[sl A0 N0 C0]) D_ C_ z z (e_9 nm0<|Nat.lt_of_lt_of_le hv.lt h1.s)<|ar.row 0 1 z)<|dR z z (lN (vs:=[sl A0 N0 C0]) D_ C_ z z (e_9 nm0<|Nat.lt_of_lt_of_le hv.lt h1.s)<|ar.row 0 1 z)<|dM z z z<|d_z ?_ ?_
  ·have hy:=((h2.ag B).e h1).e G;have hz:=lt_ (lt_ h2.s h1.s) G.s;obtain ⟨_,bo,al⟩:=bdS ak;refine dE z z (fc call42 z<|W_w0x bo (zt' W hz)<|V.g hy) (.inr fun _ _ h=>F_<|h.1) ?_;rintro _ au ⟨s4,rfl,av⟩;refine d_z ?_ ?_
   ·have aw:=hy.e s4;obtain ⟨rm,bp,bq,bt,bi⟩:=L_ al;refine dE z z (fc call41 z<|i_q bt (zt' W<|lt_ hz s4.s) (V.g aw) av (Y.g aw)<|ii z) (.inr fun _ _ h=>F_<|h.1) ?_;rintro _ ax ⟨ay,az,aA,aB,bu,aC,aD,aE,bv,rfl,bw,aF,aG,bx,bz,a1,aH⟩;refine dM z z z ?_
    iterate 3 refine dR z z (ext_ z z) ?_
    refine dE z z (fa a_a) (.inr fun _ _ h=>F_<|h.2.below) ?_;rintro _ bA ⟨rfl,aI⟩;have a2:=aI.below;have a3:=lt_ G.s s4.s;have a4:=m1<|lt_ a3 ay.s
    refine dE0 z (fs0 (cur':=[vI rm.number,sl az aA aB,sl aC aD aE]) i_ z z (aI.blk:Blk bA ax.z [vI 0,sl none 0 0,sl none 0 0]) z z z z) (.inr fun _ _ h=>c_y (atp a4) h.2) ?_;rintro _ _ ⟨bB,bC⟩;have a5:=bC.one;refine dQ z z z<|dQ z z z<|pD ?_
    have aJ:=mnr<|b_.lt aF
    have aK:=mnr<|b_.lt aG
    exact fun _ q=>⟨rm.number,rm.bytes,rm.items,bp,bq,som bi,az,aA,aB,bu,aC,aD,aE,bv,ax.z,q.k<|s5 z z z z z,bM (bup (bup (bup G s4) ay) a2) a5 a4,bw,(aF.e a2).c a5<|ds aJ,nl_ a1,k_ (al_ aH) a3,(aG.e a2).c a5<|ds aK,nr_ a1,k_ (ar_ aH) a3,ds<|nj a1,bx,bz,bB,atp a4,ds aJ,ds aK⟩
   refine dE z z (fa a_a) (.inr fun _ _ h=>F_<|h.2.below) ?_;rintro _ bD ⟨rfl,aL⟩;have ho:=aL.below;have a6:Blk bD au.z [vI 0,sl none 0 0,sl none 0 0]:=aL.blk;have aM:=(hy.e s4).e ho;obtain ⟨rp,bE,bF,bG,bj⟩:=L_ al;refine dE z z (fc call41 z<|i_q bG (zt' W<|lt_ (lt_ hz s4.s) ho.s) (V.g aM) av (Y.g aM)<|ii z) (.inr fun _ _ h=>F_<|h.1) ?_;rintro _ _ ⟨aN,aO,aP,aQ,bH,aR,aS,aT,bI,rfl,bJ,bK,bL,bN,bO,a7,hq⟩;refine dM z z z ?_
   iterate 3 refine dR z z (ext_ z z) ?_
   have aU:=lt_ G.s s4.s;have a8:=m1 aU;refine dE0 z (fs0 (cur':=[vI rp.number,sl aO aP aQ,sl aR aS aT]) i_ z z (a6.e aN) z z z z) (.inr fun _ _ h=>c_y (atp a8) h.2) ?_;rintro _ _ ⟨bQ,bR⟩;have a9:=bR.one;refine dQ z z z<|dQ z z z<|pD ?_
   have aV:=p_ (al_ hq) a6.lt lr;have aW:=lt_ aU ho.s;have aX:=p_ (ar_ hq) a6.lt lr;exact fun _ q=>⟨rp.number,rp.bytes,rp.items,bE,bF,som bj,aO,aP,aQ,bH,aR,aS,aT,bI,au.z,q.k<|s5 z z z z z,bM (bup (bup (bup G s4) ho) aN) a9 a8,bJ,bK.c a9 aV,nl_ a7,k_ (al_ hq) aW,bL.c a9 aX,nr_ a7,k_ (ar_ hq) aW,ds<|nj a7,bN,bO,bQ,atp a8,aV,aX⟩
  refine dE z z (fa a_a) (.inr fun _ _ h=>F_<|h.2.below) ?_;rintro _ bS ⟨rfl,aY⟩;have ht:=aY.below;have aa:Blk bS aq.z [vI 0,sl none 0 0,sl none 0 0]:=aY.blk;have aZ:=(((h2.ag B).e h1).e G).e ht;have b0:=lt_ (lt_ (lt_ h2.s h1.s) G.s) ht.s;obtain ⟨_,bT,bk⟩:=bdS ak;refine dE z z (fc call42 z<|W_w0x bT (zt' W b0)<|V.g aZ) (.inr fun _ _ h=>F_<|h.1) ?_;rintro _ _ ⟨s9,rfl,bU⟩;have b1:=aZ.e s9;obtain ⟨rr,bV,bW,bX,bm⟩:=L_ bk;refine dE z z (fc call41 z<|i_q bX (zt' W<|lt_ b0 s9.s) (V.g b1) bU (Y.g b1)<|ii z) (.inr fun _ _ h=>F_<|h.1) ?_;rintro _ _ ⟨b2,b3,b4,b5,bY,b6,b7,b8,bZ,rfl,c0,c1,c2,c3,c4,ab,hu⟩;refine dM z z z ?_
  iterate 3 refine dR z z (ext_ z z) ?_
  have ad:=m1 G.s;refine dE0 z (fs0 (cur':=[vI rr.number,sl b3 b4 b5,sl b6 b7 b8]) i_ z z ((aa.e s9).e b2) z z z z) (.inr fun _ _ h=>c_y (atp ad) h.2) ?_;rintro _ _ ⟨c5,c6⟩;have af:=c6.one;refine dQ z z z<|dQ z z z<|pD ?_
  have b9:=p_ (al_ hu) aa.lt s9.s;have ba:=lt_ (lt_ G.s ht.s) s9.s;have bb:=p_ (ar_ hu) aa.lt s9.s;exact fun _ q=>⟨rr.number,rr.bytes,rr.items,bV,bW,som bm,b3,b4,b5,bY,b6,b7,b8,bZ,aq.z,q.k<|s5 z z z z z,bM (bup (bup (bup G ht) s9) b2) af ad,c0,c1.c af b9,nl_ ab,k_ (al_ hu) ba,c2.c af bb,nr_ ab,k_ (ar_ hu) ba,ds<|nj ab,c3,c4,c5,atp ad,b9,bb⟩
 rintro c7 ws ⟨xb,xw,xx,xc,xd,rfl,ae,nf,cg,J,ah,ni,cj,L,O,_,sk,c8,c9,ca,bc,cb,cc,be,cd,bf,ce,cf,_,_,_⟩;revert c7;refine Wo<|Wq<|Wq ?_
 obtain ⟨ch,am,an⟩:=bdS<|un5S bh;refine Wt (fun a w=>∃(ai:Bool),ai=ch/\Sat 32 [(4,pt wl.z),(7,pt O),(8,vI xc),(9,vI xd),(26,vB ai)] a/\Below ws.z ws w) ?_ ?_
 ·refine Wg<|Rm z<|Rq z z z<|Rm z ?_
  rcases bs (xd==0) with H | H
  ·exact Rh z H (mv z)<|Rh z H (mv z)<|Rh z H (lnR l_ z<|Y.g<|((h2.ag B).e h1).e sk)<|Rh z H (lss z z)<|R z (pT z H z)<|Wl (fun _ q=>⟨decide<|xc<(x2.length:Int),som<|ifT am H,q.k<|s5 z z z z z,br ws⟩)
  iterate 4 refine Nh z H ?_
  exact R z (pF z H z)<|Wl (fun _ q=>⟨false,som<|ifF am H,q.k<|s5 z z z z z,br ws⟩)
 rintro ci _ ⟨ai,rfl,_,sa⟩;revert ci;refine Wo<|Wc z (fun a0=>?_) (fun a0=>?_)
 ·refine Ws<|R z (bP (parts:=[]) (cs:=[vI 0,sl none 0 0,sl none 0 0]) U_ z z)<|Rm z<|E0 (fs0 (cur':=[vI 0,sl none 0 0,sl none 0 0]) i_ z z ((hn.e sk).e sa) z z z z) ?_
  rintro _ _ ⟨ck,cl⟩;refine Ra z<|Rw z ?_
  obtain rfl:=som<|ifT an a0;exact Wr<|A_ hr (o_ z_ i_ z ck z) z z ⟨bM (bup (bup (bup h2 h1) sk) sa) cl.one<|m1 h2.s,none,0,0,[],none,0,0,[],z,ii z,onL,onL,bf,ii z,nd0,al0⟩
 refine Wk<|Ws<|R z (lN (vs:=[vI xb,sl ae nf cg,sl ah ni cj]) z_ i_ z z fid<|(cf.e sa).row 0 3 z)<|RM z z<|E0 (fs0 (cur':=[vI xb,sl ae nf cg,sl ah ni cj]) i_ z z ((hn.e sk).e sa) z z z z) ?_
 rintro _ _ ⟨cm,cn⟩;have aj:=cn.one;refine Ra z<|Rw z ?_
 obtain rfl:=som<|ifF an a0;have bg:=lt_ h2.s h1.s;exact Wr<|A_ hr (o_ z_ i_ z cm z) z z ⟨bM (bup (bup (bup h2 h1) sk) sa) aj<|m1 h2.s,ae,nf,cg,J,ah,ni,cj,L,z,c8,(c9.e sa).c aj<|p_ bc hn.lt lr,(cb.e sa).c aj<|p_ be hn.lt lr,bf,ce,na_ ca cc<|ds cd,aa_ (k_ bc bg)<|k_ be bg⟩
def Q11 (w0:World)(B:Zone)(r:Int×Int)(v:Value)(w':World):Prop:=Bw w0 w'/\un2 (fun h G=>v = .tuple #[vI h,vI G]/\inI h/\inI G) r
theorem W_w15 {x1:g_}{x2:List UInt8}{res:Int×Int}(hm:c_H n x1 x2=some res)(I:B<=w0.z)(G:repS w0 B (sl A0 N0 C0) x1.rules)(H:repS w0 B (sl A6 N6 C6) x2):j_ prog 15 [(.agg #[sl A0 N0 C0]),sl A6 N6 C6] w0 (Q11 w0 B res):=by
 unfold c_H at hm
 refine goG func15 z z z fun fn hr=>Ws<|E z (fb z) ?_
 rintro _ L ⟨rfl,h1⟩;have h:=h1.below;refine Ra z<|Rw z<|Ws<|R z (lN (vs:=[sl A0 N0 C0]) D_ C_ z z fid<|(h1.blk:Blk L w0.z [sl A0 N0 C0]).row 0 1 z)<|Rm z ?_
 obtain ⟨O,_,_,V,J⟩:=L_ hm;refine E z (fc call26 z<|W_w14 V (zt' I h.s) (G.e h)<|H.e h) ?_;rintro _ W ⟨s2,aa,nb,cc,_,ad,ne,cf,_,rfl,_,_,_,hg,hh,_,_⟩;refine Rm z ?_
 iterate 3 refine Re z z z ?_
 refine E z (fa a_a) ?_;rintro _ wi ⟨rfl,h3⟩;refine E0 (fs0 (cur':=[vI O.number,sl aa nb cc,sl ad ne cf]) i_ z z (h3.blk:Blk wi W.z [vI 0,sl none 0 0,sl none 0 0]) z z z z) ?_;rintro _ _ ⟨_,sk⟩;refine Ra z<|Rw z<|Wm z<|Rm z<|Ra z<|Rw z ?_
 obtain rfl:=som J;exact Wr<|a_o hr z z ⟨bM (bup (bup h s2) h3.below) sk.one<|m1<|lt_ h.s s2.s,z,hg,hh⟩
def Q12 (w0:World)(B:Zone)(r:UInt8)(v:Value)(w':World):Prop:=Bw w0 w'/\(fun h=>(vU<|byteI h)=v) r
theorem W_w2a {x1:g_}{x2:List UInt8}{x3:Int}{res:UInt8}(hm:e_e n x1 x2 x3=some res)(I:B<=w0.z)(O:repS w0 B (sl A0 N0 C0) x1.rules)(L:repS w0 B (sl A6 N6 C6) x2)(an:inI x3):j_ prog 16 [(.agg #[sl A0 N0 C0]),sl A6 N6 C6,vI x3] w0 (Q12 w0 B res):=by
 unfold e_e at hm
 refine goG func16 z z z fun fn hr=>Ws<|E z (fb z) ?_
 rintro _ G ⟨rfl,hf⟩;have h4:=hf.below;have J:Blk G w0.z [sl A0 N0 C0]:=hf.blk;refine Rw z<|Wq<|Ws<|Rw z ?_
 obtain ⟨_,huw,hmg⟩:=bdS hm;refine Wf (σ:=Unit) (ρ:=UInt8) (fun (ka:Nat)(_:Unit) a w=>Sat 42 [(1,sl A6 N6 C6),(2,vI x3),(3,pt w0.z),(7,vI ((ka:Nat):Int))] a/\Below G.z G w) (fun (_:Unit) a w=>Sat 42 [(1,sl A6 N6 C6),(2,vI x3)] a/\Below G.z G w) (rQ prog fn<|Q12 w0 B) huw ?_ ?_ ?_ ?_ ?_
 ·exact fun _ q=>⟨q.k<|s4 z z z z,br G⟩
 ·rintro ka _ _ wx _ hkh ⟨hSy,s1⟩ hmz;refine Wu ?_ hSy;refine Wq<|Wm z<|Rl z z z<|Wx z (fun _=>?_) (fun hc=>(e_V hkh hc).elim)
  refine Wk<|Wq<|Wb<|Ws<|E z (f0 (α:=UInt8) a_C) ?_
  rintro _ _ ⟨_,_,_,rfl,s3,a5⟩;refine Rm z ?_;obtain ⟨_,a6,V⟩:=bdS hmz;have hi:=((h4.ag B).e s1).e s3;refine E z (fN (α:=UInt8) a_C a6 z z a5 a_X<|L.g hi) ?_;rintro _ _ ⟨Sj,_,_,_,rfl,s6,hk,a7,h5⟩;refine Rw z<|Wm z<|RM z z<|R z (e_6 d_3 d_5 z) ?_
  obtain ⟨_,el,W⟩:=bdS V;refine RX z (b_P (α:=UInt8) l_ z_5 z z hk el) ?_;rintro _ ⟨_,a8,rfl⟩;refine E0 (b_Q (α:=UInt8) z_5 z a8 z z z el hk a7 c_d an_ a_f) ?_;rintro _ a9 ⟨_,s7,aa,_,_⟩;refine Wn<|Ws ?_
  have hn:=mm1 J.lt s1.s;have ho:=lt_ s1.s s3.s;refine R z (lN (vs:=[sl A0 N0 C0]) D_ C_ z z fid<|((((J.e s1).e s3).c s6<|djs hn).c s7<|djs (or1 h5 hn (a_x (f_ J.lt) ho):∀k∈Sj,k∉[w0.z])).row 0 1 z)<|Rm z ?_
  have hb:=lt_ h4.s s1.s;have hp:∀k∈[wx.z],¬B k:=or0 (f_ lr)<|m_<|zt' I hb;have hd:=lt_ hb s3.s;obtain ⟨ab,ad,ae,Y⟩:=W_ W;refine E z (fc call15 z<|W_w15 (B:=a9.z) ae zr (repS.mono (O.g<|(hi.c s6<|c_ hp).c s7<|c_ (or1 h5 hp (m_<|zt' I hd):∀k∈Sj,¬B k))<|zt' I<|lt_ (lt_ hd s6.s) s7.s)<|b_.rep aa) ?_;rintro _ H ⟨sm,rfl,_,_⟩;refine Rm z<|Re z z z<|Re z z z<|Ra z<|Rw z<|Wq ?_
  obtain ⟨af,huq,hmr⟩:=bdS Y;refine Wt (fun a w=>∃(xc:Bool),xc=af/\Sat 42 [(1,sl A6 N6 C6),(2,vI x3),(3,pt w0.z),(7,vI ((ka:Nat):Int)),(35,vB xc)] a/\Below H.z H w) ?_ ?_
  ·refine Wg<|RM z z<|R z (nq z z)<|Rm z ?_
   rcases bs (ab != x3) with h | h
   ·exact Nh z h<|Nh z h<|R z (pT z h z)<|Wl (fun _ q=>⟨true,som<|ifT huq h,q.k<|s5 z z z z z,br H⟩)
   exact Rh z h (mv z)<|Rh z h (nq z z)<|R z (pF z h z)<|Wl (fun _ q=>⟨ad != 5,som<|ifF huq h,q.k<|s5 z z z z z,br H⟩)
  rintro ah _ ⟨xc,rfl,_,ss⟩;revert ah;refine Wo<|Wc z (fun hce=>?_) (fun hce=>?_)
  ·refine Wm z<|R z (e_6 d_3 d_5 z)<|Rw z ?_
   have ht:=m1 hb;exact Wr<|rtO<|qL (som<|ifT hmr hce).symm<|e_ hr z ⟨bup (bup (bM (bM (bup (bup h4 s1) s3) s6 ht) s7<|a_Q h5 ht hd) sm) ss,z⟩
  refine Wk<|Wg<|Rm z<|R z (inc_ hkh (tl_<|ii z) z z)<|Ra z<|Wl ?_
  have hu:=m1 s1.s;exact fun _ q=>⟨(),(som<|ifF hmr hce).symm,⟨q.k<|s4 z z z z,bup (bup (bM (bM (bup s1 s3) s6 hu) s7<|a_Q h5 hu ho) sm) ss⟩⟩
 ·rintro _ _ _ ⟨a0,ai⟩;refine Wu ?_ a0;refine Wq<|Wm z<|Rl z z z<|Wx z (fun hc=>(e_W hc).elim) (fun _=>?_)
  exact We<|fun _ q=>⟨rfl,⟨q.k<|s2 z z,ai⟩⟩
 ·rintro _ aj _ rfl ⟨_,sv⟩;have a1:=elL hmg;revert aj;refine Wo<|Wm z<|Rm z ?_
  obtain ⟨_,ak,a2⟩:=bdS a1;refine RX z (at_ (α:=UInt8) l_ z_5 z z z (L.g<|(h4.ag B).e sv) ak) ?_;rintro _ ⟨_,_,_,rfl,al,am,_⟩;obtain rfl:=u8 am;refine R z (l0 g_5 z<|al.at0 z)<|Rw z ?_
  obtain rfl:=som a2;exact Wr<|e_ hr z ⟨bup h4 sv,z⟩
 rintro _ _ _ _ rfl ⟨rfl,a3⟩;have a4:=elR hmg;obtain rfl:=som a4;exact ⟨a3,z⟩
theorem W_w2b {x1:g_}{x2:List UInt8}{res:Bool}(hm:e_A n x1 x2=some res)(I:B<=w0.z)(G:repS w0 B (sl A0 N0 C0) x1.rules)(H:repS w0 B (sl A6 N6 C6) x2):j_ prog 17 [(.agg #[sl A0 N0 C0]),sl A6 N6 C6] w0 (Q7 w0 B res):=by
 unfold e_A at hm
 refine goG func17 z z z fun fn hr=>Ws<|E z (fb z) ?_
 rintro _ L ⟨rfl,h1⟩;have h:=h1.below;refine Rw z<|Ws<|R z (lN (vs:=[sl A0 N0 C0]) D_ C_ z z fid<|(h1.blk:Blk L w0.z [sl A0 N0 C0]).row 0 1 z)<|Rm z ?_
 obtain ⟨O,_,_,V,J⟩:=L_ hm;refine E z (fc call26 z<|W_w14 V (zt' I h.s) (G.e h)<|H.e h) ?_;rintro _ W ⟨s2,aa,nb,cc,_,ad,ne,cf,_,rfl,_,_,_,_,_,_,_⟩;refine Rm z ?_
 iterate 3 refine Re z z z ?_
 refine E z (fa a_a) ?_;rintro _ wg ⟨rfl,h3⟩;refine E0 (fs0 (cur':=[vI O.number,sl aa nb cc,sl ad ne cf]) i_ z z (h3.blk:Blk wg W.z [vI 0,sl none 0 0,sl none 0 0]) z z z z) ?_;rintro _ _ ⟨_,si⟩;refine Ra z<|Rw z<|Wm z<|Rq z z z<|Rw z ?_
 obtain rfl:=som J;exact Wr<|e_ hr z ⟨bM (bup (bup h s2) h3.below) si.one<|m1<|lt_ h.s s2.s,z⟩
def Q13 (w0:World)(B:Zone)(r:(List UInt8)×Bool)(v:Value)(w':World):Prop:=Bw w0 w'/\un2 (fun H I=>∃a1 h G S1,v = .tuple #[sl a1 h G,vB I]/\b_ w' S1 (sl a1 h G) H/\S1.Nodup/\(∀k∈S1,w0.z<=k)) r
theorem W_w2c {x1:g_}{x2:List UInt8}{res:(List UInt8)×Bool}(hm:e_f n x1 x2=some res)(H:B<=w0.z)(L:repS w0 B (sl A0 N0 C0) x1.rules)(O:repS w0 B (sl A6 N6 C6) x2):j_ prog 5 [(.agg #[sl A0 N0 C0]),sl A6 N6 C6] w0 (Q13 w0 B res):=by
 unfold e_f at hm
 refine goG func5 z z z fun fn hr=>Ws<|E z (fb z) ?_
 rintro _ wl ⟨rfl,ht⟩;have h3:=ht.below;have I:Blk wl w0.z [sl A0 N0 C0]:=ht.blk;refine Ra z<|Rw z<|Ws<|E z (f0 (α:=UInt8) a_C) ?_
 rintro _ _ ⟨_,_,_,rfl,s5,av⟩;refine Rm z ?_;obtain ⟨_,aw,ai⟩:=bdS hm;have hn:=(h3.ag B).e s5;refine E z (fN (α:=UInt8) a_C aw z z av a_X<|O.g hn) ?_;rintro _ G ⟨h,ac,nf,cg,rfl,s6,ax,ay,J⟩;refine Rw z<|Wq<|Ws<|Rw z ?_
 obtain ⟨_,aj,hmr⟩:=bdS ai;refine Wf (σ:=List UInt8) (ρ:=(List UInt8)×Bool) (fun (ks:Nat)(xa:List UInt8) a w=>∃(S2:List Nat),Sat 40 [(1,sl A6 N6 C6),(2,pt w0.z),(6,sl ac nf cg),(7,vI ((ks:Nat):Int))] a/\Chg (· ∈ h) G w/\b_ w S2 (sl ac nf cg) xa/\S2.Nodup/\(∀k∈S2,k∈h∨G.z<=k)) (fun (xa:List UInt8) a w=>∃(S2:List Nat),Sat 40 [(1,sl A6 N6 C6),(2,pt w0.z),(6,sl ac nf cg)] a/\Chg (· ∈ h) G w/\b_ w S2 (sl ac nf cg) xa/\S2.Nodup/\(∀k∈S2,k∈h∨G.z<=k)) (rQ prog fn<|Q13 w0 B) aj ?_ ?_ ?_ ?_ ?_
 ·exact fun _ q=>⟨h,q.k<|s4 z z z z,cr h G,ax,ay,io sr⟩
 ·rintro ks xa _ wj _ hku ⟨S2,ak,sb,h4,hd,he⟩ al;refine Wu ?_ ak;refine Wq<|Wm z<|Rl z z z<|Wx z (fun _=>?_) (fun hc=>(e_V hku hc).elim)
  refine Wk<|Wq<|Wb<|Ws ?_
  have hv:=mmr I.lt;have hw:=((I.e s5).c s6<|djs hv).c sb<|djs (or1 J hv (a_x (f_ I.lt) s5.s):∀k∈h,k∉[w0.z])
  refine R z (lN (vs:=[sl A0 N0 C0]) D_ C_ z z fid<|hw.row 0 1 z)<|Rm z ?_
  have hx:∀k∈[wl.z],¬B k:=or0 (f_ lr)<|m_<|zt' H h3.s;have hy:=lt_ h3.s s5.s;have hz:=(hn.c s6<|c_ hx).c sb<|c_ (or1 J hx (m_<|zt' H hy):∀k∈h,¬B k)
  have Y:=zt' H<|lt_ (lt_ hy s6.s) sb.s
  obtain ⟨_,_,az,V⟩:=W_ al;refine E z (fc call15 z<|W_w15 (B:=wj.z) az zr (repS.mono (L.g hz) Y)<|b_.rep h4) ?_;rintro _ a0 ⟨s7,rfl,aA,_⟩;refine Rm z<|Re z z z<|Re z z z<|Ra z<|Rw z<|Wq<|Wm z<|R z (nq z z)<|Wx z (fun hcm=>?_) (fun hcm=>?_)
  ·have aB:∀k∈S2,k∈h∨G.z<=k:=or1 he (io sr)<|x_ lr;exact We<|exO z (fun _ q=>b_u (som<|ifT V hcm).symm ⟨S2,q.k<|s3 z z z,(d_ (cM (cr h G) sb (io sr):Chg (· ∈ h) G wj) s7:Chg (· ∈ h) G a0),h4.e s7,hd,aB⟩)
  refine Wk<|Wg<|RM z z<|R z (lN (vs:=[sl A0 N0 C0]) D_ C_ z z fid<|(hw.e s7).row 0 1 z)<|RM z z ?_
  have a1:=h4.e s7;obtain ⟨_,aC,am⟩:=bdS<|ifF V hcm;refine E z (fc call16 z<|W_w2a (B:=wj.z) aC (a_E s7.s) (repS.mono (L.g<|hz.e s7) Y) (or_ a1<|b_.lt h4) aA) ?_;rintro _ aD ⟨so,rfl⟩;obtain ⟨aE,a2,an⟩:=bdS am;have a3:=a1.e so;refine RX z (b_P (α:=UInt8) l_ z_5 z z a3 a2) ?_;rintro _ ⟨_,aF,rfl⟩;refine E0 (b_Q (α:=UInt8) z_5 z aF z z z a2 a3 hd c_d an_ a_f) ?_;rintro _ aG ⟨a4,aH,aI,aJ,aK⟩;refine Wn<|Wg<|Rm z<|R z (inc_ hku (tl_<|ii z) z z)<|Ra z<|Wl ?_
  have a5:∀k∈S2,k∈h∨G.z<=k:=or1 he (io sr)<|x_ lr;exact fun _ q=>⟨aE,(som an).symm,⟨a4,q.k<|s4 z z z z,(cM (d_ (d_ (cM (cr h G) sb (io sr):Chg (· ∈ h) G wj) s7:Chg (· ∈ h) G a0) so:Chg (· ∈ h) G aD) aH a5:Chg (· ∈ h) G aG),aI,aJ,(or2 aK a5 an_ (x_<|lt_ (lt_ sb.s s7.s) so.s):∀k∈a4,k∈h∨G.z<=k)⟩⟩
 ·rintro xa _ aL ⟨S2,ao,aM,h4,hd,he⟩;refine Wu ?_ ao;refine Wq<|Wm z<|Rl z z z<|Wx z (fun hc=>(e_W hc).elim) (fun _=>?_)
  exact We<|fun _ q=>⟨rfl,⟨S2,q.k<|s3 z z z,(cM (cr h G) aM (io sr):Chg (· ∈ h) G aL),h4,hd,(or1 he (io sr) (x_ lr):∀k∈S2,k∈h∨G.z<=k)⟩⟩
 ·rintro xa aN aO rfl ⟨S2,_,sh,h4,hd,he⟩;have ap:=elL hmr;revert aN;refine Wo<|Wq<|Ws ?_
  have a6:=mmr I.lt;refine R z (lN (vs:=[sl A0 N0 C0]) D_ C_ z z fid<|(((I.e s5).c s6<|djs a6).c sh<|djs (or1 J a6 (a_x (f_ I.lt) s5.s):∀k∈h,k∉[w0.z])).row 0 1 z)<|Rm z ?_
  have a7:∀k∈[wl.z],¬B k:=or0 (f_ lr)<|m_<|zt' H h3.s;have hk:=lt_ h3.s s5.s;have a8:=(hn.c s6<|c_ a7).c sh<|c_ (or1 J a7 (m_<|zt' H hk):∀k∈h,¬B k)
  have a9:=lt_ hk s6.s;have aa:=lt_ a9 sh.s;obtain ⟨_,aP,W⟩:=bdS ap;refine E z (fc call17 z<|W_w2b (B:=aO.z) aP zr (repS.mono (L.g a8)<|zt' H aa)<|b_.rep h4) ?_;rintro _ _ ⟨si,rfl⟩;refine R z (not_ z)<|Wx z (fun hcp=>?_) (fun hcp=>?_)
  ·refine Ws<|E z (f0 (α:=UInt8) a_C) ?_
   rintro _ _ ⟨_,_,_,rfl,sq,aQ⟩;refine Rm z ?_;obtain ⟨_,aR,aq⟩:=bdS<|ifT W hcp;refine E z (fN (α:=UInt8) a_C aR z z aQ a_X<|O.g<|(a8.e si).e sq) ?_;rintro _ _ ⟨aS,aT,aU,aV,rfl,aW,aX,aY,aZ⟩;refine Ra z<|Rw z ?_
   obtain rfl:=som aq;have ab:=m1 h3.s;have ad:=lt_ aa si.s;have ae:=m1 ad;exact Wr<|a_o hr z z ⟨bM (bup (bup (bM (bM (bup h3 s5) s6 ab) sh<|a_Q J ab hk) si) sq) aW ae,aT,aU,aV,aS,z,aX,aY,a_Q aZ ae<|lt_ ad sq.s⟩
  refine Wk<|Wm z<|Ra z<|Rw z ?_
  obtain rfl:=som<|ifF W hcp;have af:=m1 h3.s;have ah:=a_Q J af hk;exact Wr<|a_o hr z z ⟨bup (bM (bM (bup h3 s5) s6 af) sh ah) si,ac,nf,cg,S2,z,h4.e si,hd,a_Q he ah a9⟩
 rintro _ _ _ _ rfl ⟨rfl,ar⟩;have au:=elR hmr;obtain rfl:=som au;exact ⟨ar,z⟩
theorem e_c {x1:g_}{res:Int}(hm:c_P x1=some res)(I:B<=w0.z)(G:repS w0 B (sl A0 N0 C0) x1.rules):j_ prog 29 [(.agg #[sl A0 N0 C0])] w0 (Q0 w0 B res):=by
 unfold c_P at hm
 refine goG func29 z z z fun fn hr=>Ws<|E z (fb z) ?_
 rintro _ H ⟨rfl,h⟩;have h1:=h.below;refine Rw z<|Ws<|Rf z a_9 z<|R z (l0 a_c z<|(h.blk:Blk H w0.z [sl A0 N0 C0]).at z)<|R z (lnR Q_ z<|G.e h1)<|R z (sb_ z z)<|Rw z ?_
 obtain rfl:=som hm;exact Wr<|e_ hr z ⟨h1,z,iS _ _⟩
theorem d_6 {x1:Int}{x2:Int}{x3:Int}{res:Bool}(hm:b_M x1 x2 x3=some res)(W:B<=w0.z)(L:inI x1)(O:inI x2)(V:inI x3):j_ prog 112 [vI x1,vI x2,vI x3] w0 (Q7 w0 B res):=by
 unfold b_M at hm
 refine goG func112 z z z fun fn hr=>Ws<|Rw z<|Wq ?_
 obtain ⟨I,G,H⟩:=bdS hm;refine Wt (fun a w=>∃(x4:Bool),x4=I/\Sat 15 [(6,vB x4)] a/\Below w0.z w0 w) ?_ ?_
 ·refine Wg<|RM z z<|R z (c_J z z)<|Rm z ?_
  rcases bs (decide<|x2<=x1) with h | h
  ·exact Rh z h (mv z)<|Rh z h (mv z)<|Rh z h (c_J z z)<|R z (pT z h z)<|Ra z<|Wl (fun _ q=>⟨decide<|x1<=x3,som<|ifT G h,q.k<|s1 z,br w0⟩)
  iterate 3 refine Nh z h ?_
  exact R z (pF z h z)<|Ra z<|Wl (fun _ q=>⟨false,som<|ifF G h,q.k<|s1 z,br w0⟩)
 rintro J _ ⟨x4,rfl,_,s6⟩;revert J;refine Wo ?_;obtain rfl:=som H;exact Wr<|e_ hr z ⟨s6,z⟩
theorem i_r {x1:g_}{x2:Int}{res:Bool}(hm:d_r x1 x2=some res)(W:B<=w0.z)(I:repS w0 B (sl A0 N0 C0) x1.rules)(V:inI x2):j_ prog 83 [(.agg #[sl A0 N0 C0]),vI x2] w0 (Q7 w0 B res):=by
 unfold d_r at hm
 refine goG func83 z z z fun fn hr=>Ws<|E z (fb z) ?_
 rintro _ G ⟨rfl,h2⟩;have h4:=h2.below;refine Rw z<|Wq ?_
 obtain ⟨L,H,J⟩:=bdS hm;refine Wt (fun a w=>∃(x3:Bool),x3=L/\Sat 14 [(4,vB x3)] a/\Below G.z G w) ?_ ?_
 ·refine Wg<|Rm z<|R z (b_f z z)<|Rm z ?_
  rcases bs (decide<|0<=x2) with h | h
  ·exact Rh z h (mv z)<|Rh z h (fd a_9 z)<|Rh z h (l0 a_c z<|(h2.blk:Blk G w0.z [sl A0 N0 C0]).at z)<|Rh z h (lnR Q_ z<|I.e h4)<|Rh z h (lss z z)<|R z (pT z h z)<|Ra z<|Wl (fun _ q=>⟨decide<|x2<(x1.rules.length:Int),som<|ifT H h,q.k<|s1 z,br G⟩)
  iterate 5 refine Nh z h ?_
  exact R z (pF z h z)<|Ra z<|Wl (fun _ q=>⟨false,som<|ifF H h,q.k<|s1 z,br G⟩)
 rintro O _ ⟨x3,rfl,_,sa⟩;revert O;refine Wo ?_;obtain rfl:=som J;exact Wr<|e_ hr z ⟨bup h4 sa,z⟩
theorem i_s {x1:Str}{res:Bool}(hm:d_q n x1=some res)(ao:B<=w0.z)(an:x1.b.length<=LEN):j_ prog 65 [Str.v x1] w0 (Q7 w0 B res):=by
 unfold d_q at hm
 refine goG func65 z z z fun fn hr=>Ws<|Rw z<|Wq<|Wq ?_
 obtain ⟨a7,huo,hmp⟩:=bdS hm;refine Wt (fun a w=>∃(xg:Bool),xg=a7/\Sat 43 [(0,Str.v x1),(14,vB xg)] a/\Below w0.z w0 w) ?_ ?_
 ·refine Wg<|Rm z<|R z (lnT d_9 z)<|Rl z z z<|Rm z ?_
  rcases bs (decide<|(x1.b.length:Int)<1) with I | I
  ·iterate 3 refine Nh z I ?_
   exact R z (pT z I z)<|Wl (fun _ q=>⟨true,som<|ifT huo I,q.k<|s2 z z,br w0⟩)
  exact Rh z I (mv z)<|Rh z I (lnT d_9 z)<|Rh z I (a_b z z)<|R z (pF z I z)<|Wl (fun _ q=>⟨decide<|12<(x1.b.length:Int),som<|ifF huo I,q.k<|s2 z z,br w0⟩)
 rintro a8 h ⟨xg,rfl,_,s9⟩;revert a8;refine Wo<|Wc z (fun hch=>?_) (fun hch=>?_)
 ·refine Ws<|Rw z ?_
  obtain rfl:=som<|ifT hmp hch;exact Wr<|e_ hr z ⟨s9,z⟩
 refine Wk<|Wq<|Wm z<|E z (m_N d_9 z) ?_
 rintro _ H ⟨rfl,sq,a9⟩;refine Wn ?_;obtain ⟨_,a0,hmr⟩:=bdS<|ifF hmp hch;refine c_F (σ:=Nat) (ρ:=Bool) (fun (x0:Nat) a w=>Sat 43 [(16,pt h.z)] a/\Chg (· ∈ [h.z]) H w/\a_Y w h.z x1 x0) (fun (x0:Nat) a w=>Sat 43 [] a/\Chg (· ∈ [h.z]) H w/\a_Y w h.z x1 x0) (rQ prog fn<|Q7 w0 B) a0 ?_ ?_ ?_ ?_
 ·exact fun _ q=>⟨q.k<|s1 z,cr [h.z] H,a9⟩
 ·rintro x0 _ ws _ ⟨a1,si,he⟩ hmt;refine Wu ?_ a1;refine Ws ?_
  rcases bs (decide<|x0<x1.b.length) with hca | hca
  ·refine E z (m_O z he<|of_decide_eq_true hca) ?_;rintro _ wb ⟨rfl,aa,su⟩;refine Re z z z<|Wn<|Wq<|Wc z (fun _=>?_) (fun hc=>(bcon z hc).elim)
   refine Wk<|Wb<|Ws<|Re z z z<|Re z z z<|Ra z<|Rw z<|Wq ?_
   obtain ⟨ab,huv,a2⟩:=bdS<|ifT hmt hca;refine Wt (fun a w=>∃(xc:Bool),xc=ab/\Sat 43 [(3,vI (x0:Int)),(4,.int .i32<|(dec x1 x0).1),(5,vB xc),(16,pt h.z)] a/\Below wb.z wb w) ?_ ?_
   ·refine Wg<|Rm z<|R z (b_f z z)<|Rm z ?_
    rcases bs (decide<|97<=((dec x1 x0).1)) with J | J
    ·exact Rh z J (mv z)<|Rh z J (c_J z z)<|R z (pT z J z)<|Ra z<|Wl (fun _ q=>⟨decide<|((dec x1 x0).1)<=122,som<|ifT huv J,q.k<|s4 z z z z,br wb⟩)
    exact Nh z J<|Nh z J<|R z (pF z J z)<|Ra z<|Wl (fun _ q=>⟨false,som<|ifF huv J,q.k<|s4 z z z z,br wb⟩)
   rintro ad wd ⟨xc,rfl,_,sj⟩;revert ad;refine Wo<|Wq ?_
   obtain ⟨ae,huw,a3⟩:=bdS a2;refine Wt (fun a w=>∃(xf:Bool),xf=ae/\Sat 43 [(3,vI (x0:Int)),(5,vB xc),(6,vB xf),(16,pt h.z)] a/\Below wd.z wd w) ?_ ?_
   ·refine Wg<|Rm z<|R z (b_f z z)<|Rm z ?_
    rcases bs (decide<|48<=((dec x1 x0).1)) with L | L
    ·exact Rh z L (mv z)<|Rh z L (c_J z z)<|R z (pT z L z)<|Ra z<|Wl (fun _ q=>⟨decide<|((dec x1 x0).1)<=57,som<|ifT huw L,q.k<|s4 z z z z,br wd⟩)
    exact Nh z L<|Nh z L<|R z (pF z L z)<|Ra z<|Wl (fun _ q=>⟨false,som<|ifF huw L,q.k<|s4 z z z z,br wd⟩)
   rintro af V ⟨xf,rfl,_,sk⟩;revert af;refine Wo<|Wq ?_
   obtain ⟨ah,hux,hmy⟩:=bdS a3;refine Wt (fun a w=>∃(xl:Bool),xl=ah/\Sat 43 [(16,pt h.z),(42,vB xl)] a/\Below V.z V w) ?_ ?_
   ·refine Wg<|Rm z<|R z (not_ z)<|Rm z ?_
    rcases bs (!xc) with G | G
    ·have hmz:=ifT hux G;refine Rh z G (mv z)<|Rh z G (not_ z)<|Rh z G (mv z) ?_
     rcases bs (!xf) with O | O
     ·exact Nh z O<|Nh z O<|Rh z G (pT z O z)<|R z (pT z G z)<|Wl (fun _ q=>⟨true,som<|ifT hmz O,q.k<|s2 z z,br V⟩)
     exact Rh z O (mv z)<|Rh z O (eql z z)<|Rh z G (pF z O z)<|R z (pT z G z)<|Wl (fun _ q=>⟨(x0:Int)==0,som<|ifF hmz O,q.k<|s2 z z,br V⟩)
    iterate 3 refine Nh z G ?_
    exact Nv z<|Nv z<|Nh z G<|R z (pF z G z)<|Wl (fun _ q=>⟨false,som<|ifF hux G,q.k<|s2 z z,br V⟩)
   rintro ai aj ⟨xl,rfl,_,sm⟩;revert ai;refine Wo<|Wc z (fun hcn=>?_) (fun hcn=>?_)
   ·refine Ws<|Rw z ?_
    have W:=m1 s9.s;exact Wr<|rtO<|qL (som<|ifT hmy hcn).symm<|e_ hr z ⟨bup (bup (bup (bM (bM (bup s9 sq) si W) su W) sj) sk) sm,z⟩
   refine a_q ?_;exact fun _ q=>⟨x0+(dec x1 x0).2,(som<|ifF hmy hcn).symm,⟨q.k<|s1 z,(d_ (d_ (d_ (cM (cM (cr [h.z] H) si (io sr):Chg (· ∈ [h.z]) H ws) su (io sr):Chg (· ∈ [h.z]) H wb) sj:Chg (· ∈ [h.z]) H wd) sk:Chg (· ∈ [h.z]) H V) sm:Chg (· ∈ [h.z]) H aj),((aa.e sj).e sk).e sm⟩⟩
  refine E z (m_P z he<|of_decide_eq_false hca) ?_;rintro _ ak ⟨rfl,Y⟩;refine Re z z z<|Wn<|Wq<|Wc z (fun hc=>(bcon hc z).elim) (fun _=>?_)
  exact We<|fun _ q=>b_u (som<|ifF hmt hca).symm ⟨q.k sn,(d_ (cM (cr [h.z] H) si (io sr):Chg (· ∈ [h.z]) H ws) Y:Chg (· ∈ [h.z]) H ak),he.e Y⟩
 ·rintro x0 al _ rfl ⟨_,am,he⟩;have a4:=elL hmr;revert al;refine Wo<|Ws<|Rw z ?_
  obtain rfl:=som a4;exact Wr<|e_ hr z ⟨bM (bup s9 sq) am<|m1 s9.s,z⟩
 rintro _ _ _ _ rfl ⟨rfl,a5⟩;have a6:=elR hmr;obtain rfl:=som a6;exact ⟨a5,z⟩
theorem c_E {x1:a_}{x2:Bool}{x3:Bool}{x4:Bool}{x5:Bool}{x6:Int}{res:Bool}(hm:b_N x1 x2 x3 x4 x5 x6=some res)(a8:B<=w0.z)(a4:x1.name.b.length<=LEN)(a5:inI x1.kind)(a6:inI x1.size)(a0:repS w0 B (sl A9 N9 C9) x1.bytes)(a1:repS w0 B (sl A8 N8 C8) x1.names)(a2:repS w0 B (sl AA NA CA) x1.tags)(a3:repS w0 B (sl AB NB CB) x1.kids)(a7:inI x6):j_ prog 127 [(.agg #[Str.v x1.name,vI x1.kind,vI x1.size,vB x1.little,sl A9 N9 C9,sl A8 N8 C8,sl AA NA CA,sl AB NB CB]),vB x2,vB x3,vB x4,vB x5,vI x6] w0 (Q7 w0 B res):=by
 unfold b_N at hm
 refine goG func127 z z z fun fn hr=>Ws<|E z (fb z) ?_
 rintro _ Y ⟨rfl,hd⟩;have ha:=hd.below;have hb:Blk Y w0.z (vR x1 A9 N9 C9 A8 N8 C8 AA NA CA AB NB CB):=hd.blk;refine Rw z<|Wq ?_
 obtain ⟨ur,hus,hmt⟩:=bdS hm;refine Wt (fun a w=>∃(xc:Bool),xc=ur/\Sat 57 [(12,vB xc)] a/\Below Y.z Y w) ?_ ?_
 ·refine Wg<|RM z z ?_
  obtain ⟨ue,huf,hmu⟩:=bdS hus;refine c_u 18 ue 4 ?_ ?_
  ·rcases bs x2 with W | W
   ·iterate 3 refine Nh z W ?_
    exact R z (pT z W z)<|WLq 4 (ifT huf W) z z z
   exact Rh z W (fd a_z z)<|Rh z W (l0 g_3 z<|hb.at z)<|Rh z W (eql z z)<|R z (pF z W z)<|WLq 4 (ifF huf W) z z z
  refine Rm z ?_;obtain ⟨ug,huh,hmv⟩:=bdS hmu;refine c_u 27 ug 8 ?_ ?_
  ·rcases bs ue with h | h
   ·have hmi:=ifT huh h;refine Rh z h (mv z)<|Rh z h (mv z) ?_
    rcases bs x3 with L | L
    ·iterate 4 refine Nh z L ?_
     exact Rh z h (pT z L z)<|R z (pT z h z)<|WLq 8 (ifT hmi L) z z z
    exact Rh z L (fd a_I z)<|Rh z L (l0 T_ z<|hb.at z)<|Rh z L (lnR l_ z<|a0.e ha)<|Rh z L (eql z z)<|Rh z h (pF z L z)<|R z (pT z h z)<|WLq 8 (ifF hmi L) z z z
   exact Nh z h<|Nh z h<|Nv z<|Nv z<|Nv z<|Nv z<|Nh z h<|R z (pF z h z)<|WLq 8 (ifF huh h) z z z
  refine Rm z ?_;obtain ⟨uj,huk,hmw⟩:=bdS hmv;refine c_u 36 uj 8 ?_ ?_
  ·rcases bs ug with G | G
   ·have hml:=ifT huk G;refine Rh z G (mv z)<|Rh z G (mv z) ?_
    rcases bs x4 with O | O
    ·iterate 4 refine Nh z O ?_
     exact Rh z G (pT z O z)<|R z (pT z G z)<|WLq 8 (ifT hml O) z z z
    exact Rh z O (fd b_m z)<|Rh z O (l0 a_B z<|hb.at z)<|Rh z O (lnR a_0 z<|a1.e ha)<|Rh z O (eql z z)<|Rh z G (pF z O z)<|R z (pT z G z)<|WLq 8 (ifF hml O) z z z
   exact Nh z G<|Nh z G<|Nv z<|Nv z<|Nv z<|Nv z<|Nh z G<|R z (pF z G z)<|WLq 8 (ifF huk G) z z z
  refine Rm z ?_;obtain ⟨um,hun,hmo⟩:=bdS hmw;refine c_u 45 um 8 ?_ ?_
  ·rcases bs uj with H | H
   ·have hmp:=ifT hun H;refine Rh z H (mv z)<|Rh z H (mv z) ?_
    rcases bs x5 with V | V
    ·iterate 4 refine Nh z V ?_
     exact Rh z H (pT z V z)<|R z (pT z H z)<|WLq 8 (ifT hmp V) z z z
    exact Rh z V (fd a_D z)<|Rh z V (l0 w_ z<|hb.at z)<|Rh z V (lnR r_ z<|a2.e ha)<|Rh z V (eql z z)<|Rh z H (pF z V z)<|R z (pT z H z)<|WLq 8 (ifF hmp V) z z z
   exact Nh z H<|Nh z H<|Nv z<|Nv z<|Nv z<|Nv z<|Nh z H<|R z (pF z H z)<|WLq 8 (ifF hun H) z z z
  refine Rm z ?_
  rcases bs um with I | I
  ·have hmq:=ifT hmo I;refine Rh z I (mv z)<|Rh z I (lss z z)<|Rh z I (mv z) ?_
   rcases bs (decide<|x6<0) with J | J
   ·iterate 5 refine Nh z J ?_
    exact Rh z I (pT z J z)<|R z (pT z I z)<|Ra z<|Wl (fun _ q=>⟨true,som<|ifT hmq J,q.k<|s1 z,br Y⟩)
   exact Rh z J (fd M_ z)<|Rh z J (l0 w_ z<|hb.at z)<|Rh z J (lnR r_ z<|a3.e ha)<|Rh z J (mv z)<|Rh z J (eql z z)<|Rh z I (pF z J z)<|R z (pT z I z)<|Ra z<|Wl (fun _ q=>⟨(x1.kids.length:Int)==x6,som<|ifF hmq J,q.k<|s1 z,br Y⟩)
  iterate 3 refine Nh z I ?_
  exact Nv z<|Nv z<|Nv z<|Nv z<|Nv z<|Nh z I<|R z (pF z I z)<|Ra z<|Wl (fun _ q=>⟨false,som<|ifF hmo I,q.k<|s1 z,br Y⟩)
 rintro ax _ ⟨xc,rfl,_,sy⟩;revert ax;refine Wo ?_;obtain rfl:=som hmt;exact Wr<|e_ hr z ⟨bup ha sy,z⟩
theorem i_t {x1:g_}{x2:Int}{res:Int}(hm:d_W x1 x2=some res)(O:B<=w0.z)(H:repS w0 B (sl A0 N0 C0) x1.rules)(W:inI x2):j_ prog 128 [(.agg #[sl A0 N0 C0]),vI x2] w0 (Q0 w0 B res):=by
 unfold d_W at hm
 refine goG func128 z z z fun fn hr=>Ws<|E z (fb z) ?_
 rintro _ J ⟨rfl,V⟩;have h2:=V.below;have h6:Blk J w0.z [sl A0 N0 C0]:=V.blk;refine Rw z<|Wq<|Wq ?_
 obtain ⟨uf,hug,hma⟩:=bdS hm;refine Wt (fun a w=>∃(L:Bool),L=uf/\Sat 37 [(1,vI x2),(2,pt w0.z),(27,vB L)] a/\Below J.z J w) ?_ ?_
 ·refine Wg<|R z (lN (vs:=[sl A0 N0 C0]) D_ C_ z z fid<|h6.row 0 1 z)<|Rm z ?_
  obtain ⟨rh,ei,hmb⟩:=bdS hug;refine E z (fc call83 z<|i_r ei (zt' O h2.s) (H.e h2) W) ?_;rintro _ _ ⟨s4,rfl⟩;refine R z (not_ z)<|Rm z ?_
  rcases bs (!rh) with G | G
  ·iterate 7 refine Nh z G ?_
   exact R z (pT z G z)<|Rm z<|Nh z z<|Nh z z<|Nh z z<|Nh z z<|Nh z z<|Nh z z<|Nh z z<|Nh z z<|R z (pT z z z)<|Wl (fun _ q=>⟨true,som<|ifT hmb G,q.k<|s3 z z z,s4⟩)
  refine Rh z G (fd a_9 z) ?_;have hc:=h6.e s4;refine Rh z G (l0 a_c z<|hc.at z)<|Rh z G (mv z) ?_
  obtain ⟨xj,ek,hmd⟩:=bdS<|ifF hmb G;have he:=H.g<|(h2.ag B).e s4
  refine RXg z z G z (at_ (α:=a_) Q_ n_ z z z he ek) ?_;rintro _ ⟨_,_,_,rfl,hl,hn,_⟩;obtain ⟨_,_,_,_,_,_,_,_,_,_,_,_,rfl,_,_,_,_,_,_,_⟩:=a_y hn;refine Rh z G (fd a_s z)<|Rh z G (l0 g_3 z<|hl.at (j:=1) z)<|Rh z G (nq z z)<|R z (pF z G z)<|Rm z ?_
  rcases bs (xj.kind != 1) with h | h
  ·iterate 8 refine Nh z h ?_
   exact R z (pT z h z)<|Wl (fun _ q=>⟨true,som<|ifT hmd h,q.k<|s3 z z z,s4⟩)
  refine Rh z h (fd a_9 z)<|Rh z h (l0 a_c z<|hc.at z)<|Rh z h (mv z) ?_
  obtain ⟨_,em,hmo⟩:=bdS<|ifF hmd h;refine RXg z z h z (at_ (α:=a_) Q_ n_ z z z he em) ?_;rintro _ ⟨_,_,_,rfl,hp,hq,_⟩;obtain ⟨_,_,_,_,_,_,_,_,_,_,_,_,rfl,_,_,ht,_,_,_,_⟩:=a_y hq;refine Rh z h (fd a_z z)<|Rh z h (l0 g_3 z<|hp.at (j:=2) z) ?_
  obtain ⟨rr,es,hmu⟩:=bdS hmo;refine Eg z z h z (fc call112 z<|d_6 es (zt' O<|lt_ h2.s s4.s) ht (ii z)<|ii z) ?_;rintro _ _ ⟨sv,rfl⟩;exact Rh z h (not_ z)<|R z (pF z h z)<|Wl (fun _ q=>⟨!rr,som hmu,q.k<|s3 z z z,bup s4 sv⟩)
 rintro aw _ ⟨L,rfl,_,s5⟩;revert aw;refine Wo<|Wc z (fun I=>?_) (fun I=>?_)
 ·refine Ws<|Rw z ?_
  obtain rfl:=som<|ifT hma I;exact Wr<|e_ hr z ⟨bup h2 s5,z,ii z⟩
 refine Wk<|Ws<|Rf z a_9 z<|R z (l0 a_c z<|(h6.e s5).at z)<|Rm z ?_
 obtain ⟨_,ex,hmy⟩:=bdS<|ifF hma I;refine RX z (at_ (α:=a_) Q_ n_ z z z (H.g<|(h2.ag B).e s5) ex) ?_;rintro _ ⟨_,_,_,rfl,hz,a0,_⟩;obtain ⟨_,_,_,_,_,_,_,_,_,_,_,_,rfl,_,_,_,_,_,_,_⟩:=a_y a0;refine Rf z a_z z<|R z (l0 g_3 z<|hz.at (j:=2) z)<|R z (g_V z z) ?_
 obtain ⟨_,a1,Y⟩:=bdS hmy;refine R z (g_X z z<|nnS a1)<|R z (sb_ z z)<|Rw z ?_
 obtain rfl:=som Y;exact Wr<|e_ hr z ⟨bup h2 s5,z,iS _ _⟩
theorem W_w16 {x1:List Str}{x2:Str}{res:Bool}(hm:d_X x1 x2=some res)(a1:B<=w0.z)(h:repS w0 B (sl A0 N0 C0) x1)(a0:x2.b.length<=LEN):j_ prog 69 [sl A0 N0 C0,Str.v x2] w0 (Q7 w0 B res):=by
 unfold d_X at hm
 refine goG func69 z z z fun fn hr=>Ws<|Rw z<|Wq<|Wm z<|R z (lnR a_0 z h)<|Rm z<|Wn ?_
 obtain ⟨_,O,I⟩:=bdS hm;refine Wf (σ:=Unit) (ρ:=Bool) (fun (k3:Nat)(_:Unit) a w=>Sat 17 [(1,Str.v x2),(7,sl A0 N0 C0),(8,vI (x1.length:Int)),(9,vI ((k3:Nat):Int))] a/\Below w0.z w0 w) (fun (_:Unit) a w=>Sat 17 [] a/\Below w0.z w0 w) (rQ prog fn<|Q7 w0 B) O ?_ ?_ ?_ ?_ ?_
 ·exact fun _ q=>⟨q.k<|s4 z z z z,br w0⟩
 ·rintro k3 _ _ _ _ J ⟨V,H⟩ W;refine Wu ?_ V;refine Ws<|Rl z z z<|Wn<|Wq<|Wc z (fun _=>?_) (fun hc=>(X_ J hc).elim)
  refine Wk<|Wq<|Wb<|Ws ?_
  obtain ⟨_,Y,L⟩:=bdS W;refine RX z (at_ (α:=Str) a_0 z_9 z z z (h.e H) Y) ?_;rintro _ ⟨_,_,_,rfl,ha,hb,_⟩;obtain ⟨rfl,_⟩:=b_s hb;refine R z (l0 g_9 z<|ha.at0 z)<|Rw z<|Wm z<|Rm z<|R z (b_E z z)<|Wx z (fun G=>?_) (fun G=>?_)
  ·exact Ws<|Rw z<|Wr<|rtO<|qL (som<|ifT L G).symm<|e_ hr z ⟨H,z⟩
  exact Wk<|Wg<|R z (inc_ J (lt_ (repS.len h) H_) z z)<|Rm z<|Wl (fun _ q=>⟨(),(som<|ifF L G).symm,⟨q.k<|s4 z z z z,H⟩⟩)
 ·rintro _ _ _ ⟨hSc,sd⟩;refine Wu ?_ hSc;refine Ws<|Rl z z z<|Wn<|Wq<|Wc z (fun hc=>(Y_ hc).elim) (fun _=>?_)
  exact We<|fun _ q=>⟨rfl,⟨q.k sn,sd⟩⟩
 ·rintro _ ae _ rfl ⟨_,sf⟩;have hmg:=elL I;revert ae;refine Wo<|Ws<|Rw z ?_
  obtain rfl:=som hmg;exact Wr<|e_ hr z ⟨sf,z⟩
 rintro _ _ _ _ rfl ⟨rfl,hqh⟩;have hmi:=elR I;obtain rfl:=som hmi;exact ⟨hqh,z⟩
theorem W_w2d {x1:a_}{res:Bool}(hm:f_M n x1=some res)(L:B<=w0.z)(W:x1.name.b.length<=LEN)(Y:inI x1.kind)(a0:inI x1.size)(a1:repS w0 B (sl A9 N9 C9) x1.bytes)(I:repS w0 B (sl A8 N8 C8) x1.names)(a2:repS w0 B (sl AA NA CA) x1.tags)(V:repS w0 B (sl AB NB CB) x1.kids):j_ prog 129 [(.agg #[Str.v x1.name,vI x1.kind,vI x1.size,vB x1.little,sl A9 N9 C9,sl A8 N8 C8,sl AA NA CA,sl AB NB CB])] w0 (Q7 w0 B res):=by
 unfold f_M at hm
 refine goG func129 z z z fun fn hr=>Ws<|E z (fb z) ?_
 rintro _ O ⟨rfl,hi⟩;have h1:=hi.below;have ha:Blk O w0.z (vR x1 A9 N9 C9 A8 N8 C8 AA NA CA AB NB CB):=hi.blk;refine Rw z<|Wq<|Wq ?_
 obtain ⟨uy,huz,hmj⟩:=bdS hm;refine Wt (fun a w=>∃(xb:Bool),xb=uy/\Sat 44 [(1,pt w0.z),(23,vB xb)] a/\Below O.z O w) ?_ ?_
 ·refine Wg<|R z (lN (vs:=vR x1 A9 N9 C9 A8 N8 C8 AA NA CA AB NB CB) G_ n_ z z fid<|ha.row 0 8 z) ?_
  obtain ⟨ah,ai,hmk⟩:=bdS huz;refine E z (fc call127 z<|c_E ai (zt' L h1.s) W Y a0 (a1.e h1) (I.e h1) (a2.e h1) (V.e h1)<|ii z) ?_;rintro _ _ ⟨s6,rfl⟩;refine R z (not_ z)<|Rm z ?_
  rcases bs (!ah) with h | h
  ·iterate 7 refine Nh z h ?_
   exact R z (pT z h z)<|Rm z<|Nh z z<|Nh z z<|Nh z z<|Nh z z<|Nh z z<|R z (pT z z z)<|Wl (fun _ q=>⟨true,som<|ifT hmk h,q.k<|s2 z z,s6⟩)
  have hml:=ifF hmk h;refine Rh z h (fd M_ z) ?_;have hd:=ha.e s6;refine Rh z h (l0 w_ z<|hd.at z) ?_;have hn:=(h1.ag B).e s6;have he:=V.g hn;refine Rh z h (lnR r_ z he)<|Rh z h (fd b_m z)<|Rh z h (l0 a_B z<|hd.at z)<|Rh z h (lnR a_0 z<|I.g hn)<|Rh z h (nq z z)<|R z (pF z h z)<|Rm z ?_
  rcases bs ((x1.kids.length:Int) != (x1.names.length:Int)) with H | H
  ·iterate 5 refine Nh z H ?_
   exact R z (pT z H z)<|Wl (fun _ q=>⟨true,som<|ifT hml H,q.k<|s2 z z,s6⟩)
  refine Rh z H (fd M_ z)<|Rh z H (l0 w_ z<|hd.at z)<|Rh z H (lnR r_ z he) ?_
  obtain ⟨aj,ak,a3⟩:=bdS<|ifF hml H;refine Eg z z H z (fc call112 z<|d_6 ak (zt' L<|lt_ h1.s s6.s) (b_B<|repS.len he) (ii z)<|ii z) ?_;rintro _ _ ⟨al,rfl⟩;exact Rh z H (not_ z)<|R z (pF z H z)<|Wl (fun _ q=>⟨!aj,som a3,q.k<|s2 z z,bup s6 al⟩)
 rintro am J ⟨xb,rfl,_,s7⟩;revert am;refine Wo<|Wc z (fun hcc=>?_) (fun hcc=>?_)
 ·refine Ws<|Rw z ?_
  obtain rfl:=som<|ifT hmj hcc;exact Wr<|e_ hr z ⟨bup h1 s7,z⟩
 refine Wk<|Wq<|Ws<|Rf z b_m z ?_
 have ho:=ha.e s7;refine R z (l0 a_B z<|ho.at z) ?_;have hp:=(h1.ag B).e s7;refine R z (lnR a_0 z<|I.g hp)<|Rm z<|Wn ?_
 obtain ⟨_,a4,hmm⟩:=bdS<|ifF hmj hcc;refine Wf (σ:=Unit) (ρ:=Bool) (fun (kf:Nat)(_:Unit) a w=>Sat 44 [(1,pt w0.z),(25,sl A8 N8 C8),(26,vI (x1.names.length:Int)),(27,vI ((kf:Nat):Int))] a/\Below J.z J w) (fun (_:Unit) a w=>Sat 44 [] a/\Below J.z J w) (rQ prog fn<|Q7 w0 B) a4 ?_ ?_ ?_ ?_ ?_
 ·exact fun _ q=>⟨q.k<|s4 z z z z,br J⟩
 ·rintro kf _ _ wq _ hkr ⟨a5,s8⟩ a6;refine Wu ?_ a5;refine Ws<|Rl z z z<|Wn<|Wq<|Wc z (fun _=>?_) (fun hc=>(X_ hkr hc).elim)
  refine Wk<|Wq<|Wb<|Wm z ?_
  obtain ⟨_,an,a7⟩:=bdS a6;have ht:=hp.e s8;refine RX z (at_ (α:=Str) a_0 z_9 z z z (I.g ht) an) ?_;rintro _ ⟨_,_,_,rfl,ao,ap,_⟩;obtain ⟨rfl,hu⟩:=b_s ap;refine R z (l0 g_9 z<|ao.at0 z)<|Ra z<|Rw z<|Wq ?_
  obtain ⟨aq,a8,hms⟩:=bdS a7;refine Wt (fun a w=>∃(xg:Bool),xg=aq/\Sat 44 [(1,pt w0.z),(25,sl A8 N8 C8),(26,vI (x1.names.length:Int)),(27,vI ((kf:Nat):Int)),(42,vB xg)] a/\Below wq.z wq w) ?_ ?_
  ·refine Wg<|Rm z ?_
   have hv:=lt_ (lt_ h1.s s7.s) s8.s;obtain ⟨ar,au,hmw⟩:=bdS a8;refine E z (fc call65 z<|i_s au (zt' L hv) hu) ?_;rintro _ _ ⟨s9,rfl⟩;refine R z (not_ z)<|Rm z ?_
   rcases bs (!ar) with G | G
   ·iterate 6 refine Nh z G ?_
    exact R z (pT z G z)<|Wl (fun _ q=>⟨true,som<|ifT hmw G,q.k<|s5 z z z z z,s9⟩)
   refine Rh z G (fd b_m z)<|Rh z G (l0 a_B z<|((ho.e s8).e s9).at z)<|Rh z G (mv z) ?_
   obtain ⟨_,av,a9⟩:=bdS<|ifF hmw G;refine RXg z z G z (rX a_0 z_9 z z (I.g<|ht.e s9) z z av) ?_;rintro _ ⟨_,_,_,rfl,aw⟩;refine Rh z G (mv z) ?_;obtain ⟨ax,ay,aa⟩:=bdS a9;refine Eg z z G z (fc call69 z<|W_w16 ay (zt' L<|lt_ hv s9.s) aw hu) ?_;rintro _ _ ⟨az,rfl⟩;exact R z (pF z G z)<|Wl (fun _ q=>⟨ax,som aa,q.k<|s5 z z z z z,bup s9 az⟩)
  rintro aA _ ⟨xg,rfl,_,sx⟩;revert aA;refine Wo<|Wc z (fun hch=>?_) (fun hch=>?_)
  ·exact Ws<|Rw z<|Wr<|rtO<|qL (som<|ifT hms hch).symm<|e_ hr z ⟨bup (bup (bup h1 s7) s8) sx,z⟩
  exact Wk<|Wg<|R z (inc_ hkr (lt_ (repS.len I) H_) z z)<|Rm z<|Wl (fun _ q=>⟨(),(som<|ifF hms hch).symm,⟨q.k<|s4 z z z z,bup s8 sx⟩⟩)
 ·rintro _ _ _ ⟨ab,aB⟩;refine Wu ?_ ab;refine Ws<|Rl z z z<|Wn<|Wq<|Wc z (fun hc=>(Y_ hc).elim) (fun _=>?_)
  exact We<|fun _ q=>⟨rfl,⟨q.k sn,aB⟩⟩
 ·rintro _ aC _ rfl ⟨_,aD⟩;have ad:=elL hmm;revert aC;refine Wo<|Ws<|Rw z ?_
  obtain rfl:=som ad;exact Wr<|e_ hr z ⟨bup (bup h1 s7) aD,z⟩
 rintro _ _ _ _ rfl ⟨rfl,ae⟩;have af:=elR hmm;obtain rfl:=som af;exact ⟨ae,z⟩
theorem W_w2e {x1:g_}{x2:a_}{res:Bool}(hm:f_N x1 x2=some res)(O:B<=w0.z)(a4:repS w0 B (sl A0 N0 C0) x1.rules)(a5:x2.name.b.length<=LEN)(a6:inI x2.kind)(a7:inI x2.size)(a8:repS w0 B (sl A3 N3 C3) x2.bytes)(a9:repS w0 B (sl A4 N4 C4) x2.names)(J:repS w0 B (sl A2 N2 C2) x2.tags)(V:repS w0 B (sl A5 N5 C5) x2.kids):j_ prog 130 [(.agg #[sl A0 N0 C0]),(.agg #[Str.v x2.name,vI x2.kind,vI x2.size,vB x2.little,sl A3 N3 C3,sl A4 N4 C4,sl A2 N2 C2,sl A5 N5 C5])] w0 (Q7 w0 B res):=by
 unfold f_N at hm
 refine goG func130 z z z fun fn hr=>Ws<|E z (fb z) ?_
 rintro _ L ⟨rfl,hn⟩;have h4:=hn.below;refine E z (fb z) ?_;rintro _ wg ⟨rfl,ho⟩;have h3:=ho.below;have he:Blk wg L.z (vR x2 A3 N3 C3 A4 N4 C4 A2 N2 C2 A5 N5 C5):=ho.blk;refine Rw z<|Wq<|Wq ?_
 obtain ⟨aq,aa,hmp⟩:=bdS hm;refine Wt (fun a w=>∃(xh:Bool),xh=aq/\Sat 57 [(2,pt w0.z),(3,pt L.z),(21,vB xh)] a/\Below wg.z wg w) ?_ ?_
 ·refine Wg<|R z (lN (vs:=vR x2 A3 N3 C3 A4 N4 C4 A2 N2 C2 A5 N5 C5) G_ n_ z z fid<|he.row 0 8 z)<|Rf z a_D z<|R z (l0 w_ z<|he.at z) ?_
  have h6:=(h4.ag B).e h3;have hq:=J.g h6;refine R z (lnR r_ z hq)<|R z (add_ z z) ?_
  have ht:=lt_ h4.s h3.s;obtain ⟨ar,au,hmr⟩:=bdS aa;refine E z (fc call127 z<|c_E au (zt' O ht) a5 a6 a7 (a8.g h6) (a9.g h6) hq (V.g h6)<|iA _ _) ?_;rintro _ _ ⟨s9,rfl⟩;refine R z (not_ z)<|Rm z ?_
  rcases bs (!ar) with I | I
  ·iterate 5 refine Nh z I ?_
   exact R z (pT z I z)<|Wl (fun _ q=>⟨true,som<|ifT hmr I,q.k<|s3 z z z,s9⟩)
  refine Rh z I (fd a_D z)<|Rh z I (l0 w_ z<|(he.e s9).at z) ?_
  have hu:=J.g<|h6.e s9
  refine Rh z I (lnR r_ z hu) ?_;obtain ⟨av,aw,ab⟩:=bdS<|ifF hmr I;refine Eg z z I z (fc call112 z<|d_6 aw (zt' O<|lt_ ht s9.s) (b_B<|repS.len hu) (ii z)<|ii z) ?_;rintro _ _ ⟨ax,rfl⟩;exact Rh z I (not_ z)<|R z (pF z I z)<|Wl (fun _ q=>⟨!av,som ab,q.k<|s3 z z z,bup s9 ax⟩)
 rintro ay _ ⟨xh,rfl,_,s7⟩;revert ay;refine Wo<|Wc z (fun hci=>?_) (fun hci=>?_)
 ·refine Ws<|Rw z ?_
  obtain rfl:=som<|ifT hmp hci;exact Wr<|e_ hr z ⟨bup (bup h4 h3) s7,z⟩
 refine Wk<|Wq (Wd (X:=noX) 0 (pl_ 7 [5]) mo (by kernel_rfl) fun aV s8 _=>dR z z (lN (vs:=[sl A0 N0 C0]) D_ C_ z z fid<|((((hn.blk:Blk L w0.z [sl A0 N0 C0]).e h3).e s7).e s8).row 0 1 z)<|dR z z (fd M_ z) ?_)
 have hv:=(he.e s7).e s8;refine dR z z (l0 w_ z<|hv.at z) ?_;obtain ⟨_,az,ad⟩:=bdS<|ifF hmp hci;have hj:=(((h4.ag B).e h3).e s7).e s8;refine dRX z z (at_ (α:=Int) r_ z_3 z z z (V.g hj) az) ?_;rintro _ ⟨_,_,_,rfl,aA,aB,_⟩;obtain ⟨rfl,aC⟩:=O_ aB;refine dR z z (l0 g_3 z<|aA.at0 z) ?_;have hw:=lt_ (lt_ (lt_ h4.s h3.s) s7.s) s8.s;obtain ⟨rk,aD,ae⟩:=bdS ad;refine dE z z (fc call128 z<|i_t aD (zt' O hw) (a4.g hj) aC) (.inr fun _ _ h=>F_<|h.1) ?_;rintro _ wa ⟨sb,rfl,aE⟩;refine dQ z z z<|pD<|Wo<|Wq<|Ws<|Rf z a_D z ?_
 have hx:=hv.e sb;refine R z (l0 w_ z<|hx.at z) ?_;have hy:=hj.e sb;refine R z (lnR r_ z<|J.g hy)<|Rm z<|Wn ?_
 obtain ⟨_,af,hms⟩:=bdS ae;refine Wf (σ:=Unit) (ρ:=Bool) (fun (kf:Nat)(_:Unit) a w=>Sat 57 [(3,pt L.z),(5,vI rk),(29,sl A2 N2 C2),(30,vI (x2.tags.length:Int)),(31,vI ((kf:Nat):Int))] a/\Below wa.z wa w) (fun (_:Unit) a w=>Sat 57 [(5,vI rk)] a/\Below wa.z wa w) (rQ prog fn<|Q7 w0 B) af ?_ ?_ ?_ ?_ ?_
 ·exact fun _ q=>⟨q.k<|s5 z z z z z,br wa⟩
 ·rintro kf _ _ wz _ W ⟨ah,sc⟩ ai;refine Wu ?_ ah;refine Ws<|Rl z z z<|Wn<|Wq<|Wc z (fun _=>?_) (fun hc=>(X_ W hc).elim)
  refine Wk<|Wq<|Wb<|Wm z ?_
  obtain ⟨aF,aG,aj⟩:=bdS ai;have a2:=hy.e sc;refine RX z (at_ (α:=Int) r_ z_3 z z z (J.g a2) aG) ?_;rintro _ ⟨_,_,_,rfl,aH,aI,_⟩;obtain ⟨rfl,aJ⟩:=O_ aI;refine R z (l0 g_3 z<|aH.at0 z)<|Ra z<|Rw z<|Wq ?_
  obtain ⟨aK,ak,Y⟩:=bdS aj;refine Wt (fun a w=>∃(xl:Bool),xl=aK/\Sat 57 [(3,pt L.z),(5,vI rk),(29,sl A2 N2 C2),(30,vI (x2.tags.length:Int)),(31,vI ((kf:Nat):Int)),(53,vB xl)] a/\Below wz.z wz w) ?_ ?_
  ·refine Wg<|RM z z ?_
   obtain ⟨aL,aM,a0⟩:=bdS ak;refine E z (fc call112 z<|d_6 aM (zt' O<|lt_ (lt_ hw sb.s) sc.s) aJ (ii z) aE) ?_;rintro _ _ ⟨sd,rfl⟩;refine R z (not_ z)<|Rm z ?_
   rcases bs (!aL) with H | H
   ·iterate 3 refine Nh z H ?_
    exact Nv z<|Nv z<|Nv z<|Nv z<|Nv z<|Nv z<|Nv z<|Nv z<|Nh z H<|R z (pT z H z)<|Wl (fun _ q=>⟨true,som<|ifT a0 H,q.k<|s6 z z z z z z,sd⟩)
   have a1:=ifF a0 H;refine Rh z H (mv z)<|Rh z H (a_b z z)<|Rh z H (mv z) ?_
   rcases bs (decide<|0<((kf:Nat):Int)) with G | G
   ·refine Rh z G (fd a_D z)<|Rh z G (l0 w_ z<|((hx.e sc).e sd).at z)<|Rh z G (mv z)<|Rh z G (sb_ z z) ?_
    obtain ⟨aN,aO,al⟩:=bdS<|ifT a1 G;refine RXg z z G z (at_ (α:=Int) r_ z_3 z z z (J.g<|a2.e sd) aO) ?_;rintro _ ⟨_,_,_,rfl,aP,aQ,_⟩;obtain ⟨rfl,_⟩:=O_ aQ;exact Rh z G (l0 g_3 z<|aP.at0 z)<|Rh z G (mv z)<|Rh z G (b_f z z)<|Rh z H (pT z G z)<|R z (pF z H z)<|Wl (fun _ q=>⟨decide<|aF<=aN,som al,q.k<|s6 z z z z z z,sd⟩)
   iterate 8 refine Nh z G ?_
   exact Rh z H (pF z G z)<|R z (pF z H z)<|Wl (fun _ q=>⟨false,som<|ifF a1 G,q.k<|s6 z z z z z z,sd⟩)
  rintro aR _ ⟨xl,rfl,_,a3⟩;revert aR;refine Wo<|Wc z (fun hcm=>?_) (fun hcm=>?_)
  ·exact Ws<|Rw z<|Wr<|rtO<|qL (som<|ifT Y hcm).symm<|e_ hr z ⟨bup (bup (bup (bup (bup (bup h4 h3) s7) s8) sb) sc) a3,z⟩
  exact Wk<|Wg<|R z (inc_ W (lt_ (repS.len J) H_) z z)<|Rm z<|Wl (fun _ q=>⟨(),(som<|ifF Y hcm).symm,⟨q.k<|s5 z z z z z,bup sc a3⟩⟩)
 ·rintro _ _ _ ⟨am,aS⟩;refine Wu ?_ am;refine Ws<|Rl z z z<|Wn<|Wq<|Wc z (fun hc=>(Y_ hc).elim) (fun _=>?_)
  exact We<|fun _ q=>⟨rfl,⟨q.k<|s1 z,aS⟩⟩
 ·rintro _ aT _ rfl ⟨_,aU⟩;have an:=elL hms;revert aT;refine Wo<|Wm z<|R z (a_b z z)<|Rw z ?_
  obtain rfl:=som an;exact Wr<|e_ hr z ⟨bup (bup (bup (bup (bup h4 h3) s7) s8) sb) aU,z⟩
 rintro _ _ _ _ rfl ⟨rfl,ao⟩;have ap:=elR hms;obtain rfl:=som ap;exact ⟨ao,z⟩
theorem W_w2f {x1:g_}{x2:a_}{res:Bool}(hm:f_O n x1 x2=some res)(L:B<=w0.z)(a7:repS w0 B (sl A0 N0 C0) x1.rules)(a3:x2.name.b.length<=LEN)(a4:inI x2.kind)(V:inI x2.size)(W:repS w0 B (sl A3 N3 C3) x2.bytes)(a5:repS w0 B (sl A4 N4 C4) x2.names)(a6:repS w0 B (sl A2 N2 C2) x2.tags)(Y:repS w0 B (sl A5 N5 C5) x2.kids):j_ prog 121 [(.agg #[sl A0 N0 C0]),(.agg #[Str.v x2.name,vI x2.kind,vI x2.size,vB x2.little,sl A3 N3 C3,sl A4 N4 C4,sl A2 N2 C2,sl A5 N5 C5])] w0 (Q7 w0 B res):=by
 unfold f_O at hm
 refine goG func121 z z z fun fn hr=>Ws<|E z (fb z) ?_
 rintro _ ww ⟨rfl,aJ⟩;have h1:=aJ.below;have hx:Blk ww w0.z [sl A0 N0 C0]:=aJ.blk;refine E z (fb z) ?_;rintro _ J ⟨rfl,aK⟩;have G:=aK.below;have h6:Blk J ww.z (vR x2 A3 N3 C3 A4 N4 C4 A2 N2 C2 A5 N5 C5):=aK.blk;refine Rw z<|Wq<|Ws<|Rf z a_s z<|R z (l0 g_3 z<|h6.at z)<|Wn<|Wb<|Ws<|Rq z z z<|Rw z<|Wc z (fun hcy=>?_) (fun hcy=>?_)
 ·refine Wq ?_;obtain ⟨bp,b1,b2⟩:=bdS<|ifT hm hcy;refine Wt (fun a w=>∃(xz:Bool),xz=bp/\Sat 102 [(4,vB xz)] a/\Below J.z J w) ?_ ?_
  ·refine Wg<|R z (lN (vs:=vR x2 A3 N3 C3 A4 N4 C4 A2 N2 C2 A5 N5 C5) G_ n_ z z fid<|h6.row 0 8 z) ?_
   have hq:=(h1.ag B).e G;have aL:=lt_ h1.s G.s;obtain ⟨bq,bt,ap⟩:=bdS b1;refine E z (fc call127 z<|c_E bt (zt' L aL) a3 a4 V (W.g hq) (a5.g hq) (a6.g hq) (Y.g hq)<|ii z) ?_;rintro _ _ ⟨se,rfl⟩;refine Rm z ?_
   rcases bs bq with hca | hca
   ·refine Rh z hca (fd a_z z) ?_;have aM:=h6.e se;refine Rh z hca (l0 g_3 z<|aM.at z) ?_;obtain ⟨bu,bv,aq⟩:=bdS<|ifT ap hca;refine Eg z z hca z (fc call112 z<|d_6 bv (zt' L<|lt_ aL se.s) V (ii z)<|ii z) ?_;rintro _ _ ⟨sr,rfl⟩;refine R z (pT z hca z)<|Rm z ?_
    rcases bs bu with O | O
    ·have ar:=ifT aq O;refine Rh z O (fd b_D z) ?_;have aN:=aM.e sr;refine Rh z O (l0 g_4 z<|aN.at z)<|Rh z O (not_ z)<|Rh z O (mv z) ?_
     rcases bs (!x2.little) with hcb | hcb
     ·iterate 3 refine Nh z hcb ?_
      exact Rh z O (pT z hcb z)<|R z (pT z O z)<|Ra z<|Wl (fun _ q=>⟨true,som<|ifT ar hcb,q.k<|s1 z,bup se sr⟩)
     exact Rh z hcb (fd a_z z)<|Rh z hcb (l0 g_3 z<|aN.at z)<|Rh z hcb (a_b z z)<|Rh z O (pF z hcb z)<|R z (pT z O z)<|Ra z<|Wl (fun _ q=>⟨decide<|1<x2.size,som<|ifF ar hcb,q.k<|s1 z,bup se sr⟩)
    iterate 4 refine Nh z O ?_
    exact Nv z<|Nv z<|Nv z<|Nh z O<|R z (pF z O z)<|Ra z<|Wl (fun _ q=>⟨false,som<|ifF aq O,q.k<|s1 z,bup se sr⟩)
   iterate 3 refine Nh z hca ?_
   exact R z (pF z hca z)<|Rm z<|Nh z z<|Nh z z<|Nh z z<|Nh z z<|Nv z<|Nv z<|Nv z<|Nh z z<|R z (pF z z z)<|Ra z<|Wl (fun _ q=>⟨false,som<|ifF ap hca,q.k<|s1 z,se⟩)
  rintro bw _ ⟨xz,rfl,_,bx⟩;revert bw;refine Wo ?_;obtain rfl:=som b2;exact Wr<|rtO<|e_ hr z ⟨bup (bup h1 G) bx,z⟩
 have au:=ifF hm hcy;refine Ws<|Rq z z z<|Rw z<|Wc z (fun a8=>?_) (fun a8=>?_)
 ·refine Wq ?_;obtain ⟨bz,b3,b4⟩:=bdS<|ifT au a8;refine Wt (fun a w=>∃(aj:Bool),aj=bz/\Sat 102 [(4,vB aj)] a/\Below J.z J w) ?_ ?_
  ·refine Wg<|R z (lN (vs:=vR x2 A3 N3 C3 A4 N4 C4 A2 N2 C2 A5 N5 C5) G_ n_ z z fid<|h6.row 0 8 z) ?_
   have hj:=(h1.ag B).e G;have aO:=lt_ h1.s G.s;obtain ⟨bA,bB,av⟩:=bdS b3;refine E z (fc call127 z<|c_E bB (zt' L aO) a3 a4 V (W.g hj) (a5.g hj) (a6.g hj) (Y.g hj)<|ii z) ?_;rintro _ _ ⟨sk,rfl⟩;refine Rm z ?_
   rcases bs bA with a1 | a1
   ·refine Rh z a1 (fd a_I z)<|Rh z a1 (l0 T_ z<|(h6.e sk).at z) ?_
    have aP:=W.g<|hj.e sk
    refine Rh z a1 (lnR l_ z aP) ?_;obtain ⟨bC,bD,b5⟩:=bdS<|ifT av a1;refine Eg z z a1 z (fc call112 z<|d_6 bD (zt' L<|lt_ aO sk.s) (b_B<|repS.len aP) (ii z)<|ii z) ?_;rintro _ _ ⟨bE,rfl⟩;exact R z (pT z a1 z)<|Ra z<|Wl (fun _ q=>⟨bC,som b5,q.k<|s1 z,bup sk bE⟩)
   iterate 4 refine Nh z a1 ?_
   exact R z (pF z a1 z)<|Ra z<|Wl (fun _ q=>⟨false,som<|ifF av a1,q.k<|s1 z,sk⟩)
  rintro bF _ ⟨aj,rfl,_,bG⟩;revert bF;refine Wo ?_;obtain rfl:=som b4;exact Wr<|rtO<|e_ hr z ⟨bup (bup h1 G) bG,z⟩
 have aw:=ifF au a8;refine Ws<|Rq z z z<|Rw z<|Wc z (fun a9=>?_) (fun a9=>?_)
 ·refine Wq ?_;obtain ⟨bH,b6,b7⟩:=bdS<|ifT aw a9;refine Wt (fun a w=>∃(ak:Bool),ak=bH/\Sat 102 [(4,vB ak)] a/\Below J.z J w) ?_ ?_
  ·refine Wg<|R z (lN (vs:=vR x2 A3 N3 C3 A4 N4 C4 A2 N2 C2 A5 N5 C5) G_ n_ z z fid<|h6.row 0 8 z) ?_
   have ht:=(h1.ag B).e G;have aQ:=lt_ h1.s G.s;obtain ⟨bI,bJ,ax⟩:=bdS b6;refine E z (fc call127 z<|c_E bJ (zt' L aQ) a3 a4 V (W.g ht) (a5.g ht) (a6.g ht) (Y.g ht)<|ii z) ?_;rintro _ _ ⟨ss,rfl⟩;refine Rm z ?_
   rcases bs bI with hcc | hcc
   ·refine Rh z hcc (fd a_z z)<|Rh z hcc (l0 g_3 z<|(h6.e ss).at z) ?_
    obtain ⟨bK,bL,b8⟩:=bdS<|ifT ax hcc;refine Eg z z hcc z (fc call112 z<|d_6 bL (zt' L<|lt_ aQ ss.s) V (ii z)<|ii z) ?_;rintro _ _ ⟨bM,rfl⟩;exact R z (pT z hcc z)<|Ra z<|Wl (fun _ q=>⟨bK,som b8,q.k<|s1 z,bup ss bM⟩)
   iterate 3 refine Nh z hcc ?_
   exact R z (pF z hcc z)<|Ra z<|Wl (fun _ q=>⟨false,som<|ifF ax hcc,q.k<|s1 z,ss⟩)
  rintro bN _ ⟨ak,rfl,_,bO⟩;revert bN;refine Wo ?_;obtain rfl:=som b7;exact Wr<|rtO<|e_ hr z ⟨bup (bup h1 G) bO,z⟩
 have ay:=ifF aw a9;refine Ws<|Rq z z z<|Rw z<|Wc z (fun aa=>?_) (fun aa=>?_)
 ·refine Wq ?_;obtain ⟨bP,b9,ba⟩:=bdS<|ifT ay aa;refine Wt (fun a w=>∃(al:Bool),al=bP/\Sat 102 [(4,vB al)] a/\Below J.z J w) ?_ ?_
  ·refine Wd (X:=noX) 0 (pl_ 12 [1,8]) mo (by kernel_rfl) fun cv sf _=>?_
   have aR:=h6.e sf;refine dR z z (lN (vs:=vR x2 A3 N3 C3 A4 N4 C4 A2 N2 C2 A5 N5 C5) G_ n_ z z fid<|aR.row 0 8 z) ?_;have hl:=((h1.ag B).e G).e sf;have aS:=lt_ (lt_ h1.s G.s) sf.s;obtain ⟨bQ,bR,az⟩:=bdS b9;refine dE z z (fc call127 z<|c_E bR (zt' L aS) a3 a4 V (W.g hl) (a5.g hl) (a6.g hl) (Y.g hl)<|ii z) (.inr fun _ _ h=>F_<|h.1) ?_;rintro _ _ ⟨sg,rfl⟩;refine dM z z z ?_
   rcases bs bQ with H | H
   ·refine dRg z z z H z (lN (vs:=[sl A0 N0 C0]) D_ C_ z z fid<|(((hx.e G).e sf).e sg).row 0 1 z)<|dRg z z z H z (fd M_ z)<|dRg z z z H z (l0 w_ z<|(aR.e sg).at z) ?_
    obtain ⟨_,bS,bb⟩:=bdS<|ifT az H;have aT:=hl.e sg;refine c_0 z z z H z (at_ (α:=Int) r_ z_3 z z z (Y.g aT) bS) ?_;rintro _ ⟨_,_,_,rfl,bT,bU,_⟩;obtain ⟨rfl,bV⟩:=O_ bU;refine dRg z z z H z (l0 g_3 z<|bT.at0 z) ?_;obtain ⟨bW,bX,bc⟩:=bdS bb;refine dEg z z z H z (fc call128 z<|i_t bX (zt' L<|lt_ aS sg.s) (a7.g aT) bV) (.inr fun _ _ h=>F_<|h.1) ?_;rintro _ _ ⟨bY,rfl,_⟩;exact dRg z z z H z (a_b z z)<|dR z z (pT z H z)<|dQ z z z<|pD (fun _ q=>⟨decide<|0<bW,som bc,q.k<|s1 z,bup (bup sf sg) bY⟩)
   iterate 5 refine dRn z z z H z ?_
   exact dEn z z z H z<|dRn z z z H z<|dR z z (pF z H z)<|dQ z z z<|pD (fun _ q=>⟨false,som<|ifF az H,q.k<|s1 z,bup sf sg⟩)
  rintro bZ _ ⟨al,rfl,_,c0⟩;revert bZ;refine Wo ?_;obtain rfl:=som ba;exact Wr<|rtO<|e_ hr z ⟨bup (bup h1 G) c0,z⟩
 have aA:=ifF ay aa;refine Ws<|Rq z z z<|Rw z<|Wc z (fun ab=>?_) (fun ab=>?_)
 ·refine Wq ?_;obtain ⟨c1,be,bf⟩:=bdS<|ifT aA ab;refine Wt (fun a w=>∃(am:Bool),am=c1/\Sat 102 [(4,vB am)] a/\Below J.z J w) ?_ ?_
  ·refine Wd (X:=noX) 0 (pl_ 12 [1,8]) mo (by kernel_rfl) fun cw sh _=>?_
   have aU:=h6.e sh;refine dR z z (lN (vs:=vR x2 A3 N3 C3 A4 N4 C4 A2 N2 C2 A5 N5 C5) G_ n_ z z fid<|aU.row 0 8 z) ?_;have hn:=((h1.ag B).e G).e sh;have aV:=lt_ (lt_ h1.s G.s) sh.s;obtain ⟨c2,c3,aB⟩:=bdS be;refine dE z z (fc call127 z<|c_E c3 (zt' L aV) a3 a4 V (W.g hn) (a5.g hn) (a6.g hn) (Y.g hn)<|ii z) (.inr fun _ _ h=>F_<|h.1) ?_;rintro _ _ ⟨si,rfl⟩;refine dM z z z ?_
   rcases bs c2 with I | I
   ·refine dRg z z z I z (lN (vs:=[sl A0 N0 C0]) D_ C_ z z fid<|(((hx.e G).e sh).e si).row 0 1 z)<|dRg z z z I z (fd M_ z)<|dRg z z z I z (l0 w_ z<|(aU.e si).at z) ?_
    obtain ⟨_,c4,bg⟩:=bdS<|ifT aB I;have aW:=hn.e si;refine c_0 z z z I z (at_ (α:=Int) r_ z_3 z z z (Y.g aW) c4) ?_;rintro _ ⟨_,_,_,rfl,c5,c6,_⟩;obtain ⟨rfl,c7⟩:=O_ c6;refine dRg z z z I z (l0 g_3 z<|c5.at0 z) ?_;obtain ⟨c8,c9,bh⟩:=bdS bg;refine dEg z z z I z (fc call128 z<|i_t c9 (zt' L<|lt_ aV si.s) (a7.g aW) c7) (.inr fun _ _ h=>F_<|h.1) ?_;rintro _ _ ⟨ca,rfl,_⟩;exact dRg z z z I z (a_b z z)<|dR z z (pT z I z)<|dQ z z z<|pD (fun _ q=>⟨decide<|0<c8,som bh,q.k<|s1 z,bup (bup sh si) ca⟩)
   iterate 5 refine dRn z z z I z ?_
   exact dEn z z z I z<|dRn z z z I z<|dR z z (pF z I z)<|dQ z z z<|pD (fun _ q=>⟨false,som<|ifF aB I,q.k<|s1 z,bup sh si⟩)
  rintro cb _ ⟨am,rfl,_,cc⟩;revert cb;refine Wo ?_;obtain rfl:=som bf;exact Wr<|rtO<|e_ hr z ⟨bup (bup h1 G) cc,z⟩
 have aC:=ifF aA ab;refine Ws<|Rq z z z<|Rw z<|Wc z (fun ad=>?_) (fun ad=>?_)
 ·refine Ws<|R z (lN (vs:=vR x2 A3 N3 C3 A4 N4 C4 A2 N2 C2 A5 N5 C5) G_ n_ z z fid<|h6.row 0 8 z) ?_
  have hu:=(h1.ag B).e G;obtain ⟨_,cd,bi⟩:=bdS<|ifT aC ad;refine E z (fc call129 z<|W_w2d cd (zt' L<|lt_ h1.s G.s) a3 a4 V (W.g hu) (a5.g hu) (a6.g hu)<|Y.g hu) ?_;rintro _ _ ⟨ce,rfl⟩;refine Rw z ?_
  obtain rfl:=som bi;exact Wr<|rtO<|e_ hr z ⟨bup (bup h1 G) ce,z⟩
 have aD:=ifF aC ad;refine Ws<|Rq z z z<|Rw z<|Wc z (fun ae=>?_) (fun ae=>?_)
 ·refine Ws<|R z (lN (vs:=[sl A0 N0 C0]) D_ C_ z z fid<|(hx.e G).row 0 1 z)<|R z (lN (vs:=vR x2 A3 N3 C3 A4 N4 C4 A2 N2 C2 A5 N5 C5) G_ n_ z z fid<|h6.row 0 8 z) ?_
  have ho:=(h1.ag B).e G;obtain ⟨_,cf,bj⟩:=bdS<|ifT aD ae;refine E z (fc call130 z<|W_w2e cf (zt' L<|lt_ h1.s G.s) (a7.g ho) a3 a4 V (W.g ho) (a5.g ho) (a6.g ho)<|Y.g ho) ?_;rintro _ _ ⟨cg,rfl⟩;refine Rw z ?_
  obtain rfl:=som bj;exact Wr<|rtO<|e_ hr z ⟨bup (bup h1 G) cg,z⟩
 refine Wq<|Ws<|Rq z z z<|Rw z ?_
 obtain ⟨ch,aE,aF⟩:=bdS<|ifF aD ae;refine Wt (fun a w=>∃(an:Bool),an=ch/\Sat 102 [(3,pt ww.z),(6,vI x2.kind),(80,vB an)] a/\Below J.z J w) ?_ ?_
 ·refine Wc z (fun af=>?_)<|fun af=>?_
  ·exact a_q<|fun _ q=>⟨x2.kind==8,som<|ifT aE af,q.k<|s3 z z z,br J⟩
  exact Wg<|Rq z z z<|Ra z<|Wl (fun _ q=>⟨x2.kind==9,som<|ifF aE af,q.k<|s3 z z z,br J⟩)
 rintro ci aX ⟨an,rfl,_,sd⟩;revert ci;refine Wo<|Wc z (fun ah=>?_) (fun ah=>?_)
 ·refine Ws<|R z (lN (vs:=vR x2 A3 N3 C3 A4 N4 C4 A2 N2 C2 A5 N5 C5) G_ n_ z z fid<|(h6.e sd).row 0 8 z) ?_
  have hv:=((h1.ag B).e G).e sd;obtain ⟨_,cj,bk⟩:=bdS<|ifT aF ah;refine E z (fc call127 z<|c_E cj (zt' L<|lt_ (lt_ h1.s G.s) sd.s) a3 a4 V (W.g hv) (a5.g hv) (a6.g hv) (Y.g hv)<|ii z) ?_;rintro _ _ ⟨ck,rfl⟩;refine Rw z ?_
  obtain rfl:=som bk;exact Wr<|rtO<|e_ hr z ⟨bup (bup (bup h1 G) sd) ck,z⟩
 have aG:=ifF aF ah;refine Ws<|Rq z z z<|Rw z<|Wc z (fun ai=>?_) (fun ai=>?_)
 ·refine Wq ?_;obtain ⟨cl,bm,bn⟩:=bdS<|ifT aG ai;refine Wt (fun a w=>∃(ao:Bool),ao=cl/\Sat 102 [(4,vB ao)] a/\Below aX.z aX w) ?_ ?_
  ·refine Wg ?_;have aY:=h6.e sd;refine R z (lN (vs:=vR x2 A3 N3 C3 A4 N4 C4 A2 N2 C2 A5 N5 C5) G_ n_ z z fid<|aY.row 0 8 z) ?_;have hp:=((h1.ag B).e G).e sd;obtain ⟨cm,cn,aH⟩:=bdS bm;refine E z (fc call127 z<|c_E cn (zt' L<|lt_ (lt_ h1.s G.s) sd.s) a3 a4 V (W.g hp) (a5.g hp) (a6.g hp) (Y.g hp)<|ii z) ?_;rintro _ _ ⟨sm,rfl⟩;refine Rm z ?_
   rcases bs cm with a2 | a2
   ·have aI:=ifT aH a2;refine Rh z a2 (fd a_I z) ?_;have aZ:=aY.e sm;refine Rh z a2 (l0 T_ z<|aZ.at z) ?_;have b0:=W.g<|hp.e sm
    refine Rh z a2 (lnR l_ z b0)<|Rh z a2 (eql z z)<|R z (pT z a2 z)<|Rm z ?_
    rcases bs ((x2.bytes.length:Int)==1) with a0 | a0
    ·refine Rh z a0 (fd a_I z)<|Rh z a0 (l0 T_ z<|aZ.at z) ?_
     obtain ⟨co,cp,bo⟩:=bdS<|ifT aI a0;refine RXg z z a0 z (at_ (α:=UInt8) l_ z_5 z z z b0 cp) ?_;rintro _ ⟨_,_,_,rfl,cq,cr,_⟩;obtain rfl:=u8 cr;exact Rh z a0 (l0 g_5 z<|cq.at0 z)<|Rh z a0 (nq z z)<|R z (pT z a0 z)<|Ra z<|Wl (fun _ q=>⟨(byteI co) != (byteI (92:UInt8)),som bo,q.k<|s1 z,sm⟩)
    iterate 5 refine Nh z a0 ?_
    exact R z (pF z a0 z)<|Ra z<|Wl (fun _ q=>⟨false,som<|ifF aI a0,q.k<|s1 z,sm⟩)
   iterate 4 refine Nh z a2 ?_
   exact R z (pF z a2 z)<|Rm z<|Nh z z<|Nh z z<|Nh z z<|Nh z z<|Nh z z<|R z (pF z z z)<|Ra z<|Wl (fun _ q=>⟨false,som<|ifF aH a2,q.k<|s1 z,sm⟩)
  rintro ct _ ⟨ao,rfl,_,cu⟩;revert ct;refine Wo ?_;obtain rfl:=som bn;exact Wr<|rtO<|e_ hr z ⟨bup (bup (bup h1 G) sd) cu,z⟩
 refine Wk<|Ws<|Rw z ?_
 obtain rfl:=som<|ifF aG ai;exact Wr<|e_ hr z ⟨bup (bup h1 G) sd,z⟩
theorem W_w2g {x1:g_}{x2:Int}{res:Bool}(hm:f_P n x1 x2=some res)(O:B<=w0.z)(L:repS w0 B (sl A0 N0 C0) x1.rules)(aT:inI x2):j_ prog 113 [(.agg #[sl A0 N0 C0]),vI x2] w0 (Q7 w0 B res):=by
 unfold f_P at hm
 refine goG func113 z z z fun fn hr=>Ws<|E z (fb z) ?_
 rintro _ be ⟨rfl,al⟩;have h2:=al.below;have ho:Blk be w0.z [sl A0 N0 C0]:=al.blk;refine Rw z<|Wq<|Ws<|R z (lN (vs:=[sl A0 N0 C0]) D_ C_ z z fid<|ho.row 0 1 z)<|Rm z ?_
 obtain ⟨_,bf,a7⟩:=bdS hm;refine E z (fc call83 z<|i_r bf (zt' O h2.s) (L.e h2) aT) ?_;rintro _ I ⟨s5,rfl⟩;refine R z (not_ z)<|Wx z (fun hcp=>?_) (fun hcp=>?_)
 ·refine Ws<|Rw z ?_
  obtain rfl:=som<|ifT a7 hcp;exact Wr<|e_ hr z ⟨bup h2 s5,z⟩
 refine Wk<|Ws<|Rf z a_9 z ?_
 have am:=ho.e s5;refine R z (l0 a_c z<|am.at z)<|Rm z ?_
 obtain ⟨J,bg,aU⟩:=bdS<|ifF a7 hcp;have an:=(h2.ag B).e s5;refine RX z (at_ (α:=a_) Q_ n_ z z z (L.g an) bg) ?_;rintro _ ⟨_,_,_,rfl,bh,bi,_⟩;obtain ⟨aq,nr,cs,au,nt,cv,aw,nx,cy,ae,nf,cg,rfl,ao,bj,bk,bm,bn,bo,hj⟩:=a_y bi;refine R z (lN (vs:=vR J aq nr cs au nt cv aw nx cy ae nf cg) G_ n_ z z fid bh)<|E z (fa b_w) ?_
 rintro _ bp ⟨rfl,ap⟩;have h4:=ap.below;have ar:Blk bp I.z [(Str.v (⟨[]⟩:Str)),vI 0,vI 0,vB false,sl none 0 0,sl none 0 0,sl none 0 0,sl none 0 0]:=ap.blk;refine E0 (fs0 (cur':=vR J aq nr cs au nt cv aw nx cy ae nf cg) n_ z z ar z z z z) ?_;rintro _ av ⟨hk,bq⟩;have h3:=bq.one;refine Wn<|Wq<|Wq ?_
 obtain ⟨bt,aV,a8⟩:=bdS aU;refine Wt (fun a w=>∃(xz:Bool),xz=bt/\Sat 65 [(1,vI x2),(2,pt w0.z),(5,pt I.z),(31,vB xz)] a/\Below av.z av w) ?_ ?_
 ·refine Wg<|Rf z c_g z<|R z (l0 g_9 z<|hk.at z) ?_
  obtain ⟨bu,bv,a9⟩:=bdS aV;refine E z (fc call65 z<|i_s bv (zt' O<|lt_ (lt_ (lt_ h2.s s5.s) h4.s) h3.s) ao) ?_;rintro _ _ ⟨sm,rfl⟩;refine R z (not_ z)<|Rm z ?_
  rcases bs (!bu) with h | h
  ·iterate 3 refine Nh z h ?_
   exact Nv z<|Nv z<|Nv z<|Nh z h<|R z (pT z h z)<|Wl (fun _ q=>⟨true,som<|ifT a9 h,q.k<|s4 z z z z,sm⟩)
  have aa:=ifF a9 h;refine Rh z h (fd b_D z) ?_;have ax:=hk.e sm;refine Rh z h (l0 g_4 z<|ax.at z)<|Rh z h (mv z) ?_
  rcases bs J.little with G | G
  ·exact Rh z G (fd a_s z)<|Rh z G (l0 g_3 z<|ax.at z)<|Rh z G (nq z z)<|Rh z h (pT z G z)<|R z (pF z h z)<|Wl (fun _ q=>⟨J.kind != 1,som<|ifT aa G,q.k<|s4 z z z z,sm⟩)
  iterate 3 refine Nh z G ?_
  exact Rh z h (pF z G z)<|R z (pF z h z)<|Wl (fun _ q=>⟨false,som<|ifF aa G,q.k<|s4 z z z z,sm⟩)
 rintro bw wh ⟨xz,rfl,_,s1⟩;revert bw;refine Wo<|Wc z (fun V=>?_) (fun V=>?_)
 ·refine Ws<|Rw z ?_
  obtain rfl:=som<|ifT a8 V;exact Wr<|e_ hr z ⟨bup (bM (bup (bup h2 s5) h4) h3<|m1<|lt_ h2.s s5.s) s1,z⟩
 refine Wk<|Wq<|Ws<|Rf z a_9 z ?_
 have ay:=((am.e h4).c h3<|djs<|mm1 ho.lt s5.s).e s1;refine R z (l0 a_c z<|ay.at z)<|Rm z ?_
 obtain ⟨bx,bz,aW⟩:=bdS<|ifF a8 V;have hd:=lt_ h2.s s5.s;have az:∀k∈[I.z],¬B k:=or0 (f_ lr)<|m_<|zt' O hd;have aA:=((an.e h4).c h3<|c_ az).e s1;refine RX z (rX Q_ n_ z z (L.g aA) z z bz) ?_;rintro _ ⟨bA,bB,bC,rfl,a0⟩;refine R z (lnR Q_ z a0)<|Rm z<|Wn ?_
 obtain ⟨_,aX,ab⟩:=bdS aW;refine Wf (σ:=Unit) (ρ:=Bool) (fun (aB:Nat)(_:Unit) a w=>Sat 65 [(1,vI x2),(2,pt w0.z),(5,pt I.z),(35,sl bA bB bC),(36,vI (bx.length:Int)),(37,vI ((aB:Nat):Int))] a/\Below wh.z wh w) (fun (_:Unit) a w=>Sat 65 [(1,vI x2),(2,pt w0.z),(5,pt I.z)] a/\Below wh.z wh w) (rQ prog fn<|Q7 w0 B) aX ?_ ?_ ?_ ?_ ?_
 ·exact fun _ q=>⟨q.k<|s6 z z z z z z,br wh⟩
 ·rintro aB _ _ bD _ ad ⟨aY,sa⟩ aZ;refine Wu ?_ aY;refine Ws<|Rl z z z<|Wn<|Wq<|Wc z (fun _=>?_) (fun hc=>(X_ ad hc).elim)
  refine Wk<|Wq<|Wb<|Ws ?_
  obtain ⟨aC,bE,af⟩:=bdS aZ;refine RX z (at_ (α:=a_) Q_ n_ z z z (a0.e sa) bE) ?_;rintro _ ⟨_,_,_,rfl,bF,bG,_⟩;obtain ⟨aD,aE,aF,aG,aH,aI,aJ,aK,aL,aM,aN,aO,rfl,_,_,_,_,_,_,_⟩:=a_y bG;refine R z (lN (vs:=vR aC aD aE aF aG aH aI aJ aK aL aM aN aO) G_ n_ z z fid bF)<|E z (fa b_w) ?_
  rintro _ bH ⟨rfl,aP⟩;have a1:=aP.below;refine E0 (fs0 (cur':=vR aC aD aE aF aG aH aI aJ aK aL aM aN aO) n_ z z (aP.blk:Blk bH bD.z [(Str.v (⟨[]⟩:Str)),vI 0,vI 0,vB false,sl none 0 0,sl none 0 0,sl none 0 0,sl none 0 0]) z z z z) ?_;rintro _ _ ⟨bI,bJ⟩;have a2:=bJ.one;refine Wn<|Ws<|Rf z c_g z<|R z (l0 g_9 z<|bI.at z)<|Rf z c_g z<|R z (l0 g_9 z<|((((hk.e s1).e sa).e a1).c a2<|djs<|mm1 ar.lt<|lt_ (lt_ h3.s s1.s) sa.s).at z)<|R z (b_E z z)<|Wx z (fun W=>?_) (fun W=>?_)
  ·exact Ws<|Rw z<|Wr<|rtO<|qL (som<|ifT af W).symm<|e_ hr z ⟨bM (bup (bup (bup (bM (bup (bup h2 s5) h4) h3<|m1 hd) s1) sa) a1) a2<|m1<|lt_ (lt_ (lt_ (lt_ hd h4.s) h3.s) s1.s) sa.s,z⟩
  exact Wk<|Wg<|R z (inc_ ad (lt_ (repS.len a0) H_) z z)<|Rm z<|Wl (fun _ q=>⟨(),(som<|ifF af W).symm,⟨q.k<|s6 z z z z z z,bM (bup sa a1) a2<|m1 sa.s⟩⟩)
 ·rintro _ _ _ ⟨b0,bK⟩;refine Wu ?_ b0;refine Ws<|Rl z z z<|Wn<|Wq<|Wc z (fun hc=>(Y_ hc).elim) (fun _=>?_)
  exact We<|fun _ q=>⟨rfl,⟨q.k<|s3 z z z,bK⟩⟩
 ·rintro _ bL wi rfl ⟨_,sb⟩;have b1:=elL ab;revert bL;refine Wo<|Wq<|Ws<|Rf z M_ z ?_
  have aQ:=(hk.e s1).e sb;refine R z (l0 w_ z<|aQ.at z) ?_;have a3:=(((h4.ag B).c h3<|c_ az).e s1).e sb;refine R z (lnR r_ z<|hj.g a3)<|Rm z<|Wn ?_
  obtain ⟨_,b2,ah⟩:=bdS b1;refine Wf (σ:=Unit) (ρ:=Bool) (fun (a4:Nat)(_:Unit) a w=>Sat 65 [(1,vI x2),(2,pt w0.z),(5,pt I.z),(48,sl ae nf cg),(49,vI (J.kids.length:Int)),(50,vI ((a4:Nat):Int))] a/\Below wi.z wi w) (fun (_:Unit) a w=>Sat 65 [(2,pt w0.z),(5,pt I.z)] a/\Below wi.z wi w) (rQ prog fn<|Q7 w0 B) b2 ?_ ?_ ?_ ?_ ?_
  ·exact fun _ q=>⟨q.k<|s6 z z z z z z,br wi⟩
  ·rintro a4 _ _ wl _ ai ⟨b3,a5⟩ b4;refine Wu ?_ b3;refine Ws<|Rl z z z<|Wn<|Wq<|Wc z (fun _=>?_) (fun hc=>(X_ ai hc).elim)
   refine Wk<|Wq<|Wb<|Ws ?_
   obtain ⟨aR,bN,b5⟩:=bdS b4;refine RX z (at_ (α:=Int) r_ z_3 z z z (hj.g<|a3.e a5) bN) ?_;rintro _ ⟨_,_,_,rfl,bO,bP,_⟩;obtain ⟨rfl,_⟩:=O_ bP;refine R z (l0 g_3 z<|bO.at0 z)<|Rw z<|Wq ?_
   obtain ⟨bQ,aj,ak⟩:=bdS b5;refine Wt (fun a w=>∃(a6:Bool),a6=bQ/\Sat 65 [(1,vI x2),(2,pt w0.z),(5,pt I.z),(48,sl ae nf cg),(49,vI (J.kids.length:Int)),(50,vI ((a4:Nat):Int)),(60,vB a6)] a/\Below wl.z wl w) ?_ ?_
   ·refine Wg<|Rm z<|Rl z z z<|Rm z ?_
    rcases bs (decide<|aR<0) with H | H
    ·iterate 3 refine Nh z H ?_
     exact R z (pT z H z)<|Wl (fun _ q=>⟨true,som<|ifT aj H,q.k<|s7 z z z z z z z,br wl⟩)
    exact Rh z H (mv z)<|Rh z H (mv z)<|Rh z H (b_f z z)<|R z (pF z H z)<|Wl (fun _ q=>⟨decide<|x2<=aR,som<|ifF aj H,q.k<|s7 z z z z z z z,br wl⟩)
   rintro bR _ ⟨a6,rfl,_,aS⟩;revert bR;refine Wo<|Wc z (fun Y=>?_) (fun Y=>?_)
   ·exact Ws<|Rw z<|Wr<|rtO<|qL (som<|ifT ak Y).symm<|e_ hr z ⟨bup (bup (bup (bup (bM (bup (bup h2 s5) h4) h3<|m1 hd) s1) sb) a5) aS,z⟩
   exact Wk<|Wg<|R z (inc_ ai (lt_ (repS.len hj) H_) z z)<|Rm z<|Wl (fun _ q=>⟨(),(som<|ifF ak Y).symm,⟨q.k<|s6 z z z z z z,bup a5 aS⟩⟩)
  ·rintro _ _ _ ⟨b6,bS⟩;refine Wu ?_ b6;refine Ws<|Rl z z z<|Wn<|Wq<|Wc z (fun hc=>(Y_ hc).elim) (fun _=>?_)
   exact We<|fun _ q=>⟨rfl,⟨q.k<|s2 z z,bS⟩⟩
  ·rintro _ bT _ rfl ⟨_,sc⟩;have b7:=elL ah;revert bT;refine Wo<|Ws<|R z (lN (vs:=[sl A0 N0 C0]) D_ C_ z z fid<|((ay.e sb).e sc).row 0 1 z)<|R z (lN (vs:=vR J aq nr cs au nt cv aw nx cy ae nf cg) G_ n_ z z fid<|(aQ.e sc).row 0 8 z) ?_
   have hn:=a3.e sc;obtain ⟨_,bU,b8⟩:=bdS b7;refine E z (fc call121 z<|W_w2f bU (zt' O<|lt_ (lt_ (lt_ (lt_ (lt_ hd h4.s) h3.s) s1.s) sb.s) sc.s) (L.g<|(aA.e sb).e sc) ao bj bk (bm.g hn) (bn.g hn) (bo.g hn)<|hj.g hn) ?_;rintro _ _ ⟨bV,rfl⟩;refine Rw z ?_
   obtain rfl:=som b8;exact Wr<|e_ hr z ⟨bup (bup (bup (bup (bM (bup (bup h2 s5) h4) h3<|m1 hd) s1) sb) sc) bV,z⟩
  rintro _ _ _ _ rfl ⟨rfl,b9⟩;have ba:=elR ah;obtain rfl:=som ba;exact ⟨b9,z⟩
 rintro _ _ _ _ rfl ⟨rfl,bb⟩;have bc:=elR ab;obtain rfl:=som bc;exact ⟨bb,z⟩
theorem W_w2h {x1:g_}{res:Bool}(hm:f_Q n x1=some res)(O:B<=w0.z)(G:repS w0 B (sl A0 N0 C0) x1.rules):j_ prog 82 [(.agg #[sl A0 N0 C0])] w0 (Q7 w0 B res):=by
 unfold f_Q at hm
 refine goG func82 z z z fun fn hr=>Ws<|E z (fb z) ?_
 rintro _ wh ⟨rfl,V⟩;have h:=V.below;have W:Blk wh w0.z [sl A0 N0 C0]:=V.blk;refine Rw z<|Wq<|Ws<|Rf z a_9 z<|R z (l0 a_c z<|W.at z) ?_
 have Y:=G.e h;refine R z (lnR Q_ z Y) ?_;obtain ⟨_,ei,hma⟩:=bdS hm;refine E z (fc call112 z<|d_6 ei (zt' O h.s) (b_B<|repS.len Y) (ii z)<|ii z) ?_;rintro _ H ⟨s1,rfl⟩;refine R z (not_ z)<|Wx z (fun I=>?_) (fun I=>?_)
 ·refine Ws<|Rw z ?_
  obtain rfl:=som<|ifT hma I;exact Wr<|e_ hr z ⟨bup h s1,z⟩
 refine Wk<|Wq<|Ws<|Rf z a_9 z ?_
 have hb:=W.e s1;refine R z (l0 a_c z<|hb.at z) ?_;have hd:=(h.ag B).e s1;refine R z (lnR Q_ z<|G.g hd)<|Rm z<|Wn ?_
 obtain ⟨_,huj,hmc⟩:=bdS<|ifF hma I;refine Wf (σ:=Unit) (ρ:=Bool) (fun (ke:Nat)(_:Unit) a w=>Sat 20 [(1,pt w0.z),(11,vI (x1.rules.length:Int)),(12,vI ((ke:Nat):Int))] a/\Below H.z H w) (fun (_:Unit) a w=>Sat 20 [] a/\Below H.z H w) (rQ prog fn<|Q7 w0 B) huj ?_ ?_ ?_ ?_ ?_
 ·exact fun _ q=>⟨q.k<|s3 z z z,br H⟩
 ·rintro ke _ _ _ _ J ⟨hSk,s4⟩ hml;refine Wu ?_ hSk;refine Ws<|Rl z z z<|Wn<|Wq<|Wc z (fun _=>?_) (fun hc=>(X_ J hc).elim)
  refine Wk<|Wq<|Wb<|Wm z<|Rw z<|Ws<|R z (lN (vs:=[sl A0 N0 C0]) D_ C_ z z fid<|(hb.e s4).row 0 1 z)<|Rm z ?_
  obtain ⟨_,em,hmf⟩:=bdS hml;refine E z (fc call113 z<|W_w2g em (zt' O<|lt_ (lt_ h.s s1.s) s4.s) (G.g<|hd.e s4)<|ic (Nat.le_of_lt J)<|lt_ (repS.len G) H_) ?_;rintro _ _ ⟨sg,rfl⟩;refine R z (not_ z)<|Wx z (fun L=>?_) (fun L=>?_)
  ·exact Ws<|Rw z<|Wr<|rtO<|qL (som<|ifT hmf L).symm<|e_ hr z ⟨bup (bup (bup h s1) s4) sg,z⟩
  exact Wk<|Wg<|R z (inc_ J (lt_ (repS.len G) H_) z z)<|Rm z<|Wl (fun _ q=>⟨(),(som<|ifF hmf L).symm,⟨q.k<|s3 z z z,bup s4 sg⟩⟩)
 ·rintro _ _ _ ⟨hSn,so⟩;refine Wu ?_ hSn;refine Ws<|Rl z z z<|Wn<|Wq<|Wc z (fun hc=>(Y_ hc).elim) (fun _=>?_)
  exact We<|fun _ q=>⟨rfl,⟨q.k sn,so⟩⟩
 ·rintro _ ap _ rfl ⟨_,sq⟩;have hmr:=elL hmc;revert ap;refine Wo<|Ws<|Rw z ?_
  obtain rfl:=som hmr;exact Wr<|e_ hr z ⟨bup (bup h s1) sq,z⟩
 rintro _ _ _ _ rfl ⟨rfl,hqs⟩;have hmt:=elR hmc;obtain rfl:=som hmt;exact ⟨hqs,z⟩
theorem i_u {x1:g_}{x2:Int}{res:Bool}(hm:d_Y n x1 x2=some res)(I:B<=w0.z)(H:repS w0 B (sl A0 N0 C0) x1.rules)(L:inI x2):j_ prog 61 [(.agg #[sl A0 N0 C0]),vI x2] w0 (Q7 w0 B res):=by
 unfold d_Y at hm
 refine goG func61 z z z fun fn hr=>Ws<|E z (fb z) ?_
 rintro _ G ⟨rfl,h5⟩;have h1:=h5.below;have h6:Blk G w0.z [sl A0 N0 C0]:=h5.blk;refine Rw z<|Wq ?_
 obtain ⟨u8,O,hma⟩:=bdS hm;refine Wt (fun a w=>∃(x4:Bool),x4=u8/\Sat 12 [(4,vB x4)] a/\Below G.z G w) ?_ ?_
 ·refine Wg<|R z (lN (vs:=[sl A0 N0 C0]) D_ C_ z z fid<|h6.row 0 1 z) ?_
  obtain ⟨rb,ec,J⟩:=bdS O;refine E z (fc call82 z<|W_w2h ec (zt' I h1.s)<|H.e h1) ?_;rintro _ _ ⟨s2,rfl⟩;refine Rm z ?_
  rcases bs rb with h | h
  ·refine Rh z h (lN (vs:=[sl A0 N0 C0]) D_ C_ z z fid<|(h6.e s2).row 0 1 z)<|Rh z h (mv z) ?_
   obtain ⟨rd,ee,hmf⟩:=bdS<|ifT J h;refine Eg z z h z (fc call83 z<|i_r ee (zt' I<|lt_ h1.s s2.s) (H.g<|(h1.ag B).e s2) L) ?_;rintro _ _ ⟨sg,rfl⟩;exact R z (pT z h z)<|Ra z<|Wl (fun _ q=>⟨rd,som hmf,q.k<|s1 z,bup s2 sg⟩)
  iterate 3 refine Nh z h ?_
  exact R z (pF z h z)<|Ra z<|Wl (fun _ q=>⟨false,som<|ifF J h,q.k<|s1 z,s2⟩)
 rintro ah _ ⟨x4,rfl,_,si⟩;revert ah;refine Wo ?_;obtain rfl:=som hma;exact Wr<|e_ hr z ⟨bup h1 si,z⟩
def Q14 (w0:World)(B:Zone)(r:B_)(v:Value)(w':World):Prop:=Bw w0 w'/\(fun h=>(.agg #[vI h.at_,vI h.code])=v/\inI h.at_/\inI h.code) r
theorem f_1 {x1:S_}{b1 o1:Nat}{x2:Int}{x3:Int}{res:B_}(hm:c_Q x1 x2 x3=some res)(Y:B<=w0.z)(O:repS w0 B (sl A0 N0 C0) x1.d.rules)(H:repS w0 B (sl A1 N1 C1) x1.b)(V:inI x1.applied)(hC1:N_ w0 b1 o1 [sl A0 N0 C0,sl A1 N1 C1,vI x1.applied])(hC1b:B b1)(I:inI x2)(W:inI x3):j_ prog 86 [(.pointer<|some ⟨b1,o1,none⟩),vI x2,vI x3] w0 (Q14 w0 B res):=by
 unfold c_Q at hm
 refine goG func86 z z z fun fn hr=>Ws<|E z (fa b_4) ?_
 rintro _ J ⟨rfl,h2⟩;have h:=h2.below;have h3:Blk J w0.z [vI 0,vI 0]:=h2.blk;refine Wn<|Wq<|Wm z<|Rm z<|R z (I_ z)<|Rf z c_B z<|R z (l0 T_ z<|(hC1.e h).at (j:=1) z)<|R z (lnR l_ z<|H.e h)<|Rm z<|R z (sb_ z z)<|R z (a_b z z)<|Wx z (fun G=>?_) (fun G=>?_)
 ·refine Wm z<|R z (bP (parts:=[(0,.tmp 16),(1,.const<|.int .i64 1)]) (cs:=[vI x2,vI 1]) b_v z z)<|E0 (fs0 (cur':=[vI x2,vI 1]) y_ z z h3 z z z z) ?_
  rintro _ _ ⟨h5,s6⟩;refine Wn ?_;obtain rfl:=som<|ifT hm G;exact Wr<|e_ hr (o_ a_3 y_ z h5 z) ⟨bM h s6.one<|f_ lr,z,I,ii z⟩
 refine Wk<|Wm z<|Rm z<|R z (add_ z z)<|R z (bP (parts:=[(0,.tmp 20),(1,.const<|.int .i64 0)]) (cs:=[vI (h_ x2 x3),vI 0]) b_v z z)<|E0 (fs0 (cur':=[vI (h_ x2 x3),vI 0]) y_ z z h3 z z z z) ?_
 rintro _ _ ⟨L,s8⟩;refine Wn ?_;obtain rfl:=som<|ifF hm G;exact Wr<|e_ hr (o_ a_3 y_ z L z) ⟨bM h s8.one<|f_ lr,z,iA _ _,ii z⟩
theorem f_2 {x1:List UInt8}{x2:Bool}{res:Int}(hm:c_R x1 x2=some res)(V:B<=w0.z)(h:repS w0 B (sl A0 N0 C0) x1):j_ prog 47 [sl A0 N0 C0,vB x2] w0 (Q0 w0 B res):=by
 unfold c_R at hm
 refine goG func47 z z z fun fn hr=>Ws<|Rw z<|Wq<|Wm z<|R z (lnR l_ z h)<|R z (a_b z z)<|Wx z (fun H=>?_) (fun H=>?_)
 ·refine Ws<|Rw z ?_
  obtain rfl:=som<|ifT hm H;exact Wr<|e_ hr z ⟨br w0,z,ii z⟩
 refine Wk<|Ws<|Rw z<|Wq<|Wm z<|R z (lnR l_ z h)<|Rm z<|Wn ?_
 obtain ⟨_,huc,J⟩:=bdS<|ifF hm H;refine Wf (σ:=Int) (ρ:=Int) (fun (k5:Nat)(x0:Int) a w=>Sat 38 [(0,sl A0 N0 C0),(1,vB x2),(5,vI x0),(11,vI (x1.length:Int)),(12,vI ((k5:Nat):Int))] a/\Below w0.z w0 w/\inI x0) (fun (x0:Int) a w=>Sat 38 [(5,vI x0)] a/\Below w0.z w0 w/\inI x0) (rQ prog fn<|Q0 w0 B) huc ?_ ?_ ?_ ?_ ?_
 ·exact fun _ q=>⟨q.k<|s5 z z z z z,br w0,ii z⟩
 ·rintro k5 x0 _ G _ L ⟨hSd,s6,h2⟩ hme;refine Wu ?_ hSd;refine Ws<|Rl z z z<|Wn<|Wq<|Wc z (fun _=>?_) (fun hc=>(X_ L hc).elim)
  refine Wk<|Wq<|Wb<|Wm z<|Rw z<|Wm z<|Wn ?_
  obtain ⟨uf,hua,hmg⟩:=bdS hme;refine Wt (fun a w=>∃(x3:Int),x3=uf/\Sat 38 [(0,sl A0 N0 C0),(1,vB x2),(5,vI x3),(11,vI (x1.length:Int)),(12,vI ((k5:Nat):Int))] a/\Below G.z G w/\inI x3) ?_ ?_
  ·refine Wc z (fun I=>?_)<|fun I=>?_
   ·refine Wg<|Rm z<|R z (g_X z z (by decide))<|RM z z ?_
    have hb:=h.e s6;refine R z (lnR l_ z hb)<|R z (sb_ z z)<|Rm z<|R z (sb_ z z) ?_
    obtain ⟨xh,ei,hmj⟩:=bdS<|ifT hua I;refine RX z (at_ (α:=UInt8) l_ z_5 z z z hb ei) ?_;rintro _ ⟨_,_,_,rfl,hk,hl,_⟩;obtain rfl:=u8 hl;exact R z (l0 g_5 z<|hk.at0 z)<|R z (c_c d_5 d_3 z)<|R z (rd_or z z)<|Ra z<|Wl (fun _ q=>⟨c_2 .i64 (· ||| ·) (b_p .i64 x0 8)<|byteI xh,som hmj,q.k<|s5 z z z z z,br G,j_M _ _ _⟩)
   refine Wg<|Rm z<|R z (g_X z z (by decide))<|RM z z ?_
   obtain ⟨xm,en,hmo⟩:=bdS<|ifF hua I;refine RX z (at_ (α:=UInt8) l_ z_5 z z z (h.e s6) en) ?_;rintro _ ⟨_,_,_,rfl,hp,hq,_⟩;obtain rfl:=u8 hq;exact R z (l0 g_5 z<|hp.at0 z)<|R z (c_c d_5 d_3 z)<|R z (rd_or z z)<|Ra z<|Wl (fun _ q=>⟨c_2 .i64 (· ||| ·) (b_p .i64 x0 8)<|byteI xm,som hmo,q.k<|s5 z z z z z,br G,j_M _ _ _⟩)
  rintro ar _ ⟨x3,rfl,_,ss,ht⟩;revert ar;exact Wo<|Wg<|R z (inc_ L (lt_ (repS.len h) H_) z z)<|Rm z<|Wl (fun _ q=>⟨x3,(som hmg).symm,⟨q.k<|s5 z z z z z,bup s6 ss,ht⟩⟩)
 ·rintro x0 _ _ ⟨hSu,sv,h2⟩;refine Wu ?_ hSu;refine Ws<|Rl z z z<|Wn<|Wq<|Wc z (fun hc=>(Y_ hc).elim) (fun _=>?_)
  exact We<|fun _ q=>⟨rfl,⟨q.k<|s1 z,sv,h2⟩⟩
 ·rintro x0 aw _ rfl ⟨_,sx,h2⟩;have hmy:=elL J;revert aw;refine Wo<|Wm z<|Rw z ?_
  obtain rfl:=som hmy;exact Wr<|e_ hr z ⟨sx,z,h2⟩
 rintro _ _ _ _ rfl ⟨rfl,hqz⟩;have O:=elR J;obtain rfl:=som O;exact ⟨hqz,z⟩
def Q15 (w0:World)(g1:Nat)(B:Zone)(A0:Option Addr)(N0 C0:Nat)(A1:Option Addr)(N1 C1:Nat)(x1:S_)(r:Int×B_×Int)(v:Value)(w':World):Prop:=Chg (· ∈ [g1]) w0 w'/\un3 (fun G h H=>v = .tuple #[vI G,(.agg #[vI h.at_,vI h.code])]/\inI G/\inI h.at_/\inI h.code/\inI H/\Blk w' g1 [sl A0 N0 C0,sl A1 N1 C1,vI H]) r
theorem g_C {x1:S_}{g1:Nat}{x2:Int}{x3:Int}{res:Int×B_×Int}(hm:d_s x1 x2 x3=some res)(hB1:Blk w0 g1 [sl A0 N0 C0,sl A1 N1 C1,vI x1.applied])(L:B<=w0.z)(hBg:¬B g1)(O:repS w0 B (sl A0 N0 C0) x1.d.rules)(V:repS w0 B (sl A1 N1 C1) x1.b)(aP:inI x1.applied)(aQ:inI x2)(al:inI x3):j_ prog 84 [pt g1,vI x2,vI x3] w0 (Q15 w0 g1 B A0 N0 C0 A1 N1 C1 x1 res):=by
 unfold d_s at hm
 refine goG func84 z z z fun fn hr=>Ws<|Ra z<|E z (fa b_4) ?_
 rintro _ wf ⟨rfl,ho⟩;have hb:=ho.below;have I:Blk wf w0.z [vI 0,vI 0]:=ho.blk;refine Wn<|Wm z<|R z (I_ z)<|Rf z g_z z ?_
 have hp:=hB1.e hb;refine R z (l0 g_3 z<|hp.at z)<|R z (add_ z z)<|R z (I_ z)<|Rf z g_z z<|E0 (fs0 (cur':=[sl A0 N0 C0,sl A1 N1 C1,vI<|h_ x1.applied 1]) z_3 z z hp z z z z) ?_
 rintro _ J ⟨hq,ap⟩;have h1:=ap.one;refine Wn<|Wm z<|R z (I_ z)<|Rf z k_2 z<|Rf z a_9 z<|R z (l0 a_c z<|hq.at z)<|Rm z ?_
 obtain ⟨xr,aq,am⟩:=bdS hm;have ht:=(hb.ag B).c h1<|c_<|f_ hBg
 refine RX z (at_ (α:=a_) Q_ n_ z z z (O.g ht) aq) ?_;rintro _ ⟨_,_,_,rfl,ar,av,_⟩;obtain ⟨au,ns,cv,aw,nx,cy,az,Y,a0,a1,a2,a3,rfl,_,_,ax,_,_,_,_⟩:=a_y av;refine R z (lN (vs:=vR xr au ns cv aw nx cy az Y a0 a1 a2 a3) G_ n_ z z fid ar)<|E z (fa b_w) ?_
 rintro _ wg ⟨rfl,a4⟩;have h4:=a4.below;have a5:Blk wg J.z [(Str.v (⟨[]⟩:Str)),vI 0,vI 0,vB false,sl none 0 0,sl none 0 0,sl none 0 0,sl none 0 0]:=a4.blk;refine E0 (fs0 (cur':=vR xr au ns cv aw nx cy az Y a0 a1 a2 a3) n_ z z a5 z z z z) ?_;rintro _ a6 ⟨a7,ay⟩;have h2:=ay.one;refine Wn<|Wm z<|Rm z<|Rf z a_z z<|R z (l0 g_3 z<|a7.at z) ?_
 have hc:=lt_ hb.s h1.s;have hh:=(hq.e h4).c h2<|djs<|mm1 (Blk.lt hB1) hc
 have hi:=(ht.e h4).c h2<|c_ (or0 (f_ lr) (m_<|zt' L hc):∀k∈[J.z],¬B k)
 have hj:=lt_ (lt_ hc h4.s) h2.s;obtain ⟨H,aA,W⟩:=bdS am;refine E z (fc call86 z<|f_1 (B:=w0.z) aA (a_E hj) (repS.mono (O.g hi) L) (repS.mono (V.g hi) L) (iA _ _) (hh.row 0 3 z) (Blk.lt hB1) al ax) ?_;rintro _ wa ⟨G,rfl,a8,a9⟩;refine E z (fa b_4) ?_;rintro _ wk ⟨rfl,aa⟩;have h5:=aa.below;refine E0 (fs0 (cur':=[vI H.at_,vI H.code]) y_ z z (aa.blk:Blk wk wa.z [vI 0,vI 0]) z z z z) ?_;rintro _ ab ⟨hl,aB⟩;have h6:=aB.one;refine Wn<|Wq<|Ws<|Rf z c_h z<|R z (l0 g_3 z<|hl.at z)<|R z (nq z z)<|Wx z (fun hcm=>?_) (fun hcm=>?_)
 ·refine Wq (Wd (X:=noX) 4 (pl_ 3 [2]) mo (by kernel_rfl) fun aC sd _=>dR z z (lN (vs:=[vI H.at_,vI H.code]) a_3 y_ z z fid<|(hl.e sd).row 0 2 z)<|dQ z z z ?_);have ad:=mmr<|Blk.lt hB1
  refine dE0 z (fs0 (cur':=[vI H.at_,vI H.code]) y_ z z (((((((I.c h1<|atp ad).e h4).c h2<|djs<|mm1 I.lt h1.s).e G).e h5).c h6<|djs<|mm1 I.lt<|lt_ (lt_ (lt_ h1.s h4.s) h2.s) G.s).e sd) z z z z) (.inl z) ?_;rintro _ aD ⟨aE,aF⟩;have ae:=aF.one;refine pD<|Wo ?_
  obtain rfl:=som<|ifT W hcm;have af:=lt_ hj G.s;exact Wr<|a_o hr z (o_ a_3 y_ z aE z) ⟨(cM (d_ (cM (d_ (d_ (cM (d_ (cM (d_ (cr [g1] w0) hb:Chg (· ∈ [g1]) w0 wf) h1 (io sr):Chg (· ∈ [g1]) w0 J) h4:Chg (· ∈ [g1]) w0 wg) h2 (mor hc:∀k∈[J.z],k∈[g1]∨w0.z<=k):Chg (· ∈ [g1]) w0 a6) G:Chg (· ∈ [g1]) w0 wa) h5:Chg (· ∈ [g1]) w0 wk) h6 (mor af:∀k∈[wa.z],k∈[g1]∨w0.z<=k):Chg (· ∈ [g1]) w0 ab) sd:Chg (· ∈ [g1]) w0 aC) ae (mor lr:∀k∈[w0.z],k∈[g1]∨w0.z<=k):Chg (· ∈ [g1]) w0 aD),z,ii z,a8,a9,iA _ _,((((hh.e G).e h5).c h6<|djs<|mm1 (Blk.lt hB1) af).e sd).c ae<|djs ad⟩
 refine Wk<|Wq (Wd (X:=noX) 8192 (.rd 0<|.rd 1<|.rd 2<|.rd 3<|.rd 4<|.rd 5<|.rd 6<|.rd 7<|.rd 8<|.rd 9<|.rd 11<|.ef 10<|.rd 12<|.ef 13 .done) mo (by kernel_rfl) fun aG s7 _=>dM z z z<|dR z z (I_ z)<|dR z z (fd c_B z) ?_)
 have he:=lt_ hj G.s;have ah:=(((hh.e G).e h5).c h6<|djs<|mm1 (Blk.lt hB1) he).e s7;refine dR z z (l0 T_ z<|ah.at z)<|dM z z z<|dR z z (fd c_1 z) ?_
 have ai:=hl.e s7;refine dR z z (l0 g_3 z<|ai.at z) ?_;obtain ⟨_,aH,an⟩:=bdS<|ifF W hcm;refine dRX z z (rX l_ z_5 z z (V.g<|(((hi.e G).e h5).c h6<|c_ (or0 (f_ lr) (m_<|zt' L he):∀k∈[wa.z],¬B k)).e s7) z z aH) ?_;rintro _ ⟨_,_,_,rfl,aI⟩;refine dR z z (fd b_D z)<|dR z z (l0 g_4 z<|((((a7.e G).e h5).c h6<|djs<|mm1 a5.lt<|lt_ h2.s G.s).e s7).at z)<|dR z z (lN (vs:=[vI H.at_,vI H.code]) a_3 y_ z z fid<|ai.row 0 2 z) ?_
 obtain ⟨_,aJ,ao⟩:=bdS an;refine dE z z (fc call47 z<|f_2 aJ (zt' L<|lt_ (lt_ (lt_ he h5.s) h6.s) s7.s) aI) (.inr fun _ _ h=>F_<|h.1) ?_;rintro _ aK ⟨sn,rfl,aL⟩;refine dQ z z z ?_;have aj:=mmr<|Blk.lt hB1
 refine dE0 z (fs0 (cur':=[vI H.at_,vI H.code]) y_ z z ((((((((I.c h1<|atp aj).e h4).c h2<|djs<|mm1 I.lt h1.s).e G).e h5).c h6<|djs<|mm1 I.lt<|lt_ (lt_ (lt_ h1.s h4.s) h2.s) G.s).e s7).e sn) z z z z) (.inl z) ?_;rintro _ aM ⟨aN,aO⟩;have ak:=aO.one;refine pD<|Wo ?_
 obtain rfl:=som ao;exact Wr<|a_o hr z (o_ a_3 y_ z aN z) ⟨(cM (d_ (d_ (cM (d_ (d_ (cM (d_ (cM (d_ (cr [g1] w0) hb:Chg (· ∈ [g1]) w0 wf) h1 (io sr):Chg (· ∈ [g1]) w0 J) h4:Chg (· ∈ [g1]) w0 wg) h2 (mor hc:∀k∈[J.z],k∈[g1]∨w0.z<=k):Chg (· ∈ [g1]) w0 a6) G:Chg (· ∈ [g1]) w0 wa) h5:Chg (· ∈ [g1]) w0 wk) h6 (mor he:∀k∈[wa.z],k∈[g1]∨w0.z<=k):Chg (· ∈ [g1]) w0 ab) s7:Chg (· ∈ [g1]) w0 aG) sn:Chg (· ∈ [g1]) w0 aK) ak (mor lr:∀k∈[w0.z],k∈[g1]∨w0.z<=k):Chg (· ∈ [g1]) w0 aM),z,aL,a8,a9,iA _ _,(ah.e sn).c ak<|djs aj⟩
theorem W_w2i {x1:S_}{b1 o1:Nat}{x2:a_}{x3:Int}{res:B_}(hm:f_R x1 x2 x3=some res)(af:B<=w0.z)(a6:repS w0 B (sl A0 N0 C0) x1.d.rules)(V:repS w0 B (sl A1 N1 C1) x1.b)(a7:inI x1.applied)(hC1:N_ w0 b1 o1 [sl A0 N0 C0,sl A1 N1 C1,vI x1.applied])(hC1b:B b1)(a8:x2.name.b.length<=LEN)(a9:inI x2.kind)(aa:inI x2.size)(H:repS w0 B (sl A3 N3 C3) x2.bytes)(ab:repS w0 B (sl A4 N4 C4) x2.names)(ad:repS w0 B (sl A2 N2 C2) x2.tags)(ae:repS w0 B (sl A5 N5 C5) x2.kids)(W:inI x3):j_ prog 85 [(.pointer<|some ⟨b1,o1,none⟩),.agg #[Str.v x2.name,vI x2.kind,vI x2.size,vB x2.little,sl A3 N3 C3,sl A4 N4 C4,sl A2 N2 C2,sl A5 N5 C5],vI x3] w0 (Q14 w0 B res):=by
 unfold f_R at hm
 refine goG func85 z z z fun fn hr=>Ws<|E z (fb z) ?_
 rintro _ I ⟨rfl,hb⟩;have h:=hb.below;refine E z (fa b_4) ?_;rintro _ G ⟨rfl,hd⟩;have h3:=hd.below;have L:Blk G I.z [vI 0,vI 0]:=hd.blk;refine Wn<|Wq<|Ws<|Rf z a_I z ?_
 have he:=(hb.blk:Blk I w0.z (vR x2 A3 N3 C3 A4 N4 C4 A2 N2 C2 A5 N5 C5)).e h3;refine R z (l0 T_ z<|he.at z) ?_;have O:=(h.ag B).e h3;refine R z (lnR l_ z<|H.g O)<|Rm z<|Wn ?_
 obtain ⟨_,hum,hmc⟩:=bdS hm;refine Wf (σ:=Unit) (ρ:=B_) (fun (k5:Nat)(_:Unit) a w=>Sat 50 [(0,.pointer<|some ⟨b1,o1,none⟩),(2,vI x3),(4,pt w0.z),(6,pt I.z),(10,sl A3 N3 C3),(11,vI (x2.bytes.length:Int)),(12,vI ((k5:Nat):Int))] a/\Below G.z G w) (fun (_:Unit) a w=>Sat 50 [(2,vI x3),(4,pt w0.z),(6,pt I.z)] a/\Below G.z G w) (rQ prog fn<|Q14 w0 B) hum ?_ ?_ ?_ ?_ ?_
 ·exact fun _ q=>⟨q.k<|s7 z z z z z z z,br G⟩
 ·rintro k5 _ _ _ _ hkf ⟨hSn,s1⟩ hmo;refine Wu ?_ hSn;refine Ws<|Rl z z z<|Wn<|Wq<|Wc z (fun _=>?_) (fun hc=>(X_ hkf hc).elim)
  refine Wk<|Wq<|Wb<|Wm z ?_
  obtain ⟨_,ep,hmg⟩:=bdS hmo;have hh:=O.e s1;refine RX z (at_ (α:=UInt8) l_ z_5 z z z (H.g hh) ep) ?_;rintro _ ⟨_,_,_,rfl,hq,ht,_⟩;obtain rfl:=u8 ht;refine R z (l0 g_5 z<|hq.at0 z)<|Ra z<|Rw z<|Wq<|Wm z<|Rm z<|R z (add_ z z)<|Rm z<|R z (I_ z)<|Rf z c_B z ?_
  have hi:=((hC1.e h).e h3).e s1;refine R z (l0 T_ z<|hi.at (j:=1) z) ?_;have hj:=V.g hh;refine R z (lnR l_ z hj)<|Rq z z z<|Wx z (fun J=>?_) (fun J=>?_)
  ·refine Wm z<|R z (bP (parts:=[(0,.tmp 26),(1,.const<|.int .i64 1)]) (cs:=[vI x3,vI 1]) b_v z z)<|E0 (fs0 (cur':=[vI x3,vI 1]) y_ z z (L.e s1) z z z z) ?_
   rintro _ _ ⟨hu,sr⟩;exact Wn<|Wr<|rtO<|qL (som<|ifT hmg J).symm<|e_ hr (o_ a_3 y_ z hu z) ⟨bM (bup (bup h h3) s1) sr.one<|m1 h.s,z,W,ii z⟩
  refine Wk<|Wm z<|R z (I_ z)<|Rf z c_B z<|R z (l0 T_ z<|hi.at (j:=1) z)<|RM z z<|R z (add_ z z) ?_
  obtain ⟨_,es,hmk⟩:=bdS<|ifF hmg J;refine RX z (at_ (α:=UInt8) l_ z_5 z z z hj es) ?_;rintro _ ⟨_,_,_,rfl,hv,hw,_⟩;obtain rfl:=u8 hw;refine R z (l0 g_5 z<|hv.at0 z)<|Rm z<|R z (nq z z)<|Wx z (fun hca=>?_) (fun hca=>?_)
  ·refine Wm z<|Rm z<|R z (add_ z z)<|R z (bP (parts:=[(0,.tmp 41),(1,.const<|.int .i64 2)]) (cs:=[(vI<|h_ x3 ((k5:Nat):Int)),vI 2]) b_v z z)<|E0 (fs0 (cur':=[(vI<|h_ x3 ((k5:Nat):Int)),vI 2]) y_ z z (L.e s1) z z z z) ?_
   rintro _ _ ⟨hx,sy⟩;exact Wn<|Wr<|rtO<|qL (som<|ifT hmk hca).symm<|e_ hr (o_ a_3 y_ z hx z) ⟨bM (bup (bup h h3) s1) sy.one<|m1 h.s,z,iA _ _,ii z⟩
  exact Wk<|Wg<|R z (inc_ hkf (lt_ (repS.len H) H_) z z)<|Rm z<|Wl (fun _ q=>⟨(),(som<|ifF hmk hca).symm,⟨q.k<|s7 z z z z z z z,s1⟩⟩)
 ·rintro _ _ _ ⟨hSz,a2⟩;refine Wu ?_ hSz;refine Ws<|Rl z z z<|Wn<|Wq<|Wc z (fun hc=>(Y_ hc).elim) (fun _=>?_)
  exact We<|fun _ q=>⟨rfl,⟨q.k<|s3 z z z,a2⟩⟩
 ·rintro _ a3 _ rfl ⟨_,s6⟩;have Y:=elL hmc;revert a3;refine Wo<|Wm z<|Rf z a_I z<|R z (l0 T_ z<|(he.e s6).at z)<|R z (lnR l_ z<|H.g<|O.e s6)<|R z (add_ z z)<|R z (bP (parts:=[(0,.tmp 48),(1,.const<|.int .i64 0)]) (cs:=[(vI<|h_ x3 (x2.bytes.length:Int)),vI 0]) b_v z z)<|E0 (fs0 (cur':=[(vI<|h_ x3 (x2.bytes.length:Int)),vI 0]) y_ z z (L.e s6) z z z z) ?_
  rintro _ _ ⟨a4,a5⟩;refine Wn ?_;obtain rfl:=som Y;exact Wr<|e_ hr (o_ a_3 y_ z a4 z) ⟨bM (bup (bup h h3) s6) a5.one<|m1 h.s,z,iA _ _,ii z⟩
 rintro _ _ _ _ rfl ⟨rfl,a0⟩;have a1:=elR hmc;obtain rfl:=som a1;exact ⟨a0,z⟩
theorem i_v {x1:List UInt8}{res:Int}(hm:d_t x1=some res)(V:B<=w0.z)(h:repS w0 B (sl A0 N0 C0) x1):j_ prog 21 [sl A0 N0 C0] w0 (Q0 w0 B res):=by
 unfold d_t at hm
 refine goG func21 z z z fun fn hr=>Ws<|Rw z<|Ws<|Rw z<|Wq<|Wm z<|R z (lnR l_ z h)<|Rm z<|Wn ?_
 obtain ⟨_,I,G⟩:=bdS hm;refine Wf (σ:=Int) (ρ:=Int) (fun (k3:Nat)(x0:Int) a w=>Sat 19 [(3,vI x0),(6,sl A0 N0 C0),(7,vI (x1.length:Int)),(8,vI ((k3:Nat):Int))] a/\Below w0.z w0 w/\inI x0) (fun (x0:Int) a w=>Sat 19 [(3,vI x0)] a/\Below w0.z w0 w/\inI x0) (rQ prog fn<|Q0 w0 B) I ?_ ?_ ?_ ?_ ?_
 ·exact fun _ q=>⟨q.k<|s4 z z z z,br w0,ii z⟩
 ·rintro k3 x0 _ _ _ H ⟨J,s5,h1⟩ L;refine Wu ?_ J;refine Ws<|Rl z z z<|Wn<|Wq<|Wc z (fun _=>?_) (fun hc=>(X_ H hc).elim)
  refine Wk<|Wq<|Wb<|Ws ?_
  obtain ⟨O,ea,hmb⟩:=bdS L;refine RX z (at_ (α:=UInt8) l_ z_5 z z z (h.e s5) ea) ?_;rintro _ ⟨_,_,_,rfl,hd,he,_⟩;obtain rfl:=u8 he;exact R z (l0 g_5 z<|hd.at0 z)<|Rw z<|Wg<|RM z z<|R z (c_c d_5 d_3 z)<|R z (add_ z z)<|Rw z<|Wg<|R z (inc_ H (lt_ (repS.len h) H_) z z)<|Rm z<|Wl (fun _ q=>⟨h_ x0<|byteI O,(som hmb).symm,⟨q.k<|s4 z z z z,s5,iA _ _⟩⟩)
 ·rintro x0 _ _ ⟨hSc,sf,h1⟩;refine Wu ?_ hSc;refine Ws<|Rl z z z<|Wn<|Wq<|Wc z (fun hc=>(Y_ hc).elim) (fun _=>?_)
  exact We<|fun _ q=>⟨rfl,⟨q.k<|s1 z,sf,h1⟩⟩
 ·rintro x0 ag _ rfl ⟨_,sh,h1⟩;have hmi:=elL G;revert ag;refine Wo<|Wm z<|R z (g_W z z (by decide))<|Rw z ?_
  obtain rfl:=som hmi;exact Wr<|e_ hr z ⟨sh,z,j_K h1⟩
 rintro _ _ _ _ rfl ⟨rfl,hqj⟩;have hmk:=elR G;obtain rfl:=som hmk;exact ⟨hqj,z⟩
end Go.Vw
