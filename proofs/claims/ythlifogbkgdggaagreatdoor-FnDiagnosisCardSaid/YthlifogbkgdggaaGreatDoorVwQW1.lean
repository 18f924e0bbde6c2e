
import Derived.Test.YthlifogbkgdggaaGreatDoorVmB
import Derived.Test.YthlifogbkgdggaaGreatDoorVwQFacts
import Derived.Test.YthlifogbkgdggaaGreatDoorVwQExt
import Derived.ScopeJumps
import Derived.Recover
import Derived.Tactics
import Derived.Tactics2
import Derived.Laws.Pointers
import Derived.Lib.Hide
set_option linter.unusedVariables false
namespace Go.Vw
open Go.RowKit Dat Go.Proofs
open Go.Proofs.Tryz
open Go.Vw renaming b_K->Wq,c_b->Wg,WC.of_KC->Wo,b_U->Wl,e_E->Wc,d_R->Wr,h_X->Wu,h_K->pT,h_L->pF,g_D->fd,f_6->l1,e_6->lN,c_i->mv,b_N->asg,h_M->lnR,g_I->lss,f_7->eql,e_8->ext_,g_o->bP,g_E->add_,h_y->inc_,i_3->not_,h_N->at_,d_U->fc,d_T->fs,d_S->fb,g_e->fa,h_D->sr,h_I->cr,h_J->cM,h_H->bM,h_w->iS,h_v->iA,g_i->br,g_k->oA,h_z->bs,ltge->lg,inor->io,i_2->nq,i_0->lnT,i_1->sb_,h_B->ar_,h_A->al_,h_C->ds,i_X->m1,h_F->nr_,h_E->nl_,g_m->aa_,d_r->an_,e_D->Wb,g_j->u8,g_b->pD,h_l->We,h_x->Wt,h_u->fS,e_B->or_,h_Y->Wf,h_U->qL,g_a->Wd,h_Q->fN,g_n->na_,h_G->nj,h_R->f0,h_P->rX,h_S->tl_,h_T->ic
variable {A0:Option Addr}{N0 C0:Nat}{B:Zone}{w0:World}{n:Nat}{A6:Option Addr}{N6 C6:Nat}{A9:Option Addr}{A8:Option Addr}{AA:Option Addr}{AB:Option Addr}{N9 C9:Nat}{N8 C8:Nat}{NA CA:Nat}{NB CB:Nat}{A2:Option Addr}{A4:Option Addr}{A1:Option Addr}{A3:Option Addr}{N2 C2:Nat}{N4 C4:Nat}{N1 C1:Nat}{N3 C3:Nat}{A5:Option Addr}{N5 C5:Nat}{A7:Option Addr}{N7 C7:Nat}
def Q0 (w0:World)(B:Zone)(r:Bool)(v:Value)(w':World):Prop:=Bw w0 w'/\(fun G=>(vB G)=v) r
theorem W_w1j {x1:List UInt8}{res:Bool}(hm:g_c x1=some res)(H:B<=w0.z)(G:repS w0 B (sl A0 N0 C0) x1):j_ prog 4 [sl A0 N0 C0] w0 (Q0 w0 B res):=by
 unfold g_c at hm
 refine goG func4 z z z fun fn hr=>Ws<|Rw z<|Wm z<|R z (lnR l_ z G)<|R z (a_d z z)<|Rw z ?_
 obtain rfl:=som hm;exact Wr<|f_ hr z ⟨br w0,z⟩
def Q1 (w0:World)(B:Zone)(r:n_)(v:Value)(w':World):Prop:=Bw w0 w'/\(fun G=>∃g1 H I J,(pt g1)=v/\Blk w' g1 [.slice H I J,vI G.i,vI G.h]/\w0.z<=g1/\repS w' B (sl H I J) G.b/\inI G.i/\inI G.h) r
theorem W_w1k {x1:List UInt8}{res:n_}(hm:e_H n x1=some res)(L:B<=w0.z)(H:repS w0 B (sl A0 N0 C0) x1):j_ prog 16 [sl A0 N0 C0] w0 (Q1 w0 B res):=by
 unfold e_H at hm
 refine goG func16 z z z fun fn hr=>Ws<|Rw z<|Wm z<|R z (lnR l_ z H)<|R z (add_ z z)<|Rw z<|Wq<|Ws<|Rw z ?_
 obtain ⟨_,huh,hma⟩:=bdS hm;refine b_M (σ:=Int×Int) (ρ:=n_) (fun s a w=>un2 (fun x0 x2=>Sat 32 [(0,sl A0 N0 C0),(3,vI x0),(4,vI x2)] a/\Below w0.z w0 w/\inI x0/\inI x2) s) (fun s a w=>un2 (fun x0 x2=>Sat 32 [(0,sl A0 N0 C0),(3,vI x0)] a/\Below w0.z w0 w/\inI x0/\inI x2) s) (rQ prog fn<|Q1 w0 B) huh ?_ ?_ ?_ ?_
 ·exact fun _ q=>⟨q.k<|s3 z z z,br w0,iA _ _,ii z⟩
 ·rintro ⟨x0,x2⟩ _ I _ ⟨hSi,s5,h4,hb⟩ hmj;refine Wu ?_ hSi;refine Wq<|Wq ?_
  obtain ⟨ul,huc,hmd⟩:=bdS<|a_B hmj;refine Wt (fun a w=>∃(x6:Bool),x6=ul/\Sat 32 [(0,sl A0 N0 C0),(3,vI x0),(4,vI x2),(15,vB x6)] a/\Below I.z I w) ?_ ?_
  ·refine Wg<|RM z z<|R z (lnR l_ z<|H.e s5)<|Rl z z z<|Rm z ?_
   rcases bs (decide<|x2<(x1.length:Int)) with G | G
   ·exact Rh z G (mv z)<|Rh z G (lss z z)<|R z (pT z G z)<|Wl (fun _ q=>⟨decide<|x2<4000,som<|ifT huc G,q.k<|s4 z z z z,br I⟩)
   exact Nh z G<|Nh z G<|R z (pF z G z)<|Wl (fun _ q=>⟨false,som<|ifF huc G,q.k<|s4 z z z z,br I⟩)
  rintro am _ ⟨x6,rfl,_,s7⟩;revert am;refine Wo<|Wc z (fun J=>?_) (fun J=>?_)
  ·refine Wk<|Wq<|Wb<|Wg<|Rm z<|R z (c_j z z)<|RM z z ?_
   obtain ⟨xn,eo,hmp⟩:=bdS<|ifT hmd J;refine RX z (at_ (α:=UInt8) l_ z_5 z z z (H.g<|(s5.ag B).e s7) eo) ?_;rintro _ ⟨_,_,_,rfl,hq,ht,_⟩;obtain rfl:=u8 ht;exact R z (l0 g_5 z<|hq.at0 z)<|R z (b_A d_5 d_3 z)<|R z (add_ z z)<|R z (add_ z z)<|R z (g_F z z)<|Rw z<|Wg<|Rm z<|R z (add_ z z)<|Ra z<|Wl (fun _ q=>⟨(a_f .i64 (· &&& ·) (h_ (h_ (a_2 x0 137)<|byteI xn) 11) 1073741823,h_ x2 1),(som hmp).symm,⟨q.k<|s3 z z z,bup s5 s7,e_Q _ _ _,iA _ _⟩⟩)
  exact We<|fun _ q=>b_i (som<|ifF hmd J).symm ⟨q.k<|s2 z z,bup s5 s7,h4,hb⟩
 ·rintro ⟨x0,x2⟩ ar we rfl ⟨_,s9,h4,hb⟩;have hms:=elL hma;revert ar;refine Wo<|Wm z<|Rm z<|R z (bP (parts:=[(0,.tmp 28),(2,.tmp 29)]) (cs:=[sl A0 N0 C0,vI 0,vI x0]) n_X z z)<|E z (fb z) ?_
  rintro _ wv ⟨rfl,hf⟩;have hg:=hf.below;refine Rw z ?_
  obtain rfl:=som<|a_B hms;exact Wr<|f_ hr z ⟨bup s9 hg,we.z,A0,N0,C0,z,(hf.blk:Blk wv we.z [sl A0 N0 C0,vI 0,vI x0]),atp<|m1 s9.s,H.g<|(s9.ag B).e hg,ii z,h4⟩
 rintro _ _ _ _ rfl ⟨rfl,hqx⟩;have hmy:=elR hma;obtain rfl:=som hmy;exact ⟨hqx,z⟩
def Q2 (w0:World)(g1:Nat)(B:Zone)(A0:Option Addr)(N0 C0:Nat)(x1:n_)(r:Int×Int×Int)(v:Value)(w':World):Prop:=Chg (· ∈ [g1]) w0 w'/\un3 (fun G H I=>(vI G)=v/\inI G/\inI H/\inI I/\Blk w' g1 [sl A0 N0 C0,vI H,vI I]) r
theorem f_o {x1:n_}{g1:Nat}{res:Int×Int×Int}(hm:c_d x1=some res)(hB1:Blk w0 g1 [sl A0 N0 C0,vI x1.i,vI x1.h])(V:B<=w0.z)(hBg:¬B g1)(J:repS w0 B (sl A0 N0 C0) x1.b)(L:inI x1.i)(O:inI x1.h):j_ prog 71 [pt g1] w0 (Q2 w0 g1 B A0 N0 C0 x1 res):=by
 unfold c_d at hm
 refine goG func71 z z z fun fn hr=>Ws<|Rw z<|Wm z<|Rm z<|R z (a_0 z)<|Rf z h_8 z<|R z (l0 g_3 z<|hB1.at z)<|R z (c_j z z)<|R z (add_ z z)<|R z (a_0 z)<|Rf z h_8 z<|E0 (fs0 (cur':=[sl A0 N0 C0,vI x1.i,(vI<|h_ (a_2 x1.h 6364136223846793005) 1442695040888963407)]) z_3 z z hB1 z z z z) ?_
 rintro _ wd ⟨he,sf⟩;have ha:=sf.one;refine Wn<|Wq (Wd (X:=noX) 0 (pl_ 13 []) mo (by kernel_rfl) fun wg s5 _=>dM z z z<|dR z z (a_0 z)<|dR z z (fd h_8 z) ?_)
 have h6:=he.e s5;refine dR z z (l0 g_3 z<|h6.at z)<|dR z z (g_H z z (by decide))<|dM z z z<|dR z z (a_0 z)<|dR z z (fd h_8 z)<|dR z z (l0 g_3 z<|h6.at z)<|dR z z (g_H z z (by decide))<|dR z z (rd_xor z z)<|dR z z (g_F z z)<|dQ z z z<|pD<|Wo<|Wq<|Wq (Wd (X:=noX) 0 (pl_ 10 []) mo (by kernel_rfl) fun G s7 _=>dM z z z<|dR z z (a_0 z)<|dR z z (fd h_7 z) ?_)
 have H:=h6.e s7;refine dR z z (l0 g_3 z<|H.at z)<|dM z z z<|dR z z (a_0 z)<|dR z z (fd k_x z)<|dR z z (l0 Q_ z<|H.at z) ?_
 have hb:=((ha.agc B<|c_<|b_ hBg).e s5).e s7;refine dR z z (lnR l_ z<|J.g hb)<|dR z z (lss z z)<|pD<|Wo ?_
 obtain ⟨uh,huc,hmi⟩:=bdS hm;refine Wt (fun a w=>∃(x2:Int)(x3:Int),(x2,x3)=uh/\Sat 58 [(3,vI x2)] a/\Chg (· ∈ [g1]) G w/\inI x2/\inI x3/\Blk w g1 [sl A0 N0 C0,vI x3,(vI<|h_ (a_2 x1.h 6364136223846793005) 1442695040888963407)]) ?_ ?_
 ·refine Wc z (fun I=>?_)<|fun I=>?_
  ·refine Wq (Wd (X:=noX) 0 (pl_ 15 []) mo (by kernel_rfl) fun wj s9 _=>dM z z z<|dM z z z<|dR z z (a_0 z)<|dR z z (fd k_x z) ?_);have h4:=H.e s9;refine dR z z (l0 Q_ z<|h4.at z)<|dM z z z<|dR z z (a_0 z)<|dR z z (fd h_7 z)<|dR z z (l0 g_3 z<|h4.at z) ?_
   obtain ⟨xk,el,hmm⟩:=bdS<|ifT huc I;refine dRX z z (at_ (α:=UInt8) l_ z_5 z z z (J.g<|hb.e s9) el) ?_;rintro _ ⟨_,_,_,rfl,hn,ho,_⟩;obtain rfl:=u8 ho;refine dR z z (l0 g_5 z<|hn.at0 z)<|dR z z (b_A d_5 d_3 z)<|dR z z (add_ z z)<|dR z z (g_F z z)<|dQ z z z<|pD<|Wo<|Wg<|RM z z<|R z (a_0 z)<|Rf z h_7 z<|R z (l0 g_3 z<|h4.at z)<|R z (add_ z z)<|R z (a_0 z)<|Rf z h_7 z<|E0 (fs0 (cur':=[sl A0 N0 C0,vI<|h_ x1.i 1,(vI<|h_ (a_2 x1.h 6364136223846793005) 1442695040888963407)]) z_3 z z h4 z z z z) ?_
   rintro _ wp ⟨hq,ss⟩;refine Wl ?_;exact fun _ q=>⟨a_f .i64 (· &&& ·) (h_ (a_f .i64 (· &&& ·) (a_f .i64 (· ^^^ ·) (b_k .i64 (h_ (a_2 x1.h 6364136223846793005) 1442695040888963407) 33)<|b_k .i64 (h_ (a_2 x1.h 6364136223846793005) 1442695040888963407) 47) 255)<|byteI xk) 255,h_ x1.i 1,som hmm,q.k<|s1 z,(cM (e_ (cr [g1] G) s9:Chg (· ∈ [g1]) G wj) ss.one (io sr):Chg (· ∈ [g1]) G wp),e_Q _ _ _,iA _ _,hq⟩
  exact M_<|fun _ q=>⟨a_f .i64 (· &&& ·) (a_f .i64 (· ^^^ ·) (b_k .i64 (h_ (a_2 x1.h 6364136223846793005) 1442695040888963407) 33)<|b_k .i64 (h_ (a_2 x1.h 6364136223846793005) 1442695040888963407) 47) 255,x1.i,som<|ifF huc I,q.k<|s1 z,cr [g1] G,e_Q _ _ _,L,H⟩
 rintro ar wv ⟨x2,x3,rfl,_,sw,hx,hy,hz⟩;revert ar;refine Wo<|Wm z<|Rw z ?_
 obtain rfl:=som<|a_B hmi;exact Wr<|f_ hr z ⟨(cM (e_ (e_ (cM (cr [g1] w0) ha (io sr):Chg (· ∈ [g1]) w0 wd) s5:Chg (· ∈ [g1]) w0 wg) s7:Chg (· ∈ [g1]) w0 G) sw (io sr):Chg (· ∈ [g1]) w0 wv),z,hx,hy,iA _ _,hz⟩
theorem a_A {x1:n_}{g1:Nat}{x2:Int}{res:Int×Int×Int}(hm:a_1 x1 x2=some res)(hB1:Blk w0 g1 [sl A0 N0 C0,vI x1.i,vI x1.h])(I:B<=w0.z)(hBg:¬B g1)(H:repS w0 B (sl A0 N0 C0) x1.b)(J:inI x1.i)(L:inI x1.h)(a1:inI x2):j_ prog 43 [pt g1,vI x2] w0 (Q2 w0 g1 B A0 N0 C0 x1 res):=by
 unfold a_1 at hm
 refine goG func43 z z z fun fn hr=>Ws<|Rw z<|Wq<|Wm z<|R z (b_Y z z)<|Wx z (fun O=>?_) (fun O=>?_)
 ·refine Ws<|Rw z ?_
  obtain rfl:=som<|ifT hm O;exact Wr<|f_ hr z ⟨cr [g1] w0,z,ii z,J,L,hB1⟩
 have W:=ifF hm O;refine Wk<|Wq<|Wm z<|R z (b_Y z z)<|Wx z (fun V=>?_) (fun V=>?_)
 ·refine Wm z ?_
  obtain ⟨_,_,_,e5,a0⟩:=u_<|ifT W V;refine E z (fc call71 z<|f_o (B:=B) e5 hB1 I hBg H J L) ?_;rintro _ w7 ⟨s8,rfl,h9,ha,hb,hc⟩;refine Rm z ?_;obtain ⟨_,ed,hme⟩:=bdS a0;refine R z (e_9 z z<|nzS ed)<|Rw z ?_
  obtain rfl:=som hme;exact Wr<|f_ hr z ⟨(cM (cr [g1] w0) s8 (io sr):Chg (· ∈ [g1]) w0 w7),z,e_P h9,ha,hb,hc⟩
 refine Wk<|Wm z ?_
 obtain ⟨_,_,_,eg,hmh⟩:=u_<|ifF W V;refine E z (fc call71 z<|f_o (B:=B) eg hB1 I hBg H J L) ?_;rintro _ wi ⟨G,rfl,_,hj,hk,hl⟩;refine Rw z<|Wm z ?_
 obtain ⟨_,_,_,em,hmn⟩:=u_ hmh;refine E z (fc call71 z<|f_o (B:=B) em hl (zt' I G.s) hBg (H.c G<|c_<|b_ hBg) hj hk) ?_;rintro _ wo ⟨s3,rfl,_,hp,hq,ht⟩;refine Rw z<|Wm z ?_
 obtain ⟨_,_,_,er,hms⟩:=u_ hmn;refine E z (fc call71 z<|f_o (B:=B) er ht (zt' I<|lt_ G.s s3.s) hBg (H.g<|(G.agc B<|c_<|b_ hBg).c s3<|c_<|b_ hBg) hp hq) ?_;rintro _ wu ⟨sv,rfl,_,hw,hx,hy⟩;refine Rw z<|Wm z<|R z (c_j z z)<|Rm z<|R z (c_j z z)<|R z (add_ z z)<|Rm z<|R z (add_ z z)<|Rm z ?_
 obtain ⟨_,ez,Y⟩:=bdS hms;refine R z (e_9 z z<|nzS ez)<|Rw z ?_
 obtain rfl:=som Y;exact Wr<|f_ hr z ⟨(cM (cM (cM (cr [g1] w0) G (io sr):Chg (· ∈ [g1]) w0 wi) s3 (io sr):Chg (· ∈ [g1]) w0 wo) sv (io sr):Chg (· ∈ [g1]) w0 wu),z,e_P<|iA _ _,hw,hx,hy⟩
def Q3 (w0:World)(g1:Nat)(B:Zone)(A0:Option Addr)(N0 C0:Nat)(x1:n_)(r:Str×Int×Int)(v:Value)(w':World):Prop:=Chg (· ∈ [g1]) w0 w'/\un3 (fun G H I=>(Str.v G)=v/\G.b.length<=LEN/\inI H/\inI I/\Blk w' g1 [sl A0 N0 C0,vI H,vI I]) r
theorem W_w10 {x1:n_}{g1:Nat}{x2:List Str}{res:Str×Int×Int}(hm:c_R x1 x2=some res)(hB1:Blk w0 g1 [sl A0 N0 C0,vI x1.i,vI x1.h])(O:B<=w0.z)(hBg:¬B g1)(I:repS w0 B (sl A0 N0 C0) x1.b)(J:inI x1.i)(L:inI x1.h)(G:repS w0 B (sl A6 N6 C6) x2):j_ prog 92 [pt g1,sl A6 N6 C6] w0 (Q3 w0 g1 B A0 N0 C0 x1 res):=by
 unfold c_R at hm
 refine goG func92 z z z fun fn hr=>Ws<|Rw z<|Wm z<|RM z z<|R z (lnR a_k z G) ?_
 obtain ⟨_,_,_,Y,V⟩:=u_ hm;refine E z (fc call43 z<|a_A (B:=B) Y hB1 O hBg I J L<|a_t<|repS.len G) ?_;rintro _ w3 ⟨H,rfl,_,h4,h5,h6⟩;obtain ⟨_,e7,W⟩:=bdS V;refine RX z (at_ (α:=Str) a_k z_9 z z z (G.c H<|c_<|b_ hBg) e7) ?_;rintro _ ⟨_,_,_,rfl,h9,ha,_⟩;obtain ⟨rfl,hb⟩:=b_B ha;refine R z (l0 g_9 z<|h9.at0 z)<|Rw z ?_
 obtain rfl:=som W;exact Wr<|f_ hr z ⟨(cM (cr [g1] w0) H (io sr):Chg (· ∈ [g1]) w0 w3),z,hb,h4,h5,h6⟩
def Q4 (w0:World)(B:Zone)(r:Str)(v:Value)(w':World):Prop:=Bw w0 w'/\(fun G=>(Str.v G)=v/\G.b.length<=LEN) r
theorem e_n {x1:Int}{res:Str}(hm:b_d n x1=some res)(V:B<=w0.z)(O:inI x1):j_ prog 32 [vI x1] w0 (Q4 w0 B res):=by
 unfold b_d at hm
 refine goG func32 z z z fun fn hr=>Ws<|Rw z<|Wq<|Wm z<|Rq z z z<|Wx z (fun H=>?_) (fun H=>?_)
 ·refine Ws<|Rw z ?_
  obtain rfl:=som<|ifT hm H;exact Wr<|f_ hr z ⟨br w0,z,lb z⟩
 refine Wk<|Ws<|Rw z<|Wq<|Wm z<|Rw z ?_
 obtain ⟨_,huj,hmb⟩:=bdS<|ifF hm H;refine b_M (σ:=Str×Int) (ρ:=Str) (fun s a w=>un2 (fun x2 x0=>Sat 31 [(0,vI x1),(3,Str.v x2),(4,vI x0)] a/\Below w0.z w0 w/\x2.b.length<=LEN/\inI x0) s) (fun s a w=>un2 (fun x2 x0=>Sat 31 [(0,vI x1),(3,Str.v x2)] a/\Below w0.z w0 w/\x2.b.length<=LEN/\inI x0) s) (rQ prog fn<|Q4 w0 B) huj ?_ ?_ ?_ ?_
 ·exact fun _ q=>⟨q.k<|s3 z z z,br w0,lb z,O⟩
 ·rintro ⟨x2,x0⟩ _ G _ ⟨hSk,sc,h5,h6⟩ hml;have hmd:=a_B hml;refine Wu ?_ hSk;refine Wq<|Wm z<|R z (nq z z)<|Wx z (fun I=>?_) (fun I=>?_)
  ·refine Wk<|Wq<|Wb<|Wm z<|R z (e_9 z z (by decide))<|Rw z<|Wq<|Wm z<|Rl z z z<|Wn ?_
   obtain ⟨um,hue,hmn⟩:=bdS<|ifT hmd I;refine Wt (fun a w=>∃(x3:Int),x3=um/\Sat 31 [(0,vI x1),(3,Str.v x2),(4,vI x0),(5,vI x3)] a/\Below G.z G w/\inI x3) ?_ ?_
   ·refine Wc z (fun J=>?_)<|fun J=>?_
    ·exact Wg<|Rm z<|R z (rd_neg z)<|Ra z<|Wl (fun _ q=>⟨e_5<|a_u x0 10,som<|ifT hue J,q.k<|s4 z z z z,br G,l_k _⟩)
    exact M_<|fun _ q=>⟨a_u x0 10,som<|ifF hue J,q.k<|s4 z z z z,br G,e_P h6⟩
   rintro ao wp ⟨x3,rfl,_,sq,_⟩;revert ao;refine Wo<|Wg<|Rm z<|R z (add_ z z)<|R z (c_B d_3 d_5 z)<|E z (fS [(.tmp 21)] S_ z z z (Y_ z) (lb z)<|lb z) ?_
   rintro _ wr ⟨rfl,L⟩;have W:Blk wr wp.z [(vU<|byteI<|mkB<|h_ 48 x3)]:=L.blk;refine R z (j_r l_ d_9 d_5 z_5 z<|a_.rep<|a_l L a_E)<|Rm z ?_
   obtain ⟨xs,ef,hmt⟩:=bdS hmn;exact R z (a_o z z ef)<|Rw z<|Wg<|Rm z<|R z (d_y z z (by decide))<|Ra z<|Wl (fun _ q=>⟨(xs,b_7 x0 10),(som hmt).symm,⟨q.k<|s3 z z z,bup (bup sc sq) L.below,b_2 ef,d_Y _ _⟩⟩)
  exact We<|fun _ q=>b_i (som<|ifF hmd I).symm ⟨q.k<|s2 z z,sc,h5,h6⟩
 ·rintro ⟨x2,x0⟩ au _ rfl ⟨_,sg,h5,h6⟩;have hmv:=elL hmb;have hmh:=a_B hmv;revert au;refine Wo<|Wq<|Wm z<|Rl z z z<|Wx z (fun hca=>?_) (fun hca=>?_)
  ·refine Wm z ?_
   obtain ⟨_,ei,hmw⟩:=bdS<|ifT hmh hca;refine R z (a_o z z ei)<|Rw z ?_
   obtain rfl:=som hmw;exact Wr<|f_ hr z ⟨sg,z,b_2 ei⟩
  refine Wk<|Wm z<|Rw z ?_
  obtain rfl:=som<|ifF hmh hca;exact Wr<|f_ hr z ⟨sg,z,h5⟩
 rintro _ _ _ _ rfl ⟨rfl,hqx⟩;have hmy:=elR hmb;obtain rfl:=som hmy;exact ⟨hqx,z⟩
def Q5 (w0:World)(g1:Nat)(B:Zone)(A0:Option Addr)(N0 C0:Nat)(x1:n_)(r:Bool×Int×Int)(v:Value)(w':World):Prop:=Chg (· ∈ [g1]) w0 w'/\un3 (fun I G H=>(vB I)=v/\inI G/\inI H/\Blk w' g1 [sl A0 N0 C0,vI G,vI H]) r
theorem h_9 {x1:n_}{g1:Nat}{x2:Int}{res:Bool×Int×Int}(hm:c_S x1 x2=some res)(hB1:Blk w0 g1 [sl A0 N0 C0,vI x1.i,vI x1.h])(L:B<=w0.z)(hBg:¬B g1)(G:repS w0 B (sl A0 N0 C0) x1.b)(H:inI x1.i)(I:inI x1.h)(J:inI x2):j_ prog 41 [pt g1,vI x2] w0 (Q5 w0 g1 B A0 N0 C0 x1 res):=by
 unfold c_S at hm
 refine goG func41 z z z fun fn hr=>Ws<|Rw z<|Wm z<|Rm z ?_
 obtain ⟨_,_,_,V,O⟩:=u_ hm;refine E z (fc call43 z<|a_A (B:=B) V hB1 L hBg G H I J) ?_;rintro _ W ⟨s3,rfl,_,h4,h5,h6⟩;refine Rq z z z<|Rw z ?_
 obtain rfl:=som O;exact Wr<|f_ hr z ⟨(cM (cr [g1] w0) s3 (io sr):Chg (· ∈ [g1]) w0 W),z,h4,h5,h6⟩
def Q6 (w0:World)(g1:Nat)(B:Zone)(A0:Option Addr)(N0 C0:Nat)(x1:n_)(r:(List UInt8)×Int×Int)(v:Value)(w':World):Prop:=Chg (· ∈ [g1]) w0 w'/\un3 (fun O G H=>∃I J L S1,(sl I J L)=v/\a_ w' S1 (sl I J L) O/\inI G/\inI H/\Blk w' g1 [sl A0 N0 C0,vI G,vI H]/\S1.Nodup/\(∀k∈S1,w0.z<=k)) r
theorem h_a {x1:n_}{g1:Nat}{x2:Int}{res:(List UInt8)×Int×Int}(hm:c_x x1 x2=some res)(hB1:Blk w0 g1 [sl A0 N0 C0,vI x1.i,vI x1.h])(W:B<=w0.z)(hBg:¬B g1)(Y:repS w0 B (sl A0 N0 C0) x1.b)(a0:inI x1.i)(a1:inI x1.h)(a3:inI x2):j_ prog 44 [pt g1,vI x2] w0 (Q6 w0 g1 B A0 N0 C0 x1 res):=by
 unfold c_x at hm
 refine goG func44 z z z fun fn hr=>Ws<|Rw z<|Ws<|E z (f0 (α:=UInt8) S_) ?_
 rintro _ G ⟨ar,ns,ct,rfl,s8,hu⟩;refine Rw z<|Wq<|Ws<|Rw z ?_
 obtain ⟨_,huv,hmj⟩:=bdS hm;refine Wf (σ:=(List UInt8)×Int×Int) (ρ:=(List UInt8)×Int×Int) (fun (kk:Nat) s a w=>un3 (fun V x5 x6=>∃I J L H,Sat 20 [(0,pt g1),(1,vI x2),(5,sl I J L),(6,vI ((kk:Nat):Int))] a/\Chg (· ∈ ([g1]++[w0.z])) G w/\a_ w H (sl I J L) V/\H.Nodup/\(∀k∈H,k∈[w0.z]∨G.z<=k)/\inI x5/\inI x6/\Blk w g1 [sl A0 N0 C0,vI x5,vI x6]) s) (fun s a w=>un3 (fun V x5 x6=>∃I J L H,Sat 20 [(5,sl I J L)] a/\Chg (· ∈ ([g1]++[w0.z])) G w/\a_ w H (sl I J L) V/\H.Nodup/\(∀k∈H,k∈[w0.z]∨G.z<=k)/\inI x5/\inI x6/\Blk w g1 [sl A0 N0 C0,vI x5,vI x6]) s) (rQ prog fn<|Q6 w0 g1 B A0 N0 C0 x1) huv ?_ ?_ ?_ ?_ ?_
 ·exact fun _ q=>⟨ar,ns,ct,[w0.z],q.k<|s4 z z z z,cr ([g1]++[w0.z]) G,hu,a_q,io sr,a0,a1,hB1.e s8⟩
 ·rintro kk ⟨V,x5,x6⟩ _ ww _ hkl ⟨I,J,L,H,hSx,sc,ha,hb,O,hd,he,hf⟩ hmy;refine Wu ?_ hSx;refine Wq<|Wm z<|Rm z<|Rl z z z<|Wx z (fun _=>?_) (fun hc=>(g_q hkl hc).elim)
  refine Wk<|Wq<|Wb<|Wg<|RM z z ?_
  obtain ⟨aa,ab,ad,ae,a4⟩:=u_<|a_Q hmy;refine E z (fc call71 z<|f_o (B:=B) ae hf (zt' W<|lt_ s8.s sc.s) hBg (Y.g<|(s8.ag B).c sc<|nmA (c_<|b_ hBg)<|c_ (or0 (b_ lr) (i_ W):∀k∈[w0.z],¬B k)) hd he) ?_;rintro _ wm ⟨sh,rfl,_,af,ah,ai⟩;refine R z (c_B d_3 d_5 z)<|E z (fS [(.tmp 16)] S_ z z z (Y_ z) (lb z)<|lb z) ?_
  rintro _ wn ⟨rfl,hi⟩;have hg:=hi.below;have aA:=a_l hi a_E;have ho:∀k∈H,k∉[g1]:=or1 O (mmr<|Blk.lt hB1)<|W_ (b_<|Blk.lt hB1) s8.s;obtain ⟨aj,ak,a5⟩:=bdS a4;refine E z (a_H (α:=UInt8) S_ ak z z ((ha.c sh ho).e hg) hb (hi.blk:Blk wn wm.z [(vU<|byteI<|mkB aa)]) a_E an_ H_) ?_;rintro _ al ⟨Sp,am,an,ao,rfl,sq,ap,aq,au⟩;refine Rw z<|Wg<|Rm z<|R z (inc_ hkl (tl_ a3) z z)<|Ra z<|Wl ?_
  exact fun _ q=>⟨(aj,ab,ad),(som a5).symm,⟨am,an,ao,Sp,q.k<|s4 z z z z,(cM (e_ (cM (cM (cr ([g1]++[w0.z]) G) sc (aa_ (io<|r_ sr)<|io<|v_ sr):Chg (· ∈ ([g1]++[w0.z])) G ww) sh (io<|r_ sr):Chg (· ∈ ([g1]++[w0.z])) G wm) hg:Chg (· ∈ ([g1]++[w0.z])) G wn) sq (or1 O (io<|v_ sr) (x_ lr):∀k∈H,k∈([g1]++[w0.z])∨G.z<=k):Chg (· ∈ ([g1]++[w0.z])) G al),ap,aq,(or2 au (or1 O (io sr) (x_ lr):∀k∈H,k∈[w0.z]∨G.z<=k) an_ (x_<|lt_ (lt_ sc.s sh.s) hg.s):∀k∈Sp,k∈[w0.z]∨G.z<=k),af,ah,(ai.e hg).c sq<|djs ho⟩⟩
 ·rintro ⟨V,x5,x6⟩ _ av ⟨I,J,L,H,a6,aw,ha,hb,O,hd,he,hf⟩;refine Wu ?_ a6;refine Wq<|Wm z<|Rm z<|Rl z z z<|Wx z (fun hc=>(g_r hc).elim) (fun _=>?_)
  exact We<|fun _ q=>⟨rfl,⟨I,J,L,H,q.k<|s1 z,(cM (cr ([g1]++[w0.z]) G) aw (aa_ (io<|r_ sr)<|io<|v_ sr):Chg (· ∈ ([g1]++[w0.z])) G av),ha,hb,(or1 O (io sr) (x_ lr):∀k∈H,k∈[w0.z]∨G.z<=k),hd,he,hf⟩⟩
 ·rintro ⟨V,x5,x6⟩ ax ay rfl ⟨I,J,L,H,_,az,ha,hb,O,hd,he,hf⟩;have a7:=elL hmj;revert ax;refine Wo<|Wm z<|Rw z ?_
  obtain rfl:=som<|a_Q a7;exact Wr<|f_ hr z ⟨(cM (e_ (cr [g1] w0) s8:Chg (· ∈ [g1]) w0 G) az (aa_ (io sr) (mor lr:∀k∈[w0.z],k∈[g1]∨w0.z<=k)):Chg (· ∈ [g1]) w0 ay),I,J,L,H,z,ha,hd,he,hf,hb,(or1 O (b_ lr) (a_R s8.s):∀k∈H,w0.z<=k)⟩
 rintro _ _ _ _ rfl ⟨rfl,a8⟩;have a9:=elR hmj;obtain rfl:=som a9;exact ⟨a8,z⟩
theorem h_b {x1:n_}{g1:Nat}{x2:List Int}{res:Int×Int×Int}(hm:c_T x1 x2=some res)(hB1:Blk w0 g1 [sl A0 N0 C0,vI x1.i,vI x1.h])(O:B<=w0.z)(hBg:¬B g1)(I:repS w0 B (sl A0 N0 C0) x1.b)(J:inI x1.i)(L:inI x1.h)(G:repS w0 B (sl A6 N6 C6) x2):j_ prog 70 [pt g1,sl A6 N6 C6] w0 (Q2 w0 g1 B A0 N0 C0 x1 res):=by
 unfold c_T at hm
 refine goG func70 z z z fun fn hr=>Ws<|Rw z<|Wm z<|RM z z<|R z (lnR q_ z G) ?_
 obtain ⟨_,_,_,Y,V⟩:=u_ hm;refine E z (fc call43 z<|a_A (B:=B) Y hB1 O hBg I J L<|a_t<|repS.len G) ?_;rintro _ w3 ⟨H,rfl,_,h4,h5,h6⟩;obtain ⟨_,e7,W⟩:=bdS V;refine RX z (at_ (α:=Int) q_ z_3 z z z (G.c H<|c_<|b_ hBg) e7) ?_;rintro _ ⟨_,_,_,rfl,h9,ha,_⟩;obtain ⟨rfl,hb⟩:=J_ ha;refine R z (l0 g_3 z<|h9.at0 z)<|Rw z ?_
 obtain rfl:=som W;exact Wr<|f_ hr z ⟨(cM (cr [g1] w0) H (io sr):Chg (· ∈ [g1]) w0 w3),z,hb,h4,h5,h6⟩
theorem i_w {x1:n_}{g1:Nat}{x2:d_}{res:Int×Int×Int}(hm:d_k x1 x2=some res)(hB1:Blk w0 g1 [sl A0 N0 C0,vI x1.i,vI x1.h])(a0:B<=w0.z)(hBg:¬B g1)(a1:repS w0 B (sl A0 N0 C0) x1.b)(a2:inI x1.i)(a3:inI x1.h)(Y:repS w0 B (sl A6 N6 C6) x2.rules):j_ prog 93 [pt g1,(.agg #[sl A6 N6 C6])] w0 (Q2 w0 g1 B A0 N0 C0 x1 res):=by
 unfold d_k at hm
 refine goG func93 z z z fun fn hr=>Ws<|E z (fb z) ?_
 rintro _ G ⟨rfl,ht⟩;have h3:=ht.below;have hf:Blk G w0.z [sl A6 N6 C6]:=ht.blk;refine Rw z<|Ws<|E z (f0 (α:=Int) b_0) ?_
 rintro _ I ⟨ai,ak,al,rfl,s7,am⟩;refine Rw z<|Wq<|Ws<|Rw z ?_
 obtain ⟨_,a5,hms⟩:=bdS hm;refine Wf (σ:=List Int) (ρ:=Int×Int×Int) (fun (kc:Nat)(W:List Int) a w=>∃J L O H,Sat 29 [(0,pt g1),(3,pt w0.z),(5,sl J L O),(6,vI ((kc:Nat):Int))] a/\Chg (· ∈ [G.z]) I w/\a_ w H (sl J L O) W/\H.Nodup/\(∀k∈H,k∈[G.z]∨I.z<=k)) (fun (W:List Int) a w=>∃J L O H,Sat 29 [(0,pt g1),(5,sl J L O)] a/\Chg (· ∈ [G.z]) I w/\a_ w H (sl J L O) W/\H.Nodup/\(∀k∈H,k∈[G.z]∨I.z<=k)) (rQ prog fn<|Q2 w0 g1 B A0 N0 C0 x1) a5 ?_ ?_ ?_ ?_ ?_
 ·exact fun _ q=>⟨ai,ak,al,[G.z],q.k<|s4 z z z z,cr [G.z] I,am,a_q,io sr⟩
 ·rintro kc W _ V _ hkg ⟨J,L,O,H,a6,sh,ha,hd,he⟩ a7;refine Wu ?_ a6;refine Wq<|Wm z<|Rf z N_ z ?_
  have hu:=(hf.e s7).c sh<|djs<|mmr hf.lt
  refine R z (l0 R_ z<|hu.at z) ?_;have hv:=Y.g<|((h3.ag B).e s7).c sh<|c_ (or0 (b_ lr) (i_<|zt' a0 h3.s):∀k∈[G.z],¬B k)
  refine R z (lnR P_ z hv)<|Rl z z z<|Wx z (fun _=>?_) (fun hc=>(a_4 hkg hc).elim)
  refine Wk<|Wq<|Wb<|Ws<|Rf z N_ z<|R z (l0 R_ z<|hu.at z)<|Rm z ?_
  obtain ⟨_,an,a8⟩:=bdS a7;refine RX z (at_ (α:=g_) P_ k_ z z z hv an) ?_;rintro _ ⟨_,_,_,rfl,ao,ap,_⟩;obtain ⟨_,_,_,_,_,_,_,_,_,_,_,_,rfl,_,_,_,_,_,_,_⟩:=a_j ap;refine Rf z a_i z<|R z (l0 g_3 z<|ao.at (j:=1) z)<|Rq z z z<|Wn ?_
  obtain ⟨aq,huw,a9⟩:=bdS a8;refine Wt (fun a w=>∃(xi:List Int),xi=aq/\∃aj nk cl Sb,Sat 29 [(0,pt g1),(3,pt w0.z),(5,sl aj nk cl),(6,vI ((kc:Nat):Int))] a/\Chg (· ∈ H) V w/\a_ w Sb (sl aj nk cl) xi/\Sb.Nodup/\(∀k∈Sb,k∈H∨V.z<=k)) ?_ ?_
  ·refine Wc z (fun hcn=>?_)<|fun hcn=>?_
   ·refine Wg<|RM z z<|E z (fS [(.tmp 23)] b_0 z z z (Y_ z) (lb z)<|lb z) ?_
    rintro _ wx ⟨rfl,ho⟩;have hp:=ho.below;have aS:=a_l ho<|a_P<|ic (Nat.le_of_lt hkg)<|lt_ (repS.len Y) L_
    obtain ⟨ar,au,aa⟩:=bdS<|ifT huw hcn;refine E z (a_H (α:=Int) b_0 au z z (ha.e hp) hd (ho.blk:Blk wx V.z [(vI ((kc:Nat):Int))]) (a_P<|ic (Nat.le_of_lt hkg)<|lt_ (repS.len Y) L_) an_ H_) ?_;rintro _ av ⟨Sy,aw,ax,ay,rfl,az,aA,aB,aC⟩;refine Ra z<|Wl ?_
    exact fun _ q=>⟨ar,som aa,aw,ax,ay,Sy,q.k<|s4 z z z z,(cM (e_ (cr H V) hp:Chg (· ∈ H) V wx) az (io sr):Chg (· ∈ H) V av),aA,aB,(or2 aC (io sr) an_ (x_ hp.s):∀k∈Sy,k∈H∨V.z<=k)⟩
   exact M_<|fun _ q=>⟨W,som<|ifF huw hcn,J,L,O,H,q.k<|s4 z z z z,cr H V,ha,hd,io sr⟩
  rintro aD aE ⟨xi,rfl,aj,nk,cl,Sb,_,aF,aG,aH,aI⟩;revert aD;refine Wo<|Wg<|Rm z<|R z (inc_ hkg (lt_ (repS.len Y) L_) z z)<|Ra z<|Wl ?_
  have hz:∀k∈H,k∈[G.z]∨I.z<=k:=or1 he (io sr)<|x_ lr;exact fun _ q=>⟨xi,(som a9).symm,⟨aj,nk,cl,Sb,q.k<|s4 z z z z,(cM (cM (cr [G.z] I) sh (io sr):Chg (· ∈ [G.z]) I V) aF hz:Chg (· ∈ [G.z]) I aE),aG,aH,(or1 aI hz (x_ sh.s):∀k∈Sb,k∈[G.z]∨I.z<=k)⟩⟩
 ·rintro W _ aJ ⟨J,L,O,H,ab,sq,ha,hd,he⟩;refine Wu ?_ ab;refine Wq<|Wm z<|Rf z N_ z<|R z (l0 R_ z<|((hf.e s7).c sq<|djs<|mmr hf.lt).at z) ?_
  refine R z (lnR P_ z<|Y.g<|((h3.ag B).e s7).c sq<|c_ (or0 (b_ lr) (i_<|zt' a0 h3.s):∀k∈[G.z],¬B k))<|Rl z z z<|Wx z (fun hc=>(a_5 hc).elim) (fun _=>?_)
  exact We<|fun _ q=>⟨rfl,⟨J,L,O,H,q.k<|s2 z z,(cM (cr [G.z] I) sq (io sr):Chg (· ∈ [G.z]) I aJ),ha,hd,(or1 he (io sr) (x_ lr):∀k∈H,k∈[G.z]∨I.z<=k)⟩⟩
 ·rintro W aK wr rfl ⟨J,L,O,H,_,sm,ha,hd,he⟩;have ad:=elL hms;revert aK;refine Wo<|Wm z<|Rm z ?_
  obtain ⟨_,_,_,aL,ae⟩:=u_ ad;refine E z (fc call70 z<|h_b (B:=zn B G.z wr.z) aL (((hB1.e h3).e s7).c sm<|djs<|mm1 (Blk.lt hB1) h3.s) (b_D (zt' a0<|lt_ (lt_ h3.s s7.s) sm.s) lr) (atp ((c_g (b_ hBg) (b_<|Blk.lt hB1) h3.s):∀k∈[g1],¬(zn B G.z wr.z) k)) (repS.mono (a1.g<|((h3.ag B).e s7).c sm<|c_ (or0 (b_ lr) (i_<|zt' a0 h3.s):∀k∈[G.z],¬B k)) a_W) a2 a3<|or_ ha<|zin (B:=B) (or1 he (b_ lr) (a_R s7.s):∀k∈H,G.z<=k)<|a_.lt ha) ?_;rintro _ aM ⟨aN,rfl,aO,aP,aQ,aR⟩;refine Rw z ?_
  obtain rfl:=som ae;exact Wr<|f_ hr z ⟨(cM (cM (e_ (e_ (cr [g1] w0) h3:Chg (· ∈ [g1]) w0 G) s7:Chg (· ∈ [g1]) w0 I) sm (mor h3.s:∀k∈[G.z],k∈[g1]∨w0.z<=k):Chg (· ∈ [g1]) w0 wr) aN (io sr):Chg (· ∈ [g1]) w0 aM),z,aO,aP,aQ,aR⟩
 rintro _ _ _ _ rfl ⟨rfl,af⟩;have ah:=elR hms;obtain rfl:=som ah;exact ⟨af,z⟩
def Q7 (w0:World)(g1:Nat)(B:Zone)(A0:Option Addr)(N0 C0:Nat)(x1:n_)(r:g_×Int×Int)(v:Value)(w':World):Prop:=Chg (· ∈ [g1]) w0 w'/\un3 (fun G H I=>∃J L O S1 V W Y S2 a3 n3 c3 S3 a4 n4 c4 S4,(.agg #[Str.v G.name,vI G.kind,vI G.size,vB G.little,sl J L O,sl V W Y,sl a3 n3 c3,sl a4 n4 c4])=v/\G.name.b.length<=LEN/\inI G.kind/\inI G.size/\a_ w' S1 (sl J L O) G.bytes/\a_ w' S2 (sl V W Y) G.names/\a_ w' S3 (sl a3 n3 c3) G.tags/\a_ w' S4 (sl a4 n4 c4) G.kids/\inI H/\inI I/\Blk w' g1 [sl A0 N0 C0,vI H,vI I]/\(S1++(S2++(S3++S4))).Nodup/\(∀k∈(S1++(S2++(S3++S4))),w0.z<=k)) r
theorem W_w11 {x1:n_}{g1:Nat}{x2:d_}{x3:Int}{res:g_×Int×Int}(hm:d_l n x1 x2 x3=some res)(hB1:Blk w0 g1 [sl A0 N0 C0,vI x1.i,vI x1.h])(J:B<=w0.z)(hBg:¬B g1)(Y:repS w0 B (sl A0 N0 C0) x1.b)(jO:inI x1.i)(jP:inI x1.h)(cp:repS w0 B (sl A6 N6 C6) x2.rules)(jQ:inI x3):j_ prog 65 [pt g1,.agg #[sl A6 N6 C6],vI x3] w0 (Q7 w0 g1 B A0 N0 C0 x1 res):=by
 unfold d_l at hm
 refine goG func65 z z z fun fn hr=>Ws<|E z (fb z) ?_
 rintro _ wb ⟨rfl,gH⟩;have bi:=gH.below;have cq:Blk wb w0.z [sl A6 N6 C6]:=gH.blk;refine E z (fa b_h) ?_;rintro _ aW ⟨rfl,gI⟩;have aj:=gI.below;have bj:Blk aW wb.z [(Str.v (⟨[]⟩:Str)),vI 0,vI 0,vB false,sl none 0 0,sl none 0 0,sl none 0 0,sl none 0 0]:=gI.blk;refine Wn<|Ws<|Rf z N_ z ?_
 have ct:=cq.e aj;refine R z (l0 R_ z<|ct.at z) ?_;have gJ:=(bi.ag B).e aj;have bk:=cp.g gJ;refine R z (lnR P_ z bk)<|Rw z<|Wm z<|E z (fS [(.const<|Str.v ⟨[97]⟩),.const<|Str.v ⟨[105,116,101,109]⟩,.const<|Str.v ⟨[98]⟩,.const<|Str.v ⟨[104,101,97,100]⟩,(.const<|Str.v ⟨[120]⟩)] b_R z z z (Y_ z) (lb z)<|lb z) ?_
 rintro _ bR ⟨rfl,gK⟩;have hi:=gK.below;have gL:a_ bR [aW.z] (sl (some ⟨aW.z,0,none⟩) 5 5) ([(⟨[97]⟩:Str),(⟨[105,116,101,109]⟩:Str),(⟨[98]⟩:Str),(⟨[104,101,97,100]⟩:Str),(⟨[120]⟩:Str)]:List Str):=g_u (l:=[(⟨[97]⟩:Str),(⟨[105,116,101,109]⟩:Str),(⟨[98]⟩:Str),(⟨[104,101,97,100]⟩:Str),(⟨[120]⟩:Str)]) (gK.blk:Blk bR aW.z [(Str.v (⟨[97]⟩:Str)),Str.v (⟨[105,116,101,109]⟩:Str),Str.v (⟨[98]⟩:Str),Str.v (⟨[104,101,97,100]⟩:Str),(Str.v (⟨[120]⟩:Str))]) (ac0 (lb z)<|ac0 (lb z)<|ac0 (lb z)<|ac0 (lb z)<|ac0 (lb z) an0) z;have hn:=gJ.e hi;have gM:=lt_ bi.s aj.s;have gN:=lt_ gM hi.s;obtain ⟨_,jR,jS,jT,iN⟩:=u_ hm;refine E z (fc call92 z<|W_w10 (B:=zn B aW.z bR.z) jT (((hB1.e bi).e aj).e hi) (b_D (zt' J gN) lr) (atp ((c_g (b_ hBg) (b_<|Blk.lt hB1) gM):∀k∈[g1],¬(zn B aW.z bR.z) k)) (repS.mono (Y.g hn) a_W) jO jP<|or_ gL<|zin (B:=B) (b_ lr)<|a_.lt gL) ?_;rintro _ jU ⟨sc,rfl,_,ho,hp,hq⟩;refine Rm z ?_;have hj:=lt_ gN sc.s;obtain ⟨_,jV,iO⟩:=bdS iN;refine E z (fc call32 z<|e_n jV (zt' J hj)<|a_t<|repS.len bk) ?_;rintro _ G ⟨s3,rfl,_⟩;obtain ⟨x5,gO,iP⟩:=bdS iO;refine R z (a_o z z gO)<|Rm z<|R z (bP (parts:=[(0,.tmp 19),(1,.tmp 20)]) (cs:=[Str.v x5,vI x3,vI 0,vB false,sl none 0 0,sl none 0 0,sl none 0 0,sl none 0 0]) n_W z z)<|E z (fa b_h) ?_
 rintro _ gP ⟨rfl,gQ⟩;have h4:=gQ.below;have ha:Blk gP G.z [(Str.v (⟨[]⟩:Str)),vI 0,vI 0,vB false,sl none 0 0,sl none 0 0,sl none 0 0,sl none 0 0]:=gQ.blk;refine E0 (fs0 (cur':=[Str.v x5,vI x3,vI 0,vB false,sl none 0 0,sl none 0 0,sl none 0 0,sl none 0 0]) k_ z z ha z z z z) ?_;rintro _ H ⟨ht,jW⟩;have I:=jW.one;refine Wn<|Wq<|Wm z<|Wn<|Wb<|Ws<|Rq z z z<|Rw z ?_
 obtain ⟨jX,gr,f4⟩:=bdS iP;refine Wt (fun a w=>∃(cv:Int)(cw:Int)(bm:Int)(bS:Bool)(fT:List UInt8)(fU:List Str)(fV:List Int)(fW:List Int),Sum.inl (cv,cw,bm,bS,fT,fU,fV,fW)=jX/\∃bn bo bp al bq bt bu am bv bw bx an bz bA bB ao,Sat 147 [(6,pt wb.z),(8,pt G.z)] a/\Chg (· ∈ ([g1]++[G.z])) H w/\inI cv/\inI cw/\inI bm/\a_ w al (sl bn bo bp) fT/\al.Nodup/\(∀k∈al,H.z<=k)/\a_ w am (sl bq bt bu) fU/\am.Nodup/\(∀k∈am,H.z<=k)/\(∀k∈am,k∉al)/\a_ w an (sl bv bw bx) fV/\an.Nodup/\(∀k∈an,H.z<=k)/\(∀k∈an,k∉al)/\(∀k∈an,k∉am)/\a_ w ao (sl bz bA bB) fW/\ao.Nodup/\(∀k∈ao,H.z<=k)/\(∀k∈ao,k∉al)/\(∀k∈ao,k∉am)/\(∀k∈ao,k∉an)/\Blk w g1 [sl A0 N0 C0,vI cv,vI cw]/\Blk w G.z [Str.v x5,vI x3,vI bm,vB bS,sl bn bo bp,sl bq bt bu,sl bv bw bx,sl bz bA bB]) ?_ ?_
 ·refine Wc z (fun f5=>?_)<|fun f5=>?_
  ·refine Wm z ?_
   have fX:=lt_ hj s3.s;have gR:∀k∈[G.z],¬B k:=or0 (b_ lr)<|i_<|zt' J fX;have gS:=(((hn.c sc<|c_<|b_ hBg).e s3).e h4).c I<|c_ gR
   have aX:=mm1 (Blk.lt hB1) fX;have gT:=lt_ (lt_ fX h4.s) I.s;obtain ⟨bC,jY,jZ,k0,iQ⟩:=u_<|ifT gr f5;refine E z (fc call43 z<|a_A (B:=B) k0 (((hq.e s3).e h4).c I<|djs aX) (zt' J gT) hBg (Y.g gS) ho hp<|ii z) ?_;rintro _ ka ⟨cx,rfl,_,gU,gV,gW⟩;refine R z (add_ z z)<|Rf z a_z z<|E0 (fs0 (cur':=[Str.v x5,vI x3,vI<|h_ 1 bC,vB false,sl none 0 0,sl none 0 0,sl none 0 0,sl none 0 0]) z_3 z z (ht.c cx<|atp aX) z z z z) ?_
   rintro _ aY ⟨fY,kb⟩;have bT:=kb.one;refine Wn ?_;obtain ⟨kc,gs,iR⟩:=bdS iQ;refine Wt (fun a w=>∃(bU:Int)(bV:Int)(cy:Bool),(bU,bV,cy)=kc/\Sat 147 [(6,pt wb.z),(8,pt G.z)] a/\Chg (· ∈ ([g1]++[G.z])) aY w/\inI bU/\inI bV/\Blk w g1 [sl A0 N0 C0,vI bU,vI bV]/\Blk w G.z [Str.v x5,vI x3,vI<|h_ 1 bC,vB cy,sl none 0 0,sl none 0 0,sl none 0 0,sl none 0 0]) ?_ ?_
   ·refine Wg<|Rf z a_z z<|R z (l0 g_3 z<|fY.at z)<|R z (a_d z z)<|Rm z ?_
    rcases bs (decide<|1<(h_ 1 bC)) with a4 | a4
    ·refine Rh z a4 (mv z) ?_;obtain ⟨gX,kd,ke,kf,iT⟩:=u_<|ifT gs a4;refine Eg z z a4 z (fc call41 z<|h_9 (B:=B) kf (gW.c bT<|djs aX) (zt' J<|lt_ (lt_ gT cx.s) bT.s) hBg (Y.g<|(gS.c cx<|c_<|b_ hBg).c bT<|c_ gR) gU gV<|ii z) ?_;rintro _ kg ⟨gY,rfl,kh,ki,kj⟩;refine R z (pT z a4 z)<|Rf z c_q z<|E0 (fs0 (cur':=[Str.v x5,vI x3,vI<|h_ 1 bC,vB gX,sl none 0 0,sl none 0 0,sl none 0 0,sl none 0 0]) z_4 z z (fY.c gY<|atp aX) z z z z) ?_
     rintro _ kk ⟨kl,km⟩;have gZ:=km.one;refine Wl ?_;exact fun _ q=>⟨kd,ke,gX,som iT,q.k<|s2 z z,(cM (cM (cr ([g1]++[G.z]) aY) gY (io<|r_ sr):Chg (· ∈ ([g1]++[G.z])) aY kg) gZ (io<|v_ sr):Chg (· ∈ ([g1]++[G.z])) aY kk),kh,ki,kj.c gZ<|djs aX,kl⟩
    refine Nh z a4<|Nh z a4<|R z (pF z a4 z)<|Rf z c_q z<|E0 (fs0 (cur':=[Str.v x5,vI x3,vI<|h_ 1 bC,vB false,sl none 0 0,sl none 0 0,sl none 0 0,sl none 0 0]) z_4 z z fY z z z z) ?_
    rintro _ kn ⟨ko,kp⟩;have h1:=kp.one;refine Wl ?_;exact fun _ q=>⟨jY,jZ,false,som<|ifF gs a4,q.k<|s2 z z,(cM (cr ([g1]++[G.z]) aY) h1 (io<|v_ sr):Chg (· ∈ ([g1]++[G.z])) aY kn),gU,gV,(gW.c bT<|djs aX).c h1<|djs aX,ko⟩
   rintro kq kr ⟨bU,bV,cy,rfl,_,ks,kt,ku,kw,kx⟩;revert kq;exact fun _ q=>⟨bU,bV,h_ 1 bC,cy,([]:List UInt8),([]:List Str),([]:List Int),([]:List Int),som<|a_Q iR,none,0,0,[],none,0,0,[],none,0,0,[],none,0,0,[],q.k<|s2 z z,(cM (cM (cM (cr ([g1]++[G.z]) H) cx (io<|r_ sr):Chg (· ∈ ([g1]++[G.z])) H ka) bT (io<|v_ sr):Chg (· ∈ ([g1]++[G.z])) H aY) ks (aa_ (io<|r_ sr)<|io<|v_ sr):Chg (· ∈ ([g1]++[G.z])) H kr),kt,ku,iA _ _,onL,H_,an_,onL,H_,an_,an_,onL,H_,an_,an_,an_,onL,H_,an_,an_,an_,an_,kw,kx⟩
  refine Ws<|Rq z z z<|Rw z ?_
  obtain ⟨ky,gt,f6⟩:=bdS<|ifF gr f5;refine Wt (fun a w=>∃(bW:Int)(bX:Int)(bY:Int)(cz:List UInt8)(cA:List Str)(cB:List Int)(cC:List Int),Sum.inl (bW,bX,bY,cz,cA,cB,cC)=ky/\∃cD cE cF ap cG cH cI aq cJ cK cL au cN cO cP av,Sat 147 [(6,pt wb.z),(8,pt G.z)] a/\Chg (· ∈ ([g1]++[G.z])) H w/\inI bW/\inI bX/\inI bY/\a_ w ap (sl cD cE cF) cz/\ap.Nodup/\(∀k∈ap,H.z<=k)/\a_ w aq (sl cG cH cI) cA/\aq.Nodup/\(∀k∈aq,H.z<=k)/\(∀k∈aq,k∉ap)/\a_ w au (sl cJ cK cL) cB/\au.Nodup/\(∀k∈au,H.z<=k)/\(∀k∈au,k∉ap)/\(∀k∈au,k∉aq)/\a_ w av (sl cN cO cP) cC/\av.Nodup/\(∀k∈av,H.z<=k)/\(∀k∈av,k∉ap)/\(∀k∈av,k∉aq)/\(∀k∈av,k∉au)/\Blk w g1 [sl A0 N0 C0,vI bW,vI bX]/\Blk w G.z [Str.v x5,vI x3,vI bY,vB false,sl cD cE cF,sl cG cH cI,sl cJ cK cL,sl cN cO cP]) ?_ ?_
  ·refine Wc z (fun f7=>?_)<|fun f7=>?_
   ·refine Wg<|RM z z ?_
    have fZ:=lt_ hj s3.s;have h2:=(((hn.c sc<|c_<|b_ hBg).e s3).e h4).c I<|c_ (or0 (b_ lr) (i_<|zt' J fZ):∀k∈[G.z],¬B k)
    have cQ:=mm1 (Blk.lt hB1) fZ;have h3:=lt_ (lt_ fZ h4.s) I.s;obtain ⟨_,_,_,kz,iU⟩:=u_<|ifT gt f7;refine E z (fc call43 z<|a_A (B:=B) kz (((hq.e s3).e h4).c I<|djs cQ) (zt' J h3) hBg (Y.g h2) ho hp<|ii z) ?_;rintro _ kA ⟨bD,rfl,_,kB,kC,kD⟩;refine R z (add_ z z) ?_;obtain ⟨kE,kF,kG,kH,iV⟩:=u_ iU;refine E z (fc call44 z<|h_a (B:=B) kH kD (zt' J<|lt_ h3 bD.s) hBg (Y.g<|h2.c bD<|c_<|b_ hBg) kB kC<|iA _ _) ?_;rintro _ kI ⟨h5,h6,h7,h8,kJ,rfl,kK,kL,kM,kN,kO,h9⟩;refine Rf z a_D z<|E0 (fs0 (cur':=[Str.v x5,vI x3,vI 0,vB false,sl h6 h7 h8,sl none 0 0,sl none 0 0,sl none 0 0]) z_22 z z ((ht.c bD<|atp cQ).c h5<|atp cQ) z z z z) ?_
    rintro _ kP ⟨kQ,kR⟩;have g0:=kR.one;refine Wl ?_;exact fun _ q=>⟨kF,kG,0,kE,([]:List Str),([]:List Int),([]:List Int),som iV,h6,h7,h8,kJ,none,0,0,[],none,0,0,[],none,0,0,[],q.k<|s2 z z,(cM (cM (cM (cr ([g1]++[G.z]) H) bD (io<|r_ sr):Chg (· ∈ ([g1]++[G.z])) H kA) h5 (io<|r_ sr):Chg (· ∈ ([g1]++[G.z])) H kI) g0 (io<|v_ sr):Chg (· ∈ ([g1]++[G.z])) H kP),kL,kM,ii z,kK.c g0<|m_ h9 ha.lt<|lt_ I.s bD.s,kO,w_ h9 bD.s,onL,H_,an_,an_,onL,H_,an_,an_,an_,onL,H_,an_,an_,an_,an_,kN.c g0<|djs cQ,kQ⟩
   refine Ws<|Rq z z z<|Rw z ?_
   obtain ⟨kS,gu,f8⟩:=bdS<|ifF gt f7;refine Wt (fun a w=>∃(bZ:Int)(c0:Int)(c1:Int)(cR:List UInt8)(cS:List Str)(cT:List Int)(cU:List Int),Sum.inl (bZ,c0,c1,cR,cS,cT,cU)=kS/\∃cV cW cX aw cY cZ d0 ax d1 d2 d3 ay d4 d5 d6 az,Sat 147 [(6,pt wb.z),(8,pt G.z)] a/\Chg (· ∈ ([g1]++[G.z])) H w/\inI bZ/\inI c0/\inI c1/\a_ w aw (sl cV cW cX) cR/\aw.Nodup/\(∀k∈aw,H.z<=k)/\a_ w ax (sl cY cZ d0) cS/\ax.Nodup/\(∀k∈ax,H.z<=k)/\(∀k∈ax,k∉aw)/\a_ w ay (sl d1 d2 d3) cT/\ay.Nodup/\(∀k∈ay,H.z<=k)/\(∀k∈ay,k∉aw)/\(∀k∈ay,k∉ax)/\a_ w az (sl d4 d5 d6) cU/\az.Nodup/\(∀k∈az,H.z<=k)/\(∀k∈az,k∉aw)/\(∀k∈az,k∉ax)/\(∀k∈az,k∉ay)/\Blk w g1 [sl A0 N0 C0,vI bZ,vI c0]/\Blk w G.z [Str.v x5,vI x3,vI c1,vB false,sl cV cW cX,sl cY cZ d0,sl d1 d2 d3,sl d4 d5 d6]) ?_ ?_
   ·refine Wc z (fun f9=>?_)<|fun f9=>?_
    ·refine Wg<|Rm z ?_
     have g2:=lt_ hj s3.s;have g3:=mm1 (Blk.lt hB1) g2;obtain ⟨hb,kT,kU,kV,iW⟩:=u_<|ifT gu f9;refine E z (fc call43 z<|a_A (B:=B) kV (((hq.e s3).e h4).c I<|djs g3) (zt' J<|lt_ (lt_ g2 h4.s) I.s) hBg (Y.g<|(((hn.c sc<|c_<|b_ hBg).e s3).e h4).c I<|c_ (or0 (b_ lr) (i_<|zt' J g2):∀k∈[G.z],¬B k)) ho hp<|ii z) ?_;rintro _ kW ⟨hc,rfl,_,kX,kY,kZ⟩;refine R z (add_ z z)<|Rf z a_z z<|E0 (fs0 (cur':=[Str.v x5,vI x3,vI<|h_ 1 hb,vB false,sl none 0 0,sl none 0 0,sl none 0 0,sl none 0 0]) z_3 z z (ht.c hc<|atp g3) z z z z) ?_
     rintro _ l2 ⟨l3,l4⟩;have hd:=l4.one;refine Wl ?_;exact fun _ q=>⟨kT,kU,h_ 1 hb,([]:List UInt8),([]:List Str),([]:List Int),([]:List Int),som iW,none,0,0,[],none,0,0,[],none,0,0,[],none,0,0,[],q.k<|s2 z z,(cM (cM (cr ([g1]++[G.z]) H) hc (io<|r_ sr):Chg (· ∈ ([g1]++[G.z])) H kW) hd (io<|v_ sr):Chg (· ∈ ([g1]++[G.z])) H l2),kX,kY,iA _ _,onL,H_,an_,onL,H_,an_,an_,onL,H_,an_,an_,an_,onL,H_,an_,an_,an_,an_,kZ.c hd<|djs g3,l3⟩
    refine Ws<|Rq z z z<|Rw z ?_
    obtain ⟨l5,gv,fe⟩:=bdS<|ifF gu f9;refine Wt (fun a w=>∃(c2:Int)(c3:Int)(d7:List UInt8)(d8:List Str)(d9:List Int)(da:List Int),Sum.inl (c2,c3,d7,d8,d9,da)=l5/\∃db dc dd aA de df dg aB dh di dj aC dk dl dm aD,Sat 147 [(6,pt wb.z),(8,pt G.z)] a/\Chg (· ∈ ([g1]++[G.z])) H w/\inI c2/\inI c3/\a_ w aA (sl db dc dd) d7/\aA.Nodup/\(∀k∈aA,H.z<=k)/\a_ w aB (sl de df dg) d8/\aB.Nodup/\(∀k∈aB,H.z<=k)/\(∀k∈aB,k∉aA)/\a_ w aC (sl dh di dj) d9/\aC.Nodup/\(∀k∈aC,H.z<=k)/\(∀k∈aC,k∉aA)/\(∀k∈aC,k∉aB)/\a_ w aD (sl dk dl dm) da/\aD.Nodup/\(∀k∈aD,H.z<=k)/\(∀k∈aD,k∉aA)/\(∀k∈aD,k∉aB)/\(∀k∈aD,k∉aC)/\Blk w g1 [sl A0 N0 C0,vI c2,vI c3]/\Blk w G.z [Str.v x5,vI x3,vI 0,vB false,sl db dc dd,sl de df dg,sl dh di dj,sl dk dl dm]) ?_ ?_
    ·refine Wc z (fun ff=>?_)<|fun ff=>?_
     ·refine Wg<|Rm z ?_
      refine R z (lN (vs:=[sl A6 N6 C6]) s_ p_ z z fid<|(((((ct.e hi).c sc<|atp<|mmr<|Blk.lt hB1).e s3).e h4).c I<|djs<|mm1 cq.lt<|lt_ (lt_ (lt_ aj.s hi.s) sc.s) s3.s).row 0 1 z) ?_;have g4:=lt_ hj s3.s;have he:=(((hn.c sc<|c_<|b_ hBg).e s3).e h4).c I<|c_ (or0 (b_ lr) (i_<|zt' J g4):∀k∈[G.z],¬B k)
      have g5:=mm1 (Blk.lt hB1) g4;obtain ⟨hf,l6,l7,l8,iX⟩:=u_<|ifT gv ff;refine E z (fc call93 z<|i_w (B:=B) l8 (((hq.e s3).e h4).c I<|djs g5) (zt' J<|lt_ (lt_ g4 h4.s) I.s) hBg (Y.g he) ho hp<|cp.g he) ?_;rintro _ c4 ⟨dn,rfl,l9,la,lc,ld⟩;refine E z (fS [(.tmp 55)] b_0 z z z (Y_ z) (lb z)<|lb z) ?_;rintro _ hg ⟨rfl,g6⟩;have g7:=g6.below;have qI:Blk hg c4.z [vI hf]:=g6.blk;refine Rf z K_ z<|E0 (fs0 (cur':=[Str.v x5,vI x3,vI 0,vB false,sl none 0 0,sl none 0 0,sl none 0 0,sl (some ⟨c4.z,0,none⟩) 1 1]) d_F z z ((ht.c dn<|atp g5).e g7) z z z z) ?_
      rintro _ le ⟨lf,lg⟩;have g8:=lg.one;refine Wl ?_;exact fun _ q=>⟨l6,l7,([]:List UInt8),([]:List Str),([]:List Int),[hf],som iX,none,0,0,[],none,0,0,[],none,0,0,[],some ⟨c4.z,0,none⟩,1,1,[c4.z],q.k<|s2 z z,(cM (e_ (cM (cr ([g1]++[G.z]) H) dn (io<|r_ sr):Chg (· ∈ ([g1]++[G.z])) H c4) g7:Chg (· ∈ ([g1]++[G.z])) H hg) g8 (io<|v_ sr):Chg (· ∈ ([g1]++[G.z])) H le),la,lc,onL,H_,an_,onL,H_,an_,an_,onL,H_,an_,an_,an_,(a_l g6<|a_P l9).c g8<|mm1 ha.lt<|lt_ I.s dn.s,a_q,m1 dn.s,nmN _,nmN _,nmN _,(ld.e g7).c g8<|djs g5,lf⟩
     refine Ws<|Rq z z z<|Rw z ?_
     obtain ⟨lh,gw,fg⟩:=bdS<|ifF gv ff;refine Wt (fun a w=>∃(c5:Int)(c6:Int)(dp:List UInt8)(dq:List Str)(dr:List Int)(dt:List Int),Sum.inl (c5,c6,dp,dq,dr,dt)=lh/\∃du dv dw aE dx dy dz aF dA dB dC aG dD dF dG aH,Sat 147 [(6,pt wb.z),(8,pt G.z)] a/\Chg (· ∈ ([g1]++[G.z])) H w/\inI c5/\inI c6/\a_ w aE (sl du dv dw) dp/\aE.Nodup/\(∀k∈aE,H.z<=k)/\a_ w aF (sl dx dy dz) dq/\aF.Nodup/\(∀k∈aF,H.z<=k)/\(∀k∈aF,k∉aE)/\a_ w aG (sl dA dB dC) dr/\aG.Nodup/\(∀k∈aG,H.z<=k)/\(∀k∈aG,k∉aE)/\(∀k∈aG,k∉aF)/\a_ w aH (sl dD dF dG) dt/\aH.Nodup/\(∀k∈aH,H.z<=k)/\(∀k∈aH,k∉aE)/\(∀k∈aH,k∉aF)/\(∀k∈aH,k∉aG)/\Blk w g1 [sl A0 N0 C0,vI c5,vI c6]/\Blk w G.z [Str.v x5,vI x3,vI 0,vB false,sl du dv dw,sl dx dy dz,sl dA dB dC,sl dD dF dG]) ?_ ?_
     ·refine Wc z (fun fh=>?_)<|fun fh=>?_
      ·refine Wg<|Rm z ?_
       refine R z (lN (vs:=[sl A6 N6 C6]) s_ p_ z z fid<|(((((ct.e hi).c sc<|atp<|mmr<|Blk.lt hB1).e s3).e h4).c I<|djs<|mm1 cq.lt<|lt_ (lt_ (lt_ aj.s hi.s) sc.s) s3.s).row 0 1 z) ?_;have g9:=lt_ hj s3.s;have ga:=(((hn.c sc<|c_<|b_ hBg).e s3).e h4).c I<|c_ (or0 (b_ lr) (i_<|zt' J g9):∀k∈[G.z],¬B k)
       have dH:=mm1 (Blk.lt hB1) g9;have hh:=lt_ (lt_ g9 h4.s) I.s;obtain ⟨dI,_,_,li,iY⟩:=u_<|ifT gw fh;refine E z (fc call93 z<|i_w (B:=B) li (((hq.e s3).e h4).c I<|djs dH) (zt' J hh) hBg (Y.g ga) ho hp<|cp.g ga) ?_;rintro _ lj ⟨bE,rfl,lk,ll,lm,ln⟩;refine RM z z ?_
       obtain ⟨dJ,lo,lp,lq,iZ⟩:=u_ iY;refine E z (fc call43 z<|a_A (B:=B) lq ln (zt' J<|lt_ hh bE.s) hBg (Y.g<|ga.c bE<|c_<|b_ hBg) ll lm<|a_t<|repS.len bk) ?_;rintro _ aZ ⟨dK,rfl,ls,lu,lv,lw⟩;refine E z (fS [(.tmp 62),(.tmp 65)] b_0 z z z (Y_ z) (lb z)<|lb z) ?_;rintro _ gb ⟨rfl,hu⟩;have gc:=hu.below;refine Rf z K_ z<|E0 (fs0 (cur':=[Str.v x5,vI x3,vI 0,vB false,sl none 0 0,sl none 0 0,sl none 0 0,sl (some ⟨aZ.z,0,none⟩) 2 2]) d_F z z (((ht.c bE<|atp dH).c dK<|atp dH).e gc) z z z z) ?_
       rintro _ lx ⟨ly,lz⟩;have ge:=lz.one;refine Wl ?_;exact fun _ q=>⟨lo,lp,([]:List UInt8),([]:List Str),([]:List Int),[dI,dJ],som iZ,none,0,0,[],none,0,0,[],none,0,0,[],some ⟨aZ.z,0,none⟩,2,2,[aZ.z],q.k<|s2 z z,(cM (e_ (cM (cM (cr ([g1]++[G.z]) H) bE (io<|r_ sr):Chg (· ∈ ([g1]++[G.z])) H lj) dK (io<|r_ sr):Chg (· ∈ ([g1]++[G.z])) H aZ) gc:Chg (· ∈ ([g1]++[G.z])) H gb) ge (io<|v_ sr):Chg (· ∈ ([g1]++[G.z])) H lx),lu,lv,onL,H_,an_,onL,H_,an_,an_,onL,H_,an_,an_,an_,(g_t (l:=[dI,dJ]) (hu.blk:Blk gb aZ.z [vI dI,vI dJ]) (ac0 lk<|ac0 ls an0) z:a_ gb [aZ.z] (sl (some ⟨aZ.z,0,none⟩) 2 2) ([dI,dJ]:List Int)).c ge<|mm1 ha.lt<|lt_ (lt_ I.s bE.s) dK.s,a_q,m1<|lt_ bE.s dK.s,nmN _,nmN _,nmN _,(lw.e gc).c ge<|djs dH,ly⟩
      refine Ws<|Rq z z z<|Rw z ?_
      obtain ⟨lA,gx,fi⟩:=bdS<|ifF gw fh;refine Wt (fun a w=>∃(c7:Int)(c8:Int)(dL:List UInt8)(dN:List Str)(dO:List Int)(dP:List Int),Sum.inl (c7,c8,dL,dN,dO,dP)=lA/\∃dS dT dU aI dV dW dX aJ dY dZ e0 aK e1 e2 e3 aL,Sat 147 [(6,pt wb.z),(8,pt G.z)] a/\Chg (· ∈ ([g1]++[G.z])) H w/\inI c7/\inI c8/\a_ w aI (sl dS dT dU) dL/\aI.Nodup/\(∀k∈aI,H.z<=k)/\a_ w aJ (sl dV dW dX) dN/\aJ.Nodup/\(∀k∈aJ,H.z<=k)/\(∀k∈aJ,k∉aI)/\a_ w aK (sl dY dZ e0) dO/\aK.Nodup/\(∀k∈aK,H.z<=k)/\(∀k∈aK,k∉aI)/\(∀k∈aK,k∉aJ)/\a_ w aL (sl e1 e2 e3) dP/\aL.Nodup/\(∀k∈aL,H.z<=k)/\(∀k∈aL,k∉aI)/\(∀k∈aL,k∉aJ)/\(∀k∈aL,k∉aK)/\Blk w g1 [sl A0 N0 C0,vI c7,vI c8]/\Blk w G.z [Str.v x5,vI x3,vI 0,vB false,sl dS dT dU,sl dV dW dX,sl dY dZ e0,sl e1 e2 e3]) ?_ ?_
      ·refine Wc z (fun fj=>?_)<|fun fj=>?_
       ·refine Wm z ?_
        have gf:=lt_ hj s3.s;have gg:∀k∈[G.z],¬B k:=or0 (b_ lr)<|i_<|zt' J gf;have hw:=(((hn.c sc<|c_<|b_ hBg).e s3).e h4).c I<|c_ gg
        have aM:=mm1 (Blk.lt hB1) gf;have hy:=lt_ (lt_ gf h4.s) I.s;obtain ⟨_,_,_,lB,j0⟩:=u_<|ifT gx fj;refine E z (fc call43 z<|a_A (B:=B) lB (((hq.e s3).e h4).c I<|djs aM) (zt' J hy) hBg (Y.g hw) ho hp<|ii z) ?_;rintro _ O ⟨b0,rfl,_,lC,lD,lE⟩;refine R z (add_ z z)<|Rw z ?_
        obtain ⟨_,j1,gy⟩:=bdS j0;refine b_M (σ:=Int×Int×Int×(List Str)×(List Int)) (ρ:=g_×Int×Int) (fun s a w=>un5 (fun b3 aN aO bF bG=>∃a5 a6 a7 Se ak nm cu Sf,Sat 147 [(0,pt g1),(6,pt wb.z),(7,vI (x2.rules.length:Int)),(8,pt G.z),(9,vI b3)] a/\Chg (· ∈ ([g1]++[G.z])) O w/\inI b3/\inI aN/\inI aO/\a_ w Se (sl a5 a6 a7) bF/\Se.Nodup/\(∀k∈Se,O.z<=k)/\a_ w Sf (sl ak nm cu) bG/\Sf.Nodup/\(∀k∈Sf,O.z<=k)/\(∀k∈Sf,k∉Se)/\Blk w g1 [sl A0 N0 C0,vI aN,vI aO]/\Blk w G.z [Str.v x5,vI x3,vI 0,vB false,sl none 0 0,sl a5 a6 a7,sl none 0 0,sl ak nm cu]) s) (fun s a w=>un5 (fun b3 aN aO bF bG=>∃a5 a6 a7 Se ak nm cu Sf,Sat 147 [(6,pt wb.z),(8,pt G.z)] a/\Chg (· ∈ ([g1]++[G.z])) O w/\inI b3/\inI aN/\inI aO/\a_ w Se (sl a5 a6 a7) bF/\Se.Nodup/\(∀k∈Se,O.z<=k)/\a_ w Sf (sl ak nm cu) bG/\Sf.Nodup/\(∀k∈Sf,O.z<=k)/\(∀k∈Sf,k∉Se)/\Blk w g1 [sl A0 N0 C0,vI aN,vI aO]/\Blk w G.z [Str.v x5,vI x3,vI 0,vB false,sl none 0 0,sl a5 a6 a7,sl none 0 0,sl ak nm cu]) s) (rQ prog fn<|Q7 w0 g1 B A0 N0 C0 x1) j1 ?_ ?_ ?_ ?_
        ·exact fun _ q=>⟨none,0,0,[],none,0,0,[],q.k<|s5 z z z z z,cr ([g1]++[G.z]) O,iA _ _,lC,lD,onL,H_,an_,onL,H_,an_,an_,lE,ht.c b0<|atp aM⟩
        ·rintro ⟨b3,aN,aO,bF,bG⟩ _ gh _ ⟨a5,a6,a7,Se,ak,nm,cu,Sf,j2,bH,gi,e4,e5,e6,e7,aP,c9,e8,b4,ca,e9,ea⟩ j3;have gz:=c_f j3;refine Wu ?_ j2;refine Wq<|Wm z<|R z (a_d z z)<|Wx z (fun fk=>?_) (fun fk=>?_)
         ·refine Wk<|Wq<|Wb<|Wq (Wd (X:=fun k=>k∈[g1]∨gh.z<=k) 2560 (.rd 0<|.rd 1<|.rd 2<|.rd 5<|.ef 3<|.ef 4<|.ef 6<|.rd 7<|.ef 8<|.ef 9<|.rd 10<|.ef 11 .done) mo (by kernel_rfl) fun bI ss _=>dR z z (fd b_H z) ?_)
          have hz:=ea.e ss;have gj:=lt_ I.s b0.s;have hA:=lt_ gj bH.s;refine dR z z (l1 b_Q z (a_p (atp aM)<|Nat.lt_of_lt_of_le ha.lt hA)<|hz.at z)<|dM z z z<|dM z z z<|dE z z (fS [(.const<|Str.v ⟨[112]⟩),.const<|Str.v ⟨[113]⟩,(.const<|Str.v ⟨[114]⟩)] b_R z z z (Y_ z) (lb z)<|lb z) (.inr fun _ _ h=>B_<|h.2.below) ?_
          rintro _ cb ⟨rfl,hB⟩;have hv:=hB.below;have hC:a_ cb [bI.z] (sl (some ⟨bI.z,0,none⟩) 3 3) ([(⟨[112]⟩:Str),(⟨[113]⟩:Str),(⟨[114]⟩:Str)]:List Str):=g_u (l:=[(⟨[112]⟩:Str),(⟨[113]⟩:Str),(⟨[114]⟩:Str)]) (hB.blk:Blk cb bI.z [(Str.v (⟨[112]⟩:Str)),Str.v (⟨[113]⟩:Str),(Str.v (⟨[114]⟩:Str))]) (ac0 (lb z)<|ac0 (lb z)<|ac0 (lb z) an0) z;have hD:=(((hw.c b0<|c_<|b_ hBg).c bH<|nmA (c_<|b_ hBg)<|c_ gg).e ss).e hv;have eb:=lt_ hy b0.s;have hE:=lt_ (lt_ eb bH.s) ss.s;have hF:=lt_ hE hv.s;obtain ⟨_,_,_,lF,j4⟩:=u_<|ifT gz fk;refine dE z z (fc call92 z<|W_w10 (B:=zn B bI.z cb.z) lF ((e9.e ss).e hv) (b_D (zt' J hF) lr) (atp ((c_g (b_ hBg) (b_<|Blk.lt hB1) hE):∀k∈[g1],¬(zn B bI.z cb.z) k)) (repS.mono (Y.g hD) a_W) e4 e5<|or_ hC<|zin (B:=B) (b_ lr)<|a_.lt hC) (.inr fun _ _ h=>h.1.mono fun k _ hk=>(io sr) k hk) ?_;rintro _ lG ⟨a8,rfl,_,lH,lI,lJ⟩;have hG:=lt_ hF a8.s;obtain ⟨_,lK,j5⟩:=bdS j4;refine dE z z (fc call32 z<|e_n lK (zt' J hG) gi) (.inr fun _ _ h=>B_<|h.1) ?_;rintro _ hH ⟨sw,rfl,_⟩;obtain ⟨lL,gk,j6⟩:=bdS j5;refine dR z z (a_o z z gk)<|dE z z (fS [(.tmp 84)] b_R z z z (Y_ z) (lb z)<|lb z) (.inr fun _ _ h=>B_<|h.2.below) ?_
          rintro _ hI ⟨rfl,gl⟩;have hx:=gl.below;have qJ:=a_l gl<|d_p<|b_2 gk
          have gm:=m_ aP (Blk.lt hB1) eb;obtain ⟨lM,lO,j7⟩:=bdS j6;refine dE z z (a_H (α:=Str) b_R lO z z (((((e6.e ss).e hv).c a8 gm).e sw).e hx) e7 (gl.blk:Blk hI hH.z [Str.v lL]) (d_p<|b_2 gk) an_ H_) (.inl z) ?_;rintro _ lP ⟨bJ,gn,gp,gq,rfl,aQ,hJ,lQ,ec⟩;refine dR z z (fd b_H z) ?_;have hK:=m_ aP ha.lt gj;refine dE0 z (fs0 (cur':=[Str.v x5,vI x3,vI 0,vB false,sl none 0 0,sl gn gp gq,sl none 0 0,sl ak nm cu]) z_56 z z (((((hz.e hv).c a8<|atp aM).e sw).e hx).c aQ<|djs hK) z z z z) (.inl z) ?_;rintro _ hL ⟨lR,lS⟩;have a9:=lS.one;refine pD<|Wo (Wd (X:=fun k=>k∈[g1]∨hL.z<=k) 320 (pl_ 9 [4,5,6,8]) mo (by kernel_rfl) fun lT sy _=>dR z z (fd K_ z) ?_)
          have hM:=lR.e sy;have hN:=lt_ (lt_ (lt_ (lt_ (lt_ hA ss.s) hv.s) a8.s) sw.s) hx.s;have hO:=lt_ (lt_ hN aQ.s) a9.s;refine dR z z (l1 z_ z (a_p (atp aM)<|Nat.lt_of_lt_of_le ha.lt hO)<|hM.at z)<|dM z z z<|dM z z z ?_
          have hP:=lt_ (lt_ hG sw.s) hx.s;obtain ⟨lU,lV,lW,lX,j8⟩:=u_ j7;refine dE z z (fc call43 z<|a_A (B:=B) lX (((((lJ.e sw).e hx).c aQ<|djs gm).c a9<|djs aM).e sy) (zt' J<|lt_ (lt_ (lt_ hP aQ.s) a9.s) sy.s) hBg (Y.g<|(((((hD.c a8<|c_<|b_ hBg).e sw).e hx).c aQ<|c_ (or0 aP (i_<|zt' J eb):∀k∈Se,¬B k)).c a9<|c_ gg).e sy) lH lI<|a_t<|repS.len bk) (.inr fun _ _ h=>h.1.mono fun k _ hk=>(io sr) k hk) ?_;rintro _ hQ ⟨b5,rfl,hR,lY,lZ,m0⟩;refine dE z z (fS [(.tmp 92)] b_0 z z z (Y_ z) (lb z)<|lb z) (.inr fun _ _ h=>B_<|h.2.below) ?_;rintro _ hS ⟨rfl,fl⟩;have aR:=fl.below;have qK:=a_l fl<|a_P hR
          have fm:=m_ b4 (Blk.lt hB1) eb;have fo:=m_ b4 ha.lt gj;obtain ⟨m2,m3,j9⟩:=bdS j8;refine dE z z (a_H (α:=Int) b_0 m3 z z ((((((((((c9.e ss).e hv).c a8 fm).e sw).e hx).c aQ ca).c a9 fo).e sy).c b5 fm).e aR) e8 (fl.blk:Blk hS hQ.z [vI lU]) (a_P hR) an_ H_) (.inl z) ?_;rintro _ m4 ⟨ed,hT,hU,hV,rfl,ee,m5,m6,fp⟩;refine dR z z (fd K_ z)<|dE0 z (fs0 (cur':=[Str.v x5,vI x3,vI 0,vB false,sl none 0 0,sl gn gp gq,sl none 0 0,sl hT hU hV]) d_F z z (((hM.c b5<|atp aM).e aR).c ee<|djs fo) z z z z) (.inl z) ?_
          rintro _ m7 ⟨m8,m9⟩;have eg:=m9.one;refine pD<|Wo<|Wg<|Rm z<|R z (sb_ z z)<|Ra z<|Wl ?_
          have hW:∀k∈bJ,k∉[G.z]:=or2 ec hK an_<|W_ (b_ ha.lt) hN;have hX:∀k∈bJ,k∉Sf:=or2 ec (ds ca) an_<|W_ (a_.lt c9)<|lt_ (lt_ (lt_ (lt_ ss.s hv.s) a8.s) sw.s) hx.s;have hY:=lt_ (lt_ (lt_ (lt_ (lt_ bH.s ss.s) hv.s) a8.s) sw.s) hx.s;exact fun _ q=>⟨(G_ b3 1,lV,lW,lM,m2),(som j9).symm,⟨gn,gp,gq,bJ,hT,hU,hV,ed,q.k<|s5 z z z z z,(cM (cM (e_ (cM (e_ (cM (cM (e_ (e_ (cM (e_ (e_ (cM (cr ([g1]++[G.z]) O) bH (aa_ (io<|r_ sr)<|io<|v_ sr):Chg (· ∈ ([g1]++[G.z])) O gh) ss:Chg (· ∈ ([g1]++[G.z])) O bI) hv:Chg (· ∈ ([g1]++[G.z])) O cb) a8 (io<|r_ sr):Chg (· ∈ ([g1]++[G.z])) O lG) sw:Chg (· ∈ ([g1]++[G.z])) O hH) hx:Chg (· ∈ ([g1]++[G.z])) O hI) aQ (or0 aP (x_ lr):∀k∈Se,k∈([g1]++[G.z])∨O.z<=k):Chg (· ∈ ([g1]++[G.z])) O lP) a9 (io<|v_ sr):Chg (· ∈ ([g1]++[G.z])) O hL) sy:Chg (· ∈ ([g1]++[G.z])) O lT) b5 (io<|r_ sr):Chg (· ∈ ([g1]++[G.z])) O hQ) aR:Chg (· ∈ ([g1]++[G.z])) O hS) ee (or0 b4 (x_ lr):∀k∈Sf,k∈([g1]++[G.z])∨O.z<=k):Chg (· ∈ ([g1]++[G.z])) O m4) eg (io<|v_ sr):Chg (· ∈ ([g1]++[G.z])) O m7),iS _ _,lY,lZ,(((((hJ.c a9 hW).e sy).c b5 (or2 ec gm an_ (W_ (b_<|Blk.lt hB1) hP):∀k∈bJ,k∉[g1])).e aR).c ee hX).c eg hW,lQ,(or2 ec aP an_ (a_R hY):∀k∈bJ,O.z<=k),m5.c eg (or2 fp fo an_ (W_ (b_ ha.lt)<|lt_ (lt_ (lt_ hO sy.s) b5.s) aR.s):∀k∈ed,k∉[G.z]),m6,(or2 fp b4 an_ (a_R<|lt_ (lt_ (lt_ (lt_ (lt_ hY aQ.s) a9.s) sy.s) b5.s) aR.s):∀k∈ed,O.z<=k),(or2 fp (ds hX) an_ (W_ (a_.lt hJ)<|lt_ (lt_ (lt_ a9.s sy.s) b5.s) aR.s):∀k∈ed,k∉bJ),((m0.e aR).c ee<|djs fm).c eg<|djs aM,m8⟩⟩
         exact We<|fun _ q=>b_i (som<|ifF gz fk).symm ⟨a5,a6,a7,Se,ak,nm,cu,Sf,q.k<|s2 z z,(cM (cr ([g1]++[G.z]) O) bH (aa_ (io<|r_ sr)<|io<|v_ sr):Chg (· ∈ ([g1]++[G.z])) O gh),gi,e4,e5,e6,e7,aP,c9,e8,b4,ca,e9,ea⟩
        ·rintro ⟨b3,aN,aO,bF,bG⟩ ma mb rfl ⟨a5,a6,a7,Se,ak,nm,cu,Sf,_,mc,gi,e4,e5,e6,e7,aP,c9,e8,b4,ca,e9,ea⟩;have ja:=elL gy;revert ma;exact fun _ q=>⟨aN,aO,([]:List UInt8),bF,([]:List Int),bG,som<|c_f ja,none,0,0,[],a5,a6,a7,Se,none,0,0,[],ak,nm,cu,Sf,q.k<|s2 z z,(cM (cM (cr ([g1]++[G.z]) H) b0 (io<|r_ sr):Chg (· ∈ ([g1]++[G.z])) H O) mc (aa_ (io<|r_ sr)<|io<|v_ sr):Chg (· ∈ ([g1]++[G.z])) H mb),e4,e5,onL,H_,an_,e6,e7,w_ aP b0.s,nmN _,onL,H_,an_,an_,an_,c9,e8,w_ b4 b0.s,nmN _,ca,nmN _,e9,ea⟩
        rintro _ _ _ _ rfl ⟨rfl,jb⟩;have jc:=elR gy;obtain rfl:=som jc;have jd:=elR fi;obtain rfl:=som jd;have je:=elR fg;obtain rfl:=som je;have jf:=elR fe;obtain rfl:=som jf;have jg:=elR f8;obtain rfl:=som jg;have jh:=elR f6;obtain rfl:=som jh;have ji:=elR f4;obtain rfl:=som ji;exact ⟨jb,z⟩
       refine Ws<|Rq z z z<|Rw z ?_
       obtain ⟨md,gA,gB⟩:=bdS<|ifF gx fj;refine Wt (fun a w=>∃(cc:Int)(cd:Int)(eh:List UInt8)(ei:List Int)(ej:List Int),Sum.inl (cc,cd,eh,ei,ej)=md/\∃ek em en b6 eo ep er b7 es et eu b8,Sat 147 [(6,pt wb.z),(8,pt G.z)] a/\Chg (· ∈ ([g1]++[G.z])) H w/\inI cc/\inI cd/\a_ w b6 (sl ek em en) eh/\b6.Nodup/\(∀k∈b6,H.z<=k)/\a_ w b7 (sl eo ep er) ei/\b7.Nodup/\(∀k∈b7,H.z<=k)/\(∀k∈b7,k∉b6)/\a_ w b8 (sl es et eu) ej/\b8.Nodup/\(∀k∈b8,H.z<=k)/\(∀k∈b8,k∉b6)/\(∀k∈b8,k∉b7)/\Blk w g1 [sl A0 N0 C0,vI cc,vI cd]/\Blk w G.z [Str.v x5,vI x3,vI 0,vB false,sl ek em en,sl none 0 0,sl eo ep er,sl es et eu]) ?_ ?_
       ·refine Wc z (fun eZ=>?_)<|fun eZ=>?_
        ·refine Wm z ?_
         refine R z (lN (vs:=[sl A6 N6 C6]) s_ p_ z z fid<|(((((ct.e hi).c sc<|atp<|mmr<|Blk.lt hB1).e s3).e h4).c I<|djs<|mm1 cq.lt<|lt_ (lt_ (lt_ aj.s hi.s) sc.s) s3.s).row 0 1 z) ?_;have fq:=lt_ hj s3.s;have ew:∀k∈[G.z],¬B k:=or0 (b_ lr)<|i_<|zt' J fq;have fr:=(((hn.c sc<|c_<|b_ hBg).e s3).e h4).c I<|c_ ew
         have hl:=mm1 (Blk.lt hB1) fq;have hZ:=lt_ (lt_ fq h4.s) I.s;obtain ⟨me,_,_,mf,jj⟩:=u_<|ifT gA eZ;refine E z (fc call93 z<|i_w (B:=B) mf (((hq.e s3).e h4).c I<|djs hl) (zt' J hZ) hBg (Y.g fr) ho hp<|cp.g fr) ?_;rintro _ L ⟨aa,rfl,mg,mh,mi,mj⟩;refine E z (fS [(.tmp 100)] b_0 z z z (Y_ z) (lb z)<|lb z) ?_;rintro _ i0 ⟨rfl,fs⟩;have b9:=fs.below;have qL:Blk i0 L.z [vI me]:=fs.blk;refine Rf z K_ z<|E0 (fs0 (cur':=[Str.v x5,vI x3,vI 0,vB false,sl none 0 0,sl none 0 0,sl none 0 0,sl (some ⟨L.z,0,none⟩) 1 1]) d_F z z ((ht.c aa<|atp hl).e b9) z z z z) ?_
         rintro _ ml ⟨mm,mn⟩;have ba:=mn.one;refine Wn<|Wm z ?_
         have i1:=((fr.c aa<|c_<|b_ hBg).e b9).c ba<|c_ ew
         have ex:=lt_ hZ aa.s;have i2:=lt_ (lt_ ex b9.s) ba.s;obtain ⟨_,_,_,mp,jk⟩:=u_ jj;refine E z (fc call43 z<|a_A (B:=B) mp ((mj.e b9).c ba<|djs hl) (zt' J i2) hBg (Y.g i1) mh mi<|ii z) ?_;rintro _ V ⟨bb,rfl,_,mq,mr,ms⟩;refine R z (add_ z z)<|Rw z ?_
         obtain ⟨_,jl,gC⟩:=bdS jk;refine b_M (σ:=Int×Int×Int×(List Int)×(List Int)) (ρ:=g_×Int×Int) (fun s a w=>un5 (fun bc aS aT be bK=>∃ab ad ae Sg ar nz a0 Sd,Sat 147 [(0,pt g1),(6,pt wb.z),(7,vI (x2.rules.length:Int)),(8,pt G.z),(10,vI bc)] a/\Chg (· ∈ ([g1]++([G.z]++[L.z]))) V w/\inI bc/\inI aS/\inI aT/\a_ w Sg (sl ab ad ae) be/\Sg.Nodup/\(∀k∈Sg,V.z<=k)/\a_ w Sd (sl ar nz a0) bK/\Sd.Nodup/\(∀k∈Sd,k∈[L.z]∨V.z<=k)/\(∀k∈Sd,k∉Sg)/\Blk w g1 [sl A0 N0 C0,vI aS,vI aT]/\Blk w G.z [Str.v x5,vI x3,vI 0,vB false,sl none 0 0,sl none 0 0,sl ab ad ae,sl ar nz a0]) s) (fun s a w=>un5 (fun bc aS aT be bK=>∃ab ad ae Sg ar nz a0 Sd,Sat 147 [(6,pt wb.z),(8,pt G.z)] a/\Chg (· ∈ ([g1]++([G.z]++[L.z]))) V w/\inI bc/\inI aS/\inI aT/\a_ w Sg (sl ab ad ae) be/\Sg.Nodup/\(∀k∈Sg,V.z<=k)/\a_ w Sd (sl ar nz a0) bK/\Sd.Nodup/\(∀k∈Sd,k∈[L.z]∨V.z<=k)/\(∀k∈Sd,k∉Sg)/\Blk w g1 [sl A0 N0 C0,vI aS,vI aT]/\Blk w G.z [Str.v x5,vI x3,vI 0,vB false,sl none 0 0,sl none 0 0,sl ab ad ae,sl ar nz a0]) s) (rQ prog fn<|Q7 w0 g1 B A0 N0 C0 x1) jl ?_ ?_ ?_ ?_
         ·exact fun _ q=>⟨none,0,0,[],some ⟨L.z,0,none⟩,1,1,[L.z],q.k<|s5 z z z z z,cr ([g1]++([G.z]++[L.z])) V,iA _ _,mq,mr,onL,H_,an_,((a_l fs<|a_P mg).c ba<|mm1 ha.lt<|lt_ I.s aa.s).c bb<|mm1 (Blk.lt hB1) ex,a_q,io sr,nmN _,ms,mm.c bb<|atp hl⟩
         ·rintro ⟨bc,aS,aT,be,bK⟩ _ ft _ ⟨ab,ad,ae,Sg,ar,nz,a0,Sd,jm,bL,i3,ey,ez,ce,eA,af,cf,eB,bf,cg,eC,eD⟩ jn;have gD:=c_f jn;refine Wu ?_ jm;refine Wq<|Wm z<|R z (a_d z z)<|Wx z (fun f0=>?_) (fun f0=>?_)
          ·refine Wk<|Wq<|Wb<|Wq (Wd (X:=fun k=>k∈[g1]∨ft.z<=k) 5120 (pl_ 13 [7,9,10,12]) mo (by kernel_rfl) fun mt a1 _=>dR z z (fd a_r z) ?_)
           have fu:=eD.e a1;have i4:=lt_ I.s aa.s;have fv:=lt_ (lt_ (lt_ i4 b9.s) ba.s) bb.s;have fw:=lt_ fv bL.s;refine dR z z (l1 z_ z (a_p (atp hl)<|Nat.lt_of_lt_of_le ha.lt fw)<|fu.at z)<|dR z z (fd a_r z)<|dR z z (l1 z_ z (a_p (atp hl)<|Nat.lt_of_lt_of_le ha.lt fw)<|fu.at z) ?_
           have i5:=ce.e a1;refine dR z z (lnR q_ z<|or_ i5<|zin (B:=B) af<|a_.lt ce)<|dR z z (c_j z z)<|dM z z z ?_
           have i6:=((i1.c bb<|c_<|b_ hBg).c bL<|nmA (c_<|b_ hBg)<|nmA (c_ ew)<|c_ (or0 (b_ lr) (i_<|zt' J ex):∀k∈[L.z],¬B k)).e a1;have eE:=lt_ i2 bb.s;have i7:=lt_ (lt_ eE bL.s) a1.s;obtain ⟨mu,_,_,mw,jo⟩:=u_<|ifT gD f0;refine dE z z (fc call43 z<|a_A (B:=B) mw (eC.e a1) (zt' J i7) hBg (Y.g i6) ey ez<|ii z) (.inr fun _ _ h=>h.1.mono fun k _ hk=>(io sr) k hk) ?_;rintro _ i8 ⟨ah,rfl,_,mx,my,mz⟩;refine dR z z (add_ z z)<|dE z z (fS [(.tmp 118)] b_0 z z z (Y_ z) (lb z)<|lb z) (.inr fun _ _ h=>B_<|h.2.below) ?_
           rintro _ i9 ⟨rfl,fx⟩;have a2:=fx.below;have qM:=a_l fx<|a_P<|iA _ _
           have fy:=m_ af (Blk.lt hB1) eE;obtain ⟨mA,mB,jp⟩:=bdS jo;refine dE z z (a_H (α:=Int) b_0 mB z z ((i5.c ah fy).e a2) eA (fx.blk:Blk i9 i8.z [(vI<|h_ (a_2 4 (be.length:Int)) mu)]) (a_P<|iA _ _) an_ H_) (.inl z) ?_;rintro _ mC ⟨bM,fz,fA,fB,rfl,aU,ia,mD,eF⟩;refine dR z z (fd a_r z) ?_;have ib:=m_ af ha.lt fv;refine dE0 z (fs0 (cur':=[Str.v x5,vI x3,vI 0,vB false,sl none 0 0,sl none 0 0,sl fz fA fB,sl ar nz a0]) d_F z z (((fu.c ah<|atp hl).e a2).c aU<|djs ib) z z z z) (.inl z) ?_;rintro _ ic ⟨mE,mF⟩;have ai:=mF.one;refine pD<|Wo (Wd (X:=fun k=>k∈[g1]∨ic.z<=k) 320 (pl_ 9 [4,5,6,8]) mo (by kernel_rfl) fun mG a3 _=>dR z z (fd K_ z) ?_)
           have id:=mE.e a3;have ie:=lt_ (lt_ (lt_ fw a1.s) ah.s) a2.s;have ig:=lt_ (lt_ ie aU.s) ai.s;refine dR z z (l1 z_ z (a_p (atp hl)<|Nat.lt_of_lt_of_le ha.lt ig)<|id.at z)<|dM z z z<|dM z z z ?_
           have ih:=lt_ (lt_ i7 ah.s) a2.s;obtain ⟨mH,mI,mJ,mK,jq⟩:=u_ jp;refine dE z z (fc call43 z<|a_A (B:=B) mK ((((mz.e a2).c aU<|djs fy).c ai<|djs hl).e a3) (zt' J<|lt_ (lt_ (lt_ ih aU.s) ai.s) a3.s) hBg (Y.g<|((((i6.c ah<|c_<|b_ hBg).e a2).c aU<|c_ (or0 af (i_<|zt' J eE):∀k∈Sg,¬B k)).c ai<|c_ ew).e a3) mx my<|a_t<|repS.len bk) (.inr fun _ _ h=>h.1.mono fun k _ hk=>(io sr) k hk) ?_;rintro _ ij ⟨bg,rfl,ik,mL,mM,mN⟩;refine dE z z (fS [(.tmp 126)] b_0 z z z (Y_ z) (lb z)<|lb z) (.inr fun _ _ h=>B_<|h.2.below) ?_;rintro _ il ⟨rfl,fC⟩;have aV:=fC.below;have qN:=a_l fC<|a_P ik
           have fD:∀k∈Sd,k∉[g1]:=or1 bf (mm1 (Blk.lt hB1) ex)<|W_ (b_<|Blk.lt hB1) eE;have fE:∀k∈Sd,k∉[G.z]:=or1 bf (mm1 ha.lt i4)<|W_ (b_ ha.lt) fv;obtain ⟨mO,mP,jr⟩:=bdS jq;refine dE z z (a_H (α:=Int) b_0 mP z z ((((((((cf.e a1).c ah fD).e a2).c aU cg).c ai fE).e a3).c bg fD).e aV) eB (fC.blk:Blk il ij.z [vI mH]) (a_P ik) an_ H_) (.inl z) ?_;rintro _ mQ ⟨eG,im,ip,iq,rfl,eH,mR,mS,fF⟩;refine dR z z (fd K_ z)<|dE0 z (fs0 (cur':=[Str.v x5,vI x3,vI 0,vB false,sl none 0 0,sl none 0 0,sl fz fA fB,sl im ip iq]) d_F z z (((id.c bg<|atp hl).e aV).c eH<|djs fE) z z z z) (.inl z) ?_
           rintro _ mT ⟨mU,mV⟩;have eI:=mV.one;refine pD<|Wo<|Wg<|Rm z<|R z (sb_ z z)<|Ra z<|Wl ?_
           have ir:∀k∈bM,k∉[G.z]:=or2 eF ib an_<|W_ (b_ ha.lt) ie;have it:∀k∈bM,k∉Sd:=or2 eF (ds cg) an_<|W_ (a_.lt cf)<|lt_ (lt_ a1.s ah.s) a2.s;have iu:=lt_ (lt_ (lt_ bL.s a1.s) ah.s) a2.s;exact fun _ q=>⟨(G_ bc 1,mI,mJ,mA,mO),(som jr).symm,⟨fz,fA,fB,bM,im,ip,iq,eG,q.k<|s5 z z z z z,(cM (cM (e_ (cM (e_ (cM (cM (e_ (cM (e_ (cM (cr ([g1]++([G.z]++[L.z])) V) bL (aa_ (io<|r_ sr)<|aa_ (io<|v_<|r_ sr)<|io<|v_<|v_ sr):Chg (· ∈ ([g1]++([G.z]++[L.z]))) V ft) a1:Chg (· ∈ ([g1]++([G.z]++[L.z]))) V mt) ah (io<|r_ sr):Chg (· ∈ ([g1]++([G.z]++[L.z]))) V i8) a2:Chg (· ∈ ([g1]++([G.z]++[L.z]))) V i9) aU (or0 af (x_ lr):∀k∈Sg,k∈([g1]++([G.z]++[L.z]))∨V.z<=k):Chg (· ∈ ([g1]++([G.z]++[L.z]))) V mC) ai (io<|v_<|r_ sr):Chg (· ∈ ([g1]++([G.z]++[L.z]))) V ic) a3:Chg (· ∈ ([g1]++([G.z]++[L.z]))) V mG) bg (io<|r_ sr):Chg (· ∈ ([g1]++([G.z]++[L.z]))) V ij) aV:Chg (· ∈ ([g1]++([G.z]++[L.z]))) V il) eH (or1 bf (io<|v_<|v_ sr) (x_ lr):∀k∈Sd,k∈([g1]++([G.z]++[L.z]))∨V.z<=k):Chg (· ∈ ([g1]++([G.z]++[L.z]))) V mQ) eI (io<|v_<|r_ sr):Chg (· ∈ ([g1]++([G.z]++[L.z]))) V mT),iS _ _,mL,mM,(((((ia.c ai ir).e a3).c bg (or2 eF fy an_ (W_ (b_<|Blk.lt hB1) ih):∀k∈bM,k∉[g1])).e aV).c eH it).c eI ir,mD,(or2 eF af an_ (a_R iu):∀k∈bM,V.z<=k),mR.c eI (or2 fF fE an_ (W_ (b_ ha.lt)<|lt_ (lt_ (lt_ ig a3.s) bg.s) aV.s):∀k∈eG,k∉[G.z]),mS,(or2 fF (or1 bf (io sr) (x_ lr):∀k∈Sd,k∈[L.z]∨V.z<=k) an_ (x_<|lt_ (lt_ (lt_ (lt_ (lt_ iu aU.s) ai.s) a3.s) bg.s) aV.s):∀k∈eG,k∈[L.z]∨V.z<=k),(or2 fF (ds it) an_ (W_ (a_.lt ia)<|lt_ (lt_ (lt_ ai.s a3.s) bg.s) aV.s):∀k∈eG,k∉bM),((mN.e aV).c eH<|djs fD).c eI<|djs hl,mU⟩⟩
          exact We<|fun _ q=>b_i (som<|ifF gD f0).symm ⟨ab,ad,ae,Sg,ar,nz,a0,Sd,q.k<|s2 z z,(cM (cr ([g1]++([G.z]++[L.z])) V) bL (aa_ (io<|r_ sr)<|aa_ (io<|v_<|r_ sr)<|io<|v_<|v_ sr):Chg (· ∈ ([g1]++([G.z]++[L.z]))) V ft),i3,ey,ez,ce,eA,af,cf,eB,(or1 bf (io sr) (x_ lr):∀k∈Sd,k∈[L.z]∨V.z<=k),cg,eC,eD⟩
         ·rintro ⟨bc,aS,aT,be,bK⟩ mW mX rfl ⟨ab,ad,ae,Sg,ar,nz,a0,Sd,_,mY,i3,ey,ez,ce,eA,af,cf,eB,bf,cg,eC,eD⟩;have js:=elL gC;revert mW;have iv:=lt_ (lt_ (lt_ aa.s b9.s) ba.s) bb.s;exact fun _ q=>⟨aS,aT,([]:List UInt8),be,bK,som<|c_f js,none,0,0,[],ab,ad,ae,Sg,ar,nz,a0,Sd,q.k<|s2 z z,(cM (cM (cM (e_ (cM (cr ([g1]++[G.z]) H) aa (io<|r_ sr):Chg (· ∈ ([g1]++[G.z])) H L) b9:Chg (· ∈ ([g1]++[G.z])) H i0) ba (io<|v_ sr):Chg (· ∈ ([g1]++[G.z])) H ml) bb (io<|r_ sr):Chg (· ∈ ([g1]++[G.z])) H V) mY (aa_ (io<|r_ sr)<|aa_ (io<|v_ sr) (mor aa.s:∀k∈[L.z],k∈([g1]++[G.z])∨H.z<=k)):Chg (· ∈ ([g1]++[G.z])) H mX),ey,ez,onL,H_,an_,ce,eA,w_ af iv,nmN _,cf,eB,a_O bf (m1 aa.s) iv,nmN _,cg,eC,eD⟩
         rintro _ _ _ _ rfl ⟨rfl,jt⟩;have ju:=elR gC;obtain rfl:=som ju;have jv:=elR gB;obtain rfl:=som jv;have jw:=elR fi;obtain rfl:=som jw;have jx:=elR fg;obtain rfl:=som jx;have jy:=elR fe;obtain rfl:=som jy;have jz:=elR f8;obtain rfl:=som jz;have jA:=elR f6;obtain rfl:=som jA;have jB:=elR f4;obtain rfl:=som jB;exact ⟨jt,z⟩
        refine Wq<|Ws<|Rq z z z<|Rw z ?_
        obtain ⟨mZ,gE,jC⟩:=bdS<|ifF gA eZ;refine Wt (fun a w=>∃(fG:Bool),fG=mZ/\Sat 147 [(0,pt g1),(6,pt wb.z),(7,vI (x2.rules.length:Int)),(8,pt G.z),(22,vI x3),(130,vB fG)] a/\Below H.z H w) ?_ ?_
        ·refine Wc z (fun f1=>?_)<|fun f1=>?_
         ·exact M_<|fun _ q=>⟨x3==8,som<|ifT gE f1,q.k<|s6 z z z z z z,br H⟩
         exact Wg<|Rq z z z<|Ra z<|Wl (fun _ q=>⟨x3==9,som<|ifF gE f1,q.k<|s6 z z z z z z,br H⟩)
        rintro n0 W ⟨fG,rfl,_,sh⟩;revert n0;refine Wo ?_;obtain ⟨n1,gF,jD⟩:=bdS jC;refine Wt (fun a w=>∃(ch:Int)(ci:Int)(eJ:List UInt8)(eK:List Int),(ch,ci,eJ,eK)=n1/\∃eL eM eN bN eO eP eQ bO,Sat 147 [(6,pt wb.z),(8,pt G.z)] a/\Chg (· ∈ ([g1]++[G.z])) W w/\inI ch/\inI ci/\a_ w bN (sl eL eM eN) eJ/\bN.Nodup/\(∀k∈bN,W.z<=k)/\a_ w bO (sl eO eP eQ) eK/\bO.Nodup/\(∀k∈bO,W.z<=k)/\(∀k∈bO,k∉bN)/\Blk w g1 [sl A0 N0 C0,vI ch,vI ci]/\Blk w G.z [Str.v x5,vI x3,vI 0,vB false,sl eL eM eN,sl none 0 0,sl none 0 0,sl eO eP eQ]) ?_ ?_
        ·refine Wc z (fun f2=>?_)<|fun f2=>?_
         ·refine Wg<|RM z z ?_
          have fH:=lt_ hj s3.s;have fI:=mm1 (Blk.lt hB1) fH;obtain ⟨iw,n2,n3,n4,jE⟩:=u_<|ifT gF f2;refine E z (fc call43 z<|a_A (B:=B) n4 ((((hq.e s3).e h4).c I<|djs fI).e sh) (zt' J<|lt_ (lt_ (lt_ fH h4.s) I.s) sh.s) hBg (Y.g<|((((hn.c sc<|c_<|b_ hBg).e s3).e h4).c I<|c_ (or0 (b_ lr) (i_<|zt' J fH):∀k∈[G.z],¬B k)).e sh) ho hp<|a_t<|repS.len bk) ?_;rintro _ cj ⟨eR,rfl,n5,n6,n7,n8⟩;refine E z (fS [(.tmp 135)] b_0 z z z (Y_ z) (lb z)<|lb z) ?_;rintro _ ix ⟨rfl,fJ⟩;have fK:=fJ.below;have qO:Blk ix cj.z [vI iw]:=fJ.blk;refine Rf z K_ z<|E0 (fs0 (cur':=[Str.v x5,vI x3,vI 0,vB false,sl none 0 0,sl none 0 0,sl none 0 0,sl (some ⟨cj.z,0,none⟩) 1 1]) d_F z z (((ht.e sh).c eR<|atp fI).e fK) z z z z) ?_
          rintro _ n9 ⟨na,nb⟩;have fL:=nb.one;refine Wl ?_;exact fun _ q=>⟨n2,n3,([]:List UInt8),[iw],som jE,none,0,0,[],some ⟨cj.z,0,none⟩,1,1,[cj.z],q.k<|s2 z z,(cM (e_ (cM (cr ([g1]++[G.z]) W) eR (io<|r_ sr):Chg (· ∈ ([g1]++[G.z])) W cj) fK:Chg (· ∈ ([g1]++[G.z])) W ix) fL (io<|v_ sr):Chg (· ∈ ([g1]++[G.z])) W n9),n6,n7,onL,H_,an_,(a_l fJ<|a_P n5).c fL<|mm1 ha.lt<|lt_ (lt_ I.s sh.s) eR.s,a_q,m1 eR.s,nmN _,(n8.e fK).c fL<|djs fI,na⟩
         refine Ws<|Rq z z z<|Rw z ?_
         obtain ⟨nc,gG,jF⟩:=bdS<|ifF gF f2;refine Wt (fun a w=>∃(ck:Int)(cl:Int)(eS:List UInt8),(ck,cl,eS)=nc/\∃eT eU eV cm,Sat 147 [(6,pt wb.z),(8,pt G.z)] a/\Chg (· ∈ ([g1]++[G.z])) W w/\inI ck/\inI cl/\a_ w cm (sl eT eU eV) eS/\cm.Nodup/\(∀k∈cm,W.z<=k)/\Blk w g1 [sl A0 N0 C0,vI ck,vI cl]/\Blk w G.z [Str.v x5,vI x3,vI 0,vB false,sl eT eU eV,sl none 0 0,sl none 0 0,sl none 0 0]) ?_ ?_
         ·refine Wc z (fun f3=>?_)<|fun f3=>?_
          ·refine Wg<|Rm z<|E z (fS [(.const<|.int .i64 0),.const<|.int .i64 10,.const<|.int .i64 59,(.const<|.int .i64 255)] b_0 z z z (Y_ z) (lb z)<|lb z) ?_
           rintro _ cn ⟨rfl,iy⟩;have bh:=iy.below;have iz:a_ cn [W.z] (sl (some ⟨W.z,0,none⟩) 4 4) ([0,10,59,255]:List Int):=g_t (l:=[0,10,59,255]) (iy.blk:Blk cn W.z [vI 0,vI 10,vI 59,vI 255]) (ac0 (ii z)<|ac0 (ii z)<|ac0 (ii z)<|ac0 (ii z) an0) z;have fM:=lt_ hj s3.s;have fN:=mm1 (Blk.lt hB1) fM;have iB:=lt_ (lt_ (lt_ fM h4.s) I.s) sh.s;obtain ⟨iC,nd,ne,nf,jG⟩:=u_<|ifT gG f3;refine E z (fc call70 z<|h_b (B:=zn B W.z cn.z) nf (((((hq.e s3).e h4).c I<|djs fN).e sh).e bh) (b_D (zt' J<|lt_ iB bh.s) lr) (atp ((c_g (b_ hBg) (b_<|Blk.lt hB1) iB):∀k∈[g1],¬(zn B W.z cn.z) k)) (repS.mono (Y.g<|(((((hn.c sc<|c_<|b_ hBg).e s3).e h4).c I<|c_ (or0 (b_ lr) (i_<|zt' J fM):∀k∈[G.z],¬B k)).e sh).e bh) a_W) ho hp<|or_ iz<|zin (B:=B) (b_ lr)<|a_.lt iz) ?_;rintro _ co ⟨eW,rfl,_,ng,nh,ni⟩;refine R z (c_B d_3 d_5 z)<|E z (fS [(.tmp 143)] S_ z z z (Y_ z) (lb z)<|lb z) ?_
           rintro _ iD ⟨rfl,fO⟩;have fP:=fO.below;have qP:Blk iD co.z [(vU<|byteI<|mkB iC)]:=fO.blk;refine Rf z a_D z<|E0 (fs0 (cur':=[Str.v x5,vI x3,vI 0,vB false,sl (some ⟨co.z,0,none⟩) 1 1,sl none 0 0,sl none 0 0,sl none 0 0]) z_22 z z ((((ht.e sh).e bh).c eW<|atp fN).e fP) z z z z) ?_
           rintro _ nj ⟨nk,nl⟩;have fQ:=nl.one;refine Wl ?_;exact fun _ q=>⟨nd,ne,[mkB iC],som jG,some ⟨co.z,0,none⟩,1,1,[co.z],q.k<|s2 z z,(cM (e_ (cM (e_ (cr ([g1]++[G.z]) W) bh:Chg (· ∈ ([g1]++[G.z])) W cn) eW (io<|r_ sr):Chg (· ∈ ([g1]++[G.z])) W co) fP:Chg (· ∈ ([g1]++[G.z])) W iD) fQ (io<|v_ sr):Chg (· ∈ ([g1]++[G.z])) W nj),ng,nh,(a_l fO a_E).c fQ<|mm1 ha.lt<|lt_ (lt_ (lt_ I.s sh.s) bh.s) eW.s,a_q,m1<|lt_ bh.s eW.s,(ni.e fP).c fQ<|djs fN,nk⟩
          exact M_<|fun _ q=>⟨jR,jS,([]:List UInt8),som<|ifF gG f3,none,0,0,[],q.k<|s2 z z,cr ([g1]++[G.z]) W,ho,hp,onL,H_,an_,(((hq.e s3).e h4).c I<|djs<|mm1 (Blk.lt hB1)<|lt_ hj s3.s).e sh,ht.e sh⟩
         rintro np nq ⟨ck,cl,eS,rfl,eT,eU,eV,cm,_,nr,ns,nt,nu,nv,nw,nx,ny⟩;revert np;exact fun _ q=>⟨ck,cl,eS,([]:List Int),som<|a_Q jF,eT,eU,eV,cm,none,0,0,[],q.k<|s2 z z,(cM (cr ([g1]++[G.z]) W) nr (aa_ (io<|r_ sr)<|io<|v_ sr):Chg (· ∈ ([g1]++[G.z])) W nq),ns,nt,nu,nv,nw,onL,H_,an_,an_,nx,ny⟩
        rintro nA nB ⟨ch,ci,eJ,eK,rfl,eL,eM,eN,bN,eO,eP,eQ,bO,_,nC,nD,nE,nF,nG,nH,nI,nJ,nK,nL,nM,nN⟩;revert nA;exact fun _ q=>⟨ch,ci,eJ,([]:List Int),eK,som<|c_e jD,eL,eM,eN,bN,none,0,0,[],eO,eP,eQ,bO,q.k<|s2 z z,(cM (e_ (cr ([g1]++[G.z]) H) sh:Chg (· ∈ ([g1]++[G.z])) H W) nC (aa_ (io<|r_ sr)<|io<|v_ sr):Chg (· ∈ ([g1]++[G.z])) H nB),nD,nE,nF,nG,w_ nH sh.s,onL,H_,an_,an_,nI,nJ,w_ nK sh.s,nL,nmN _,nM,nN⟩
       rintro nO nP ⟨cc,cd,eh,ei,ej,rfl,ek,em,en,b6,eo,ep,er,b7,es,et,eu,b8,_,nQ,nR,nS,nT,nU,nV,nW,nX,nY,nZ,o0,o1,o2,o3,o4,o5,o6⟩;have jH:=elL gB;revert nO;exact fun _ q=>⟨cc,cd,eh,([]:List Str),ei,ej,som<|c_f jH,ek,em,en,b6,none,0,0,[],eo,ep,er,b7,es,et,eu,b8,q.k<|s2 z z,(cM (cr ([g1]++[G.z]) H) nQ (aa_ (io<|r_ sr)<|io<|v_ sr):Chg (· ∈ ([g1]++[G.z])) H nP),nR,nS,nT,nU,nV,onL,H_,an_,an_,nW,nX,nY,nZ,nmN _,o0,o1,o2,o3,nmN _,o4,o5,o6⟩
      rintro o7 o8 ⟨c7,c8,dL,dN,dO,dP,rfl,dS,dT,dU,aI,dV,dW,dX,aJ,dY,dZ,e0,aK,e1,e2,e3,aL,_,o9,oa,ob,oc,od,oe,og,oh,oi,oj,ol,om,oo,oq,os,ot,ou,ov,ow,ox,oy,oz,oA⟩;have jI:=elL fi;revert o7;exact fun _ q=>⟨c7,c8,dL,dN,dO,dP,som<|un6S jI,dS,dT,dU,aI,dV,dW,dX,aJ,dY,dZ,e0,aK,e1,e2,e3,aL,q.k<|s2 z z,(cM (cr ([g1]++[G.z]) H) o9 (aa_ (io<|r_ sr)<|io<|v_ sr):Chg (· ∈ ([g1]++[G.z])) H o8),oa,ob,oc,od,oe,og,oh,oi,oj,ol,om,oo,oq,os,ot,ou,ov,ow,ox,oy,oz,oA⟩
     rintro oB oC ⟨c5,c6,dp,dq,dr,dt,rfl,du,dv,dw,aE,dx,dy,dz,aF,dA,dB,dC,aG,dD,dF,dG,aH,_,oD,oE,oF,oG,oH,oI,oJ,oK,oL,oM,oN,oO,oP,oQ,oR,oS,oT,oU,oV,oW,oX,oY,oZ⟩;have jJ:=elL fg;revert oB;exact fun _ q=>⟨c5,c6,dp,dq,dr,dt,som<|un6S jJ,du,dv,dw,aE,dx,dy,dz,aF,dA,dB,dC,aG,dD,dF,dG,aH,q.k<|s2 z z,(cM (cr ([g1]++[G.z]) H) oD (aa_ (io<|r_ sr)<|io<|v_ sr):Chg (· ∈ ([g1]++[G.z])) H oC),oE,oF,oG,oH,oI,oJ,oK,oL,oM,oN,oO,oP,oQ,oR,oS,oT,oU,oV,oW,oX,oY,oZ⟩
    rintro p0 p1 ⟨c2,c3,d7,d8,d9,da,rfl,db,dc,dd,aA,de,df,dg,aB,dh,di,dj,aC,dk,dl,dm,aD,_,p2,p3,p4,p5,p6,p7,p8,p9,pa,pb,pc,pd,pe,pf,pg,ph,pi,pj,pk,pl,pm,pn,po⟩;have jK:=elL fe;revert p0;exact fun _ q=>⟨c2,c3,0,d7,d8,d9,da,som<|un6S jK,db,dc,dd,aA,de,df,dg,aB,dh,di,dj,aC,dk,dl,dm,aD,q.k<|s2 z z,(cM (cr ([g1]++[G.z]) H) p2 (aa_ (io<|r_ sr)<|io<|v_ sr):Chg (· ∈ ([g1]++[G.z])) H p1),p3,p4,ii z,p5,p6,p7,p8,p9,pa,pb,pc,pd,pe,pf,pg,ph,pi,pj,pk,pl,pm,pn,po⟩
   rintro pp pq ⟨bZ,c0,c1,cR,cS,cT,cU,rfl,cV,cW,cX,aw,cY,cZ,d0,ax,d1,d2,d3,ay,d4,d5,d6,az,_,pr,ps,pu,pw,px,py,pz,pA,pB,pC,pE,pG,pH,pI,pJ,pK,pL,pM,pN,pO,pP,pQ,pR,pS⟩;have jL:=elL f8;revert pp;exact fun _ q=>⟨bZ,c0,c1,cR,cS,cT,cU,som<|un7S jL,cV,cW,cX,aw,cY,cZ,d0,ax,d1,d2,d3,ay,d4,d5,d6,az,q.k<|s2 z z,(cM (cr ([g1]++[G.z]) H) pr (aa_ (io<|r_ sr)<|io<|v_ sr):Chg (· ∈ ([g1]++[G.z])) H pq),ps,pu,pw,px,py,pz,pA,pB,pC,pE,pG,pH,pI,pJ,pK,pL,pM,pN,pO,pP,pQ,pR,pS⟩
  rintro pU pV ⟨bW,bX,bY,cz,cA,cB,cC,rfl,cD,cE,cF,ap,cG,cH,cI,aq,cJ,cK,cL,au,cN,cO,cP,av,_,pW,pX,pY,pZ,q0,q1,q2,q3,q4,q5,q6,q7,q8,q9,qa,qb,qc,qd,qe,qf,qg,qh,qi,qj⟩;have jM:=elL f6;revert pU;exact fun _ q=>⟨bW,bX,bY,false,cz,cA,cB,cC,som<|un7S jM,cD,cE,cF,ap,cG,cH,cI,aq,cJ,cK,cL,au,cN,cO,cP,av,q.k<|s2 z z,(cM (cr ([g1]++[G.z]) H) pW (aa_ (io<|r_ sr)<|io<|v_ sr):Chg (· ∈ ([g1]++[G.z])) H pV),pX,pY,pZ,q0,q1,q2,q3,q4,q5,q6,q7,q8,q9,qa,qb,qc,qd,qe,qf,qg,qh,qi,qj⟩
 rintro qk ql ⟨cv,cw,bm,bS,fT,fU,fV,fW,rfl,bn,bo,bp,al,bq,bt,bu,am,bv,bw,bx,an,bz,bA,bB,ao,_,iE,qm,qn,qo,qp,qq,iF,qr,qs,iG,qt,qu,qv,iH,qw,qx,qy,qz,iI,qA,qB,qC,qD,qE⟩;have jN:=elL f4;revert qk;refine Wo<|Ws<|R z (lN (vs:=[Str.v x5,vI x3,vI bm,vB bS,sl bn bo bp,sl bq bt bu,sl bv bw bx,sl bz bA bB]) I_ k_ z z fid<|qE.row 0 8 z) ?_
 have fR:=mm1 (Blk.lt hB1) bi.s;have iJ:=lt_ (lt_ hi.s sc.s) s3.s;have iK:=mm1 bj.lt iJ;refine E0 (fs0 (cur':=[Str.v x5,vI x3,vI bm,vB bS,sl bn bo bp,sl bq bt bu,sl bv bw bx,sl bz bA bB]) k_ z z ((((((bj.e hi).c sc<|atp fR).e s3).e h4).c I<|djs iK).c iE<|atp<|nmA fR<|ds iK) z z z z) ?_;rintro _ qF ⟨qG,qH⟩;have bQ:=qH.one;refine Wn ?_;obtain rfl:=som<|un8S jN;have eX:=lt_ (lt_ iJ h4.s) I.s;have iL:=lt_ hj s3.s;have iM:∀k∈[G.z],k∈[g1]∨w0.z<=k:=mor iL;have eY:=lt_ (lt_ iL h4.s) I.s;exact Wr<|f_ hr (E_ I_ k_ z qG z) ⟨(cM (cM (cM (e_ (e_ (cM (e_ (e_ (e_ (cr [g1] w0) bi:Chg (· ∈ [g1]) w0 wb) aj:Chg (· ∈ [g1]) w0 aW) hi:Chg (· ∈ [g1]) w0 bR) sc (io sr):Chg (· ∈ [g1]) w0 jU) s3:Chg (· ∈ [g1]) w0 G) h4:Chg (· ∈ [g1]) w0 gP) I iM:Chg (· ∈ [g1]) w0 H) iE (aa_ (io sr) iM):Chg (· ∈ [g1]) w0 ql) bQ (mor bi.s:∀k∈[wb.z],k∈[g1]∨w0.z<=k):Chg (· ∈ [g1]) w0 qF),bn,bo,bp,al,bq,bt,bu,am,bv,bw,bx,an,bz,bA,bB,ao,z,b_2 gO,jQ,qo,qp.c bQ<|m_ iF bj.lt eX,qr.c bQ<|m_ iG bj.lt eX,qu.c bQ<|m_ iH bj.lt eX,qy.c bQ<|m_ iI bj.lt eX,qm,qn,qD.c bQ<|djs fR,na_ qq (na_ qs (na_ qv qz<|ds qC)<|nmA (ds qx)<|ds qB)<|nmA (ds qt)<|nmA (ds qw)<|ds qA,aa_ (w_ iF eY)<|aa_ (w_ iG eY)<|aa_ (w_ iH eY)<|w_ iI eY⟩
def Q8 (w0:World)(g1:Nat)(B:Zone)(A0:Option Addr)(N0 C0:Nat)(x1:n_)(r:d_×Int×Int)(v:Value)(w':World):Prop:=Chg (· ∈ [g1]) w0 w'/\un3 (fun O G H=>∃I J L S1,(.agg #[.slice I J L])=v/\a_ w' S1 (sl I J L) O.rules/\inI G/\inI H/\Blk w' g1 [sl A0 N0 C0,vI G,vI H]/\S1.Nodup/\(∀k∈S1,w0.z<=k)) r
theorem W_w1l {x1:n_}{g1:Nat}{res:d_×Int×Int}(hm:e_I n x1=some res)(hB1:Blk w0 g1 [sl A0 N0 C0,vI x1.i,vI x1.h])(Y:B<=w0.z)(hBg:¬B g1)(aa:repS w0 B (sl A0 N0 C0) x1.b)(bj:inI x1.i)(bk:inI x1.h):j_ prog 38 [pt g1] w0 (Q8 w0 g1 B A0 N0 C0 x1 res):=by
 unfold e_I at hm
 refine goG func38 z z z fun fn hr=>Ws<|E z (fa e_m) ?_
 rintro _ I ⟨rfl,aF⟩;have ht:=aF.below;have hq:Blk I w0.z [sl none 0 0]:=aF.blk;refine Wn<|Ws<|R z (bP (parts:=[]) (cs:=[sl none 0 0]) n_U z z)<|E z (fa e_m) ?_
 rintro _ aG ⟨rfl,aH⟩;have hw:=aH.below;have h3:Blk aG I.z [sl none 0 0]:=aH.blk;refine E0 (fs0 (cur':=[sl none 0 0]) p_ z z h3 z z z z) ?_;rintro _ aI ⟨bz,bA⟩;have hd:=bA.one;refine Wn<|Wq (Wd (X:=fun k=>k∈[g1]∨aI.z<=k) 320 (pl_ 9 [4,5,6,8]) mo (by kernel_rfl) fun ab si _=>dR z z (fd N_ z) ?_)
 have al:=bz.e si;have hc:=mm1 (Blk.lt hB1) ht.s;refine dR z z (l1 R_ z (a_p (atp hc)<|Nat.lt_of_lt_of_le h3.lt hd.s)<|al.at z)<|dM z z z<|dR z z (lN (vs:=[sl none 0 0]) s_ p_ z z (a_p (atp hc)<|Nat.lt_of_lt_of_le h3.lt hd.s)<|al.row 0 1 z) ?_
 have am:∀k∈[I.z],¬B k:=or0 (b_ lr)<|i_<|zt' Y ht.s;have aJ:=(((ht.ag B).e hw).c hd<|c_ am).e si;have h4:=lt_ (lt_ (lt_ ht.s hw.s) hd.s) si.s;have a0:=zt' Y h4;obtain ⟨aK,_,_,bB,bm⟩:=u_ hm;refine dE z z (fc call65 z<|W_w11 (B:=B) (x2:=(⟨([]:List g_)⟩:d_)) bB ((((hB1.e ht).e hw).c hd<|djs hc).e si) a0 hBg (aa.g aJ) bj bk (or_ (B:=B) onL an_)<|ii z) (.inr fun _ _ h=>h.1.mono fun k _ hk=>(io sr) k hk) ?_;rintro _ aL ⟨sj,bC,bD,bE,an,bF,bG,bH,ao,bI,bJ,bK,ap,bL,bM,bN,aq,rfl,bO,bQ,bR,bS,bT,bU,bV,bW,bX,bY,he,G⟩;refine dE z z (fS [(.tmp 10)] h_5 z z z (Y_ z) (lb z)<|lb z) (.inr fun _ _ h=>B_<|h.2.below) ?_;rintro _ aM ⟨rfl,aN⟩;have O:=aN.below;obtain ⟨_,bZ,bn⟩:=bdS bm;refine dE z z (a_H (α:=g_) h_5 bZ z z onL H_ (aN.blk:Blk aM aL.z (vR aK bC bD bE bF bG bH bI bJ bK bL bM bN)) (j_d (x:=aK) (S1:=an) (S2:=ao) (S3:=ap) (S4:=aq) bO bQ bR (bS.e O) (bT.e O) (bU.e O)<|bV.e O) (nmN _)<|na_ (nl_ he) (na_ (nl_<|nr_ he) (na_ (nl_<|nr_<|nr_ he) (nr_<|nr_<|nr_ he)<|nj<|nr_<|nr_ he)<|nmA (nmL<|nj<|nr_ he)<|nmR<|nj<|nr_ he)<|nmA (nmL<|nj he)<|nmA (nmL<|nmR<|nj he)<|nmR<|nmR<|nj he) (.inl z) ?_;rintro _ c0 ⟨H,aO,aP,aQ,rfl,sk,c1,c2,hl⟩;refine dR z z (fd N_ z)<|dE0 z (fs0 (cur':=[sl aO aP aQ]) z_24 z z (((al.c sj<|atp hc).e O).c sk<|atp<|nmN _) z z z z) (.inl z) ?_
 rintro _ c3 ⟨c4,c5⟩;have hn:=c5.one;refine pD<|Wo<|Wq<|Wm z ?_
 have aR:=(((aJ.c sj<|c_<|b_ hBg).e O).c sk<|c_ an_).c hn<|c_ am
 have hx:=lt_ (lt_ h4 sj.s) O.s;have ar:=lt_ (lt_ hx sk.s) hn.s;obtain ⟨_,_,_,c6,bo⟩:=u_ bn;refine E z (fc call43 z<|a_A (B:=B) c6 (((bY.e O).c sk<|atp<|nmN _).c hn<|djs hc) (zt' Y ar) hBg (aa.g aR) bW bX<|ii z) ?_;rintro _ J ⟨sf,rfl,c7,c8,c9,cb⟩;refine Rw z ?_
 obtain ⟨_,bp,aD⟩:=bdS bo;refine b_M (σ:=Int×Int×Int×(List g_)) (ρ:=d_×Int×Int) (fun s a w=>un4 (fun xr xu xv xy=>∃V W ca L,Sat 32 [(0,pt g1),(2,pt w0.z),(3,pt I.z),(4,vI xr)] a/\Chg (· ∈ ([g1]++(H++[I.z]))) J w/\inI xr/\inI xu/\inI xv/\a_ w L (sl V W ca) xy/\L.Nodup/\(∀k∈L,k∈H∨J.z<=k)/\Blk w g1 [sl A0 N0 C0,vI xu,vI xv]/\Blk w I.z [sl V W ca]) s) (fun s a w=>un4 (fun xr xu xv xy=>∃V W ca L,Sat 32 [(2,pt w0.z),(3,pt I.z)] a/\Chg (· ∈ ([g1]++(H++[I.z]))) J w/\inI xr/\inI xu/\inI xv/\a_ w L (sl V W ca) xy/\L.Nodup/\(∀k∈L,k∈H∨J.z<=k)/\Blk w g1 [sl A0 N0 C0,vI xu,vI xv]/\Blk w I.z [sl V W ca]) s) (rQ prog fn<|Q8 w0 g1 B A0 N0 C0 x1) bp ?_ ?_ ?_ ?_
 ·have a1:=lt_ hd.s si.s;exact fun _ q=>⟨aO,aP,aQ,H,q.k<|s4 z z z z,cr ([g1]++(H++[I.z])) J,c7,c8,c9,(c1.c hn (or2 hl an_ (aa_ (m_ (al_ G) h3.lt a1)<|aa_ (m_ (al_<|ar_ G) h3.lt a1)<|aa_ (m_ (al_<|ar_<|ar_ G) h3.lt a1)<|m_ (ar_<|ar_<|ar_ G) h3.lt a1) (W_ (b_ h3.lt)<|lt_ (lt_ a1 sj.s) O.s):∀k∈H,k∉[I.z])).c sf (or2 hl an_ (aa_ (m_ (al_ G) (Blk.lt hB1) h4)<|aa_ (m_ (al_<|ar_ G) (Blk.lt hB1) h4)<|aa_ (m_ (al_<|ar_<|ar_ G) (Blk.lt hB1) h4)<|m_ (ar_<|ar_<|ar_ G) (Blk.lt hB1) h4) (W_ (b_<|Blk.lt hB1) hx):∀k∈H,k∉[g1]),c2,io sr,cb,c4.c sf<|atp hc⟩
 ·rintro ⟨xr,xu,xv,xy⟩ _ a2 _ ⟨V,W,ca,L,bq,sz,aS,ad,ae,ho,af,hp,ah,ai⟩ br;have aE:=c_e br;refine Wu ?_ bq;refine Wq<|Wm z<|R z (a_d z z)<|Wx z (fun ak=>?_) (fun ak=>?_)
  ·refine Wk<|Wq<|Wb (Wd (X:=fun k=>k∈[g1]∨a2.z<=k) 2560 (pl_ 12 [5,7,8,9,11]) mo (by kernel_rfl) fun cc sm _=>dR z z (fd N_ z) ?_)
   have au:=ai.e sm;have a3:=lt_ hd.s si.s;have aT:=lt_ (lt_ a3 sj.s) O.s;have aU:=lt_ (lt_ (lt_ aT sk.s) hn.s) sf.s;have av:=lt_ aU sz.s;refine dR z z (l1 R_ z (a_p (atp hc)<|Nat.lt_of_lt_of_le h3.lt av)<|au.at z)<|dM z z z<|dR z z (lN (vs:=[sl V W ca]) s_ p_ z z (a_p (atp hc)<|Nat.lt_of_lt_of_le h3.lt av)<|au.row 0 1 z)<|dM z z z ?_
   have aV:=((aR.c sf<|c_<|b_ hBg).c sz<|nmA (c_<|b_ hBg)<|nmA (c_ (or2 hl an_ (aa_ (or0 (al_ G) (i_ a0):∀k∈an,¬B k)<|aa_ (or0 (al_<|ar_ G) (i_ a0):∀k∈ao,¬B k)<|aa_ (or0 (al_<|ar_<|ar_ G) (i_ a0):∀k∈ap,¬B k) (or0 (ar_<|ar_<|ar_ G) (i_ a0):∀k∈aq,¬B k)) (i_<|zt' Y hx):∀k∈H,¬B k))<|c_ am).e sm;have aW:=lt_ ar sf.s;have aX:=lt_ (lt_ aW sz.s) sm.s;obtain ⟨_,_,_,cd,bs⟩:=u_<|ifT aE ak;refine dE z z (fc call43 z<|a_A (B:=B) cd (ah.e sm) (zt' Y aX) hBg (aa.g aV) ad ae<|ii z) (.inr fun _ _ h=>h.1.mono fun k _ hk=>(io sr) k hk) ?_;rintro _ ce ⟨ss,rfl,_,cf,cg,ch⟩;refine dR z z (add_ z z) ?_;have aY:=lt_ sj.s O.s;have aw:∀k∈L,k∉[g1]:=or1 hp (or2 hl an_ (aa_ (m_ (al_ G) (Blk.lt hB1) h4)<|aa_ (m_ (al_<|ar_ G) (Blk.lt hB1) h4)<|aa_ (m_ (al_<|ar_<|ar_ G) (Blk.lt hB1) h4)<|m_ (ar_<|ar_<|ar_ G) (Blk.lt hB1) h4) (W_ (b_<|Blk.lt hB1) hx):∀k∈H,k∉[g1])<|W_ (b_<|Blk.lt hB1) aW;have aZ:=(ho.e sm).c ss aw;have a4:=lt_ sm.s ss.s;obtain ⟨b0,ci,cj,ck,bt⟩:=u_ bs;refine dE z z (fc call65 z<|W_w11 (B:=zn B ab.z a2.z) (x2:=(⟨xy⟩:d_)) ck ch (b_D (zt' Y<|lt_ aX ss.s) a4) (atp ((c_g (b_ hBg) (b_<|Blk.lt hB1) h4):∀k∈[g1],¬(zn B ab.z a2.z) k)) (repS.mono (aa.g<|aV.c ss<|c_<|b_ hBg) a_W) cf cg (or_ aZ<|zin (B:=B) (a_O hp (or2 hl an_ (aa_ (al_ G)<|aa_ (al_<|ar_ G)<|aa_ (al_<|ar_<|ar_ G)<|ar_<|ar_<|ar_ G) (a_R aY):∀k∈H,ab.z<=k)<|lt_ (lt_ (lt_ aY sk.s) hn.s) sf.s)<|a_.lt ho)<|iA _ _) (.inr fun _ _ h=>h.1.mono fun k _ hk=>(io sr) k hk) ?_;rintro _ b3 ⟨a5,cl,cm,cn,b4,co,cp,cq,b5,ct,cu,cv,b6,cw,cx,cy,b7,rfl,cz,cA,cB,cC,cD,cE,cF,cG,cH,cI,hg,hb⟩;refine dE z z (fS [(.tmp 27)] h_5 z z z (Y_ z) (lb z)<|lb z) (.inr fun _ _ h=>B_<|h.2.below) ?_;rintro _ b8 ⟨rfl,b9⟩;have hh:=b9.below;obtain ⟨cJ,cK,bu⟩:=bdS bt;refine dE z z (a_H (α:=g_) h_5 cK z z ((aZ.c a5 aw).e hh) af (b9.blk:Blk b8 b3.z (vR b0 cl cm cn co cp cq ct cu cv cw cx cy)) (j_d (x:=b0) (S1:=b4) (S2:=b5) (S3:=b6) (S4:=b7) cz cA cB (cC.e hh) (cD.e hh) (cE.e hh)<|cF.e hh) (aa_ (c_9 (al_ hb) (a_.lt ho) a4)<|aa_ (c_9 (al_<|ar_ hb) (a_.lt ho) a4)<|aa_ (c_9 (al_<|ar_<|ar_ hb) (a_.lt ho) a4)<|c_9 (ar_<|ar_<|ar_ hb) (a_.lt ho) a4)<|na_ (nl_ hg) (na_ (nl_<|nr_ hg) (na_ (nl_<|nr_<|nr_ hg) (nr_<|nr_<|nr_ hg)<|nj<|nr_<|nr_ hg)<|nmA (nmL<|nj<|nr_ hg)<|nmR<|nj<|nr_ hg)<|nmA (nmL<|nj hg)<|nmA (nmL<|nmR<|nj hg)<|nmR<|nmR<|nj hg) (.inl z) ?_;rintro _ cL ⟨ax,ba,bb,bc,rfl,ay,cN,cO,be⟩;refine dR z z (fd N_ z) ?_;have bf:∀k∈L,k∉[I.z]:=or1 hp (or2 hl an_ (aa_ (m_ (al_ G) h3.lt a3)<|aa_ (m_ (al_<|ar_ G) h3.lt a3)<|aa_ (m_ (al_<|ar_<|ar_ G) h3.lt a3)<|m_ (ar_<|ar_<|ar_ G) h3.lt a3) (W_ (b_ h3.lt) aT):∀k∈H,k∉[I.z])<|W_ (b_ h3.lt) aU;refine dE0 z (fs0 (cur':=[sl ba bb bc]) z_24 z z ((((au.c ss<|atp hc).c a5<|atp hc).e hh).c ay<|djs bf) z z z z) (.inl z) ?_;rintro _ cP ⟨cQ,cR⟩;have az:=cR.one;refine pD<|Wo<|Wg<|Rm z<|R z (sb_ z z)<|Ra z<|Wl ?_
   have a6:=lt_ (lt_ av sm.s) ss.s;have a7:=lt_ (lt_ sz.s sm.s) ss.s;exact fun _ q=>⟨(G_ xr 1,ci,cj,cJ),(som bu).symm,⟨ba,bb,bc,ax,q.k<|s4 z z z z,(cM (cM (e_ (cM (cM (e_ (cM (cr ([g1]++(H++[I.z])) J) sz (aa_ (io<|r_ sr)<|aa_ (io<|v_<|r_ sr)<|io<|v_<|v_ sr):Chg (· ∈ ([g1]++(H++[I.z]))) J a2) sm:Chg (· ∈ ([g1]++(H++[I.z]))) J cc) ss (io<|r_ sr):Chg (· ∈ ([g1]++(H++[I.z]))) J ce) a5 (io<|r_ sr):Chg (· ∈ ([g1]++(H++[I.z]))) J b3) hh:Chg (· ∈ ([g1]++(H++[I.z]))) J b8) ay (or1 hp (io<|v_<|r_ sr) (x_ lr):∀k∈L,k∈([g1]++(H++[I.z]))∨J.z<=k):Chg (· ∈ ([g1]++(H++[I.z]))) J cL) az (io<|v_<|v_ sr):Chg (· ∈ ([g1]++(H++[I.z]))) J cP),iS _ _,cG,cH,cN.c az (or2 be bf (aa_ (m_ (al_ hb) h3.lt a6)<|aa_ (m_ (al_<|ar_ hb) h3.lt a6)<|aa_ (m_ (al_<|ar_<|ar_ hb) h3.lt a6)<|m_ (ar_<|ar_<|ar_ hb) h3.lt a6) (W_ (b_ h3.lt)<|lt_ (lt_ a6 a5.s) hh.s):∀k∈ax,k∉[I.z]),cO,(or2 be (or1 hp (io sr) (x_ lr):∀k∈L,k∈H∨J.z<=k) (aa_ (or0 (al_ hb) (x_ a7):∀k∈b4,k∈H∨J.z<=k)<|aa_ (or0 (al_<|ar_ hb) (x_ a7):∀k∈b5,k∈H∨J.z<=k)<|aa_ (or0 (al_<|ar_<|ar_ hb) (x_ a7):∀k∈b6,k∈H∨J.z<=k) (or0 (ar_<|ar_<|ar_ hb) (x_ a7):∀k∈b7,k∈H∨J.z<=k)) (x_<|lt_ (lt_ a7 a5.s) hh.s):∀k∈ax,k∈H∨J.z<=k),((cI.e hh).c ay<|djs aw).c az<|djs hc,cQ⟩⟩
  exact We<|fun _ q=>b_i (som<|ifF aE ak).symm ⟨V,W,ca,L,q.k<|s2 z z,(cM (cr ([g1]++(H++[I.z])) J) sz (aa_ (io<|r_ sr)<|aa_ (io<|v_<|r_ sr)<|io<|v_<|v_ sr):Chg (· ∈ ([g1]++(H++[I.z]))) J a2),aS,ad,ae,ho,af,(or1 hp (io sr) (x_ lr):∀k∈L,k∈H∨J.z<=k),ah,ai⟩
 ·rintro ⟨xr,xu,xv,xy⟩ cS cT rfl ⟨V,W,ca,L,_,bg,aS,ad,ae,ho,af,hp,ah,ai⟩;have bv:=elL aD;revert cS;refine Wo<|Ws<|R z (lN (vs:=[sl V W ca]) s_ p_ z z fid<|ai.row 0 1 z) ?_
  have aA:=mmr hq.lt;have aj:=mmr<|Blk.lt hB1
  have a9:=lt_ (lt_ hw.s hd.s) si.s;have bh:=lt_ (lt_ a9 sj.s) O.s;have bi:∀k∈H,k∉[w0.z]:=or2 hl an_ (aa_ (m_ (al_ G) hq.lt a9)<|aa_ (m_ (al_<|ar_ G) hq.lt a9)<|aa_ (m_ (al_<|ar_<|ar_ G) hq.lt a9)<|m_ (ar_<|ar_<|ar_ G) hq.lt a9)<|W_ (b_ hq.lt) bh;refine E0 (fs0 (cur':=[sl V W ca]) p_ z z (((((((((hq.e hw).c hd<|djs aA).e si).c sj<|atp aj).e O).c sk<|atp<|nmN _).c hn<|djs aA).c sf<|atp aj).c bg<|atp<|nmA aj<|nmA (ds bi)<|ds aA) z z z z) ?_;rintro _ cU ⟨cV,cW⟩;have aB:=cW.one;refine Wn ?_;obtain rfl:=som<|c_e bv;have aC:∀k∈[I.z],k∈[g1]∨w0.z<=k:=mor ht.s;exact Wr<|f_ hr (E_ s_ p_ z cV z) ⟨(cM (cM (cM (cM (cM (e_ (cM (e_ (cM (e_ (e_ (cr [g1] w0) ht:Chg (· ∈ [g1]) w0 I) hw:Chg (· ∈ [g1]) w0 aG) hd aC:Chg (· ∈ [g1]) w0 aI) si:Chg (· ∈ [g1]) w0 ab) sj (io sr):Chg (· ∈ [g1]) w0 aL) O:Chg (· ∈ [g1]) w0 aM) sk an_:Chg (· ∈ [g1]) w0 c0) hn aC:Chg (· ∈ [g1]) w0 c3) sf (io sr):Chg (· ∈ [g1]) w0 J) bg (aa_ (io sr)<|aa_ (or2 hl an_ (aa_ (or0 (al_ G) (x_ h4):∀k∈an,k∈[g1]∨w0.z<=k)<|aa_ (or0 (al_<|ar_ G) (x_ h4):∀k∈ao,k∈[g1]∨w0.z<=k)<|aa_ (or0 (al_<|ar_<|ar_ G) (x_ h4):∀k∈ap,k∈[g1]∨w0.z<=k) (or0 (ar_<|ar_<|ar_ G) (x_ h4):∀k∈aq,k∈[g1]∨w0.z<=k)) (x_ hx):∀k∈H,k∈[g1]∨w0.z<=k) aC):Chg (· ∈ [g1]) w0 cT) aB (mor lr:∀k∈[w0.z],k∈[g1]∨w0.z<=k):Chg (· ∈ [g1]) w0 cU),V,W,ca,L,z,ho.c aB (or1 hp bi (W_ (b_ hq.lt)<|lt_ (lt_ (lt_ bh sk.s) hn.s) sf.s):∀k∈L,k∉[w0.z]),ad,ae,ah.c aB<|djs aj,af,a_O hp (or2 hl an_ (aa_ (w_ (al_ G) h4)<|aa_ (w_ (al_<|ar_ G) h4)<|aa_ (w_ (al_<|ar_<|ar_ G) h4)<|w_ (ar_<|ar_<|ar_ G) h4) (a_R hx):∀k∈H,w0.z<=k)<|lt_ ar sf.s⟩
 rintro _ _ _ _ rfl ⟨rfl,bw⟩;have bx:=elR aD;obtain rfl:=som bx;exact ⟨bw,z⟩
def Q9 (w0:World)(B:Zone)(r:Int)(v:Value)(w':World):Prop:=Bw w0 w'/\(fun G=>(vI G)=v/\inI G) r
theorem i_x {x1:Int}{res:Int}(hm:c_L x1=some res)(J:B<=w0.z)(I:inI x1):j_ prog 69 [vI x1] w0 (Q9 w0 B res):=by
 unfold c_L at hm
 refine goG func69 z z z fun fn hr=>Ws<|Rw z<|Wm z<|R z (c_j z z) ?_
 obtain ⟨_,H,G⟩:=bdS hm;refine R z (g_G z z<|nnS H)<|Rw z ?_
 obtain rfl:=som G;exact Wr<|f_ hr z ⟨br w0,z,l_D<|ii z⟩
theorem i_y {x1:Int}{x2:Int}{res:Int}(hm:d_O x1 x2=some res)(J:B<=w0.z)(H:inI x1)(I:inI x2):j_ prog 68 [vI x1,vI x2] w0 (Q9 w0 B res):=by
 unfold d_O at hm
 refine goG func68 z z z fun fn hr=>Ws<|Rw z<|Wq<|Wm z<|Rm z<|Rl z z z<|Wx z (fun G=>?_) (fun G=>?_)
 ·refine Wm z<|Rw z ?_
  obtain rfl:=som<|ifT hm G;exact Wr<|f_ hr z ⟨br w0,z,I⟩
 refine Wk<|Wm z<|Rw z ?_
 obtain rfl:=som<|ifF hm G;exact Wr<|f_ hr z ⟨br w0,z,H⟩
def Q10 (w0:World)(g1:Nat)(B:Zone)(A0:Option Addr)(N0 C0:Nat)(x1:n_)(r:Val×Int×Int)(v:Value)(w':World):Prop:=Chg (· ∈ [g1]) w0 w'/\un3 (fun G H I=>∃J L O S1 V W Y S2,(.agg #[vI G.number,sl J L O,sl V W Y])=v/\inI G.number/\a_ w' S1 (sl J L O) G.bytes/\a_ w' S2 (sl V W Y) G.items/\inI H/\inI I/\Blk w' g1 [sl A0 N0 C0,vI H,vI I]/\(S1++S2).Nodup/\(∀k∈(S1++S2),w0.z<=k)) r
structure i_z (f:n_->d_->Int->Int->Option (Val×Int×Int)):Prop where
  run:∀{A0 A6:Option Addr}{N0 C0 g1 N6 C6:Nat}{B:Zone}{x1:n_}{x2:d_}{x3:Int}{x4:Int}{res:Val×Int×Int}{w0:World}(hm:f x1 x2 x3 x4=some res)(hB1:Blk w0 g1 [sl A0 N0 C0,vI x1.i,vI x1.h])(hBw:B<=w0.z)(hBg:¬B g1)(p1_0:repS w0 B (sl A0 N0 C0) x1.b)(p1_1:inI x1.i)(p1_2:inI x1.h)(p2_0:repS w0 B (sl A6 N6 C6) x2.rules)(p3_0:inI x3)(p4_0:inI x4),j_ prog 40 [pt g1,.agg #[sl A6 N6 C6],vI x3,vI x4] w0<|Q10 w0 g1 B A0 N0 C0 x1 res
abbrev k_D (n:Nat):Prop:=i_z (d_m n).spec_l9Make
theorem T_w09 (aZ:k_D n):i_z (e_J n<|d_m n):=by
 constructor
 intro A0 A6 N0 C0 g1 N6 C6 B x1 x2 x3 x4 res w0 hm hB1 J hBg W a4 a5 aA p6 eM;unfold e_J at hm
 refine goG func40 z z z fun fn hr=>Ws<|E z (fb z) ?_
 rintro _ wb ⟨rfl,gz⟩;have O:=gz.below;have hf:Blk wb w0.z [sl A6 N6 C6]:=gz.blk;refine E z (fa a_N) ?_;rintro _ wc ⟨rfl,gA⟩;have L:=gA.below;have b0:Blk wc wb.z [vI 0,sl none 0 0,sl none 0 0]:=gA.blk;refine Wn<|Ws<|Rf z N_ z ?_
 have aB:=hf.e L;refine R z (l0 R_ z<|aB.at z)<|Rm z ?_
 obtain ⟨aC,iR,hK⟩:=bdS hm;have a7:=(O.ag B).e L;refine RX z (at_ (α:=g_) P_ k_ z z z (aA.g a7) iR) ?_;rintro _ ⟨_,_,_,rfl,iT,iU,_⟩;obtain ⟨gB,gC,gD,gE,gF,gG,gH,gI,gJ,gK,gL,gM,rfl,_,_,gN,iV,_,gO,aj⟩:=a_j iU;refine R z (lN (vs:=vR aC gB gC gD gE gF gG gH gI gJ gK gL gM) I_ k_ z z fid iT)<|E z (fa b_h) ?_
 rintro _ gP ⟨rfl,gQ⟩;have h5:=gQ.below;have b3:Blk gP wc.z [(Str.v (⟨[]⟩:Str)),vI 0,vI 0,vB false,sl none 0 0,sl none 0 0,sl none 0 0,sl none 0 0]:=gQ.blk;refine E0 (fs0 (cur':=vR aC gB gC gD gE gF gG gH gI gJ gK gL gM) k_ z z b3 z z z z) ?_;rintro _ G ⟨iW,iX⟩;have h4:=iX.one;refine Wn<|Ws<|R z (bP (parts:=[]) (cs:=[vI 0,sl none 0 0,sl none 0 0]) a_M z z)<|E z (fa a_N) ?_
 rintro _ gR ⟨rfl,gS⟩;have h6:=gS.below;have V:Blk gR G.z [vI 0,sl none 0 0,sl none 0 0]:=gS.blk;refine E0 (fs0 (cur':=[vI 0,sl none 0 0,sl none 0 0]) t_ z z V z z z z) ?_;rintro _ wa ⟨hw,iY⟩;have h3:=iY.one;refine Wn<|Wq<|Ws<|Rf z a_i z ?_
 have aq:=mm1 b3.lt h4.s;have ht:=(iW.e h6).c h3<|djs aq
 refine R z (l0 g_3 z<|ht.at z)<|Wn<|Wb<|Ws<|Rq z z z<|Rw z ?_
 obtain ⟨iZ,eN,d0⟩:=bdS hK;refine Wt (fun a w=>∃(bV:Int)(bW:Int)(aD:Int)(dg:List UInt8)(dh:List Val),Sum.inl (bV,bW,aD,dg,dh)=iZ/\∃aE aF aG aH aI aJ aK aL,Sat 178 [(8,pt wb.z),(10,pt G.z)] a/\Chg (· ∈ ([g1]++[G.z])) wa w/\inI bV/\inI bW/\inI aD/\a_ w aH (sl aE aF aG) dg/\aH.Nodup/\(∀k∈aH,wa.z<=k)/\a_ w aL (sl aI aJ aK) dh/\aL.Nodup/\(∀k∈aL,wa.z<=k)/\(∀k∈aL,k∉aH)/\Blk w g1 [sl A0 N0 C0,vI bV,vI bW]/\Blk w G.z [vI aD,sl aE aF aG,sl aI aJ aK]) ?_ ?_
 ·refine Wc z (fun d1=>?_)<|fun d1=>?_
  ·refine Wg<|Rm z<|Rf z a_z z<|R z (l0 g_3 z<|ht.at z) ?_
   have di:=lt_ O.s L.s;have dj:=lt_ (lt_ di h5.s) h4.s;have gT:=lt_ (lt_ dj h6.s) h3.s;obtain ⟨_,j0,hL⟩:=bdS<|ifT eN d1;refine E z (fc call69 z<|i_x j0 (zt' J gT) gN) ?_;rintro _ j1 ⟨b4,rfl,j2⟩;have gU:=lt_ gT b4.s;obtain ⟨_,j3,hM⟩:=bdS hL;refine E z (fc call68 z<|i_y j3 (zt' J gU) j2<|ii z) ?_;rintro _ j4 ⟨b5,rfl,j5⟩;have dk:=mm1 (Blk.lt hB1) dj;obtain ⟨gV,j6,j7,j8,hN⟩:=u_ hM;refine E z (fc call43 z<|a_A (B:=B) j8 ((((((((hB1.e O).e L).e h5).c h4<|djs<|mm1 (Blk.lt hB1) di).e h6).c h3<|djs dk).e b4).e b5) (zt' J<|lt_ gU b5.s) hBg (W.g<|(((((a7.e h5).c h4<|c_ (or0 (b_ lr) (i_<|zt' J di):∀k∈[wc.z],¬B k)).e h6).c h3<|c_ (or0 (b_ lr) (i_<|zt' J dj):∀k∈[G.z],¬B k)).e b4).e b5) a4 a5 j5) ?_;rintro _ j9 ⟨gW,rfl,ja,jb,jc,jd⟩;refine Rf z e_k z<|E0 (fs0 (cur':=[vI gV,sl none 0 0,sl none 0 0]) z_3 z z (((hw.e b4).e b5).c gW<|atp dk) z z z z) ?_
   rintro _ je ⟨jf,jg⟩;have gX:=jg.one;refine Wl ?_;exact fun _ q=>⟨j6,j7,gV,([]:List UInt8),([]:List Val),som hN,none,0,0,[],none,0,0,[],q.k<|s2 z z,(cM (cM (e_ (e_ (cr ([g1]++[G.z]) wa) b4:Chg (· ∈ ([g1]++[G.z])) wa j1) b5:Chg (· ∈ ([g1]++[G.z])) wa j4) gW (io<|r_ sr):Chg (· ∈ ([g1]++[G.z])) wa j9) gX (io<|v_ sr):Chg (· ∈ ([g1]++[G.z])) wa je),jb,jc,ja,onL,H_,an_,onL,H_,an_,an_,jd.c gX<|djs dk,jf⟩
  refine Ws<|Rq z z z<|Rw z ?_
  obtain ⟨jh,eO,d2⟩:=bdS<|ifF eN d1;refine Wt (fun a w=>∃(b6:Int)(b7:Int)(b8:Int)(bX:List UInt8)(bY:List Val),Sum.inl (b6,b7,b8,bX,bY)=jh/\∃bZ c0 c1 aM c2 c3 c4 aN,Sat 178 [(8,pt wb.z),(10,pt G.z)] a/\Chg (· ∈ ([g1]++[G.z])) wa w/\inI b6/\inI b7/\inI b8/\a_ w aM (sl bZ c0 c1) bX/\aM.Nodup/\(∀k∈aM,wa.z<=k)/\a_ w aN (sl c2 c3 c4) bY/\aN.Nodup/\(∀k∈aN,wa.z<=k)/\(∀k∈aN,k∉aM)/\Blk w g1 [sl A0 N0 C0,vI b6,vI b7]/\Blk w G.z [vI b8,sl bZ c0 c1,sl c2 c3 c4]) ?_ ?_
  ·refine Wc z (fun d3=>?_)<|fun d3=>?_
   ·refine Wg<|Rm z<|Rf z a_z z<|R z (l0 g_3 z<|ht.at z) ?_
    have dl:=lt_ O.s L.s;have dm:=lt_ (lt_ dl h5.s) h4.s;have dn:=mm1 (Blk.lt hB1) dm;obtain ⟨ji,jj,jk,jl,hO⟩:=u_<|ifT eO d3;refine E z (fc call44 z<|h_a (B:=B) jl ((((((hB1.e O).e L).e h5).c h4<|djs<|mm1 (Blk.lt hB1) dl).e h6).c h3<|djs dn) (zt' J<|lt_ (lt_ dm h6.s) h3.s) hBg (W.g<|(((a7.e h5).c h4<|c_ (or0 (b_ lr) (i_<|zt' J dl):∀k∈[wc.z],¬B k)).e h6).c h3<|c_ (or0 (b_ lr) (i_<|zt' J dm):∀k∈[G.z],¬B k)) a4 a5 gN) ?_;rintro _ jm ⟨gY,gZ,h0,h1,jn,rfl,jo,jp,jq,jr,js,h2⟩;refine Rf z b_S z<|E0 (fs0 (cur':=[vI 0,sl gZ h0 h1,sl none 0 0]) z_22 z z (hw.c gY<|atp dn) z z z z) ?_
    rintro _ jt ⟨ju,jv⟩;have dp:=jv.one;refine Wl ?_;exact fun _ q=>⟨jj,jk,0,ji,([]:List Val),som hO,gZ,h0,h1,jn,none,0,0,[],q.k<|s2 z z,(cM (cM (cr ([g1]++[G.z]) wa) gY (io<|r_ sr):Chg (· ∈ ([g1]++[G.z])) wa jm) dp (io<|v_ sr):Chg (· ∈ ([g1]++[G.z])) wa jt),jp,jq,ii z,jo.c dp<|m_ h2 V.lt h3.s,js,h2,onL,H_,an_,an_,jr.c dp<|djs dn,ju⟩
   refine Wq<|Ws<|Rq z z z<|Rw z ?_
   obtain ⟨jw,eP,hP⟩:=bdS<|ifF eO d3;refine Wt (fun a w=>∃(dq:Bool),dq=jw/\Sat 178 [(0,pt g1),(3,vI x4),(5,pt w0.z),(8,pt wb.z),(9,pt wc.z),(10,pt G.z),(21,vI aC.kind),(38,vB dq)] a/\Below wa.z wa w) ?_ ?_
   ·refine Wc z (fun d4=>?_)<|fun d4=>?_
    ·exact M_<|fun _ q=>⟨aC.kind==4,som<|ifT eP d4,q.k<|s8 z z z z z z z z,br wa⟩
    exact Wg<|Rq z z z<|Ra z<|Wl (fun _ q=>⟨aC.kind==10,som<|ifF eP d4,q.k<|s8 z z z z z z z z,br wa⟩)
   rintro jx H ⟨dq,rfl,_,I⟩;revert jx;refine Wo ?_;obtain ⟨jy,eQ,d5⟩:=bdS hP;refine Wt (fun a w=>∃(b9:Int)(ba:Int)(bb:Int)(c5:List UInt8)(c6:List Val),Sum.inl (b9,ba,bb,c5,c6)=jy/\∃c7 c8 c9 aO ca cb cc aP,Sat 178 [(8,pt wb.z),(10,pt G.z)] a/\Chg (· ∈ ([g1]++[G.z])) H w/\inI b9/\inI ba/\inI bb/\a_ w aO (sl c7 c8 c9) c5/\aO.Nodup/\(∀k∈aO,H.z<=k)/\a_ w aP (sl ca cb cc) c6/\aP.Nodup/\(∀k∈aP,H.z<=k)/\(∀k∈aP,k∉aO)/\Blk w g1 [sl A0 N0 C0,vI b9,vI ba]/\Blk w G.z [vI bb,sl c7 c8 c9,sl ca cb cc]) ?_ ?_
   ·refine Wc z (fun d6=>?_)<|fun d6=>?_
    ·refine Wm z<|RM z z ?_
     have dr:=lt_ O.s L.s;have dt:=lt_ (lt_ dr h5.s) h4.s;have ha:=lt_ (lt_ (lt_ dt h6.s) h3.s) I.s;obtain ⟨_,jz,hQ⟩:=bdS<|ifT eQ d6;refine E z (fc call68 z<|i_y jz (zt' J ha) eM<|ii z) ?_;rintro _ jA ⟨sg,rfl,_⟩;refine R z (add_ z z) ?_;have hb:∀k∈[wc.z],¬B k:=or0 (b_ lr)<|i_<|zt' J dr;have bc:∀k∈[G.z],¬B k:=or0 (b_ lr)<|i_<|zt' J dt;have he:=(((((a7.e h5).c h4<|c_ hb).e h6).c h3<|c_ bc).e I).e sg;have ar:=mm1 (Blk.lt hB1) dr;have hx:=mm1 (Blk.lt hB1) dt;have hg:=lt_ ha sg.s;obtain ⟨_,_,_,jB,hR⟩:=u_ hQ;refine E z (fc call43 z<|a_A (B:=B) jB ((((((((hB1.e O).e L).e h5).c h4<|djs ar).e h6).c h3<|djs hx).e I).e sg) (zt' J hg) hBg (W.g he) a4 a5<|iA _ _) ?_;rintro _ jC ⟨sk,rfl,jD,jE,jF,jG⟩;have du:=he.c sk<|c_<|b_ hBg
     have be:=lt_ hg sk.s;obtain ⟨hh,hi,hj,jH,hS⟩:=u_ hR;refine E z (fc call44 z<|h_a (B:=B) jH jG (zt' J be) hBg (W.g du) jE jF jD) ?_;rintro _ jI ⟨sm,cd,ce,cf,Sr,rfl,cg,dv,dw,dx,hl,ak⟩;refine Rf z b_S z<|E0 (fs0 (cur':=[vI 0,sl cd ce cf,sl none 0 0]) z_22 z z ((((hw.e I).e sg).c sk<|atp hx).c sm<|atp hx) z z z z) ?_
     rintro _ aQ ⟨dy,jJ⟩;have hd:=jJ.one;refine Wn<|Wq ?_
     obtain ⟨jK,eR,hT⟩:=bdS hS;refine Wt (fun a w=>∃(dz:Bool)(bf:Int)(bg:Int),(dz,bf,bg)=jK/\Sat 178 [(0,pt g1),(8,pt wb.z),(9,pt wc.z),(10,pt G.z),(61,vB dz)] a/\Chg (· ∈ [g1]) aQ w/\inI bf/\inI bg/\Blk w g1 [sl A0 N0 C0,vI bf,vI bg]) ?_ ?_
     ·refine Wg<|Rf z a_i z<|R z (l0 g_3 z<|(((((ht.e I).e sg).c sk<|atp ar).c sm<|atp ar).c hd<|djs aq).at z)<|Rq z z z<|Rm z ?_
      rcases bs (aC.kind==10) with hcy | hcy
      ·have eS:=ifT eR hcy;refine Rh z hcy (fd b_S z)<|Rh z hcy (l0 Q_ z<|dy.at z)<|Rh z hcy (lnR l_ z<|or_ (cg.c hd<|m_ ak V.lt<|lt_ (lt_ (lt_ h3.s I.s) sg.s) sk.s)<|zin (B:=B) ak<|a_.lt cg)<|Rh z hcy (a_d z z)<|R z (pT z hcy z)<|Rm z ?_
       rcases bs (decide<|0<(hh.length:Int)) with a6 | a6
       ·refine Rh z a6 (mv z) ?_;obtain ⟨jL,jM,jN,jO,hU⟩:=u_<|ifT eS a6;refine Eg z z a6 z (fc call41 z<|h_9 (B:=B) jO (dx.c hd<|djs hx) (zt' J<|lt_ (lt_ be sm.s) hd.s) hBg (W.g<|(du.c sm<|c_<|b_ hBg).c hd<|c_ bc) dv dw<|ii z) ?_;rintro _ jP ⟨jQ,rfl,jR,jS,jT⟩;refine R z (pT z a6 z)<|Wl ?_
        exact fun _ q=>⟨jL,jM,jN,som hU,q.k<|s5 z z z z z,(cM (cr [g1] aQ) jQ (io sr):Chg (· ∈ [g1]) aQ jP),jR,jS,jT⟩
       exact Nh z a6<|Nh z a6<|R z (pF z a6 z)<|Wl (fun _ q=>⟨false,hi,hj,som<|ifF eS a6,q.k<|s5 z z z z z,cr [g1] aQ,dv,dw,dx.c hd<|djs hx⟩)
      iterate 4 refine Nh z hcy ?_
      exact R z (pF z hcy z)<|Rm z<|Nh z z<|Nh z z<|R z (pF z z z)<|Wl (fun _ q=>⟨false,hi,hj,som<|ifF eR hcy,q.k<|s5 z z z z z,cr [g1] aQ,dv,dw,dx.c hd<|djs hx⟩)
     rintro jU ws ⟨dz,bf,bg,rfl,_,sn,hn,ho,hp⟩;revert jU;refine Wo ?_;obtain ⟨jV,eT,hV⟩:=bdS<|a_Q hT;refine Wt (fun a w=>∃(bh:Int)(bi:Int)(ch:List UInt8),(bh,bi,ch)=jV/\∃(bj:List Nat),Sat 178 [(8,pt wb.z),(10,pt G.z)] a/\Chg (· ∈ ([g1]++Sr)) ws w/\inI bh/\inI bi/\a_ w bj (sl cd ce cf) ch/\bj.Nodup/\(∀k∈bj,k∈Sr∨ws.z<=k)/\Blk w g1 [sl A0 N0 C0,vI bh,vI bi]/\Blk w G.z [vI 0,sl cd ce cf,sl none 0 0]) ?_ ?_
     ·refine Wc z (fun d7=>?_)<|fun d7=>?_
      ·refine Wd (X:=fun k=>k∈[g1]∨ws.z<=k) 4096 (pl_ 13 [8,9,12]) mo (by kernel_rfl) fun aR a8 _=>dR z z (fd b_S z) ?_
       have hq:=(dy.c sn<|atp hx).e a8;have hu:=lt_ (lt_ (lt_ h3.s I.s) sg.s) sk.s;refine dR z z (l1 Q_ z (a_p (atp hx)<|Nat.lt_of_lt_of_le V.lt<|lt_ (lt_ (lt_ hu sm.s) hd.s) sn.s)<|hq.at z)<|dM z z z<|dR z z (fd a_D z) ?_
       refine dR z z (l1 Q_ z (a_p (atp ar)<|Nat.lt_of_lt_of_le b3.lt<|lt_ (lt_ (lt_ (lt_ (lt_ (lt_ (lt_ (lt_ h4.s h6.s) h3.s) I.s) sg.s) sk.s) sm.s) hd.s) sn.s)<|(((((((ht.e I).e sg).c sk<|atp ar).c sm<|atp ar).c hd<|djs aq).c sn<|atp ar).e a8).at z) ?_;obtain ⟨dA,jW,hW⟩:=bdS<|ifT eT d7;refine dRX z z (at_ (α:=UInt8) l_ z_5 z z z (iV.g<|((((((((((h5.ag B).c h4<|c_ hb).e h6).c h3<|c_ bc).e I).e sg).c sk<|c_<|b_ hBg).c sm<|c_<|b_ hBg).c hd<|c_ bc).c sn<|c_<|b_ hBg).e a8) jW) ?_;rintro _ ⟨_,_,_,rfl,jX,jY,hv⟩;obtain rfl:=u8 jY;have hy:=lt_ (lt_ (lt_ be sm.s) hd.s) sn.s;refine dR z z (l1 g_5 z (a_p ((c_<|b_ hBg) _ hv)<|zap (zt' J hy) hv)<|jX.at0 z)<|dR z z (b_A d_5 d_3 z)<|dE z z (fS [(.tmp 69),(.const<|.int .i64 92)] b_0 z z z (Y_ z) (lb z)<|lb z) (.inr fun _ _ h=>B_<|h.2.below) ?_
       rintro _ bk ⟨rfl,hz⟩;have au:=hz.below;have hA:a_ bk [aR.z] (sl (some ⟨aR.z,0,none⟩) 2 2) ([byteI dA,92]:List Int):=g_t (l:=[byteI dA,92]) (hz.blk:Blk bk aR.z [vI (byteI dA),vI 92]) (ac0 (j_n _)<|ac0 (ii z) an0) z;have hB:=lt_ hy a8.s;obtain ⟨_,jZ,k0,ka,hX⟩:=u_ hW;refine dE z z (fc call70 z<|h_b (B:=zn B aR.z bk.z) ka ((hp.e a8).e au) (b_D (zt' J<|lt_ hB au.s) lr) (atp ((c_g (b_ hBg) (b_<|Blk.lt hB1) hB):∀k∈[g1],¬(zn B aR.z bk.z) k)) (repS.mono (W.g<|((((du.c sm<|c_<|b_ hBg).c hd<|c_ bc).c sn<|c_<|b_ hBg).e a8).e au) a_W) hn ho<|or_ hA<|zin (B:=B) (b_ lr)<|a_.lt hA) (.inr fun _ _ h=>h.1.mono fun k _ hk=>(io sr) k hk) ?_;rintro _ kb ⟨ci,rfl,_,kc,kd,ke⟩;refine dR z z (c_B d_3 d_5 z) ?_;obtain ⟨kf,hC,hY⟩:=bdS hX;have hD:=m_ ak V.lt hu;have dB:=m_ ak (Blk.lt hB1) be;have hE:=((((cg.c hd hD).c sn dB).e a8).e au).c ci dB;refine dRX z z (h_O (α:=UInt8) l_ z_5 z z hE hC) ?_;rintro _ ⟨_,kg,rfl⟩;refine dE0 z (g_p (α:=UInt8) z_5 z kg z z z hC hE hl a_E an_ H_) (.inl z) ?_;rintro _ kh ⟨hF,dC,ki,kj,kk⟩;refine pD ?_;exact fun _ q=>⟨jZ,k0,kf,som hY,hF,q.k<|s2 z z,(cM (cM (e_ (e_ (cr ([g1]++Sr) ws) a8:Chg (· ∈ ([g1]++Sr)) ws aR) au:Chg (· ∈ ([g1]++Sr)) ws bk) ci (io<|r_ sr):Chg (· ∈ ([g1]++Sr)) ws kb) dC (io<|v_ sr):Chg (· ∈ ([g1]++Sr)) ws kh),kc,kd,ki,kj,(or2 kk (io sr) an_ (x_<|lt_ (lt_ a8.s au.s) ci.s):∀k∈hF,k∈Sr∨ws.z<=k),ke.c dC<|djs dB,((hq.e au).c ci<|atp hx).c dC<|djs hD⟩
      exact M_<|fun _ q=>⟨bf,bg,hh,som<|ifF eT d7,Sr,q.k<|s2 z z,cr ([g1]++Sr) ws,hn,ho,(cg.c hd<|m_ ak V.lt<|lt_ (lt_ (lt_ h3.s I.s) sg.s) sk.s).c sn<|m_ ak (Blk.lt hB1) be,hl,io sr,hp,dy.c sn<|atp hx⟩
     rintro kl km ⟨bh,bi,ch,rfl,bj,_,kn,ko,kp,kq,kr,ks,kt,ku⟩;revert kl;have dD:=lt_ sg.s sk.s;exact fun _ q=>⟨bh,bi,0,ch,([]:List Val),som<|a_Q hV,cd,ce,cf,bj,none,0,0,[],q.k<|s2 z z,(cM (cM (cM (cM (cM (e_ (cr ([g1]++[G.z]) H) sg:Chg (· ∈ ([g1]++[G.z])) H jA) sk (io<|r_ sr):Chg (· ∈ ([g1]++[G.z])) H jC) sm (io<|r_ sr):Chg (· ∈ ([g1]++[G.z])) H jI) hd (io<|v_ sr):Chg (· ∈ ([g1]++[G.z])) H aQ) sn (io<|r_ sr):Chg (· ∈ ([g1]++[G.z])) H ws) kn (aa_ (io<|r_ sr) (or0 ak (x_ dD):∀k∈Sr,k∈([g1]++[G.z])∨H.z<=k)):Chg (· ∈ ([g1]++[G.z])) H km),ko,kp,ii z,kq,kr,a_O ks (w_ ak dD)<|lt_ (lt_ (lt_ dD sm.s) hd.s) sn.s,onL,H_,an_,an_,kt,ku⟩
    refine Ws<|Rq z z z<|Rw z ?_
    obtain ⟨kw,eU,d8⟩:=bdS<|ifF eQ d6;refine Wt (fun a w=>∃(bm:Int)(bn:Int)(bo:Int)(cj:List Val),Sum.inl (bm,bn,bo,cj)=kw/\∃ck cl cm bp,Sat 178 [(8,pt wb.z),(10,pt G.z)] a/\Chg (· ∈ ([g1]++[G.z])) H w/\inI bm/\inI bn/\inI bo/\a_ w bp (sl ck cl cm) cj/\bp.Nodup/\(∀k∈bp,H.z<=k)/\Blk w g1 [sl A0 N0 C0,vI bm,vI bn]/\Blk w G.z [vI bo,sl none 0 0,sl ck cl cm]) ?_ ?_
    ·refine Wc z (fun d9=>?_)<|fun d9=>?_
     ·refine Wm z<|Rm z ?_
      have dF:=lt_ O.s L.s;have dG:=lt_ (lt_ dF h5.s) h4.s;have hG:=lt_ (lt_ (lt_ dG h6.s) h3.s) I.s;obtain ⟨_,kx,hZ⟩:=bdS<|ifT eU d9;refine E z (fc call68 z<|i_y kx (zt' J hG) eM<|ii z) ?_;rintro _ ky ⟨so,rfl,_⟩;refine R z (add_ z z) ?_;have hH:∀k∈[wc.z],¬B k:=or0 (b_ lr)<|i_<|zt' J dF;have cn:∀k∈[G.z],¬B k:=or0 (b_ lr)<|i_<|zt' J dG;have hI:=(((((a7.e h5).c h4<|c_ hH).e h6).c h3<|c_ cn).e I).e so;have co:=mm1 (Blk.lt hB1) dF;have bq:=mm1 (Blk.lt hB1) dG;have hJ:=lt_ hG so.s;obtain ⟨_,_,_,kz,i0⟩:=u_ hZ;refine E z (fc call43 z<|a_A (B:=B) kz ((((((((hB1.e O).e L).e h5).c h4<|djs co).e h6).c h3<|djs bq).e I).e so) (zt' J hJ) hBg (W.g hI) a4 a5<|iA _ _) ?_;rintro _ we ⟨su,rfl,kA,kB,kC,kD⟩;refine Rw z ?_
      obtain ⟨_,i1,eV⟩:=bdS i0;refine b_M (σ:=Int×Int×Int×(List Val)) (ρ:=Val×Int×Int) (fun s a w=>un4 (fun av al am aS=>∃a9 aa ab Sl,Sat 178 [(0,pt g1),(3,vI x4),(5,pt w0.z),(8,pt wb.z),(9,pt wc.z),(10,pt G.z),(11,vI av)] a/\Chg (· ∈ ([g1]++[G.z])) we w/\inI av/\inI al/\inI am/\a_ w Sl (sl a9 aa ab) aS/\Sl.Nodup/\(∀k∈Sl,we.z<=k)/\Blk w g1 [sl A0 N0 C0,vI al,vI am]/\Blk w G.z [vI 0,sl none 0 0,sl a9 aa ab]) s) (fun s a w=>un4 (fun av al am aS=>∃a9 aa ab Sl,Sat 178 [(8,pt wb.z),(10,pt G.z)] a/\Chg (· ∈ ([g1]++[G.z])) we w/\inI av/\inI al/\inI am/\a_ w Sl (sl a9 aa ab) aS/\Sl.Nodup/\(∀k∈Sl,we.z<=k)/\Blk w g1 [sl A0 N0 C0,vI al,vI am]/\Blk w G.z [vI 0,sl none 0 0,sl a9 aa ab]) s) (rQ prog fn<|Q10 w0 g1 B A0 N0 C0 x1) i1 ?_ ?_ ?_ ?_
      ·exact fun _ q=>⟨none,0,0,[],q.k<|s7 z z z z z z z,cr ([g1]++[G.z]) we,kA,kB,kC,onL,H_,an_,kD,((hw.e I).e so).c su<|atp bq⟩
      ·rintro ⟨av,al,am,aS⟩ _ dH _ ⟨a9,aa,ab,Sl,i2,sv,eW,cp,cq,aT,ct,aw,cu,cv⟩ i3;have eD:=c_e i3;refine Wu ?_ i2;refine Wq<|Wm z<|R z (a_d z z)<|Wx z (fun da=>?_) (fun da=>?_)
       ·refine Wk<|Wq<|Wb (Wd (X:=fun k=>k∈[g1]∨dH.z<=k) 20480 (pl_ 15 [10,11,12,14]) mo (by kernel_rfl) fun kE sh _=>dR z z (fd b_x z) ?_)
        have eX:=cv.e sh;have eY:=lt_ (lt_ (lt_ h3.s I.s) so.s) su.s;have eZ:=lt_ eY sv.s;refine dR z z (l1 d_c z (a_p (atp bq)<|Nat.lt_of_lt_of_le V.lt eZ)<|eX.at z)<|dM z z z ?_
        have f0:=lt_ (lt_ L.s h5.s) h4.s;have f1:=mm1 hf.lt f0;have dI:=mmr<|Blk.lt hB1
        refine dR z z (lN (vs:=[sl A6 N6 C6]) s_ p_ z z (a_p (atp dI)<|Nat.lt_of_lt_of_le hf.lt<|lt_ (lt_ (lt_ (lt_ (lt_ (lt_ f0 h6.s) h3.s) I.s) so.s) su.s) sv.s)<|(((((((((aB.e h5).c h4<|djs<|mm1 hf.lt L.s).e h6).c h3<|djs f1).e I).e so).c su<|atp dI).c sv<|atp<|nmA dI<|ds f1).e sh).row 0 1 z)<|dR z z (fd K_ z)<|dR z z (l1 z_ z (a_p (atp co)<|Nat.lt_of_lt_of_le b3.lt<|lt_ (lt_ (lt_ (lt_ (lt_ (lt_ h4.s h6.s) h3.s) I.s) so.s) su.s) sv.s)<|(((((ht.e I).e so).c su<|atp co).c sv<|atp<|nmA co<|ds aq).e sh).at z) ?_
        obtain ⟨_,kF,i4⟩:=bdS<|ifT eD da;refine dRX z z (at_ (α:=Int) q_ z_3 z z z (aj.g<|((((((((h5.ag B).c h4<|c_ hH).e h6).c h3<|c_ cn).e I).e so).c su<|c_<|b_ hBg).c sv<|nmA (c_<|b_ hBg)<|c_ cn).e sh) kF) ?_;rintro _ ⟨_,_,_,rfl,kG,kH,f2⟩;obtain ⟨rfl,kI⟩:=J_ kH;have f3:=lt_ hJ su.s;have f4:=lt_ f3 sv.s;refine dR z z (l1 g_3 z (a_p ((c_<|b_ hBg) _ f2)<|zap (zt' J f4) f2)<|kG.at0 z)<|dM z z z<|dR z z (d_y z z (by decide)) ?_
        have f5:=((hI.c su<|c_<|b_ hBg).c sv<|nmA (c_<|b_ hBg)<|c_ cn).e sh;obtain ⟨f6,kJ,kK,kL,i5⟩:=u_ i4;refine dE z z (fc call40 z<|aZ.run (B:=B) kL (cu.e sh) (zt' J<|lt_ f4 sh.s) hBg (W.g f5) cp cq (aA.g f5) kI<|d_Y _ _) (.inr fun _ _ h=>h.1.mono fun k _ hk=>(io sr) k hk) ?_;rintro _ f7 ⟨bt,kM,kN,kO,kP,kQ,kR,kS,kT,rfl,kU,kV,kW,kX,kY,kZ,dJ,aU⟩;refine dE z z (fS [(.tmp 95)] c_G z z z (Y_ z) (lb z)<|lb z) (.inr fun _ _ h=>B_<|h.2.below) ?_;rintro _ f8 ⟨rfl,f9⟩;have an:=f9.below;have fe:=m_ aw (Blk.lt hB1) f3;obtain ⟨l2,l3,i6⟩:=bdS i5;refine dE z z (a_H (α:=Val) c_G l3 z z (((aT.e sh).c bt fe).e an) ct (f9.blk:Blk f8 f7.z [vI f6.number,sl kM kN kO,sl kQ kR kS]) (e_C (x:=f6) (S1:=kP) (S2:=kT) kU (kV.e an)<|kW.e an) (aa_ (c_9 (al_ aU) (a_.lt aT) sh.s)<|c_9 (ar_ aU) (a_.lt aT) sh.s)<|na_ (nl_ dJ) (nr_ dJ)<|nj dJ) (.inl z) ?_;rintro _ l4 ⟨dK,ff,fg,fh,rfl,dL,l5,l6,fi⟩;refine dR z z (fd b_x z) ?_;have fj:=m_ aw V.lt eY;refine dE0 z (fs0 (cur':=[vI 0,sl none 0 0,sl ff fg fh]) e_l z z (((eX.c bt<|atp bq).e an).c dL<|djs fj) z z z z) (.inl z) ?_;rintro _ l7 ⟨l8,l9⟩;have dN:=l9.one;refine pD<|Wo<|Wg<|Rm z<|R z (sb_ z z)<|Ra z<|Wl ?_
        have dO:=lt_ eZ sh.s;have dP:=lt_ sv.s sh.s;exact fun _ q=>⟨(G_ av 1,kJ,kK,l2),(som i6).symm,⟨ff,fg,fh,dK,q.k<|s7 z z z z z z z,(cM (cM (e_ (cM (e_ (cM (cr ([g1]++[G.z]) we) sv (aa_ (io<|r_ sr)<|io<|v_ sr):Chg (· ∈ ([g1]++[G.z])) we dH) sh:Chg (· ∈ ([g1]++[G.z])) we kE) bt (io<|r_ sr):Chg (· ∈ ([g1]++[G.z])) we f7) an:Chg (· ∈ ([g1]++[G.z])) we f8) dL (or0 aw (x_ lr):∀k∈Sl,k∈([g1]++[G.z])∨we.z<=k):Chg (· ∈ ([g1]++[G.z])) we l4) dN (io<|v_ sr):Chg (· ∈ ([g1]++[G.z])) we l7),iS _ _,kX,kY,l5.c dN (or2 fi fj (aa_ (m_ (al_ aU) V.lt dO)<|m_ (ar_ aU) V.lt dO) (W_ (b_ V.lt)<|lt_ (lt_ dO bt.s) an.s):∀k∈dK,k∉[G.z]),l6,(or2 fi aw (aa_ (w_ (al_ aU) dP)<|w_ (ar_ aU) dP) (a_R<|lt_ (lt_ dP bt.s) an.s):∀k∈dK,we.z<=k),((kZ.e an).c dL<|djs fe).c dN<|djs bq,l8⟩⟩
       exact We<|fun _ q=>b_i (som<|ifF eD da).symm ⟨a9,aa,ab,Sl,q.k<|s2 z z,(cM (cr ([g1]++[G.z]) we) sv (aa_ (io<|r_ sr)<|io<|v_ sr):Chg (· ∈ ([g1]++[G.z])) we dH),eW,cp,cq,aT,ct,aw,cu,cv⟩
      ·rintro ⟨av,al,am,aS⟩ la lc rfl ⟨a9,aa,ab,Sl,_,ld,eW,cp,cq,aT,ct,aw,cu,cv⟩;have i7:=elL eV;revert la;exact fun _ q=>⟨al,am,0,aS,som<|c_e i7,a9,aa,ab,Sl,q.k<|s2 z z,(cM (cM (e_ (cr ([g1]++[G.z]) H) so:Chg (· ∈ ([g1]++[G.z])) H ky) su (io<|r_ sr):Chg (· ∈ ([g1]++[G.z])) H we) ld (aa_ (io<|r_ sr)<|io<|v_ sr):Chg (· ∈ ([g1]++[G.z])) H lc),cp,cq,ii z,aT,ct,w_ aw<|lt_ so.s su.s,cu,cv⟩
      rintro _ _ _ _ rfl ⟨rfl,i8⟩;have i9:=elR eV;obtain rfl:=som i9;have ia:=elR d8;obtain rfl:=som ia;have ib:=elR d5;obtain rfl:=som ib;have ic:=elR d2;obtain rfl:=som ic;have id:=elR d0;obtain rfl:=som id;exact ⟨i8,z⟩
     refine Ws<|Rq z z z<|Rw z ?_
     obtain ⟨le,eE,eF⟩:=bdS<|ifF eU d9;refine Wt (fun a w=>∃(bu:Int)(bv:Int)(bw:Int)(cw:List Val),Sum.inl (bu,bv,bw,cw)=le/\∃cx cy cz bx,Sat 178 [(8,pt wb.z),(10,pt G.z)] a/\Chg (· ∈ ([g1]++[G.z])) H w/\inI bu/\inI bv/\inI bw/\a_ w bx (sl cx cy cz) cw/\bx.Nodup/\(∀k∈bx,H.z<=k)/\Blk w g1 [sl A0 N0 C0,vI bu,vI bv]/\Blk w G.z [vI bw,sl none 0 0,sl cx cy cz]) ?_ ?_
     ·refine Wc z (fun db=>?_)<|fun db=>?_
      ·refine Ws<|Rw z ?_
       obtain ⟨_,ie,eG⟩:=bdS<|ifT eE db;refine Wf (σ:=Int×Int×(List Val)) (ρ:=Val×Int×Int) (fun (fk:Nat) s a w=>un3 (fun ad ae ax=>∃az Y a0 Si,Sat 178 [(0,pt g1),(3,vI x4),(5,pt w0.z),(8,pt wb.z),(9,pt wc.z),(10,pt G.z),(12,vI ((fk:Nat):Int))] a/\Chg (· ∈ ([g1]++[G.z])) H w/\inI ad/\inI ae/\a_ w Si (sl az Y a0) ax/\Si.Nodup/\(∀k∈Si,H.z<=k)/\Blk w g1 [sl A0 N0 C0,vI ad,vI ae]/\Blk w G.z [vI 0,sl none 0 0,sl az Y a0]) s) (fun s a w=>un3 (fun ad ae ax=>∃az Y a0 Si,Sat 178 [(8,pt wb.z),(10,pt G.z)] a/\Chg (· ∈ ([g1]++[G.z])) H w/\inI ad/\inI ae/\a_ w Si (sl az Y a0) ax/\Si.Nodup/\(∀k∈Si,H.z<=k)/\Blk w g1 [sl A0 N0 C0,vI ad,vI ae]/\Blk w G.z [vI 0,sl none 0 0,sl az Y a0]) s) (rQ prog fn<|Q10 w0 g1 B A0 N0 C0 x1) ie ?_ ?_ ?_ ?_ ?_
       ·have fl:=lt_ O.s L.s;exact fun _ q=>⟨none,0,0,[],q.k<|s7 z z z z z z z,cr ([g1]++[G.z]) H,a4,a5,onL,H_,an_,((((((hB1.e O).e L).e h5).c h4<|djs<|mm1 (Blk.lt hB1) fl).e h6).c h3<|djs<|mm1 (Blk.lt hB1)<|lt_ (lt_ fl h5.s) h4.s).e I,hw.e I⟩
       ·rintro fk ⟨ad,ae,ax⟩ _ fm _ eH ⟨az,Y,a0,Si,ig,a1,bz,bA,ay,bB,ao,bC,bD⟩ ih;refine Wu ?_ ig;refine Wq<|Wm z<|Rf z K_ z ?_
        have dS:=lt_ O.s L.s;have fo:=mm1 (Blk.lt hB1) dS;have fp:=(ht.e I).c a1<|atp<|nmA fo<|ds aq
        refine R z (l0 z_ z<|fp.at z) ?_;have fq:∀k∈[wc.z],¬B k:=or0 (b_ lr)<|i_<|zt' J dS;have dT:=lt_ (lt_ dS h5.s) h4.s;have cA:∀k∈[G.z],¬B k:=or0 (b_ lr)<|i_<|zt' J dT;have fr:=(((((h5.ag B).c h4<|c_ fq).e h6).c h3<|c_ cA).e I).c a1<|nmA (c_<|b_ hBg)<|c_ cA
        refine R z (lnR q_ z<|aj.g fr)<|Rl z z z<|Wx z (fun _=>?_) (fun hc=>(a_4 eH hc).elim)
        refine Wk<|Wq<|Wb (Wd (X:=fun k=>k∈[g1]∨fm.z<=k) 40960 (pl_ 16 [11,12,13,15]) mo (by kernel_rfl) fun lf sj _=>dR z z (fd b_x z) ?_)
        have fs:=bD.e sj;have dU:=mm1 (Blk.lt hB1) dT;have ft:=lt_ h3.s I.s;have fu:=lt_ ft a1.s;refine dR z z (l1 d_c z (a_p (atp dU)<|Nat.lt_of_lt_of_le V.lt fu)<|fs.at z)<|dM z z z ?_
        have fv:=lt_ (lt_ L.s h5.s) h4.s;have fw:=mm1 hf.lt fv;have fx:=mmr<|Blk.lt hB1
        refine dR z z (lN (vs:=[sl A6 N6 C6]) s_ p_ z z (a_p (atp fx)<|Nat.lt_of_lt_of_le hf.lt<|lt_ (lt_ (lt_ (lt_ fv h6.s) h3.s) I.s) a1.s)<|(((((((aB.e h5).c h4<|djs<|mm1 hf.lt L.s).e h6).c h3<|djs fw).e I).c a1<|atp<|nmA fx<|ds fw).e sj).row 0 1 z)<|dR z z (fd K_ z)<|dR z z (l1 z_ z (a_p (atp fo)<|Nat.lt_of_lt_of_le b3.lt<|lt_ (lt_ (lt_ (lt_ h4.s h6.s) h3.s) I.s) a1.s)<|(fp.e sj).at z)<|dM z z z ?_
        obtain ⟨_,lg,ij⟩:=bdS<|a_Q ih;refine dRX z z (at_ (α:=Int) q_ z_3 z z z (aj.g<|fr.e sj) lg) ?_;rintro _ ⟨_,_,_,rfl,lh,li,fy⟩;obtain ⟨rfl,lj⟩:=J_ li;have fz:=lt_ (lt_ (lt_ dT h6.s) h3.s) I.s;have fA:=lt_ fz a1.s;refine dR z z (l1 g_3 z (a_p ((c_<|b_ hBg) _ fy)<|zap (zt' J fA) fy)<|lh.at0 z)<|dM z z z<|dR z z (d_y z z (by decide)) ?_
        have fB:=((((((a7.e h5).c h4<|c_ fq).e h6).c h3<|c_ cA).e I).c a1<|nmA (c_<|b_ hBg)<|c_ cA).e sj;obtain ⟨fC,lk,ll,lm,ik⟩:=u_ ij;refine dE z z (fc call40 z<|aZ.run (B:=B) lm (bC.e sj) (zt' J<|lt_ fA sj.s) hBg (W.g fB) bz bA (aA.g fB) lj<|d_Y _ _) (.inr fun _ _ h=>h.1.mono fun k _ hk=>(io sr) k hk) ?_;rintro _ fD ⟨bE,ln,lo,lp,lq,ls,lu,lv,lw,rfl,lx,ly,lz,lA,lB,lC,dV,aV⟩;refine dE z z (fS [(.tmp 119)] c_G z z z (Y_ z) (lb z)<|lb z) (.inr fun _ _ h=>B_<|h.2.below) ?_;rintro _ fE ⟨rfl,fF⟩;have ap:=fF.below;have fG:=m_ ao (Blk.lt hB1) fz;obtain ⟨lD,lE,il⟩:=bdS ik;refine dE z z (a_H (α:=Val) c_G lE z z (((ay.e sj).c bE fG).e ap) bB (fF.blk:Blk fE fD.z [vI fC.number,sl ln lo lp,sl ls lu lv]) (e_C (x:=fC) (S1:=lq) (S2:=lw) lx (ly.e ap)<|lz.e ap) (aa_ (c_9 (al_ aV) (a_.lt ay) sj.s)<|c_9 (ar_ aV) (a_.lt ay) sj.s)<|na_ (nl_ dV) (nr_ dV)<|nj dV) (.inl z) ?_;rintro _ lF ⟨dW,fH,fI,fJ,rfl,dX,lG,lH,fK⟩;refine dR z z (fd b_x z) ?_;have fL:=m_ ao V.lt ft;refine dE0 z (fs0 (cur':=[vI 0,sl none 0 0,sl fH fI fJ]) e_l z z (((fs.c bE<|atp dU).e ap).c dX<|djs fL) z z z z) (.inl z) ?_;rintro _ lI ⟨lJ,lK⟩;have dY:=lK.one;refine pD<|Wo<|Wg<|Rm z<|R z (inc_ eH (lt_ (repS.len aj) L_) z z)<|Ra z<|Wl ?_
        have dZ:=lt_ fu sj.s;have e0:=lt_ a1.s sj.s;exact fun _ q=>⟨(lk,ll,lD),(som il).symm,⟨fH,fI,fJ,dW,q.k<|s7 z z z z z z z,(cM (cM (e_ (cM (e_ (cM (cr ([g1]++[G.z]) H) a1 (aa_ (io<|r_ sr)<|io<|v_ sr):Chg (· ∈ ([g1]++[G.z])) H fm) sj:Chg (· ∈ ([g1]++[G.z])) H lf) bE (io<|r_ sr):Chg (· ∈ ([g1]++[G.z])) H fD) ap:Chg (· ∈ ([g1]++[G.z])) H fE) dX (or0 ao (x_ lr):∀k∈Si,k∈([g1]++[G.z])∨H.z<=k):Chg (· ∈ ([g1]++[G.z])) H lF) dY (io<|v_ sr):Chg (· ∈ ([g1]++[G.z])) H lI),lA,lB,lG.c dY (or2 fK fL (aa_ (m_ (al_ aV) V.lt dZ)<|m_ (ar_ aV) V.lt dZ) (W_ (b_ V.lt)<|lt_ (lt_ dZ bE.s) ap.s):∀k∈dW,k∉[G.z]),lH,(or2 fK ao (aa_ (w_ (al_ aV) e0)<|w_ (ar_ aV) e0) (a_R<|lt_ (lt_ e0 bE.s) ap.s):∀k∈dW,H.z<=k),((lC.e ap).c dX<|djs fG).c dY<|djs dU,lJ⟩⟩
       ·rintro ⟨ad,ae,ax⟩ _ lL ⟨az,Y,a0,Si,im,e1,bz,bA,ay,bB,ao,bC,bD⟩;refine Wu ?_ im;refine Wq<|Wm z<|Rf z K_ z ?_
        have e2:=lt_ O.s L.s;refine R z (l0 z_ z<|((ht.e I).c e1<|atp<|nmA (mm1 (Blk.lt hB1) e2)<|ds aq).at z) ?_;have fM:∀k∈[G.z],¬B k:=or0 (b_ lr)<|i_<|zt' J<|lt_ (lt_ e2 h5.s) h4.s;refine R z (lnR q_ z<|aj.g<|(((((h5.ag B).c h4<|c_ (or0 (b_ lr) (i_<|zt' J e2):∀k∈[wc.z],¬B k)).e h6).c h3<|c_ fM).e I).c e1<|nmA (c_<|b_ hBg)<|c_ fM)<|Rl z z z<|Wx z (fun hc=>(a_5 hc).elim) (fun _=>?_)
        exact We<|fun _ q=>⟨rfl,⟨az,Y,a0,Si,q.k<|s2 z z,(cM (cr ([g1]++[G.z]) H) e1 (aa_ (io<|r_ sr)<|io<|v_ sr):Chg (· ∈ ([g1]++[G.z])) H lL),bz,bA,ay,bB,ao,bC,bD⟩⟩
       ·rintro ⟨ad,ae,ax⟩ lM lO rfl ⟨az,Y,a0,Si,_,lP,bz,bA,ay,bB,ao,bC,bD⟩;have ip:=elL eG;revert lM;exact fun _ q=>⟨ad,ae,0,ax,som<|a_Q ip,az,Y,a0,Si,q.k<|s2 z z,(cM (cr ([g1]++[G.z]) H) lP (aa_ (io<|r_ sr)<|io<|v_ sr):Chg (· ∈ ([g1]++[G.z])) H lO),bz,bA,ii z,ay,bB,ao,bC,bD⟩
       rintro _ _ _ _ rfl ⟨rfl,iq⟩;have ir:=elR eG;obtain rfl:=som ir;have it:=elR eF;obtain rfl:=som it;have iu:=elR d8;obtain rfl:=som iu;have iv:=elR d5;obtain rfl:=som iv;have iw:=elR d2;obtain rfl:=som iw;have ix:=elR d0;obtain rfl:=som ix;exact ⟨iq,z⟩
      refine Ws<|Rq z z z<|Rw z ?_
      obtain ⟨lQ,eI,iy⟩:=bdS<|ifF eE db;refine Wt (fun a w=>∃(bF:Int)(bG:Int)(bH:Int)(cB:List Val),(bF,bG,bH,cB)=lQ/\∃cC cD cE bI,Sat 178 [(8,pt wb.z),(10,pt G.z)] a/\Chg (· ∈ ([g1]++[G.z])) H w/\inI bF/\inI bG/\inI bH/\a_ w bI (sl cC cD cE) cB/\bI.Nodup/\(∀k∈bI,H.z<=k)/\Blk w g1 [sl A0 N0 C0,vI bF,vI bG]/\Blk w G.z [vI bH,sl none 0 0,sl cC cD cE]) ?_ ?_
      ·refine Wc z (fun dc=>?_)<|fun dc=>?_
       ·refine Wm z<|Rf z a_r z ?_
        have fN:=ht.e I;refine R z (l0 z_ z<|fN.at z) ?_;have e3:=lt_ O.s L.s;have fO:∀k∈[wc.z],¬B k:=or0 (b_ lr)<|i_<|zt' J e3;have e4:=lt_ (lt_ e3 h5.s) h4.s;have cF:∀k∈[G.z],¬B k:=or0 (b_ lr)<|i_<|zt' J e4;have fP:=((((h5.ag B).c h4<|c_ fO).e h6).c h3<|c_ cF).e I;have fQ:=gO.g fP;refine R z (lnR q_ z fQ) ?_;have fR:=((((a7.e h5).c h4<|c_ fO).e h6).c h3<|c_ cF).e I;have fT:=mm1 (Blk.lt hB1) e3;have bJ:=mm1 (Blk.lt hB1) e4;have fU:=lt_ (lt_ (lt_ e4 h6.s) h3.s) I.s;obtain ⟨_,_,_,lR,iz⟩:=u_<|ifT eI dc;refine E z (fc call43 z<|a_A (B:=B) lR (((((((hB1.e O).e L).e h5).c h4<|djs fT).e h6).c h3<|djs bJ).e I) (zt' J fU) hBg (W.g fR) a4 a5<|a_t<|repS.len fQ) ?_;rintro _ lS ⟨af,rfl,_,lT,lU,lV⟩;refine Rw z<|Ws<|Rf z a_r z ?_
        have fV:=fN.c af<|atp fT
        refine R z (l0 z_ z<|fV.at z)<|Rm z ?_
        obtain ⟨e5,lW,iB⟩:=bdS iz;have fW:=fP.c af<|c_<|b_ hBg
        refine RX z (at_ (α:=Int) q_ z_3 z z z (gO.g fW) lW) ?_;rintro _ ⟨_,_,_,rfl,lX,lY,_⟩;obtain ⟨rfl,lZ⟩:=J_ lY;refine R z (l0 g_3 z<|lX.at0 z)<|Rf z e_k z<|E0 (fs0 (cur':=[vI e5,sl none 0 0,sl none 0 0]) z_3 z z ((hw.e I).c af<|atp bJ) z z z z) ?_
        rintro _ m0 ⟨m1,m2⟩;have ah:=m2.one;refine Wn<|Wd (X:=noX) 9216 (pl_ 14 [10,11,13]) mo (by kernel_rfl) fun m3 a2 _=>dM z z z ?_;have fX:=mm1 hf.lt<|lt_ (lt_ L.s h5.s) h4.s
        refine dR z z (lN (vs:=[sl A6 N6 C6]) s_ p_ z z fid<|((((((((aB.e h5).c h4<|djs<|mm1 hf.lt L.s).e h6).c h3<|djs fX).e I).c af<|atp<|mmr<|Blk.lt hB1).c ah<|djs fX).e a2).row 0 1 z)<|dR z z (fd K_ z)<|dR z z (l0 z_ z<|((fV.c ah<|djs aq).e a2).at z)<|dM z z z<|dR z z (add_ z z) ?_
        obtain ⟨_,m4,iC⟩:=bdS iB;refine dRX z z (at_ (α:=Int) q_ z_3 z z z (aj.g<|(fW.c ah<|c_ cF).e a2) m4) ?_;rintro _ ⟨_,_,_,rfl,m5,m6,_⟩;obtain ⟨rfl,m7⟩:=J_ m6;refine dR z z (l0 g_3 z<|m5.at0 z)<|dM z z z<|dR z z (d_y z z (by decide)) ?_
        have fY:=((fR.c af<|c_<|b_ hBg).c ah<|c_ cF).e a2;obtain ⟨e6,m8,m9,ma,iD⟩:=u_ iC;refine dE z z (fc call40 z<|aZ.run (B:=B) ma ((lV.c ah<|djs bJ).e a2) (zt' J<|lt_ (lt_ (lt_ fU af.s) ah.s) a2.s) hBg (W.g fY) lT lU (aA.g fY) m7<|d_Y _ _) (.inl z) ?_;rintro _ aW ⟨cG,mb,mc,md,e7,me,mf,mg,e8,rfl,mh,fZ,g0,mi,mj,ml,e9,cH⟩;refine dE z z (fS [(.tmp 146)] c_G z z z (Y_ z) (lb z)<|lb z) (.inr fun _ _ h=>B_<|h.2.below) ?_;rintro _ g2 ⟨rfl,ea⟩;have eb:=ea.below;have p7:Blk g2 aW.z [vI e6.number,sl mb mc md,sl me mf mg]:=ea.blk;refine dR z z (fd b_x z)<|dE0 z (fs0 (cur':=[vI e5,sl none 0 0,sl (some ⟨aW.z,0,none⟩) 1 1]) e_l z z (((m1.e a2).c cG<|atp bJ).e eb) z z z z) (.inl z) ?_
        rintro _ mm ⟨mn,mp⟩;have ec:=mp.one;refine pD ?_;have ed:=lt_ (lt_ (lt_ (lt_ h3.s I.s) af.s) ah.s) a2.s;have ee:=lt_ (lt_ af.s ah.s) a2.s;exact fun _ q=>⟨m8,m9,e5,[e6],som iD,some ⟨aW.z,0,none⟩,1,1,(aW.z::(e7++e8)),q.k<|s2 z z,(cM (e_ (cM (e_ (cM (cM (cr ([g1]++[G.z]) H) af (io<|r_ sr):Chg (· ∈ ([g1]++[G.z])) H lS) ah (io<|v_ sr):Chg (· ∈ ([g1]++[G.z])) H m0) a2:Chg (· ∈ ([g1]++[G.z])) H m3) cG (io<|r_ sr):Chg (· ∈ ([g1]++[G.z])) H aW) eb:Chg (· ∈ ([g1]++[G.z])) H g2) ec (io<|v_ sr):Chg (· ∈ ([g1]++[G.z])) H mm),mi,mj,lZ,(a_l ea<|e_C (x:=e6) (S1:=e7) (S2:=e8) mh fZ g0).c ec (or1 e_3 (aa_ (m_ (al_ cH) V.lt ed)<|m_ (ar_ cH) V.lt ed) (W_ (b_ V.lt)<|lt_ ed cG.s):∀k∈(aW.z::(e7++e8)),k∉[G.z]),h_V (na_ (nl_ e9) (nr_ e9)<|nj e9)<|aa_ (a_.lt fZ)<|a_.lt g0,a_O e_3 (aa_ (w_ (al_ cH) ee)<|w_ (ar_ cH) ee)<|lt_ ee cG.s,(ml.e eb).c ec<|djs bJ,mn⟩
       refine Ws<|Rq z z z<|Rw z ?_
       obtain ⟨mq,eJ,iE⟩:=bdS<|ifF eI dc;refine Wt (fun a w=>∃(bK:Int)(bL:Int)(cI:List Val),(bK,bL,cI)=mq/\∃cJ cK cL bM,Sat 178 [(8,pt wb.z),(10,pt G.z)] a/\Chg (· ∈ ([g1]++[G.z])) H w/\inI bK/\inI bL/\a_ w bM (sl cJ cK cL) cI/\bM.Nodup/\(∀k∈bM,H.z<=k)/\Blk w g1 [sl A0 N0 C0,vI bK,vI bL]/\Blk w G.z [vI 0,sl none 0 0,sl cJ cK cL]) ?_ ?_
       ·refine Wc z (fun dd=>?_)<|fun dd=>?_
        ·refine Wm z ?_
         have ef:=lt_ O.s L.s;have g3:∀k∈[wc.z],¬B k:=or0 (b_ lr)<|i_<|zt' J ef;have eg:=lt_ (lt_ ef h5.s) h4.s;have g4:∀k∈[G.z],¬B k:=or0 (b_ lr)<|i_<|zt' J eg;have g5:=((((a7.e h5).c h4<|c_ g3).e h6).c h3<|c_ g4).e I;have g6:=mm1 (Blk.lt hB1) ef;have bN:=mm1 (Blk.lt hB1) eg;have g7:=lt_ (lt_ (lt_ eg h6.s) h3.s) I.s;obtain ⟨_,mr,ms,mt,iF⟩:=u_<|ifT eJ dd;refine E z (fc call41 z<|h_9 (B:=B) mt (((((((hB1.e O).e L).e h5).c h4<|djs g6).e h6).c h3<|djs bN).e I) (zt' J g7) hBg (W.g g5) a4 a5<|ii z) ?_;rintro _ ai ⟨a3,rfl,g8,g9,ga⟩;refine Wn ?_;obtain ⟨mu,eK,iG⟩:=bdS iF;refine Wt (fun a w=>∃(bO:Int)(bQ:Int)(cN:List Val),(bO,bQ,cN)=mu/\∃cO cP cQ bR,Sat 178 [(8,pt wb.z),(10,pt G.z)] a/\Chg (· ∈ ([g1]++[G.z])) ai w/\inI bO/\inI bQ/\a_ w bR (sl cO cP cQ) cN/\bR.Nodup/\(∀k∈bR,ai.z<=k)/\Blk w g1 [sl A0 N0 C0,vI bO,vI bQ]/\Blk w G.z [vI 0,sl none 0 0,sl cO cP cQ]) ?_ ?_
         ·refine Wc z (fun de=>?_)<|fun de=>?_
          ·refine Wd (X:=noX) 2304 (pl_ 12 [8,9,11]) mo (by kernel_rfl) fun mw sp _=>dM z z z ?_
           refine dR z z (lN (vs:=[sl A6 N6 C6]) s_ p_ z z fid<|(((((((aB.e h5).c h4<|djs<|mm1 hf.lt L.s).e h6).c h3<|djs<|mm1 hf.lt<|lt_ (lt_ L.s h5.s) h4.s).e I).c a3<|atp<|mmr<|Blk.lt hB1).e sp).row 0 1 z)<|dR z z (fd K_ z)<|dR z z (l0 z_ z<|(((ht.e I).c a3<|atp g6).e sp).at z) ?_
           obtain ⟨_,mx,iH⟩:=bdS<|ifT eK de;refine dRX z z (at_ (α:=Int) q_ z_3 z z z (aj.g<|((((((h5.ag B).c h4<|c_ g3).e h6).c h3<|c_ g4).e I).c a3<|c_<|b_ hBg).e sp) mx) ?_;rintro _ ⟨_,_,_,rfl,my,mz,_⟩;obtain ⟨rfl,mA⟩:=J_ mz;refine dR z z (l0 g_3 z<|my.at0 z)<|dM z z z<|dR z z (d_y z z (by decide)) ?_
           have gb:=(g5.c a3<|c_<|b_ hBg).e sp;obtain ⟨eh,mB,mC,mD,iI⟩:=u_ iH;refine dE z z (fc call40 z<|aZ.run (B:=B) mD (ga.e sp) (zt' J<|lt_ (lt_ g7 a3.s) sp.s) hBg (W.g gb) g8 g9 (aA.g gb) mA<|d_Y _ _) (.inl z) ?_;rintro _ aX ⟨cR,mE,mF,mG,ei,mH,mI,mJ,ej,rfl,mK,gc,ge,mL,mM,mN,ek,cS⟩;refine dE z z (fS [(.tmp 161)] c_G z z z (Y_ z) (lb z)<|lb z) (.inr fun _ _ h=>B_<|h.2.below) ?_;rintro _ gf ⟨rfl,em⟩;have en:=em.below;have p8:Blk gf aX.z [vI eh.number,sl mE mF mG,sl mH mI mJ]:=em.blk;refine dR z z (fd b_x z)<|dE0 z (fs0 (cur':=[vI 0,sl none 0 0,sl (some ⟨aX.z,0,none⟩) 1 1]) e_l z z (((((hw.e I).c a3<|atp bN).e sp).c cR<|atp bN).e en) z z z z) (.inl z) ?_
           rintro _ mO ⟨mP,mQ⟩;have eo:=mQ.one;refine pD ?_;have ep:=lt_ (lt_ (lt_ h3.s I.s) a3.s) sp.s;exact fun _ q=>⟨mB,mC,[eh],som iI,some ⟨aX.z,0,none⟩,1,1,(aX.z::(ei++ej)),q.k<|s2 z z,(cM (e_ (cM (e_ (cr ([g1]++[G.z]) ai) sp:Chg (· ∈ ([g1]++[G.z])) ai mw) cR (io<|r_ sr):Chg (· ∈ ([g1]++[G.z])) ai aX) en:Chg (· ∈ ([g1]++[G.z])) ai gf) eo (io<|v_ sr):Chg (· ∈ ([g1]++[G.z])) ai mO),mL,mM,(a_l em<|e_C (x:=eh) (S1:=ei) (S2:=ej) mK gc ge).c eo (or1 e_3 (aa_ (m_ (al_ cS) V.lt ep)<|m_ (ar_ cS) V.lt ep) (W_ (b_ V.lt)<|lt_ ep cR.s):∀k∈(aX.z::(ei++ej)),k∉[G.z]),h_V (na_ (nl_ ek) (nr_ ek)<|nj ek)<|aa_ (a_.lt gc)<|a_.lt ge,a_O e_3 (aa_ (w_ (al_ cS) sp.s)<|w_ (ar_ cS) sp.s)<|lt_ sp.s cR.s,(mN.e en).c eo<|djs bN,mP⟩
          exact M_<|fun _ q=>⟨mr,ms,([]:List Val),som<|ifF eK de,none,0,0,[],q.k<|s2 z z,cr ([g1]++[G.z]) ai,g8,g9,onL,H_,an_,ga,(hw.e I).c a3<|atp bN⟩
         rintro mR mS ⟨bO,bQ,cN,rfl,cO,cP,cQ,bR,_,mT,mU,mV,mW,mX,mY,mZ,n0⟩;revert mR;exact fun _ q=>⟨bO,bQ,cN,som<|a_Q iG,cO,cP,cQ,bR,q.k<|s2 z z,(cM (cM (cr ([g1]++[G.z]) H) a3 (io<|r_ sr):Chg (· ∈ ([g1]++[G.z])) H ai) mT (aa_ (io<|r_ sr)<|io<|v_ sr):Chg (· ∈ ([g1]++[G.z])) H mS),mU,mV,mW,mX,w_ mY a3.s,mZ,n0⟩
        refine Ws<|Rq z z z<|Rw z ?_
        obtain ⟨n1,eL,iJ⟩:=bdS<|ifF eJ dd;refine Wt (fun a w=>∃(bS:Int)(bT:Int)(cT:List Val),(bS,bT,cT)=n1/\∃cU cV cW bU,Sat 178 [(8,pt wb.z),(10,pt G.z)] a/\Chg (· ∈ ([g1]++[G.z])) H w/\inI bS/\inI bT/\a_ w bU (sl cU cV cW) cT/\bU.Nodup/\(∀k∈bU,H.z<=k)/\Blk w g1 [sl A0 N0 C0,vI bS,vI bT]/\Blk w G.z [vI 0,sl none 0 0,sl cU cV cW]) ?_ ?_
        ·refine Wc z (fun df=>?_)<|fun df=>?_
         ·refine Wd (X:=noX) 2304 (pl_ 12 [8,9,11]) mo (by kernel_rfl) fun n2 sq _=>dM z z z ?_
          refine dR z z (lN (vs:=[sl A6 N6 C6]) s_ p_ z z fid<|((((((aB.e h5).c h4<|djs<|mm1 hf.lt L.s).e h6).c h3<|djs<|mm1 hf.lt<|lt_ (lt_ L.s h5.s) h4.s).e I).e sq).row 0 1 z)<|dR z z (fd K_ z)<|dR z z (l0 z_ z<|((ht.e I).e sq).at z) ?_
          obtain ⟨_,n3,iK⟩:=bdS<|ifT eL df;have er:=lt_ O.s L.s;have gg:∀k∈[wc.z],¬B k:=or0 (b_ lr)<|i_<|zt' J er;have es:=lt_ (lt_ er h5.s) h4.s;have gh:∀k∈[G.z],¬B k:=or0 (b_ lr)<|i_<|zt' J es;refine dRX z z (at_ (α:=Int) q_ z_3 z z z (aj.g<|(((((h5.ag B).c h4<|c_ gg).e h6).c h3<|c_ gh).e I).e sq) n3) ?_;rintro _ ⟨_,_,_,rfl,n4,n5,_⟩;obtain ⟨rfl,n6⟩:=J_ n5;refine dR z z (l0 g_3 z<|n4.at0 z)<|dM z z z<|dR z z (d_y z z (by decide)) ?_
          have gi:=(((((a7.e h5).c h4<|c_ gg).e h6).c h3<|c_ gh).e I).e sq;have et:=mm1 (Blk.lt hB1) es;obtain ⟨eu,n7,n8,n9,iL⟩:=u_ iK;refine dE z z (fc call40 z<|aZ.run (B:=B) n9 ((((((((hB1.e O).e L).e h5).c h4<|djs<|mm1 (Blk.lt hB1) er).e h6).c h3<|djs et).e I).e sq) (zt' J<|lt_ (lt_ (lt_ (lt_ es h6.s) h3.s) I.s) sq.s) hBg (W.g gi) a4 a5 (aA.g gi) n6<|d_Y _ _) (.inl z) ?_;rintro _ aY ⟨cX,na,nb,nc,ew,nd,ne,nf,ex,rfl,ng,gj,gk,nh,ni,nk,ey,cY⟩;refine dE z z (fS [(.tmp 174)] c_G z z z (Y_ z) (lb z)<|lb z) (.inr fun _ _ h=>B_<|h.2.below) ?_;rintro _ gl ⟨rfl,ez⟩;have eA:=ez.below;have p9:Blk gl aY.z [vI eu.number,sl na nb nc,sl nd ne nf]:=ez.blk;refine dR z z (fd b_x z)<|dE0 z (fs0 (cur':=[vI 0,sl none 0 0,sl (some ⟨aY.z,0,none⟩) 1 1]) e_l z z ((((hw.e I).e sq).c cX<|atp et).e eA) z z z z) (.inl z) ?_
          rintro _ nl ⟨nm,np⟩;have eB:=np.one;refine pD ?_;have eC:=lt_ (lt_ h3.s I.s) sq.s;exact fun _ q=>⟨n7,n8,[eu],som iL,some ⟨aY.z,0,none⟩,1,1,(aY.z::(ew++ex)),q.k<|s2 z z,(cM (e_ (cM (e_ (cr ([g1]++[G.z]) H) sq:Chg (· ∈ ([g1]++[G.z])) H n2) cX (io<|r_ sr):Chg (· ∈ ([g1]++[G.z])) H aY) eA:Chg (· ∈ ([g1]++[G.z])) H gl) eB (io<|v_ sr):Chg (· ∈ ([g1]++[G.z])) H nl),nh,ni,(a_l ez<|e_C (x:=eu) (S1:=ew) (S2:=ex) ng gj gk).c eB (or1 e_3 (aa_ (m_ (al_ cY) V.lt eC)<|m_ (ar_ cY) V.lt eC) (W_ (b_ V.lt)<|lt_ eC cX.s):∀k∈(aY.z::(ew++ex)),k∉[G.z]),h_V (na_ (nl_ ey) (nr_ ey)<|nj ey)<|aa_ (a_.lt gj)<|a_.lt gk,a_O e_3 (aa_ (w_ (al_ cY) sq.s)<|w_ (ar_ cY) sq.s)<|lt_ sq.s cX.s,(nk.e eA).c eB<|djs et,nm⟩
         refine M_ ?_;have gm:=lt_ O.s L.s;exact fun _ q=>⟨x1.i,x1.h,([]:List Val),som<|ifF eL df,none,0,0,[],q.k<|s2 z z,cr ([g1]++[G.z]) H,a4,a5,onL,H_,an_,((((((hB1.e O).e L).e h5).c h4<|djs<|mm1 (Blk.lt hB1) gm).e h6).c h3<|djs<|mm1 (Blk.lt hB1)<|lt_ (lt_ gm h5.s) h4.s).e I,hw.e I⟩
        rintro nq nr ⟨bS,bT,cT,rfl,cU,cV,cW,bU,_,ns,nt,nu,nv,nw,nx,ny,nA⟩;revert nq;exact fun _ q=>⟨bS,bT,cT,som<|a_Q iJ,cU,cV,cW,bU,q.k<|s2 z z,(cM (cr ([g1]++[G.z]) H) ns (aa_ (io<|r_ sr)<|io<|v_ sr):Chg (· ∈ ([g1]++[G.z])) H nr),nt,nu,nv,nw,nx,ny,nA⟩
       rintro nB nC ⟨bK,bL,cI,rfl,cJ,cK,cL,bM,_,nD,nE,nF,nG,nH,nI,nJ,nK⟩;revert nB;exact fun _ q=>⟨bK,bL,0,cI,som<|a_Q iE,cJ,cK,cL,bM,q.k<|s2 z z,(cM (cr ([g1]++[G.z]) H) nD (aa_ (io<|r_ sr)<|io<|v_ sr):Chg (· ∈ ([g1]++[G.z])) H nC),nE,nF,ii z,nG,nH,nI,nJ,nK⟩
      rintro nL nM ⟨bF,bG,bH,cB,rfl,cC,cD,cE,bI,_,nN,nO,nP,nQ,nR,nS,nT,nU,nV⟩;revert nL;exact fun _ q=>⟨bF,bG,bH,cB,som<|c_e iy,cC,cD,cE,bI,q.k<|s2 z z,(cM (cr ([g1]++[G.z]) H) nN (aa_ (io<|r_ sr)<|io<|v_ sr):Chg (· ∈ ([g1]++[G.z])) H nM),nO,nP,nQ,nR,nS,nT,nU,nV⟩
     rintro nW nX ⟨bu,bv,bw,cw,rfl,cx,cy,cz,bx,_,nY,nZ,o0,o1,o2,o3,o4,o5,o6⟩;have iM:=elL eF;revert nW;exact fun _ q=>⟨bu,bv,bw,cw,som<|c_e iM,cx,cy,cz,bx,q.k<|s2 z z,(cM (cr ([g1]++[G.z]) H) nY (aa_ (io<|r_ sr)<|io<|v_ sr):Chg (· ∈ ([g1]++[G.z])) H nX),nZ,o0,o1,o2,o3,o4,o5,o6⟩
    rintro o7 o8 ⟨bm,bn,bo,cj,rfl,ck,cl,cm,bp,_,o9,oa,ob,oc,od,oe,og,oh,oi⟩;have iN:=elL d8;revert o7;exact fun _ q=>⟨bm,bn,bo,([]:List UInt8),cj,som<|c_e iN,none,0,0,[],ck,cl,cm,bp,q.k<|s2 z z,(cM (cr ([g1]++[G.z]) H) o9 (aa_ (io<|r_ sr)<|io<|v_ sr):Chg (· ∈ ([g1]++[G.z])) H o8),oa,ob,oc,onL,H_,an_,od,oe,og,nmN _,oh,oi⟩
   rintro oj ol ⟨b9,ba,bb,c5,c6,rfl,c7,c8,c9,aO,ca,cb,cc,aP,_,om,oo,oq,os,ot,ou,ov,ow,ox,oy,oz,oA,oB⟩;have iO:=elL d5;revert oj;exact fun _ q=>⟨b9,ba,bb,c5,c6,som<|c_f iO,c7,c8,c9,aO,ca,cb,cc,aP,q.k<|s2 z z,(cM (e_ (cr ([g1]++[G.z]) wa) I:Chg (· ∈ ([g1]++[G.z])) wa H) om (aa_ (io<|r_ sr)<|io<|v_ sr):Chg (· ∈ ([g1]++[G.z])) wa ol),oo,oq,os,ot,ou,w_ ov I.s,ow,ox,w_ oy I.s,oz,oA,oB⟩
  rintro oC oD ⟨b6,b7,b8,bX,bY,rfl,bZ,c0,c1,aM,c2,c3,c4,aN,_,oE,oF,oG,oH,oI,oJ,oK,oL,oM,oN,oO,oP,oQ⟩;have iP:=elL d2;revert oC;exact fun _ q=>⟨b6,b7,b8,bX,bY,som<|c_f iP,bZ,c0,c1,aM,c2,c3,c4,aN,q.k<|s2 z z,(cM (cr ([g1]++[G.z]) wa) oE (aa_ (io<|r_ sr)<|io<|v_ sr):Chg (· ∈ ([g1]++[G.z])) wa oD),oF,oG,oH,oI,oJ,oK,oL,oM,oN,oO,oP,oQ⟩
 rintro oR oS ⟨bV,bW,aD,dg,dh,rfl,aE,aF,aG,aH,aI,aJ,aK,aL,_,gn,oT,oU,oV,oW,oX,gp,oY,oZ,gq,p0,p1,p2⟩;have iQ:=elL d0;revert oR;refine Wo<|Ws<|R z (lN (vs:=[vI aD,sl aE aF aG,sl aI aJ aK]) Z_ t_ z z fid<|p2.row 0 3 z) ?_
 have gr:=lt_ h5.s h4.s;have gs:=mm1 b0.lt gr;have gt:=mm1 (Blk.lt hB1) O.s;refine E0 (fs0 (cur':=[vI aD,sl aE aF aG,sl aI aJ aK]) t_ z z (((((b0.e h5).c h4<|djs<|mmr b0.lt).e h6).c h3<|djs gs).c gn<|atp<|nmA gt<|ds gs) z z z z) ?_;rintro _ p3 ⟨p4,p5⟩;have cZ:=p5.one;refine Wn ?_;obtain rfl:=som<|c_f iQ;have gu:=lt_ (lt_ gr h6.s) h3.s;have gv:=lt_ O.s L.s;have gw:=lt_ (lt_ gv h5.s) h4.s;have gx:∀k∈[G.z],k∈[g1]∨w0.z<=k:=mor gw;have gy:=lt_ (lt_ gw h6.s) h3.s;exact Wr<|f_ hr (E_ Z_ t_ z p4 z) ⟨(cM (cM (cM (e_ (cM (e_ (e_ (e_ (cr [g1] w0) O:Chg (· ∈ [g1]) w0 wb) L:Chg (· ∈ [g1]) w0 wc) h5:Chg (· ∈ [g1]) w0 gP) h4 (mor gv:∀k∈[wc.z],k∈[g1]∨w0.z<=k):Chg (· ∈ [g1]) w0 G) h6:Chg (· ∈ [g1]) w0 gR) h3 gx:Chg (· ∈ [g1]) w0 wa) gn (aa_ (io sr) gx):Chg (· ∈ [g1]) w0 oS) cZ (mor O.s:∀k∈[wb.z],k∈[g1]∨w0.z<=k):Chg (· ∈ [g1]) w0 p3),aE,aF,aG,aH,aI,aJ,aK,aL,z,oV,oW.c cZ<|m_ gp b0.lt gu,oY.c cZ<|m_ gq b0.lt gu,oT,oU,p1.c cZ<|djs gt,na_ oX oZ<|ds p0,aa_ (w_ gp gy)<|w_ gq gy⟩
theorem A_w09:∀n,k_D n
  | 0=>⟨fun hm=>by intros;exact nomatch (show none=some _ from hm)⟩
  | n+1=>T_w09<|A_w09 n
theorem W_w09:i_z (d_m n).spec_l9Make:=A_w09 n
theorem e_o {x1:g_}{x2:Int}{x3:Int}{res:Int}(hm:b_z x1 x2 x3=some res)(aQ:B<=w0.z)(aJ:x1.name.b.length<=LEN)(aK:inI x1.kind)(aL:inI x1.size)(aM:repS w0 B (sl A9 N9 C9) x1.bytes)(aN:repS w0 B (sl A8 N8 C8) x1.names)(I:repS w0 B (sl AA NA CA) x1.tags)(J:repS w0 B (sl AB NB CB) x1.kids)(aO:inI x2)(aP:inI x3):j_ prog 52 [(.agg #[Str.v x1.name,vI x1.kind,vI x1.size,vB x1.little,sl A9 N9 C9,sl A8 N8 C8,sl AA NA CA,sl AB NB CB]),vI x2,vI x3] w0 (Q9 w0 B res):=by
 unfold b_z at hm
 refine goG func52 z z z fun fn hr=>Ws<|E z (fb z) ?_
 rintro _ G ⟨rfl,hi⟩;have H:=hi.below;have h2:Blk G w0.z (vR x1 A9 N9 C9 A8 N8 C8 AA NA CA AB NB CB):=hi.blk;refine Rw z<|Wq<|Ws<|Rf z a_i z<|R z (l0 g_3 z<|h2.at z)<|Wn<|Wb<|Ws<|Rq z z z<|Rw z<|Wc z (fun O=>?_) (fun O=>?_)
 ·refine Ws<|Rf z K_ z<|R z (l0 z_ z<|h2.at z) ?_
  obtain ⟨_,eu,hmv⟩:=bdS<|ifT hm O;refine RX z (at_ (α:=Int) q_ z_3 z z z (J.e H) eu) ?_;rintro _ ⟨_,_,_,rfl,hw,hx,_⟩;obtain ⟨rfl,hy⟩:=J_ hx;refine R z (l0 g_3 z<|hw.at0 z)<|Rw z ?_
  obtain rfl:=som hmv;exact Wr<|rtO<|f_ hr z ⟨H,z,hy⟩
 refine Ws<|Rq z z z<|Rw z ?_
 obtain ⟨uz,huj,L⟩:=bdS<|ifF hm O;refine Wt (fun a w=>Sum.inl ()=uz/\Sat 57 [] a/\Below G.z G w) ?_ ?_
 ·refine Wc z (fun V=>?_)<|fun V=>?_
  ·have hmk:=ifT huj V;refine Wm z<|Rf z K_ z<|R z (l0 z_ z<|h2.at z) ?_
   have hl:=J.e H;refine R z (lnR q_ z hl)<|Rl z z z<|Wx z (fun W=>?_) (fun W=>?_)
   ·refine Ws<|Rf z K_ z<|R z (l0 z_ z<|h2.at z)<|Rm z ?_
    obtain ⟨_,aj,a0⟩:=bdS<|ifT hmk W;refine RX z (at_ (α:=Int) q_ z_3 z z z hl aj) ?_;rintro _ ⟨_,_,_,rfl,ak,al,_⟩;obtain ⟨rfl,am⟩:=J_ al;refine R z (l0 g_3 z<|ak.at0 z)<|Rw z ?_
    obtain rfl:=som a0;have a1:=elR L;obtain rfl:=som a1;exact Wr<|rtO<|f_ hr z ⟨H,z,am⟩
   exact M_<|fun _ q=>⟨som<|ifF hmk W,q.k sn,br G⟩
  refine Ws<|Rq z z z<|Rw z ?_
  obtain ⟨an,hum,Y⟩:=bdS<|ifF huj V;refine Wt (fun a w=>Sum.inl ()=an/\Sat 57 [] a/\Below G.z G w) ?_ ?_
  ·refine Wc z (fun hca=>?_)<|fun hca=>?_
   ·refine Ws<|Rw z ?_
    obtain ⟨_,a2,hmn⟩:=bdS<|ifT hum hca;refine Wf (σ:=Unit) (ρ:=Int) (fun (ko:Nat)(_:Unit) a w=>Sat 57 [(1,vI x2),(3,pt w0.z),(7,vI ((ko:Nat):Int))] a/\Below G.z G w) (fun (_:Unit) a w=>Sat 57 [] a/\Below G.z G w) (rQ prog fn<|Q9 w0 B) a2 ?_ ?_ ?_ ?_ ?_
    ·exact fun _ q=>⟨q.k<|s3 z z z,br G⟩
    ·rintro ko _ _ _ _ hkb ⟨a3,s4⟩ a4;refine Wu ?_ a3;refine Wq<|Wm z<|Rf z a_r z ?_
     have hd:=h2.e s4;refine R z (l0 z_ z<|hd.at z) ?_;have hp:=(H.ag B).e s4;have hq:=I.g hp;refine R z (lnR q_ z hq)<|Rl z z z<|Wx z (fun _=>?_) (fun hc=>(a_4 hkb hc).elim)
     refine Wk<|Wq<|Wb<|Ws<|Rf z a_r z<|R z (l0 z_ z<|hd.at z)<|Rm z ?_
     obtain ⟨_,ao,hmr⟩:=bdS a4;refine RX z (at_ (α:=Int) q_ z_3 z z z hq ao) ?_;rintro _ ⟨_,_,_,rfl,ap,aq,_⟩;obtain ⟨rfl,_⟩:=J_ aq;refine R z (l0 g_3 z<|ap.at0 z)<|Rm z<|Rq z z z<|Wx z (fun hcc=>?_) (fun hcc=>?_)
     ·refine Ws<|Rf z K_ z<|R z (l0 z_ z<|hd.at z)<|Rm z<|R z (inc_ hkb (lt_ (repS.len I) L_) z z) ?_
      obtain ⟨_,ar,a5⟩:=bdS<|ifT hmr hcc;refine RX z (at_ (α:=Int) q_ z_3 z z z (J.g hp) ar) ?_;rintro _ ⟨_,_,_,rfl,au,av,_⟩;obtain ⟨rfl,aw⟩:=J_ av;exact R z (l0 g_3 z<|au.at0 z)<|Rw z<|Wr<|rtO<|qL (som a5).symm<|f_ hr z ⟨bup H s4,z,aw⟩
     exact Wk<|Wg<|Rm z<|R z (inc_ hkb (lt_ (repS.len I) L_) z z)<|Ra z<|Wl (fun _ q=>⟨(),(som<|ifF hmr hcc).symm,⟨q.k<|s3 z z z,s4⟩⟩)
    ·rintro _ _ _ ⟨a6,se⟩;refine Wu ?_ a6;refine Wq<|Wm z<|Rf z a_r z<|R z (l0 z_ z<|(h2.e se).at z)<|R z (lnR q_ z<|I.g<|(H.ag B).e se)<|Rl z z z<|Wx z (fun hc=>(a_5 hc).elim) (fun _=>?_)
     exact We<|fun _ q=>⟨rfl,⟨q.k sn,se⟩⟩
    ·rintro _ ax _ rfl ⟨_,ay⟩;have a7:=elL hmn;revert ax;exact fun _ q=>⟨som a7,q.k sn,ay⟩
    rintro _ _ _ _ rfl ⟨rfl,a8⟩;have a9:=elR hmn;obtain rfl:=som a9;have aa:=elR Y;obtain rfl:=som aa;have ab:=elR L;obtain rfl:=som ab;exact ⟨a8,z⟩
   refine Wq<|Ws<|Rq z z z<|Rw z ?_
   obtain ⟨az,hus,hmt⟩:=bdS<|ifF hum hca;refine Wt (fun a w=>∃(xf:Bool),xf=az/\Sat 57 [(3,pt w0.z),(50,vB xf)] a/\Below G.z G w) ?_ ?_
   ·refine Wc z (fun hcg=>?_)<|fun hcg=>?_
    ·exact M_<|fun _ q=>⟨x1.kind==8,som<|ifT hus hcg,q.k<|s2 z z,br G⟩
    exact Wg<|Rq z z z<|Ra z<|Wl (fun _ q=>⟨x1.kind==9,som<|ifF hus hcg,q.k<|s2 z z,br G⟩)
   rintro aA _ ⟨xf,rfl,_,s5⟩;revert aA;refine Wo<|Wc z (fun hch=>?_) (fun hch=>?_)
   ·refine Ws<|Rf z K_ z<|R z (l0 z_ z<|(h2.e s5).at z) ?_
    obtain ⟨_,aB,ad⟩:=bdS<|ifT hmt hch;refine RX z (at_ (α:=Int) q_ z_3 z z z (J.g<|(H.ag B).e s5) aB) ?_;rintro _ ⟨_,_,_,rfl,aC,aD,_⟩;obtain ⟨rfl,aE⟩:=J_ aD;refine R z (l0 g_3 z<|aC.at0 z)<|Rw z ?_
    obtain rfl:=som ad;have ae:=elR Y;obtain rfl:=som ae;have af:=elR L;obtain rfl:=som af;exact Wr<|rtO<|f_ hr z ⟨bup H s5,z,aE⟩
   exact M_<|fun _ q=>⟨som<|ifF hmt hch,q.k sn,s5⟩
  rintro aF _ ⟨rfl,_,aG⟩;have ah:=elL Y;revert aF;exact fun _ q=>⟨som ah,q.k sn,aG⟩
 rintro aH _ ⟨rfl,_,aI⟩;have ai:=elL L;revert aH;refine Wo<|Ws<|Rw z ?_
 obtain rfl:=som ai;exact Wr<|f_ hr z ⟨bup H aI,z,ii z⟩
theorem a_T {x1:Int}{x2:Int}{x3:Int}{res:Bool}(hm:a_s x1 x2 x3=some res)(Y:B<=w0.z)(O:inI x1)(V:inI x2)(W:inI x3):j_ prog 27 [vI x1,vI x2,vI x3] w0 (Q0 w0 B res):=by
 unfold a_s at hm
 refine goG func27 z z z fun fn hr=>Ws<|Rw z<|Wq ?_
 obtain ⟨J,H,I⟩:=bdS hm;refine Wt (fun a w=>∃(x4:Bool),x4=J/\Sat 15 [(6,vB x4)] a/\Below w0.z w0 w) ?_ ?_
 ·refine Wg<|RM z z<|R z (b_e z z)<|Rm z ?_
  rcases bs (decide<|x2<=x1) with G | G
  ·exact Rh z G (mv z)<|Rh z G (mv z)<|Rh z G (b_Y z z)<|R z (pT z G z)<|Ra z<|Wl (fun _ q=>⟨decide<|x1<=x3,som<|ifT H G,q.k<|s1 z,br w0⟩)
  iterate 3 refine Nh z G ?_
  exact R z (pF z G z)<|Ra z<|Wl (fun _ q=>⟨false,som<|ifF H G,q.k<|s1 z,br w0⟩)
 rintro L _ ⟨x4,rfl,_,s6⟩;revert L;refine Wo ?_;obtain rfl:=som I;exact Wr<|f_ hr z ⟨s6,z⟩
def Q11 (w0:World)(B:Zone)(r:(List UInt8))(v:Value)(w':World):Prop:=Bw w0 w'/\(fun J=>∃G H I S1,(sl G H I)=v/\a_ w' S1 (sl G H I) J/\S1.Nodup/\(∀k∈S1,w0.z<=k)) r
theorem W_w12 {x1:Int}{x2:Int}{res:(List UInt8)}(hm:e_z n x1 x2=some res)(W:B<=w0.z)(a0:inI x1)(Y:inI x2):j_ prog 95 [vI x1,vI x2] w0 (Q11 w0 B res):=by
 unfold e_z at hm
 refine goG func95 z z z fun fn hr=>Ws<|Rw z<|Ws<|E z (f0 (α:=UInt8) S_) ?_
 rintro _ wm ⟨ad,ne,cf,rfl,s7,hp⟩;refine Rw z<|Wq<|Wq ?_
 obtain ⟨af,a1,hmq⟩:=bdS hm;refine Wt (fun a w=>∃(xg:Bool),xg=af/\Sat 35 [(0,vI x1),(1,vI x2),(5,sl ad ne cf),(18,vB xg)] a/\Below wm.z wm w) ?_ ?_
 ·refine Wg<|Rm z ?_
  obtain ⟨ah,ai,hmr⟩:=bdS a1;refine E z (fc call27 z<|a_T ai (zt' W s7.s) Y (ii z)<|ii z) ?_;rintro _ _ ⟨sh,rfl⟩;refine R z (not_ z)<|Rm z ?_
  rcases bs (!ah) with I | I
  ·iterate 6 refine Nh z I ?_
   exact R z (pT z I z)<|Wl (fun _ q=>⟨true,som<|ifT hmr I,q.k<|s4 z z z z,sh⟩)
  refine Rh z I (mv z)<|Rh z I (mv z) ?_
  have ht:=lt_ s7.s sh.s;obtain ⟨_,aj,a2⟩:=bdS<|ifF hmr I;refine Eg z z I z (fc call69 z<|i_x aj (zt' W ht) Y) ?_;rintro _ _ ⟨ss,rfl,_⟩;refine Rh z I (sb_ z z) ?_;obtain ⟨ak,al,a4⟩:=bdS a2;refine Eg z z I z (fc call27 z<|a_T al (zt' W<|lt_ ht ss.s) a0 (ii z)<|iS _ _) ?_;rintro _ _ ⟨am,rfl⟩;exact Rh z I (not_ z)<|R z (pF z I z)<|Wl (fun _ q=>⟨!ak,som a4,q.k<|s4 z z z z,bup (bup sh ss) am⟩)
 rintro an G ⟨xg,rfl,_,s8⟩;revert an;refine Wo<|Wc z (fun hci=>?_) (fun hci=>?_)
 ·refine Wm z<|Rw z ?_
  obtain rfl:=som<|ifT hmq hci;exact Wr<|f_ hr z ⟨bup s7 s8,ad,ne,cf,[w0.z],z,hp.e s8,a_q,b_ lr⟩
 refine Wk<|Wq<|Wm z<|R z (sb_ z z)<|Rw z ?_
 obtain ⟨_,a5,hmu⟩:=bdS<|ifF hmq hci;refine b_M (σ:=(List UInt8)×Int) (ρ:=List UInt8) (fun s a w=>un2 (fun V x6=>∃J L O H,Sat 35 [(0,vI x1),(5,sl J L O),(6,vI x6)] a/\Chg (· ∈ [w0.z]) G w/\a_ w H (sl J L O) V/\H.Nodup/\(∀k∈H,k∈[w0.z]∨G.z<=k)/\inI x6) s) (fun s a w=>un2 (fun V x6=>∃J L O H,Sat 35 [(5,sl J L O)] a/\Chg (· ∈ [w0.z]) G w/\a_ w H (sl J L O) V/\H.Nodup/\(∀k∈H,k∈[w0.z]∨G.z<=k)/\inI x6) s) (rQ prog fn<|Q11 w0 B) a5 ?_ ?_ ?_ ?_
 ·exact fun _ q=>⟨ad,ne,cf,[w0.z],q.k<|s3 z z z,cr [w0.z] G,hp.e s8,a_q,io sr,iS _ _⟩
 ·rintro ⟨V,x6⟩ _ wj _ ⟨J,L,O,H,a6,sk,ha,hb,hc,hv⟩ a7;have hmw:=a_B a7;refine Wu ?_ a6;refine Wq<|Wm z<|R z (b_e z z)<|Wx z (fun hcl=>?_) (fun hcl=>?_)
  ·refine Wk<|Wq<|Wb<|Wg<|RM z z<|Rm z<|R z (c_j z z) ?_
   obtain ⟨_,ao,a8⟩:=bdS<|ifT hmw hcl;refine R z (g_H z z<|nnS ao)<|R z (c_B d_3 d_5 z)<|E z (fS [(.tmp 31)] S_ z z z (Y_ z) (lb z)<|lb z) ?_
   rintro _ wx ⟨rfl,hn⟩;have ho:=hn.below;have aD:=a_l hn a_E;obtain ⟨ap,aq,a9⟩:=bdS a8;refine E z (a_H (α:=UInt8) S_ aq z z (ha.e ho) hb (hn.blk:Blk wx wj.z [(vU<|byteI<|mkB<|b_k .i64 x1<|a_2 8 x6)]) a_E an_ H_) ?_;rintro _ ar ⟨Sy,au,av,aw,rfl,ax,ay,az,aA⟩;refine Rw z<|Wg<|Rm z<|R z (sb_ z z)<|Ra z<|Wl ?_
   have hz:∀k∈H,k∈[w0.z]∨G.z<=k:=or1 hc (io sr)<|x_ lr;exact fun _ q=>⟨(ap,G_ x6 1),(som a9).symm,⟨au,av,aw,Sy,q.k<|s3 z z z,(cM (e_ (cM (cr [w0.z] G) sk (io sr):Chg (· ∈ [w0.z]) G wj) ho:Chg (· ∈ [w0.z]) G wx) ax hz:Chg (· ∈ [w0.z]) G ar),ay,az,(or2 aA hz an_ (x_<|lt_ sk.s ho.s):∀k∈Sy,k∈[w0.z]∨G.z<=k),iS _ _⟩⟩
  exact We<|fun _ q=>b_i (som<|ifF hmw hcl).symm ⟨J,L,O,H,q.k<|s1 z,(cM (cr [w0.z] G) sk (io sr):Chg (· ∈ [w0.z]) G wj),ha,hb,(or1 hc (io sr) (x_ lr):∀k∈H,k∈[w0.z]∨G.z<=k),hv⟩
 ·rintro ⟨V,x6⟩ aB _ rfl ⟨J,L,O,H,_,aC,ha,hb,hc,hv⟩;have aa:=elL hmu;revert aB;refine Wo<|Wm z<|Rw z ?_
  obtain rfl:=som<|a_B aa;exact Wr<|f_ hr z ⟨bM (bup s7 s8) aC<|b_ lr,J,L,O,H,z,ha,hb,(or1 hc (b_ lr) (a_R<|lt_ s7.s s8.s):∀k∈H,w0.z<=k)⟩
 rintro _ _ _ _ rfl ⟨rfl,ab⟩;have ae:=elR hmu;obtain rfl:=som ae;exact ⟨ab,z⟩
theorem W_w1m {x1:Int}{x2:Int}{res:(List UInt8)}(hm:e_K n x1 x2=some res)(aa:B<=w0.z)(Y:inI x1)(a0:inI x2):j_ prog 94 [vI x1,vI x2] w0 (Q11 w0 B res):=by
 unfold e_K at hm
 refine goG func94 z z z fun fn hr=>Ws<|Rw z<|Wm z<|Rm z ?_
 obtain ⟨_,er,hms⟩:=bdS hm;refine E z (fc call95 z<|W_w12 (B:=B) er aa Y a0) ?_;rintro _ G ⟨sd,au,nt,cv,_,rfl,W,_,_⟩;refine Rw z<|Ws<|E z (f0 (α:=UInt8) S_) ?_
 rintro _ H ⟨aw,nx,cy,rfl,se,hz⟩;refine Rw z<|Wq<|Wm z ?_
 have hj:=W.e se;refine R z (lnR l_ z<|or_ hj<|a_.lt W)<|R z (sb_ z z)<|Rw z ?_
 obtain ⟨_,a1,hmk⟩:=bdS hms;refine b_M (σ:=(List UInt8)×Int) (ρ:=List UInt8) (fun s a w=>un2 (fun V x6=>∃J L O I,Sat 27 [(5,sl au nt cv),(6,sl J L O),(7,vI x6)] a/\Chg (· ∈ [G.z]) H w/\a_ w I (sl J L O) V/\I.Nodup/\(∀k∈I,k∈[G.z]∨H.z<=k)/\inI x6) s) (fun s a w=>un2 (fun V x6=>∃J L O I,Sat 27 [(6,sl J L O)] a/\Chg (· ∈ [G.z]) H w/\a_ w I (sl J L O) V/\I.Nodup/\(∀k∈I,k∈[G.z]∨H.z<=k)/\inI x6) s) (rQ prog fn<|Q11 w0 B) a1 ?_ ?_ ?_ ?_
 ·exact fun _ q=>⟨aw,nx,cy,[G.z],q.k<|s3 z z z,cr [G.z] H,hz,a_q,io sr,iS _ _⟩
 ·rintro ⟨V,x6⟩ _ wf _ ⟨J,L,O,I,a2,s9,ha,hb,hc,hl⟩ a4;have hmm:=a_B a4;refine Wu ?_ a2;refine Wq<|Wm z<|R z (b_e z z)<|Wx z (fun hcg=>?_) (fun hcg=>?_)
  ·refine Wk<|Wq<|Wb<|Wg<|RM z z<|Rm z ?_
   obtain ⟨ab,ad,a5⟩:=bdS<|ifT hmm hcg;refine RX z (at_ (α:=UInt8) l_ z_5 z z z (or_ (hj.c s9<|ds<|mnr<|a_.lt W)<|a_.lt W) ad) ?_;rintro _ ⟨_,_,_,rfl,ae,af,_⟩;obtain rfl:=u8 af;refine R z (l0 g_5 z<|ae.at0 z)<|E z (fS [(.tmp 23)] S_ z z z (Y_ z) (lb z)<|lb z) ?_
   rintro _ wn ⟨rfl,hh⟩;have hi:=hh.below;have ax:=a_l hh a_E;obtain ⟨ah,ai,a6⟩:=bdS a5;refine E z (a_H (α:=UInt8) S_ ai z z (ha.e hi) hb (hh.blk:Blk wn wf.z [vU (byteI ab)]) a_E an_ H_) ?_;rintro _ aj ⟨So,ak,al,am,rfl,an,ao,ap,aq⟩;refine Rw z<|Wg<|Rm z<|R z (sb_ z z)<|Ra z<|Wl ?_
   have hp:∀k∈I,k∈[G.z]∨H.z<=k:=or1 hc (io sr)<|x_ lr;exact fun _ q=>⟨(ah,G_ x6 1),(som a6).symm,⟨ak,al,am,So,q.k<|s3 z z z,(cM (e_ (cM (cr [G.z] H) s9 (io sr):Chg (· ∈ [G.z]) H wf) hi:Chg (· ∈ [G.z]) H wn) an hp:Chg (· ∈ [G.z]) H aj),ao,ap,(or2 aq hp an_ (x_<|lt_ s9.s hi.s):∀k∈So,k∈[G.z]∨H.z<=k),iS _ _⟩⟩
  exact We<|fun _ q=>b_i (som<|ifF hmm hcg).symm ⟨J,L,O,I,q.k<|s1 z,(cM (cr [G.z] H) s9 (io sr):Chg (· ∈ [G.z]) H wf),ha,hb,(or1 hc (io sr) (x_ lr):∀k∈I,k∈[G.z]∨H.z<=k),hl⟩
 ·rintro ⟨V,x6⟩ ar _ rfl ⟨J,L,O,I,_,av,ha,hb,hc,hl⟩;have a7:=elL hmk;revert ar;refine Wo<|Wm z<|Rw z ?_
  obtain rfl:=som<|a_B a7;have hq:=m1 sd.s;exact Wr<|f_ hr z ⟨bM (bup sd se) av hq,J,L,O,I,z,ha,hb,a_O hc hq<|lt_ sd.s se.s⟩
 rintro _ _ _ _ rfl ⟨rfl,a8⟩;have a9:=elR hmk;obtain rfl:=som a9;exact ⟨a8,z⟩
theorem h_c {x1:g_}{x2:Int}{res:(List UInt8)}(hm:c_U n x1 x2=some res)(L:B<=w0.z)(a0:x1.name.b.length<=LEN)(a1:inI x1.kind)(I:inI x1.size)(a2:repS w0 B (sl A9 N9 C9) x1.bytes)(a3:repS w0 B (sl A8 N8 C8) x1.names)(a4:repS w0 B (sl AA NA CA) x1.tags)(a5:repS w0 B (sl AB NB CB) x1.kids)(J:inI x2):j_ prog 66 [(.agg #[Str.v x1.name,vI x1.kind,vI x1.size,vB x1.little,sl A9 N9 C9,sl A8 N8 C8,sl AA NA CA,sl AB NB CB]),vI x2] w0 (Q11 w0 B res):=by
 unfold c_U at hm
 refine goG func66 z z z fun fn hr=>Ws<|E z (fb z) ?_
 rintro _ V ⟨rfl,h3⟩;have G:=h3.below;have h1:Blk V w0.z (vR x1 A9 N9 C9 A8 N8 C8 AA NA CA AB NB CB):=h3.blk;refine Rw z<|Wq<|Ws<|Rf z c_q z<|R z (l0 g_4 z<|h1.at z)<|Wx z (fun H=>?_) (fun H=>?_)
 ·refine Wm z<|Rf z a_z z<|R z (l0 g_3 z<|h1.at z) ?_
  obtain ⟨_,W,O⟩:=bdS<|ifT hm H;refine E z (fc call94 z<|W_w1m W (zt' L G.s) J I) ?_;rintro _ _ ⟨s7,Y,n9,ca,Sb,rfl,hc,hd,he⟩;refine Rw z ?_
  obtain rfl:=som O;exact Wr<|f_ hr z ⟨bup G s7,Y,n9,ca,Sb,z,hc,hd,w_ he G.s⟩
 refine Wk<|Wm z<|Rf z a_z z<|R z (l0 g_3 z<|h1.at z) ?_
 obtain ⟨_,ef,hmg⟩:=bdS<|ifF hm H;refine E z (fc call95 z<|W_w12 ef (zt' L G.s) J I) ?_;rintro _ _ ⟨sh,ai,nj,ck,Sl,rfl,hn,ho,hp⟩;refine Rw z ?_
 obtain rfl:=som hmg;exact Wr<|f_ hr z ⟨bup G sh,ai,nj,ck,Sl,z,hn,ho,w_ hp G.s⟩
theorem W_w13 {x1:List UInt8}{res:Int}(hm:e_t x1=some res)(O:B<=w0.z)(G:repS w0 B (sl A0 N0 C0) x1):j_ prog 67 [sl A0 N0 C0] w0 (Q9 w0 B res):=by
 unfold e_t at hm
 refine goG func67 z z z fun fn hr=>Ws<|Rw z<|Ws<|Rw z<|Wq<|Ws<|Rw z ?_
 obtain ⟨_,J,H⟩:=bdS hm;refine Wf (σ:=Int) (ρ:=Int) (fun (k3:Nat)(x0:Int) a w=>Sat 20 [(0,sl A0 N0 C0),(3,vI x0),(4,vI ((k3:Nat):Int))] a/\Below w0.z w0 w/\inI x0) (fun (x0:Int) a w=>Sat 20 [(3,vI x0)] a/\Below w0.z w0 w/\inI x0) (rQ prog fn<|Q9 w0 B) J ?_ ?_ ?_ ?_ ?_
 ·exact fun _ q=>⟨q.k<|s3 z z z,br w0,ii z⟩
 ·rintro k3 x0 _ _ _ I ⟨L,s5,h1⟩ hma;refine Wu ?_ L;refine Wq<|Wm z<|Rm z ?_
  have h6:=G.e s5;refine R z (lnR l_ z h6)<|Rl z z z<|Wx z (fun _=>?_) (fun hc=>(a_4 I hc).elim)
  refine Wk<|Wq<|Wb<|Wg<|RM z z<|Rm z ?_
  obtain ⟨xb,ec,hmd⟩:=bdS hma;refine RX z (at_ (α:=UInt8) l_ z_5 z z z h6 ec) ?_;rintro _ ⟨_,_,_,rfl,he,hf,_⟩;obtain rfl:=u8 hf;exact R z (l0 g_5 z<|he.at0 z)<|R z (b_A d_5 d_3 z)<|R z (add_ z z)<|R z (e_9 z z (by decide))<|Rw z<|Wg<|Rm z<|R z (inc_ I (lt_ (repS.len G) L_) z z)<|Ra z<|Wl (fun _ q=>⟨a_u (h_ x0<|byteI xb) 256,(som hmd).symm,⟨q.k<|s3 z z z,s5,e_P<|iA _ _⟩⟩)
 ·rintro x0 _ _ ⟨hSg,s7,h1⟩;refine Wu ?_ hSg;refine Wq<|Wm z<|Rm z<|R z (lnR l_ z<|G.e s7)<|Rl z z z<|Wx z (fun hc=>(a_5 hc).elim) (fun _=>?_)
  exact We<|fun _ q=>⟨rfl,⟨q.k<|s1 z,s7,h1⟩⟩
 ·rintro x0 ah _ rfl ⟨_,si,h1⟩;have hmj:=elL H;revert ah;refine Wo<|Wm z<|Rw z ?_
  obtain rfl:=som hmj;exact Wr<|f_ hr z ⟨si,z,h1⟩
 rintro _ _ _ _ rfl ⟨rfl,hqk⟩;have hml:=elR H;obtain rfl:=som hml;exact ⟨hqk,z⟩
structure i_A (f:d_->Int->Val->Option (List UInt8)):Prop where
  run:∀{A0 AE AF:Option Addr}{N0 C0 NE CE NF CF:Nat}{B:Zone}{x1:d_}{x2:Int}{x3:Val}{res:(List UInt8)}{w0:World}(hm:f x1 x2 x3=some res)(hBw:B<=w0.z)(p1_0:repS w0 B (sl A0 N0 C0) x1.rules)(p2_0:inI x2)(p3_0:inI x3.number)(p3_1:repS w0 B (sl AE NE CE) x3.bytes)(p3_2:repS w0 B (sl AF NF CF) x3.items),j_ prog 39 [(.agg #[sl A0 N0 C0]),vI x2,(.agg #[vI x3.number,sl AE NE CE,sl AF NF CF])] w0<|Q11 w0 B res
abbrev k_E (n:Nat):Prop:=i_A (c_V n).spec_l11Print
theorem T_w0b (gY:k_E n):i_A (e_L n<|c_V n):=by
 constructor
 intro A0 AE AF N0 C0 NE CE NF CF B x1 x2 x3 res w0 hm H a4 j2 aA O V;unfold e_L at hm
 refine goG func39 z z z fun fn hr=>Ws<|E z (fb z) ?_
 rintro _ wm ⟨rfl,bU⟩;have J:=bU.below;have ho:Blk wm w0.z [sl A0 N0 C0]:=bU.blk;refine E z (fb z) ?_;rintro _ wa ⟨rfl,bV⟩;have h4:=bV.below;have h5:Blk wa wm.z [vI x3.number,sl AE NE CE,sl AF NF CF]:=bV.blk;refine Rw z<|Ws<|Rf z N_ z ?_
 have a5:=ho.e h4;refine R z (l0 R_ z<|a5.at z)<|Rm z ?_
 obtain ⟨aa,gZ,dN⟩:=bdS hm;have hn:=(J.ag B).e h4;refine RX z (at_ (α:=g_) P_ k_ z z z (a4.g hn) gZ) ?_;rintro _ ⟨_,_,_,rfl,h2,h3,_⟩;obtain ⟨ab,ad,ae,af,ai,ak,al,am,an,ao,ap,aq,rfl,bW,bX,bY,a6,bZ,c0,a7⟩:=a_j h3;refine R z (lN (vs:=vR aa ab ad ae af ai ak al am an ao ap aq) I_ k_ z z fid h2)<|E z (fa b_h) ?_
 rintro _ h6 ⟨rfl,c1⟩;have h1:=c1.below;have a8:Blk h6 wa.z [(Str.v (⟨[]⟩:Str)),vI 0,vI 0,vB false,sl none 0 0,sl none 0 0,sl none 0 0,sl none 0 0]:=c1.blk;refine E0 (fs0 (cur':=vR aa ab ad ae af ai ak al am an ao ap aq) k_ z z a8 z z z z) ?_;rintro _ I ⟨c2,h7⟩;have G:=h7.one;refine Wn<|Ws<|E z (f0 (α:=UInt8) S_) ?_
 rintro _ wc ⟨h9,ha,hb,rfl,s3,hf⟩;refine Rw z<|Wq<|Ws<|Rw z ?_
 obtain ⟨_,dO,bF⟩:=bdS dN;refine Wf (σ:=List UInt8) (ρ:=List UInt8) (fun (c3:Nat)(W:List UInt8) a w=>∃ah ng ci S2,Sat 169 [(3,pt w0.z),(5,pt wm.z),(7,pt wa.z),(8,sl ah ng ci),(9,vI ((c3:Nat):Int))] a/\Chg (· ∈ [I.z]) wc w/\a_ w S2 (sl ah ng ci) W/\S2.Nodup/\(∀k∈S2,k∈[I.z]∨wc.z<=k)) (fun (W:List UInt8) a w=>∃ah ng ci S2,Sat 169 [(3,pt w0.z),(5,pt wm.z),(7,pt wa.z),(8,sl ah ng ci)] a/\Chg (· ∈ [I.z]) wc w/\a_ w S2 (sl ah ng ci) W/\S2.Nodup/\(∀k∈S2,k∈[I.z]∨wc.z<=k)) (rQ prog fn<|Q11 w0 B) dO ?_ ?_ ?_ ?_ ?_
 ·exact fun _ q=>⟨h9,ha,hb,[I.z],q.k<|s5 z z z z z,cr [I.z] wc,hf,a_q,io sr⟩
 ·rintro c3 W _ hg _ aB ⟨ah,ng,ci,S2,dP,ss,hd,hw,he⟩ dS;refine Wu ?_ dP;refine Wq<|Wm z<|Rf z b_x z ?_
  have c4:=(((h5.e h1).c G<|djs<|mmr h5.lt).e s3).c ss<|djs<|mm1 h5.lt<|lt_ h1.s G.s
  refine R z (l0 d_c z<|c4.at z) ?_;have c5:=lt_ J.s h4.s;have c6:∀k∈[wa.z],¬B k:=or0 (b_ lr)<|i_<|zt' H c5;have c7:=lt_ (lt_ c5 h1.s) G.s;have c8:∀k∈[I.z],¬B k:=or0 (b_ lr)<|i_<|zt' H c7;have c9:=(((hn.e h1).c G<|c_ c6).e s3).c ss<|c_ c8
  refine R z (lnR d_47 z<|V.g c9)<|Rl z z z<|Wx z (fun _=>?_) (fun hc=>(a_4 aB hc).elim)
  refine Wk<|Wq<|Wb (Wd (X:=noX) 8192 (.rd 0<|.rd 1<|.rd 2<|.rd 3<|.rd 4<|.rd 5<|.rd 7<|.rd 8<|.rd 9<|.rd 10<|.rd 11<|.ef 6<|.ef 12<|.ef 13<|.rd 14 .done) mo (by kernel_rfl) fun hh sp _=>dM z z z ?_)
  refine dR z z (lN (vs:=[sl A0 N0 C0]) s_ p_ z z fid<|(((((a5.e h1).c G<|djs<|mm1 ho.lt h4.s).e s3).c ss<|djs<|mm1 ho.lt<|lt_ (lt_ h4.s h1.s) G.s).e sp).row 0 1 z)<|dR z z (lN (vs:=vR aa ab ad ae af ai ak al am an ao ap aq) I_ k_ z z fid<|(((c2.e s3).c ss<|djs<|mm1 a8.lt G.s).e sp).row 0 8 z)<|dR z z (fd e_k z) ?_
  have ca:=c4.e sp;refine dR z z (l0 g_3 z<|ca.at z)<|dM z z z<|dR z z (fd b_x z)<|dR z z (l0 d_c z<|ca.at z)<|dM z z z ?_
  obtain ⟨hi,hj,dT⟩:=bdS dS;have cb:=c9.e sp;refine dRX z z (at_ (α:=Val) d_47 t_ z z z (V.g cb) hj) ?_;rintro _ ⟨_,_,_,rfl,hk,hl,_⟩;obtain ⟨hp,hq,hu,hv,hx,hy,rfl,hA,hB,hC⟩:=o_g hl;refine dR z z (lN (vs:=[vI hi.number,sl hp hq hu,sl hv hx hy]) Z_ t_ z z fid hk) ?_;have ar:=((((h1.ag B).c G<|c_ c6).e s3).c ss<|c_ c8).e sp;have cc:=lt_ (lt_ (lt_ c7 s3.s) ss.s) sp.s;obtain ⟨_,hD,dU⟩:=bdS dT;refine dE z z (fc call52 z<|e_o hD (zt' H cc) bW bX bY (a6.g ar) (bZ.g ar) (c0.g ar) (a7.g ar) aA<|ic (Nat.le_of_lt aB)<|lt_ (repS.len V) L_) (.inr fun _ _ h=>B_<|h.1) ?_;rintro _ hE ⟨sx,rfl,hF⟩;obtain ⟨_,hG,dV⟩:=bdS dU;refine dE z z (fc call39 z<|gY.run hG (zt' H<|lt_ cc sx.s) (a4.g<|cb.e sx) hF hA (hB.e sx)<|hC.e sx) (.inr fun _ _ h=>B_<|h.1) ?_;rintro _ hH ⟨aM,_,_,_,_,rfl,hI,_,_⟩;obtain ⟨hJ,hK,dW⟩:=bdS dV;refine dE z z (fN (α:=UInt8) S_ hK z z (((hd.e sp).e sx).e aM) hw<|a_.rep hI) (.inl z) ?_;rintro _ hL ⟨cd,hM,hN,hO,rfl,hP,hQ,hR,hS⟩;refine dQ z z z<|pD<|Wo<|Wg<|Rm z<|R z (inc_ aB (lt_ (repS.len V) L_) z z)<|Ra z<|Wl ?_
  have ce:∀k∈S2,k∈[I.z]∨wc.z<=k:=or1 he (io sr)<|x_ lr;exact fun _ q=>⟨hJ,(som dW).symm,⟨hM,hN,hO,cd,q.k<|s5 z z z z z,(cM (e_ (e_ (e_ (cM (cr [I.z] wc) ss (io sr):Chg (· ∈ [I.z]) wc hg) sp:Chg (· ∈ [I.z]) wc hh) sx:Chg (· ∈ [I.z]) wc hE) aM:Chg (· ∈ [I.z]) wc hH) hP ce:Chg (· ∈ [I.z]) wc hL),hQ,hR,(or1 hS ce (x_<|lt_ (lt_ (lt_ ss.s sp.s) sx.s) aM.s):∀k∈cd,k∈[I.z]∨wc.z<=k)⟩⟩
 ·rintro W _ hT ⟨ah,ng,ci,S2,dX,aN,hd,hw,he⟩;refine Wu ?_ dX;refine Wq<|Wm z<|Rf z b_x z<|R z (l0 d_c z<|((((h5.e h1).c G<|djs<|mmr h5.lt).e s3).c aN<|djs<|mm1 h5.lt<|lt_ h1.s G.s).at z) ?_
  have cf:=lt_ J.s h4.s;refine R z (lnR d_47 z<|V.g<|(((hn.e h1).c G<|c_ (or0 (b_ lr) (i_<|zt' H cf):∀k∈[wa.z],¬B k)).e s3).c aN<|c_ (or0 (b_ lr) (i_<|zt' H<|lt_ (lt_ cf h1.s) G.s):∀k∈[I.z],¬B k))<|Rl z z z<|Wx z (fun hc=>(a_5 hc).elim) (fun _=>?_)
  exact We<|fun _ q=>⟨rfl,⟨ah,ng,ci,S2,q.k<|s4 z z z z,(cM (cr [I.z] wc) aN (io sr):Chg (· ∈ [I.z]) wc hT),hd,hw,(or1 he (io sr) (x_ lr):∀k∈S2,k∈[I.z]∨wc.z<=k)⟩⟩
 ·rintro W hU wb rfl ⟨ah,ng,ci,S2,_,s6,hd,hw,he⟩;have bG:=elL bF;revert hU;refine Wo<|Wq<|Ws<|Rf z a_i z ?_
  have aO:=mm1 a8.lt G.s;have ht:=(c2.e s3).c s6<|djs aO
  refine R z (l0 g_3 z<|ht.at z)<|Wn<|Wb<|Ws<|Rq z z z<|Rw z<|Wc z (fun aC=>?_) (fun aC=>?_)
  ·refine Ws<|R z (lN (vs:=vR aa ab ad ae af ai ak al am an ao ap aq) I_ k_ z z fid<|ht.row 0 8 z)<|Rf z e_k z<|R z (l0 g_3 z<|((((h5.e h1).c G<|djs<|mmr h5.lt).e s3).c s6<|djs<|mm1 h5.lt<|lt_ h1.s G.s).at z) ?_
   have aP:=lt_ J.s h4.s;have aQ:=lt_ (lt_ aP h1.s) G.s;have au:=(((h1.ag B).c G<|c_ (or0 (b_ lr) (i_<|zt' H aP):∀k∈[wa.z],¬B k)).e s3).c s6<|c_ (or0 (b_ lr) (i_<|zt' H aQ):∀k∈[I.z],¬B k)
   have cg:=lt_ (lt_ aQ s3.s) s6.s;obtain ⟨_,hV,dY⟩:=bdS<|ifT bG aC;refine E z (fc call66 z<|h_c hV (zt' H cg) bW bX bY (a6.g au) (bZ.g au) (c0.g au) (a7.g au) aA) ?_;rintro _ _ ⟨hW,hX,hY,hZ,i0,rfl,i1,i2,i3⟩;refine Rw z ?_
   obtain rfl:=som dY;exact Wr<|rtO<|f_ hr z ⟨bup (bM (bup (bM (bup (bup J h4) h1) G<|m1 aP) s3) s6<|m1 aQ) hW,hX,hY,hZ,i0,z,i1,i2,w_ i3 cg⟩
  have bH:=ifF bG aC;refine Ws<|Rq z z z<|Rw z<|Wc z (fun aD=>?_) (fun aD=>?_)
  ·refine Ws<|E z (f0 (α:=UInt8) S_) ?_
   rintro _ _ ⟨_,_,_,rfl,av,i4⟩;refine Rf z a_D z<|R z (l0 Q_ z<|(ht.e av).at z) ?_
   obtain ⟨_,i5,dZ⟩:=bdS<|ifT bH aD;have aR:=lt_ J.s h4.s;have aS:=lt_ (lt_ aR h1.s) G.s;refine E z (fN (α:=UInt8) S_ i5 z z i4 a_q<|a6.g<|((((h1.ag B).c G<|c_ (or0 (b_ lr) (i_<|zt' H aR):∀k∈[wa.z],¬B k)).e s3).c s6<|c_ (or0 (b_ lr) (i_<|zt' H aS):∀k∈[I.z],¬B k)).e av) ?_;rintro _ _ ⟨i6,i7,i8,i9,rfl,ia,ib,id,ie⟩;refine Rw z ?_
   obtain rfl:=som dZ;have ch:=lt_ (lt_ aS s3.s) s6.s;have cj:=m1 ch;exact Wr<|rtO<|f_ hr z ⟨bM (bup (bM (bup (bM (bup (bup J h4) h1) G<|m1 aR) s3) s6<|m1 aS) av) ia cj,i7,i8,i9,i6,z,ib,id,a_O ie cj<|lt_ ch av.s⟩
  have bI:=ifF bH aD;refine Ws<|Rq z z z<|Rw z<|Wc z (fun aE=>?_) (fun aE=>?_)
  ·refine Wq<|Wd (X:=noX) 16384 (.rd 0<|.rd 1<|.rd 2<|.rd 3<|.rd 4<|.rd 5<|.rd 6<|.rd 7<|.rd 8<|.rd 9<|.rd 10<|.rd 12<|.rd 13<|.ef 11<|.ef 14<|.rd 15 .done) mo (by kernel_rfl) fun j3 sy _=>dR z z (fd N_ z) ?_;refine dR z z (l0 R_ z<|(((((a5.e h1).c G<|djs<|mm1 ho.lt h4.s).e s3).c s6<|djs<|mm1 ho.lt<|lt_ (lt_ h4.s h1.s) G.s).e sy).at z)<|dR z z (fd K_ z)<|dR z z (l0 z_ z<|(ht.e sy).at z) ?_
   obtain ⟨_,ig,e0⟩:=bdS<|ifT bI aE;have aT:=lt_ J.s h4.s;have ck:∀k∈[wa.z],¬B k:=or0 (b_ lr)<|i_<|zt' H aT;have aU:=lt_ (lt_ aT h1.s) G.s;have cm:∀k∈[I.z],¬B k:=or0 (b_ lr)<|i_<|zt' H aU;refine dRX z z (at_ (α:=Int) q_ z_3 z z z (a7.g<|((((h1.ag B).c G<|c_ ck).e s3).c s6<|c_ cm).e sy) ig) ?_;rintro _ ⟨_,_,_,rfl,ih,ij,_⟩;obtain ⟨rfl,_⟩:=J_ ij;refine dR z z (l0 g_3 z<|ih.at0 z) ?_;obtain ⟨ik,il,e1⟩:=bdS e0;have aV:=((((hn.e h1).c G<|c_ ck).e s3).c s6<|c_ cm).e sy;refine dRX z z (at_ (α:=g_) P_ k_ z z z (a4.g aV) il) ?_;rintro _ ⟨_,_,_,rfl,im,ip,_⟩;obtain ⟨iq,ir,it,iu,iv,iw,ix,iy,iz,iA,iB,iC,rfl,iD,iE,iF,iG,iH,iI,iJ⟩:=a_j ip;refine dR z z (lN (vs:=vR ik iq ir it iu iv iw ix iy iz iA iB iC) I_ k_ z z fid im)<|dR z z (fd b_S z) ?_
   have cn:=((((h5.e h1).c G<|djs<|mmr h5.lt).e s3).c s6<|djs<|mm1 h5.lt<|lt_ h1.s G.s).e sy;refine dR z z (l0 Q_ z<|cn.at z) ?_;have co:=O.g aV;refine dR z z (lnR l_ z co)<|dR z z (fd b_S z)<|dR z z (l0 Q_ z<|cn.at z) ?_
   have aW:=lt_ (lt_ (lt_ aU s3.s) s6.s) sy.s;obtain ⟨_,iK,e2⟩:=bdS e1;refine dE z z (fc call66 z<|h_c iK (zt' H aW) iD iE iF iG iH iI iJ<|a_t<|repS.len co) (.inr fun _ _ h=>B_<|h.1) ?_;rintro _ _ ⟨aX,_,_,_,_,rfl,iL,iM,iN⟩;obtain ⟨_,iO,e3⟩:=bdS e2;refine dE z z (fN (α:=UInt8) S_ iO z z iL iM<|O.g<|aV.e aX) (.inl z) ?_;rintro _ _ ⟨iP,iQ,iR,iS,rfl,iT,iU,iV,iW⟩;refine dQ z z z<|pD<|Wo ?_
   obtain rfl:=som e3;have cp:=w_ iN aW;exact Wr<|rtO<|f_ hr z ⟨bM (bup (bup (bM (bup (bM (bup (bup J h4) h1) G<|m1 aT) s3) s6<|m1 aU) sy) aX) iT cp,iQ,iR,iS,iP,z,iU,iV,a_O iW cp<|lt_ aW aX.s⟩
  have bJ:=ifF bI aE;refine Ws<|Rq z z z<|Rw z<|Wc z (fun aF=>?_) (fun aF=>?_)
  ·refine Wq<|Wd (X:=noX) 8192 (.rd 0<|.rd 1<|.rd 2<|.rd 3<|.rd 4<|.rd 5<|.rd 6<|.rd 7<|.rd 8<|.rd 9<|.rd 10<|.rd 12<|.ef 11<|.ef 13<|.rd 14 .done) mo (by kernel_rfl) fun j4 su _=>dR z z (fd N_ z) ?_;refine dR z z (l0 R_ z<|(((((a5.e h1).c G<|djs<|mm1 ho.lt h4.s).e s3).c s6<|djs<|mm1 ho.lt<|lt_ (lt_ h4.s h1.s) G.s).e su).at z)<|dR z z (fd K_ z)<|dR z z (l0 z_ z<|(ht.e su).at z) ?_
   obtain ⟨_,iX,e4⟩:=bdS<|ifT bJ aF;have aY:=lt_ J.s h4.s;have cq:∀k∈[wa.z],¬B k:=or0 (b_ lr)<|i_<|zt' H aY;have aZ:=lt_ (lt_ aY h1.s) G.s;have ct:∀k∈[I.z],¬B k:=or0 (b_ lr)<|i_<|zt' H aZ;refine dRX z z (at_ (α:=Int) q_ z_3 z z z (a7.g<|((((h1.ag B).c G<|c_ cq).e s3).c s6<|c_ ct).e su) iX) ?_;rintro _ ⟨_,_,_,rfl,iY,iZ,_⟩;obtain ⟨rfl,_⟩:=J_ iZ;refine dR z z (l0 g_3 z<|iY.at0 z) ?_;obtain ⟨j0,j1,e5⟩:=bdS e4;have cu:=((((hn.e h1).c G<|c_ cq).e s3).c s6<|c_ ct).e su;refine dRX z z (at_ (α:=g_) P_ k_ z z z (a4.g cu) j1) ?_;rintro _ ⟨_,_,_,rfl,e6,e7,_⟩;obtain ⟨e8,e9,ea,eb,ec,ed,ee,eg,eh,ei,ej,ek,rfl,em,en,eo,ep,er,es,et⟩:=a_j e7;refine dR z z (lN (vs:=vR j0 e8 e9 ea eb ec ed ee eg eh ei ej ek) I_ k_ z z fid e6)<|dR z z (fd b_x z)<|dR z z (l0 d_c z<|(((((h5.e h1).c G<|djs<|mmr h5.lt).e s3).c s6<|djs<|mm1 h5.lt<|lt_ h1.s G.s).e su).at z) ?_
   have cv:=V.g cu;refine dR z z (lnR d_47 z cv)<|dM z z z ?_
   have b0:=lt_ (lt_ (lt_ aZ s3.s) s6.s) su.s;obtain ⟨_,eu,dh⟩:=bdS e5;refine dE z z (fc call66 z<|h_c eu (zt' H b0) em en eo ep er es et<|a_t<|repS.len cv) (.inr fun _ _ h=>B_<|h.1) ?_;rintro _ _ ⟨b3,_,_,_,_,rfl,ew,ex,ey⟩;obtain ⟨_,ez,di⟩:=bdS dh;refine dE z z (fN (α:=UInt8) S_ ez z z ew ex<|or_ ((hd.e su).e b3)<|a_.lt hd) (.inl z) ?_;rintro _ _ ⟨eA,eB,eC,eD,rfl,eE,eF,eG,eH⟩;refine dQ z z z<|pD<|Wo ?_
   obtain rfl:=som di;have cw:=w_ ey b0;exact Wr<|rtO<|f_ hr z ⟨bM (bup (bup (bM (bup (bM (bup (bup J h4) h1) G<|m1 aY) s3) s6<|m1 aZ) su) b3) eE cw,eB,eC,eD,eA,z,eF,eG,a_O eH cw<|lt_ b0 b3.s⟩
  have bK:=ifF bJ aF;refine Ws<|Rq z z z<|Rw z<|Wc z (fun aG=>?_) (fun aG=>?_)
  ·refine Wq<|Wd (X:=noX) 4096 (.rd 0<|.rd 1<|.rd 2<|.rd 3<|.rd 4<|.rd 5<|.rd 6<|.rd 7<|.rd 8<|.rd 9<|.rd 11<|.ef 10<|.ef 12<|.rd 13 .done) mo (by kernel_rfl) fun j5 sv _=>dR z z (fd N_ z) ?_;refine dR z z (l0 R_ z<|(((((a5.e h1).c G<|djs<|mm1 ho.lt h4.s).e s3).c s6<|djs<|mm1 ho.lt<|lt_ (lt_ h4.s h1.s) G.s).e sv).at z)<|dR z z (fd K_ z)<|dR z z (l0 z_ z<|(ht.e sv).at z) ?_
   obtain ⟨_,eI,dj⟩:=bdS<|ifT bK aG;have b4:=lt_ J.s h4.s;have cx:∀k∈[wa.z],¬B k:=or0 (b_ lr)<|i_<|zt' H b4;have b5:=lt_ (lt_ b4 h1.s) G.s;have cy:∀k∈[I.z],¬B k:=or0 (b_ lr)<|i_<|zt' H b5;refine dRX z z (at_ (α:=Int) q_ z_3 z z z (a7.g<|((((h1.ag B).c G<|c_ cx).e s3).c s6<|c_ cy).e sv) eI) ?_;rintro _ ⟨_,_,_,rfl,eJ,eK,_⟩;obtain ⟨rfl,_⟩:=J_ eK;refine dR z z (l0 g_3 z<|eJ.at0 z) ?_;obtain ⟨eL,eM,dk⟩:=bdS dj;refine dRX z z (at_ (α:=g_) P_ k_ z z z (a4.g<|((((hn.e h1).c G<|c_ cx).e s3).c s6<|c_ cy).e sv) eM) ?_;rintro _ ⟨_,_,_,rfl,eN,eO,_⟩;obtain ⟨eP,eQ,eR,eS,eT,eU,eV,eW,eX,eY,eZ,f1,rfl,f2,f3,f4,f5,f6,f7,f8⟩:=a_j eO;refine dR z z (lN (vs:=vR eL eP eQ eR eS eT eU eV eW eX eY eZ f1) I_ k_ z z fid eN)<|dR z z (fd e_k z)<|dR z z (l0 g_3 z<|(((((h5.e h1).c G<|djs<|mmr h5.lt).e s3).c s6<|djs<|mm1 h5.lt<|lt_ h1.s G.s).e sv).at z)<|dM z z z ?_
   have b6:=lt_ (lt_ (lt_ b5 s3.s) s6.s) sv.s;obtain ⟨_,f9,dl⟩:=bdS dk;refine dE z z (fc call66 z<|h_c f9 (zt' H b6) f2 f3 f4 f5 f6 f7 f8 aA) (.inr fun _ _ h=>B_<|h.1) ?_;rintro _ _ ⟨b7,_,_,_,_,rfl,fe,ff,fg⟩;obtain ⟨_,fh,dm⟩:=bdS dl;refine dE z z (fN (α:=UInt8) S_ fh z z fe ff<|or_ ((hd.e sv).e b7)<|a_.lt hd) (.inl z) ?_;rintro _ _ ⟨fi,fj,fk,fl,rfl,fm,fo,fp,fq⟩;refine dQ z z z<|pD<|Wo ?_
   obtain rfl:=som dm;have cz:=w_ fg b6;exact Wr<|rtO<|f_ hr z ⟨bM (bup (bup (bM (bup (bM (bup (bup J h4) h1) G<|m1 b4) s3) s6<|m1 b5) sv) b7) fm cz,fj,fk,fl,fi,z,fo,fp,a_O fq cz<|lt_ b6 b7.s⟩
  have bL:=ifF bK aG;refine Ws<|Rq z z z<|Rw z<|Wc z (fun aH=>?_) (fun aH=>?_)
  ·refine Ws<|Rf z b_x z<|R z (l0 d_c z<|((((h5.e h1).c G<|djs<|mmr h5.lt).e s3).c s6<|djs<|mm1 h5.lt<|lt_ h1.s G.s).at z) ?_
   have b8:=lt_ J.s h4.s;have b9:=lt_ (lt_ b8 h1.s) G.s;refine R z (lnR d_47 z<|V.g<|(((hn.e h1).c G<|c_ (or0 (b_ lr) (i_<|zt' H b8):∀k∈[wa.z],¬B k)).e s3).c s6<|c_ (or0 (b_ lr) (i_<|zt' H b9):∀k∈[I.z],¬B k))<|R z (c_B d_3 d_5 z)<|E z (fS [(.tmp 105)] S_ z z z (Y_ z) (lb z)<|lb z) ?_
   rintro _ fr ⟨rfl,ba⟩;have bb:=ba.below;have j6:Blk fr wb.z [(vU<|byteI<|mkB (x3.items.length:Int))]:=ba.blk;refine Rm z ?_;obtain ⟨_,fs,dn⟩:=bdS<|ifT bL aH;refine E z (fN (α:=UInt8) S_ fs z z (a_l ba a_E) a_q<|or_ (hd.e bb)<|a_.lt hd) ?_;rintro _ _ ⟨ft,fu,fv,fw,rfl,fx,fy,fz,fA⟩;refine Rw z ?_
   obtain rfl:=som dn;have cA:=lt_ (lt_ b9 s3.s) s6.s;have cB:=m1 cA;exact Wr<|rtO<|f_ hr z ⟨bM (bup (bM (bup (bM (bup (bup J h4) h1) G<|m1 b8) s3) s6<|m1 b9) bb) fx cB,fu,fv,fw,ft,z,fy,fz,a_O fA cB<|lt_ cA bb.s⟩
  have bN:=ifF bL aH;refine Ws<|Rq z z z<|Rw z<|Wc z (fun aI=>?_) (fun aI=>?_)
  ·refine Wm z<|Rm z ?_
   obtain ⟨fB,fC,dp⟩:=bdS<|ifT bN aI;refine E z (fc call67 z<|W_w13 (B:=wb.z) fC zr<|a_.rep hd) ?_;rintro _ fD ⟨bc,rfl,_⟩;refine R z (c_B d_3 d_5 z)<|E z (fS [(.tmp 114)] S_ z z z (Y_ z) (lb z)<|lb z) ?_
   rintro _ fE ⟨rfl,be⟩;have bf:=be.below;have j7:=a_l be a_E;obtain ⟨_,fF,dq⟩:=bdS dp;refine E z (a_H (α:=UInt8) S_ fF z z ((hd.e bc).e bf) hw (be.blk:Blk fE fD.z [(vU<|byteI<|mkB fB)]) a_E an_ H_) ?_;rintro _ _ ⟨cC,fG,fH,fI,rfl,fJ,fK,fL,fM⟩;refine Rw z ?_
   obtain rfl:=som dq;have cD:=lt_ J.s h4.s;have cE:=lt_ (lt_ cD h1.s) G.s;have cF:=m1 cE;have cG:=lt_ cE s3.s;have cH:=a_O he cF cG;exact Wr<|rtO<|f_ hr z ⟨bM (bup (bup (bM (bup (bM (bup (bup J h4) h1) G<|m1 cD) s3) s6 cF) bc) bf) fJ cH,fG,fH,fI,cC,z,fK,fL,(or2 fM cH an_ (a_R<|lt_ (lt_ (lt_ cG s6.s) bc.s) bf.s):∀k∈cC,w0.z<=k)⟩
  have bO:=ifF bN aI;refine Ws<|Rq z z z<|Rw z<|Wc z (fun aJ=>?_) (fun aJ=>?_)
  ·refine Wq<|Ws<|Rw z ?_
   obtain ⟨_,dr,bP⟩:=bdS<|ifT bO aJ;refine Wf (σ:=List UInt8) (ρ:=List UInt8) (fun (aw:Nat)(xr:List UInt8) a w=>∃aj nk cl L,Sat 169 [(5,pt wm.z),(7,pt wa.z),(8,sl aj nk cl),(10,vI ((aw:Nat):Int))] a/\Chg (· ∈ S2) wb w/\a_ w L (sl aj nk cl) xr/\L.Nodup/\(∀k∈L,k∈S2∨wb.z<=k)) (fun (xr:List UInt8) a w=>∃aj nk cl L,Sat 169 [(7,pt wa.z),(8,sl aj nk cl)] a/\Chg (· ∈ S2) wb w/\a_ w L (sl aj nk cl) xr/\L.Nodup/\(∀k∈L,k∈S2∨wb.z<=k)) (rQ prog fn<|Q11 w0 B) dr ?_ ?_ ?_ ?_ ?_
   ·exact fun _ q=>⟨ah,ng,ci,S2,q.k<|s4 z z z z,cr S2 wb,hd,hw,io sr⟩
   ·rintro aw xr _ bg _ bQ ⟨aj,nk,cl,L,ds,Y,a0,a1,hz⟩ dt;refine Wu ?_ ds;refine Wq<|Wm z<|Rf z b_S z ?_
    have cI:=lt_ h1.s G.s;have cJ:=mm1 h5.lt cI;have cK:=lt_ cI s3.s;have cL:∀k∈S2,k∉[wm.z]:=or1 he cJ<|W_ (b_ h5.lt) cK;have bh:=((((h5.e h1).c G<|djs<|mmr h5.lt).e s3).c s6<|djs cJ).c Y<|djs cL
    refine R z (l0 Q_ z<|bh.at z) ?_;have cN:=lt_ J.s h4.s;have cO:∀k∈[wa.z],¬B k:=or0 (b_ lr)<|i_<|zt' H cN;have cP:=lt_ (lt_ cN h1.s) G.s;have bi:∀k∈[I.z],¬B k:=or0 (b_ lr)<|i_<|zt' H cP;have cQ:=lt_ cP s3.s;have bj:∀k∈S2,¬B k:=or1 he bi<|i_<|zt' H cQ;have bk:=((((hn.e h1).c G<|c_ cO).e s3).c s6<|c_ bi).c Y<|c_ bj
    refine R z (lnR l_ z<|O.g bk)<|Rl z z z<|Wx z (fun _=>?_) (fun hc=>(a_4 bQ hc).elim)
    refine Wk<|Wq<|Wb<|Wq<|Wq ?_
    obtain ⟨fO,du,dv⟩:=bdS dt;refine Wt (fun a w=>∃(bm:Bool),bm=fO/\Sat 169 [(5,pt wm.z),(7,pt wa.z),(8,sl aj nk cl),(10,vI ((aw:Nat):Int)),(143,vB bm)] a/\Below bg.z bg w) ?_ ?_
    ·refine Wd (X:=noX) 0 (pl_ 18 []) mo (by kernel_rfl) fun j8 a2 _=>dR z z (fd b_S z) ?_
     have cR:=bh.e a2;refine dR z z (l0 Q_ z<|cR.at z)<|dM z z z ?_
     obtain ⟨fP,fQ,dw⟩:=bdS du;have cS:=O.g<|bk.e a2
     refine dRX z z (at_ (α:=UInt8) l_ z_5 z z z cS fQ) ?_;rintro _ ⟨_,_,_,rfl,fR,fT,_⟩;obtain rfl:=u8 fT;refine dR z z (l0 g_5 z<|fR.at0 z)<|dR z z (fd a_D z) ?_
     refine dR z z (l0 Q_ z<|((ht.c Y<|djs (or1 he aO (W_ (b_ a8.lt)<|lt_ G.s s3.s):∀k∈S2,k∉[wa.z])).e a2).at z) ?_;obtain ⟨fU,fV,bR⟩:=bdS dw;refine dRX z z (at_ (α:=UInt8) l_ z_5 z z z (a6.g<|(((((h1.ag B).c G<|c_ cO).e s3).c s6<|c_ bi).c Y<|c_ bj).e a2) fV) ?_;rintro _ ⟨_,_,_,rfl,fW,fX,_⟩;obtain rfl:=u8 fX;refine dR z z (l0 g_5 z<|fW.at0 z)<|dR z z (eql z z)<|dM z z z ?_
     rcases bs ((byteI fP)==(byteI fU)) with hcf | hcf
     ·iterate 6 refine dRn z z z hcf z ?_
      exact dR z z (pT z hcf z)<|pD (fun _ q=>⟨true,som<|ifT bR hcf,q.k<|s5 z z z z z,a2⟩)
     refine dRg z z z hcf z (fd b_S z)<|dRg z z z hcf z (l0 Q_ z<|cR.at z)<|dRg z z z hcf z (mv z) ?_
     obtain ⟨fY,fZ,dx⟩:=bdS<|ifF bR hcf;refine b_W z z z hcf z (at_ (α:=UInt8) l_ z_5 z z z cS fZ) ?_;rintro _ ⟨_,_,_,rfl,g0,g1,_⟩;obtain rfl:=u8 g1;exact dRg z z z hcf z (l0 g_5 z<|g0.at0 z)<|dRg z z z hcf z (eql z z)<|dR z z (pF z hcf z)<|pD (fun _ q=>⟨(byteI fY)==(byteI (92:UInt8)),som dx,q.k<|s5 z z z z z,a2⟩)
    rintro g2 wq ⟨bm,rfl,_,a3⟩;revert g2;refine Wo ?_;obtain ⟨g3,bS,dy⟩:=bdS dv;refine Wt (fun a w=>∃(bn:List UInt8),bn=g3/\∃bo bp bq a9,Sat 169 [(5,pt wm.z),(7,pt wa.z),(8,sl bo bp bq),(10,vI ((aw:Nat):Int))] a/\Chg (· ∈ L) wq w/\a_ w a9 (sl bo bp bq) bn/\a9.Nodup/\(∀k∈a9,k∈L∨wq.z<=k)) ?_ ?_
    ·refine Wc z (fun aK=>?_)<|fun aK=>?_
     ·refine Wg<|Rm z<|E z (fS [(.const<|.int .u8 92)] S_ z z z (Y_ z) (lb z)<|lb z) ?_
      rintro _ cT ⟨rfl,br⟩;have bt:=br.below;have j9:=a_l br<|g_f (x:=(92:UInt8)) z
      obtain ⟨g4,g5,dz⟩:=bdS<|ifT bS aK;refine E z (a_H (α:=UInt8) S_ g5 z z ((a0.e a3).e bt) a1 (br.blk:Blk cT wq.z [(vU<|byteI (92:UInt8))]) (g_f (x:=(92:UInt8)) z) an_ H_) ?_;rintro _ g6 ⟨cU,g7,g8,g9,rfl,ga,gb,gc,ge⟩;refine Ra z<|Wl ?_
      exact fun _ q=>⟨g4,som dz,g7,g8,g9,cU,q.k<|s4 z z z z,(cM (e_ (cr L wq) bt:Chg (· ∈ L) wq cT) ga (io sr):Chg (· ∈ L) wq g6),gb,gc,(or2 ge (io sr) an_ (x_ bt.s):∀k∈cU,k∈L∨wq.z<=k)⟩
     exact M_<|fun _ q=>⟨xr,som<|ifF bS aK,aj,nk,cl,L,q.k<|s4 z z z z,cr L wq,a0.e a3,a1,io sr⟩
    rintro gf cV ⟨bn,rfl,bo,bp,bq,a9,_,ax,gg,gh,gi⟩;revert gf;refine Wo<|Wg<|Rm z<|Rf z b_S z ?_
    refine R z (l0 Q_ z<|((bh.e a3).c ax<|djs (or1 hz cL (W_ (b_ h5.lt)<|lt_ cK s6.s):∀k∈L,k∉[wm.z])).at z)<|Rm z ?_
    obtain ⟨gj,gk,dA⟩:=bdS dy;refine RX z (at_ (α:=UInt8) l_ z_5 z z z (O.g<|(bk.e a3).c ax<|c_ (or1 hz bj (i_<|zt' H<|lt_ cQ s6.s):∀k∈L,¬B k)) gk) ?_;rintro _ ⟨_,_,_,rfl,gl,gm,_⟩;obtain rfl:=u8 gm;refine R z (l0 g_5 z<|gl.at0 z)<|E z (fS [(.tmp 152)] S_ z z z (Y_ z) (lb z)<|lb z) ?_
    rintro _ cW ⟨rfl,bu⟩;have bv:=bu.below;have ja:=a_l bu a_E;obtain ⟨gn,gp,dB⟩:=bdS dA;refine E z (a_H (α:=UInt8) S_ gp z z (gg.e bv) gh (bu.blk:Blk cW cV.z [vU (byteI gj)]) a_E an_ H_) ?_;rintro _ gq ⟨cX,gr,gs,gt,rfl,gu,gv,gw,gx⟩;refine Rw z<|Wg<|Rm z<|R z (inc_ bQ (lt_ (repS.len O) L_) z z)<|Ra z<|Wl ?_
    have cY:=lt_ Y.s a3.s;have cZ:∀k∈L,k∈S2∨wb.z<=k:=or1 hz (io sr)<|x_ lr;have d0:∀k∈a9,k∈S2∨wb.z<=k:=or1 gi cZ<|x_ cY;exact fun _ q=>⟨gn,(som dB).symm,⟨gr,gs,gt,cX,q.k<|s4 z z z z,(cM (e_ (cM (e_ (cM (cr S2 wb) Y (io sr):Chg (· ∈ S2) wb bg) a3:Chg (· ∈ S2) wb wq) ax cZ:Chg (· ∈ S2) wb cV) bv:Chg (· ∈ S2) wb cW) gu d0:Chg (· ∈ S2) wb gq),gv,gw,(or2 gx d0 an_ (x_<|lt_ (lt_ cY ax.s) bv.s):∀k∈cX,k∈S2∨wb.z<=k)⟩⟩
   ·rintro xr _ gy ⟨aj,nk,cl,L,dC,bw,a0,a1,hz⟩;refine Wu ?_ dC;refine Wq<|Wm z<|Rf z b_S z ?_
    have d1:=lt_ h1.s G.s;have d2:=mm1 h5.lt d1;refine R z (l0 Q_ z<|(((((h5.e h1).c G<|djs<|mmr h5.lt).e s3).c s6<|djs d2).c bw<|djs (or1 he d2 (W_ (b_ h5.lt)<|lt_ d1 s3.s):∀k∈S2,k∉[wm.z])).at z) ?_;have d3:=lt_ J.s h4.s;have d4:=lt_ (lt_ d3 h1.s) G.s;have d5:∀k∈[I.z],¬B k:=or0 (b_ lr)<|i_<|zt' H d4;refine R z (lnR l_ z<|O.g<|((((hn.e h1).c G<|c_ (or0 (b_ lr) (i_<|zt' H d3):∀k∈[wa.z],¬B k)).e s3).c s6<|c_ d5).c bw<|c_ (or1 he d5 (i_<|zt' H<|lt_ d4 s3.s):∀k∈S2,¬B k))<|Rl z z z<|Wx z (fun hc=>(a_5 hc).elim) (fun _=>?_)
    exact We<|fun _ q=>⟨rfl,⟨aj,nk,cl,L,q.k<|s2 z z,(cM (cr S2 wb) bw (io sr):Chg (· ∈ S2) wb gy),a0,a1,(or1 hz (io sr) (x_ lr):∀k∈L,k∈S2∨wb.z<=k)⟩⟩
   ·rintro xr gz gA rfl ⟨aj,nk,cl,L,_,ay,a0,a1,hz⟩;have dD:=elL bP;revert gz;refine Wo<|Wm z<|Rf z a_D z ?_
    refine R z (l0 Q_ z<|(ht.c ay<|djs (or1 he aO (W_ (b_ a8.lt)<|lt_ G.s s3.s):∀k∈S2,k∉[wa.z])).at z) ?_;obtain ⟨gB,gC,dF⟩:=bdS dD;have bx:=lt_ J.s h4.s;have bz:=lt_ (lt_ bx h1.s) G.s;have d6:∀k∈[I.z],¬B k:=or0 (b_ lr)<|i_<|zt' H bz;have bA:=lt_ bz s3.s;refine RX z (at_ (α:=UInt8) l_ z_5 z z z (a6.g<|((((h1.ag B).c G<|c_ (or0 (b_ lr) (i_<|zt' H bx):∀k∈[wa.z],¬B k)).e s3).c s6<|c_ d6).c ay<|c_ (or1 he d6 (i_<|zt' H bA):∀k∈S2,¬B k)) gC) ?_;rintro _ ⟨_,_,_,rfl,gD,gE,_⟩;obtain rfl:=u8 gE;refine R z (l0 g_5 z<|gD.at0 z)<|E z (fS [(.tmp 159)] S_ z z z (Y_ z) (lb z)<|lb z) ?_
    rintro _ gF ⟨rfl,bB⟩;have bC:=bB.below;have jb:=a_l bB a_E;obtain ⟨_,gG,dG⟩:=bdS dF;refine E z (a_H (α:=UInt8) S_ gG z z (a0.e bC) a1 (bB.blk:Blk gF gA.z [vU (byteI gB)]) a_E an_ H_) ?_;rintro _ _ ⟨d7,gH,gI,gJ,rfl,gK,gL,gM,gN⟩;refine Rw z ?_
    obtain rfl:=som dG;have d8:=m1 bz;have d9:=a_O he d8 bA;have da:=lt_ bA s6.s;have db:=a_O hz d9 da;exact Wr<|rtO<|f_ hr z ⟨bM (bup (bM (bM (bup (bM (bup (bup J h4) h1) G<|m1 bx) s3) s6 d8) ay d9) bC) gK db,gH,gI,gJ,d7,z,gL,gM,(or2 gN db an_ (a_R<|lt_ (lt_ da ay.s) bC.s):∀k∈d7,w0.z<=k)⟩
   rintro _ _ _ _ rfl ⟨rfl,dH⟩;have dI:=elR bP;obtain rfl:=som dI;exact ⟨dH,z⟩
  have bT:=ifF bO aJ;refine Ws<|Rq z z z<|Rw z<|Wc z (fun aL=>?_) (fun aL=>?_)
  ·refine Ws<|E z (f0 (α:=UInt8) S_) ?_
   rintro _ _ ⟨_,_,_,rfl,az,gO⟩;refine Rf z b_S z<|R z (l0 Q_ z<|(((((h5.e h1).c G<|djs<|mmr h5.lt).e s3).c s6<|djs<|mm1 h5.lt<|lt_ h1.s G.s).e az).at z) ?_
   obtain ⟨_,gP,dJ⟩:=bdS<|ifT bT aL;have bD:=lt_ J.s h4.s;have bE:=lt_ (lt_ bD h1.s) G.s;refine E z (fN (α:=UInt8) S_ gP z z gO a_q<|O.g<|((((hn.e h1).c G<|c_ (or0 (b_ lr) (i_<|zt' H bD):∀k∈[wa.z],¬B k)).e s3).c s6<|c_ (or0 (b_ lr) (i_<|zt' H bE):∀k∈[I.z],¬B k)).e az) ?_;rintro _ _ ⟨gQ,gR,gS,gT,rfl,gU,gV,gW,gX⟩;refine Rw z ?_
   obtain rfl:=som dJ;have dc:=lt_ (lt_ bE s3.s) s6.s;have dd:=m1 dc;exact Wr<|rtO<|f_ hr z ⟨bM (bup (bM (bup (bM (bup (bup J h4) h1) G<|m1 bD) s3) s6<|m1 bE) az) gU dd,gR,gS,gT,gQ,z,gV,gW,a_O gX dd<|lt_ dc az.s⟩
  refine Wk<|Wm z<|Rw z ?_
  obtain rfl:=som<|ifF bT aL;have de:=lt_ J.s h4.s;have df:=lt_ (lt_ de h1.s) G.s;have dg:=m1 df;exact Wr<|f_ hr z ⟨bM (bup (bM (bup (bup J h4) h1) G<|m1 de) s3) s6 dg,ah,ng,ci,S2,z,hd,hw,a_O he dg<|lt_ df s3.s⟩
 rintro _ _ _ _ rfl ⟨rfl,dK⟩;have dL:=elR bF;obtain rfl:=som dL;exact ⟨dK,z⟩
theorem A_w0b:∀n,k_E n
  | 0=>⟨fun hm=>by intros;exact nomatch (show none=some _ from hm)⟩
  | n+1=>T_w0b<|A_w0b n
theorem W_w0b:i_A (c_V n).spec_l11Print:=A_w0b n
theorem W_w1n {x1:n_}{g1:Nat}{x2:List UInt8}{res:(List UInt8)×Int×Int}(hm:e_M x1 x2=some res)(hB1:Blk w0 g1 [sl A0 N0 C0,vI x1.i,vI x1.h])(I:B<=w0.z)(hBg:¬B g1)(W:repS w0 B (sl A0 N0 C0) x1.b)(aO:inI x1.i)(aP:inI x1.h)(aQ:repS w0 B (sl A6 N6 C6) x2):j_ prog 42 [pt g1,sl A6 N6 C6] w0 (Q6 w0 g1 B A0 N0 C0 x1 res):=by
 unfold e_M at hm
 refine goG func42 z z z fun fn hr=>Ws<|Rw z<|Ws<|E z (f0 (α:=UInt8) S_) ?_
 rintro _ b6 ⟨_,_,_,rfl,s2,b7⟩;refine Rm z ?_;obtain ⟨ar,b8,aR⟩:=bdS hm;refine E z (fN (α:=UInt8) S_ b8 z z b7 a_q<|aQ.e s2) ?_;rintro _ b9 ⟨G,aa,ns,cb,rfl,st,h4,hc,h5⟩;refine Rw z<|Wq<|Wm z ?_
 have hu:=(s2.ag B).c st<|c_ (or0 (b_ lr) (i_ I):∀k∈[w0.z],¬B k)
 have hd:=mmr<|Blk.lt hB1
 have he:=lt_ s2.s st.s;obtain ⟨_,au,av,ba,aS⟩:=u_ aR;refine E z (fc call43 z<|a_A (B:=B) ba ((hB1.e s2).c st<|djs hd) (zt' I he) hBg (W.g hu) aO aP<|ii z) ?_;rintro _ H ⟨s3,rfl,_,hf,hg,hh⟩;refine Wn<|Wb<|Ws<|Rq z z z<|Rw z ?_
 obtain ⟨bb,an,aT⟩:=bdS aS;refine Wt (fun a w=>∃(ah:List UInt8)(xv:Int)(xw:Int),(ah,xv,xw)=bb/\∃ax ny cz Si,Sat 44 [(5,sl ax ny cz)] a/\Chg (· ∈ ([g1]++G)) H w/\a_ w Si (sl ax ny cz) ah/\Si.Nodup/\(∀k∈Si,k∈G∨H.z<=k)/\inI xv/\inI xw/\Blk w g1 [sl A0 N0 C0,vI xv,vI xw]) ?_ ?_
 ·refine Wc z (fun ab=>?_)<|fun ab=>?_
  ·refine Wm z ?_
   have ai:∀k∈G,w0.z<=k:=or1 h5 (b_ lr)<|a_R s2.s;have Y:∀k∈G,k∉[g1]:=or1 h5 hd<|W_ (b_<|Blk.lt hB1) s2.s;have hj:=h4.c s3 Y;refine R z (lnR l_ z<|or_ hj<|zin (B:=B) ai<|a_.lt h4)<|R z (a_d z z)<|Wn ?_
   obtain ⟨bc,ao,aU⟩:=bdS<|ifT an ab;refine Wt (fun a w=>∃(a0:List UInt8)(xk:Int)(xl:Int),(a0,xk,xl)=bc/\∃(J:List Nat),Sat 44 [(5,sl aa ns cb)] a/\Chg (· ∈ ([g1]++G)) H w/\a_ w J (sl aa ns cb) a0/\J.Nodup/\(∀k∈J,k∈G∨H.z<=k)/\inI xk/\inI xl/\Blk w g1 [sl A0 N0 C0,vI xk,vI xl]) ?_ ?_
   ·refine Wc z (fun ad=>?_)<|fun ad=>?_
    ·refine Wg<|RM z z<|Rm z<|R z (lnR l_ z<|or_ hj<|zin (B:=B) ai<|a_.lt h4) ?_
     have aw:=hu.c s3<|c_<|b_ hBg
     have ay:=lt_ he s3.s;obtain ⟨_,_,_,be,aV⟩:=u_<|ifT ao ad;refine E z (fc call43 z<|a_A (B:=B) be hh (zt' I ay) hBg (W.g aw) hf hg<|a_t<|repS.len<|or_ hj<|zin (B:=B) ai<|a_.lt h4) ?_;rintro _ bf ⟨sm,rfl,_,bg,bh,bi⟩;refine Rm z ?_;obtain ⟨_,bj,bk,bm,aW⟩:=u_ aV;refine E z (fc call43 z<|a_A (B:=B) bm bi (zt' I<|lt_ ay sm.s) hBg (W.g<|aw.c sm<|c_<|b_ hBg) bg bh<|ii z) ?_;rintro _ bn ⟨aj,rfl,_,bo,bp,bq⟩;refine R z (c_B d_3 d_5 z) ?_;obtain ⟨br,az,aX⟩:=bdS aW;have aA:=(hj.c sm Y).c aj Y;refine RX z (h_O (α:=UInt8) l_ z_5 z z aA az) ?_;rintro _ ⟨_,bs,rfl⟩;refine E0 (g_p (α:=UInt8) z_5 z bs z z z az aA hc a_E an_ H_) ?_;rintro _ bt ⟨aB,aC,bu,bv,bw⟩;refine Wl ?_;exact fun _ q=>⟨br,bj,bk,som aX,aB,q.k<|s1 z,(cM (cM (cM (cr ([g1]++G) H) sm (io<|r_ sr):Chg (· ∈ ([g1]++G)) H bf) aj (io<|r_ sr):Chg (· ∈ ([g1]++G)) H bn) aC (io<|v_ sr):Chg (· ∈ ([g1]++G)) H bt),bu,bv,(or2 bw (io sr) an_ (x_<|lt_ sm.s aj.s):∀k∈aB,k∈G∨H.z<=k),bo,bp,bq.c aC<|djs Y⟩
    exact M_<|fun _ q=>⟨ar,au,av,som<|ifF ao ad,G,q.k<|s1 z,cr ([g1]++G) H,hj,hc,io sr,hf,hg,hh⟩
   rintro bx bz ⟨a0,xk,xl,rfl,J,_,bA,bB,bC,bD,bE,bF,bG⟩;revert bx;exact fun _ q=>⟨a0,xk,xl,som<|a_Q aU,aa,ns,cb,J,q.k<|s1 z,(cM (cr ([g1]++G) H) bA (aa_ (io<|r_ sr)<|io<|v_ sr):Chg (· ∈ ([g1]++G)) H bz),bB,bC,(or1 bD (io sr) (x_ lr):∀k∈J,k∈G∨H.z<=k),bE,bF,bG⟩
  refine Ws<|Rq z z z<|Rw z ?_
  obtain ⟨bH,ap,aY⟩:=bdS<|ifF an ab;refine Wt (fun a w=>∃(a1:List UInt8)(xn:Int)(xo:Int),(a1,xn,xo)=bH/\∃a2 a3 a4 L,Sat 44 [(5,sl a2 a3 a4)] a/\Chg (· ∈ ([g1]++G)) H w/\a_ w L (sl a2 a3 a4) a1/\L.Nodup/\(∀k∈L,k∈G∨H.z<=k)/\inI xn/\inI xo/\Blk w g1 [sl A0 N0 C0,vI xn,vI xo]) ?_ ?_
  ·refine Wc z (fun ae=>?_)<|fun ae=>?_
   ·refine Wg<|RM z z<|Rm z ?_
    have aD:∀k∈G,k∉[g1]:=or1 h5 hd<|W_ (b_<|Blk.lt hB1) s2.s;have aE:=h4.c s3 aD;refine R z (lnR l_ z<|or_ aE<|zin (B:=B) (or1 h5 (b_ lr) (a_R s2.s):∀k∈G,w0.z<=k)<|a_.lt h4)<|R z (add_ z z) ?_
    obtain ⟨_,bI,bJ,bK,aZ⟩:=u_<|ifT ap ae;refine E z (fc call43 z<|a_A (B:=B) bK hh (zt' I<|lt_ he s3.s) hBg (W.g<|hu.c s3<|c_<|b_ hBg) hf hg<|iA _ _) ?_;rintro _ bL ⟨aF,rfl,_,bM,bN,bO⟩;obtain ⟨bP,bQ,b0⟩:=bdS aZ;refine RX z (o_d l_ z_5 z (aE.c aF aD) z bQ) ?_;rintro _ ⟨bR,rfl,bS⟩;refine Ra z<|Wl ?_
    exact fun _ q=>⟨bP,bI,bJ,som b0,aa,bR,cb,G,q.k<|s1 z,(cM (cr ([g1]++G) H) aF (io<|r_ sr):Chg (· ∈ ([g1]++G)) H bL),bS,hc,io sr,bM,bN,bO⟩
   refine Ws<|Rq z z z<|Rw z ?_
   obtain ⟨bT,aq,b3⟩:=bdS<|ifF ap ae;refine Wt (fun a w=>∃(a5:List UInt8)(xp:Int)(xq:Int),(a5,xp,xq)=bT/\∃a6 a7 a8 O,Sat 44 [(5,sl a6 a7 a8)] a/\Chg (· ∈ ([g1]++G)) H w/\a_ w O (sl a6 a7 a8) a5/\O.Nodup/\(∀k∈O,k∈G∨H.z<=k)/\inI xp/\inI xq/\Blk w g1 [sl A0 N0 C0,vI xp,vI xq]) ?_ ?_
   ·refine Wc z (fun af=>?_)<|fun af=>?_
    ·refine Wg<|RM z z<|E z (fS [(.const<|.int .i64 0),.const<|.int .i64 1,.const<|.int .i64 128,(.const<|.int .i64 255)] b_0 z z z (Y_ z) (lb z)<|lb z) ?_
     rintro _ wr ⟨rfl,aG⟩;have V:=aG.below;have aH:a_ wr [H.z] (sl (some ⟨H.z,0,none⟩) 4 4) ([0,1,128,255]:List Int):=g_t (l:=[0,1,128,255]) (aG.blk:Blk wr H.z [vI 0,vI 1,vI 128,vI 255]) (ac0 (ii z)<|ac0 (ii z)<|ac0 (ii z)<|ac0 (ii z) an0) z;have aI:=lt_ he s3.s;obtain ⟨bU,bV,bW,bX,b4⟩:=u_<|ifT aq af;refine E z (fc call70 z<|h_b (B:=zn B H.z wr.z) bX (hh.e V) (b_D (zt' I<|lt_ aI V.s) lr) (atp ((c_g (b_ hBg) (b_<|Blk.lt hB1) aI):∀k∈[g1],¬(zn B H.z wr.z) k)) (repS.mono (W.g<|(hu.c s3<|c_<|b_ hBg).e V) a_W) hf hg<|or_ aH<|zin (B:=B) (b_ lr)<|a_.lt aH) ?_;rintro _ aJ ⟨ak,rfl,_,bY,bZ,c0⟩;refine R z (c_B d_3 d_5 z)<|E z (fS [(.tmp 40)] S_ z z z (Y_ z) (lb z)<|lb z) ?_
     rintro _ aK ⟨rfl,al⟩;have a9:=al.below;have cF:=a_l al a_E;have am:∀k∈G,k∉[g1]:=or1 h5 hd<|W_ (b_<|Blk.lt hB1) s2.s;obtain ⟨c1,c2,b5⟩:=bdS b4;refine E z (a_H (α:=UInt8) S_ c2 z z ((((h4.c s3 am).e V).c ak am).e a9) hc (al.blk:Blk aK aJ.z [(vU<|byteI<|mkB bU)]) a_E an_ H_) ?_;rintro _ c3 ⟨aL,c4,c5,c6,rfl,aM,c7,c8,c9⟩;refine Ra z<|Wl ?_
     exact fun _ q=>⟨c1,bV,bW,som b5,c4,c5,c6,aL,q.k<|s1 z,(cM (e_ (cM (e_ (cr ([g1]++G) H) V:Chg (· ∈ ([g1]++G)) H wr) ak (io<|r_ sr):Chg (· ∈ ([g1]++G)) H aJ) a9:Chg (· ∈ ([g1]++G)) H aK) aM (io<|v_ sr):Chg (· ∈ ([g1]++G)) H c3),c7,c8,(or2 c9 (io sr) an_ (x_<|lt_ (lt_ V.s ak.s) a9.s):∀k∈aL,k∈G∨H.z<=k),bY,bZ,(c0.e a9).c aM<|djs am⟩
    refine M_ ?_;exact fun _ q=>⟨ar,au,av,som<|ifF aq af,aa,ns,cb,G,q.k<|s1 z,cr ([g1]++G) H,h4.c s3 (or1 h5 hd (W_ (b_<|Blk.lt hB1) s2.s):∀k∈G,k∉[g1]),hc,io sr,hf,hg,hh⟩
   rintro ca cc ⟨a5,xp,xq,rfl,a6,a7,a8,O,_,cd,ce,cf,cg,ch,ci,cj⟩;revert ca;exact fun _ q=>⟨a5,xp,xq,som<|a_Q b3,a6,a7,a8,O,q.k<|s1 z,(cM (cr ([g1]++G) H) cd (aa_ (io<|r_ sr)<|io<|v_ sr):Chg (· ∈ ([g1]++G)) H cc),ce,cf,(or1 cg (io sr) (x_ lr):∀k∈O,k∈G∨H.z<=k),ch,ci,cj⟩
  rintro ck cl ⟨a1,xn,xo,rfl,a2,a3,a4,L,_,cm,cn,co,cp,cq,ct,cu⟩;revert ck;exact fun _ q=>⟨a1,xn,xo,som<|a_Q aY,a2,a3,a4,L,q.k<|s1 z,(cM (cr ([g1]++G) H) cm (aa_ (io<|r_ sr)<|io<|v_ sr):Chg (· ∈ ([g1]++G)) H cl),cn,co,(or1 cp (io sr) (x_ lr):∀k∈L,k∈G∨H.z<=k),cq,ct,cu⟩
 rintro cv cw ⟨ah,xv,xw,rfl,ax,ny,cz,Si,_,cx,cy,cA,cB,cC,cD,cE⟩;revert cv;refine Wo<|Wm z<|Rw z ?_
 obtain rfl:=som<|a_Q aT;have aN:∀k∈[w0.z],k∈[g1]∨w0.z<=k:=mor lr;exact Wr<|f_ hr z ⟨(cM (cM (cM (e_ (cr [g1] w0) s2:Chg (· ∈ [g1]) w0 b6) st aN:Chg (· ∈ [g1]) w0 b9) s3 (io sr):Chg (· ∈ [g1]) w0 H) cx (aa_ (io sr) (or1 h5 aN (x_ s2.s):∀k∈G,k∈[g1]∨w0.z<=k)):Chg (· ∈ [g1]) w0 cw),ax,ny,cz,Si,z,cy,cC,cD,cE,cA,a_O cB (or1 h5 (b_ lr) (a_R s2.s):∀k∈G,w0.z<=k)<|lt_ he s3.s⟩
def Q12 (w0:World)(g1:Nat)(B:Zone)(A0:Option Addr)(N0 C0:Nat)(x1:n_)(r:d_×(List UInt8)×Int×Int)(v:Value)(w':World):Prop:=Chg (· ∈ [g1]) w0 w'/\un4 (fun Y r2 G H=>∃I J L S1 O V W S2,v = .tuple #[(.agg #[.slice I J L]),sl O V W]/\a_ w' S1 (sl I J L) Y.rules/\a_ w' S2 (sl O V W) r2/\inI G/\inI H/\Blk w' g1 [sl A0 N0 C0,vI G,vI H]/\(S1++S2).Nodup/\(∀k∈(S1++S2),w0.z<=k)) r
theorem W_w1o {x1:n_}{g1:Nat}{res:d_×(List UInt8)×Int×Int}(hm:f_1 n x1=some res)(hB1:Blk w0 g1 [sl A0 N0 C0,vI x1.i,vI x1.h])(L:B<=w0.z)(hBg:¬B g1)(O:repS w0 B (sl A0 N0 C0) x1.b)(bA:inI x1.i)(bB:inI x1.h):j_ prog 17 [pt g1] w0 (Q12 w0 g1 B A0 N0 C0 x1 res):=by
 unfold f_1 at hm
 refine goG func17 z z z fun fn hr=>Ws<|E z (fa e_m) ?_
 rintro _ ww ⟨rfl,aS⟩;have hc:=aS.below;have ho:Blk ww w0.z [sl none 0 0]:=aS.blk;refine Rw z<|Wm z ?_
 obtain ⟨_,_,_,bS,bC⟩:=u_ hm;refine E z (fc call38 z<|W_w1l (B:=B) bS (hB1.e hc) (zt' L hc.s) hBg (O.e hc) bA bB) ?_;rintro _ I ⟨sm,ap,nq,cs,bT,rfl,hd,bU,bV,bW,bX,hi⟩;refine E z (fa e_m) ?_;rintro _ aT ⟨rfl,aU⟩;have hf:=aU.below;have hj:Blk aT I.z [sl none 0 0]:=aU.blk;refine E0 (fs0 (cur':=[sl ap nq cs]) p_ z z hj z z z z) ?_;rintro _ aV ⟨bY,bZ⟩;have h4:=bZ.one;refine Wn<|Wq (Wd (X:=fun k=>k∈[g1]∨aV.z<=k) 0 (pl_ 14 [11,12]) mo (by kernel_rfl) fun aW sa _=>?_)
 have hx:=bY.e sa;have a1:=lt_ hc.s sm.s;have hb:=mm1 (Blk.lt hB1) a1;refine dR z z (lN (vs:=[sl ap nq cs]) s_ p_ z z (a_p (atp hb)<|Nat.lt_of_lt_of_le hj.lt h4.s)<|hx.row 0 1 z)<|dR z z (fd N_ z)<|dR z z (l1 R_ z (a_p (atp hb)<|Nat.lt_of_lt_of_le hj.lt h4.s)<|hx.at z) ?_
 have a2:=((hd.e hf).c h4<|ds<|mnr<|a_.lt hd).e sa;refine dR z z (lnR P_ z<|or_ a2<|zin (B:=B) hi<|a_.lt hd)<|dR z z (sb_ z z)<|dM z z z<|dR z z (lN (vs:=[sl ap nq cs]) s_ p_ z z (a_p (atp hb)<|Nat.lt_of_lt_of_le hj.lt h4.s)<|hx.row 0 1 z)<|dR z z (fd N_ z)<|dR z z (l1 R_ z (a_p (atp hb)<|Nat.lt_of_lt_of_le hj.lt h4.s)<|hx.at z)<|dR z z (lnR P_ z<|or_ a2<|zin (B:=B) hi<|a_.lt hd)<|dR z z (sb_ z z) ?_
 have a3:=((((hc.ag B).c sm<|c_<|b_ hBg).e hf).c h4<|c_ (or0 (b_ lr) (i_<|zt' L a1):∀k∈[I.z],¬B k)).e sa;have aX:=lt_ (lt_ (lt_ a1 hf.s) h4.s) sa.s;have aY:=lt_ (lt_ hf.s h4.s) sa.s;obtain ⟨_,c0,c1,c2,bD⟩:=u_ bC;refine dE z z (fc call40 z<|W_w09.run (B:=zn B ww.z I.z) c2 (((bW.e hf).c h4<|djs hb).e sa) (b_D (zt' L aX) aY) (atp ((c_g (b_ hBg) (b_<|Blk.lt hB1) hc.s):∀k∈[g1],¬(zn B ww.z I.z) k)) (repS.mono (O.g a3) a_W) bU bV (or_ a2<|zin (B:=B) hi<|a_.lt hd) (iS _ _)<|ii z) (.inr fun _ _ h=>h.1.mono fun k _ hk=>(io sr) k hk) ?_;rintro _ a4 ⟨s9,_,_,_,_,_,_,_,_,rfl,c3,aZ,b0,b3,b4,b5,_,b6⟩;have hy:=m_ hi (Blk.lt hB1) hc.s;have b7:=a2.c s9 hy;have h5:=lt_ aX s9.s;have aC:=lt_ aY s9.s;obtain ⟨b8,c4,bE⟩:=bdS bD;refine dE z z (fc call39 z<|W_w0b.run (B:=zn (zn B ww.z I.z) aW.z a4.z) c4 (b_D (b_D (zt' L h5) aC) lr) (repS.mono (or_ b7<|zin (B:=B) hi<|a_.lt hd)<|zns (zt a_W<|a_W)<|znD<|znI lr lr) (iS _ _) c3 (repS.mono (or_ aZ<|zin (B:=B) (al_ b6)<|a_.lt aZ)<|zns (zt a_W<|a_W)<|znI lr lr)<|repS.mono (or_ b0<|zin (B:=B) (ar_ b6)<|a_.lt b0)<|zns (zt a_W<|a_W)<|znI lr lr) (.inr fun _ _ h=>B_<|h.1) ?_;rintro _ wk ⟨s2,b9,ba,bb,a5,rfl,hz,c5,J⟩;refine dQ z z z<|pD<|Wo<|Wq<|Wq ?_
 obtain ⟨c6,aN,bF⟩:=bdS bE;refine Wt (fun a w=>∃(aD:Bool)(V:Int)(W:Int),(aD,V,W)=c6/\Sat 52 [(0,pt g1),(2,pt w0.z),(4,pt I.z),(5,sl b9 ba bb),(27,vB aD)] a/\Chg (· ∈ [g1]) wk w/\inI V/\inI W/\Blk w g1 [sl A0 N0 C0,vI V,vI W]) ?_ ?_
 ·refine Wg<|Rm z<|R z (lnR l_ z<|or_ hz<|zin (B:=B) J<|a_.lt hz)<|R z (a_d z z)<|Rm z ?_
  rcases bs (decide<|0<(b8.length:Int)) with hce | hce
  ·refine Rh z hce (mv z) ?_;obtain ⟨c7,c8,c9,ca,bG⟩:=u_<|ifT aN hce;refine Eg z z hce z (fc call41 z<|h_9 (B:=B) ca (b5.e s2) (zt' L<|lt_ h5 s2.s) hBg (O.g<|(a3.c s9<|c_<|b_ hBg).e s2) b3 b4<|ii z) ?_;rintro _ cb ⟨cc,rfl,cd,ce,cf⟩;refine R z (pT z hce z)<|Wl ?_
   exact fun _ q=>⟨c7,c8,c9,som bG,q.k<|s5 z z z z z,(cM (cr [g1] wk) cc (io sr):Chg (· ∈ [g1]) wk cb),cd,ce,cf⟩
  exact Nh z hce<|Nh z hce<|R z (pF z hce z)<|Wl (fun _ q=>⟨false,c0,c1,som<|ifF aN hce,q.k<|s5 z z z z z,cr [g1] wk,b3,b4,b5.e s2⟩)
 rintro cg wl ⟨aD,V,W,rfl,_,s6,bc,be,bf⟩;revert cg;refine Wo ?_;obtain ⟨ch,aO,bH⟩:=bdS<|a_Q bF;refine Wt (fun a w=>∃(a6:List UInt8)(a7:Int)(a8:Int),(a6,a7,a8)=ch/\∃a9 aa ab G,Sat 52 [(0,pt g1),(2,pt w0.z),(4,pt I.z),(5,sl a9 aa ab)] a/\Chg (· ∈ [g1]) wl w/\a_ w G (sl a9 aa ab) a6/\G.Nodup/\(∀k∈G,k∈a5∨wl.z<=k)/\inI a7/\inI a8/\Blk w g1 [sl A0 N0 C0,vI a7,vI a8]) ?_ ?_
 ·refine Wc z (fun ay=>?_)<|fun ay=>?_
  ·refine Wg<|RM z z ?_
   obtain ⟨ci,cj,ck,cl,bI⟩:=u_<|ifT aO ay;refine E z (fc call42 z<|W_w1n (B:=zn B a4.z wk.z) cl bf (b_D (zt' L<|lt_ (lt_ h5 s2.s) s6.s) s6.s) (atp ((c_g (b_ hBg) (b_<|Blk.lt hB1) h5):∀k∈[g1],¬(zn B a4.z wk.z) k)) (repS.mono (O.g<|((a3.c s9<|c_<|b_ hBg).e s2).c s6<|c_<|b_ hBg) a_W) bc be<|or_ (hz.c s6<|m_ J (Blk.lt hB1) h5)<|zin (B:=B) J<|a_.lt hz) ?_;rintro _ cm ⟨cn,co,cp,cq,bg,rfl,ct,cu,cv,cw,cx,cy⟩;refine Ra z<|Wl ?_
   exact fun _ q=>⟨ci,cj,ck,som bI,co,cp,cq,bg,q.k<|s4 z z z z,(cM (cr [g1] wl) cn (io sr):Chg (· ∈ [g1]) wl cm),ct,cx,(or0 cy (x_ lr):∀k∈bg,k∈a5∨wl.z<=k),cu,cv,cw⟩
  exact M_<|fun _ q=>⟨b8,V,W,som<|ifF aO ay,b9,ba,bb,a5,q.k<|s4 z z z z,cr [g1] wl,hz.c s6<|m_ J (Blk.lt hB1) h5,c5,io sr,bc,be,bf⟩
 rintro cz cA ⟨a6,a7,a8,rfl,a9,aa,ab,G,_,sg,bh,bi,hh,cB,cC,cD⟩;revert cz;refine Wo<|Wq<|Wm z ?_
 have aE:=(((a3.c s9<|c_<|b_ hBg).e s2).c s6<|c_<|b_ hBg).c sg<|c_<|b_ hBg
 have ht:=lt_ (lt_ h5 s2.s) s6.s;have ad:=lt_ ht sg.s;obtain ⟨_,cE,cF,cG,bJ⟩:=u_<|a_Q bH;refine E z (fc call43 z<|a_A (B:=B) cG cD (zt' L ad) hBg (O.g aE) cB cC<|ii z) ?_;rintro _ H ⟨s7,rfl,_,aF,aG,aH⟩;refine Wn<|Wb<|Ws<|Rq z z z<|Rw z ?_
 obtain ⟨cH,aP,bK⟩:=bdS bJ;refine Wt (fun a w=>∃(aI:List UInt8)(ae:Int)(af:Int),(aI,ae,af)=cH/\∃ah ai aj Sr,Sat 52 [(2,pt w0.z),(4,pt I.z),(5,sl ah ai aj)] a/\Chg (· ∈ ([g1]++G)) H w/\a_ w Sr (sl ah ai aj) aI/\Sr.Nodup/\(∀k∈Sr,k∈G∨H.z<=k)/\inI ae/\inI af/\Blk w g1 [sl A0 N0 C0,vI ae,vI af]) ?_ ?_
 ·refine Wc z (fun az=>?_)<|fun az=>?_
  ·refine Wg<|Rm z ?_
   obtain ⟨_,cI,cJ,cK,bL⟩:=u_<|ifT aP az;refine E z (fc call43 z<|a_A (B:=B) cK aH (zt' L<|lt_ ad s7.s) hBg (O.g<|aE.c s7<|c_<|b_ hBg) aF aG<|ii z) ?_;rintro _ aJ ⟨bj,rfl,_,cL,cN,cO⟩;refine R z (add_ z z) ?_;obtain ⟨cP,cQ,bM⟩:=bdS bL;refine E z (j_p (α:=UInt8) S_ (fun _=>l_E) cQ z z) ?_;rintro _ cR ⟨cS,cT,cU,rfl,bk,cV⟩;refine Ra z<|Wl ?_
   exact fun _ q=>⟨cP,cI,cJ,som bM,cS,cT,cU,[aJ.z],q.k<|s3 z z z,(e_ (cM (cr ([g1]++G) H) bj (io<|r_ sr):Chg (· ∈ ([g1]++G)) H aJ) bk:Chg (· ∈ ([g1]++G)) H cR),cV,a_q,(mor bj.s:∀k∈[aJ.z],k∈G∨H.z<=k),cL,cN,cO.e bk⟩
  refine Ws<|Rq z z z<|Rw z ?_
  obtain ⟨cW,aQ,bN⟩:=bdS<|ifF aP az;refine Wt (fun a w=>∃(ak:List UInt8)(Y:Int)(a0:Int),(ak,Y,a0)=cW/\∃al am an Su,Sat 52 [(2,pt w0.z),(4,pt I.z),(5,sl al am an)] a/\Chg (· ∈ ([g1]++G)) H w/\a_ w Su (sl al am an) ak/\Su.Nodup/\(∀k∈Su,k∈G∨H.z<=k)/\inI Y/\inI a0/\Blk w g1 [sl A0 N0 C0,vI Y,vI a0]) ?_ ?_
  ·refine Wc z (fun aA=>?_)<|fun aA=>?_
   ·refine Wg<|RM z z ?_
    have bm:=aE.c s7<|c_<|b_ hBg
    have bn:=lt_ ad s7.s;obtain ⟨_,_,_,cX,bO⟩:=u_<|ifT aQ aA;refine E z (fc call43 z<|a_A (B:=B) cX aH (zt' L bn) hBg (O.g bm) aF aG<|ii z) ?_;rintro _ cY ⟨ao,rfl,cZ,d0,d1,d2⟩;obtain ⟨d3,d4,d5,d6,bP⟩:=u_ bO;refine E z (fc call44 z<|h_a (B:=B) d6 d2 (zt' L<|lt_ bn ao.s) hBg (O.g<|bm.c ao<|c_<|b_ hBg) d0 d1 cZ) ?_;rintro _ d7 ⟨d8,d9,da,db,bo,rfl,dc,dd,de,df,dg,dh⟩;refine Ra z<|Wl ?_
    exact fun _ q=>⟨d3,d4,d5,som bP,d9,da,db,bo,q.k<|s3 z z z,(cM (cM (cr ([g1]++G) H) ao (io<|r_ sr):Chg (· ∈ ([g1]++G)) H cY) d8 (io<|r_ sr):Chg (· ∈ ([g1]++G)) H d7),dc,dg,(or0 dh (x_ ao.s):∀k∈bo,k∈G∨H.z<=k),dd,de,df⟩
   refine Ws<|Rq z z z<|Rw z ?_
   obtain ⟨di,aR,bQ⟩:=bdS<|ifF aQ aA;refine Wt (fun a w=>∃(aq:List UInt8),aq=di/\∃ar au av Sv,Sat 52 [(2,pt w0.z),(4,pt I.z),(5,sl ar au av)] a/\Chg (· ∈ G) H w/\a_ w Sv (sl ar au av) aq/\Sv.Nodup/\(∀k∈Sv,k∈G∨H.z<=k)) ?_ ?_
   ·refine Wc z (fun aB=>?_)<|fun aB=>?_
    ·refine Wg<|Rm z<|E z (fS [(.const<|.int .u8 92)] S_ z z z (Y_ z) (lb z)<|lb z) ?_
     rintro _ bp ⟨rfl,aK⟩;have aL:=aK.below;have dX:=a_l aK<|g_f (x:=(92:UInt8)) z
     obtain ⟨dj,dk,bR⟩:=bdS<|ifT aR aB;refine E z (a_H (α:=UInt8) S_ dk z z ((bh.c s7 (or1 hh (m_ J (Blk.lt hB1) h5) (W_ (b_<|Blk.lt hB1) ht):∀k∈G,k∉[g1])).e aL) bi (aK.blk:Blk bp H.z [(vU<|byteI (92:UInt8))]) (g_f (x:=(92:UInt8)) z) an_ H_) ?_;rintro _ dl ⟨bq,dm,dn,dp,rfl,dq,dr,dt,du⟩;refine Ra z<|Wl ?_
     exact fun _ q=>⟨dj,som bR,dm,dn,dp,bq,q.k<|s3 z z z,(cM (e_ (cr G H) aL:Chg (· ∈ G) H bp) dq (io sr):Chg (· ∈ G) H dl),dr,dt,(or2 du (io sr) an_ (x_ aL.s):∀k∈bq,k∈G∨H.z<=k)⟩
    refine M_ ?_;exact fun _ q=>⟨a6,som<|ifF aR aB,a9,aa,ab,G,q.k<|s3 z z z,cr G H,bh.c s7 (or1 hh (m_ J (Blk.lt hB1) h5) (W_ (b_<|Blk.lt hB1) ht):∀k∈G,k∉[g1]),bi,io sr⟩
   rintro dv dw ⟨aq,rfl,ar,au,av,Sv,_,br,dx,dy,dz⟩;revert dv;exact fun _ q=>⟨aq,cE,cF,som bQ,ar,au,av,Sv,q.k<|s3 z z z,(cM (cr ([g1]++G) H) br (io<|v_ sr):Chg (· ∈ ([g1]++G)) H dw),dx,dy,(or1 dz (io sr) (x_ lr):∀k∈Sv,k∈G∨H.z<=k),aF,aG,aH.c br<|djs (or1 hh (m_ J (Blk.lt hB1) h5) (W_ (b_<|Blk.lt hB1) ht):∀k∈G,k∉[g1])⟩
  rintro dA dB ⟨ak,Y,a0,rfl,al,am,an,Su,_,dC,dD,dF,dG,dH,dI,dJ⟩;revert dA;exact fun _ q=>⟨ak,Y,a0,som<|a_Q bN,al,am,an,Su,q.k<|s3 z z z,(cM (cr ([g1]++G) H) dC (aa_ (io<|r_ sr)<|io<|v_ sr):Chg (· ∈ ([g1]++G)) H dB),dD,dF,(or1 dG (io sr) (x_ lr):∀k∈Su,k∈G∨H.z<=k),dH,dI,dJ⟩
 rintro dK dL ⟨aI,ae,af,rfl,ah,ai,aj,Sr,_,aw,dN,dO,aM,dP,dS,dT⟩;revert dK;refine Wo<|Ws ?_
 have bt:=lt_ (lt_ h4.s sa.s) s9.s;refine R z (lN (vs:=[sl ap nq cs]) s_ p_ z z fid<|((((((hx.c s9<|atp hb).e s2).c s6<|atp hb).c sg<|atp hb).c s7<|atp hb).c aw<|atp<|nmA hb<|ds (or1 hh (m_ J hj.lt bt) (W_ (b_ hj.lt)<|lt_ (lt_ bt s2.s) s6.s):∀k∈G,k∉[I.z])).row 0 1 z)<|Rm z ?_
 have hn:=mmr<|Blk.lt hB1
 have bu:=lt_ (lt_ (lt_ (lt_ sm.s hf.s) h4.s) sa.s) s9.s;have bv:=lt_ (lt_ bu s2.s) s6.s;have bw:∀k∈G,k∉[w0.z]:=or1 hh (m_ J ho.lt bu)<|W_ (b_ ho.lt) bv;refine E0 (fs0 (cur':=[sl ap nq cs]) p_ z z ((((((((((ho.c sm<|atp hn).e hf).c h4<|djs<|mm1 ho.lt sm.s).e sa).c s9<|atp hn).e s2).c s6<|atp hn).c sg<|atp hn).c s7<|atp hn).c aw<|atp<|nmA hn<|ds bw) z z z z) ?_;rintro _ dU ⟨dV,dW⟩;have ax:=dW.one;refine Rw z ?_
 obtain rfl:=som<|a_Q bK;have bx:=lt_ (lt_ aC s2.s) s6.s;have bz:=o1no hh (c_9 J (a_.lt hd) aC) (a_.lt hd) bx;exact Wr<|b_C hr (E_ s_ p_ z dV z) z ⟨(cM (cM (cM (cM (cM (e_ (cM (e_ (cM (e_ (cM (e_ (cr [g1] w0) hc:Chg (· ∈ [g1]) w0 ww) sm (io sr):Chg (· ∈ [g1]) w0 I) hf:Chg (· ∈ [g1]) w0 aT) h4 (mor a1:∀k∈[I.z],k∈[g1]∨w0.z<=k):Chg (· ∈ [g1]) w0 aV) sa:Chg (· ∈ [g1]) w0 aW) s9 (io sr):Chg (· ∈ [g1]) w0 a4) s2:Chg (· ∈ [g1]) w0 wk) s6 (io sr):Chg (· ∈ [g1]) w0 wl) sg (io sr):Chg (· ∈ [g1]) w0 cA) s7 (io sr):Chg (· ∈ [g1]) w0 H) aw (aa_ (io sr) (or1 hh (or0 J (x_ h5):∀k∈a5,k∈[g1]∨w0.z<=k) (x_ ht):∀k∈G,k∈[g1]∨w0.z<=k)):Chg (· ∈ [g1]) w0 dL) ax (mor lr:∀k∈[w0.z],k∈[g1]∨w0.z<=k):Chg (· ∈ [g1]) w0 dU),ap,nq,cs,bT,ah,ai,aj,Sr,z,(((((b7.e s2).c s6 hy).c sg hy).c s7 hy).c aw<|nmA hy<|ds bz).c ax<|m_ hi ho.lt lr,dN.c ax (or1 aM bw (W_ (b_ ho.lt)<|lt_ (lt_ bv sg.s) s7.s):∀k∈Sr,k∉[w0.z]),dP,dS,dT.c ax<|djs hn,na_ bX dO<|ds<|o1no aM bz (a_.lt hd)<|lt_ (lt_ bx sg.s) s7.s,aa_ (w_ hi hc.s)<|a_O aM (a_O hh (w_ J h5) ht)<|lt_ ad s7.s⟩
def Q13 (w0:World)(B:Zone)(r:d_×(List UInt8))(v:Value)(w':World):Prop:=Bw w0 w'/\un2 (fun V W=>∃G H I S1 J L O S2,v = .tuple #[(.agg #[.slice G H I]),sl J L O]/\a_ w' S1 (sl G H I) V.rules/\a_ w' S2 (sl J L O) W/\(S1++S2).Nodup/\(∀k∈(S1++S2),w0.z<=k)) r
theorem W_w1p {x1:List UInt8}{res:d_×(List UInt8)}(hm:g_w n x1=some res)(I:B<=w0.z)(O:repS w0 B (sl A0 N0 C0) x1):j_ prog 5 [sl A0 N0 C0] w0 (Q13 w0 B res):=by
 unfold g_w at hm
 refine goG func5 z z z fun fn hr=>Ws<|E z (fa e_m) ?_
 rintro _ we ⟨rfl,J⟩;have G:=J.below;have h2:Blk we w0.z [sl none 0 0]:=J.blk;refine Rw z<|Wm z ?_
 have L:=zt' I G.s;obtain ⟨_,ef,hmg⟩:=bdS hm;refine E z (fc call16 z<|W_w1k (B:=B) ef L<|O.e G) ?_;rintro _ _ ⟨s1,gh,_,_,_,rfl,hi,h4,hj,hk,hl⟩;refine Rw z<|Wm z ?_
 have h5:=lt_ G.s s1.s;obtain ⟨_,_,_,_,em,hmo⟩:=bd4S hmg;refine E z (fc call17 z<|W_w1o (B:=B) em hi (zt' I h5) (atp (or0 (b_ h4) (i_ L):∀k∈[gh],¬B k)) hj hk hl) ?_;rintro _ _ ⟨sa,ab,nc,cd,Sp,aq,nr,cs,St,rfl,hu,hv,_,_,_,h6,h3⟩;refine Re z z z<|Re z z z<|E0 (fs0 (cur':=[sl ab nc cd]) p_ z z ((h2.e s1).c sa<|djs<|m_ (b_ h4) h2.lt lr) z z z z) ?_
 rintro _ _ ⟨hw,sx⟩;have H:=sx.one;refine Rw z ?_
 obtain rfl:=som hmo;exact Wr<|b_C hr (E_ s_ p_ z hw z) z ⟨bM (bM (bup G s1) sa<|w_ (b_ h4) G.s) H<|b_ lr,ab,nc,cd,Sp,aq,nr,cs,St,z,hu.c H<|m_ (al_ h3) h2.lt s1.s,hv.c H<|m_ (ar_ h3) h2.lt s1.s,na_ (nl_ h6) (nr_ h6)<|nj h6,aa_ (w_ (al_ h3) h5)<|w_ (ar_ h3) h5⟩
theorem h_d {x1:d_}{res:Int}(hm:d_g x1=some res)(J:B<=w0.z)(H:repS w0 B (sl A0 N0 C0) x1.rules):j_ prog 19 [(.agg #[sl A0 N0 C0])] w0 (Q9 w0 B res):=by
 unfold d_g at hm
 refine goG func19 z z z fun fn hr=>Ws<|E z (fb z) ?_
 rintro _ I ⟨rfl,G⟩;have h1:=G.below;refine Rw z<|Ws<|Rf z N_ z<|R z (l0 R_ z<|(G.blk:Blk I w0.z [sl A0 N0 C0]).at z)<|R z (lnR P_ z<|H.e h1)<|R z (sb_ z z)<|Rw z ?_
 obtain rfl:=som hm;exact Wr<|f_ hr z ⟨h1,z,iS _ _⟩
theorem c_I {x1:Int}{x2:Int}{x3:Int}{res:Bool}(hm:b_p x1 x2 x3=some res)(Y:B<=w0.z)(O:inI x1)(V:inI x2)(W:inI x3):j_ prog 83 [vI x1,vI x2,vI x3] w0 (Q0 w0 B res):=by
 unfold b_p at hm
 refine goG func83 z z z fun fn hr=>Ws<|Rw z<|Wq ?_
 obtain ⟨J,H,I⟩:=bdS hm;refine Wt (fun a w=>∃(x4:Bool),x4=J/\Sat 15 [(6,vB x4)] a/\Below w0.z w0 w) ?_ ?_
 ·refine Wg<|RM z z<|R z (b_Y z z)<|Rm z ?_
  rcases bs (decide<|x2<=x1) with G | G
  ·exact Rh z G (mv z)<|Rh z G (mv z)<|Rh z G (b_Y z z)<|R z (pT z G z)<|Ra z<|Wl (fun _ q=>⟨decide<|x1<=x3,som<|ifT H G,q.k<|s1 z,br w0⟩)
  iterate 3 refine Nh z G ?_
  exact R z (pF z G z)<|Ra z<|Wl (fun _ q=>⟨false,som<|ifF H G,q.k<|s1 z,br w0⟩)
 rintro L _ ⟨x4,rfl,_,s6⟩;revert L;refine Wo ?_;obtain rfl:=som I;exact Wr<|f_ hr z ⟨s6,z⟩
theorem f_p {x1:d_}{x2:Int}{res:Bool}(hm:b_T x1 x2=some res)(Y:B<=w0.z)(J:repS w0 B (sl A0 N0 C0) x1.rules)(W:inI x2):j_ prog 25 [(.agg #[sl A0 N0 C0]),vI x2] w0 (Q0 w0 B res):=by
 unfold b_T at hm
 refine goG func25 z z z fun fn hr=>Ws<|E z (fb z) ?_
 rintro _ H ⟨rfl,h2⟩;have h4:=h2.below;refine Rw z<|Wq ?_
 obtain ⟨O,I,L⟩:=bdS hm;refine Wt (fun a w=>∃(x3:Bool),x3=O/\Sat 14 [(4,vB x3)] a/\Below H.z H w) ?_ ?_
 ·refine Wg<|Rm z<|R z (b_e z z)<|Rm z ?_
  rcases bs (decide<|0<=x2) with G | G
  ·exact Rh z G (mv z)<|Rh z G (fd N_ z)<|Rh z G (l0 R_ z<|(h2.blk:Blk H w0.z [sl A0 N0 C0]).at z)<|Rh z G (lnR P_ z<|J.e h4)<|Rh z G (lss z z)<|R z (pT z G z)<|Ra z<|Wl (fun _ q=>⟨decide<|x2<(x1.rules.length:Int),som<|ifT I G,q.k<|s1 z,br H⟩)
  iterate 5 refine Nh z G ?_
  exact R z (pF z G z)<|Ra z<|Wl (fun _ q=>⟨false,som<|ifF I G,q.k<|s1 z,br H⟩)
 rintro V _ ⟨x3,rfl,_,sa⟩;revert V;refine Wo ?_;obtain rfl:=som L;exact Wr<|f_ hr z ⟨bup h4 sa,z⟩
theorem W_w14 {x1:Str}{res:Bool}(hm:d_K n x1=some res)(ap:B<=w0.z)(ao:x1.b.length<=LEN):j_ prog 119 [Str.v x1] w0 (Q0 w0 B res):=by
 unfold d_K at hm
 refine goG func119 z z z fun fn hr=>Ws<|Rw z<|Wq<|Wq ?_
 obtain ⟨a8,huo,hmp⟩:=bdS hm;refine Wt (fun a w=>∃(xg:Bool),xg=a8/\Sat 43 [(0,Str.v x1),(14,vB xg)] a/\Below w0.z w0 w) ?_ ?_
 ·refine Wg<|Rm z<|R z (lnT d_9 z)<|Rl z z z<|Rm z ?_
  rcases bs (decide<|(x1.b.length:Int)<1) with J | J
  ·iterate 3 refine Nh z J ?_
   exact R z (pT z J z)<|Wl (fun _ q=>⟨true,som<|ifT huo J,q.k<|s2 z z,br w0⟩)
  exact Rh z J (mv z)<|Rh z J (lnT d_9 z)<|Rh z J (a_d z z)<|R z (pF z J z)<|Wl (fun _ q=>⟨decide<|12<(x1.b.length:Int),som<|ifF huo J,q.k<|s2 z z,br w0⟩)
 rintro a9 G ⟨xg,rfl,_,s9⟩;revert a9;refine Wo<|Wc z (fun hch=>?_) (fun hch=>?_)
 ·refine Ws<|Rw z ?_
  obtain rfl:=som<|ifT hmp hch;exact Wr<|f_ hr z ⟨s9,z⟩
 refine Wk<|Wq<|Wm z<|E z (l_F d_9 z) ?_
 rintro _ I ⟨rfl,sq,aa⟩;refine Wn ?_;obtain ⟨_,a1,hmr⟩:=bdS<|ifF hmp hch;refine b_M (σ:=Nat) (ρ:=Bool) (fun (x0:Nat) a w=>Sat 43 [(16,pt G.z)] a/\Chg (· ∈ [G.z]) I w/\a_V w G.z x1 x0) (fun (x0:Nat) a w=>Sat 43 [] a/\Chg (· ∈ [G.z]) I w/\a_V w G.z x1 x0) (rQ prog fn<|Q0 w0 B) a1 ?_ ?_ ?_ ?_
 ·exact fun _ q=>⟨q.k<|s1 z,cr [G.z] I,aa⟩
 ·rintro x0 _ ws _ ⟨a2,si,he⟩ hmt;refine Wu ?_ a2;refine Ws ?_
  rcases bs (decide<|x0<x1.b.length) with hca | hca
  ·refine E z (l_G z he<|of_decide_eq_true hca) ?_;rintro _ wb ⟨rfl,ab,su⟩;refine Re z z z<|Wn<|Wq<|Wc z (fun _=>?_) (fun hc=>(bcon z hc).elim)
   refine Wk<|Wb<|Ws<|Re z z z<|Re z z z<|Ra z<|Rw z<|Wq ?_
   obtain ⟨ad,huv,a3⟩:=bdS<|ifT hmt hca;refine Wt (fun a w=>∃(xc:Bool),xc=ad/\Sat 43 [(3,vI (x0:Int)),(4,.int .i32<|(dec x1 x0).1),(5,vB xc),(16,pt G.z)] a/\Below wb.z wb w) ?_ ?_
   ·refine Wg<|Rm z<|R z (b_e z z)<|Rm z ?_
    rcases bs (decide<|97<=((dec x1 x0).1)) with L | L
    ·exact Rh z L (mv z)<|Rh z L (b_Y z z)<|R z (pT z L z)<|Ra z<|Wl (fun _ q=>⟨decide<|((dec x1 x0).1)<=122,som<|ifT huv L,q.k<|s4 z z z z,br wb⟩)
    exact Nh z L<|Nh z L<|R z (pF z L z)<|Ra z<|Wl (fun _ q=>⟨false,som<|ifF huv L,q.k<|s4 z z z z,br wb⟩)
   rintro ae wd ⟨xc,rfl,_,sj⟩;revert ae;refine Wo<|Wq ?_
   obtain ⟨af,huw,a4⟩:=bdS a3;refine Wt (fun a w=>∃(xf:Bool),xf=af/\Sat 43 [(3,vI (x0:Int)),(5,vB xc),(6,vB xf),(16,pt G.z)] a/\Below wd.z wd w) ?_ ?_
   ·refine Wg<|Rm z<|R z (b_e z z)<|Rm z ?_
    rcases bs (decide<|48<=((dec x1 x0).1)) with O | O
    ·exact Rh z O (mv z)<|Rh z O (b_Y z z)<|R z (pT z O z)<|Ra z<|Wl (fun _ q=>⟨decide<|((dec x1 x0).1)<=57,som<|ifT huw O,q.k<|s4 z z z z,br wd⟩)
    exact Nh z O<|Nh z O<|R z (pF z O z)<|Ra z<|Wl (fun _ q=>⟨false,som<|ifF huw O,q.k<|s4 z z z z,br wd⟩)
   rintro ah W ⟨xf,rfl,_,sk⟩;revert ah;refine Wo<|Wq ?_
   obtain ⟨ai,hux,hmy⟩:=bdS a4;refine Wt (fun a w=>∃(xl:Bool),xl=ai/\Sat 43 [(16,pt G.z),(42,vB xl)] a/\Below W.z W w) ?_ ?_
   ·refine Wg<|Rm z<|R z (not_ z)<|Rm z ?_
    rcases bs (!xc) with H | H
    ·have hmz:=ifT hux H;refine Rh z H (mv z)<|Rh z H (not_ z)<|Rh z H (mv z) ?_
     rcases bs (!xf) with V | V
     ·exact Nh z V<|Nh z V<|Rh z H (pT z V z)<|R z (pT z H z)<|Wl (fun _ q=>⟨true,som<|ifT hmz V,q.k<|s2 z z,br W⟩)
     exact Rh z V (mv z)<|Rh z V (eql z z)<|Rh z H (pF z V z)<|R z (pT z H z)<|Wl (fun _ q=>⟨(x0:Int)==0,som<|ifF hmz V,q.k<|s2 z z,br W⟩)
    iterate 3 refine Nh z H ?_
    exact Nv z<|Nv z<|Nh z H<|R z (pF z H z)<|Wl (fun _ q=>⟨false,som<|ifF hux H,q.k<|s2 z z,br W⟩)
   rintro aj ak ⟨xl,rfl,_,sm⟩;revert aj;refine Wo<|Wc z (fun hcn=>?_) (fun hcn=>?_)
   ·refine Ws<|Rw z ?_
    have Y:=m1 s9.s;exact Wr<|rtO<|qL (som<|ifT hmy hcn).symm<|f_ hr z ⟨bup (bup (bup (bM (bM (bup s9 sq) si Y) su Y) sj) sk) sm,z⟩
   refine M_ ?_;exact fun _ q=>⟨x0+(dec x1 x0).2,(som<|ifF hmy hcn).symm,⟨q.k<|s1 z,(e_ (e_ (e_ (cM (cM (cr [G.z] I) si (io sr):Chg (· ∈ [G.z]) I ws) su (io sr):Chg (· ∈ [G.z]) I wb) sj:Chg (· ∈ [G.z]) I wd) sk:Chg (· ∈ [G.z]) I W) sm:Chg (· ∈ [G.z]) I ak),((ab.e sj).e sk).e sm⟩⟩
  refine E z (l_H z he<|of_decide_eq_false hca) ?_;rintro _ al ⟨rfl,a0⟩;refine Re z z z<|Wn<|Wq<|Wc z (fun hc=>(bcon hc z).elim) (fun _=>?_)
  exact We<|fun _ q=>b_i (som<|ifF hmt hca).symm ⟨q.k sn,(e_ (cM (cr [G.z] I) si (io sr):Chg (· ∈ [G.z]) I ws) a0:Chg (· ∈ [G.z]) I al),he.e a0⟩
 ·rintro x0 am _ rfl ⟨_,an,he⟩;have a5:=elL hmr;revert am;refine Wo<|Ws<|Rw z ?_
  obtain rfl:=som a5;exact Wr<|f_ hr z ⟨bM (bup s9 sq) an<|m1 s9.s,z⟩
 rintro _ _ _ _ rfl ⟨rfl,a6⟩;have a7:=elR hmr;obtain rfl:=som a7;exact ⟨a6,z⟩
theorem c_J {x1:g_}{x2:Bool}{x3:Bool}{x4:Bool}{x5:Bool}{x6:Int}{res:Bool}(hm:b_J x1 x2 x3 x4 x5 x6=some res)(a8:B<=w0.z)(a4:x1.name.b.length<=LEN)(a5:inI x1.kind)(a6:inI x1.size)(a0:repS w0 B (sl A9 N9 C9) x1.bytes)(a1:repS w0 B (sl A8 N8 C8) x1.names)(a2:repS w0 B (sl AA NA CA) x1.tags)(a3:repS w0 B (sl AB NB CB) x1.kids)(a7:inI x6):j_ prog 128 [(.agg #[Str.v x1.name,vI x1.kind,vI x1.size,vB x1.little,sl A9 N9 C9,sl A8 N8 C8,sl AA NA CA,sl AB NB CB]),vB x2,vB x3,vB x4,vB x5,vI x6] w0 (Q0 w0 B res):=by
 unfold b_J at hm
 refine goG func128 z z z fun fn hr=>Ws<|E z (fb z) ?_
 rintro _ w9 ⟨rfl,hd⟩;have ha:=hd.below;have hb:Blk w9 w0.z (vR x1 A9 N9 C9 A8 N8 C8 AA NA CA AB NB CB):=hd.blk;refine Rw z<|Wq ?_
 obtain ⟨ur,hus,hmt⟩:=bdS hm;refine Wt (fun a w=>∃(xc:Bool),xc=ur/\Sat 57 [(12,vB xc)] a/\Below w9.z w9 w) ?_ ?_
 ·refine Wg<|RM z z ?_
  obtain ⟨ue,huf,hmu⟩:=bdS hus;refine c_w 18 ue 4 ?_ ?_
  ·rcases bs x2 with Y | Y
   ·iterate 3 refine Nh z Y ?_
    exact R z (pT z Y z)<|WLq 4 (ifT huf Y) z z z
   exact Rh z Y (fd a_z z)<|Rh z Y (l0 g_3 z<|hb.at z)<|Rh z Y (eql z z)<|R z (pF z Y z)<|WLq 4 (ifF huf Y) z z z
  refine Rm z ?_;obtain ⟨ug,huh,hmv⟩:=bdS hmu;refine c_w 27 ug 8 ?_ ?_
  ·rcases bs ue with G | G
   ·have hmi:=ifT huh G;refine Rh z G (mv z)<|Rh z G (mv z) ?_
    rcases bs x3 with O | O
    ·iterate 4 refine Nh z O ?_
     exact Rh z G (pT z O z)<|R z (pT z G z)<|WLq 8 (ifT hmi O) z z z
    exact Rh z O (fd a_D z)<|Rh z O (l0 Q_ z<|hb.at z)<|Rh z O (lnR l_ z<|a0.e ha)<|Rh z O (eql z z)<|Rh z G (pF z O z)<|R z (pT z G z)<|WLq 8 (ifF hmi O) z z z
   exact Nh z G<|Nh z G<|Nv z<|Nv z<|Nv z<|Nv z<|Nh z G<|R z (pF z G z)<|WLq 8 (ifF huh G) z z z
  refine Rm z ?_;obtain ⟨uj,huk,hmw⟩:=bdS hmv;refine c_w 36 uj 8 ?_ ?_
  ·rcases bs ug with H | H
   ·have hml:=ifT huk H;refine Rh z H (mv z)<|Rh z H (mv z) ?_
    rcases bs x4 with V | V
    ·iterate 4 refine Nh z V ?_
     exact Rh z H (pT z V z)<|R z (pT z H z)<|WLq 8 (ifT hml V) z z z
    exact Rh z V (fd b_H z)<|Rh z V (l0 b_Q z<|hb.at z)<|Rh z V (lnR a_k z<|a1.e ha)<|Rh z V (eql z z)<|Rh z H (pF z V z)<|R z (pT z H z)<|WLq 8 (ifF hml V) z z z
   exact Nh z H<|Nh z H<|Nv z<|Nv z<|Nv z<|Nv z<|Nh z H<|R z (pF z H z)<|WLq 8 (ifF huk H) z z z
  refine Rm z ?_;obtain ⟨um,hun,hmo⟩:=bdS hmw;refine c_w 45 um 8 ?_ ?_
  ·rcases bs uj with I | I
   ·have hmp:=ifT hun I;refine Rh z I (mv z)<|Rh z I (mv z) ?_
    rcases bs x5 with W | W
    ·iterate 4 refine Nh z W ?_
     exact Rh z I (pT z W z)<|R z (pT z I z)<|WLq 8 (ifT hmp W) z z z
    exact Rh z W (fd a_r z)<|Rh z W (l0 z_ z<|hb.at z)<|Rh z W (lnR q_ z<|a2.e ha)<|Rh z W (eql z z)<|Rh z I (pF z W z)<|R z (pT z I z)<|WLq 8 (ifF hmp W) z z z
   exact Nh z I<|Nh z I<|Nv z<|Nv z<|Nv z<|Nv z<|Nh z I<|R z (pF z I z)<|WLq 8 (ifF hun I) z z z
  refine Rm z ?_
  rcases bs um with J | J
  ·have hmq:=ifT hmo J;refine Rh z J (mv z)<|Rh z J (lss z z)<|Rh z J (mv z) ?_
   rcases bs (decide<|x6<0) with L | L
   ·iterate 5 refine Nh z L ?_
    exact Rh z J (pT z L z)<|R z (pT z J z)<|Ra z<|Wl (fun _ q=>⟨true,som<|ifT hmq L,q.k<|s1 z,br w9⟩)
   exact Rh z L (fd K_ z)<|Rh z L (l0 z_ z<|hb.at z)<|Rh z L (lnR q_ z<|a3.e ha)<|Rh z L (mv z)<|Rh z L (eql z z)<|Rh z J (pF z L z)<|R z (pT z J z)<|Ra z<|Wl (fun _ q=>⟨(x1.kids.length:Int)==x6,som<|ifF hmq L,q.k<|s1 z,br w9⟩)
  iterate 3 refine Nh z J ?_
  exact Nv z<|Nv z<|Nv z<|Nv z<|Nv z<|Nh z J<|R z (pF z J z)<|Ra z<|Wl (fun _ q=>⟨false,som<|ifF hmo J,q.k<|s1 z,br w9⟩)
 rintro ax _ ⟨xc,rfl,_,sy⟩;revert ax;refine Wo ?_;obtain rfl:=som hmt;exact Wr<|f_ hr z ⟨bup ha sy,z⟩
theorem i_B {x1:d_}{x2:Int}{res:Int}(hm:d_L x1 x2=some res)(V:B<=w0.z)(I:repS w0 B (sl A0 N0 C0) x1.rules)(Y:inI x2):j_ prog 129 [(.agg #[sl A0 N0 C0]),vI x2] w0 (Q9 w0 B res):=by
 unfold d_L at hm
 refine goG func129 z z z fun fn hr=>Ws<|E z (fb z) ?_
 rintro _ L ⟨rfl,W⟩;have h2:=W.below;have h6:Blk L w0.z [sl A0 N0 C0]:=W.blk;refine Rw z<|Wq<|Wq ?_
 obtain ⟨uf,hug,hma⟩:=bdS hm;refine Wt (fun a w=>∃(O:Bool),O=uf/\Sat 37 [(1,vI x2),(2,pt w0.z),(27,vB O)] a/\Below L.z L w) ?_ ?_
 ·refine Wg<|R z (lN (vs:=[sl A0 N0 C0]) s_ p_ z z fid<|h6.row 0 1 z)<|Rm z ?_
  obtain ⟨rh,ei,hmb⟩:=bdS hug;refine E z (fc call25 z<|f_p ei (zt' V h2.s) (I.e h2) Y) ?_;rintro _ _ ⟨s4,rfl⟩;refine R z (not_ z)<|Rm z ?_
  rcases bs (!rh) with H | H
  ·iterate 7 refine Nh z H ?_
   exact R z (pT z H z)<|Rm z<|Nh z z<|Nh z z<|Nh z z<|Nh z z<|Nh z z<|Nh z z<|Nh z z<|Nh z z<|R z (pT z z z)<|Wl (fun _ q=>⟨true,som<|ifT hmb H,q.k<|s3 z z z,s4⟩)
  refine Rh z H (fd N_ z) ?_;have hc:=h6.e s4;refine Rh z H (l0 R_ z<|hc.at z)<|Rh z H (mv z) ?_
  obtain ⟨xj,ek,hmd⟩:=bdS<|ifF hmb H;have he:=I.g<|(h2.ag B).e s4
  refine RXg z z H z (at_ (α:=g_) P_ k_ z z z he ek) ?_;rintro _ ⟨_,_,_,rfl,hl,hn,_⟩;obtain ⟨_,_,_,_,_,_,_,_,_,_,_,_,rfl,_,_,_,_,_,_,_⟩:=a_j hn;refine Rh z H (fd a_i z)<|Rh z H (l0 g_3 z<|hl.at (j:=1) z)<|Rh z H (nq z z)<|R z (pF z H z)<|Rm z ?_
  rcases bs (xj.kind != 1) with G | G
  ·iterate 8 refine Nh z G ?_
   exact R z (pT z G z)<|Wl (fun _ q=>⟨true,som<|ifT hmd G,q.k<|s3 z z z,s4⟩)
  refine Rh z G (fd N_ z)<|Rh z G (l0 R_ z<|hc.at z)<|Rh z G (mv z) ?_
  obtain ⟨_,em,hmo⟩:=bdS<|ifF hmd G;refine RXg z z G z (at_ (α:=g_) P_ k_ z z z he em) ?_;rintro _ ⟨_,_,_,rfl,hp,hq,_⟩;obtain ⟨_,_,_,_,_,_,_,_,_,_,_,_,rfl,_,_,ht,_,_,_,_⟩:=a_j hq;refine Rh z G (fd a_z z)<|Rh z G (l0 g_3 z<|hp.at (j:=2) z) ?_
  obtain ⟨rr,es,hmu⟩:=bdS hmo;refine Eg z z G z (fc call83 z<|c_I es (zt' V<|lt_ h2.s s4.s) ht (ii z)<|ii z) ?_;rintro _ _ ⟨sv,rfl⟩;exact Rh z G (not_ z)<|R z (pF z G z)<|Wl (fun _ q=>⟨!rr,som hmu,q.k<|s3 z z z,bup s4 sv⟩)
 rintro aw _ ⟨O,rfl,_,s5⟩;revert aw;refine Wo<|Wc z (fun J=>?_) (fun J=>?_)
 ·refine Ws<|Rw z ?_
  obtain rfl:=som<|ifT hma J;exact Wr<|f_ hr z ⟨bup h2 s5,z,ii z⟩
 refine Wk<|Ws<|Rf z N_ z<|R z (l0 R_ z<|(h6.e s5).at z)<|Rm z ?_
 obtain ⟨_,ex,hmy⟩:=bdS<|ifF hma J;refine RX z (at_ (α:=g_) P_ k_ z z z (I.g<|(h2.ag B).e s5) ex) ?_;rintro _ ⟨_,_,_,rfl,hz,a1,_⟩;obtain ⟨_,_,_,_,_,_,_,_,_,_,_,_,rfl,_,_,_,_,_,_,_⟩:=a_j a1;refine Rf z a_z z<|R z (l0 g_3 z<|hz.at (j:=2) z)<|R z (c_j z z) ?_
 obtain ⟨_,a2,a0⟩:=bdS hmy;refine R z (g_G z z<|nnS a2)<|R z (sb_ z z)<|Rw z ?_
 obtain rfl:=som a0;exact Wr<|f_ hr z ⟨bup h2 s5,z,iS _ _⟩
theorem W_w1q {x1:List Str}{x2:Str}{res:Bool}(hm:e_w x1 x2=some res)(a1:B<=w0.z)(G:repS w0 B (sl A0 N0 C0) x1)(a0:x2.b.length<=LEN):j_ prog 138 [sl A0 N0 C0,Str.v x2] w0 (Q0 w0 B res):=by
 unfold e_w at hm
 refine goG func138 z z z fun fn hr=>Ws<|Rw z<|Wq<|Wm z<|R z (lnR a_k z G)<|Rm z<|Wn ?_
 obtain ⟨_,V,J⟩:=bdS hm;refine Wf (σ:=Unit) (ρ:=Bool) (fun (k3:Nat)(_:Unit) a w=>Sat 17 [(1,Str.v x2),(7,sl A0 N0 C0),(8,vI (x1.length:Int)),(9,vI ((k3:Nat):Int))] a/\Below w0.z w0 w) (fun (_:Unit) a w=>Sat 17 [] a/\Below w0.z w0 w) (rQ prog fn<|Q0 w0 B) V ?_ ?_ ?_ ?_ ?_
 ·exact fun _ q=>⟨q.k<|s4 z z z z,br w0⟩
 ·rintro k3 _ _ _ _ L ⟨W,I⟩ Y;refine Wu ?_ W;refine Ws<|Rl z z z<|Wn<|Wq<|Wc z (fun _=>?_) (fun hc=>(a_4 L hc).elim)
  refine Wk<|Wq<|Wb<|Ws ?_
  obtain ⟨_,e9,O⟩:=bdS Y;refine RX z (at_ (α:=Str) a_k z_9 z z z (G.e I) e9) ?_;rintro _ ⟨_,_,_,rfl,ha,hb,_⟩;obtain ⟨rfl,_⟩:=b_B hb;refine R z (l0 g_9 z<|ha.at0 z)<|Rw z<|Wm z<|Rm z<|R z (f_8 z z)<|Wx z (fun H=>?_) (fun H=>?_)
  ·exact Ws<|Rw z<|Wr<|rtO<|qL (som<|ifT O H).symm<|f_ hr z ⟨I,z⟩
  exact Wk<|Wg<|R z (inc_ L (lt_ (repS.len G) L_) z z)<|Rm z<|Wl (fun _ q=>⟨(),(som<|ifF O H).symm,⟨q.k<|s4 z z z z,I⟩⟩)
 ·rintro _ _ _ ⟨hSc,sd⟩;refine Wu ?_ hSc;refine Ws<|Rl z z z<|Wn<|Wq<|Wc z (fun hc=>(a_5 hc).elim) (fun _=>?_)
  exact We<|fun _ q=>⟨rfl,⟨q.k sn,sd⟩⟩
 ·rintro _ ae _ rfl ⟨_,sf⟩;have hmg:=elL J;revert ae;refine Wo<|Ws<|Rw z ?_
  obtain rfl:=som hmg;exact Wr<|f_ hr z ⟨sf,z⟩
 rintro _ _ _ _ rfl ⟨rfl,hqh⟩;have hmi:=elR J;obtain rfl:=som hmi;exact ⟨hqh,z⟩
theorem W_w1r {x1:g_}{res:Bool}(hm:f_K n x1=some res)(O:B<=w0.z)(Y:x1.name.b.length<=LEN)(a0:inI x1.kind)(a1:inI x1.size)(a2:repS w0 B (sl A9 N9 C9) x1.bytes)(J:repS w0 B (sl A8 N8 C8) x1.names)(a3:repS w0 B (sl AA NA CA) x1.tags)(W:repS w0 B (sl AB NB CB) x1.kids):j_ prog 130 [(.agg #[Str.v x1.name,vI x1.kind,vI x1.size,vB x1.little,sl A9 N9 C9,sl A8 N8 C8,sl AA NA CA,sl AB NB CB])] w0 (Q0 w0 B res):=by
 unfold f_K at hm
 refine goG func130 z z z fun fn hr=>Ws<|E z (fb z) ?_
 rintro _ V ⟨rfl,hi⟩;have h1:=hi.below;have ha:Blk V w0.z (vR x1 A9 N9 C9 A8 N8 C8 AA NA CA AB NB CB):=hi.blk;refine Rw z<|Wq<|Wq ?_
 obtain ⟨uy,huz,hmj⟩:=bdS hm;refine Wt (fun a w=>∃(xb:Bool),xb=uy/\Sat 44 [(1,pt w0.z),(23,vB xb)] a/\Below V.z V w) ?_ ?_
 ·refine Wg<|R z (lN (vs:=vR x1 A9 N9 C9 A8 N8 C8 AA NA CA AB NB CB) I_ k_ z z fid<|ha.row 0 8 z) ?_
  obtain ⟨ai,aj,hmk⟩:=bdS huz;refine E z (fc call128 z<|c_J aj (zt' O h1.s) Y a0 a1 (a2.e h1) (J.e h1) (a3.e h1) (W.e h1)<|ii z) ?_;rintro _ _ ⟨s6,rfl⟩;refine R z (not_ z)<|Rm z ?_
  rcases bs (!ai) with G | G
  ·iterate 7 refine Nh z G ?_
   exact R z (pT z G z)<|Rm z<|Nh z z<|Nh z z<|Nh z z<|Nh z z<|Nh z z<|R z (pT z z z)<|Wl (fun _ q=>⟨true,som<|ifT hmk G,q.k<|s2 z z,s6⟩)
  have hml:=ifF hmk G;refine Rh z G (fd K_ z) ?_;have hd:=ha.e s6;refine Rh z G (l0 z_ z<|hd.at z) ?_;have hn:=(h1.ag B).e s6;have he:=W.g hn;refine Rh z G (lnR q_ z he)<|Rh z G (fd b_H z)<|Rh z G (l0 b_Q z<|hd.at z)<|Rh z G (lnR a_k z<|J.g hn)<|Rh z G (nq z z)<|R z (pF z G z)<|Rm z ?_
  rcases bs ((x1.kids.length:Int) != (x1.names.length:Int)) with I | I
  ·iterate 5 refine Nh z I ?_
   exact R z (pT z I z)<|Wl (fun _ q=>⟨true,som<|ifT hml I,q.k<|s2 z z,s6⟩)
  refine Rh z I (fd K_ z)<|Rh z I (l0 z_ z<|hd.at z)<|Rh z I (lnR q_ z he) ?_
  obtain ⟨ak,al,a4⟩:=bdS<|ifF hml I;refine Eg z z I z (fc call83 z<|c_I al (zt' O<|lt_ h1.s s6.s) (a_t<|repS.len he) (ii z)<|ii z) ?_;rintro _ _ ⟨am,rfl⟩;exact Rh z I (not_ z)<|R z (pF z I z)<|Wl (fun _ q=>⟨!ak,som a4,q.k<|s2 z z,bup s6 am⟩)
 rintro an L ⟨xb,rfl,_,s7⟩;revert an;refine Wo<|Wc z (fun hcc=>?_) (fun hcc=>?_)
 ·refine Ws<|Rw z ?_
  obtain rfl:=som<|ifT hmj hcc;exact Wr<|f_ hr z ⟨bup h1 s7,z⟩
 refine Wk<|Wq<|Ws<|Rf z b_H z ?_
 have ho:=ha.e s7;refine R z (l0 b_Q z<|ho.at z) ?_;have hp:=(h1.ag B).e s7;refine R z (lnR a_k z<|J.g hp)<|Rm z<|Wn ?_
 obtain ⟨_,a5,hmm⟩:=bdS<|ifF hmj hcc;refine Wf (σ:=Unit) (ρ:=Bool) (fun (kf:Nat)(_:Unit) a w=>Sat 44 [(1,pt w0.z),(25,sl A8 N8 C8),(26,vI (x1.names.length:Int)),(27,vI ((kf:Nat):Int))] a/\Below L.z L w) (fun (_:Unit) a w=>Sat 44 [] a/\Below L.z L w) (rQ prog fn<|Q0 w0 B) a5 ?_ ?_ ?_ ?_ ?_
 ·exact fun _ q=>⟨q.k<|s4 z z z z,br L⟩
 ·rintro kf _ _ wq _ hkr ⟨a6,s8⟩ a7;refine Wu ?_ a6;refine Ws<|Rl z z z<|Wn<|Wq<|Wc z (fun _=>?_) (fun hc=>(a_4 hkr hc).elim)
  refine Wk<|Wq<|Wb<|Wm z ?_
  obtain ⟨_,ao,a8⟩:=bdS a7;have ht:=hp.e s8;refine RX z (at_ (α:=Str) a_k z_9 z z z (J.g ht) ao) ?_;rintro _ ⟨_,_,_,rfl,ap,aq,_⟩;obtain ⟨rfl,hu⟩:=b_B aq;refine R z (l0 g_9 z<|ap.at0 z)<|Ra z<|Rw z<|Wq ?_
  obtain ⟨ar,a9,hms⟩:=bdS a8;refine Wt (fun a w=>∃(xg:Bool),xg=ar/\Sat 44 [(1,pt w0.z),(25,sl A8 N8 C8),(26,vI (x1.names.length:Int)),(27,vI ((kf:Nat):Int)),(42,vB xg)] a/\Below wq.z wq w) ?_ ?_
  ·refine Wg<|Rm z ?_
   have hv:=lt_ (lt_ h1.s s7.s) s8.s;obtain ⟨au,av,hmw⟩:=bdS a9;refine E z (fc call119 z<|W_w14 av (zt' O hv) hu) ?_;rintro _ _ ⟨s9,rfl⟩;refine R z (not_ z)<|Rm z ?_
   rcases bs (!au) with H | H
   ·iterate 6 refine Nh z H ?_
    exact R z (pT z H z)<|Wl (fun _ q=>⟨true,som<|ifT hmw H,q.k<|s5 z z z z z,s9⟩)
   refine Rh z H (fd b_H z)<|Rh z H (l0 b_Q z<|((ho.e s8).e s9).at z)<|Rh z H (mv z) ?_
   obtain ⟨_,aw,aa⟩:=bdS<|ifF hmw H;refine RXg z z H z (rX a_k z_9 z z (J.g<|ht.e s9) z z aw) ?_;rintro _ ⟨_,_,_,rfl,ax⟩;refine Rh z H (mv z) ?_;obtain ⟨ay,az,ab⟩:=bdS aa;refine Eg z z H z (fc call138 z<|W_w1q az (zt' O<|lt_ hv s9.s) ax hu) ?_;rintro _ _ ⟨aA,rfl⟩;exact R z (pF z H z)<|Wl (fun _ q=>⟨ay,som ab,q.k<|s5 z z z z z,bup s9 aA⟩)
  rintro aB _ ⟨xg,rfl,_,sx⟩;revert aB;refine Wo<|Wc z (fun hch=>?_) (fun hch=>?_)
  ·exact Ws<|Rw z<|Wr<|rtO<|qL (som<|ifT hms hch).symm<|f_ hr z ⟨bup (bup (bup h1 s7) s8) sx,z⟩
  exact Wk<|Wg<|R z (inc_ hkr (lt_ (repS.len J) L_) z z)<|Rm z<|Wl (fun _ q=>⟨(),(som<|ifF hms hch).symm,⟨q.k<|s4 z z z z,bup s8 sx⟩⟩)
 ·rintro _ _ _ ⟨ad,aC⟩;refine Wu ?_ ad;refine Ws<|Rl z z z<|Wn<|Wq<|Wc z (fun hc=>(a_5 hc).elim) (fun _=>?_)
  exact We<|fun _ q=>⟨rfl,⟨q.k sn,aC⟩⟩
 ·rintro _ aD _ rfl ⟨_,aE⟩;have ae:=elL hmm;revert aD;refine Wo<|Ws<|Rw z ?_
  obtain rfl:=som ae;exact Wr<|f_ hr z ⟨bup (bup h1 s7) aE,z⟩
 rintro _ _ _ _ rfl ⟨rfl,af⟩;have ah:=elR hmm;obtain rfl:=som ah;exact ⟨af,z⟩
theorem W_w1s {x1:d_}{x2:g_}{res:Bool}(hm:f_L x1 x2=some res)(O:B<=w0.z)(a4:repS w0 B (sl A0 N0 C0) x1.rules)(a5:x2.name.b.length<=LEN)(a6:inI x2.kind)(a7:inI x2.size)(a8:repS w0 B (sl A2 N2 C2) x2.bytes)(a9:repS w0 B (sl A4 N4 C4) x2.names)(J:repS w0 B (sl A1 N1 C1) x2.tags)(V:repS w0 B (sl A3 N3 C3) x2.kids):j_ prog 131 [(.agg #[sl A0 N0 C0]),(.agg #[Str.v x2.name,vI x2.kind,vI x2.size,vB x2.little,sl A2 N2 C2,sl A4 N4 C4,sl A1 N1 C1,sl A3 N3 C3])] w0 (Q0 w0 B res):=by
 unfold f_L at hm
 refine goG func131 z z z fun fn hr=>Ws<|E z (fb z) ?_
 rintro _ L ⟨rfl,hn⟩;have h4:=hn.below;refine E z (fb z) ?_;rintro _ wg ⟨rfl,ho⟩;have h3:=ho.below;have he:Blk wg L.z (vR x2 A2 N2 C2 A4 N4 C4 A1 N1 C1 A3 N3 C3):=ho.blk;refine Rw z<|Wq<|Wq ?_
 obtain ⟨aq,aa,hmp⟩:=bdS hm;refine Wt (fun a w=>∃(xh:Bool),xh=aq/\Sat 57 [(2,pt w0.z),(3,pt L.z),(21,vB xh)] a/\Below wg.z wg w) ?_ ?_
 ·refine Wg<|R z (lN (vs:=vR x2 A2 N2 C2 A4 N4 C4 A1 N1 C1 A3 N3 C3) I_ k_ z z fid<|he.row 0 8 z)<|Rf z a_r z<|R z (l0 z_ z<|he.at z) ?_
  have h6:=(h4.ag B).e h3;have hq:=J.g h6;refine R z (lnR q_ z hq)<|R z (add_ z z) ?_
  have ht:=lt_ h4.s h3.s;obtain ⟨ar,au,hmr⟩:=bdS aa;refine E z (fc call128 z<|c_J au (zt' O ht) a5 a6 a7 (a8.g h6) (a9.g h6) hq (V.g h6)<|iA _ _) ?_;rintro _ _ ⟨s9,rfl⟩;refine R z (not_ z)<|Rm z ?_
  rcases bs (!ar) with I | I
  ·iterate 5 refine Nh z I ?_
   exact R z (pT z I z)<|Wl (fun _ q=>⟨true,som<|ifT hmr I,q.k<|s3 z z z,s9⟩)
  refine Rh z I (fd a_r z)<|Rh z I (l0 z_ z<|(he.e s9).at z) ?_
  have hu:=J.g<|h6.e s9
  refine Rh z I (lnR q_ z hu) ?_;obtain ⟨av,aw,ab⟩:=bdS<|ifF hmr I;refine Eg z z I z (fc call83 z<|c_I aw (zt' O<|lt_ ht s9.s) (a_t<|repS.len hu) (ii z)<|ii z) ?_;rintro _ _ ⟨ax,rfl⟩;exact Rh z I (not_ z)<|R z (pF z I z)<|Wl (fun _ q=>⟨!av,som ab,q.k<|s3 z z z,bup s9 ax⟩)
 rintro ay _ ⟨xh,rfl,_,s7⟩;revert ay;refine Wo<|Wc z (fun hci=>?_) (fun hci=>?_)
 ·refine Ws<|Rw z ?_
  obtain rfl:=som<|ifT hmp hci;exact Wr<|f_ hr z ⟨bup (bup h4 h3) s7,z⟩
 refine Wk<|Wq (Wd (X:=noX) 0 (pl_ 7 [5]) mo (by kernel_rfl) fun aV s8 _=>dR z z (lN (vs:=[sl A0 N0 C0]) s_ p_ z z fid<|((((hn.blk:Blk L w0.z [sl A0 N0 C0]).e h3).e s7).e s8).row 0 1 z)<|dR z z (fd K_ z) ?_)
 have hv:=(he.e s7).e s8;refine dR z z (l0 z_ z<|hv.at z) ?_;obtain ⟨_,az,ad⟩:=bdS<|ifF hmp hci;have hj:=(((h4.ag B).e h3).e s7).e s8;refine dRX z z (at_ (α:=Int) q_ z_3 z z z (V.g hj) az) ?_;rintro _ ⟨_,_,_,rfl,aA,aB,_⟩;obtain ⟨rfl,aC⟩:=J_ aB;refine dR z z (l0 g_3 z<|aA.at0 z) ?_;have hw:=lt_ (lt_ (lt_ h4.s h3.s) s7.s) s8.s;obtain ⟨rk,aD,ae⟩:=bdS ad;refine dE z z (fc call129 z<|i_B aD (zt' O hw) (a4.g hj) aC) (.inr fun _ _ h=>B_<|h.1) ?_;rintro _ wa ⟨sb,rfl,aE⟩;refine dQ z z z<|pD<|Wo<|Wq<|Ws<|Rf z a_r z ?_
 have hx:=hv.e sb;refine R z (l0 z_ z<|hx.at z) ?_;have hy:=hj.e sb;refine R z (lnR q_ z<|J.g hy)<|Rm z<|Wn ?_
 obtain ⟨_,af,hms⟩:=bdS ae;refine Wf (σ:=Unit) (ρ:=Bool) (fun (kf:Nat)(_:Unit) a w=>Sat 57 [(3,pt L.z),(5,vI rk),(29,sl A1 N1 C1),(30,vI (x2.tags.length:Int)),(31,vI ((kf:Nat):Int))] a/\Below wa.z wa w) (fun (_:Unit) a w=>Sat 57 [(5,vI rk)] a/\Below wa.z wa w) (rQ prog fn<|Q0 w0 B) af ?_ ?_ ?_ ?_ ?_
 ·exact fun _ q=>⟨q.k<|s5 z z z z z,br wa⟩
 ·rintro kf _ _ wz _ W ⟨ah,sc⟩ ai;refine Wu ?_ ah;refine Ws<|Rl z z z<|Wn<|Wq<|Wc z (fun _=>?_) (fun hc=>(a_4 W hc).elim)
  refine Wk<|Wq<|Wb<|Wm z ?_
  obtain ⟨aF,aG,aj⟩:=bdS ai;have a2:=hy.e sc;refine RX z (at_ (α:=Int) q_ z_3 z z z (J.g a2) aG) ?_;rintro _ ⟨_,_,_,rfl,aH,aI,_⟩;obtain ⟨rfl,aJ⟩:=J_ aI;refine R z (l0 g_3 z<|aH.at0 z)<|Ra z<|Rw z<|Wq ?_
  obtain ⟨aK,ak,Y⟩:=bdS aj;refine Wt (fun a w=>∃(xl:Bool),xl=aK/\Sat 57 [(3,pt L.z),(5,vI rk),(29,sl A1 N1 C1),(30,vI (x2.tags.length:Int)),(31,vI ((kf:Nat):Int)),(53,vB xl)] a/\Below wz.z wz w) ?_ ?_
  ·refine Wg<|RM z z ?_
   obtain ⟨aL,aM,a0⟩:=bdS ak;refine E z (fc call83 z<|c_I aM (zt' O<|lt_ (lt_ hw sb.s) sc.s) aJ (ii z) aE) ?_;rintro _ _ ⟨sd,rfl⟩;refine R z (not_ z)<|Rm z ?_
   rcases bs (!aL) with H | H
   ·iterate 3 refine Nh z H ?_
    exact Nv z<|Nv z<|Nv z<|Nv z<|Nv z<|Nv z<|Nv z<|Nv z<|Nh z H<|R z (pT z H z)<|Wl (fun _ q=>⟨true,som<|ifT a0 H,q.k<|s6 z z z z z z,sd⟩)
   have a1:=ifF a0 H;refine Rh z H (mv z)<|Rh z H (a_d z z)<|Rh z H (mv z) ?_
   rcases bs (decide<|0<((kf:Nat):Int)) with G | G
   ·refine Rh z G (fd a_r z)<|Rh z G (l0 z_ z<|((hx.e sc).e sd).at z)<|Rh z G (mv z)<|Rh z G (sb_ z z) ?_
    obtain ⟨aN,aO,al⟩:=bdS<|ifT a1 G;refine RXg z z G z (at_ (α:=Int) q_ z_3 z z z (J.g<|a2.e sd) aO) ?_;rintro _ ⟨_,_,_,rfl,aP,aQ,_⟩;obtain ⟨rfl,_⟩:=J_ aQ;exact Rh z G (l0 g_3 z<|aP.at0 z)<|Rh z G (mv z)<|Rh z G (b_e z z)<|Rh z H (pT z G z)<|R z (pF z H z)<|Wl (fun _ q=>⟨decide<|aF<=aN,som al,q.k<|s6 z z z z z z,sd⟩)
   iterate 8 refine Nh z G ?_
   exact Rh z H (pF z G z)<|R z (pF z H z)<|Wl (fun _ q=>⟨false,som<|ifF a1 G,q.k<|s6 z z z z z z,sd⟩)
  rintro aR _ ⟨xl,rfl,_,a3⟩;revert aR;refine Wo<|Wc z (fun hcm=>?_) (fun hcm=>?_)
  ·exact Ws<|Rw z<|Wr<|rtO<|qL (som<|ifT Y hcm).symm<|f_ hr z ⟨bup (bup (bup (bup (bup (bup h4 h3) s7) s8) sb) sc) a3,z⟩
  exact Wk<|Wg<|R z (inc_ W (lt_ (repS.len J) L_) z z)<|Rm z<|Wl (fun _ q=>⟨(),(som<|ifF Y hcm).symm,⟨q.k<|s5 z z z z z,bup sc a3⟩⟩)
 ·rintro _ _ _ ⟨am,aS⟩;refine Wu ?_ am;refine Ws<|Rl z z z<|Wn<|Wq<|Wc z (fun hc=>(a_5 hc).elim) (fun _=>?_)
  exact We<|fun _ q=>⟨rfl,⟨q.k<|s1 z,aS⟩⟩
 ·rintro _ aT _ rfl ⟨_,aU⟩;have an:=elL hms;revert aT;refine Wo<|Wm z<|R z (a_d z z)<|Rw z ?_
  obtain rfl:=som an;exact Wr<|f_ hr z ⟨bup (bup (bup (bup (bup h4 h3) s7) s8) sb) aU,z⟩
 rintro _ _ _ _ rfl ⟨rfl,ao⟩;have ap:=elR hms;obtain rfl:=som ap;exact ⟨ao,z⟩
end Go.Vw
