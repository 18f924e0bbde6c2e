
import Derived.Test.YtadehdicfeopeaaGreatDoorVmB
import Derived.Test.YtadehdicfeopeaaGreatDoorVwKFacts
import Derived.Test.YtadehdicfeopeaaGreatDoorVwKExt
import Derived.ScopeJumps
import Derived.Laws.CopyRow
import Derived.Laws.IdiomStrings
import Derived.Lib.AppendStr
import Derived.Recover
import Derived.Tactics
import Derived.Tactics2
import Derived.Laws.Pointers
import Derived.Lib.Hide
set_option linter.unusedVariables false
namespace Go.Vw
open Go.RowKit Dat Go.Proofs
open Go.Proofs.Tryz
open Go.Vw renaming f_g->Wq,f_i->Wg,WC.of_KC->Wo,e_z->Wl,f_h->Wc,h_7->Wr,i_5->Wu,h_A->pT,h_B->pF,f_S->fd,f_T->l1,i_a->lN,e_Q->mv,e_R->asg,h_C->lnR,f_Y->lss,f_X->eql,f_U->ext_,h_G->bP,f_V->add_,h_n->inc_,i_f->not_,h_D->at_,h_h->fc,e_2->fs,h_g->fb,f_z->fa,h_t->sr,h_y->cr,h_z->cM,h_x->bM,h_k->iS,h_j->iA,h_m->br,f_D->oA,h_p->bs,ltge->lg,inor->io,i_e->nq,i_b->lnT,i_c->sb_,h_r->ar_,h_q->al_,h_s->ds,i_O->m1,h_v->nr_,h_u->nl_,f_E->aa_,d_w->an_,e_y->Wb,f_C->u8,h_c->pD,h_8->We,h_l->Wt,h_i->fS,e_x->or_,i_6->Wf,h_P->qL,h_b->Wd,h_H->fN,f_F->na_,h_w->nj,h_J->f0,h_F->rX,h_K->tl_,h_L->ic
variable {A0:Option Addr}{N0 C0:Nat}{B:Zone}{w0:World}{n:Nat}{A5:Option Addr}{N5 C5:Nat}{AB:Option Addr}{A8:Option Addr}{AC:Option Addr}{AD:Option Addr}{NB CB:Nat}{N8 C8:Nat}{NC CC:Nat}{ND CD:Nat}{A2:Option Addr}{A3:Option Addr}{A1:Option Addr}{A4:Option Addr}{N2 C2:Nat}{N3 C3:Nat}{N1 C1:Nat}{N4 C4:Nat}{A9:Option Addr}{AA:Option Addr}{N9 C9:Nat}{NA CA:Nat}{AE:Option Addr}{AF:Option Addr}{NE CE:Nat}{NF CF:Nat}{A7:Option Addr}{N7 C7:Nat}{A6:Option Addr}{N6 C6:Nat}
def Q0 (w0:World)(B:Zone)(r:Bool)(v:Value)(w':World):Prop:=Bw w0 w'/\(fun G=>(vB G)=v) r
theorem W_w21 {x1:List UInt8}{res:Bool}(hm:h_d x1=some res)(H:B<=w0.z)(G:repS w0 B (sl A0 N0 C0) x1):n_ prog 4 [sl A0 N0 C0] w0 (Q0 w0 B res):=by
 unfold h_d at hm
 refine goG func4 z z z fun fn hr=>Ws<|Rw z<|Wm z<|R z (lnR p_ z G)<|R z (a_e z z)<|Rw z ?_
 obtain rfl:=som hm;exact Wr<|h_ hr z ⟨br w0,z⟩
def Q1 (w0:World)(B:Zone)(r:E_)(v:Value)(w':World):Prop:=Bw w0 w'/\(fun G=>∃g1 a2 H I,(pt g1)=v/\Blk w' g1 [.slice a2 H I,vI G.i,vI G.h]/\w0.z<=g1/\repS w' B (sl a2 H I) G.b/\inI G.i/\inI G.h) r
theorem W_w22 {x1:List UInt8}{res:E_}(hm:f_s n x1=some res)(L:B<=w0.z)(H:repS w0 B (sl A0 N0 C0) x1):n_ prog 14 [sl A0 N0 C0] w0 (Q1 w0 B res):=by
 unfold f_s at hm
 refine goG func14 z z z fun fn hr=>Ws<|Rw z<|Wm z<|R z (lnR p_ z H)<|R z (add_ z z)<|Rw z<|Wq<|Ws<|Rw z ?_
 obtain ⟨_,huh,hma⟩:=bdS hm;refine b_M (σ:=Int×Int) (ρ:=E_) (fun s a w=>un2 (fun x0 x2=>Sat 32 [(0,sl A0 N0 C0),(3,vI x0),(4,vI x2)] a/\Below w0.z w0 w/\inI x0/\inI x2) s) (fun s a w=>un2 (fun x0 x2=>Sat 32 [(0,sl A0 N0 C0),(3,vI x0)] a/\Below w0.z w0 w/\inI x0/\inI x2) s) (rQ prog fn<|Q1 w0 B) huh ?_ ?_ ?_ ?_
 ·exact fun _ q=>⟨q.k<|s3 z z z,br w0,iA _ _,ii z⟩
 ·rintro ⟨x0,x2⟩ _ I _ ⟨hSi,s5,h4,hb⟩ hmj;refine Wu ?_ hSi;refine Wq<|Wq ?_
  obtain ⟨ul,huc,hmd⟩:=bdS<|a_G hmj;refine Wt (fun a w=>∃(x6:Bool),x6=ul/\Sat 32 [(0,sl A0 N0 C0),(3,vI x0),(4,vI x2),(15,vB x6)] a/\Below I.z I w) ?_ ?_
  ·refine Wg<|RM z z<|R z (lnR p_ z<|H.e s5)<|Rl z z z<|Rm z ?_
   rcases bs (decide<|x2<(x1.length:Int)) with G | G
   ·exact Rh z G (mv z)<|Rh z G (lss z z)<|R z (pT z G z)<|Wl (fun _ q=>⟨decide<|x2<4000,som<|ifT huc G,q.k<|s4 z z z z,br I⟩)
   exact Nh z G<|Nh z G<|R z (pF z G z)<|Wl (fun _ q=>⟨false,som<|ifF huc G,q.k<|s4 z z z z,br I⟩)
  rintro am _ ⟨x6,rfl,_,s7⟩;revert am;refine Wo<|Wc z (fun J=>?_) (fun J=>?_)
  ·refine Wk<|Wq<|Wb<|Wg<|Rm z<|R z (c_m z z)<|RM z z ?_
   obtain ⟨xn,eo,hmp⟩:=bdS<|ifT hmd J;refine RX z (at_ (α:=UInt8) p_ z_5 z z z (H.g<|(s5.ag B).e s7) eo) ?_;rintro _ ⟨_,_,_,rfl,hq,ht,_⟩;obtain rfl:=u8 ht;exact R z (l0 g_5 z<|hq.at0 z)<|R z (b_U d_5 d_3 z)<|R z (add_ z z)<|R z (add_ z z)<|R z (j_F z z)<|Rw z<|Wg<|Rm z<|R z (add_ z z)<|Ra z<|Wl (fun _ q=>⟨(a_A .i64 (· &&& ·) (g_ (g_ (a_1 x0 137)<|byteI xn) 11) 1073741823,g_ x2 1),(som hmp).symm,⟨q.k<|s3 z z z,bup s5 s7,f_G _ _ _,iA _ _⟩⟩)
  exact We<|fun _ q=>b_t (som<|ifF hmd J).symm ⟨q.k<|s2 z z,bup s5 s7,h4,hb⟩
 ·rintro ⟨x0,x2⟩ ar we rfl ⟨_,s9,h4,hb⟩;have hms:=elL hma;revert ar;refine Wo<|Wm z<|Rm z<|R z (bP (parts:=[(0,.tmp 28),(2,.tmp 29)]) (cs:=[sl A0 N0 C0,vI 0,vI x0]) o_0 z z)<|E z (fb z) ?_
  rintro _ wv ⟨rfl,hf⟩;have hg:=hf.below;refine Rw z ?_
  obtain rfl:=som<|a_G hms;exact Wr<|h_ hr z ⟨bup s9 hg,we.z,A0,N0,C0,z,(hf.blk:Blk wv we.z [sl A0 N0 C0,vI 0,vI x0]),atp<|m1 s9.s,H.g<|(s9.ag B).e hg,ii z,h4⟩
 rintro _ _ _ _ rfl ⟨rfl,hqx⟩;have hmy:=elR hma;obtain rfl:=som hmy;exact ⟨hqx,z⟩
def Q2 (w0:World)(g1:Nat)(B:Zone)(A0:Option Addr)(N0 C0:Nat)(x1:E_)(r:Int×Int×Int)(v:Value)(w':World):Prop:=Chg (· ∈ [g1]) w0 w'/\un3 (fun G H I=>(vI G)=v/\inI G/\inI H/\inI I/\Blk w' g1 [sl A0 N0 C0,vI H,vI I]) r
theorem f_L {x1:E_}{g1:Nat}{res:Int×Int×Int}(hm:c_C x1=some res)(hB1:Blk w0 g1 [sl A0 N0 C0,vI x1.i,vI x1.h])(V:B<=w0.z)(hBg:¬B g1)(J:repS w0 B (sl A0 N0 C0) x1.b)(L:inI x1.i)(O:inI x1.h):n_ prog 59 [pt g1] w0 (Q2 w0 g1 B A0 N0 C0 x1 res):=by
 unfold c_C at hm
 refine goG func59 z z z fun fn hr=>Ws<|Rw z<|Wm z<|Rm z<|R z (V_ z)<|Rf z h_V z<|R z (l0 g_3 z<|hB1.at z)<|R z (c_m z z)<|R z (add_ z z)<|R z (V_ z)<|Rf z h_V z<|E0 (fs0 (cur':=[sl A0 N0 C0,vI x1.i,(vI<|g_ (a_1 x1.h 6364136223846793005) 1442695040888963407)]) z_3 z z hB1 z z z z) ?_
 rintro _ wd ⟨he,sf⟩;have ha:=sf.one;refine Wn<|Wq (Wd (X:=noX) 0 (pl_ 13 []) mo (by kernel_rfl) fun wg s5 _=>dM z z z<|dR z z (V_ z)<|dR z z (fd h_V z) ?_)
 have h6:=he.e s5;refine dR z z (l0 g_3 z<|h6.at z)<|dR z z (j_G z z (by decide))<|dM z z z<|dR z z (V_ z)<|dR z z (fd h_V z)<|dR z z (l0 g_3 z<|h6.at z)<|dR z z (j_G z z (by decide))<|dR z z (rd_xor z z)<|dR z z (j_F z z)<|dQ z z z<|pD<|Wo<|Wq<|Wq (Wd (X:=noX) 0 (pl_ 10 []) mo (by kernel_rfl) fun G s7 _=>dM z z z<|dR z z (V_ z)<|dR z z (fd h_U z) ?_)
 have H:=h6.e s7;refine dR z z (l0 g_3 z<|H.at z)<|dM z z z<|dR z z (V_ z)<|dR z z (fd k_R z)<|dR z z (l0 P_ z<|H.at z) ?_
 have hb:=((ha.agc B<|b_<|c_ hBg).e s5).e s7;refine dR z z (lnR p_ z<|J.g hb)<|dR z z (lss z z)<|pD<|Wo ?_
 obtain ⟨uh,huc,hmi⟩:=bdS hm;refine Wt (fun a w=>∃(x2:Int)(x3:Int),(x2,x3)=uh/\Sat 58 [(3,vI x2)] a/\Chg (· ∈ [g1]) G w/\inI x2/\inI x3/\Blk w g1 [sl A0 N0 C0,vI x3,(vI<|g_ (a_1 x1.h 6364136223846793005) 1442695040888963407)]) ?_ ?_
 ·refine Wc z (fun I=>?_)<|fun I=>?_
  ·refine Wq (Wd (X:=noX) 0 (pl_ 15 []) mo (by kernel_rfl) fun wj s9 _=>dM z z z<|dM z z z<|dR z z (V_ z)<|dR z z (fd k_R z) ?_);have h4:=H.e s9;refine dR z z (l0 P_ z<|h4.at z)<|dM z z z<|dR z z (V_ z)<|dR z z (fd h_U z)<|dR z z (l0 g_3 z<|h4.at z) ?_
   obtain ⟨xk,el,hmm⟩:=bdS<|ifT huc I;refine dRX z z (at_ (α:=UInt8) p_ z_5 z z z (J.g<|hb.e s9) el) ?_;rintro _ ⟨_,_,_,rfl,hn,ho,_⟩;obtain rfl:=u8 ho;refine dR z z (l0 g_5 z<|hn.at0 z)<|dR z z (b_U d_5 d_3 z)<|dR z z (add_ z z)<|dR z z (j_F z z)<|dQ z z z<|pD<|Wo<|Wg<|RM z z<|R z (V_ z)<|Rf z h_U z<|R z (l0 g_3 z<|h4.at z)<|R z (add_ z z)<|R z (V_ z)<|Rf z h_U z<|E0 (fs0 (cur':=[sl A0 N0 C0,vI<|g_ x1.i 1,(vI<|g_ (a_1 x1.h 6364136223846793005) 1442695040888963407)]) z_3 z z h4 z z z z) ?_
   rintro _ wp ⟨hq,ss⟩;refine Wl ?_;exact fun _ q=>⟨a_A .i64 (· &&& ·) (g_ (a_A .i64 (· &&& ·) (a_A .i64 (· ^^^ ·) (c_5 .i64 (g_ (a_1 x1.h 6364136223846793005) 1442695040888963407) 33)<|c_5 .i64 (g_ (a_1 x1.h 6364136223846793005) 1442695040888963407) 47) 255)<|byteI xk) 255,g_ x1.i 1,som hmm,q.k<|s1 z,(cM (f_ (cr [g1] G) s9:Chg (· ∈ [g1]) G wj) ss.one (io sr):Chg (· ∈ [g1]) G wp),f_G _ _ _,iA _ _,hq⟩
  exact a_7<|fun _ q=>⟨a_A .i64 (· &&& ·) (a_A .i64 (· ^^^ ·) (c_5 .i64 (g_ (a_1 x1.h 6364136223846793005) 1442695040888963407) 33)<|c_5 .i64 (g_ (a_1 x1.h 6364136223846793005) 1442695040888963407) 47) 255,x1.i,som<|ifF huc I,q.k<|s1 z,cr [g1] G,f_G _ _ _,L,H⟩
 rintro ar wv ⟨x2,x3,rfl,_,sw,hx,hy,hz⟩;revert ar;refine Wo<|Wm z<|Rw z ?_
 obtain rfl:=som<|a_G hmi;exact Wr<|h_ hr z ⟨(cM (f_ (f_ (cM (cr [g1] w0) ha (io sr):Chg (· ∈ [g1]) w0 wd) s5:Chg (· ∈ [g1]) w0 wg) s7:Chg (· ∈ [g1]) w0 G) sw (io sr):Chg (· ∈ [g1]) w0 wv),z,hx,hy,iA _ _,hz⟩
theorem b_q {x1:E_}{g1:Nat}{x2:Int}{res:Int×Int×Int}(hm:a_l x1 x2=some res)(hB1:Blk w0 g1 [sl A0 N0 C0,vI x1.i,vI x1.h])(I:B<=w0.z)(hBg:¬B g1)(H:repS w0 B (sl A0 N0 C0) x1.b)(J:inI x1.i)(L:inI x1.h)(a1:inI x2):n_ prog 30 [pt g1,vI x2] w0 (Q2 w0 g1 B A0 N0 C0 x1 res):=by
 unfold a_l at hm
 refine goG func30 z z z fun fn hr=>Ws<|Rw z<|Wq<|Wm z<|R z (b_C z z)<|Wx z (fun O=>?_) (fun O=>?_)
 ·refine Ws<|Rw z ?_
  obtain rfl:=som<|ifT hm O;exact Wr<|h_ hr z ⟨cr [g1] w0,z,ii z,J,L,hB1⟩
 have W:=ifF hm O;refine Wk<|Wq<|Wm z<|R z (b_C z z)<|Wx z (fun V=>?_) (fun V=>?_)
 ·refine Wm z ?_
  obtain ⟨_,_,_,e5,a0⟩:=v_<|ifT W V;refine E z (fc call59 z<|f_L (B:=B) e5 hB1 I hBg H J L) ?_;rintro _ w7 ⟨s8,rfl,h9,ha,hb,hc⟩;refine Rm z ?_;obtain ⟨_,ed,hme⟩:=bdS a0;refine R z (f_W z z<|nzS ed)<|Rw z ?_
  obtain rfl:=som hme;exact Wr<|h_ hr z ⟨(cM (cr [g1] w0) s8 (io sr):Chg (· ∈ [g1]) w0 w7),z,f_A h9,ha,hb,hc⟩
 refine Wk<|Wm z ?_
 obtain ⟨_,_,_,eg,hmh⟩:=v_<|ifF W V;refine E z (fc call59 z<|f_L (B:=B) eg hB1 I hBg H J L) ?_;rintro _ wi ⟨G,rfl,_,hj,hk,hl⟩;refine Rw z<|Wm z ?_
 obtain ⟨_,_,_,em,hmn⟩:=v_ hmh;refine E z (fc call59 z<|f_L (B:=B) em hl (zt' I G.s) hBg (H.c G<|b_<|c_ hBg) hj hk) ?_;rintro _ wo ⟨s3,rfl,_,hp,hq,ht⟩;refine Rw z<|Wm z ?_
 obtain ⟨_,_,_,er,hms⟩:=v_ hmn;refine E z (fc call59 z<|f_L (B:=B) er ht (zt' I<|lt_ G.s s3.s) hBg (H.g<|(G.agc B<|b_<|c_ hBg).c s3<|b_<|c_ hBg) hp hq) ?_;rintro _ wu ⟨sv,rfl,_,hw,hx,hy⟩;refine Rw z<|Wm z<|R z (c_m z z)<|Rm z<|R z (c_m z z)<|R z (add_ z z)<|Rm z<|R z (add_ z z)<|Rm z ?_
 obtain ⟨_,ez,Y⟩:=bdS hms;refine R z (f_W z z<|nzS ez)<|Rw z ?_
 obtain rfl:=som Y;exact Wr<|h_ hr z ⟨(cM (cM (cM (cr [g1] w0) G (io sr):Chg (· ∈ [g1]) w0 wi) s3 (io sr):Chg (· ∈ [g1]) w0 wo) sv (io sr):Chg (· ∈ [g1]) w0 wu),z,f_A<|iA _ _,hw,hx,hy⟩
def Q3 (w0:World)(g1:Nat)(B:Zone)(A0:Option Addr)(N0 C0:Nat)(x1:E_)(r:Str×Int×Int)(v:Value)(w':World):Prop:=Chg (· ∈ [g1]) w0 w'/\un3 (fun G H I=>(Str.v G)=v/\G.b.length<=LEN/\inI H/\inI I/\Blk w' g1 [sl A0 N0 C0,vI H,vI I]) r
theorem W_w17 {x1:E_}{g1:Nat}{x2:List Str}{res:Str×Int×Int}(hm:c_D x1 x2=some res)(hB1:Blk w0 g1 [sl A0 N0 C0,vI x1.i,vI x1.h])(O:B<=w0.z)(hBg:¬B g1)(I:repS w0 B (sl A0 N0 C0) x1.b)(J:inI x1.i)(L:inI x1.h)(G:repS w0 B (sl A5 N5 C5) x2):n_ prog 57 [pt g1,sl A5 N5 C5] w0 (Q3 w0 g1 B A0 N0 C0 x1 res):=by
 unfold c_D at hm
 refine goG func57 z z z fun fn hr=>Ws<|Rw z<|Wm z<|RM z z<|R z (lnR a_j z G) ?_
 obtain ⟨_,_,_,Y,V⟩:=v_ hm;refine E z (fc call30 z<|b_q (B:=B) Y hB1 O hBg I J L<|a_N<|repS.len G) ?_;rintro _ w3 ⟨H,rfl,_,h4,h5,h6⟩;obtain ⟨_,e7,W⟩:=bdS V;refine RX z (at_ (α:=Str) a_j z_9 z z z (G.c H<|b_<|c_ hBg) e7) ?_;rintro _ ⟨_,_,_,rfl,h9,ha,_⟩;obtain ⟨rfl,hb⟩:=b_K ha;refine R z (l0 g_9 z<|h9.at0 z)<|Rw z ?_
 obtain rfl:=som W;exact Wr<|h_ hr z ⟨(cM (cr [g1] w0) H (io sr):Chg (· ∈ [g1]) w0 w3),z,hb,h4,h5,h6⟩
def Q4 (w0:World)(B:Zone)(r:Str)(v:Value)(w':World):Prop:=Bw w0 w'/\(fun G=>(Str.v G)=v/\G.b.length<=LEN) r
theorem e_L {x1:Int}{res:Str}(hm:b_y n x1=some res)(V:B<=w0.z)(O:inI x1):n_ prog 28 [vI x1] w0 (Q4 w0 B res):=by
 unfold b_y at hm
 refine goG func28 z z z fun fn hr=>Ws<|Rw z<|Wq<|Wm z<|Rq z z z<|Wx z (fun H=>?_) (fun H=>?_)
 ·refine Ws<|Rw z ?_
  obtain rfl:=som<|ifT hm H;exact Wr<|h_ hr z ⟨br w0,z,lb z⟩
 refine Wk<|Ws<|Rw z<|Wq<|Wm z<|Rw z ?_
 obtain ⟨_,huj,hmb⟩:=bdS<|ifF hm H;refine b_M (σ:=Str×Int) (ρ:=Str) (fun s a w=>un2 (fun x2 x0=>Sat 31 [(0,vI x1),(3,Str.v x2),(4,vI x0)] a/\Below w0.z w0 w/\x2.b.length<=LEN/\inI x0) s) (fun s a w=>un2 (fun x2 x0=>Sat 31 [(0,vI x1),(3,Str.v x2)] a/\Below w0.z w0 w/\x2.b.length<=LEN/\inI x0) s) (rQ prog fn<|Q4 w0 B) huj ?_ ?_ ?_ ?_
 ·exact fun _ q=>⟨q.k<|s3 z z z,br w0,lb z,O⟩
 ·rintro ⟨x2,x0⟩ _ G _ ⟨hSk,sc,h5,h6⟩ hml;have hmd:=a_G hml;refine Wu ?_ hSk;refine Wq<|Wm z<|R z (nq z z)<|Wx z (fun I=>?_) (fun I=>?_)
  ·refine Wk<|Wq<|Wb<|Wm z<|R z (f_W z z (by decide))<|Rw z<|Wq<|Wm z<|Rl z z z<|Wn ?_
   obtain ⟨um,hue,hmn⟩:=bdS<|ifT hmd I;refine Wt (fun a w=>∃(x3:Int),x3=um/\Sat 31 [(0,vI x1),(3,Str.v x2),(4,vI x0),(5,vI x3)] a/\Below G.z G w/\inI x3) ?_ ?_
   ·refine Wc z (fun J=>?_)<|fun J=>?_
    ·exact Wg<|Rm z<|R z (rd_neg z)<|Ra z<|Wl (fun _ q=>⟨e_P<|b_6 x0 10,som<|ifT hue J,q.k<|s4 z z z z,br G,n_4 _⟩)
    exact a_7<|fun _ q=>⟨b_6 x0 10,som<|ifF hue J,q.k<|s4 z z z z,br G,f_A h6⟩
   rintro ao wp ⟨x3,rfl,_,sq,_⟩;revert ao;refine Wo<|Wg<|Rm z<|R z (add_ z z)<|R z (e_4 d_3 d_5 z)<|E z (fS [(.tmp 21)] a_9 z z z (a_c z) (lb z)<|lb z) ?_
   rintro _ wr ⟨rfl,L⟩;have W:Blk wr wp.z [(vU<|byteI<|mkB<|g_ 48 x3)]:=L.blk;refine R z (n_m p_ d_9 d_5 z_5 z<|a_.rep<|a_x L b_c)<|Rm z ?_
   obtain ⟨xs,ef,hmt⟩:=bdS hmn;exact R z (c_g z z ef)<|Rw z<|Wg<|Rm z<|R z (e_c z z (by decide))<|Ra z<|Wl (fun _ q=>⟨(xs,b_N x0 10),(som hmt).symm,⟨q.k<|s3 z z z,bup (bup sc sq) L.below,c_f ef,e_3 _ _⟩⟩)
  exact We<|fun _ q=>b_t (som<|ifF hmd I).symm ⟨q.k<|s2 z z,sc,h5,h6⟩
 ·rintro ⟨x2,x0⟩ au _ rfl ⟨_,sg,h5,h6⟩;have hmv:=elL hmb;have hmh:=a_G hmv;revert au;refine Wo<|Wq<|Wm z<|Rl z z z<|Wx z (fun hca=>?_) (fun hca=>?_)
  ·refine Wm z ?_
   obtain ⟨_,ei,hmw⟩:=bdS<|ifT hmh hca;refine R z (c_g z z ei)<|Rw z ?_
   obtain rfl:=som hmw;exact Wr<|h_ hr z ⟨sg,z,c_f ei⟩
  refine Wk<|Wm z<|Rw z ?_
  obtain rfl:=som<|ifF hmh hca;exact Wr<|h_ hr z ⟨sg,z,h5⟩
 rintro _ _ _ _ rfl ⟨rfl,hqx⟩;have hmy:=elR hmb;obtain rfl:=som hmy;exact ⟨hqx,z⟩
def Q5 (w0:World)(g1:Nat)(B:Zone)(A0:Option Addr)(N0 C0:Nat)(x1:E_)(r:Bool×Int×Int)(v:Value)(w':World):Prop:=Chg (· ∈ [g1]) w0 w'/\un3 (fun I G H=>(vB I)=v/\inI G/\inI H/\Blk w' g1 [sl A0 N0 C0,vI G,vI H]) r
theorem j_3 {x1:E_}{g1:Nat}{x2:Int}{res:Bool×Int×Int}(hm:d_Y x1 x2=some res)(hB1:Blk w0 g1 [sl A0 N0 C0,vI x1.i,vI x1.h])(L:B<=w0.z)(hBg:¬B g1)(G:repS w0 B (sl A0 N0 C0) x1.b)(H:inI x1.i)(I:inI x1.h)(J:inI x2):n_ prog 37 [pt g1,vI x2] w0 (Q5 w0 g1 B A0 N0 C0 x1 res):=by
 unfold d_Y at hm
 refine goG func37 z z z fun fn hr=>Ws<|Rw z<|Wm z<|Rm z ?_
 obtain ⟨_,_,_,V,O⟩:=v_ hm;refine E z (fc call30 z<|b_q (B:=B) V hB1 L hBg G H I J) ?_;rintro _ W ⟨s3,rfl,_,h4,h5,h6⟩;refine Rq z z z<|Rw z ?_
 obtain rfl:=som O;exact Wr<|h_ hr z ⟨(cM (cr [g1] w0) s3 (io sr):Chg (· ∈ [g1]) w0 W),z,h4,h5,h6⟩
def Q6 (w0:World)(g1:Nat)(B:Zone)(A0:Option Addr)(N0 C0:Nat)(x1:E_)(r:(List UInt8)×Int×Int)(v:Value)(w':World):Prop:=Chg (· ∈ [g1]) w0 w'/\un3 (fun O G H=>∃I J L S1,(sl I J L)=v/\a_ w' S1 (sl I J L) O/\inI G/\inI H/\Blk w' g1 [sl A0 N0 C0,vI G,vI H]/\S1.Nodup/\(∀k∈S1,w0.z<=k)) r
theorem j_4 {x1:E_}{g1:Nat}{x2:Int}{res:(List UInt8)×Int×Int}(hm:d_Z x1 x2=some res)(hB1:Blk w0 g1 [sl A0 N0 C0,vI x1.i,vI x1.h])(V:B<=w0.z)(hBg:¬B g1)(W:repS w0 B (sl A0 N0 C0) x1.b)(Y:inI x1.i)(a0:inI x1.h)(a1:inI x2):n_ prog 36 [pt g1,vI x2] w0 (Q6 w0 g1 B A0 N0 C0 x1 res):=by
 unfold d_Z at hm
 refine goG func36 z z z fun fn hr=>Ws<|Rw z<|Ws<|E z (f0 (α:=UInt8) a_9) ?_
 rintro _ G ⟨ar,ns,ct,rfl,s8,hu⟩;refine Rw z<|Wq<|Ws<|Rw z ?_
 obtain ⟨_,huv,hmj⟩:=bdS hm;refine Wf (σ:=(List UInt8)×Int×Int) (ρ:=(List UInt8)×Int×Int) (fun (kk:Nat) s a w=>un3 (fun O x5 x6=>∃a2 I J H,Sat 20 [(0,pt g1),(1,vI x2),(5,sl a2 I J),(6,vI ((kk:Nat):Int))] a/\Chg (· ∈ ([g1]++[w0.z])) G w/\a_ w H (sl a2 I J) O/\H.Nodup/\(∀k∈H,k∈[w0.z]∨G.z<=k)/\inI x5/\inI x6/\Blk w g1 [sl A0 N0 C0,vI x5,vI x6]) s) (fun s a w=>un3 (fun O x5 x6=>∃a2 I J H,Sat 20 [(5,sl a2 I J)] a/\Chg (· ∈ ([g1]++[w0.z])) G w/\a_ w H (sl a2 I J) O/\H.Nodup/\(∀k∈H,k∈[w0.z]∨G.z<=k)/\inI x5/\inI x6/\Blk w g1 [sl A0 N0 C0,vI x5,vI x6]) s) (rQ prog fn<|Q6 w0 g1 B A0 N0 C0 x1) huv ?_ ?_ ?_ ?_ ?_
 ·exact fun _ q=>⟨ar,ns,ct,[w0.z],q.k<|s4 z z z z,cr ([g1]++[w0.z]) G,hu,a_k,io sr,Y,a0,hB1.e s8⟩
 ·rintro kk ⟨O,x5,x6⟩ _ ww _ hkl ⟨a2,I,J,H,hSx,sc,ha,hb,L,hd,he,hf⟩ hmy;refine Wu ?_ hSx;refine Wq<|Wm z<|Rm z<|Rl z z z<|Wx z (fun _=>?_) (fun hc=>(h_M hkl hc).elim)
  refine Wk<|Wq<|Wb<|Wg<|RM z z ?_
  obtain ⟨a9,aa,ab,ad,a3⟩:=v_<|b_B hmy;refine E z (fc call59 z<|f_L (B:=B) ad hf (zt' V<|lt_ s8.s sc.s) hBg (W.g<|(s8.ag B).c sc<|nmA (b_<|c_ hBg)<|b_ (or0 (c_ lr) (k_ V):∀k∈[w0.z],¬B k)) hd he) ?_;rintro _ wm ⟨sh,rfl,_,ae,af,ah⟩;refine R z (e_4 d_3 d_5 z)<|E z (fS [(.tmp 16)] a_9 z z z (a_c z) (lb z)<|lb z) ?_
  rintro _ wn ⟨rfl,hi⟩;have hg:=hi.below;have az:=a_x hi b_c;have ho:∀k∈H,k∉[g1]:=or1 L (mmr<|Blk.lt hB1)<|O_ (c_<|Blk.lt hB1) s8.s;obtain ⟨ai,aj,a4⟩:=bdS a3;refine E z (a_O (α:=UInt8) a_9 aj z z ((ha.c sh ho).e hg) hb (hi.blk:Blk wn wm.z [(vU<|byteI<|mkB a9)]) b_c an_ G_) ?_;rintro _ ak ⟨Sp,al,am,an,rfl,sq,ao,ap,aq⟩;refine Rw z<|Wg<|Rm z<|R z (inc_ hkl (tl_ a1) z z)<|Ra z<|Wl ?_
  exact fun _ q=>⟨(ai,aa,ab),(som a4).symm,⟨al,am,an,Sp,q.k<|s4 z z z z,(cM (f_ (cM (cM (cr ([g1]++[w0.z]) G) sc (aa_ (io<|A_ sr)<|io<|C_ sr):Chg (· ∈ ([g1]++[w0.z])) G ww) sh (io<|A_ sr):Chg (· ∈ ([g1]++[w0.z])) G wm) hg:Chg (· ∈ ([g1]++[w0.z])) G wn) sq (or1 L (io<|C_ sr) (s_ lr):∀k∈H,k∈([g1]++[w0.z])∨G.z<=k):Chg (· ∈ ([g1]++[w0.z])) G ak),ao,ap,(or2 aq (or1 L (io sr) (s_ lr):∀k∈H,k∈[w0.z]∨G.z<=k) an_ (s_<|lt_ (lt_ sc.s sh.s) hg.s):∀k∈Sp,k∈[w0.z]∨G.z<=k),ae,af,(ah.e hg).c sq<|djs ho⟩⟩
 ·rintro ⟨O,x5,x6⟩ _ au ⟨a2,I,J,H,a5,av,ha,hb,L,hd,he,hf⟩;refine Wu ?_ a5;refine Wq<|Wm z<|Rm z<|Rl z z z<|Wx z (fun hc=>(h_N hc).elim) (fun _=>?_)
  exact We<|fun _ q=>⟨rfl,⟨a2,I,J,H,q.k<|s1 z,(cM (cr ([g1]++[w0.z]) G) av (aa_ (io<|A_ sr)<|io<|C_ sr):Chg (· ∈ ([g1]++[w0.z])) G au),ha,hb,(or1 L (io sr) (s_ lr):∀k∈H,k∈[w0.z]∨G.z<=k),hd,he,hf⟩⟩
 ·rintro ⟨O,x5,x6⟩ aw ax rfl ⟨a2,I,J,H,_,ay,ha,hb,L,hd,he,hf⟩;have a6:=elL hmj;revert aw;refine Wo<|Wm z<|Rw z ?_
  obtain rfl:=som<|b_B a6;exact Wr<|h_ hr z ⟨(cM (f_ (cr [g1] w0) s8:Chg (· ∈ [g1]) w0 G) ay (aa_ (io sr) (mor lr:∀k∈[w0.z],k∈[g1]∨w0.z<=k)):Chg (· ∈ [g1]) w0 ax),a2,I,J,H,z,ha,hd,he,hf,hb,(or1 L (c_ lr) (b_f s8.s):∀k∈H,w0.z<=k)⟩
 rintro _ _ _ _ rfl ⟨rfl,a7⟩;have a8:=elR hmj;obtain rfl:=som a8;exact ⟨a7,z⟩
theorem j_5 {x1:E_}{g1:Nat}{x2:List Int}{res:Int×Int×Int}(hm:e_0 x1 x2=some res)(hB1:Blk w0 g1 [sl A0 N0 C0,vI x1.i,vI x1.h])(O:B<=w0.z)(hBg:¬B g1)(I:repS w0 B (sl A0 N0 C0) x1.b)(J:inI x1.i)(L:inI x1.h)(G:repS w0 B (sl A5 N5 C5) x2):n_ prog 38 [pt g1,sl A5 N5 C5] w0 (Q2 w0 g1 B A0 N0 C0 x1 res):=by
 unfold e_0 at hm
 refine goG func38 z z z fun fn hr=>Ws<|Rw z<|Wm z<|RM z z<|R z (lnR o_ z G) ?_
 obtain ⟨_,_,_,Y,V⟩:=v_ hm;refine E z (fc call30 z<|b_q (B:=B) Y hB1 O hBg I J L<|a_N<|repS.len G) ?_;rintro _ w3 ⟨H,rfl,_,h4,h5,h6⟩;obtain ⟨_,e7,W⟩:=bdS V;refine RX z (at_ (α:=Int) o_ z_3 z z z (G.c H<|b_<|c_ hBg) e7) ?_;rintro _ ⟨_,_,_,rfl,h9,ha,_⟩;obtain ⟨rfl,hb⟩:=M_ ha;refine R z (l0 g_3 z<|h9.at0 z)<|Rw z ?_
 obtain rfl:=som W;exact Wr<|h_ hr z ⟨(cM (cr [g1] w0) H (io sr):Chg (· ∈ [g1]) w0 w3),z,hb,h4,h5,h6⟩
theorem j_6 {x1:E_}{g1:Nat}{x2:d_}{res:Int×Int×Int}(hm:d_1 x1 x2=some res)(hB1:Blk w0 g1 [sl A0 N0 C0,vI x1.i,vI x1.h])(a0:B<=w0.z)(hBg:¬B g1)(a2:repS w0 B (sl A0 N0 C0) x1.b)(a3:inI x1.i)(a5:inI x1.h)(Y:repS w0 B (sl A5 N5 C5) x2.rules):n_ prog 58 [pt g1,(.agg #[sl A5 N5 C5])] w0 (Q2 w0 g1 B A0 N0 C0 x1 res):=by
 unfold d_1 at hm
 refine goG func58 z z z fun fn hr=>Ws<|E z (fb z) ?_
 rintro _ H ⟨rfl,ht⟩;have h3:=ht.below;have hf:Blk H w0.z [sl A5 N5 C5]:=ht.blk;refine Rw z<|Ws<|E z (f0 (α:=Int) a_Y) ?_
 rintro _ I ⟨ak,al,am,rfl,s8,an⟩;refine Rw z<|Wq<|Ws<|Rw z ?_
 obtain ⟨_,a6,hms⟩:=bdS hm;refine Wf (σ:=List Int) (ρ:=Int×Int×Int) (fun (kc:Nat)(W:List Int) a w=>∃J L O G,Sat 29 [(0,pt g1),(3,pt w0.z),(5,sl J L O),(6,vI ((kc:Nat):Int))] a/\Chg (· ∈ [H.z]) I w/\a_ w G (sl J L O) W/\G.Nodup/\(∀k∈G,k∈[H.z]∨I.z<=k)) (fun (W:List Int) a w=>∃J L O G,Sat 29 [(0,pt g1),(5,sl J L O)] a/\Chg (· ∈ [H.z]) I w/\a_ w G (sl J L O) W/\G.Nodup/\(∀k∈G,k∈[H.z]∨I.z<=k)) (rQ prog fn<|Q2 w0 g1 B A0 N0 C0 x1) a6 ?_ ?_ ?_ ?_ ?_
 ·exact fun _ q=>⟨ak,al,am,[H.z],q.k<|s4 z z z z,cr [H.z] I,an,a_k,io sr⟩
 ·rintro kc W _ V _ hkg ⟨J,L,O,G,a7,sh,ha,hd,he⟩ a8;refine Wu ?_ a7;refine Wq<|Wm z<|Rf z R_ z ?_
  have hu:=(hf.e s8).c sh<|djs<|mmr hf.lt
  refine R z (l0 T_ z<|hu.at z) ?_;have hv:=Y.g<|((h3.ag B).e s8).c sh<|b_ (or0 (c_ lr) (k_<|zt' a0 h3.s):∀k∈[H.z],¬B k)
  refine R z (lnR U_ z hv)<|Rl z z z<|Wx z (fun _=>?_) (fun hc=>(a_2 hkg hc).elim)
  refine Wk<|Wq<|Wb<|Ws<|Rf z R_ z<|R z (l0 T_ z<|hu.at z)<|Rm z ?_
  obtain ⟨_,ao,a9⟩:=bdS a8;refine RX z (at_ (α:=e_) U_ m_ z z z hv ao) ?_;rintro _ ⟨_,_,_,rfl,ap,aq,_⟩;obtain ⟨_,_,_,_,_,_,_,_,_,_,_,_,rfl,_,_,_,_,_,_,_⟩:=a_m aq;refine Rf z a_n z<|R z (l0 g_3 z<|ap.at (j:=1) z)<|Rq z z z<|Wn ?_
  obtain ⟨ar,huw,aa⟩:=bdS a9;refine Wt (fun a w=>∃(xi:List Int),xi=ar/\∃aj nk cl Sb,Sat 29 [(0,pt g1),(3,pt w0.z),(5,sl aj nk cl),(6,vI ((kc:Nat):Int))] a/\Chg (· ∈ G) V w/\a_ w Sb (sl aj nk cl) xi/\Sb.Nodup/\(∀k∈Sb,k∈G∨V.z<=k)) ?_ ?_
  ·refine Wc z (fun hcn=>?_)<|fun hcn=>?_
   ·refine Wg<|RM z z<|E z (fS [(.tmp 23)] a_Y z z z (a_c z) (lb z)<|lb z) ?_
    rintro _ wx ⟨rfl,ho⟩;have hp:=ho.below;have aT:=a_x ho<|a_Q<|ic (Nat.le_of_lt hkg)<|lt_ (repS.len Y) K_
    obtain ⟨au,av,ab⟩:=bdS<|ifT huw hcn;refine E z (a_O (α:=Int) a_Y av z z (ha.e hp) hd (ho.blk:Blk wx V.z [(vI ((kc:Nat):Int))]) (a_Q<|ic (Nat.le_of_lt hkg)<|lt_ (repS.len Y) K_) an_ G_) ?_;rintro _ aw ⟨Sy,ax,ay,az,rfl,aA,aB,aC,aD⟩;refine Ra z<|Wl ?_
    exact fun _ q=>⟨au,som ab,ax,ay,az,Sy,q.k<|s4 z z z z,(cM (f_ (cr G V) hp:Chg (· ∈ G) V wx) aA (io sr):Chg (· ∈ G) V aw),aB,aC,(or2 aD (io sr) an_ (s_ hp.s):∀k∈Sy,k∈G∨V.z<=k)⟩
   exact a_7<|fun _ q=>⟨W,som<|ifF huw hcn,J,L,O,G,q.k<|s4 z z z z,cr G V,ha,hd,io sr⟩
  rintro aE aF ⟨xi,rfl,aj,nk,cl,Sb,_,aG,aH,aI,aJ⟩;revert aE;refine Wo<|Wg<|Rm z<|R z (inc_ hkg (lt_ (repS.len Y) K_) z z)<|Ra z<|Wl ?_
  have hz:∀k∈G,k∈[H.z]∨I.z<=k:=or1 he (io sr)<|s_ lr;exact fun _ q=>⟨xi,(som aa).symm,⟨aj,nk,cl,Sb,q.k<|s4 z z z z,(cM (cM (cr [H.z] I) sh (io sr):Chg (· ∈ [H.z]) I V) aG hz:Chg (· ∈ [H.z]) I aF),aH,aI,(or1 aJ hz (s_ sh.s):∀k∈Sb,k∈[H.z]∨I.z<=k)⟩⟩
 ·rintro W _ aK ⟨J,L,O,G,ad,sq,ha,hd,he⟩;refine Wu ?_ ad;refine Wq<|Wm z<|Rf z R_ z<|R z (l0 T_ z<|((hf.e s8).c sq<|djs<|mmr hf.lt).at z) ?_
  refine R z (lnR U_ z<|Y.g<|((h3.ag B).e s8).c sq<|b_ (or0 (c_ lr) (k_<|zt' a0 h3.s):∀k∈[H.z],¬B k))<|Rl z z z<|Wx z (fun hc=>(a_3 hc).elim) (fun _=>?_)
  exact We<|fun _ q=>⟨rfl,⟨J,L,O,G,q.k<|s2 z z,(cM (cr [H.z] I) sq (io sr):Chg (· ∈ [H.z]) I aK),ha,hd,(or1 he (io sr) (s_ lr):∀k∈G,k∈[H.z]∨I.z<=k)⟩⟩
 ·rintro W aL wr rfl ⟨J,L,O,G,_,sm,ha,hd,he⟩;have ae:=elL hms;revert aL;refine Wo<|Wm z<|Rm z ?_
  have a1:=lt_ h3.s s8.s;obtain ⟨_,_,_,aM,af⟩:=v_ ae;refine E z (fc call38 z<|j_5 (B:=zn B w0.z wr.z) aM (((hB1.e h3).e s8).c sm<|djs<|mm1 (Blk.lt hB1) h3.s) (c_x (zt' a0<|lt_ a1 sm.s) lr) (atp ((e_5 (c_ hBg) (c_<|Blk.lt hB1) lr):∀k∈[g1],¬(zn B w0.z wr.z) k)) (repS.mono (a2.g<|((h3.ag B).e s8).c sm<|b_ (or0 (c_ lr) (k_<|zt' a0 h3.s):∀k∈[H.z],¬B k)) c_4) a3 a5<|or_ ha<|zin (B:=B) (a_i he (m1 h3.s) a1)<|a_.lt ha) ?_;rintro _ aN ⟨aO,rfl,aP,aQ,aR,aS⟩;refine Rw z ?_
  obtain rfl:=som af;exact Wr<|h_ hr z ⟨(cM (cM (f_ (f_ (cr [g1] w0) h3:Chg (· ∈ [g1]) w0 H) s8:Chg (· ∈ [g1]) w0 I) sm (mor h3.s:∀k∈[H.z],k∈[g1]∨w0.z<=k):Chg (· ∈ [g1]) w0 wr) aO (io sr):Chg (· ∈ [g1]) w0 aN),z,aP,aQ,aR,aS⟩
 rintro _ _ _ _ rfl ⟨rfl,ah⟩;have ai:=elR hms;obtain rfl:=som ai;exact ⟨ah,z⟩
def Q7 (w0:World)(g1:Nat)(B:Zone)(A0:Option Addr)(N0 C0:Nat)(x1:E_)(r:e_×Int×Int)(v:Value)(w':World):Prop:=Chg (· ∈ [g1]) w0 w'/\un3 (fun G H I=>∃J L O S1 a2 V W S2 Y n3 c3 S3 a4 n4 c4 S4,(.agg #[Str.v G.name,vI G.kind,vI G.size,vB G.little,sl J L O,sl a2 V W,sl Y n3 c3,sl a4 n4 c4])=v/\G.name.b.length<=LEN/\inI G.kind/\inI G.size/\a_ w' S1 (sl J L O) G.bytes/\a_ w' S2 (sl a2 V W) G.names/\a_ w' S3 (sl Y n3 c3) G.tags/\a_ w' S4 (sl a4 n4 c4) G.kids/\inI H/\inI I/\Blk w' g1 [sl A0 N0 C0,vI H,vI I]/\(S1++(S2++(S3++S4))).Nodup/\(∀k∈(S1++(S2++(S3++S4))),w0.z<=k)) r
theorem W_w18 {x1:E_}{g1:Nat}{x2:d_}{x3:Int}{res:e_×Int×Int}(hm:d_2 n x1 x2 x3=some res)(hB1:Blk w0 g1 [sl A0 N0 C0,vI x1.i,vI x1.h])(J:B<=w0.z)(hBg:¬B g1)(Y:repS w0 B (sl A0 N0 C0) x1.b)(jN:inI x1.i)(jO:inI x1.h)(cn:repS w0 B (sl A5 N5 C5) x2.rules)(jP:inI x3):n_ prog 29 [pt g1,.agg #[sl A5 N5 C5],vI x3] w0 (Q7 w0 g1 B A0 N0 C0 x1 res):=by
 unfold d_2 at hm
 refine goG func29 z z z fun fn hr=>Ws<|E z (fb z) ?_
 rintro _ wb ⟨rfl,gG⟩;have bg:=gG.below;have co:Blk wb w0.z [sl A5 N5 C5]:=gG.blk;refine E z (fa b_g) ?_;rintro _ aW ⟨rfl,gH⟩;have aj:=gH.below;have bh:Blk aW wb.z [(Str.v (⟨[]⟩:Str)),vI 0,vI 0,vB false,sl none 0 0,sl none 0 0,sl none 0 0,sl none 0 0]:=gH.blk;refine Wn<|Ws<|Rf z R_ z ?_
 have cp:=co.e aj;refine R z (l0 T_ z<|cp.at z) ?_;have gI:=(bg.ag B).e aj;have bi:=cn.g gI;refine R z (lnR U_ z bi)<|Rw z<|Wm z<|E z (fS [(.const<|Str.v ⟨[97]⟩),.const<|Str.v ⟨[105,116,101,109]⟩,.const<|Str.v ⟨[98]⟩,.const<|Str.v ⟨[104,101,97,100]⟩,(.const<|Str.v ⟨[120]⟩)] b_o z z z (a_c z) (lb z)<|lb z) ?_
 rintro _ bO ⟨rfl,gJ⟩;have hi:=gJ.below;have gK:a_ bO [aW.z] (sl (some ⟨aW.z,0,none⟩) 5 5) ([(⟨[97]⟩:Str),(⟨[105,116,101,109]⟩:Str),(⟨[98]⟩:Str),(⟨[104,101,97,100]⟩:Str),(⟨[120]⟩:Str)]:List Str):=k_M (l:=[(⟨[97]⟩:Str),(⟨[105,116,101,109]⟩:Str),(⟨[98]⟩:Str),(⟨[104,101,97,100]⟩:Str),(⟨[120]⟩:Str)]) (gJ.blk:Blk bO aW.z [(Str.v (⟨[97]⟩:Str)),Str.v (⟨[105,116,101,109]⟩:Str),Str.v (⟨[98]⟩:Str),Str.v (⟨[104,101,97,100]⟩:Str),(Str.v (⟨[120]⟩:Str))]) (ac0 (lb z)<|ac0 (lb z)<|ac0 (lb z)<|ac0 (lb z)<|ac0 (lb z) an0) z;have hn:=gI.e hi;have gL:=lt_ bg.s aj.s;have gM:=lt_ gL hi.s;obtain ⟨_,jQ,jR,jS,iM⟩:=v_ hm;refine E z (fc call57 z<|W_w17 (B:=zn B aW.z bO.z) jS (((hB1.e bg).e aj).e hi) (c_x (zt' J gM) lr) (atp ((e_5 (c_ hBg) (c_<|Blk.lt hB1) gL):∀k∈[g1],¬(zn B aW.z bO.z) k)) (repS.mono (Y.g hn) c_4) jN jO<|or_ gK<|zin (B:=B) (c_ lr)<|a_.lt gK) ?_;rintro _ jT ⟨sc,rfl,_,ho,hp,hq⟩;refine Rm z ?_;have hj:=lt_ gM sc.s;obtain ⟨_,jU,iN⟩:=bdS iM;refine E z (fc call28 z<|e_L jU (zt' J hj)<|a_N<|repS.len bi) ?_;rintro _ G ⟨s3,rfl,_⟩;obtain ⟨x5,gN,iO⟩:=bdS iN;refine R z (c_g z z gN)<|Rm z<|R z (bP (parts:=[(0,.tmp 19),(1,.tmp 20)]) (cs:=[Str.v x5,vI x3,vI 0,vB false,sl none 0 0,sl none 0 0,sl none 0 0,sl none 0 0]) n_Y z z)<|E z (fa b_g) ?_
 rintro _ gO ⟨rfl,gP⟩;have h4:=gP.below;have ha:Blk gO G.z [(Str.v (⟨[]⟩:Str)),vI 0,vI 0,vB false,sl none 0 0,sl none 0 0,sl none 0 0,sl none 0 0]:=gP.blk;refine E0 (fs0 (cur':=[Str.v x5,vI x3,vI 0,vB false,sl none 0 0,sl none 0 0,sl none 0 0,sl none 0 0]) m_ z z ha z z z z) ?_;rintro _ H ⟨ht,jV⟩;have I:=jV.one;refine Wn<|Wq<|Wm z<|Wn<|Wb<|Ws<|Rq z z z<|Rw z ?_
 obtain ⟨jW,gq,f3⟩:=bdS iO;refine Wt (fun a w=>∃(cq:Int)(ct:Int)(bj:Int)(bQ:Bool)(fR:List UInt8)(fT:List Str)(fU:List Int)(fV:List Int),Sum.inl (cq,ct,bj,bQ,fR,fT,fU,fV)=jW/\∃bk bm bn al bo bp bq am bt bu bv an bw bx bz ao,Sat 147 [(6,pt wb.z),(8,pt G.z)] a/\Chg (· ∈ ([g1]++[G.z])) H w/\inI cq/\inI ct/\inI bj/\a_ w al (sl bk bm bn) fR/\al.Nodup/\(∀k∈al,H.z<=k)/\a_ w am (sl bo bp bq) fT/\am.Nodup/\(∀k∈am,H.z<=k)/\(∀k∈am,k∉al)/\a_ w an (sl bt bu bv) fU/\an.Nodup/\(∀k∈an,H.z<=k)/\(∀k∈an,k∉al)/\(∀k∈an,k∉am)/\a_ w ao (sl bw bx bz) fV/\ao.Nodup/\(∀k∈ao,H.z<=k)/\(∀k∈ao,k∉al)/\(∀k∈ao,k∉am)/\(∀k∈ao,k∉an)/\Blk w g1 [sl A0 N0 C0,vI cq,vI ct]/\Blk w G.z [Str.v x5,vI x3,vI bj,vB bQ,sl bk bm bn,sl bo bp bq,sl bt bu bv,sl bw bx bz]) ?_ ?_
 ·refine Wc z (fun f4=>?_)<|fun f4=>?_
  ·refine Wm z ?_
   have fW:=lt_ hj s3.s;have gQ:∀k∈[G.z],¬B k:=or0 (c_ lr)<|k_<|zt' J fW;have gR:=(((hn.c sc<|b_<|c_ hBg).e s3).e h4).c I<|b_ gQ
   have aX:=mm1 (Blk.lt hB1) fW;have gS:=lt_ (lt_ fW h4.s) I.s;obtain ⟨bA,jX,jY,jZ,iP⟩:=v_<|ifT gq f4;refine E z (fc call30 z<|b_q (B:=B) jZ (((hq.e s3).e h4).c I<|djs aX) (zt' J gS) hBg (Y.g gR) ho hp<|ii z) ?_;rintro _ k0 ⟨cv,rfl,_,gT,gU,gV⟩;refine R z (add_ z z)<|Rf z a_z z<|E0 (fs0 (cur':=[Str.v x5,vI x3,vI<|g_ 1 bA,vB false,sl none 0 0,sl none 0 0,sl none 0 0,sl none 0 0]) z_3 z z (ht.c cv<|atp aX) z z z z) ?_
   rintro _ aY ⟨fX,ka⟩;have bR:=ka.one;refine Wn ?_;obtain ⟨kb,gr,iQ⟩:=bdS iP;refine Wt (fun a w=>∃(bS:Int)(bT:Int)(cw:Bool),(bS,bT,cw)=kb/\Sat 147 [(6,pt wb.z),(8,pt G.z)] a/\Chg (· ∈ ([g1]++[G.z])) aY w/\inI bS/\inI bT/\Blk w g1 [sl A0 N0 C0,vI bS,vI bT]/\Blk w G.z [Str.v x5,vI x3,vI<|g_ 1 bA,vB cw,sl none 0 0,sl none 0 0,sl none 0 0,sl none 0 0]) ?_ ?_
   ·refine Wg<|Rf z a_z z<|R z (l0 g_3 z<|fX.at z)<|R z (a_e z z)<|Rm z ?_
    rcases bs (decide<|1<(g_ 1 bA)) with a4 | a4
    ·refine Rh z a4 (mv z) ?_;obtain ⟨gW,kc,kd,ke,iR⟩:=v_<|ifT gr a4;refine Eg z z a4 z (fc call37 z<|j_3 (B:=B) ke (gV.c bR<|djs aX) (zt' J<|lt_ (lt_ gS cv.s) bR.s) hBg (Y.g<|(gR.c cv<|b_<|c_ hBg).c bR<|b_ gQ) gT gU<|ii z) ?_;rintro _ kf ⟨gX,rfl,kg,kh,ki⟩;refine R z (pT z a4 z)<|Rf z c_L z<|E0 (fs0 (cur':=[Str.v x5,vI x3,vI<|g_ 1 bA,vB gW,sl none 0 0,sl none 0 0,sl none 0 0,sl none 0 0]) z_4 z z (fX.c gX<|atp aX) z z z z) ?_
     rintro _ kj ⟨kk,kl⟩;have gY:=kl.one;refine Wl ?_;exact fun _ q=>⟨kc,kd,gW,som iR,q.k<|s2 z z,(cM (cM (cr ([g1]++[G.z]) aY) gX (io<|A_ sr):Chg (· ∈ ([g1]++[G.z])) aY kf) gY (io<|C_ sr):Chg (· ∈ ([g1]++[G.z])) aY kj),kg,kh,ki.c gY<|djs aX,kk⟩
    refine Nh z a4<|Nh z a4<|R z (pF z a4 z)<|Rf z c_L z<|E0 (fs0 (cur':=[Str.v x5,vI x3,vI<|g_ 1 bA,vB false,sl none 0 0,sl none 0 0,sl none 0 0,sl none 0 0]) z_4 z z fX z z z z) ?_
    rintro _ km ⟨kn,ko⟩;have gZ:=ko.one;refine Wl ?_;exact fun _ q=>⟨jX,jY,false,som<|ifF gr a4,q.k<|s2 z z,(cM (cr ([g1]++[G.z]) aY) gZ (io<|C_ sr):Chg (· ∈ ([g1]++[G.z])) aY km),gT,gU,(gV.c bR<|djs aX).c gZ<|djs aX,kn⟩
   rintro kp kq ⟨bS,bT,cw,rfl,_,kr,ks,kt,ku,kw⟩;revert kp;exact fun _ q=>⟨bS,bT,g_ 1 bA,cw,([]:List UInt8),([]:List Str),([]:List Int),([]:List Int),som<|b_B iQ,none,0,0,[],none,0,0,[],none,0,0,[],none,0,0,[],q.k<|s2 z z,(cM (cM (cM (cr ([g1]++[G.z]) H) cv (io<|A_ sr):Chg (· ∈ ([g1]++[G.z])) H k0) bR (io<|C_ sr):Chg (· ∈ ([g1]++[G.z])) H aY) kr (aa_ (io<|A_ sr)<|io<|C_ sr):Chg (· ∈ ([g1]++[G.z])) H kq),ks,kt,iA _ _,onL,G_,an_,onL,G_,an_,an_,onL,G_,an_,an_,an_,onL,G_,an_,an_,an_,an_,ku,kw⟩
  refine Ws<|Rq z z z<|Rw z ?_
  obtain ⟨kx,gs,f5⟩:=bdS<|ifF gq f4;refine Wt (fun a w=>∃(bU:Int)(bV:Int)(bW:Int)(cx:List UInt8)(cy:List Str)(cz:List Int)(cA:List Int),Sum.inl (bU,bV,bW,cx,cy,cz,cA)=kx/\∃cB cC cD ap cE cF cG aq cH cI cJ au cK cL cN av,Sat 147 [(6,pt wb.z),(8,pt G.z)] a/\Chg (· ∈ ([g1]++[G.z])) H w/\inI bU/\inI bV/\inI bW/\a_ w ap (sl cB cC cD) cx/\ap.Nodup/\(∀k∈ap,H.z<=k)/\a_ w aq (sl cE cF cG) cy/\aq.Nodup/\(∀k∈aq,H.z<=k)/\(∀k∈aq,k∉ap)/\a_ w au (sl cH cI cJ) cz/\au.Nodup/\(∀k∈au,H.z<=k)/\(∀k∈au,k∉ap)/\(∀k∈au,k∉aq)/\a_ w av (sl cK cL cN) cA/\av.Nodup/\(∀k∈av,H.z<=k)/\(∀k∈av,k∉ap)/\(∀k∈av,k∉aq)/\(∀k∈av,k∉au)/\Blk w g1 [sl A0 N0 C0,vI bU,vI bV]/\Blk w G.z [Str.v x5,vI x3,vI bW,vB false,sl cB cC cD,sl cE cF cG,sl cH cI cJ,sl cK cL cN]) ?_ ?_
  ·refine Wc z (fun f6=>?_)<|fun f6=>?_
   ·refine Wg<|RM z z ?_
    have fY:=lt_ hj s3.s;have h1:=(((hn.c sc<|b_<|c_ hBg).e s3).e h4).c I<|b_ (or0 (c_ lr) (k_<|zt' J fY):∀k∈[G.z],¬B k)
    have cO:=mm1 (Blk.lt hB1) fY;have h2:=lt_ (lt_ fY h4.s) I.s;obtain ⟨_,_,_,ky,iT⟩:=v_<|ifT gs f6;refine E z (fc call30 z<|b_q (B:=B) ky (((hq.e s3).e h4).c I<|djs cO) (zt' J h2) hBg (Y.g h1) ho hp<|ii z) ?_;rintro _ kz ⟨bB,rfl,_,kA,kB,kC⟩;refine R z (add_ z z) ?_;obtain ⟨kD,kE,kF,kG,iU⟩:=v_ iT;refine E z (fc call36 z<|j_4 (B:=B) kG kC (zt' J<|lt_ h2 bB.s) hBg (Y.g<|h1.c bB<|b_<|c_ hBg) kA kB<|iA _ _) ?_;rintro _ kH ⟨h3,h5,h6,h7,kI,rfl,kJ,kK,kL,kM,kN,h8⟩;refine Rf z a_R z<|E0 (fs0 (cur':=[Str.v x5,vI x3,vI 0,vB false,sl h5 h6 h7,sl none 0 0,sl none 0 0,sl none 0 0]) z_22 z z ((ht.c bB<|atp cO).c h3<|atp cO) z z z z) ?_
    rintro _ kO ⟨kP,kQ⟩;have fZ:=kQ.one;refine Wl ?_;exact fun _ q=>⟨kE,kF,0,kD,([]:List Str),([]:List Int),([]:List Int),som iU,h5,h6,h7,kI,none,0,0,[],none,0,0,[],none,0,0,[],q.k<|s2 z z,(cM (cM (cM (cr ([g1]++[G.z]) H) bB (io<|A_ sr):Chg (· ∈ ([g1]++[G.z])) H kz) h3 (io<|A_ sr):Chg (· ∈ ([g1]++[G.z])) H kH) fZ (io<|C_ sr):Chg (· ∈ ([g1]++[G.z])) H kO),kK,kL,ii z,kJ.c fZ<|j_ h8 ha.lt<|lt_ I.s bB.s,kN,l_ h8 bB.s,onL,G_,an_,an_,onL,G_,an_,an_,an_,onL,G_,an_,an_,an_,an_,kM.c fZ<|djs cO,kP⟩
   refine Ws<|Rq z z z<|Rw z ?_
   obtain ⟨kR,gt,f7⟩:=bdS<|ifF gs f6;refine Wt (fun a w=>∃(bX:Int)(bY:Int)(bZ:Int)(cP:List UInt8)(cQ:List Str)(cR:List Int)(cS:List Int),Sum.inl (bX,bY,bZ,cP,cQ,cR,cS)=kR/\∃cT cU cV aw cW cX cY ax cZ d0 d1 ay d2 d3 d4 az,Sat 147 [(6,pt wb.z),(8,pt G.z)] a/\Chg (· ∈ ([g1]++[G.z])) H w/\inI bX/\inI bY/\inI bZ/\a_ w aw (sl cT cU cV) cP/\aw.Nodup/\(∀k∈aw,H.z<=k)/\a_ w ax (sl cW cX cY) cQ/\ax.Nodup/\(∀k∈ax,H.z<=k)/\(∀k∈ax,k∉aw)/\a_ w ay (sl cZ d0 d1) cR/\ay.Nodup/\(∀k∈ay,H.z<=k)/\(∀k∈ay,k∉aw)/\(∀k∈ay,k∉ax)/\a_ w az (sl d2 d3 d4) cS/\az.Nodup/\(∀k∈az,H.z<=k)/\(∀k∈az,k∉aw)/\(∀k∈az,k∉ax)/\(∀k∈az,k∉ay)/\Blk w g1 [sl A0 N0 C0,vI bX,vI bY]/\Blk w G.z [Str.v x5,vI x3,vI bZ,vB false,sl cT cU cV,sl cW cX cY,sl cZ d0 d1,sl d2 d3 d4]) ?_ ?_
   ·refine Wc z (fun f8=>?_)<|fun f8=>?_
    ·refine Wg<|Rm z ?_
     have g0:=lt_ hj s3.s;have g2:=mm1 (Blk.lt hB1) g0;obtain ⟨h9,kS,kT,kU,iV⟩:=v_<|ifT gt f8;refine E z (fc call30 z<|b_q (B:=B) kU (((hq.e s3).e h4).c I<|djs g2) (zt' J<|lt_ (lt_ g0 h4.s) I.s) hBg (Y.g<|(((hn.c sc<|b_<|c_ hBg).e s3).e h4).c I<|b_ (or0 (c_ lr) (k_<|zt' J g0):∀k∈[G.z],¬B k)) ho hp<|ii z) ?_;rintro _ kV ⟨hb,rfl,_,kW,kX,kY⟩;refine R z (add_ z z)<|Rf z a_z z<|E0 (fs0 (cur':=[Str.v x5,vI x3,vI<|g_ 1 h9,vB false,sl none 0 0,sl none 0 0,sl none 0 0,sl none 0 0]) z_3 z z (ht.c hb<|atp g2) z z z z) ?_
     rintro _ kZ ⟨l2,l3⟩;have hc:=l3.one;refine Wl ?_;exact fun _ q=>⟨kS,kT,g_ 1 h9,([]:List UInt8),([]:List Str),([]:List Int),([]:List Int),som iV,none,0,0,[],none,0,0,[],none,0,0,[],none,0,0,[],q.k<|s2 z z,(cM (cM (cr ([g1]++[G.z]) H) hb (io<|A_ sr):Chg (· ∈ ([g1]++[G.z])) H kV) hc (io<|C_ sr):Chg (· ∈ ([g1]++[G.z])) H kZ),kW,kX,iA _ _,onL,G_,an_,onL,G_,an_,an_,onL,G_,an_,an_,an_,onL,G_,an_,an_,an_,an_,kY.c hc<|djs g2,l2⟩
    refine Ws<|Rq z z z<|Rw z ?_
    obtain ⟨l4,gu,f9⟩:=bdS<|ifF gt f8;refine Wt (fun a w=>∃(c0:Int)(c1:Int)(d5:List UInt8)(d6:List Str)(d7:List Int)(d8:List Int),Sum.inl (c0,c1,d5,d6,d7,d8)=l4/\∃d9 da db aA dc dd de aB df dg dh aC di dj dk aD,Sat 147 [(6,pt wb.z),(8,pt G.z)] a/\Chg (· ∈ ([g1]++[G.z])) H w/\inI c0/\inI c1/\a_ w aA (sl d9 da db) d5/\aA.Nodup/\(∀k∈aA,H.z<=k)/\a_ w aB (sl dc dd de) d6/\aB.Nodup/\(∀k∈aB,H.z<=k)/\(∀k∈aB,k∉aA)/\a_ w aC (sl df dg dh) d7/\aC.Nodup/\(∀k∈aC,H.z<=k)/\(∀k∈aC,k∉aA)/\(∀k∈aC,k∉aB)/\a_ w aD (sl di dj dk) d8/\aD.Nodup/\(∀k∈aD,H.z<=k)/\(∀k∈aD,k∉aA)/\(∀k∈aD,k∉aB)/\(∀k∈aD,k∉aC)/\Blk w g1 [sl A0 N0 C0,vI c0,vI c1]/\Blk w G.z [Str.v x5,vI x3,vI 0,vB false,sl d9 da db,sl dc dd de,sl df dg dh,sl di dj dk]) ?_ ?_
    ·refine Wc z (fun fe=>?_)<|fun fe=>?_
     ·refine Wg<|Rm z ?_
      refine R z (lN (vs:=[sl A5 N5 C5]) t_ q_ z z fid<|(((((cp.e hi).c sc<|atp<|mmr<|Blk.lt hB1).e s3).e h4).c I<|djs<|mm1 co.lt<|lt_ (lt_ (lt_ aj.s hi.s) sc.s) s3.s).row 0 1 z) ?_;have g3:=lt_ hj s3.s;have hd:=(((hn.c sc<|b_<|c_ hBg).e s3).e h4).c I<|b_ (or0 (c_ lr) (k_<|zt' J g3):∀k∈[G.z],¬B k)
      have g4:=mm1 (Blk.lt hB1) g3;obtain ⟨he,l5,l6,l7,iW⟩:=v_<|ifT gu fe;refine E z (fc call58 z<|j_6 (B:=B) l7 (((hq.e s3).e h4).c I<|djs g4) (zt' J<|lt_ (lt_ g3 h4.s) I.s) hBg (Y.g hd) ho hp<|cn.g hd) ?_;rintro _ c2 ⟨dl,rfl,l8,l9,la,lc⟩;refine E z (fS [(.tmp 55)] a_Y z z z (a_c z) (lb z)<|lb z) ?_;rintro _ hf ⟨rfl,g5⟩;have g6:=g5.below;have qG:Blk hf c2.z [vI he]:=g5.blk;refine Rf z J_ z<|E0 (fs0 (cur':=[Str.v x5,vI x3,vI 0,vB false,sl none 0 0,sl none 0 0,sl none 0 0,sl (some ⟨c2.z,0,none⟩) 1 1]) e_7 z z ((ht.c dl<|atp g4).e g6) z z z z) ?_
      rintro _ ld ⟨le,lf⟩;have g7:=lf.one;refine Wl ?_;exact fun _ q=>⟨l5,l6,([]:List UInt8),([]:List Str),([]:List Int),[he],som iW,none,0,0,[],none,0,0,[],none,0,0,[],some ⟨c2.z,0,none⟩,1,1,[c2.z],q.k<|s2 z z,(cM (f_ (cM (cr ([g1]++[G.z]) H) dl (io<|A_ sr):Chg (· ∈ ([g1]++[G.z])) H c2) g6:Chg (· ∈ ([g1]++[G.z])) H hf) g7 (io<|C_ sr):Chg (· ∈ ([g1]++[G.z])) H ld),l9,la,onL,G_,an_,onL,G_,an_,an_,onL,G_,an_,an_,an_,(a_x g5<|a_Q l8).c g7<|mm1 ha.lt<|lt_ I.s dl.s,a_k,m1 dl.s,nmN _,nmN _,nmN _,(lc.e g6).c g7<|djs g4,le⟩
     refine Ws<|Rq z z z<|Rw z ?_
     obtain ⟨lg,gv,ff⟩:=bdS<|ifF gu fe;refine Wt (fun a w=>∃(c3:Int)(c4:Int)(dm:List UInt8)(dn:List Str)(dp:List Int)(dq:List Int),Sum.inl (c3,c4,dm,dn,dp,dq)=lg/\∃dr dt du aE dv dw dx aF dy dz dA aG dB dC dD aH,Sat 147 [(6,pt wb.z),(8,pt G.z)] a/\Chg (· ∈ ([g1]++[G.z])) H w/\inI c3/\inI c4/\a_ w aE (sl dr dt du) dm/\aE.Nodup/\(∀k∈aE,H.z<=k)/\a_ w aF (sl dv dw dx) dn/\aF.Nodup/\(∀k∈aF,H.z<=k)/\(∀k∈aF,k∉aE)/\a_ w aG (sl dy dz dA) dp/\aG.Nodup/\(∀k∈aG,H.z<=k)/\(∀k∈aG,k∉aE)/\(∀k∈aG,k∉aF)/\a_ w aH (sl dB dC dD) dq/\aH.Nodup/\(∀k∈aH,H.z<=k)/\(∀k∈aH,k∉aE)/\(∀k∈aH,k∉aF)/\(∀k∈aH,k∉aG)/\Blk w g1 [sl A0 N0 C0,vI c3,vI c4]/\Blk w G.z [Str.v x5,vI x3,vI 0,vB false,sl dr dt du,sl dv dw dx,sl dy dz dA,sl dB dC dD]) ?_ ?_
     ·refine Wc z (fun fg=>?_)<|fun fg=>?_
      ·refine Wg<|Rm z ?_
       refine R z (lN (vs:=[sl A5 N5 C5]) t_ q_ z z fid<|(((((cp.e hi).c sc<|atp<|mmr<|Blk.lt hB1).e s3).e h4).c I<|djs<|mm1 co.lt<|lt_ (lt_ (lt_ aj.s hi.s) sc.s) s3.s).row 0 1 z) ?_;have g8:=lt_ hj s3.s;have g9:=(((hn.c sc<|b_<|c_ hBg).e s3).e h4).c I<|b_ (or0 (c_ lr) (k_<|zt' J g8):∀k∈[G.z],¬B k)
       have dF:=mm1 (Blk.lt hB1) g8;have hg:=lt_ (lt_ g8 h4.s) I.s;obtain ⟨dG,_,_,lh,iX⟩:=v_<|ifT gv fg;refine E z (fc call58 z<|j_6 (B:=B) lh (((hq.e s3).e h4).c I<|djs dF) (zt' J hg) hBg (Y.g g9) ho hp<|cn.g g9) ?_;rintro _ li ⟨bC,rfl,lj,lk,ll,lm⟩;refine RM z z ?_
       obtain ⟨dH,ln,lo,lp,iY⟩:=v_ iX;refine E z (fc call30 z<|b_q (B:=B) lp lm (zt' J<|lt_ hg bC.s) hBg (Y.g<|g9.c bC<|b_<|c_ hBg) lk ll<|a_N<|repS.len bi) ?_;rintro _ aZ ⟨dI,rfl,lq,ls,lu,lv⟩;refine E z (fS [(.tmp 62),(.tmp 65)] a_Y z z z (a_c z) (lb z)<|lb z) ?_;rintro _ ga ⟨rfl,hh⟩;have gb:=hh.below;refine Rf z J_ z<|E0 (fs0 (cur':=[Str.v x5,vI x3,vI 0,vB false,sl none 0 0,sl none 0 0,sl none 0 0,sl (some ⟨aZ.z,0,none⟩) 2 2]) e_7 z z (((ht.c bC<|atp dF).c dI<|atp dF).e gb) z z z z) ?_
       rintro _ lw ⟨lx,ly⟩;have gc:=ly.one;refine Wl ?_;exact fun _ q=>⟨ln,lo,([]:List UInt8),([]:List Str),([]:List Int),[dG,dH],som iY,none,0,0,[],none,0,0,[],none,0,0,[],some ⟨aZ.z,0,none⟩,2,2,[aZ.z],q.k<|s2 z z,(cM (f_ (cM (cM (cr ([g1]++[G.z]) H) bC (io<|A_ sr):Chg (· ∈ ([g1]++[G.z])) H li) dI (io<|A_ sr):Chg (· ∈ ([g1]++[G.z])) H aZ) gb:Chg (· ∈ ([g1]++[G.z])) H ga) gc (io<|C_ sr):Chg (· ∈ ([g1]++[G.z])) H lw),ls,lu,onL,G_,an_,onL,G_,an_,an_,onL,G_,an_,an_,an_,(j_1 (l:=[dG,dH]) (hh.blk:Blk ga aZ.z [vI dG,vI dH]) (ac0 lj<|ac0 lq an0) z:a_ ga [aZ.z] (sl (some ⟨aZ.z,0,none⟩) 2 2) ([dG,dH]:List Int)).c gc<|mm1 ha.lt<|lt_ (lt_ I.s bC.s) dI.s,a_k,m1<|lt_ bC.s dI.s,nmN _,nmN _,nmN _,(lv.e gb).c gc<|djs dF,lx⟩
      refine Ws<|Rq z z z<|Rw z ?_
      obtain ⟨lz,gw,fh⟩:=bdS<|ifF gv fg;refine Wt (fun a w=>∃(c5:Int)(c6:Int)(dJ:List UInt8)(dK:List Str)(dL:List Int)(dN:List Int),Sum.inl (c5,c6,dJ,dK,dL,dN)=lz/\∃dO dP dS aI dT dU dV aJ dW dX dY aK dZ e0 e1 aL,Sat 147 [(6,pt wb.z),(8,pt G.z)] a/\Chg (· ∈ ([g1]++[G.z])) H w/\inI c5/\inI c6/\a_ w aI (sl dO dP dS) dJ/\aI.Nodup/\(∀k∈aI,H.z<=k)/\a_ w aJ (sl dT dU dV) dK/\aJ.Nodup/\(∀k∈aJ,H.z<=k)/\(∀k∈aJ,k∉aI)/\a_ w aK (sl dW dX dY) dL/\aK.Nodup/\(∀k∈aK,H.z<=k)/\(∀k∈aK,k∉aI)/\(∀k∈aK,k∉aJ)/\a_ w aL (sl dZ e0 e1) dN/\aL.Nodup/\(∀k∈aL,H.z<=k)/\(∀k∈aL,k∉aI)/\(∀k∈aL,k∉aJ)/\(∀k∈aL,k∉aK)/\Blk w g1 [sl A0 N0 C0,vI c5,vI c6]/\Blk w G.z [Str.v x5,vI x3,vI 0,vB false,sl dO dP dS,sl dT dU dV,sl dW dX dY,sl dZ e0 e1]) ?_ ?_
      ·refine Wc z (fun fi=>?_)<|fun fi=>?_
       ·refine Wm z ?_
        have ge:=lt_ hj s3.s;have gf:∀k∈[G.z],¬B k:=or0 (c_ lr)<|k_<|zt' J ge;have hu:=(((hn.c sc<|b_<|c_ hBg).e s3).e h4).c I<|b_ gf
        have aM:=mm1 (Blk.lt hB1) ge;have hw:=lt_ (lt_ ge h4.s) I.s;obtain ⟨_,_,_,lA,iZ⟩:=v_<|ifT gw fi;refine E z (fc call30 z<|b_q (B:=B) lA (((hq.e s3).e h4).c I<|djs aM) (zt' J hw) hBg (Y.g hu) ho hp<|ii z) ?_;rintro _ O ⟨b0,rfl,_,lB,lC,lD⟩;refine R z (add_ z z)<|Rw z ?_
        obtain ⟨_,j0,gx⟩:=bdS iZ;refine b_M (σ:=Int×Int×Int×(List Str)×(List Int)) (ρ:=e_×Int×Int) (fun s a w=>un5 (fun b1 aN aO bD bE=>∃a5 a6 a7 Se ak nm cu Sf,Sat 147 [(0,pt g1),(6,pt wb.z),(7,vI (x2.rules.length:Int)),(8,pt G.z),(9,vI b1)] a/\Chg (· ∈ ([g1]++[G.z])) O w/\inI b1/\inI aN/\inI aO/\a_ w Se (sl a5 a6 a7) bD/\Se.Nodup/\(∀k∈Se,O.z<=k)/\a_ w Sf (sl ak nm cu) bE/\Sf.Nodup/\(∀k∈Sf,O.z<=k)/\(∀k∈Sf,k∉Se)/\Blk w g1 [sl A0 N0 C0,vI aN,vI aO]/\Blk w G.z [Str.v x5,vI x3,vI 0,vB false,sl none 0 0,sl a5 a6 a7,sl none 0 0,sl ak nm cu]) s) (fun s a w=>un5 (fun b1 aN aO bD bE=>∃a5 a6 a7 Se ak nm cu Sf,Sat 147 [(6,pt wb.z),(8,pt G.z)] a/\Chg (· ∈ ([g1]++[G.z])) O w/\inI b1/\inI aN/\inI aO/\a_ w Se (sl a5 a6 a7) bD/\Se.Nodup/\(∀k∈Se,O.z<=k)/\a_ w Sf (sl ak nm cu) bE/\Sf.Nodup/\(∀k∈Sf,O.z<=k)/\(∀k∈Sf,k∉Se)/\Blk w g1 [sl A0 N0 C0,vI aN,vI aO]/\Blk w G.z [Str.v x5,vI x3,vI 0,vB false,sl none 0 0,sl a5 a6 a7,sl none 0 0,sl ak nm cu]) s) (rQ prog fn<|Q7 w0 g1 B A0 N0 C0 x1) j0 ?_ ?_ ?_ ?_
        ·exact fun _ q=>⟨none,0,0,[],none,0,0,[],q.k<|s5 z z z z z,cr ([g1]++[G.z]) O,iA _ _,lB,lC,onL,G_,an_,onL,G_,an_,an_,lD,ht.c b0<|atp aM⟩
        ·rintro ⟨b1,aN,aO,bD,bE⟩ _ gg _ ⟨a5,a6,a7,Se,ak,nm,cu,Sf,j1,bF,gh,e2,e3,e4,e5,aP,c7,e6,b2,c8,e7,e8⟩ j2;have gy:=c_u j2;refine Wu ?_ j1;refine Wq<|Wm z<|R z (a_e z z)<|Wx z (fun fj=>?_) (fun fj=>?_)
         ·refine Wk<|Wq<|Wb<|Wq (Wd (X:=fun k=>k∈[g1]∨gg.z<=k) 2560 (.rd 0<|.rd 1<|.rd 2<|.rd 5<|.ef 3<|.ef 4<|.ef 6<|.rd 7<|.ef 8<|.ef 9<|.rd 10<|.ef 11 .done) mo (by kernel_rfl) fun bG ss _=>dR z z (fd c_2 z) ?_)
          have hy:=e8.e ss;have gi:=lt_ I.s b0.s;have hz:=lt_ gi bF.s;refine dR z z (l1 c_h z (a_y (atp aM)<|Nat.lt_of_lt_of_le ha.lt hz)<|hy.at z)<|dM z z z<|dM z z z<|dE z z (fS [(.const<|Str.v ⟨[112]⟩),.const<|Str.v ⟨[113]⟩,(.const<|Str.v ⟨[114]⟩)] b_o z z z (a_c z) (lb z)<|lb z) (.inr fun _ _ h=>w_<|h.2.below) ?_
          rintro _ c9 ⟨rfl,hA⟩;have hv:=hA.below;have hB:a_ c9 [bG.z] (sl (some ⟨bG.z,0,none⟩) 3 3) ([(⟨[112]⟩:Str),(⟨[113]⟩:Str),(⟨[114]⟩:Str)]:List Str):=k_M (l:=[(⟨[112]⟩:Str),(⟨[113]⟩:Str),(⟨[114]⟩:Str)]) (hA.blk:Blk c9 bG.z [(Str.v (⟨[112]⟩:Str)),Str.v (⟨[113]⟩:Str),(Str.v (⟨[114]⟩:Str))]) (ac0 (lb z)<|ac0 (lb z)<|ac0 (lb z) an0) z;have hC:=(((hu.c b0<|b_<|c_ hBg).c bF<|nmA (b_<|c_ hBg)<|b_ gf).e ss).e hv;have e9:=lt_ hw b0.s;have hD:=lt_ (lt_ e9 bF.s) ss.s;have hE:=lt_ hD hv.s;obtain ⟨_,_,_,lE,j3⟩:=v_<|ifT gy fj;refine dE z z (fc call57 z<|W_w17 (B:=zn B bG.z c9.z) lE ((e7.e ss).e hv) (c_x (zt' J hE) lr) (atp ((e_5 (c_ hBg) (c_<|Blk.lt hB1) hD):∀k∈[g1],¬(zn B bG.z c9.z) k)) (repS.mono (Y.g hC) c_4) e2 e3<|or_ hB<|zin (B:=B) (c_ lr)<|a_.lt hB) (.inr fun _ _ h=>h.1.mono fun k _ hk=>(io sr) k hk) ?_;rintro _ lF ⟨a8,rfl,_,lG,lH,lI⟩;have hF:=lt_ hE a8.s;obtain ⟨_,lJ,j4⟩:=bdS j3;refine dE z z (fc call28 z<|e_L lJ (zt' J hF) gh) (.inr fun _ _ h=>w_<|h.1) ?_;rintro _ hG ⟨sw,rfl,_⟩;obtain ⟨lK,gj,j5⟩:=bdS j4;refine dR z z (c_g z z gj)<|dE z z (fS [(.tmp 84)] b_o z z z (a_c z) (lb z)<|lb z) (.inr fun _ _ h=>w_<|h.2.below) ?_
          rintro _ hH ⟨rfl,gk⟩;have hx:=gk.below;have qH:=a_x gk<|c_e<|c_f gj
          have gl:=j_ aP (Blk.lt hB1) e9;obtain ⟨lL,lM,j6⟩:=bdS j5;refine dE z z (a_O (α:=Str) b_o lM z z (((((e4.e ss).e hv).c a8 gl).e sw).e hx) e5 (gk.blk:Blk hH hG.z [Str.v lK]) (c_e<|c_f gj) an_ G_) (.inl z) ?_;rintro _ lO ⟨bH,gm,gn,gp,rfl,aQ,hI,lP,ea⟩;refine dR z z (fd c_2 z) ?_;have hJ:=j_ aP ha.lt gi;refine dE0 z (fs0 (cur':=[Str.v x5,vI x3,vI 0,vB false,sl none 0 0,sl gm gn gp,sl none 0 0,sl ak nm cu]) z_33 z z (((((hy.e hv).c a8<|atp aM).e sw).e hx).c aQ<|djs hJ) z z z z) (.inl z) ?_;rintro _ hK ⟨lQ,lR⟩;have a9:=lR.one;refine pD<|Wo (Wd (X:=fun k=>k∈[g1]∨hK.z<=k) 320 (pl_ 9 [4,5,6,8]) mo (by kernel_rfl) fun lS sy _=>dR z z (fd J_ z) ?_)
          have hL:=lQ.e sy;have hM:=lt_ (lt_ (lt_ (lt_ (lt_ hz ss.s) hv.s) a8.s) sw.s) hx.s;have hN:=lt_ (lt_ hM aQ.s) a9.s;refine dR z z (l1 D_ z (a_y (atp aM)<|Nat.lt_of_lt_of_le ha.lt hN)<|hL.at z)<|dM z z z<|dM z z z ?_
          have hO:=lt_ (lt_ hF sw.s) hx.s;obtain ⟨lT,lU,lV,lW,j7⟩:=v_ j6;refine dE z z (fc call30 z<|b_q (B:=B) lW (((((lI.e sw).e hx).c aQ<|djs gl).c a9<|djs aM).e sy) (zt' J<|lt_ (lt_ (lt_ hO aQ.s) a9.s) sy.s) hBg (Y.g<|(((((hC.c a8<|b_<|c_ hBg).e sw).e hx).c aQ<|b_ (or0 aP (k_<|zt' J e9):∀k∈Se,¬B k)).c a9<|b_ gf).e sy) lG lH<|a_N<|repS.len bi) (.inr fun _ _ h=>h.1.mono fun k _ hk=>(io sr) k hk) ?_;rintro _ hP ⟨b3,rfl,hQ,lX,lY,lZ⟩;refine dE z z (fS [(.tmp 92)] a_Y z z z (a_c z) (lb z)<|lb z) (.inr fun _ _ h=>w_<|h.2.below) ?_;rintro _ hR ⟨rfl,fk⟩;have aR:=fk.below;have qI:=a_x fk<|a_Q hQ
          have fl:=j_ b2 (Blk.lt hB1) e9;have fm:=j_ b2 ha.lt gi;obtain ⟨m0,m2,j8⟩:=bdS j7;refine dE z z (a_O (α:=Int) a_Y m2 z z ((((((((((c7.e ss).e hv).c a8 fl).e sw).e hx).c aQ c8).c a9 fm).e sy).c b3 fl).e aR) e6 (fk.blk:Blk hR hP.z [vI lT]) (a_Q hQ) an_ G_) (.inl z) ?_;rintro _ m3 ⟨eb,hS,hT,hU,rfl,ec,m4,m5,fo⟩;refine dR z z (fd J_ z)<|dE0 z (fs0 (cur':=[Str.v x5,vI x3,vI 0,vB false,sl none 0 0,sl gm gn gp,sl none 0 0,sl hS hT hU]) e_7 z z (((hL.c b3<|atp aM).e aR).c ec<|djs fm) z z z z) (.inl z) ?_
          rintro _ m6 ⟨m7,m8⟩;have ed:=m8.one;refine pD<|Wo<|Wg<|Rm z<|R z (sb_ z z)<|Ra z<|Wl ?_
          have hV:∀k∈bH,k∉[G.z]:=or2 ea hJ an_<|O_ (c_ ha.lt) hM;have hW:∀k∈bH,k∉Sf:=or2 ea (ds c8) an_<|O_ (a_.lt c7)<|lt_ (lt_ (lt_ (lt_ ss.s hv.s) a8.s) sw.s) hx.s;have hX:=lt_ (lt_ (lt_ (lt_ (lt_ bF.s ss.s) hv.s) a8.s) sw.s) hx.s;exact fun _ q=>⟨(L_ b1 1,lU,lV,lL,m0),(som j8).symm,⟨gm,gn,gp,bH,hS,hT,hU,eb,q.k<|s5 z z z z z,(cM (cM (f_ (cM (f_ (cM (cM (f_ (f_ (cM (f_ (f_ (cM (cr ([g1]++[G.z]) O) bF (aa_ (io<|A_ sr)<|io<|C_ sr):Chg (· ∈ ([g1]++[G.z])) O gg) ss:Chg (· ∈ ([g1]++[G.z])) O bG) hv:Chg (· ∈ ([g1]++[G.z])) O c9) a8 (io<|A_ sr):Chg (· ∈ ([g1]++[G.z])) O lF) sw:Chg (· ∈ ([g1]++[G.z])) O hG) hx:Chg (· ∈ ([g1]++[G.z])) O hH) aQ (or0 aP (s_ lr):∀k∈Se,k∈([g1]++[G.z])∨O.z<=k):Chg (· ∈ ([g1]++[G.z])) O lO) a9 (io<|C_ sr):Chg (· ∈ ([g1]++[G.z])) O hK) sy:Chg (· ∈ ([g1]++[G.z])) O lS) b3 (io<|A_ sr):Chg (· ∈ ([g1]++[G.z])) O hP) aR:Chg (· ∈ ([g1]++[G.z])) O hR) ec (or0 b2 (s_ lr):∀k∈Sf,k∈([g1]++[G.z])∨O.z<=k):Chg (· ∈ ([g1]++[G.z])) O m3) ed (io<|C_ sr):Chg (· ∈ ([g1]++[G.z])) O m6),iS _ _,lX,lY,(((((hI.c a9 hV).e sy).c b3 (or2 ea gl an_ (O_ (c_<|Blk.lt hB1) hO):∀k∈bH,k∉[g1])).e aR).c ec hW).c ed hV,lP,(or2 ea aP an_ (b_f hX):∀k∈bH,O.z<=k),m4.c ed (or2 fo fm an_ (O_ (c_ ha.lt)<|lt_ (lt_ (lt_ hN sy.s) b3.s) aR.s):∀k∈eb,k∉[G.z]),m5,(or2 fo b2 an_ (b_f<|lt_ (lt_ (lt_ (lt_ (lt_ hX aQ.s) a9.s) sy.s) b3.s) aR.s):∀k∈eb,O.z<=k),(or2 fo (ds hW) an_ (O_ (a_.lt hI)<|lt_ (lt_ (lt_ a9.s sy.s) b3.s) aR.s):∀k∈eb,k∉bH),((lZ.e aR).c ec<|djs fl).c ed<|djs aM,m7⟩⟩
         exact We<|fun _ q=>b_t (som<|ifF gy fj).symm ⟨a5,a6,a7,Se,ak,nm,cu,Sf,q.k<|s2 z z,(cM (cr ([g1]++[G.z]) O) bF (aa_ (io<|A_ sr)<|io<|C_ sr):Chg (· ∈ ([g1]++[G.z])) O gg),gh,e2,e3,e4,e5,aP,c7,e6,b2,c8,e7,e8⟩
        ·rintro ⟨b1,aN,aO,bD,bE⟩ m9 ma rfl ⟨a5,a6,a7,Se,ak,nm,cu,Sf,_,mb,gh,e2,e3,e4,e5,aP,c7,e6,b2,c8,e7,e8⟩;have j9:=elL gx;revert m9;exact fun _ q=>⟨aN,aO,([]:List UInt8),bD,([]:List Int),bE,som<|c_u j9,none,0,0,[],a5,a6,a7,Se,none,0,0,[],ak,nm,cu,Sf,q.k<|s2 z z,(cM (cM (cr ([g1]++[G.z]) H) b0 (io<|A_ sr):Chg (· ∈ ([g1]++[G.z])) H O) mb (aa_ (io<|A_ sr)<|io<|C_ sr):Chg (· ∈ ([g1]++[G.z])) H ma),e2,e3,onL,G_,an_,e4,e5,l_ aP b0.s,nmN _,onL,G_,an_,an_,an_,c7,e6,l_ b2 b0.s,nmN _,c8,nmN _,e7,e8⟩
        rintro _ _ _ _ rfl ⟨rfl,ja⟩;have jb:=elR gx;obtain rfl:=som jb;have jc:=elR fh;obtain rfl:=som jc;have jd:=elR ff;obtain rfl:=som jd;have je:=elR f9;obtain rfl:=som je;have jf:=elR f7;obtain rfl:=som jf;have jg:=elR f5;obtain rfl:=som jg;have jh:=elR f3;obtain rfl:=som jh;exact ⟨ja,z⟩
       refine Ws<|Rq z z z<|Rw z ?_
       obtain ⟨mc,gz,gA⟩:=bdS<|ifF gw fi;refine Wt (fun a w=>∃(ca:Int)(cb:Int)(ee:List UInt8)(eg:List Int)(eh:List Int),Sum.inl (ca,cb,ee,eg,eh)=mc/\∃ei ej ek b4 em en eo b5 ep er es b6,Sat 147 [(6,pt wb.z),(8,pt G.z)] a/\Chg (· ∈ ([g1]++[G.z])) H w/\inI ca/\inI cb/\a_ w b4 (sl ei ej ek) ee/\b4.Nodup/\(∀k∈b4,H.z<=k)/\a_ w b5 (sl em en eo) eg/\b5.Nodup/\(∀k∈b5,H.z<=k)/\(∀k∈b5,k∉b4)/\a_ w b6 (sl ep er es) eh/\b6.Nodup/\(∀k∈b6,H.z<=k)/\(∀k∈b6,k∉b4)/\(∀k∈b6,k∉b5)/\Blk w g1 [sl A0 N0 C0,vI ca,vI cb]/\Blk w G.z [Str.v x5,vI x3,vI 0,vB false,sl ei ej ek,sl none 0 0,sl em en eo,sl ep er es]) ?_ ?_
       ·refine Wc z (fun eY=>?_)<|fun eY=>?_
        ·refine Wm z ?_
         refine R z (lN (vs:=[sl A5 N5 C5]) t_ q_ z z fid<|(((((cp.e hi).c sc<|atp<|mmr<|Blk.lt hB1).e s3).e h4).c I<|djs<|mm1 co.lt<|lt_ (lt_ (lt_ aj.s hi.s) sc.s) s3.s).row 0 1 z) ?_;have fp:=lt_ hj s3.s;have eu:∀k∈[G.z],¬B k:=or0 (c_ lr)<|k_<|zt' J fp;have fq:=(((hn.c sc<|b_<|c_ hBg).e s3).e h4).c I<|b_ eu
         have hl:=mm1 (Blk.lt hB1) fp;have hY:=lt_ (lt_ fp h4.s) I.s;obtain ⟨md,_,_,me,ji⟩:=v_<|ifT gz eY;refine E z (fc call58 z<|j_6 (B:=B) me (((hq.e s3).e h4).c I<|djs hl) (zt' J hY) hBg (Y.g fq) ho hp<|cn.g fq) ?_;rintro _ L ⟨aa,rfl,mf,mg,mh,mi⟩;refine E z (fS [(.tmp 100)] a_Y z z z (a_c z) (lb z)<|lb z) ?_;rintro _ hZ ⟨rfl,fr⟩;have b7:=fr.below;have qJ:Blk hZ L.z [vI md]:=fr.blk;refine Rf z J_ z<|E0 (fs0 (cur':=[Str.v x5,vI x3,vI 0,vB false,sl none 0 0,sl none 0 0,sl none 0 0,sl (some ⟨L.z,0,none⟩) 1 1]) e_7 z z ((ht.c aa<|atp hl).e b7) z z z z) ?_
         rintro _ mj ⟨mk,ml⟩;have b8:=ml.one;refine Wn<|Wm z ?_
         have i0:=((fq.c aa<|b_<|c_ hBg).e b7).c b8<|b_ eu
         have ew:=lt_ hY aa.s;have i1:=lt_ (lt_ ew b7.s) b8.s;obtain ⟨_,_,_,mm,jj⟩:=v_ ji;refine E z (fc call30 z<|b_q (B:=B) mm ((mi.e b7).c b8<|djs hl) (zt' J i1) hBg (Y.g i0) mg mh<|ii z) ?_;rintro _ V ⟨b9,rfl,_,mn,mp,mq⟩;refine R z (add_ z z)<|Rw z ?_
         obtain ⟨_,jk,gB⟩:=bdS jj;refine b_M (σ:=Int×Int×Int×(List Int)×(List Int)) (ρ:=e_×Int×Int) (fun s a w=>un5 (fun ba aS aT bb bI=>∃ab ad ae Sg ar nz a0 Sd,Sat 147 [(0,pt g1),(6,pt wb.z),(7,vI (x2.rules.length:Int)),(8,pt G.z),(10,vI ba)] a/\Chg (· ∈ ([g1]++([G.z]++[L.z]))) V w/\inI ba/\inI aS/\inI aT/\a_ w Sg (sl ab ad ae) bb/\Sg.Nodup/\(∀k∈Sg,V.z<=k)/\a_ w Sd (sl ar nz a0) bI/\Sd.Nodup/\(∀k∈Sd,k∈[L.z]∨V.z<=k)/\(∀k∈Sd,k∉Sg)/\Blk w g1 [sl A0 N0 C0,vI aS,vI aT]/\Blk w G.z [Str.v x5,vI x3,vI 0,vB false,sl none 0 0,sl none 0 0,sl ab ad ae,sl ar nz a0]) s) (fun s a w=>un5 (fun ba aS aT bb bI=>∃ab ad ae Sg ar nz a0 Sd,Sat 147 [(6,pt wb.z),(8,pt G.z)] a/\Chg (· ∈ ([g1]++([G.z]++[L.z]))) V w/\inI ba/\inI aS/\inI aT/\a_ w Sg (sl ab ad ae) bb/\Sg.Nodup/\(∀k∈Sg,V.z<=k)/\a_ w Sd (sl ar nz a0) bI/\Sd.Nodup/\(∀k∈Sd,k∈[L.z]∨V.z<=k)/\(∀k∈Sd,k∉Sg)/\Blk w g1 [sl A0 N0 C0,vI aS,vI aT]/\Blk w G.z [Str.v x5,vI x3,vI 0,vB false,sl none 0 0,sl none 0 0,sl ab ad ae,sl ar nz a0]) s) (rQ prog fn<|Q7 w0 g1 B A0 N0 C0 x1) jk ?_ ?_ ?_ ?_
         ·exact fun _ q=>⟨none,0,0,[],some ⟨L.z,0,none⟩,1,1,[L.z],q.k<|s5 z z z z z,cr ([g1]++([G.z]++[L.z])) V,iA _ _,mn,mp,onL,G_,an_,((a_x fr<|a_Q mf).c b8<|mm1 ha.lt<|lt_ I.s aa.s).c b9<|mm1 (Blk.lt hB1) ew,a_k,io sr,nmN _,mq,mk.c b9<|atp hl⟩
         ·rintro ⟨ba,aS,aT,bb,bI⟩ _ fs _ ⟨ab,ad,ae,Sg,ar,nz,a0,Sd,jl,bJ,i2,ex,ey,cc,ez,af,cd,eA,bc,ce,eB,eC⟩ jm;have gC:=c_u jm;refine Wu ?_ jl;refine Wq<|Wm z<|R z (a_e z z)<|Wx z (fun eZ=>?_) (fun eZ=>?_)
          ·refine Wk<|Wq<|Wb<|Wq (Wd (X:=fun k=>k∈[g1]∨fs.z<=k) 5120 (pl_ 13 [7,9,10,12]) mo (by kernel_rfl) fun mr a1 _=>dR z z (fd a_S z) ?_)
           have ft:=eC.e a1;have i3:=lt_ I.s aa.s;have fu:=lt_ (lt_ (lt_ i3 b7.s) b8.s) b9.s;have fv:=lt_ fu bJ.s;refine dR z z (l1 D_ z (a_y (atp hl)<|Nat.lt_of_lt_of_le ha.lt fv)<|ft.at z)<|dR z z (fd a_S z)<|dR z z (l1 D_ z (a_y (atp hl)<|Nat.lt_of_lt_of_le ha.lt fv)<|ft.at z) ?_
           have i4:=cc.e a1;refine dR z z (lnR o_ z<|or_ i4<|zin (B:=B) af<|a_.lt cc)<|dR z z (c_m z z)<|dM z z z ?_
           have i5:=((i0.c b9<|b_<|c_ hBg).c bJ<|nmA (b_<|c_ hBg)<|nmA (b_ eu)<|b_ (or0 (c_ lr) (k_<|zt' J ew):∀k∈[L.z],¬B k)).e a1;have eD:=lt_ i1 b9.s;have i6:=lt_ (lt_ eD bJ.s) a1.s;obtain ⟨ms,_,_,mt,jn⟩:=v_<|ifT gC eZ;refine dE z z (fc call30 z<|b_q (B:=B) mt (eB.e a1) (zt' J i6) hBg (Y.g i5) ex ey<|ii z) (.inr fun _ _ h=>h.1.mono fun k _ hk=>(io sr) k hk) ?_;rintro _ i7 ⟨ah,rfl,_,mu,mw,mx⟩;refine dR z z (add_ z z)<|dE z z (fS [(.tmp 118)] a_Y z z z (a_c z) (lb z)<|lb z) (.inr fun _ _ h=>w_<|h.2.below) ?_
           rintro _ i8 ⟨rfl,fw⟩;have a2:=fw.below;have qK:=a_x fw<|a_Q<|iA _ _
           have fx:=j_ af (Blk.lt hB1) eD;obtain ⟨my,mz,jo⟩:=bdS jn;refine dE z z (a_O (α:=Int) a_Y mz z z ((i4.c ah fx).e a2) ez (fw.blk:Blk i8 i7.z [(vI<|g_ (a_1 4 (bb.length:Int)) ms)]) (a_Q<|iA _ _) an_ G_) (.inl z) ?_;rintro _ mA ⟨bK,fy,fz,fA,rfl,aU,i9,mB,eE⟩;refine dR z z (fd a_S z) ?_;have ia:=j_ af ha.lt fu;refine dE0 z (fs0 (cur':=[Str.v x5,vI x3,vI 0,vB false,sl none 0 0,sl none 0 0,sl fy fz fA,sl ar nz a0]) e_7 z z (((ft.c ah<|atp hl).e a2).c aU<|djs ia) z z z z) (.inl z) ?_;rintro _ ib ⟨mC,mD⟩;have ai:=mD.one;refine pD<|Wo (Wd (X:=fun k=>k∈[g1]∨ib.z<=k) 320 (pl_ 9 [4,5,6,8]) mo (by kernel_rfl) fun mE a3 _=>dR z z (fd J_ z) ?_)
           have ic:=mC.e a3;have id:=lt_ (lt_ (lt_ fv a1.s) ah.s) a2.s;have ie:=lt_ (lt_ id aU.s) ai.s;refine dR z z (l1 D_ z (a_y (atp hl)<|Nat.lt_of_lt_of_le ha.lt ie)<|ic.at z)<|dM z z z<|dM z z z ?_
           have ig:=lt_ (lt_ i6 ah.s) a2.s;obtain ⟨mF,mG,mH,mI,jp⟩:=v_ jo;refine dE z z (fc call30 z<|b_q (B:=B) mI ((((mx.e a2).c aU<|djs fx).c ai<|djs hl).e a3) (zt' J<|lt_ (lt_ (lt_ ig aU.s) ai.s) a3.s) hBg (Y.g<|((((i5.c ah<|b_<|c_ hBg).e a2).c aU<|b_ (or0 af (k_<|zt' J eD):∀k∈Sg,¬B k)).c ai<|b_ eu).e a3) mu mw<|a_N<|repS.len bi) (.inr fun _ _ h=>h.1.mono fun k _ hk=>(io sr) k hk) ?_;rintro _ ih ⟨be,rfl,ij,mJ,mK,mL⟩;refine dE z z (fS [(.tmp 126)] a_Y z z z (a_c z) (lb z)<|lb z) (.inr fun _ _ h=>w_<|h.2.below) ?_;rintro _ ik ⟨rfl,fB⟩;have aV:=fB.below;have qL:=a_x fB<|a_Q ij
           have fC:∀k∈Sd,k∉[g1]:=or1 bc (mm1 (Blk.lt hB1) ew)<|O_ (c_<|Blk.lt hB1) eD;have fD:∀k∈Sd,k∉[G.z]:=or1 bc (mm1 ha.lt i3)<|O_ (c_ ha.lt) fu;obtain ⟨mM,mN,jq⟩:=bdS jp;refine dE z z (a_O (α:=Int) a_Y mN z z ((((((((cd.e a1).c ah fC).e a2).c aU ce).c ai fD).e a3).c be fC).e aV) eA (fB.blk:Blk ik ih.z [vI mF]) (a_Q ij) an_ G_) (.inl z) ?_;rintro _ mO ⟨eF,il,im,ip,rfl,eG,mP,mQ,fE⟩;refine dR z z (fd J_ z)<|dE0 z (fs0 (cur':=[Str.v x5,vI x3,vI 0,vB false,sl none 0 0,sl none 0 0,sl fy fz fA,sl il im ip]) e_7 z z (((ic.c be<|atp hl).e aV).c eG<|djs fD) z z z z) (.inl z) ?_
           rintro _ mR ⟨mS,mT⟩;have eH:=mT.one;refine pD<|Wo<|Wg<|Rm z<|R z (sb_ z z)<|Ra z<|Wl ?_
           have iq:∀k∈bK,k∉[G.z]:=or2 eE ia an_<|O_ (c_ ha.lt) id;have ir:∀k∈bK,k∉Sd:=or2 eE (ds ce) an_<|O_ (a_.lt cd)<|lt_ (lt_ a1.s ah.s) a2.s;have it:=lt_ (lt_ (lt_ bJ.s a1.s) ah.s) a2.s;exact fun _ q=>⟨(L_ ba 1,mG,mH,my,mM),(som jq).symm,⟨fy,fz,fA,bK,il,im,ip,eF,q.k<|s5 z z z z z,(cM (cM (f_ (cM (f_ (cM (cM (f_ (cM (f_ (cM (cr ([g1]++([G.z]++[L.z])) V) bJ (aa_ (io<|A_ sr)<|aa_ (io<|C_<|A_ sr)<|io<|C_<|C_ sr):Chg (· ∈ ([g1]++([G.z]++[L.z]))) V fs) a1:Chg (· ∈ ([g1]++([G.z]++[L.z]))) V mr) ah (io<|A_ sr):Chg (· ∈ ([g1]++([G.z]++[L.z]))) V i7) a2:Chg (· ∈ ([g1]++([G.z]++[L.z]))) V i8) aU (or0 af (s_ lr):∀k∈Sg,k∈([g1]++([G.z]++[L.z]))∨V.z<=k):Chg (· ∈ ([g1]++([G.z]++[L.z]))) V mA) ai (io<|C_<|A_ sr):Chg (· ∈ ([g1]++([G.z]++[L.z]))) V ib) a3:Chg (· ∈ ([g1]++([G.z]++[L.z]))) V mE) be (io<|A_ sr):Chg (· ∈ ([g1]++([G.z]++[L.z]))) V ih) aV:Chg (· ∈ ([g1]++([G.z]++[L.z]))) V ik) eG (or1 bc (io<|C_<|C_ sr) (s_ lr):∀k∈Sd,k∈([g1]++([G.z]++[L.z]))∨V.z<=k):Chg (· ∈ ([g1]++([G.z]++[L.z]))) V mO) eH (io<|C_<|A_ sr):Chg (· ∈ ([g1]++([G.z]++[L.z]))) V mR),iS _ _,mJ,mK,(((((i9.c ai iq).e a3).c be (or2 eE fx an_ (O_ (c_<|Blk.lt hB1) ig):∀k∈bK,k∉[g1])).e aV).c eG ir).c eH iq,mB,(or2 eE af an_ (b_f it):∀k∈bK,V.z<=k),mP.c eH (or2 fE fD an_ (O_ (c_ ha.lt)<|lt_ (lt_ (lt_ ie a3.s) be.s) aV.s):∀k∈eF,k∉[G.z]),mQ,(or2 fE (or1 bc (io sr) (s_ lr):∀k∈Sd,k∈[L.z]∨V.z<=k) an_ (s_<|lt_ (lt_ (lt_ (lt_ (lt_ it aU.s) ai.s) a3.s) be.s) aV.s):∀k∈eF,k∈[L.z]∨V.z<=k),(or2 fE (ds ir) an_ (O_ (a_.lt i9)<|lt_ (lt_ (lt_ ai.s a3.s) be.s) aV.s):∀k∈eF,k∉bK),((mL.e aV).c eG<|djs fC).c eH<|djs hl,mS⟩⟩
          exact We<|fun _ q=>b_t (som<|ifF gC eZ).symm ⟨ab,ad,ae,Sg,ar,nz,a0,Sd,q.k<|s2 z z,(cM (cr ([g1]++([G.z]++[L.z])) V) bJ (aa_ (io<|A_ sr)<|aa_ (io<|C_<|A_ sr)<|io<|C_<|C_ sr):Chg (· ∈ ([g1]++([G.z]++[L.z]))) V fs),i2,ex,ey,cc,ez,af,cd,eA,(or1 bc (io sr) (s_ lr):∀k∈Sd,k∈[L.z]∨V.z<=k),ce,eB,eC⟩
         ·rintro ⟨ba,aS,aT,bb,bI⟩ mU mV rfl ⟨ab,ad,ae,Sg,ar,nz,a0,Sd,_,mW,i2,ex,ey,cc,ez,af,cd,eA,bc,ce,eB,eC⟩;have jr:=elL gB;revert mU;have iu:=lt_ (lt_ (lt_ aa.s b7.s) b8.s) b9.s;exact fun _ q=>⟨aS,aT,([]:List UInt8),bb,bI,som<|c_u jr,none,0,0,[],ab,ad,ae,Sg,ar,nz,a0,Sd,q.k<|s2 z z,(cM (cM (cM (f_ (cM (cr ([g1]++[G.z]) H) aa (io<|A_ sr):Chg (· ∈ ([g1]++[G.z])) H L) b7:Chg (· ∈ ([g1]++[G.z])) H hZ) b8 (io<|C_ sr):Chg (· ∈ ([g1]++[G.z])) H mj) b9 (io<|A_ sr):Chg (· ∈ ([g1]++[G.z])) H V) mW (aa_ (io<|A_ sr)<|aa_ (io<|C_ sr) (mor aa.s:∀k∈[L.z],k∈([g1]++[G.z])∨H.z<=k)):Chg (· ∈ ([g1]++[G.z])) H mV),ex,ey,onL,G_,an_,cc,ez,l_ af iu,nmN _,cd,eA,a_i bc (m1 aa.s) iu,nmN _,ce,eB,eC⟩
         rintro _ _ _ _ rfl ⟨rfl,js⟩;have jt:=elR gB;obtain rfl:=som jt;have ju:=elR gA;obtain rfl:=som ju;have jv:=elR fh;obtain rfl:=som jv;have jw:=elR ff;obtain rfl:=som jw;have jx:=elR f9;obtain rfl:=som jx;have jy:=elR f7;obtain rfl:=som jy;have jz:=elR f5;obtain rfl:=som jz;have jA:=elR f3;obtain rfl:=som jA;exact ⟨js,z⟩
        refine Wq<|Ws<|Rq z z z<|Rw z ?_
        obtain ⟨mX,gD,jB⟩:=bdS<|ifF gz eY;refine Wt (fun a w=>∃(fF:Bool),fF=mX/\Sat 147 [(0,pt g1),(6,pt wb.z),(7,vI (x2.rules.length:Int)),(8,pt G.z),(22,vI x3),(130,vB fF)] a/\Below H.z H w) ?_ ?_
        ·refine Wc z (fun f0=>?_)<|fun f0=>?_
         ·exact a_7<|fun _ q=>⟨x3==8,som<|ifT gD f0,q.k<|s6 z z z z z z,br H⟩
         exact Wg<|Rq z z z<|Ra z<|Wl (fun _ q=>⟨x3==9,som<|ifF gD f0,q.k<|s6 z z z z z z,br H⟩)
        rintro mY W ⟨fF,rfl,_,sh⟩;revert mY;refine Wo ?_;obtain ⟨mZ,gE,jC⟩:=bdS jB;refine Wt (fun a w=>∃(cf:Int)(cg:Int)(eI:List UInt8)(eJ:List Int),(cf,cg,eI,eJ)=mZ/\∃eK eL eM bL eN eO eP bM,Sat 147 [(6,pt wb.z),(8,pt G.z)] a/\Chg (· ∈ ([g1]++[G.z])) W w/\inI cf/\inI cg/\a_ w bL (sl eK eL eM) eI/\bL.Nodup/\(∀k∈bL,W.z<=k)/\a_ w bM (sl eN eO eP) eJ/\bM.Nodup/\(∀k∈bM,W.z<=k)/\(∀k∈bM,k∉bL)/\Blk w g1 [sl A0 N0 C0,vI cf,vI cg]/\Blk w G.z [Str.v x5,vI x3,vI 0,vB false,sl eK eL eM,sl none 0 0,sl none 0 0,sl eN eO eP]) ?_ ?_
        ·refine Wc z (fun f1=>?_)<|fun f1=>?_
         ·refine Wg<|RM z z ?_
          have fG:=lt_ hj s3.s;have fH:=mm1 (Blk.lt hB1) fG;obtain ⟨iv,n0,n1,n2,jD⟩:=v_<|ifT gE f1;refine E z (fc call30 z<|b_q (B:=B) n2 ((((hq.e s3).e h4).c I<|djs fH).e sh) (zt' J<|lt_ (lt_ (lt_ fG h4.s) I.s) sh.s) hBg (Y.g<|((((hn.c sc<|b_<|c_ hBg).e s3).e h4).c I<|b_ (or0 (c_ lr) (k_<|zt' J fG):∀k∈[G.z],¬B k)).e sh) ho hp<|a_N<|repS.len bi) ?_;rintro _ ch ⟨eQ,rfl,n3,n4,n5,n6⟩;refine E z (fS [(.tmp 135)] a_Y z z z (a_c z) (lb z)<|lb z) ?_;rintro _ iw ⟨rfl,fI⟩;have fJ:=fI.below;have qM:Blk iw ch.z [vI iv]:=fI.blk;refine Rf z J_ z<|E0 (fs0 (cur':=[Str.v x5,vI x3,vI 0,vB false,sl none 0 0,sl none 0 0,sl none 0 0,sl (some ⟨ch.z,0,none⟩) 1 1]) e_7 z z (((ht.e sh).c eQ<|atp fH).e fJ) z z z z) ?_
          rintro _ n7 ⟨n8,n9⟩;have fK:=n9.one;refine Wl ?_;exact fun _ q=>⟨n0,n1,([]:List UInt8),[iv],som jD,none,0,0,[],some ⟨ch.z,0,none⟩,1,1,[ch.z],q.k<|s2 z z,(cM (f_ (cM (cr ([g1]++[G.z]) W) eQ (io<|A_ sr):Chg (· ∈ ([g1]++[G.z])) W ch) fJ:Chg (· ∈ ([g1]++[G.z])) W iw) fK (io<|C_ sr):Chg (· ∈ ([g1]++[G.z])) W n7),n4,n5,onL,G_,an_,(a_x fI<|a_Q n3).c fK<|mm1 ha.lt<|lt_ (lt_ I.s sh.s) eQ.s,a_k,m1 eQ.s,nmN _,(n6.e fJ).c fK<|djs fH,n8⟩
         refine Ws<|Rq z z z<|Rw z ?_
         obtain ⟨na,gF,jE⟩:=bdS<|ifF gE f1;refine Wt (fun a w=>∃(ci:Int)(cj:Int)(eR:List UInt8),(ci,cj,eR)=na/\∃eS eT eU ck,Sat 147 [(6,pt wb.z),(8,pt G.z)] a/\Chg (· ∈ ([g1]++[G.z])) W w/\inI ci/\inI cj/\a_ w ck (sl eS eT eU) eR/\ck.Nodup/\(∀k∈ck,W.z<=k)/\Blk w g1 [sl A0 N0 C0,vI ci,vI cj]/\Blk w G.z [Str.v x5,vI x3,vI 0,vB false,sl eS eT eU,sl none 0 0,sl none 0 0,sl none 0 0]) ?_ ?_
         ·refine Wc z (fun f2=>?_)<|fun f2=>?_
          ·refine Wg<|Rm z<|E z (fS [(.const<|.int .i64 0),.const<|.int .i64 10,.const<|.int .i64 59,(.const<|.int .i64 255)] a_Y z z z (a_c z) (lb z)<|lb z) ?_
           rintro _ cl ⟨rfl,ix⟩;have bf:=ix.below;have iy:a_ cl [W.z] (sl (some ⟨W.z,0,none⟩) 4 4) ([0,10,59,255]:List Int):=j_1 (l:=[0,10,59,255]) (ix.blk:Blk cl W.z [vI 0,vI 10,vI 59,vI 255]) (ac0 (ii z)<|ac0 (ii z)<|ac0 (ii z)<|ac0 (ii z) an0) z;have fL:=lt_ hj s3.s;have fM:=mm1 (Blk.lt hB1) fL;have iz:=lt_ (lt_ (lt_ fL h4.s) I.s) sh.s;obtain ⟨iB,nb,nc,nd,jF⟩:=v_<|ifT gF f2;refine E z (fc call38 z<|j_5 (B:=zn B W.z cl.z) nd (((((hq.e s3).e h4).c I<|djs fM).e sh).e bf) (c_x (zt' J<|lt_ iz bf.s) lr) (atp ((e_5 (c_ hBg) (c_<|Blk.lt hB1) iz):∀k∈[g1],¬(zn B W.z cl.z) k)) (repS.mono (Y.g<|(((((hn.c sc<|b_<|c_ hBg).e s3).e h4).c I<|b_ (or0 (c_ lr) (k_<|zt' J fL):∀k∈[G.z],¬B k)).e sh).e bf) c_4) ho hp<|or_ iy<|zin (B:=B) (c_ lr)<|a_.lt iy) ?_;rintro _ cm ⟨eV,rfl,_,ne,nf,ng⟩;refine R z (e_4 d_3 d_5 z)<|E z (fS [(.tmp 143)] a_9 z z z (a_c z) (lb z)<|lb z) ?_
           rintro _ iC ⟨rfl,fN⟩;have fO:=fN.below;have qN:Blk iC cm.z [(vU<|byteI<|mkB iB)]:=fN.blk;refine Rf z a_R z<|E0 (fs0 (cur':=[Str.v x5,vI x3,vI 0,vB false,sl (some ⟨cm.z,0,none⟩) 1 1,sl none 0 0,sl none 0 0,sl none 0 0]) z_22 z z ((((ht.e sh).e bf).c eV<|atp fM).e fO) z z z z) ?_
           rintro _ nh ⟨ni,nj⟩;have fP:=nj.one;refine Wl ?_;exact fun _ q=>⟨nb,nc,[mkB iB],som jF,some ⟨cm.z,0,none⟩,1,1,[cm.z],q.k<|s2 z z,(cM (f_ (cM (f_ (cr ([g1]++[G.z]) W) bf:Chg (· ∈ ([g1]++[G.z])) W cl) eV (io<|A_ sr):Chg (· ∈ ([g1]++[G.z])) W cm) fO:Chg (· ∈ ([g1]++[G.z])) W iC) fP (io<|C_ sr):Chg (· ∈ ([g1]++[G.z])) W nh),ne,nf,(a_x fN b_c).c fP<|mm1 ha.lt<|lt_ (lt_ (lt_ I.s sh.s) bf.s) eV.s,a_k,m1<|lt_ bf.s eV.s,(ng.e fO).c fP<|djs fM,ni⟩
          exact a_7<|fun _ q=>⟨jQ,jR,([]:List UInt8),som<|ifF gF f2,none,0,0,[],q.k<|s2 z z,cr ([g1]++[G.z]) W,ho,hp,onL,G_,an_,(((hq.e s3).e h4).c I<|djs<|mm1 (Blk.lt hB1)<|lt_ hj s3.s).e sh,ht.e sh⟩
         rintro nk nl ⟨ci,cj,eR,rfl,eS,eT,eU,ck,_,np,nq,nr,ns,nt,nu,nv,nw⟩;revert nk;exact fun _ q=>⟨ci,cj,eR,([]:List Int),som<|b_B jE,eS,eT,eU,ck,none,0,0,[],q.k<|s2 z z,(cM (cr ([g1]++[G.z]) W) np (aa_ (io<|A_ sr)<|io<|C_ sr):Chg (· ∈ ([g1]++[G.z])) W nl),nq,nr,ns,nt,nu,onL,G_,an_,an_,nv,nw⟩
        rintro nx ny ⟨cf,cg,eI,eJ,rfl,eK,eL,eM,bL,eN,eO,eP,bM,_,nA,nB,nC,nD,nE,nF,nG,nH,nI,nJ,nK,nL⟩;revert nx;exact fun _ q=>⟨cf,cg,eI,([]:List Int),eJ,som<|c_I jC,eK,eL,eM,bL,none,0,0,[],eN,eO,eP,bM,q.k<|s2 z z,(cM (f_ (cr ([g1]++[G.z]) H) sh:Chg (· ∈ ([g1]++[G.z])) H W) nA (aa_ (io<|A_ sr)<|io<|C_ sr):Chg (· ∈ ([g1]++[G.z])) H ny),nB,nC,nD,nE,l_ nF sh.s,onL,G_,an_,an_,nG,nH,l_ nI sh.s,nJ,nmN _,nK,nL⟩
       rintro nM nN ⟨ca,cb,ee,eg,eh,rfl,ei,ej,ek,b4,em,en,eo,b5,ep,er,es,b6,_,nO,nP,nQ,nR,nS,nT,nU,nV,nW,nX,nY,nZ,o0,o1,o2,o3,o4⟩;have jG:=elL gA;revert nM;exact fun _ q=>⟨ca,cb,ee,([]:List Str),eg,eh,som<|c_u jG,ei,ej,ek,b4,none,0,0,[],em,en,eo,b5,ep,er,es,b6,q.k<|s2 z z,(cM (cr ([g1]++[G.z]) H) nO (aa_ (io<|A_ sr)<|io<|C_ sr):Chg (· ∈ ([g1]++[G.z])) H nN),nP,nQ,nR,nS,nT,onL,G_,an_,an_,nU,nV,nW,nX,nmN _,nY,nZ,o0,o1,nmN _,o2,o3,o4⟩
      rintro o5 o6 ⟨c5,c6,dJ,dK,dL,dN,rfl,dO,dP,dS,aI,dT,dU,dV,aJ,dW,dX,dY,aK,dZ,e0,e1,aL,_,o7,o8,o9,oa,ob,oc,od,oe,og,oh,oi,oj,ol,om,oo,oq,os,ot,ou,ov,ow,ox,oy⟩;have jH:=elL fh;revert o5;exact fun _ q=>⟨c5,c6,dJ,dK,dL,dN,som<|un6S jH,dO,dP,dS,aI,dT,dU,dV,aJ,dW,dX,dY,aK,dZ,e0,e1,aL,q.k<|s2 z z,(cM (cr ([g1]++[G.z]) H) o7 (aa_ (io<|A_ sr)<|io<|C_ sr):Chg (· ∈ ([g1]++[G.z])) H o6),o8,o9,oa,ob,oc,od,oe,og,oh,oi,oj,ol,om,oo,oq,os,ot,ou,ov,ow,ox,oy⟩
     rintro oz oA ⟨c3,c4,dm,dn,dp,dq,rfl,dr,dt,du,aE,dv,dw,dx,aF,dy,dz,dA,aG,dB,dC,dD,aH,_,oB,oC,oD,oE,oF,oG,oH,oI,oJ,oK,oL,oM,oN,oO,oP,oQ,oR,oS,oT,oU,oV,oW,oX⟩;have jI:=elL ff;revert oz;exact fun _ q=>⟨c3,c4,dm,dn,dp,dq,som<|un6S jI,dr,dt,du,aE,dv,dw,dx,aF,dy,dz,dA,aG,dB,dC,dD,aH,q.k<|s2 z z,(cM (cr ([g1]++[G.z]) H) oB (aa_ (io<|A_ sr)<|io<|C_ sr):Chg (· ∈ ([g1]++[G.z])) H oA),oC,oD,oE,oF,oG,oH,oI,oJ,oK,oL,oM,oN,oO,oP,oQ,oR,oS,oT,oU,oV,oW,oX⟩
    rintro oY oZ ⟨c0,c1,d5,d6,d7,d8,rfl,d9,da,db,aA,dc,dd,de,aB,df,dg,dh,aC,di,dj,dk,aD,_,p0,p1,p2,p3,p4,p5,p6,p7,p8,p9,pa,pb,pc,pd,pe,pf,pg,ph,pi,pj,pk,pl,pm⟩;have jJ:=elL f9;revert oY;exact fun _ q=>⟨c0,c1,0,d5,d6,d7,d8,som<|un6S jJ,d9,da,db,aA,dc,dd,de,aB,df,dg,dh,aC,di,dj,dk,aD,q.k<|s2 z z,(cM (cr ([g1]++[G.z]) H) p0 (aa_ (io<|A_ sr)<|io<|C_ sr):Chg (· ∈ ([g1]++[G.z])) H oZ),p1,p2,ii z,p3,p4,p5,p6,p7,p8,p9,pa,pb,pc,pd,pe,pf,pg,ph,pi,pj,pk,pl,pm⟩
   rintro pn po ⟨bX,bY,bZ,cP,cQ,cR,cS,rfl,cT,cU,cV,aw,cW,cX,cY,ax,cZ,d0,d1,ay,d2,d3,d4,az,_,pp,pq,pr,ps,pu,pw,px,py,pz,pA,pB,pC,pE,pG,pH,pI,pJ,pK,pL,pM,pN,pO,pP,pQ⟩;have jK:=elL f7;revert pn;exact fun _ q=>⟨bX,bY,bZ,cP,cQ,cR,cS,som<|un7S jK,cT,cU,cV,aw,cW,cX,cY,ax,cZ,d0,d1,ay,d2,d3,d4,az,q.k<|s2 z z,(cM (cr ([g1]++[G.z]) H) pp (aa_ (io<|A_ sr)<|io<|C_ sr):Chg (· ∈ ([g1]++[G.z])) H po),pq,pr,ps,pu,pw,px,py,pz,pA,pB,pC,pE,pG,pH,pI,pJ,pK,pL,pM,pN,pO,pP,pQ⟩
  rintro pR pS ⟨bU,bV,bW,cx,cy,cz,cA,rfl,cB,cC,cD,ap,cE,cF,cG,aq,cH,cI,cJ,au,cK,cL,cN,av,_,pU,pV,pW,pX,pY,pZ,q0,q1,q2,q3,q4,q5,q6,q7,q8,q9,qa,qb,qc,qd,qe,qf,qg,qh⟩;have jL:=elL f5;revert pR;exact fun _ q=>⟨bU,bV,bW,false,cx,cy,cz,cA,som<|un7S jL,cB,cC,cD,ap,cE,cF,cG,aq,cH,cI,cJ,au,cK,cL,cN,av,q.k<|s2 z z,(cM (cr ([g1]++[G.z]) H) pU (aa_ (io<|A_ sr)<|io<|C_ sr):Chg (· ∈ ([g1]++[G.z])) H pS),pV,pW,pX,pY,pZ,q0,q1,q2,q3,q4,q5,q6,q7,q8,q9,qa,qb,qc,qd,qe,qf,qg,qh⟩
 rintro qi qj ⟨cq,ct,bj,bQ,fR,fT,fU,fV,rfl,bk,bm,bn,al,bo,bp,bq,am,bt,bu,bv,an,bw,bx,bz,ao,_,iD,qk,ql,qm,qn,qo,iE,qp,qq,iF,qr,qs,qt,iG,qu,qv,qw,qx,iH,qy,qz,qA,qB,qC⟩;have jM:=elL f3;revert qi;refine Wo<|Ws<|R z (lN (vs:=[Str.v x5,vI x3,vI bj,vB bQ,sl bk bm bn,sl bo bp bq,sl bt bu bv,sl bw bx bz]) I_ m_ z z fid<|qC.row 0 8 z) ?_
 have fQ:=mm1 (Blk.lt hB1) bg.s;have iI:=lt_ (lt_ hi.s sc.s) s3.s;have iJ:=mm1 bh.lt iI;refine E0 (fs0 (cur':=[Str.v x5,vI x3,vI bj,vB bQ,sl bk bm bn,sl bo bp bq,sl bt bu bv,sl bw bx bz]) m_ z z ((((((bh.e hi).c sc<|atp fQ).e s3).e h4).c I<|djs iJ).c iD<|atp<|nmA fQ<|ds iJ) z z z z) ?_;rintro _ qD ⟨qE,qF⟩;have bN:=qF.one;refine Wn ?_;obtain rfl:=som<|un8S jM;have eW:=lt_ (lt_ iI h4.s) I.s;have iK:=lt_ hj s3.s;have iL:∀k∈[G.z],k∈[g1]∨w0.z<=k:=mor iK;have eX:=lt_ (lt_ iK h4.s) I.s;exact Wr<|h_ hr (r_ I_ m_ z qE z) ⟨(cM (cM (cM (f_ (f_ (cM (f_ (f_ (f_ (cr [g1] w0) bg:Chg (· ∈ [g1]) w0 wb) aj:Chg (· ∈ [g1]) w0 aW) hi:Chg (· ∈ [g1]) w0 bO) sc (io sr):Chg (· ∈ [g1]) w0 jT) s3:Chg (· ∈ [g1]) w0 G) h4:Chg (· ∈ [g1]) w0 gO) I iL:Chg (· ∈ [g1]) w0 H) iD (aa_ (io sr) iL):Chg (· ∈ [g1]) w0 qj) bN (mor bg.s:∀k∈[wb.z],k∈[g1]∨w0.z<=k):Chg (· ∈ [g1]) w0 qD),bk,bm,bn,al,bo,bp,bq,am,bt,bu,bv,an,bw,bx,bz,ao,z,c_f gN,jP,qm,qn.c bN<|j_ iE bh.lt eW,qp.c bN<|j_ iF bh.lt eW,qs.c bN<|j_ iG bh.lt eW,qw.c bN<|j_ iH bh.lt eW,qk,ql,qB.c bN<|djs fQ,na_ qo (na_ qq (na_ qt qx<|ds qA)<|nmA (ds qv)<|ds qz)<|nmA (ds qr)<|nmA (ds qu)<|ds qy,aa_ (l_ iE eX)<|aa_ (l_ iF eX)<|aa_ (l_ iG eX)<|l_ iH eX⟩
def Q8 (w0:World)(g1:Nat)(B:Zone)(A0:Option Addr)(N0 C0:Nat)(x1:E_)(r:d_×Int×Int)(v:Value)(w':World):Prop:=Chg (· ∈ [g1]) w0 w'/\un3 (fun O G H=>∃I J L S1,(.agg #[.slice I J L])=v/\a_ w' S1 (sl I J L) O.rules/\inI G/\inI H/\Blk w' g1 [sl A0 N0 C0,vI G,vI H]/\S1.Nodup/\(∀k∈S1,w0.z<=k)) r
theorem W_w23 {x1:E_}{g1:Nat}{res:d_×Int×Int}(hm:f_t n x1=some res)(hB1:Blk w0 g1 [sl A0 N0 C0,vI x1.i,vI x1.h])(Y:B<=w0.z)(hBg:¬B g1)(aa:repS w0 B (sl A0 N0 C0) x1.b)(bf:inI x1.i)(bg:inI x1.h):n_ prog 15 [pt g1] w0 (Q8 w0 g1 B A0 N0 C0 x1 res):=by
 unfold f_t at hm
 refine goG func15 z z z fun fn hr=>Ws<|E z (fa f_K) ?_
 rintro _ I ⟨rfl,aF⟩;have ht:=aF.below;have ho:Blk I w0.z [sl none 0 0]:=aF.blk;refine Wn<|Ws<|R z (bP (parts:=[]) (cs:=[sl none 0 0]) n_X z z)<|E z (fa f_K) ?_
 rintro _ aG ⟨rfl,aH⟩;have hx:=aH.below;have h4:Blk aG I.z [sl none 0 0]:=aH.blk;refine E0 (fs0 (cur':=[sl none 0 0]) q_ z z h4 z z z z) ?_;rintro _ aI ⟨bu,bv⟩;have hd:=bv.one;refine Wn<|Wq (Wd (X:=fun k=>k∈[g1]∨aI.z<=k) 320 (pl_ 9 [4,5,6,8]) mo (by kernel_rfl) fun bw sh _=>dR z z (fd R_ z) ?_)
 have ak:=bu.e sh;have hc:=mm1 (Blk.lt hB1) ht.s;refine dR z z (l1 T_ z (a_y (atp hc)<|Nat.lt_of_lt_of_le h4.lt hd.s)<|ak.at z)<|dM z z z<|dR z z (lN (vs:=[sl none 0 0]) t_ q_ z z (a_y (atp hc)<|Nat.lt_of_lt_of_le h4.lt hd.s)<|ak.row 0 1 z) ?_
 have al:∀k∈[I.z],¬B k:=or0 (c_ lr)<|k_<|zt' Y ht.s;have aJ:=(((ht.ag B).e hx).c hd<|b_ al).e sh;have h3:=lt_ (lt_ (lt_ ht.s hx.s) hd.s) sh.s;have a0:=zt' Y h3;obtain ⟨aK,_,_,bx,bh⟩:=v_ hm;refine dE z z (fc call29 z<|W_w18 (B:=B) (x2:=(⟨([]:List e_)⟩:d_)) bx ((((hB1.e ht).e hx).c hd<|djs hc).e sh) a0 hBg (aa.g aJ) bf bg (or_ (B:=B) onL an_)<|ii z) (.inr fun _ _ h=>h.1.mono fun k _ hk=>(io sr) k hk) ?_;rintro _ aL ⟨sm,bz,bA,bB,am,bC,bD,bE,an,bF,bG,bH,ao,bI,bJ,bK,ap,rfl,bL,bM,bN,bO,bQ,bR,bS,bT,bU,bV,he,G⟩;refine dE z z (fS [(.tmp 10)] h_S z z z (a_c z) (lb z)<|lb z) (.inr fun _ _ h=>w_<|h.2.below) ?_;rintro _ aM ⟨rfl,aN⟩;have O:=aN.below;obtain ⟨_,bW,bi⟩:=bdS bh;refine dE z z (a_O (α:=e_) h_S bW z z onL G_ (aN.blk:Blk aM aL.z (vR aK bz bA bB bC bD bE bF bG bH bI bJ bK)) (k_A (x:=aK) (S1:=am) (S2:=an) (S3:=ao) (S4:=ap) bL bM bN (bO.e O) (bQ.e O) (bR.e O)<|bS.e O) (nmN _)<|na_ (nl_ he) (na_ (nl_<|nr_ he) (na_ (nl_<|nr_<|nr_ he) (nr_<|nr_<|nr_ he)<|nj<|nr_<|nr_ he)<|nmA (nmL<|nj<|nr_ he)<|nmR<|nj<|nr_ he)<|nmA (nmL<|nj he)<|nmA (nmL<|nmR<|nj he)<|nmR<|nmR<|nj he) (.inl z) ?_;rintro _ bX ⟨H,aO,aP,aQ,rfl,sp,bY,bZ,hi⟩;refine dR z z (fd R_ z)<|dE0 z (fs0 (cur':=[sl aO aP aQ]) z_24 z z (((ak.c sm<|atp hc).e O).c sp<|atp<|nmN _) z z z z) (.inl z) ?_
 rintro _ c0 ⟨c1,c2⟩;have hq:=c2.one;refine pD<|Wo<|Wq<|Wm z ?_
 have aR:=(((aJ.c sm<|b_<|c_ hBg).e O).c sp<|b_ an_).c hq<|b_ al
 have hu:=lt_ (lt_ h3 sm.s) O.s;have aq:=lt_ (lt_ hu sp.s) hq.s;obtain ⟨_,_,_,c3,bj⟩:=v_ bi;refine E z (fc call30 z<|b_q (B:=B) c3 (((bV.e O).c sp<|atp<|nmN _).c hq<|djs hc) (zt' Y aq) hBg (aa.g aR) bT bU<|ii z) ?_;rintro _ J ⟨sj,rfl,c4,c5,c6,c7⟩;refine Rw z ?_
 obtain ⟨_,bk,aD⟩:=bdS bj;refine b_M (σ:=Int×Int×Int×(List e_)) (ρ:=d_×Int×Int) (fun s a w=>un4 (fun xr xv xw xy=>∃V W ca L,Sat 32 [(0,pt g1),(2,pt w0.z),(3,pt I.z),(4,vI xr)] a/\Chg (· ∈ ([g1]++(H++[I.z]))) J w/\inI xr/\inI xv/\inI xw/\a_ w L (sl V W ca) xy/\L.Nodup/\(∀k∈L,k∈H∨J.z<=k)/\Blk w g1 [sl A0 N0 C0,vI xv,vI xw]/\Blk w I.z [sl V W ca]) s) (fun s a w=>un4 (fun xr xv xw xy=>∃V W ca L,Sat 32 [(2,pt w0.z),(3,pt I.z)] a/\Chg (· ∈ ([g1]++(H++[I.z]))) J w/\inI xr/\inI xv/\inI xw/\a_ w L (sl V W ca) xy/\L.Nodup/\(∀k∈L,k∈H∨J.z<=k)/\Blk w g1 [sl A0 N0 C0,vI xv,vI xw]/\Blk w I.z [sl V W ca]) s) (rQ prog fn<|Q8 w0 g1 B A0 N0 C0 x1) bk ?_ ?_ ?_ ?_
 ·have a1:=lt_ hd.s sh.s;exact fun _ q=>⟨aO,aP,aQ,H,q.k<|s4 z z z z,cr ([g1]++(H++[I.z])) J,c4,c5,c6,(bY.c hq (or2 hi an_ (aa_ (j_ (al_ G) h4.lt a1)<|aa_ (j_ (al_<|ar_ G) h4.lt a1)<|aa_ (j_ (al_<|ar_<|ar_ G) h4.lt a1)<|j_ (ar_<|ar_<|ar_ G) h4.lt a1) (O_ (c_ h4.lt)<|lt_ (lt_ a1 sm.s) O.s):∀k∈H,k∉[I.z])).c sj (or2 hi an_ (aa_ (j_ (al_ G) (Blk.lt hB1) h3)<|aa_ (j_ (al_<|ar_ G) (Blk.lt hB1) h3)<|aa_ (j_ (al_<|ar_<|ar_ G) (Blk.lt hB1) h3)<|j_ (ar_<|ar_<|ar_ G) (Blk.lt hB1) h3) (O_ (c_<|Blk.lt hB1) hu):∀k∈H,k∉[g1]),bZ,io sr,c7,c1.c sj<|atp hc⟩
 ·rintro ⟨xr,xv,xw,xy⟩ _ a2 _ ⟨V,W,ca,L,bm,sz,aS,ab,ad,hl,ae,hn,af,ah⟩ bn;have aE:=c_I bn;refine Wu ?_ bm;refine Wq<|Wm z<|R z (a_e z z)<|Wx z (fun aj=>?_) (fun aj=>?_)
  ·refine Wk<|Wq<|Wb (Wd (X:=fun k=>k∈[g1]∨a2.z<=k) 2560 (pl_ 12 [5,7,8,9,11]) mo (by kernel_rfl) fun c8 sk _=>dR z z (fd R_ z) ?_)
   have ar:=ah.e sk;have a3:=lt_ hd.s sh.s;have aT:=lt_ (lt_ a3 sm.s) O.s;have aU:=lt_ (lt_ (lt_ aT sp.s) hq.s) sj.s;have au:=lt_ aU sz.s;refine dR z z (l1 T_ z (a_y (atp hc)<|Nat.lt_of_lt_of_le h4.lt au)<|ar.at z)<|dM z z z<|dR z z (lN (vs:=[sl V W ca]) t_ q_ z z (a_y (atp hc)<|Nat.lt_of_lt_of_le h4.lt au)<|ar.row 0 1 z)<|dM z z z ?_
   have aV:=((aR.c sj<|b_<|c_ hBg).c sz<|nmA (b_<|c_ hBg)<|nmA (b_ (or2 hi an_ (aa_ (or0 (al_ G) (k_ a0):∀k∈am,¬B k)<|aa_ (or0 (al_<|ar_ G) (k_ a0):∀k∈an,¬B k)<|aa_ (or0 (al_<|ar_<|ar_ G) (k_ a0):∀k∈ao,¬B k) (or0 (ar_<|ar_<|ar_ G) (k_ a0):∀k∈ap,¬B k)) (k_<|zt' Y hu):∀k∈H,¬B k))<|b_ al).e sk;have av:=lt_ aq sj.s;have aW:=lt_ (lt_ av sz.s) sk.s;obtain ⟨_,_,_,c9,bo⟩:=v_<|ifT aE aj;refine dE z z (fc call30 z<|b_q (B:=B) c9 (af.e sk) (zt' Y aW) hBg (aa.g aV) ab ad<|ii z) (.inr fun _ _ h=>h.1.mono fun k _ hk=>(io sr) k hk) ?_;rintro _ cb ⟨ss,rfl,_,cc,cd,ce⟩;refine dR z z (add_ z z) ?_;have aw:∀k∈L,k∉[g1]:=or1 hn (or2 hi an_ (aa_ (j_ (al_ G) (Blk.lt hB1) h3)<|aa_ (j_ (al_<|ar_ G) (Blk.lt hB1) h3)<|aa_ (j_ (al_<|ar_<|ar_ G) (Blk.lt hB1) h3)<|j_ (ar_<|ar_<|ar_ G) (Blk.lt hB1) h3) (O_ (c_<|Blk.lt hB1) hu):∀k∈H,k∉[g1])<|O_ (c_<|Blk.lt hB1) av;have aX:=(hl.e sk).c ss aw;have a4:=lt_ sk.s ss.s;obtain ⟨aY,cf,cg,ch,bp⟩:=v_ bo;refine dE z z (fc call29 z<|W_w18 (B:=zn B w0.z a2.z) (x2:=(⟨xy⟩:d_)) ch ce (c_x (zt' Y<|lt_ aW ss.s) a4) (atp ((e_5 (c_ hBg) (c_<|Blk.lt hB1) lr):∀k∈[g1],¬(zn B w0.z a2.z) k)) (repS.mono (aa.g<|aV.c ss<|b_<|c_ hBg) c_4) cc cd (or_ aX<|zin (B:=B) (a_i hn (or2 hi an_ (aa_ (l_ (al_ G) h3)<|aa_ (l_ (al_<|ar_ G) h3)<|aa_ (l_ (al_<|ar_<|ar_ G) h3)<|l_ (ar_<|ar_<|ar_ G) h3) (b_f hu):∀k∈H,w0.z<=k) av)<|a_.lt hl)<|iA _ _) (.inr fun _ _ h=>h.1.mono fun k _ hk=>(io sr) k hk) ?_;rintro _ aZ ⟨a5,ci,cj,ck,b0,cl,cm,cn,b1,co,cp,cq,b2,ct,cu,cv,b3,rfl,cw,cx,cy,cz,cA,cB,cC,cD,cE,cF,hf,hb⟩;refine dE z z (fS [(.tmp 27)] h_S z z z (a_c z) (lb z)<|lb z) (.inr fun _ _ h=>w_<|h.2.below) ?_;rintro _ b4 ⟨rfl,b5⟩;have hg:=b5.below;obtain ⟨cG,cH,bq⟩:=bdS bp;refine dE z z (a_O (α:=e_) h_S cH z z ((aX.c a5 aw).e hg) ae (b5.blk:Blk b4 aZ.z (vR aY ci cj ck cl cm cn co cp cq ct cu cv)) (k_A (x:=aY) (S1:=b0) (S2:=b1) (S3:=b2) (S4:=b3) cw cx cy (cz.e hg) (cA.e hg) (cB.e hg)<|cC.e hg) (aa_ (b_e (al_ hb) (a_.lt hl) a4)<|aa_ (b_e (al_<|ar_ hb) (a_.lt hl) a4)<|aa_ (b_e (al_<|ar_<|ar_ hb) (a_.lt hl) a4)<|b_e (ar_<|ar_<|ar_ hb) (a_.lt hl) a4)<|na_ (nl_ hf) (na_ (nl_<|nr_ hf) (na_ (nl_<|nr_<|nr_ hf) (nr_<|nr_<|nr_ hf)<|nj<|nr_<|nr_ hf)<|nmA (nmL<|nj<|nr_ hf)<|nmR<|nj<|nr_ hf)<|nmA (nmL<|nj hf)<|nmA (nmL<|nmR<|nj hf)<|nmR<|nmR<|nj hf) (.inl z) ?_;rintro _ cI ⟨ax,b6,b7,b8,rfl,ay,cJ,cK,b9⟩;refine dR z z (fd R_ z) ?_;have ba:∀k∈L,k∉[I.z]:=or1 hn (or2 hi an_ (aa_ (j_ (al_ G) h4.lt a3)<|aa_ (j_ (al_<|ar_ G) h4.lt a3)<|aa_ (j_ (al_<|ar_<|ar_ G) h4.lt a3)<|j_ (ar_<|ar_<|ar_ G) h4.lt a3) (O_ (c_ h4.lt) aT):∀k∈H,k∉[I.z])<|O_ (c_ h4.lt) aU;refine dE0 z (fs0 (cur':=[sl b6 b7 b8]) z_24 z z ((((ar.c ss<|atp hc).c a5<|atp hc).e hg).c ay<|djs ba) z z z z) (.inl z) ?_;rintro _ cL ⟨cN,cO⟩;have az:=cO.one;refine pD<|Wo<|Wg<|Rm z<|R z (sb_ z z)<|Ra z<|Wl ?_
   have a6:=lt_ (lt_ au sk.s) ss.s;have a7:=lt_ (lt_ sz.s sk.s) ss.s;exact fun _ q=>⟨(L_ xr 1,cf,cg,cG),(som bq).symm,⟨b6,b7,b8,ax,q.k<|s4 z z z z,(cM (cM (f_ (cM (cM (f_ (cM (cr ([g1]++(H++[I.z])) J) sz (aa_ (io<|A_ sr)<|aa_ (io<|C_<|A_ sr)<|io<|C_<|C_ sr):Chg (· ∈ ([g1]++(H++[I.z]))) J a2) sk:Chg (· ∈ ([g1]++(H++[I.z]))) J c8) ss (io<|A_ sr):Chg (· ∈ ([g1]++(H++[I.z]))) J cb) a5 (io<|A_ sr):Chg (· ∈ ([g1]++(H++[I.z]))) J aZ) hg:Chg (· ∈ ([g1]++(H++[I.z]))) J b4) ay (or1 hn (io<|C_<|A_ sr) (s_ lr):∀k∈L,k∈([g1]++(H++[I.z]))∨J.z<=k):Chg (· ∈ ([g1]++(H++[I.z]))) J cI) az (io<|C_<|C_ sr):Chg (· ∈ ([g1]++(H++[I.z]))) J cL),iS _ _,cD,cE,cJ.c az (or2 b9 ba (aa_ (j_ (al_ hb) h4.lt a6)<|aa_ (j_ (al_<|ar_ hb) h4.lt a6)<|aa_ (j_ (al_<|ar_<|ar_ hb) h4.lt a6)<|j_ (ar_<|ar_<|ar_ hb) h4.lt a6) (O_ (c_ h4.lt)<|lt_ (lt_ a6 a5.s) hg.s):∀k∈ax,k∉[I.z]),cK,(or2 b9 (or1 hn (io sr) (s_ lr):∀k∈L,k∈H∨J.z<=k) (aa_ (or0 (al_ hb) (s_ a7):∀k∈b0,k∈H∨J.z<=k)<|aa_ (or0 (al_<|ar_ hb) (s_ a7):∀k∈b1,k∈H∨J.z<=k)<|aa_ (or0 (al_<|ar_<|ar_ hb) (s_ a7):∀k∈b2,k∈H∨J.z<=k) (or0 (ar_<|ar_<|ar_ hb) (s_ a7):∀k∈b3,k∈H∨J.z<=k)) (s_<|lt_ (lt_ a7 a5.s) hg.s):∀k∈ax,k∈H∨J.z<=k),((cF.e hg).c ay<|djs aw).c az<|djs hc,cN⟩⟩
  exact We<|fun _ q=>b_t (som<|ifF aE aj).symm ⟨V,W,ca,L,q.k<|s2 z z,(cM (cr ([g1]++(H++[I.z])) J) sz (aa_ (io<|A_ sr)<|aa_ (io<|C_<|A_ sr)<|io<|C_<|C_ sr):Chg (· ∈ ([g1]++(H++[I.z]))) J a2),aS,ab,ad,hl,ae,(or1 hn (io sr) (s_ lr):∀k∈L,k∈H∨J.z<=k),af,ah⟩
 ·rintro ⟨xr,xv,xw,xy⟩ cP cQ rfl ⟨V,W,ca,L,_,bb,aS,ab,ad,hl,ae,hn,af,ah⟩;have br:=elL aD;revert cP;refine Wo<|Ws<|R z (lN (vs:=[sl V W ca]) t_ q_ z z fid<|ah.row 0 1 z) ?_
  have aA:=mmr ho.lt;have ai:=mmr<|Blk.lt hB1
  have a9:=lt_ (lt_ hx.s hd.s) sh.s;have bc:=lt_ (lt_ a9 sm.s) O.s;have be:∀k∈H,k∉[w0.z]:=or2 hi an_ (aa_ (j_ (al_ G) ho.lt a9)<|aa_ (j_ (al_<|ar_ G) ho.lt a9)<|aa_ (j_ (al_<|ar_<|ar_ G) ho.lt a9)<|j_ (ar_<|ar_<|ar_ G) ho.lt a9)<|O_ (c_ ho.lt) bc;refine E0 (fs0 (cur':=[sl V W ca]) q_ z z (((((((((ho.e hx).c hd<|djs aA).e sh).c sm<|atp ai).e O).c sp<|atp<|nmN _).c hq<|djs aA).c sj<|atp ai).c bb<|atp<|nmA ai<|nmA (ds be)<|ds aA) z z z z) ?_;rintro _ cR ⟨cS,cT⟩;have aB:=cT.one;refine Wn ?_;obtain rfl:=som<|c_I br;have aC:∀k∈[I.z],k∈[g1]∨w0.z<=k:=mor ht.s;exact Wr<|h_ hr (r_ t_ q_ z cS z) ⟨(cM (cM (cM (cM (cM (f_ (cM (f_ (cM (f_ (f_ (cr [g1] w0) ht:Chg (· ∈ [g1]) w0 I) hx:Chg (· ∈ [g1]) w0 aG) hd aC:Chg (· ∈ [g1]) w0 aI) sh:Chg (· ∈ [g1]) w0 bw) sm (io sr):Chg (· ∈ [g1]) w0 aL) O:Chg (· ∈ [g1]) w0 aM) sp an_:Chg (· ∈ [g1]) w0 bX) hq aC:Chg (· ∈ [g1]) w0 c0) sj (io sr):Chg (· ∈ [g1]) w0 J) bb (aa_ (io sr)<|aa_ (or2 hi an_ (aa_ (or0 (al_ G) (s_ h3):∀k∈am,k∈[g1]∨w0.z<=k)<|aa_ (or0 (al_<|ar_ G) (s_ h3):∀k∈an,k∈[g1]∨w0.z<=k)<|aa_ (or0 (al_<|ar_<|ar_ G) (s_ h3):∀k∈ao,k∈[g1]∨w0.z<=k) (or0 (ar_<|ar_<|ar_ G) (s_ h3):∀k∈ap,k∈[g1]∨w0.z<=k)) (s_ hu):∀k∈H,k∈[g1]∨w0.z<=k) aC):Chg (· ∈ [g1]) w0 cQ) aB (mor lr:∀k∈[w0.z],k∈[g1]∨w0.z<=k):Chg (· ∈ [g1]) w0 cR),V,W,ca,L,z,hl.c aB (or1 hn be (O_ (c_ ho.lt)<|lt_ (lt_ (lt_ bc sp.s) hq.s) sj.s):∀k∈L,k∉[w0.z]),ab,ad,af.c aB<|djs ai,ae,a_i hn (or2 hi an_ (aa_ (l_ (al_ G) h3)<|aa_ (l_ (al_<|ar_ G) h3)<|aa_ (l_ (al_<|ar_<|ar_ G) h3)<|l_ (ar_<|ar_<|ar_ G) h3) (b_f hu):∀k∈H,w0.z<=k)<|lt_ aq sj.s⟩
 rintro _ _ _ _ rfl ⟨rfl,bs⟩;have bt:=elR aD;obtain rfl:=som bt;exact ⟨bs,z⟩
def Q9 (w0:World)(B:Zone)(r:Int)(v:Value)(w':World):Prop:=Bw w0 w'/\(fun G=>(vI G)=v/\inI G) r
theorem h_X {x1:Int}{res:Int}(hm:c_Z x1=some res)(J:B<=w0.z)(I:inI x1):n_ prog 35 [vI x1] w0 (Q9 w0 B res):=by
 unfold c_Z at hm
 refine goG func35 z z z fun fn hr=>Ws<|Rw z<|Wm z<|R z (c_m z z) ?_
 obtain ⟨_,H,G⟩:=bdS hm;refine R z (i_d z z<|nnS H)<|Rw z ?_
 obtain rfl:=som G;exact Wr<|h_ hr z ⟨br w0,z,n_k<|ii z⟩
theorem f_M {x1:Int}{x2:Int}{res:Int}(hm:d_r x1 x2=some res)(J:B<=w0.z)(H:inI x1)(I:inI x2):n_ prog 34 [vI x1,vI x2] w0 (Q9 w0 B res):=by
 unfold d_r at hm
 refine goG func34 z z z fun fn hr=>Ws<|Rw z<|Wq<|Wm z<|Rm z<|Rl z z z<|Wx z (fun G=>?_) (fun G=>?_)
 ·refine Wm z<|Rw z ?_
  obtain rfl:=som<|ifT hm G;exact Wr<|h_ hr z ⟨br w0,z,I⟩
 refine Wk<|Wm z<|Rw z ?_
 obtain rfl:=som<|ifF hm G;exact Wr<|h_ hr z ⟨br w0,z,H⟩
def Q10 (w0:World)(g1:Nat)(B:Zone)(A0:Option Addr)(N0 C0:Nat)(x1:E_)(r:Val×Int×Int)(v:Value)(w':World):Prop:=Chg (· ∈ [g1]) w0 w'/\un3 (fun G H I=>∃J L O S1 a2 V W S2,(.agg #[vI G.number,sl J L O,sl a2 V W])=v/\inI G.number/\a_ w' S1 (sl J L O) G.bytes/\a_ w' S2 (sl a2 V W) G.items/\inI H/\inI I/\Blk w' g1 [sl A0 N0 C0,vI H,vI I]/\(S1++S2).Nodup/\(∀k∈(S1++S2),w0.z<=k)) r
structure j_7 (f:E_->d_->Int->Int->Option (Val×Int×Int)):Prop where
  run:∀{A0 A5:Option Addr}{N0 C0 g1 N5 C5:Nat}{B:Zone}{x1:E_}{x2:d_}{x3:Int}{x4:Int}{res:Val×Int×Int}{w0:World}(hm:f x1 x2 x3 x4=some res)(hB1:Blk w0 g1 [sl A0 N0 C0,vI x1.i,vI x1.h])(hBw:B<=w0.z)(hBg:¬B g1)(p1_0:repS w0 B (sl A0 N0 C0) x1.b)(p1_1:inI x1.i)(p1_2:inI x1.h)(p2_0:repS w0 B (sl A5 N5 C5) x2.rules)(p3_0:inI x3)(p4_0:inI x4),n_ prog 17 [pt g1,.agg #[sl A5 N5 C5],vI x3,vI x4] w0<|Q10 w0 g1 B A0 N0 C0 x1 res
abbrev k_U (n:Nat):Prop:=j_7 (e_1 n).spec_l9Make
theorem T_w0c (aZ:k_U n):j_7 (f_u n<|e_1 n):=by
 constructor
 intro A0 A5 N0 C0 g1 N5 C5 B x1 x2 x3 x4 res w0 hm hB1 J hBg W a4 a5 aA p4 eL;unfold f_u at hm
 refine goG func17 z z z fun fn hr=>Ws<|E z (fb z) ?_
 rintro _ wb ⟨rfl,gy⟩;have O:=gy.below;have hf:Blk wb w0.z [sl A5 N5 C5]:=gy.blk;refine E z (fa a_6) ?_;rintro _ wc ⟨rfl,gz⟩;have L:=gz.below;have b0:Blk wc wb.z [vI 0,sl none 0 0,sl none 0 0]:=gz.blk;refine Wn<|Ws<|Rf z R_ z ?_
 have aB:=hf.e L;refine R z (l0 T_ z<|aB.at z)<|Rm z ?_
 obtain ⟨aC,iQ,hJ⟩:=bdS hm;have a7:=(O.ag B).e L;refine RX z (at_ (α:=e_) U_ m_ z z z (aA.g a7) iQ) ?_;rintro _ ⟨_,_,_,rfl,iR,iT,_⟩;obtain ⟨gA,gB,gC,gD,gE,gF,gG,gH,gI,gJ,gK,gL,rfl,_,_,gM,iU,_,gN,aj⟩:=a_m iT;refine R z (lN (vs:=vR aC gA gB gC gD gE gF gG gH gI gJ gK gL) I_ m_ z z fid iR)<|E z (fa b_g) ?_
 rintro _ gO ⟨rfl,gP⟩;have h5:=gP.below;have b1:Blk gO wc.z [(Str.v (⟨[]⟩:Str)),vI 0,vI 0,vB false,sl none 0 0,sl none 0 0,sl none 0 0,sl none 0 0]:=gP.blk;refine E0 (fs0 (cur':=vR aC gA gB gC gD gE gF gG gH gI gJ gK gL) m_ z z b1 z z z z) ?_;rintro _ G ⟨iV,iW⟩;have h4:=iW.one;refine Wn<|Ws<|R z (bP (parts:=[]) (cs:=[vI 0,sl none 0 0,sl none 0 0]) Y_ z z)<|E z (fa a_6) ?_
 rintro _ gQ ⟨rfl,gR⟩;have h6:=gR.below;have V:Blk gQ G.z [vI 0,sl none 0 0,sl none 0 0]:=gR.blk;refine E0 (fs0 (cur':=[vI 0,sl none 0 0,sl none 0 0]) i_ z z V z z z z) ?_;rintro _ wa ⟨hw,iX⟩;have h3:=iX.one;refine Wn<|Wq<|Ws<|Rf z a_n z ?_
 have aq:=mm1 b1.lt h4.s;have ht:=(iV.e h6).c h3<|djs aq
 refine R z (l0 g_3 z<|ht.at z)<|Wn<|Wb<|Ws<|Rq z z z<|Rw z ?_
 obtain ⟨iY,eM,cY⟩:=bdS hJ;refine Wt (fun a w=>∃(bT:Int)(bU:Int)(aD:Int)(de:List UInt8)(df:List Val),Sum.inl (bT,bU,aD,de,df)=iY/\∃aE aF aG aH aI aJ aK aL,Sat 178 [(8,pt wb.z),(10,pt G.z)] a/\Chg (· ∈ ([g1]++[G.z])) wa w/\inI bT/\inI bU/\inI aD/\a_ w aH (sl aE aF aG) de/\aH.Nodup/\(∀k∈aH,wa.z<=k)/\a_ w aL (sl aI aJ aK) df/\aL.Nodup/\(∀k∈aL,wa.z<=k)/\(∀k∈aL,k∉aH)/\Blk w g1 [sl A0 N0 C0,vI bT,vI bU]/\Blk w G.z [vI aD,sl aE aF aG,sl aI aJ aK]) ?_ ?_
 ·refine Wc z (fun cZ=>?_)<|fun cZ=>?_
  ·refine Wg<|Rm z<|Rf z a_z z<|R z (l0 g_3 z<|ht.at z) ?_
   have dg:=lt_ O.s L.s;have dh:=lt_ (lt_ dg h5.s) h4.s;have gS:=lt_ (lt_ dh h6.s) h3.s;obtain ⟨_,iZ,hK⟩:=bdS<|ifT eM cZ;refine E z (fc call35 z<|h_X iZ (zt' J gS) gM) ?_;rintro _ j0 ⟨b2,rfl,j1⟩;have gT:=lt_ gS b2.s;obtain ⟨_,j2,hL⟩:=bdS hK;refine E z (fc call34 z<|f_M j2 (zt' J gT) j1<|ii z) ?_;rintro _ j3 ⟨b3,rfl,j4⟩;have di:=mm1 (Blk.lt hB1) dh;obtain ⟨gU,j5,j6,j7,hM⟩:=v_ hL;refine E z (fc call30 z<|b_q (B:=B) j7 ((((((((hB1.e O).e L).e h5).c h4<|djs<|mm1 (Blk.lt hB1) dg).e h6).c h3<|djs di).e b2).e b3) (zt' J<|lt_ gT b3.s) hBg (W.g<|(((((a7.e h5).c h4<|b_ (or0 (c_ lr) (k_<|zt' J dg):∀k∈[wc.z],¬B k)).e h6).c h3<|b_ (or0 (c_ lr) (k_<|zt' J dh):∀k∈[G.z],¬B k)).e b2).e b3) a4 a5 j4) ?_;rintro _ j8 ⟨gV,rfl,j9,ja,jb,jc⟩;refine Rf z b_3 z<|E0 (fs0 (cur':=[vI gU,sl none 0 0,sl none 0 0]) z_3 z z (((hw.e b2).e b3).c gV<|atp di) z z z z) ?_
   rintro _ jd ⟨je,jf⟩;have gW:=jf.one;refine Wl ?_;exact fun _ q=>⟨j5,j6,gU,([]:List UInt8),([]:List Val),som hM,none,0,0,[],none,0,0,[],q.k<|s2 z z,(cM (cM (f_ (f_ (cr ([g1]++[G.z]) wa) b2:Chg (· ∈ ([g1]++[G.z])) wa j0) b3:Chg (· ∈ ([g1]++[G.z])) wa j3) gV (io<|A_ sr):Chg (· ∈ ([g1]++[G.z])) wa j8) gW (io<|C_ sr):Chg (· ∈ ([g1]++[G.z])) wa jd),ja,jb,j9,onL,G_,an_,onL,G_,an_,an_,jc.c gW<|djs di,je⟩
  refine Ws<|Rq z z z<|Rw z ?_
  obtain ⟨jg,eN,d0⟩:=bdS<|ifF eM cZ;refine Wt (fun a w=>∃(b4:Int)(b5:Int)(b6:Int)(bV:List UInt8)(bW:List Val),Sum.inl (b4,b5,b6,bV,bW)=jg/\∃bX bY bZ aM c0 c1 c2 aN,Sat 178 [(8,pt wb.z),(10,pt G.z)] a/\Chg (· ∈ ([g1]++[G.z])) wa w/\inI b4/\inI b5/\inI b6/\a_ w aM (sl bX bY bZ) bV/\aM.Nodup/\(∀k∈aM,wa.z<=k)/\a_ w aN (sl c0 c1 c2) bW/\aN.Nodup/\(∀k∈aN,wa.z<=k)/\(∀k∈aN,k∉aM)/\Blk w g1 [sl A0 N0 C0,vI b4,vI b5]/\Blk w G.z [vI b6,sl bX bY bZ,sl c0 c1 c2]) ?_ ?_
  ·refine Wc z (fun d1=>?_)<|fun d1=>?_
   ·refine Wg<|Rm z<|Rf z a_z z<|R z (l0 g_3 z<|ht.at z) ?_
    have dj:=lt_ O.s L.s;have dk:=lt_ (lt_ dj h5.s) h4.s;have dl:=mm1 (Blk.lt hB1) dk;obtain ⟨jh,ji,jj,jk,hN⟩:=v_<|ifT eN d1;refine E z (fc call36 z<|j_4 (B:=B) jk ((((((hB1.e O).e L).e h5).c h4<|djs<|mm1 (Blk.lt hB1) dj).e h6).c h3<|djs dl) (zt' J<|lt_ (lt_ dk h6.s) h3.s) hBg (W.g<|(((a7.e h5).c h4<|b_ (or0 (c_ lr) (k_<|zt' J dj):∀k∈[wc.z],¬B k)).e h6).c h3<|b_ (or0 (c_ lr) (k_<|zt' J dk):∀k∈[G.z],¬B k)) a4 a5 gM) ?_;rintro _ jl ⟨gX,gY,gZ,h0,jm,rfl,jn,jo,jp,jq,jr,h1⟩;refine Rf z b_4 z<|E0 (fs0 (cur':=[vI 0,sl gY gZ h0,sl none 0 0]) z_22 z z (hw.c gX<|atp dl) z z z z) ?_
    rintro _ js ⟨jt,ju⟩;have dm:=ju.one;refine Wl ?_;exact fun _ q=>⟨ji,jj,0,jh,([]:List Val),som hN,gY,gZ,h0,jm,none,0,0,[],q.k<|s2 z z,(cM (cM (cr ([g1]++[G.z]) wa) gX (io<|A_ sr):Chg (· ∈ ([g1]++[G.z])) wa jl) dm (io<|C_ sr):Chg (· ∈ ([g1]++[G.z])) wa js),jo,jp,ii z,jn.c dm<|j_ h1 V.lt h3.s,jr,h1,onL,G_,an_,an_,jq.c dm<|djs dl,jt⟩
   refine Wq<|Ws<|Rq z z z<|Rw z ?_
   obtain ⟨jv,eO,hO⟩:=bdS<|ifF eN d1;refine Wt (fun a w=>∃(dn:Bool),dn=jv/\Sat 178 [(0,pt g1),(3,vI x4),(5,pt w0.z),(8,pt wb.z),(9,pt wc.z),(10,pt G.z),(21,vI aC.kind),(38,vB dn)] a/\Below wa.z wa w) ?_ ?_
   ·refine Wc z (fun d2=>?_)<|fun d2=>?_
    ·exact a_7<|fun _ q=>⟨aC.kind==4,som<|ifT eO d2,q.k<|s8 z z z z z z z z,br wa⟩
    exact Wg<|Rq z z z<|Ra z<|Wl (fun _ q=>⟨aC.kind==10,som<|ifF eO d2,q.k<|s8 z z z z z z z z,br wa⟩)
   rintro jw H ⟨dn,rfl,_,I⟩;revert jw;refine Wo ?_;obtain ⟨jx,eP,d3⟩:=bdS hO;refine Wt (fun a w=>∃(b7:Int)(b8:Int)(b9:Int)(c3:List UInt8)(c4:List Val),Sum.inl (b7,b8,b9,c3,c4)=jx/\∃c5 c6 c7 aO c8 c9 ca aP,Sat 178 [(8,pt wb.z),(10,pt G.z)] a/\Chg (· ∈ ([g1]++[G.z])) H w/\inI b7/\inI b8/\inI b9/\a_ w aO (sl c5 c6 c7) c3/\aO.Nodup/\(∀k∈aO,H.z<=k)/\a_ w aP (sl c8 c9 ca) c4/\aP.Nodup/\(∀k∈aP,H.z<=k)/\(∀k∈aP,k∉aO)/\Blk w g1 [sl A0 N0 C0,vI b7,vI b8]/\Blk w G.z [vI b9,sl c5 c6 c7,sl c8 c9 ca]) ?_ ?_
   ·refine Wc z (fun d4=>?_)<|fun d4=>?_
    ·refine Wm z<|RM z z ?_
     have dp:=lt_ O.s L.s;have dq:=lt_ (lt_ dp h5.s) h4.s;have h2:=lt_ (lt_ (lt_ dq h6.s) h3.s) I.s;obtain ⟨_,jy,hP⟩:=bdS<|ifT eP d4;refine E z (fc call34 z<|f_M jy (zt' J h2) eL<|ii z) ?_;rintro _ jz ⟨sg,rfl,_⟩;refine R z (add_ z z) ?_;have ha:∀k∈[wc.z],¬B k:=or0 (c_ lr)<|k_<|zt' J dp;have ba:∀k∈[G.z],¬B k:=or0 (c_ lr)<|k_<|zt' J dq;have hb:=(((((a7.e h5).c h4<|b_ ha).e h6).c h3<|b_ ba).e I).e sg;have ar:=mm1 (Blk.lt hB1) dp;have hx:=mm1 (Blk.lt hB1) dq;have he:=lt_ h2 sg.s;obtain ⟨_,_,_,jA,hQ⟩:=v_ hP;refine E z (fc call30 z<|b_q (B:=B) jA ((((((((hB1.e O).e L).e h5).c h4<|djs ar).e h6).c h3<|djs hx).e I).e sg) (zt' J he) hBg (W.g hb) a4 a5<|iA _ _) ?_;rintro _ jB ⟨sk,rfl,jC,jD,jE,jF⟩;have dr:=hb.c sk<|b_<|c_ hBg
     have bb:=lt_ he sk.s;obtain ⟨hg,hh,hi,jG,hR⟩:=v_ hQ;refine E z (fc call36 z<|j_4 (B:=B) jG jF (zt' J bb) hBg (W.g dr) jD jE jC) ?_;rintro _ jH ⟨sm,cb,cc,cd,Sr,rfl,ce,dt,du,dv,hj,ak⟩;refine Rf z b_4 z<|E0 (fs0 (cur':=[vI 0,sl cb cc cd,sl none 0 0]) z_22 z z ((((hw.e I).e sg).c sk<|atp hx).c sm<|atp hx) z z z z) ?_
     rintro _ aQ ⟨dw,jI⟩;have hd:=jI.one;refine Wn<|Wq ?_
     obtain ⟨jJ,eQ,hS⟩:=bdS hR;refine Wt (fun a w=>∃(dx:Bool)(bc:Int)(be:Int),(dx,bc,be)=jJ/\Sat 178 [(0,pt g1),(8,pt wb.z),(9,pt wc.z),(10,pt G.z),(61,vB dx)] a/\Chg (· ∈ [g1]) aQ w/\inI bc/\inI be/\Blk w g1 [sl A0 N0 C0,vI bc,vI be]) ?_ ?_
     ·refine Wg<|Rf z a_n z<|R z (l0 g_3 z<|(((((ht.e I).e sg).c sk<|atp ar).c sm<|atp ar).c hd<|djs aq).at z)<|Rq z z z<|Rm z ?_
      rcases bs (aC.kind==10) with hcy | hcy
      ·have eR:=ifT eQ hcy;refine Rh z hcy (fd b_4 z)<|Rh z hcy (l0 P_ z<|dw.at z)<|Rh z hcy (lnR p_ z<|or_ (ce.c hd<|j_ ak V.lt<|lt_ (lt_ (lt_ h3.s I.s) sg.s) sk.s)<|zin (B:=B) ak<|a_.lt ce)<|Rh z hcy (a_e z z)<|R z (pT z hcy z)<|Rm z ?_
       rcases bs (decide<|0<(hg.length:Int)) with a6 | a6
       ·refine Rh z a6 (mv z) ?_;obtain ⟨jK,jL,jM,jN,hT⟩:=v_<|ifT eR a6;refine Eg z z a6 z (fc call37 z<|j_3 (B:=B) jN (dv.c hd<|djs hx) (zt' J<|lt_ (lt_ bb sm.s) hd.s) hBg (W.g<|(dr.c sm<|b_<|c_ hBg).c hd<|b_ ba) dt du<|ii z) ?_;rintro _ jO ⟨jP,rfl,jQ,jR,jS⟩;refine R z (pT z a6 z)<|Wl ?_
        exact fun _ q=>⟨jK,jL,jM,som hT,q.k<|s5 z z z z z,(cM (cr [g1] aQ) jP (io sr):Chg (· ∈ [g1]) aQ jO),jQ,jR,jS⟩
       exact Nh z a6<|Nh z a6<|R z (pF z a6 z)<|Wl (fun _ q=>⟨false,hh,hi,som<|ifF eR a6,q.k<|s5 z z z z z,cr [g1] aQ,dt,du,dv.c hd<|djs hx⟩)
      iterate 4 refine Nh z hcy ?_
      exact R z (pF z hcy z)<|Rm z<|Nh z z<|Nh z z<|R z (pF z z z)<|Wl (fun _ q=>⟨false,hh,hi,som<|ifF eQ hcy,q.k<|s5 z z z z z,cr [g1] aQ,dt,du,dv.c hd<|djs hx⟩)
     rintro jT ws ⟨dx,bc,be,rfl,_,sn,hl,hn,ho⟩;revert jT;refine Wo ?_;obtain ⟨jU,eS,hU⟩:=bdS<|b_B hS;refine Wt (fun a w=>∃(bf:Int)(bg:Int)(cf:List UInt8),(bf,bg,cf)=jU/\∃(bh:List Nat),Sat 178 [(8,pt wb.z),(10,pt G.z)] a/\Chg (· ∈ ([g1]++Sr)) ws w/\inI bf/\inI bg/\a_ w bh (sl cb cc cd) cf/\bh.Nodup/\(∀k∈bh,k∈Sr∨ws.z<=k)/\Blk w g1 [sl A0 N0 C0,vI bf,vI bg]/\Blk w G.z [vI 0,sl cb cc cd,sl none 0 0]) ?_ ?_
     ·refine Wc z (fun d5=>?_)<|fun d5=>?_
      ·refine Wd (X:=fun k=>k∈[g1]∨ws.z<=k) 4096 (pl_ 13 [8,9,12]) mo (by kernel_rfl) fun aR a8 _=>dR z z (fd b_4 z) ?_
       have hp:=(dw.c sn<|atp hx).e a8;have hq:=lt_ (lt_ (lt_ h3.s I.s) sg.s) sk.s;refine dR z z (l1 P_ z (a_y (atp hx)<|Nat.lt_of_lt_of_le V.lt<|lt_ (lt_ (lt_ hq sm.s) hd.s) sn.s)<|hp.at z)<|dM z z z<|dR z z (fd a_R z) ?_
       refine dR z z (l1 P_ z (a_y (atp ar)<|Nat.lt_of_lt_of_le b1.lt<|lt_ (lt_ (lt_ (lt_ (lt_ (lt_ (lt_ (lt_ h4.s h6.s) h3.s) I.s) sg.s) sk.s) sm.s) hd.s) sn.s)<|(((((((ht.e I).e sg).c sk<|atp ar).c sm<|atp ar).c hd<|djs aq).c sn<|atp ar).e a8).at z) ?_;obtain ⟨dy,jV,hV⟩:=bdS<|ifT eS d5;refine dRX z z (at_ (α:=UInt8) p_ z_5 z z z (iU.g<|((((((((((h5.ag B).c h4<|b_ ha).e h6).c h3<|b_ ba).e I).e sg).c sk<|b_<|c_ hBg).c sm<|b_<|c_ hBg).c hd<|b_ ba).c sn<|b_<|c_ hBg).e a8) jV) ?_;rintro _ ⟨_,_,_,rfl,jW,jX,hu⟩;obtain rfl:=u8 jX;have hv:=lt_ (lt_ (lt_ bb sm.s) hd.s) sn.s;refine dR z z (l1 g_5 z (a_y ((b_<|c_ hBg) _ hu)<|zap (zt' J hv) hu)<|jW.at0 z)<|dR z z (b_U d_5 d_3 z)<|dE z z (fS [(.tmp 69),(.const<|.int .i64 92)] a_Y z z z (a_c z) (lb z)<|lb z) (.inr fun _ _ h=>w_<|h.2.below) ?_
       rintro _ bi ⟨rfl,hy⟩;have au:=hy.below;have hz:a_ bi [aR.z] (sl (some ⟨aR.z,0,none⟩) 2 2) ([byteI dy,92]:List Int):=j_1 (l:=[byteI dy,92]) (hy.blk:Blk bi aR.z [vI (byteI dy),vI 92]) (ac0 (i_Y _)<|ac0 (ii z) an0) z;have hA:=lt_ hv a8.s;obtain ⟨_,jY,jZ,k0,hW⟩:=v_ hV;refine dE z z (fc call38 z<|j_5 (B:=zn B aR.z bi.z) k0 ((ho.e a8).e au) (c_x (zt' J<|lt_ hA au.s) lr) (atp ((e_5 (c_ hBg) (c_<|Blk.lt hB1) hA):∀k∈[g1],¬(zn B aR.z bi.z) k)) (repS.mono (W.g<|((((dr.c sm<|b_<|c_ hBg).c hd<|b_ ba).c sn<|b_<|c_ hBg).e a8).e au) c_4) hl hn<|or_ hz<|zin (B:=B) (c_ lr)<|a_.lt hz) (.inr fun _ _ h=>h.1.mono fun k _ hk=>(io sr) k hk) ?_;rintro _ ka ⟨cg,rfl,_,kb,kc,kd⟩;refine dR z z (e_4 d_3 d_5 z) ?_;obtain ⟨ke,hB,hX⟩:=bdS hW;have hC:=j_ ak V.lt hq;have dz:=j_ ak (Blk.lt hB1) bb;have hD:=((((ce.c hd hC).c sn dz).e a8).e au).c cg dz;refine dRX z z (h_E (α:=UInt8) p_ z_5 z z hD hB) ?_;rintro _ ⟨_,kf,rfl⟩;refine dE0 z (e_E (α:=UInt8) z_5 z kf z z z hB hD hj b_c an_ G_) (.inl z) ?_;rintro _ kg ⟨hE,dA,kh,ki,kj⟩;refine pD ?_;exact fun _ q=>⟨jY,jZ,ke,som hX,hE,q.k<|s2 z z,(cM (cM (f_ (f_ (cr ([g1]++Sr) ws) a8:Chg (· ∈ ([g1]++Sr)) ws aR) au:Chg (· ∈ ([g1]++Sr)) ws bi) cg (io<|A_ sr):Chg (· ∈ ([g1]++Sr)) ws ka) dA (io<|C_ sr):Chg (· ∈ ([g1]++Sr)) ws kg),kb,kc,kh,ki,(or2 kj (io sr) an_ (s_<|lt_ (lt_ a8.s au.s) cg.s):∀k∈hE,k∈Sr∨ws.z<=k),kd.c dA<|djs dz,((hp.e au).c cg<|atp hx).c dA<|djs hC⟩
      exact a_7<|fun _ q=>⟨bc,be,hg,som<|ifF eS d5,Sr,q.k<|s2 z z,cr ([g1]++Sr) ws,hl,hn,(ce.c hd<|j_ ak V.lt<|lt_ (lt_ (lt_ h3.s I.s) sg.s) sk.s).c sn<|j_ ak (Blk.lt hB1) bb,hj,io sr,ho,dw.c sn<|atp hx⟩
     rintro kk kl ⟨bf,bg,cf,rfl,bh,_,km,kn,ko,kp,kq,kr,ks,kt⟩;revert kk;have dB:=lt_ sg.s sk.s;exact fun _ q=>⟨bf,bg,0,cf,([]:List Val),som<|b_B hU,cb,cc,cd,bh,none,0,0,[],q.k<|s2 z z,(cM (cM (cM (cM (cM (f_ (cr ([g1]++[G.z]) H) sg:Chg (· ∈ ([g1]++[G.z])) H jz) sk (io<|A_ sr):Chg (· ∈ ([g1]++[G.z])) H jB) sm (io<|A_ sr):Chg (· ∈ ([g1]++[G.z])) H jH) hd (io<|C_ sr):Chg (· ∈ ([g1]++[G.z])) H aQ) sn (io<|A_ sr):Chg (· ∈ ([g1]++[G.z])) H ws) km (aa_ (io<|A_ sr) (or0 ak (s_ dB):∀k∈Sr,k∈([g1]++[G.z])∨H.z<=k)):Chg (· ∈ ([g1]++[G.z])) H kl),kn,ko,ii z,kp,kq,a_i kr (l_ ak dB)<|lt_ (lt_ (lt_ dB sm.s) hd.s) sn.s,onL,G_,an_,an_,ks,kt⟩
    refine Ws<|Rq z z z<|Rw z ?_
    obtain ⟨ku,eT,d6⟩:=bdS<|ifF eP d4;refine Wt (fun a w=>∃(bj:Int)(bk:Int)(bm:Int)(ch:List Val),Sum.inl (bj,bk,bm,ch)=ku/\∃ci cj ck bn,Sat 178 [(8,pt wb.z),(10,pt G.z)] a/\Chg (· ∈ ([g1]++[G.z])) H w/\inI bj/\inI bk/\inI bm/\a_ w bn (sl ci cj ck) ch/\bn.Nodup/\(∀k∈bn,H.z<=k)/\Blk w g1 [sl A0 N0 C0,vI bj,vI bk]/\Blk w G.z [vI bm,sl none 0 0,sl ci cj ck]) ?_ ?_
    ·refine Wc z (fun d7=>?_)<|fun d7=>?_
     ·refine Wm z<|Rm z ?_
      have dC:=lt_ O.s L.s;have dD:=lt_ (lt_ dC h5.s) h4.s;have hF:=lt_ (lt_ (lt_ dD h6.s) h3.s) I.s;obtain ⟨_,kw,hY⟩:=bdS<|ifT eT d7;refine E z (fc call34 z<|f_M kw (zt' J hF) eL<|ii z) ?_;rintro _ kx ⟨so,rfl,_⟩;refine R z (add_ z z) ?_;have hG:∀k∈[wc.z],¬B k:=or0 (c_ lr)<|k_<|zt' J dC;have cl:∀k∈[G.z],¬B k:=or0 (c_ lr)<|k_<|zt' J dD;have hH:=(((((a7.e h5).c h4<|b_ hG).e h6).c h3<|b_ cl).e I).e so;have cm:=mm1 (Blk.lt hB1) dC;have bo:=mm1 (Blk.lt hB1) dD;have hI:=lt_ hF so.s;obtain ⟨_,_,_,ky,hZ⟩:=v_ hY;refine E z (fc call30 z<|b_q (B:=B) ky ((((((((hB1.e O).e L).e h5).c h4<|djs cm).e h6).c h3<|djs bo).e I).e so) (zt' J hI) hBg (W.g hH) a4 a5<|iA _ _) ?_;rintro _ we ⟨su,rfl,kz,kA,kB,kC⟩;refine Rw z ?_
      obtain ⟨_,i0,eU⟩:=bdS hZ;refine b_M (σ:=Int×Int×Int×(List Val)) (ρ:=Val×Int×Int) (fun s a w=>un4 (fun av al am aS=>∃a9 aa ab Sl,Sat 178 [(0,pt g1),(3,vI x4),(5,pt w0.z),(8,pt wb.z),(9,pt wc.z),(10,pt G.z),(11,vI av)] a/\Chg (· ∈ ([g1]++[G.z])) we w/\inI av/\inI al/\inI am/\a_ w Sl (sl a9 aa ab) aS/\Sl.Nodup/\(∀k∈Sl,we.z<=k)/\Blk w g1 [sl A0 N0 C0,vI al,vI am]/\Blk w G.z [vI 0,sl none 0 0,sl a9 aa ab]) s) (fun s a w=>un4 (fun av al am aS=>∃a9 aa ab Sl,Sat 178 [(8,pt wb.z),(10,pt G.z)] a/\Chg (· ∈ ([g1]++[G.z])) we w/\inI av/\inI al/\inI am/\a_ w Sl (sl a9 aa ab) aS/\Sl.Nodup/\(∀k∈Sl,we.z<=k)/\Blk w g1 [sl A0 N0 C0,vI al,vI am]/\Blk w G.z [vI 0,sl none 0 0,sl a9 aa ab]) s) (rQ prog fn<|Q10 w0 g1 B A0 N0 C0 x1) i0 ?_ ?_ ?_ ?_
      ·exact fun _ q=>⟨none,0,0,[],q.k<|s7 z z z z z z z,cr ([g1]++[G.z]) we,kz,kA,kB,onL,G_,an_,kC,((hw.e I).e so).c su<|atp bo⟩
      ·rintro ⟨av,al,am,aS⟩ _ dF _ ⟨a9,aa,ab,Sl,i1,sv,eV,cn,co,aT,cp,aw,cq,ct⟩ i2;have eC:=c_I i2;refine Wu ?_ i1;refine Wq<|Wm z<|R z (a_e z z)<|Wx z (fun d8=>?_) (fun d8=>?_)
       ·refine Wk<|Wq<|Wb (Wd (X:=fun k=>k∈[g1]∨dF.z<=k) 20480 (pl_ 15 [10,11,12,14]) mo (by kernel_rfl) fun kD sh _=>dR z z (fd a_q z) ?_)
        have eW:=ct.e sh;have eX:=lt_ (lt_ (lt_ h3.s I.s) so.s) su.s;have eY:=lt_ eX sv.s;refine dR z z (l1 a_P z (a_y (atp bo)<|Nat.lt_of_lt_of_le V.lt eY)<|eW.at z)<|dM z z z ?_
        have eZ:=lt_ (lt_ L.s h5.s) h4.s;have f0:=mm1 hf.lt eZ;have dG:=mmr<|Blk.lt hB1
        refine dR z z (lN (vs:=[sl A5 N5 C5]) t_ q_ z z (a_y (atp dG)<|Nat.lt_of_lt_of_le hf.lt<|lt_ (lt_ (lt_ (lt_ (lt_ (lt_ eZ h6.s) h3.s) I.s) so.s) su.s) sv.s)<|(((((((((aB.e h5).c h4<|djs<|mm1 hf.lt L.s).e h6).c h3<|djs f0).e I).e so).c su<|atp dG).c sv<|atp<|nmA dG<|ds f0).e sh).row 0 1 z)<|dR z z (fd J_ z)<|dR z z (l1 D_ z (a_y (atp cm)<|Nat.lt_of_lt_of_le b1.lt<|lt_ (lt_ (lt_ (lt_ (lt_ (lt_ h4.s h6.s) h3.s) I.s) so.s) su.s) sv.s)<|(((((ht.e I).e so).c su<|atp cm).c sv<|atp<|nmA cm<|ds aq).e sh).at z) ?_
        obtain ⟨_,kE,i3⟩:=bdS<|ifT eC d8;refine dRX z z (at_ (α:=Int) o_ z_3 z z z (aj.g<|((((((((h5.ag B).c h4<|b_ hG).e h6).c h3<|b_ cl).e I).e so).c su<|b_<|c_ hBg).c sv<|nmA (b_<|c_ hBg)<|b_ cl).e sh) kE) ?_;rintro _ ⟨_,_,_,rfl,kF,kG,f1⟩;obtain ⟨rfl,kH⟩:=M_ kG;have f2:=lt_ hI su.s;have f3:=lt_ f2 sv.s;refine dR z z (l1 g_3 z (a_y ((b_<|c_ hBg) _ f1)<|zap (zt' J f3) f1)<|kF.at0 z)<|dM z z z<|dR z z (e_c z z (by decide)) ?_
        have f4:=((hH.c su<|b_<|c_ hBg).c sv<|nmA (b_<|c_ hBg)<|b_ cl).e sh;obtain ⟨f5,kI,kJ,kK,i4⟩:=v_ i3;refine dE z z (fc call17 z<|aZ.run (B:=B) kK (cq.e sh) (zt' J<|lt_ f3 sh.s) hBg (W.g f4) cn co (aA.g f4) kH<|e_3 _ _) (.inr fun _ _ h=>h.1.mono fun k _ hk=>(io sr) k hk) ?_;rintro _ f6 ⟨bp,kL,kM,kN,kO,kP,kQ,kR,kS,rfl,kT,kU,kV,kW,kX,kY,dH,aU⟩;refine dE z z (fS [(.tmp 95)] b_V z z z (a_c z) (lb z)<|lb z) (.inr fun _ _ h=>w_<|h.2.below) ?_;rintro _ f7 ⟨rfl,f8⟩;have an:=f8.below;have f9:=j_ aw (Blk.lt hB1) f2;obtain ⟨kZ,l2,i5⟩:=bdS i4;refine dE z z (a_O (α:=Val) b_V l2 z z (((aT.e sh).c bp f9).e an) cp (f8.blk:Blk f7 f6.z [vI f5.number,sl kL kM kN,sl kP kQ kR]) (d_s (x:=f5) (S1:=kO) (S2:=kS) kT (kU.e an)<|kV.e an) (aa_ (b_e (al_ aU) (a_.lt aT) sh.s)<|b_e (ar_ aU) (a_.lt aT) sh.s)<|na_ (nl_ dH) (nr_ dH)<|nj dH) (.inl z) ?_;rintro _ l3 ⟨dI,fe,ff,fg,rfl,dJ,l4,l5,fh⟩;refine dR z z (fd a_q z) ?_;have fi:=j_ aw V.lt eX;refine dE0 z (fs0 (cur':=[vI 0,sl none 0 0,sl fe ff fg]) d_z z z (((eW.c bp<|atp bo).e an).c dJ<|djs fi) z z z z) (.inl z) ?_;rintro _ l6 ⟨l7,l8⟩;have dK:=l8.one;refine pD<|Wo<|Wg<|Rm z<|R z (sb_ z z)<|Ra z<|Wl ?_
        have dL:=lt_ eY sh.s;have dN:=lt_ sv.s sh.s;exact fun _ q=>⟨(L_ av 1,kI,kJ,kZ),(som i5).symm,⟨fe,ff,fg,dI,q.k<|s7 z z z z z z z,(cM (cM (f_ (cM (f_ (cM (cr ([g1]++[G.z]) we) sv (aa_ (io<|A_ sr)<|io<|C_ sr):Chg (· ∈ ([g1]++[G.z])) we dF) sh:Chg (· ∈ ([g1]++[G.z])) we kD) bp (io<|A_ sr):Chg (· ∈ ([g1]++[G.z])) we f6) an:Chg (· ∈ ([g1]++[G.z])) we f7) dJ (or0 aw (s_ lr):∀k∈Sl,k∈([g1]++[G.z])∨we.z<=k):Chg (· ∈ ([g1]++[G.z])) we l3) dK (io<|C_ sr):Chg (· ∈ ([g1]++[G.z])) we l6),iS _ _,kW,kX,l4.c dK (or2 fh fi (aa_ (j_ (al_ aU) V.lt dL)<|j_ (ar_ aU) V.lt dL) (O_ (c_ V.lt)<|lt_ (lt_ dL bp.s) an.s):∀k∈dI,k∉[G.z]),l5,(or2 fh aw (aa_ (l_ (al_ aU) dN)<|l_ (ar_ aU) dN) (b_f<|lt_ (lt_ dN bp.s) an.s):∀k∈dI,we.z<=k),((kY.e an).c dJ<|djs f9).c dK<|djs bo,l7⟩⟩
       exact We<|fun _ q=>b_t (som<|ifF eC d8).symm ⟨a9,aa,ab,Sl,q.k<|s2 z z,(cM (cr ([g1]++[G.z]) we) sv (aa_ (io<|A_ sr)<|io<|C_ sr):Chg (· ∈ ([g1]++[G.z])) we dF),eV,cn,co,aT,cp,aw,cq,ct⟩
      ·rintro ⟨av,al,am,aS⟩ l9 la rfl ⟨a9,aa,ab,Sl,_,lc,eV,cn,co,aT,cp,aw,cq,ct⟩;have i6:=elL eU;revert l9;exact fun _ q=>⟨al,am,0,aS,som<|c_I i6,a9,aa,ab,Sl,q.k<|s2 z z,(cM (cM (f_ (cr ([g1]++[G.z]) H) so:Chg (· ∈ ([g1]++[G.z])) H kx) su (io<|A_ sr):Chg (· ∈ ([g1]++[G.z])) H we) lc (aa_ (io<|A_ sr)<|io<|C_ sr):Chg (· ∈ ([g1]++[G.z])) H la),cn,co,ii z,aT,cp,l_ aw<|lt_ so.s su.s,cq,ct⟩
      rintro _ _ _ _ rfl ⟨rfl,i7⟩;have i8:=elR eU;obtain rfl:=som i8;have i9:=elR d6;obtain rfl:=som i9;have ia:=elR d3;obtain rfl:=som ia;have ib:=elR d0;obtain rfl:=som ib;have ic:=elR cY;obtain rfl:=som ic;exact ⟨i7,z⟩
     refine Ws<|Rq z z z<|Rw z ?_
     obtain ⟨ld,eD,eE⟩:=bdS<|ifF eT d7;refine Wt (fun a w=>∃(bq:Int)(bt:Int)(bu:Int)(cu:List Val),Sum.inl (bq,bt,bu,cu)=ld/\∃cv cw cx bv,Sat 178 [(8,pt wb.z),(10,pt G.z)] a/\Chg (· ∈ ([g1]++[G.z])) H w/\inI bq/\inI bt/\inI bu/\a_ w bv (sl cv cw cx) cu/\bv.Nodup/\(∀k∈bv,H.z<=k)/\Blk w g1 [sl A0 N0 C0,vI bq,vI bt]/\Blk w G.z [vI bu,sl none 0 0,sl cv cw cx]) ?_ ?_
     ·refine Wc z (fun d9=>?_)<|fun d9=>?_
      ·refine Ws<|Rw z ?_
       obtain ⟨_,id,eF⟩:=bdS<|ifT eD d9;refine Wf (σ:=Int×Int×(List Val)) (ρ:=Val×Int×Int) (fun (fj:Nat) s a w=>un3 (fun ad ae ax=>∃az Y a0 Si,Sat 178 [(0,pt g1),(3,vI x4),(5,pt w0.z),(8,pt wb.z),(9,pt wc.z),(10,pt G.z),(12,vI ((fj:Nat):Int))] a/\Chg (· ∈ ([g1]++[G.z])) H w/\inI ad/\inI ae/\a_ w Si (sl az Y a0) ax/\Si.Nodup/\(∀k∈Si,H.z<=k)/\Blk w g1 [sl A0 N0 C0,vI ad,vI ae]/\Blk w G.z [vI 0,sl none 0 0,sl az Y a0]) s) (fun s a w=>un3 (fun ad ae ax=>∃az Y a0 Si,Sat 178 [(8,pt wb.z),(10,pt G.z)] a/\Chg (· ∈ ([g1]++[G.z])) H w/\inI ad/\inI ae/\a_ w Si (sl az Y a0) ax/\Si.Nodup/\(∀k∈Si,H.z<=k)/\Blk w g1 [sl A0 N0 C0,vI ad,vI ae]/\Blk w G.z [vI 0,sl none 0 0,sl az Y a0]) s) (rQ prog fn<|Q10 w0 g1 B A0 N0 C0 x1) id ?_ ?_ ?_ ?_ ?_
       ·have fk:=lt_ O.s L.s;exact fun _ q=>⟨none,0,0,[],q.k<|s7 z z z z z z z,cr ([g1]++[G.z]) H,a4,a5,onL,G_,an_,((((((hB1.e O).e L).e h5).c h4<|djs<|mm1 (Blk.lt hB1) fk).e h6).c h3<|djs<|mm1 (Blk.lt hB1)<|lt_ (lt_ fk h5.s) h4.s).e I,hw.e I⟩
       ·rintro fj ⟨ad,ae,ax⟩ _ fl _ eG ⟨az,Y,a0,Si,ie,a1,bw,bx,ay,bz,ao,bA,bB⟩ ig;refine Wu ?_ ie;refine Wq<|Wm z<|Rf z J_ z ?_
        have dO:=lt_ O.s L.s;have fm:=mm1 (Blk.lt hB1) dO;have fo:=(ht.e I).c a1<|atp<|nmA fm<|ds aq
        refine R z (l0 D_ z<|fo.at z) ?_;have fp:∀k∈[wc.z],¬B k:=or0 (c_ lr)<|k_<|zt' J dO;have dP:=lt_ (lt_ dO h5.s) h4.s;have cy:∀k∈[G.z],¬B k:=or0 (c_ lr)<|k_<|zt' J dP;have fq:=(((((h5.ag B).c h4<|b_ fp).e h6).c h3<|b_ cy).e I).c a1<|nmA (b_<|c_ hBg)<|b_ cy
        refine R z (lnR o_ z<|aj.g fq)<|Rl z z z<|Wx z (fun _=>?_) (fun hc=>(a_2 eG hc).elim)
        refine Wk<|Wq<|Wb (Wd (X:=fun k=>k∈[g1]∨fl.z<=k) 40960 (pl_ 16 [11,12,13,15]) mo (by kernel_rfl) fun le sj _=>dR z z (fd a_q z) ?_)
        have fr:=bB.e sj;have dS:=mm1 (Blk.lt hB1) dP;have fs:=lt_ h3.s I.s;have ft:=lt_ fs a1.s;refine dR z z (l1 a_P z (a_y (atp dS)<|Nat.lt_of_lt_of_le V.lt ft)<|fr.at z)<|dM z z z ?_
        have fu:=lt_ (lt_ L.s h5.s) h4.s;have fv:=mm1 hf.lt fu;have fw:=mmr<|Blk.lt hB1
        refine dR z z (lN (vs:=[sl A5 N5 C5]) t_ q_ z z (a_y (atp fw)<|Nat.lt_of_lt_of_le hf.lt<|lt_ (lt_ (lt_ (lt_ fu h6.s) h3.s) I.s) a1.s)<|(((((((aB.e h5).c h4<|djs<|mm1 hf.lt L.s).e h6).c h3<|djs fv).e I).c a1<|atp<|nmA fw<|ds fv).e sj).row 0 1 z)<|dR z z (fd J_ z)<|dR z z (l1 D_ z (a_y (atp fm)<|Nat.lt_of_lt_of_le b1.lt<|lt_ (lt_ (lt_ (lt_ h4.s h6.s) h3.s) I.s) a1.s)<|(fo.e sj).at z)<|dM z z z ?_
        obtain ⟨_,lf,ih⟩:=bdS<|b_B ig;refine dRX z z (at_ (α:=Int) o_ z_3 z z z (aj.g<|fq.e sj) lf) ?_;rintro _ ⟨_,_,_,rfl,lg,lh,fx⟩;obtain ⟨rfl,li⟩:=M_ lh;have fy:=lt_ (lt_ (lt_ dP h6.s) h3.s) I.s;have fz:=lt_ fy a1.s;refine dR z z (l1 g_3 z (a_y ((b_<|c_ hBg) _ fx)<|zap (zt' J fz) fx)<|lg.at0 z)<|dM z z z<|dR z z (e_c z z (by decide)) ?_
        have fA:=((((((a7.e h5).c h4<|b_ fp).e h6).c h3<|b_ cy).e I).c a1<|nmA (b_<|c_ hBg)<|b_ cy).e sj;obtain ⟨fB,lj,lk,ll,ij⟩:=v_ ih;refine dE z z (fc call17 z<|aZ.run (B:=B) ll (bA.e sj) (zt' J<|lt_ fz sj.s) hBg (W.g fA) bw bx (aA.g fA) li<|e_3 _ _) (.inr fun _ _ h=>h.1.mono fun k _ hk=>(io sr) k hk) ?_;rintro _ fC ⟨bC,lm,ln,lo,lp,lq,ls,lu,lv,rfl,lw,lx,ly,lz,lA,lB,dT,aV⟩;refine dE z z (fS [(.tmp 119)] b_V z z z (a_c z) (lb z)<|lb z) (.inr fun _ _ h=>w_<|h.2.below) ?_;rintro _ fD ⟨rfl,fE⟩;have ap:=fE.below;have fF:=j_ ao (Blk.lt hB1) fy;obtain ⟨lC,lD,ik⟩:=bdS ij;refine dE z z (a_O (α:=Val) b_V lD z z (((ay.e sj).c bC fF).e ap) bz (fE.blk:Blk fD fC.z [vI fB.number,sl lm ln lo,sl lq ls lu]) (d_s (x:=fB) (S1:=lp) (S2:=lv) lw (lx.e ap)<|ly.e ap) (aa_ (b_e (al_ aV) (a_.lt ay) sj.s)<|b_e (ar_ aV) (a_.lt ay) sj.s)<|na_ (nl_ dT) (nr_ dT)<|nj dT) (.inl z) ?_;rintro _ lE ⟨dU,fG,fH,fI,rfl,dV,lF,lG,fJ⟩;refine dR z z (fd a_q z) ?_;have fK:=j_ ao V.lt fs;refine dE0 z (fs0 (cur':=[vI 0,sl none 0 0,sl fG fH fI]) d_z z z (((fr.c bC<|atp dS).e ap).c dV<|djs fK) z z z z) (.inl z) ?_;rintro _ lH ⟨lI,lJ⟩;have dW:=lJ.one;refine pD<|Wo<|Wg<|Rm z<|R z (inc_ eG (lt_ (repS.len aj) K_) z z)<|Ra z<|Wl ?_
        have dX:=lt_ ft sj.s;have dY:=lt_ a1.s sj.s;exact fun _ q=>⟨(lj,lk,lC),(som ik).symm,⟨fG,fH,fI,dU,q.k<|s7 z z z z z z z,(cM (cM (f_ (cM (f_ (cM (cr ([g1]++[G.z]) H) a1 (aa_ (io<|A_ sr)<|io<|C_ sr):Chg (· ∈ ([g1]++[G.z])) H fl) sj:Chg (· ∈ ([g1]++[G.z])) H le) bC (io<|A_ sr):Chg (· ∈ ([g1]++[G.z])) H fC) ap:Chg (· ∈ ([g1]++[G.z])) H fD) dV (or0 ao (s_ lr):∀k∈Si,k∈([g1]++[G.z])∨H.z<=k):Chg (· ∈ ([g1]++[G.z])) H lE) dW (io<|C_ sr):Chg (· ∈ ([g1]++[G.z])) H lH),lz,lA,lF.c dW (or2 fJ fK (aa_ (j_ (al_ aV) V.lt dX)<|j_ (ar_ aV) V.lt dX) (O_ (c_ V.lt)<|lt_ (lt_ dX bC.s) ap.s):∀k∈dU,k∉[G.z]),lG,(or2 fJ ao (aa_ (l_ (al_ aV) dY)<|l_ (ar_ aV) dY) (b_f<|lt_ (lt_ dY bC.s) ap.s):∀k∈dU,H.z<=k),((lB.e ap).c dV<|djs fF).c dW<|djs dS,lI⟩⟩
       ·rintro ⟨ad,ae,ax⟩ _ lK ⟨az,Y,a0,Si,il,dZ,bw,bx,ay,bz,ao,bA,bB⟩;refine Wu ?_ il;refine Wq<|Wm z<|Rf z J_ z ?_
        have e0:=lt_ O.s L.s;refine R z (l0 D_ z<|((ht.e I).c dZ<|atp<|nmA (mm1 (Blk.lt hB1) e0)<|ds aq).at z) ?_;have fL:∀k∈[G.z],¬B k:=or0 (c_ lr)<|k_<|zt' J<|lt_ (lt_ e0 h5.s) h4.s;refine R z (lnR o_ z<|aj.g<|(((((h5.ag B).c h4<|b_ (or0 (c_ lr) (k_<|zt' J e0):∀k∈[wc.z],¬B k)).e h6).c h3<|b_ fL).e I).c dZ<|nmA (b_<|c_ hBg)<|b_ fL)<|Rl z z z<|Wx z (fun hc=>(a_3 hc).elim) (fun _=>?_)
        exact We<|fun _ q=>⟨rfl,⟨az,Y,a0,Si,q.k<|s2 z z,(cM (cr ([g1]++[G.z]) H) dZ (aa_ (io<|A_ sr)<|io<|C_ sr):Chg (· ∈ ([g1]++[G.z])) H lK),bw,bx,ay,bz,ao,bA,bB⟩⟩
       ·rintro ⟨ad,ae,ax⟩ lL lM rfl ⟨az,Y,a0,Si,_,lO,bw,bx,ay,bz,ao,bA,bB⟩;have im:=elL eF;revert lL;exact fun _ q=>⟨ad,ae,0,ax,som<|b_B im,az,Y,a0,Si,q.k<|s2 z z,(cM (cr ([g1]++[G.z]) H) lO (aa_ (io<|A_ sr)<|io<|C_ sr):Chg (· ∈ ([g1]++[G.z])) H lM),bw,bx,ii z,ay,bz,ao,bA,bB⟩
       rintro _ _ _ _ rfl ⟨rfl,ip⟩;have iq:=elR eF;obtain rfl:=som iq;have ir:=elR eE;obtain rfl:=som ir;have it:=elR d6;obtain rfl:=som it;have iu:=elR d3;obtain rfl:=som iu;have iv:=elR d0;obtain rfl:=som iv;have iw:=elR cY;obtain rfl:=som iw;exact ⟨ip,z⟩
      refine Ws<|Rq z z z<|Rw z ?_
      obtain ⟨lP,eH,ix⟩:=bdS<|ifF eD d9;refine Wt (fun a w=>∃(bD:Int)(bE:Int)(bF:Int)(cz:List Val),(bD,bE,bF,cz)=lP/\∃cA cB cC bG,Sat 178 [(8,pt wb.z),(10,pt G.z)] a/\Chg (· ∈ ([g1]++[G.z])) H w/\inI bD/\inI bE/\inI bF/\a_ w bG (sl cA cB cC) cz/\bG.Nodup/\(∀k∈bG,H.z<=k)/\Blk w g1 [sl A0 N0 C0,vI bD,vI bE]/\Blk w G.z [vI bF,sl none 0 0,sl cA cB cC]) ?_ ?_
      ·refine Wc z (fun da=>?_)<|fun da=>?_
       ·refine Wm z<|Rf z a_S z ?_
        have fM:=ht.e I;refine R z (l0 D_ z<|fM.at z) ?_;have e1:=lt_ O.s L.s;have fN:∀k∈[wc.z],¬B k:=or0 (c_ lr)<|k_<|zt' J e1;have e2:=lt_ (lt_ e1 h5.s) h4.s;have cD:∀k∈[G.z],¬B k:=or0 (c_ lr)<|k_<|zt' J e2;have fO:=((((h5.ag B).c h4<|b_ fN).e h6).c h3<|b_ cD).e I;have fP:=gN.g fO;refine R z (lnR o_ z fP) ?_;have fQ:=((((a7.e h5).c h4<|b_ fN).e h6).c h3<|b_ cD).e I;have fR:=mm1 (Blk.lt hB1) e1;have bH:=mm1 (Blk.lt hB1) e2;have fT:=lt_ (lt_ (lt_ e2 h6.s) h3.s) I.s;obtain ⟨_,_,_,lQ,iy⟩:=v_<|ifT eH da;refine E z (fc call30 z<|b_q (B:=B) lQ (((((((hB1.e O).e L).e h5).c h4<|djs fR).e h6).c h3<|djs bH).e I) (zt' J fT) hBg (W.g fQ) a4 a5<|a_N<|repS.len fP) ?_;rintro _ lR ⟨af,rfl,_,lS,lT,lU⟩;refine Rw z<|Ws<|Rf z a_S z ?_
        have fU:=fM.c af<|atp fR
        refine R z (l0 D_ z<|fU.at z)<|Rm z ?_
        obtain ⟨e3,lV,iz⟩:=bdS iy;have fV:=fO.c af<|b_<|c_ hBg
        refine RX z (at_ (α:=Int) o_ z_3 z z z (gN.g fV) lV) ?_;rintro _ ⟨_,_,_,rfl,lW,lX,_⟩;obtain ⟨rfl,lY⟩:=M_ lX;refine R z (l0 g_3 z<|lW.at0 z)<|Rf z b_3 z<|E0 (fs0 (cur':=[vI e3,sl none 0 0,sl none 0 0]) z_3 z z ((hw.e I).c af<|atp bH) z z z z) ?_
        rintro _ lZ ⟨m0,m1⟩;have ah:=m1.one;refine Wn<|Wd (X:=noX) 9216 (pl_ 14 [10,11,13]) mo (by kernel_rfl) fun m2 a2 _=>dM z z z ?_;have fW:=mm1 hf.lt<|lt_ (lt_ L.s h5.s) h4.s
        refine dR z z (lN (vs:=[sl A5 N5 C5]) t_ q_ z z fid<|((((((((aB.e h5).c h4<|djs<|mm1 hf.lt L.s).e h6).c h3<|djs fW).e I).c af<|atp<|mmr<|Blk.lt hB1).c ah<|djs fW).e a2).row 0 1 z)<|dR z z (fd J_ z)<|dR z z (l0 D_ z<|((fU.c ah<|djs aq).e a2).at z)<|dM z z z<|dR z z (add_ z z) ?_
        obtain ⟨_,m3,iB⟩:=bdS iz;refine dRX z z (at_ (α:=Int) o_ z_3 z z z (aj.g<|(fV.c ah<|b_ cD).e a2) m3) ?_;rintro _ ⟨_,_,_,rfl,m4,m5,_⟩;obtain ⟨rfl,m6⟩:=M_ m5;refine dR z z (l0 g_3 z<|m4.at0 z)<|dM z z z<|dR z z (e_c z z (by decide)) ?_
        have fX:=((fQ.c af<|b_<|c_ hBg).c ah<|b_ cD).e a2;obtain ⟨e4,m7,m8,m9,iC⟩:=v_ iB;refine dE z z (fc call17 z<|aZ.run (B:=B) m9 ((lU.c ah<|djs bH).e a2) (zt' J<|lt_ (lt_ (lt_ fT af.s) ah.s) a2.s) hBg (W.g fX) lS lT (aA.g fX) m6<|e_3 _ _) (.inl z) ?_;rintro _ aW ⟨cE,ma,mb,mc,e5,md,me,mf,e6,rfl,mg,fY,fZ,mh,mi,mj,e7,cF⟩;refine dE z z (fS [(.tmp 146)] b_V z z z (a_c z) (lb z)<|lb z) (.inr fun _ _ h=>w_<|h.2.below) ?_;rintro _ g0 ⟨rfl,e8⟩;have e9:=e8.below;have p5:Blk g0 aW.z [vI e4.number,sl ma mb mc,sl md me mf]:=e8.blk;refine dR z z (fd a_q z)<|dE0 z (fs0 (cur':=[vI e3,sl none 0 0,sl (some ⟨aW.z,0,none⟩) 1 1]) d_z z z (((m0.e a2).c cE<|atp bH).e e9) z z z z) (.inl z) ?_
        rintro _ mk ⟨ml,mm⟩;have ea:=mm.one;refine pD ?_;have eb:=lt_ (lt_ (lt_ (lt_ h3.s I.s) af.s) ah.s) a2.s;have ec:=lt_ (lt_ af.s ah.s) a2.s;exact fun _ q=>⟨m7,m8,e3,[e4],som iC,some ⟨aW.z,0,none⟩,1,1,(aW.z::(e5++e6)),q.k<|s2 z z,(cM (f_ (cM (f_ (cM (cM (cr ([g1]++[G.z]) H) af (io<|A_ sr):Chg (· ∈ ([g1]++[G.z])) H lR) ah (io<|C_ sr):Chg (· ∈ ([g1]++[G.z])) H lZ) a2:Chg (· ∈ ([g1]++[G.z])) H m2) cE (io<|A_ sr):Chg (· ∈ ([g1]++[G.z])) H aW) e9:Chg (· ∈ ([g1]++[G.z])) H g0) ea (io<|C_ sr):Chg (· ∈ ([g1]++[G.z])) H mk),mh,mi,lY,(a_x e8<|d_s (x:=e4) (S1:=e5) (S2:=e6) mg fY fZ).c ea (or1 d_y (aa_ (j_ (al_ cF) V.lt eb)<|j_ (ar_ cF) V.lt eb) (O_ (c_ V.lt)<|lt_ eb cE.s):∀k∈(aW.z::(e5++e6)),k∉[G.z]),h_Q (na_ (nl_ e7) (nr_ e7)<|nj e7)<|aa_ (a_.lt fY)<|a_.lt fZ,a_i d_y (aa_ (l_ (al_ cF) ec)<|l_ (ar_ cF) ec)<|lt_ ec cE.s,(mj.e e9).c ea<|djs bH,ml⟩
       refine Ws<|Rq z z z<|Rw z ?_
       obtain ⟨mn,eI,iD⟩:=bdS<|ifF eH da;refine Wt (fun a w=>∃(bI:Int)(bJ:Int)(cG:List Val),(bI,bJ,cG)=mn/\∃cH cI cJ bK,Sat 178 [(8,pt wb.z),(10,pt G.z)] a/\Chg (· ∈ ([g1]++[G.z])) H w/\inI bI/\inI bJ/\a_ w bK (sl cH cI cJ) cG/\bK.Nodup/\(∀k∈bK,H.z<=k)/\Blk w g1 [sl A0 N0 C0,vI bI,vI bJ]/\Blk w G.z [vI 0,sl none 0 0,sl cH cI cJ]) ?_ ?_
       ·refine Wc z (fun db=>?_)<|fun db=>?_
        ·refine Wm z ?_
         have ed:=lt_ O.s L.s;have g2:∀k∈[wc.z],¬B k:=or0 (c_ lr)<|k_<|zt' J ed;have ee:=lt_ (lt_ ed h5.s) h4.s;have g3:∀k∈[G.z],¬B k:=or0 (c_ lr)<|k_<|zt' J ee;have g4:=((((a7.e h5).c h4<|b_ g2).e h6).c h3<|b_ g3).e I;have g5:=mm1 (Blk.lt hB1) ed;have bL:=mm1 (Blk.lt hB1) ee;have g6:=lt_ (lt_ (lt_ ee h6.s) h3.s) I.s;obtain ⟨_,mp,mq,mr,iE⟩:=v_<|ifT eI db;refine E z (fc call37 z<|j_3 (B:=B) mr (((((((hB1.e O).e L).e h5).c h4<|djs g5).e h6).c h3<|djs bL).e I) (zt' J g6) hBg (W.g g4) a4 a5<|ii z) ?_;rintro _ ai ⟨a3,rfl,g7,g8,g9⟩;refine Wn ?_;obtain ⟨ms,eJ,iF⟩:=bdS iE;refine Wt (fun a w=>∃(bM:Int)(bN:Int)(cK:List Val),(bM,bN,cK)=ms/\∃cL cN cO bO,Sat 178 [(8,pt wb.z),(10,pt G.z)] a/\Chg (· ∈ ([g1]++[G.z])) ai w/\inI bM/\inI bN/\a_ w bO (sl cL cN cO) cK/\bO.Nodup/\(∀k∈bO,ai.z<=k)/\Blk w g1 [sl A0 N0 C0,vI bM,vI bN]/\Blk w G.z [vI 0,sl none 0 0,sl cL cN cO]) ?_ ?_
         ·refine Wc z (fun dc=>?_)<|fun dc=>?_
          ·refine Wd (X:=noX) 2304 (pl_ 12 [8,9,11]) mo (by kernel_rfl) fun mt sp _=>dM z z z ?_
           refine dR z z (lN (vs:=[sl A5 N5 C5]) t_ q_ z z fid<|(((((((aB.e h5).c h4<|djs<|mm1 hf.lt L.s).e h6).c h3<|djs<|mm1 hf.lt<|lt_ (lt_ L.s h5.s) h4.s).e I).c a3<|atp<|mmr<|Blk.lt hB1).e sp).row 0 1 z)<|dR z z (fd J_ z)<|dR z z (l0 D_ z<|(((ht.e I).c a3<|atp g5).e sp).at z) ?_
           obtain ⟨_,mu,iG⟩:=bdS<|ifT eJ dc;refine dRX z z (at_ (α:=Int) o_ z_3 z z z (aj.g<|((((((h5.ag B).c h4<|b_ g2).e h6).c h3<|b_ g3).e I).c a3<|b_<|c_ hBg).e sp) mu) ?_;rintro _ ⟨_,_,_,rfl,mw,mx,_⟩;obtain ⟨rfl,my⟩:=M_ mx;refine dR z z (l0 g_3 z<|mw.at0 z)<|dM z z z<|dR z z (e_c z z (by decide)) ?_
           have ga:=(g4.c a3<|b_<|c_ hBg).e sp;obtain ⟨ef,mz,mA,mB,iH⟩:=v_ iG;refine dE z z (fc call17 z<|aZ.run (B:=B) mB (g9.e sp) (zt' J<|lt_ (lt_ g6 a3.s) sp.s) hBg (W.g ga) g7 g8 (aA.g ga) my<|e_3 _ _) (.inl z) ?_;rintro _ aX ⟨cP,mC,mD,mE,eg,mF,mG,mH,eh,rfl,mI,gb,gc,mJ,mK,mL,ei,cQ⟩;refine dE z z (fS [(.tmp 161)] b_V z z z (a_c z) (lb z)<|lb z) (.inr fun _ _ h=>w_<|h.2.below) ?_;rintro _ ge ⟨rfl,ej⟩;have ek:=ej.below;have p6:Blk ge aX.z [vI ef.number,sl mC mD mE,sl mF mG mH]:=ej.blk;refine dR z z (fd a_q z)<|dE0 z (fs0 (cur':=[vI 0,sl none 0 0,sl (some ⟨aX.z,0,none⟩) 1 1]) d_z z z (((((hw.e I).c a3<|atp bL).e sp).c cP<|atp bL).e ek) z z z z) (.inl z) ?_
           rintro _ mM ⟨mN,mO⟩;have em:=mO.one;refine pD ?_;have en:=lt_ (lt_ (lt_ h3.s I.s) a3.s) sp.s;exact fun _ q=>⟨mz,mA,[ef],som iH,some ⟨aX.z,0,none⟩,1,1,(aX.z::(eg++eh)),q.k<|s2 z z,(cM (f_ (cM (f_ (cr ([g1]++[G.z]) ai) sp:Chg (· ∈ ([g1]++[G.z])) ai mt) cP (io<|A_ sr):Chg (· ∈ ([g1]++[G.z])) ai aX) ek:Chg (· ∈ ([g1]++[G.z])) ai ge) em (io<|C_ sr):Chg (· ∈ ([g1]++[G.z])) ai mM),mJ,mK,(a_x ej<|d_s (x:=ef) (S1:=eg) (S2:=eh) mI gb gc).c em (or1 d_y (aa_ (j_ (al_ cQ) V.lt en)<|j_ (ar_ cQ) V.lt en) (O_ (c_ V.lt)<|lt_ en cP.s):∀k∈(aX.z::(eg++eh)),k∉[G.z]),h_Q (na_ (nl_ ei) (nr_ ei)<|nj ei)<|aa_ (a_.lt gb)<|a_.lt gc,a_i d_y (aa_ (l_ (al_ cQ) sp.s)<|l_ (ar_ cQ) sp.s)<|lt_ sp.s cP.s,(mL.e ek).c em<|djs bL,mN⟩
          exact a_7<|fun _ q=>⟨mp,mq,([]:List Val),som<|ifF eJ dc,none,0,0,[],q.k<|s2 z z,cr ([g1]++[G.z]) ai,g7,g8,onL,G_,an_,g9,(hw.e I).c a3<|atp bL⟩
         rintro mP mQ ⟨bM,bN,cK,rfl,cL,cN,cO,bO,_,mR,mS,mT,mU,mV,mW,mX,mY⟩;revert mP;exact fun _ q=>⟨bM,bN,cK,som<|b_B iF,cL,cN,cO,bO,q.k<|s2 z z,(cM (cM (cr ([g1]++[G.z]) H) a3 (io<|A_ sr):Chg (· ∈ ([g1]++[G.z])) H ai) mR (aa_ (io<|A_ sr)<|io<|C_ sr):Chg (· ∈ ([g1]++[G.z])) H mQ),mS,mT,mU,mV,l_ mW a3.s,mX,mY⟩
        refine Ws<|Rq z z z<|Rw z ?_
        obtain ⟨mZ,eK,iI⟩:=bdS<|ifF eI db;refine Wt (fun a w=>∃(bQ:Int)(bR:Int)(cR:List Val),(bQ,bR,cR)=mZ/\∃cS cT cU bS,Sat 178 [(8,pt wb.z),(10,pt G.z)] a/\Chg (· ∈ ([g1]++[G.z])) H w/\inI bQ/\inI bR/\a_ w bS (sl cS cT cU) cR/\bS.Nodup/\(∀k∈bS,H.z<=k)/\Blk w g1 [sl A0 N0 C0,vI bQ,vI bR]/\Blk w G.z [vI 0,sl none 0 0,sl cS cT cU]) ?_ ?_
        ·refine Wc z (fun dd=>?_)<|fun dd=>?_
         ·refine Wd (X:=noX) 2304 (pl_ 12 [8,9,11]) mo (by kernel_rfl) fun n0 sq _=>dM z z z ?_
          refine dR z z (lN (vs:=[sl A5 N5 C5]) t_ q_ z z fid<|((((((aB.e h5).c h4<|djs<|mm1 hf.lt L.s).e h6).c h3<|djs<|mm1 hf.lt<|lt_ (lt_ L.s h5.s) h4.s).e I).e sq).row 0 1 z)<|dR z z (fd J_ z)<|dR z z (l0 D_ z<|((ht.e I).e sq).at z) ?_
          obtain ⟨_,n1,iJ⟩:=bdS<|ifT eK dd;have eo:=lt_ O.s L.s;have gf:∀k∈[wc.z],¬B k:=or0 (c_ lr)<|k_<|zt' J eo;have ep:=lt_ (lt_ eo h5.s) h4.s;have gg:∀k∈[G.z],¬B k:=or0 (c_ lr)<|k_<|zt' J ep;refine dRX z z (at_ (α:=Int) o_ z_3 z z z (aj.g<|(((((h5.ag B).c h4<|b_ gf).e h6).c h3<|b_ gg).e I).e sq) n1) ?_;rintro _ ⟨_,_,_,rfl,n2,n3,_⟩;obtain ⟨rfl,n4⟩:=M_ n3;refine dR z z (l0 g_3 z<|n2.at0 z)<|dM z z z<|dR z z (e_c z z (by decide)) ?_
          have gh:=(((((a7.e h5).c h4<|b_ gf).e h6).c h3<|b_ gg).e I).e sq;have er:=mm1 (Blk.lt hB1) ep;obtain ⟨es,n5,n6,n7,iK⟩:=v_ iJ;refine dE z z (fc call17 z<|aZ.run (B:=B) n7 ((((((((hB1.e O).e L).e h5).c h4<|djs<|mm1 (Blk.lt hB1) eo).e h6).c h3<|djs er).e I).e sq) (zt' J<|lt_ (lt_ (lt_ (lt_ ep h6.s) h3.s) I.s) sq.s) hBg (W.g gh) a4 a5 (aA.g gh) n4<|e_3 _ _) (.inl z) ?_;rintro _ aY ⟨cV,n8,n9,na,eu,nb,nc,nd,ew,rfl,ne,gi,gj,nf,ng,nh,ex,cW⟩;refine dE z z (fS [(.tmp 174)] b_V z z z (a_c z) (lb z)<|lb z) (.inr fun _ _ h=>w_<|h.2.below) ?_;rintro _ gk ⟨rfl,ey⟩;have ez:=ey.below;have p7:Blk gk aY.z [vI es.number,sl n8 n9 na,sl nb nc nd]:=ey.blk;refine dR z z (fd a_q z)<|dE0 z (fs0 (cur':=[vI 0,sl none 0 0,sl (some ⟨aY.z,0,none⟩) 1 1]) d_z z z ((((hw.e I).e sq).c cV<|atp er).e ez) z z z z) (.inl z) ?_
          rintro _ ni ⟨nk,nl⟩;have eA:=nl.one;refine pD ?_;have eB:=lt_ (lt_ h3.s I.s) sq.s;exact fun _ q=>⟨n5,n6,[es],som iK,some ⟨aY.z,0,none⟩,1,1,(aY.z::(eu++ew)),q.k<|s2 z z,(cM (f_ (cM (f_ (cr ([g1]++[G.z]) H) sq:Chg (· ∈ ([g1]++[G.z])) H n0) cV (io<|A_ sr):Chg (· ∈ ([g1]++[G.z])) H aY) ez:Chg (· ∈ ([g1]++[G.z])) H gk) eA (io<|C_ sr):Chg (· ∈ ([g1]++[G.z])) H ni),nf,ng,(a_x ey<|d_s (x:=es) (S1:=eu) (S2:=ew) ne gi gj).c eA (or1 d_y (aa_ (j_ (al_ cW) V.lt eB)<|j_ (ar_ cW) V.lt eB) (O_ (c_ V.lt)<|lt_ eB cV.s):∀k∈(aY.z::(eu++ew)),k∉[G.z]),h_Q (na_ (nl_ ex) (nr_ ex)<|nj ex)<|aa_ (a_.lt gi)<|a_.lt gj,a_i d_y (aa_ (l_ (al_ cW) sq.s)<|l_ (ar_ cW) sq.s)<|lt_ sq.s cV.s,(nh.e ez).c eA<|djs er,nk⟩
         refine a_7 ?_;have gl:=lt_ O.s L.s;exact fun _ q=>⟨x1.i,x1.h,([]:List Val),som<|ifF eK dd,none,0,0,[],q.k<|s2 z z,cr ([g1]++[G.z]) H,a4,a5,onL,G_,an_,((((((hB1.e O).e L).e h5).c h4<|djs<|mm1 (Blk.lt hB1) gl).e h6).c h3<|djs<|mm1 (Blk.lt hB1)<|lt_ (lt_ gl h5.s) h4.s).e I,hw.e I⟩
        rintro nm np ⟨bQ,bR,cR,rfl,cS,cT,cU,bS,_,nq,nr,ns,nt,nu,nv,nw,nx⟩;revert nm;exact fun _ q=>⟨bQ,bR,cR,som<|b_B iI,cS,cT,cU,bS,q.k<|s2 z z,(cM (cr ([g1]++[G.z]) H) nq (aa_ (io<|A_ sr)<|io<|C_ sr):Chg (· ∈ ([g1]++[G.z])) H np),nr,ns,nt,nu,nv,nw,nx⟩
       rintro ny nA ⟨bI,bJ,cG,rfl,cH,cI,cJ,bK,_,nB,nC,nD,nE,nF,nG,nH,nI⟩;revert ny;exact fun _ q=>⟨bI,bJ,0,cG,som<|b_B iD,cH,cI,cJ,bK,q.k<|s2 z z,(cM (cr ([g1]++[G.z]) H) nB (aa_ (io<|A_ sr)<|io<|C_ sr):Chg (· ∈ ([g1]++[G.z])) H nA),nC,nD,ii z,nE,nF,nG,nH,nI⟩
      rintro nJ nK ⟨bD,bE,bF,cz,rfl,cA,cB,cC,bG,_,nL,nM,nN,nO,nP,nQ,nR,nS,nT⟩;revert nJ;exact fun _ q=>⟨bD,bE,bF,cz,som<|c_I ix,cA,cB,cC,bG,q.k<|s2 z z,(cM (cr ([g1]++[G.z]) H) nL (aa_ (io<|A_ sr)<|io<|C_ sr):Chg (· ∈ ([g1]++[G.z])) H nK),nM,nN,nO,nP,nQ,nR,nS,nT⟩
     rintro nU nV ⟨bq,bt,bu,cu,rfl,cv,cw,cx,bv,_,nW,nX,nY,nZ,o0,o1,o2,o3,o4⟩;have iL:=elL eE;revert nU;exact fun _ q=>⟨bq,bt,bu,cu,som<|c_I iL,cv,cw,cx,bv,q.k<|s2 z z,(cM (cr ([g1]++[G.z]) H) nW (aa_ (io<|A_ sr)<|io<|C_ sr):Chg (· ∈ ([g1]++[G.z])) H nV),nX,nY,nZ,o0,o1,o2,o3,o4⟩
    rintro o5 o6 ⟨bj,bk,bm,ch,rfl,ci,cj,ck,bn,_,o7,o8,o9,oa,ob,oc,od,oe,og⟩;have iM:=elL d6;revert o5;exact fun _ q=>⟨bj,bk,bm,([]:List UInt8),ch,som<|c_I iM,none,0,0,[],ci,cj,ck,bn,q.k<|s2 z z,(cM (cr ([g1]++[G.z]) H) o7 (aa_ (io<|A_ sr)<|io<|C_ sr):Chg (· ∈ ([g1]++[G.z])) H o6),o8,o9,oa,onL,G_,an_,ob,oc,od,nmN _,oe,og⟩
   rintro oh oi ⟨b7,b8,b9,c3,c4,rfl,c5,c6,c7,aO,c8,c9,ca,aP,_,oj,ol,om,oo,oq,os,ot,ou,ov,ow,ox,oy,oz⟩;have iN:=elL d3;revert oh;exact fun _ q=>⟨b7,b8,b9,c3,c4,som<|c_u iN,c5,c6,c7,aO,c8,c9,ca,aP,q.k<|s2 z z,(cM (f_ (cr ([g1]++[G.z]) wa) I:Chg (· ∈ ([g1]++[G.z])) wa H) oj (aa_ (io<|A_ sr)<|io<|C_ sr):Chg (· ∈ ([g1]++[G.z])) wa oi),ol,om,oo,oq,os,l_ ot I.s,ou,ov,l_ ow I.s,ox,oy,oz⟩
  rintro oA oB ⟨b4,b5,b6,bV,bW,rfl,bX,bY,bZ,aM,c0,c1,c2,aN,_,oC,oD,oE,oF,oG,oH,oI,oJ,oK,oL,oM,oN,oO⟩;have iO:=elL d0;revert oA;exact fun _ q=>⟨b4,b5,b6,bV,bW,som<|c_u iO,bX,bY,bZ,aM,c0,c1,c2,aN,q.k<|s2 z z,(cM (cr ([g1]++[G.z]) wa) oC (aa_ (io<|A_ sr)<|io<|C_ sr):Chg (· ∈ ([g1]++[G.z])) wa oB),oD,oE,oF,oG,oH,oI,oJ,oK,oL,oM,oN,oO⟩
 rintro oP oQ ⟨bT,bU,aD,de,df,rfl,aE,aF,aG,aH,aI,aJ,aK,aL,_,gm,oR,oS,oT,oU,oV,gn,oW,oX,gp,oY,oZ,p0⟩;have iP:=elL cY;revert oP;refine Wo<|Ws<|R z (lN (vs:=[vI aD,sl aE aF aG,sl aI aJ aK]) y_ i_ z z fid<|p0.row 0 3 z) ?_
 have gq:=lt_ h5.s h4.s;have gr:=mm1 b0.lt gq;have gs:=mm1 (Blk.lt hB1) O.s;refine E0 (fs0 (cur':=[vI aD,sl aE aF aG,sl aI aJ aK]) i_ z z (((((b0.e h5).c h4<|djs<|mmr b0.lt).e h6).c h3<|djs gr).c gm<|atp<|nmA gs<|ds gr) z z z z) ?_;rintro _ p1 ⟨p2,p3⟩;have cX:=p3.one;refine Wn ?_;obtain rfl:=som<|c_u iP;have gt:=lt_ (lt_ gq h6.s) h3.s;have gu:=lt_ O.s L.s;have gv:=lt_ (lt_ gu h5.s) h4.s;have gw:∀k∈[G.z],k∈[g1]∨w0.z<=k:=mor gv;have gx:=lt_ (lt_ gv h6.s) h3.s;exact Wr<|h_ hr (r_ y_ i_ z p2 z) ⟨(cM (cM (cM (f_ (cM (f_ (f_ (f_ (cr [g1] w0) O:Chg (· ∈ [g1]) w0 wb) L:Chg (· ∈ [g1]) w0 wc) h5:Chg (· ∈ [g1]) w0 gO) h4 (mor gu:∀k∈[wc.z],k∈[g1]∨w0.z<=k):Chg (· ∈ [g1]) w0 G) h6:Chg (· ∈ [g1]) w0 gQ) h3 gw:Chg (· ∈ [g1]) w0 wa) gm (aa_ (io sr) gw):Chg (· ∈ [g1]) w0 oQ) cX (mor O.s:∀k∈[wb.z],k∈[g1]∨w0.z<=k):Chg (· ∈ [g1]) w0 p1),aE,aF,aG,aH,aI,aJ,aK,aL,z,oT,oU.c cX<|j_ gn b0.lt gt,oW.c cX<|j_ gp b0.lt gt,oR,oS,oZ.c cX<|djs gs,na_ oV oX<|ds oY,aa_ (l_ gn gx)<|l_ gp gx⟩
theorem A_w0c:∀n,k_U n
  | 0=>⟨fun hm=>by intros;exact nomatch (show none=some _ from hm)⟩
  | n+1=>T_w0c<|A_w0c n
theorem W_w0c:j_7 (e_1 n).spec_l9Make:=A_w0c n
theorem d_a {x1:e_}{x2:Int}{x3:Int}{res:Int}(hm:b_l x1 x2 x3=some res)(aQ:B<=w0.z)(aJ:x1.name.b.length<=LEN)(aK:inI x1.kind)(aL:inI x1.size)(aM:repS w0 B (sl AB NB CB) x1.bytes)(aN:repS w0 B (sl A8 N8 C8) x1.names)(I:repS w0 B (sl AC NC CC) x1.tags)(J:repS w0 B (sl AD ND CD) x1.kids)(aO:inI x2)(aP:inI x3):n_ prog 31 [(.agg #[Str.v x1.name,vI x1.kind,vI x1.size,vB x1.little,sl AB NB CB,sl A8 N8 C8,sl AC NC CC,sl AD ND CD]),vI x2,vI x3] w0 (Q9 w0 B res):=by
 unfold b_l at hm
 refine goG func31 z z z fun fn hr=>Ws<|E z (fb z) ?_
 rintro _ G ⟨rfl,hi⟩;have H:=hi.below;have h2:Blk G w0.z (vR x1 AB NB CB A8 N8 C8 AC NC CC AD ND CD):=hi.blk;refine Rw z<|Wq<|Ws<|Rf z a_n z<|R z (l0 g_3 z<|h2.at z)<|Wn<|Wb<|Ws<|Rq z z z<|Rw z<|Wc z (fun O=>?_) (fun O=>?_)
 ·refine Ws<|Rf z J_ z<|R z (l0 D_ z<|h2.at z) ?_
  obtain ⟨_,eu,hmv⟩:=bdS<|ifT hm O;refine RX z (at_ (α:=Int) o_ z_3 z z z (J.e H) eu) ?_;rintro _ ⟨_,_,_,rfl,hw,hx,_⟩;obtain ⟨rfl,hy⟩:=M_ hx;refine R z (l0 g_3 z<|hw.at0 z)<|Rw z ?_
  obtain rfl:=som hmv;exact Wr<|rtO<|h_ hr z ⟨H,z,hy⟩
 refine Ws<|Rq z z z<|Rw z ?_
 obtain ⟨uz,huj,L⟩:=bdS<|ifF hm O;refine Wt (fun a w=>Sum.inl ()=uz/\Sat 57 [] a/\Below G.z G w) ?_ ?_
 ·refine Wc z (fun V=>?_)<|fun V=>?_
  ·have hmk:=ifT huj V;refine Wm z<|Rf z J_ z<|R z (l0 D_ z<|h2.at z) ?_
   have hl:=J.e H;refine R z (lnR o_ z hl)<|Rl z z z<|Wx z (fun W=>?_) (fun W=>?_)
   ·refine Ws<|Rf z J_ z<|R z (l0 D_ z<|h2.at z)<|Rm z ?_
    obtain ⟨_,aj,a0⟩:=bdS<|ifT hmk W;refine RX z (at_ (α:=Int) o_ z_3 z z z hl aj) ?_;rintro _ ⟨_,_,_,rfl,ak,al,_⟩;obtain ⟨rfl,am⟩:=M_ al;refine R z (l0 g_3 z<|ak.at0 z)<|Rw z ?_
    obtain rfl:=som a0;have a1:=elR L;obtain rfl:=som a1;exact Wr<|rtO<|h_ hr z ⟨H,z,am⟩
   exact a_7<|fun _ q=>⟨som<|ifF hmk W,q.k sn,br G⟩
  refine Ws<|Rq z z z<|Rw z ?_
  obtain ⟨an,hum,Y⟩:=bdS<|ifF huj V;refine Wt (fun a w=>Sum.inl ()=an/\Sat 57 [] a/\Below G.z G w) ?_ ?_
  ·refine Wc z (fun hca=>?_)<|fun hca=>?_
   ·refine Ws<|Rw z ?_
    obtain ⟨_,a2,hmn⟩:=bdS<|ifT hum hca;refine Wf (σ:=Unit) (ρ:=Int) (fun (ko:Nat)(_:Unit) a w=>Sat 57 [(1,vI x2),(3,pt w0.z),(7,vI ((ko:Nat):Int))] a/\Below G.z G w) (fun (_:Unit) a w=>Sat 57 [] a/\Below G.z G w) (rQ prog fn<|Q9 w0 B) a2 ?_ ?_ ?_ ?_ ?_
    ·exact fun _ q=>⟨q.k<|s3 z z z,br G⟩
    ·rintro ko _ _ _ _ hkb ⟨a3,s4⟩ a4;refine Wu ?_ a3;refine Wq<|Wm z<|Rf z a_S z ?_
     have hd:=h2.e s4;refine R z (l0 D_ z<|hd.at z) ?_;have hp:=(H.ag B).e s4;have hq:=I.g hp;refine R z (lnR o_ z hq)<|Rl z z z<|Wx z (fun _=>?_) (fun hc=>(a_2 hkb hc).elim)
     refine Wk<|Wq<|Wb<|Ws<|Rf z a_S z<|R z (l0 D_ z<|hd.at z)<|Rm z ?_
     obtain ⟨_,ao,hmr⟩:=bdS a4;refine RX z (at_ (α:=Int) o_ z_3 z z z hq ao) ?_;rintro _ ⟨_,_,_,rfl,ap,aq,_⟩;obtain ⟨rfl,_⟩:=M_ aq;refine R z (l0 g_3 z<|ap.at0 z)<|Rm z<|Rq z z z<|Wx z (fun hcc=>?_) (fun hcc=>?_)
     ·refine Ws<|Rf z J_ z<|R z (l0 D_ z<|hd.at z)<|Rm z<|R z (inc_ hkb (lt_ (repS.len I) K_) z z) ?_
      obtain ⟨_,ar,a5⟩:=bdS<|ifT hmr hcc;refine RX z (at_ (α:=Int) o_ z_3 z z z (J.g hp) ar) ?_;rintro _ ⟨_,_,_,rfl,au,av,_⟩;obtain ⟨rfl,aw⟩:=M_ av;exact R z (l0 g_3 z<|au.at0 z)<|Rw z<|Wr<|rtO<|qL (som a5).symm<|h_ hr z ⟨bup H s4,z,aw⟩
     exact Wk<|Wg<|Rm z<|R z (inc_ hkb (lt_ (repS.len I) K_) z z)<|Ra z<|Wl (fun _ q=>⟨(),(som<|ifF hmr hcc).symm,⟨q.k<|s3 z z z,s4⟩⟩)
    ·rintro _ _ _ ⟨a6,se⟩;refine Wu ?_ a6;refine Wq<|Wm z<|Rf z a_S z<|R z (l0 D_ z<|(h2.e se).at z)<|R z (lnR o_ z<|I.g<|(H.ag B).e se)<|Rl z z z<|Wx z (fun hc=>(a_3 hc).elim) (fun _=>?_)
     exact We<|fun _ q=>⟨rfl,⟨q.k sn,se⟩⟩
    ·rintro _ ax _ rfl ⟨_,ay⟩;have a7:=elL hmn;revert ax;exact fun _ q=>⟨som a7,q.k sn,ay⟩
    rintro _ _ _ _ rfl ⟨rfl,a8⟩;have a9:=elR hmn;obtain rfl:=som a9;have aa:=elR Y;obtain rfl:=som aa;have ab:=elR L;obtain rfl:=som ab;exact ⟨a8,z⟩
   refine Wq<|Ws<|Rq z z z<|Rw z ?_
   obtain ⟨az,hus,hmt⟩:=bdS<|ifF hum hca;refine Wt (fun a w=>∃(xf:Bool),xf=az/\Sat 57 [(3,pt w0.z),(50,vB xf)] a/\Below G.z G w) ?_ ?_
   ·refine Wc z (fun hcg=>?_)<|fun hcg=>?_
    ·exact a_7<|fun _ q=>⟨x1.kind==8,som<|ifT hus hcg,q.k<|s2 z z,br G⟩
    exact Wg<|Rq z z z<|Ra z<|Wl (fun _ q=>⟨x1.kind==9,som<|ifF hus hcg,q.k<|s2 z z,br G⟩)
   rintro aA _ ⟨xf,rfl,_,s5⟩;revert aA;refine Wo<|Wc z (fun hch=>?_) (fun hch=>?_)
   ·refine Ws<|Rf z J_ z<|R z (l0 D_ z<|(h2.e s5).at z) ?_
    obtain ⟨_,aB,ad⟩:=bdS<|ifT hmt hch;refine RX z (at_ (α:=Int) o_ z_3 z z z (J.g<|(H.ag B).e s5) aB) ?_;rintro _ ⟨_,_,_,rfl,aC,aD,_⟩;obtain ⟨rfl,aE⟩:=M_ aD;refine R z (l0 g_3 z<|aC.at0 z)<|Rw z ?_
    obtain rfl:=som ad;have ae:=elR Y;obtain rfl:=som ae;have af:=elR L;obtain rfl:=som af;exact Wr<|rtO<|h_ hr z ⟨bup H s5,z,aE⟩
   exact a_7<|fun _ q=>⟨som<|ifF hmt hch,q.k sn,s5⟩
  rintro aF _ ⟨rfl,_,aG⟩;have ah:=elL Y;revert aF;exact fun _ q=>⟨som ah,q.k sn,aG⟩
 rintro aH _ ⟨rfl,_,aI⟩;have ai:=elL L;revert aH;refine Wo<|Ws<|Rw z ?_
 obtain rfl:=som ai;exact Wr<|h_ hr z ⟨bup H aI,z,ii z⟩
theorem b_h {x1:Int}{x2:Int}{x3:Int}{res:Bool}(hm:a_M x1 x2 x3=some res)(Y:B<=w0.z)(O:inI x1)(V:inI x2)(W:inI x3):n_ prog 99 [vI x1,vI x2,vI x3] w0 (Q0 w0 B res):=by
 unfold a_M at hm
 refine goG func99 z z z fun fn hr=>Ws<|Rw z<|Wq ?_
 obtain ⟨J,H,I⟩:=bdS hm;refine Wt (fun a w=>∃(x4:Bool),x4=J/\Sat 15 [(6,vB x4)] a/\Below w0.z w0 w) ?_ ?_
 ·refine Wg<|RM z z<|R z (b_i z z)<|Rm z ?_
  rcases bs (decide<|x2<=x1) with G | G
  ·exact Rh z G (mv z)<|Rh z G (mv z)<|Rh z G (b_C z z)<|R z (pT z G z)<|Ra z<|Wl (fun _ q=>⟨decide<|x1<=x3,som<|ifT H G,q.k<|s1 z,br w0⟩)
  iterate 3 refine Nh z G ?_
  exact R z (pF z G z)<|Ra z<|Wl (fun _ q=>⟨false,som<|ifF H G,q.k<|s1 z,br w0⟩)
 rintro L _ ⟨x4,rfl,_,s6⟩;revert L;refine Wo ?_;obtain rfl:=som I;exact Wr<|h_ hr z ⟨s6,z⟩
def Q11 (w0:World)(B:Zone)(r:(List UInt8))(v:Value)(w':World):Prop:=Bw w0 w'/\(fun J=>∃G H I S1,(sl G H I)=v/\a_ w' S1 (sl G H I) J/\S1.Nodup/\(∀k∈S1,w0.z<=k)) r
theorem W_w19 {x1:Int}{x2:Int}{res:(List UInt8)}(hm:f_e n x1 x2=some res)(W:B<=w0.z)(a0:inI x1)(Y:inI x2):n_ prog 61 [vI x1,vI x2] w0 (Q11 w0 B res):=by
 unfold f_e at hm
 refine goG func61 z z z fun fn hr=>Ws<|Rw z<|Ws<|E z (f0 (α:=UInt8) a_9) ?_
 rintro _ wm ⟨ad,ne,cf,rfl,s7,hp⟩;refine Rw z<|Wq<|Wq ?_
 obtain ⟨af,a1,hmq⟩:=bdS hm;refine Wt (fun a w=>∃(xg:Bool),xg=af/\Sat 35 [(0,vI x1),(1,vI x2),(5,sl ad ne cf),(18,vB xg)] a/\Below wm.z wm w) ?_ ?_
 ·refine Wg<|Rm z ?_
  obtain ⟨ah,ai,hmr⟩:=bdS a1;refine E z (fc call99 z<|b_h ai (zt' W s7.s) Y (ii z)<|ii z) ?_;rintro _ _ ⟨sh,rfl⟩;refine R z (not_ z)<|Rm z ?_
  rcases bs (!ah) with I | I
  ·iterate 6 refine Nh z I ?_
   exact R z (pT z I z)<|Wl (fun _ q=>⟨true,som<|ifT hmr I,q.k<|s4 z z z z,sh⟩)
  refine Rh z I (mv z)<|Rh z I (mv z) ?_
  have ht:=lt_ s7.s sh.s;obtain ⟨_,aj,a2⟩:=bdS<|ifF hmr I;refine Eg z z I z (fc call35 z<|h_X aj (zt' W ht) Y) ?_;rintro _ _ ⟨ss,rfl,_⟩;refine Rh z I (sb_ z z) ?_;obtain ⟨ak,al,a4⟩:=bdS a2;refine Eg z z I z (fc call99 z<|b_h al (zt' W<|lt_ ht ss.s) a0 (ii z)<|iS _ _) ?_;rintro _ _ ⟨am,rfl⟩;exact Rh z I (not_ z)<|R z (pF z I z)<|Wl (fun _ q=>⟨!ak,som a4,q.k<|s4 z z z z,bup (bup sh ss) am⟩)
 rintro an G ⟨xg,rfl,_,s8⟩;revert an;refine Wo<|Wc z (fun hci=>?_) (fun hci=>?_)
 ·refine Wm z<|Rw z ?_
  obtain rfl:=som<|ifT hmq hci;exact Wr<|h_ hr z ⟨bup s7 s8,ad,ne,cf,[w0.z],z,hp.e s8,a_k,c_ lr⟩
 refine Wk<|Wq<|Wm z<|R z (sb_ z z)<|Rw z ?_
 obtain ⟨_,a5,hmu⟩:=bdS<|ifF hmq hci;refine b_M (σ:=(List UInt8)×Int) (ρ:=List UInt8) (fun s a w=>un2 (fun V x6=>∃J L O H,Sat 35 [(0,vI x1),(5,sl J L O),(6,vI x6)] a/\Chg (· ∈ [w0.z]) G w/\a_ w H (sl J L O) V/\H.Nodup/\(∀k∈H,k∈[w0.z]∨G.z<=k)/\inI x6) s) (fun s a w=>un2 (fun V x6=>∃J L O H,Sat 35 [(5,sl J L O)] a/\Chg (· ∈ [w0.z]) G w/\a_ w H (sl J L O) V/\H.Nodup/\(∀k∈H,k∈[w0.z]∨G.z<=k)/\inI x6) s) (rQ prog fn<|Q11 w0 B) a5 ?_ ?_ ?_ ?_
 ·exact fun _ q=>⟨ad,ne,cf,[w0.z],q.k<|s3 z z z,cr [w0.z] G,hp.e s8,a_k,io sr,iS _ _⟩
 ·rintro ⟨V,x6⟩ _ wj _ ⟨J,L,O,H,a6,sk,ha,hb,hc,hv⟩ a7;have hmw:=a_G a7;refine Wu ?_ a6;refine Wq<|Wm z<|R z (b_i z z)<|Wx z (fun hcl=>?_) (fun hcl=>?_)
  ·refine Wk<|Wq<|Wb<|Wg<|RM z z<|Rm z<|R z (c_m z z) ?_
   obtain ⟨_,ao,a8⟩:=bdS<|ifT hmw hcl;refine R z (j_G z z<|nnS ao)<|R z (e_4 d_3 d_5 z)<|E z (fS [(.tmp 31)] a_9 z z z (a_c z) (lb z)<|lb z) ?_
   rintro _ wx ⟨rfl,hn⟩;have ho:=hn.below;have aD:=a_x hn b_c;obtain ⟨ap,aq,a9⟩:=bdS a8;refine E z (a_O (α:=UInt8) a_9 aq z z (ha.e ho) hb (hn.blk:Blk wx wj.z [(vU<|byteI<|mkB<|c_5 .i64 x1<|a_1 8 x6)]) b_c an_ G_) ?_;rintro _ ar ⟨Sy,au,av,aw,rfl,ax,ay,az,aA⟩;refine Rw z<|Wg<|Rm z<|R z (sb_ z z)<|Ra z<|Wl ?_
   have hz:∀k∈H,k∈[w0.z]∨G.z<=k:=or1 hc (io sr)<|s_ lr;exact fun _ q=>⟨(ap,L_ x6 1),(som a9).symm,⟨au,av,aw,Sy,q.k<|s3 z z z,(cM (f_ (cM (cr [w0.z] G) sk (io sr):Chg (· ∈ [w0.z]) G wj) ho:Chg (· ∈ [w0.z]) G wx) ax hz:Chg (· ∈ [w0.z]) G ar),ay,az,(or2 aA hz an_ (s_<|lt_ sk.s ho.s):∀k∈Sy,k∈[w0.z]∨G.z<=k),iS _ _⟩⟩
  exact We<|fun _ q=>b_t (som<|ifF hmw hcl).symm ⟨J,L,O,H,q.k<|s1 z,(cM (cr [w0.z] G) sk (io sr):Chg (· ∈ [w0.z]) G wj),ha,hb,(or1 hc (io sr) (s_ lr):∀k∈H,k∈[w0.z]∨G.z<=k),hv⟩
 ·rintro ⟨V,x6⟩ aB _ rfl ⟨J,L,O,H,_,aC,ha,hb,hc,hv⟩;have aa:=elL hmu;revert aB;refine Wo<|Wm z<|Rw z ?_
  obtain rfl:=som<|a_G aa;exact Wr<|h_ hr z ⟨bM (bup s7 s8) aC<|c_ lr,J,L,O,H,z,ha,hb,(or1 hc (c_ lr) (b_f<|lt_ s7.s s8.s):∀k∈H,w0.z<=k)⟩
 rintro _ _ _ _ rfl ⟨rfl,ab⟩;have ae:=elR hmu;obtain rfl:=som ae;exact ⟨ab,z⟩
theorem W_w24 {x1:Int}{x2:Int}{res:(List UInt8)}(hm:f_v n x1 x2=some res)(aa:B<=w0.z)(Y:inI x1)(a0:inI x2):n_ prog 60 [vI x1,vI x2] w0 (Q11 w0 B res):=by
 unfold f_v at hm
 refine goG func60 z z z fun fn hr=>Ws<|Rw z<|Wm z<|Rm z ?_
 obtain ⟨_,er,hms⟩:=bdS hm;refine E z (fc call61 z<|W_w19 (B:=B) er aa Y a0) ?_;rintro _ G ⟨sd,au,nt,cv,_,rfl,W,_,_⟩;refine Rw z<|Ws<|E z (f0 (α:=UInt8) a_9) ?_
 rintro _ H ⟨aw,nx,cy,rfl,se,hz⟩;refine Rw z<|Wq<|Wm z ?_
 have hj:=W.e se;refine R z (lnR p_ z<|or_ hj<|a_.lt W)<|R z (sb_ z z)<|Rw z ?_
 obtain ⟨_,a1,hmk⟩:=bdS hms;refine b_M (σ:=(List UInt8)×Int) (ρ:=List UInt8) (fun s a w=>un2 (fun V x6=>∃J L O I,Sat 27 [(5,sl au nt cv),(6,sl J L O),(7,vI x6)] a/\Chg (· ∈ [G.z]) H w/\a_ w I (sl J L O) V/\I.Nodup/\(∀k∈I,k∈[G.z]∨H.z<=k)/\inI x6) s) (fun s a w=>un2 (fun V x6=>∃J L O I,Sat 27 [(6,sl J L O)] a/\Chg (· ∈ [G.z]) H w/\a_ w I (sl J L O) V/\I.Nodup/\(∀k∈I,k∈[G.z]∨H.z<=k)/\inI x6) s) (rQ prog fn<|Q11 w0 B) a1 ?_ ?_ ?_ ?_
 ·exact fun _ q=>⟨aw,nx,cy,[G.z],q.k<|s3 z z z,cr [G.z] H,hz,a_k,io sr,iS _ _⟩
 ·rintro ⟨V,x6⟩ _ wf _ ⟨J,L,O,I,a2,s9,ha,hb,hc,hl⟩ a4;have hmm:=a_G a4;refine Wu ?_ a2;refine Wq<|Wm z<|R z (b_i z z)<|Wx z (fun hcg=>?_) (fun hcg=>?_)
  ·refine Wk<|Wq<|Wb<|Wg<|RM z z<|Rm z ?_
   obtain ⟨ab,ad,a5⟩:=bdS<|ifT hmm hcg;refine RX z (at_ (α:=UInt8) p_ z_5 z z z (or_ (hj.c s9<|ds<|mnr<|a_.lt W)<|a_.lt W) ad) ?_;rintro _ ⟨_,_,_,rfl,ae,af,_⟩;obtain rfl:=u8 af;refine R z (l0 g_5 z<|ae.at0 z)<|E z (fS [(.tmp 23)] a_9 z z z (a_c z) (lb z)<|lb z) ?_
   rintro _ wn ⟨rfl,hh⟩;have hi:=hh.below;have ax:=a_x hh b_c;obtain ⟨ah,ai,a6⟩:=bdS a5;refine E z (a_O (α:=UInt8) a_9 ai z z (ha.e hi) hb (hh.blk:Blk wn wf.z [vU (byteI ab)]) b_c an_ G_) ?_;rintro _ aj ⟨So,ak,al,am,rfl,an,ao,ap,aq⟩;refine Rw z<|Wg<|Rm z<|R z (sb_ z z)<|Ra z<|Wl ?_
   have hp:∀k∈I,k∈[G.z]∨H.z<=k:=or1 hc (io sr)<|s_ lr;exact fun _ q=>⟨(ah,L_ x6 1),(som a6).symm,⟨ak,al,am,So,q.k<|s3 z z z,(cM (f_ (cM (cr [G.z] H) s9 (io sr):Chg (· ∈ [G.z]) H wf) hi:Chg (· ∈ [G.z]) H wn) an hp:Chg (· ∈ [G.z]) H aj),ao,ap,(or2 aq hp an_ (s_<|lt_ s9.s hi.s):∀k∈So,k∈[G.z]∨H.z<=k),iS _ _⟩⟩
  exact We<|fun _ q=>b_t (som<|ifF hmm hcg).symm ⟨J,L,O,I,q.k<|s1 z,(cM (cr [G.z] H) s9 (io sr):Chg (· ∈ [G.z]) H wf),ha,hb,(or1 hc (io sr) (s_ lr):∀k∈I,k∈[G.z]∨H.z<=k),hl⟩
 ·rintro ⟨V,x6⟩ ar _ rfl ⟨J,L,O,I,_,av,ha,hb,hc,hl⟩;have a7:=elL hmk;revert ar;refine Wo<|Wm z<|Rw z ?_
  obtain rfl:=som<|a_G a7;have hq:=m1 sd.s;exact Wr<|h_ hr z ⟨bM (bup sd se) av hq,J,L,O,I,z,ha,hb,a_i hc hq<|lt_ sd.s se.s⟩
 rintro _ _ _ _ rfl ⟨rfl,a8⟩;have a9:=elR hmk;obtain rfl:=som a9;exact ⟨a8,z⟩
theorem h_Y {x1:e_}{x2:Int}{res:(List UInt8)}(hm:d_u n x1 x2=some res)(L:B<=w0.z)(a0:x1.name.b.length<=LEN)(a1:inI x1.kind)(I:inI x1.size)(a2:repS w0 B (sl AB NB CB) x1.bytes)(a3:repS w0 B (sl A8 N8 C8) x1.names)(a4:repS w0 B (sl AC NC CC) x1.tags)(a5:repS w0 B (sl AD ND CD) x1.kids)(J:inI x2):n_ prog 32 [(.agg #[Str.v x1.name,vI x1.kind,vI x1.size,vB x1.little,sl AB NB CB,sl A8 N8 C8,sl AC NC CC,sl AD ND CD]),vI x2] w0 (Q11 w0 B res):=by
 unfold d_u at hm
 refine goG func32 z z z fun fn hr=>Ws<|E z (fb z) ?_
 rintro _ V ⟨rfl,h3⟩;have G:=h3.below;have h1:Blk V w0.z (vR x1 AB NB CB A8 N8 C8 AC NC CC AD ND CD):=h3.blk;refine Rw z<|Wq<|Ws<|Rf z c_L z<|R z (l0 g_4 z<|h1.at z)<|Wx z (fun H=>?_) (fun H=>?_)
 ·refine Wm z<|Rf z a_z z<|R z (l0 g_3 z<|h1.at z) ?_
  obtain ⟨_,W,O⟩:=bdS<|ifT hm H;refine E z (fc call60 z<|W_w24 W (zt' L G.s) J I) ?_;rintro _ _ ⟨s7,Y,n9,ca,Sb,rfl,hc,hd,he⟩;refine Rw z ?_
  obtain rfl:=som O;exact Wr<|h_ hr z ⟨bup G s7,Y,n9,ca,Sb,z,hc,hd,l_ he G.s⟩
 refine Wk<|Wm z<|Rf z a_z z<|R z (l0 g_3 z<|h1.at z) ?_
 obtain ⟨_,ef,hmg⟩:=bdS<|ifF hm H;refine E z (fc call61 z<|W_w19 ef (zt' L G.s) J I) ?_;rintro _ _ ⟨sh,ai,nj,ck,Sl,rfl,hn,ho,hp⟩;refine Rw z ?_
 obtain rfl:=som hmg;exact Wr<|h_ hr z ⟨bup G sh,ai,nj,ck,Sl,z,hn,ho,l_ hp G.s⟩
theorem W_w1a {x1:List UInt8}{res:Int}(hm:f_3 x1=some res)(O:B<=w0.z)(G:repS w0 B (sl A0 N0 C0) x1):n_ prog 33 [sl A0 N0 C0] w0 (Q9 w0 B res):=by
 unfold f_3 at hm
 refine goG func33 z z z fun fn hr=>Ws<|Rw z<|Ws<|Rw z<|Wq<|Ws<|Rw z ?_
 obtain ⟨_,J,H⟩:=bdS hm;refine Wf (σ:=Int) (ρ:=Int) (fun (k3:Nat)(x0:Int) a w=>Sat 20 [(0,sl A0 N0 C0),(3,vI x0),(4,vI ((k3:Nat):Int))] a/\Below w0.z w0 w/\inI x0) (fun (x0:Int) a w=>Sat 20 [(3,vI x0)] a/\Below w0.z w0 w/\inI x0) (rQ prog fn<|Q9 w0 B) J ?_ ?_ ?_ ?_ ?_
 ·exact fun _ q=>⟨q.k<|s3 z z z,br w0,ii z⟩
 ·rintro k3 x0 _ _ _ I ⟨L,s5,h1⟩ hma;refine Wu ?_ L;refine Wq<|Wm z<|Rm z ?_
  have h6:=G.e s5;refine R z (lnR p_ z h6)<|Rl z z z<|Wx z (fun _=>?_) (fun hc=>(a_2 I hc).elim)
  refine Wk<|Wq<|Wb<|Wg<|RM z z<|Rm z ?_
  obtain ⟨xb,ec,hmd⟩:=bdS hma;refine RX z (at_ (α:=UInt8) p_ z_5 z z z h6 ec) ?_;rintro _ ⟨_,_,_,rfl,he,hf,_⟩;obtain rfl:=u8 hf;exact R z (l0 g_5 z<|he.at0 z)<|R z (b_U d_5 d_3 z)<|R z (add_ z z)<|R z (f_W z z (by decide))<|Rw z<|Wg<|Rm z<|R z (inc_ I (lt_ (repS.len G) K_) z z)<|Ra z<|Wl (fun _ q=>⟨b_6 (g_ x0<|byteI xb) 256,(som hmd).symm,⟨q.k<|s3 z z z,s5,f_A<|iA _ _⟩⟩)
 ·rintro x0 _ _ ⟨hSg,s7,h1⟩;refine Wu ?_ hSg;refine Wq<|Wm z<|Rm z<|R z (lnR p_ z<|G.e s7)<|Rl z z z<|Wx z (fun hc=>(a_3 hc).elim) (fun _=>?_)
  exact We<|fun _ q=>⟨rfl,⟨q.k<|s1 z,s7,h1⟩⟩
 ·rintro x0 ah _ rfl ⟨_,si,h1⟩;have hmj:=elL H;revert ah;refine Wo<|Wm z<|Rw z ?_
  obtain rfl:=som hmj;exact Wr<|h_ hr z ⟨si,z,h1⟩
 rintro _ _ _ _ rfl ⟨rfl,hqk⟩;have hml:=elR H;obtain rfl:=som hml;exact ⟨hqk,z⟩
structure j_8 (f:d_->Int->Val->Option (List UInt8)):Prop where
  run:∀{A0 A9 AA:Option Addr}{N0 C0 N9 C9 NA CA:Nat}{B:Zone}{x1:d_}{x2:Int}{x3:Val}{res:(List UInt8)}{w0:World}(hm:f x1 x2 x3=some res)(hBw:B<=w0.z)(p1_0:repS w0 B (sl A0 N0 C0) x1.rules)(p2_0:inI x2)(p3_0:inI x3.number)(p3_1:repS w0 B (sl A9 N9 C9) x3.bytes)(p3_2:repS w0 B (sl AA NA CA) x3.items),n_ prog 16 [(.agg #[sl A0 N0 C0]),vI x2,(.agg #[vI x3.number,sl A9 N9 C9,sl AA NA CA])] w0<|Q11 w0 B res
abbrev k_V (n:Nat):Prop:=j_8 (d_v n).spec_l11Print
theorem T_w0a (gX:k_V n):j_8 (f_w n<|d_v n):=by
 constructor
 intro A0 A9 AA N0 C0 N9 C9 NA CA B x1 x2 x3 res w0 hm H a4 j1 aA O V;unfold f_w at hm
 refine goG func16 z z z fun fn hr=>Ws<|E z (fb z) ?_
 rintro _ wm ⟨rfl,bS⟩;have J:=bS.below;have ho:Blk wm w0.z [sl A0 N0 C0]:=bS.blk;refine E z (fb z) ?_;rintro _ wa ⟨rfl,bT⟩;have h4:=bT.below;have h5:Blk wa wm.z [vI x3.number,sl A9 N9 C9,sl AA NA CA]:=bT.blk;refine Rw z<|Ws<|Rf z R_ z ?_
 have a5:=ho.e h4;refine R z (l0 T_ z<|a5.at z)<|Rm z ?_
 obtain ⟨aa,gY,dK⟩:=bdS hm;have hn:=(J.ag B).e h4;refine RX z (at_ (α:=e_) U_ m_ z z z (a4.g hn) gY) ?_;rintro _ ⟨_,_,_,rfl,gZ,h2,_⟩;obtain ⟨ab,ad,ae,af,ai,ak,al,am,an,ao,ap,aq,rfl,bU,bV,bW,a6,bX,bY,a7⟩:=a_m h2;refine R z (lN (vs:=vR aa ab ad ae af ai ak al am an ao ap aq) I_ m_ z z fid gZ)<|E z (fa b_g) ?_
 rintro _ h3 ⟨rfl,bZ⟩;have h1:=bZ.below;have a8:Blk h3 wa.z [(Str.v (⟨[]⟩:Str)),vI 0,vI 0,vB false,sl none 0 0,sl none 0 0,sl none 0 0,sl none 0 0]:=bZ.blk;refine E0 (fs0 (cur':=vR aa ab ad ae af ai ak al am an ao ap aq) m_ z z a8 z z z z) ?_;rintro _ I ⟨c0,h6⟩;have G:=h6.one;refine Wn<|Ws<|E z (f0 (α:=UInt8) a_9) ?_
 rintro _ wc ⟨h7,h9,ha,rfl,s3,hb⟩;refine Rw z<|Wq<|Ws<|Rw z ?_
 obtain ⟨_,dL,bD⟩:=bdS dK;refine Wf (σ:=List UInt8) (ρ:=List UInt8) (fun (c1:Nat)(W:List UInt8) a w=>∃ah ng ci S2,Sat 169 [(3,pt w0.z),(5,pt wm.z),(7,pt wa.z),(8,sl ah ng ci),(9,vI ((c1:Nat):Int))] a/\Chg (· ∈ [I.z]) wc w/\a_ w S2 (sl ah ng ci) W/\S2.Nodup/\(∀k∈S2,k∈[I.z]∨wc.z<=k)) (fun (W:List UInt8) a w=>∃ah ng ci S2,Sat 169 [(3,pt w0.z),(5,pt wm.z),(7,pt wa.z),(8,sl ah ng ci)] a/\Chg (· ∈ [I.z]) wc w/\a_ w S2 (sl ah ng ci) W/\S2.Nodup/\(∀k∈S2,k∈[I.z]∨wc.z<=k)) (rQ prog fn<|Q11 w0 B) dL ?_ ?_ ?_ ?_ ?_
 ·exact fun _ q=>⟨h7,h9,ha,[I.z],q.k<|s5 z z z z z,cr [I.z] wc,hb,a_k,io sr⟩
 ·rintro c1 W _ hf _ aB ⟨ah,ng,ci,S2,dN,ss,hd,hw,he⟩ dO;refine Wu ?_ dN;refine Wq<|Wm z<|Rf z a_q z ?_
  have c2:=(((h5.e h1).c G<|djs<|mmr h5.lt).e s3).c ss<|djs<|mm1 h5.lt<|lt_ h1.s G.s
  refine R z (l0 a_P z<|c2.at z) ?_;have c3:=lt_ J.s h4.s;have c4:∀k∈[wa.z],¬B k:=or0 (c_ lr)<|k_<|zt' H c3;have c5:=lt_ (lt_ c3 h1.s) G.s;have c6:∀k∈[I.z],¬B k:=or0 (c_ lr)<|k_<|zt' H c5;have c7:=(((hn.e h1).c G<|b_ c4).e s3).c ss<|b_ c6
  refine R z (lnR b_5 z<|V.g c7)<|Rl z z z<|Wx z (fun _=>?_) (fun hc=>(a_2 aB hc).elim)
  refine Wk<|Wq<|Wb (Wd (X:=noX) 8192 (.rd 0<|.rd 1<|.rd 2<|.rd 3<|.rd 4<|.rd 5<|.rd 7<|.rd 8<|.rd 9<|.rd 10<|.rd 11<|.ef 6<|.ef 12<|.ef 13<|.rd 14 .done) mo (by kernel_rfl) fun hg sp _=>dM z z z ?_)
  refine dR z z (lN (vs:=[sl A0 N0 C0]) t_ q_ z z fid<|(((((a5.e h1).c G<|djs<|mm1 ho.lt h4.s).e s3).c ss<|djs<|mm1 ho.lt<|lt_ (lt_ h4.s h1.s) G.s).e sp).row 0 1 z)<|dR z z (lN (vs:=vR aa ab ad ae af ai ak al am an ao ap aq) I_ m_ z z fid<|(((c0.e s3).c ss<|djs<|mm1 a8.lt G.s).e sp).row 0 8 z)<|dR z z (fd b_3 z) ?_
  have c8:=c2.e sp;refine dR z z (l0 g_3 z<|c8.at z)<|dM z z z<|dR z z (fd a_q z)<|dR z z (l0 a_P z<|c8.at z)<|dM z z z ?_
  obtain ⟨hh,hi,dP⟩:=bdS dO;have c9:=c7.e sp;refine dRX z z (at_ (α:=Val) b_5 i_ z z z (V.g c9) hi) ?_;rintro _ ⟨_,_,_,rfl,hj,hk,_⟩;obtain ⟨hl,hp,hq,hu,hv,hx,rfl,hy,hA,hB⟩:=k_m hk;refine dR z z (lN (vs:=[vI hh.number,sl hl hp hq,sl hu hv hx]) y_ i_ z z fid hj) ?_;have ar:=((((h1.ag B).c G<|b_ c4).e s3).c ss<|b_ c6).e sp;have ca:=lt_ (lt_ (lt_ c5 s3.s) ss.s) sp.s;obtain ⟨_,hC,dS⟩:=bdS dP;refine dE z z (fc call31 z<|d_a hC (zt' H ca) bU bV bW (a6.g ar) (bX.g ar) (bY.g ar) (a7.g ar) aA<|ic (Nat.le_of_lt aB)<|lt_ (repS.len V) K_) (.inr fun _ _ h=>w_<|h.1) ?_;rintro _ hD ⟨sx,rfl,hE⟩;obtain ⟨_,hF,dT⟩:=bdS dS;refine dE z z (fc call16 z<|gX.run hF (zt' H<|lt_ ca sx.s) (a4.g<|c9.e sx) hE hy (hA.e sx)<|hB.e sx) (.inr fun _ _ h=>w_<|h.1) ?_;rintro _ hG ⟨aM,_,_,_,_,rfl,hH,_,_⟩;obtain ⟨hI,hJ,dU⟩:=bdS dT;refine dE z z (fN (α:=UInt8) a_9 hJ z z (((hd.e sp).e sx).e aM) hw<|a_.rep hH) (.inl z) ?_;rintro _ hK ⟨cb,hL,hM,hN,rfl,hO,hP,hQ,hR⟩;refine dQ z z z<|pD<|Wo<|Wg<|Rm z<|R z (inc_ aB (lt_ (repS.len V) K_) z z)<|Ra z<|Wl ?_
  have cc:∀k∈S2,k∈[I.z]∨wc.z<=k:=or1 he (io sr)<|s_ lr;exact fun _ q=>⟨hI,(som dU).symm,⟨hL,hM,hN,cb,q.k<|s5 z z z z z,(cM (f_ (f_ (f_ (cM (cr [I.z] wc) ss (io sr):Chg (· ∈ [I.z]) wc hf) sp:Chg (· ∈ [I.z]) wc hg) sx:Chg (· ∈ [I.z]) wc hD) aM:Chg (· ∈ [I.z]) wc hG) hO cc:Chg (· ∈ [I.z]) wc hK),hP,hQ,(or1 hR cc (s_<|lt_ (lt_ (lt_ ss.s sp.s) sx.s) aM.s):∀k∈cb,k∈[I.z]∨wc.z<=k)⟩⟩
 ·rintro W _ hS ⟨ah,ng,ci,S2,dV,aN,hd,hw,he⟩;refine Wu ?_ dV;refine Wq<|Wm z<|Rf z a_q z<|R z (l0 a_P z<|((((h5.e h1).c G<|djs<|mmr h5.lt).e s3).c aN<|djs<|mm1 h5.lt<|lt_ h1.s G.s).at z) ?_
  have cd:=lt_ J.s h4.s;refine R z (lnR b_5 z<|V.g<|(((hn.e h1).c G<|b_ (or0 (c_ lr) (k_<|zt' H cd):∀k∈[wa.z],¬B k)).e s3).c aN<|b_ (or0 (c_ lr) (k_<|zt' H<|lt_ (lt_ cd h1.s) G.s):∀k∈[I.z],¬B k))<|Rl z z z<|Wx z (fun hc=>(a_3 hc).elim) (fun _=>?_)
  exact We<|fun _ q=>⟨rfl,⟨ah,ng,ci,S2,q.k<|s4 z z z z,(cM (cr [I.z] wc) aN (io sr):Chg (· ∈ [I.z]) wc hS),hd,hw,(or1 he (io sr) (s_ lr):∀k∈S2,k∈[I.z]∨wc.z<=k)⟩⟩
 ·rintro W hT wb rfl ⟨ah,ng,ci,S2,_,s6,hd,hw,he⟩;have bE:=elL bD;revert hT;refine Wo<|Wq<|Ws<|Rf z a_n z ?_
  have aO:=mm1 a8.lt G.s;have ht:=(c0.e s3).c s6<|djs aO
  refine R z (l0 g_3 z<|ht.at z)<|Wn<|Wb<|Ws<|Rq z z z<|Rw z<|Wc z (fun aC=>?_) (fun aC=>?_)
  ·refine Ws<|R z (lN (vs:=vR aa ab ad ae af ai ak al am an ao ap aq) I_ m_ z z fid<|ht.row 0 8 z)<|Rf z b_3 z<|R z (l0 g_3 z<|((((h5.e h1).c G<|djs<|mmr h5.lt).e s3).c s6<|djs<|mm1 h5.lt<|lt_ h1.s G.s).at z) ?_
   have aP:=lt_ J.s h4.s;have aQ:=lt_ (lt_ aP h1.s) G.s;have au:=(((h1.ag B).c G<|b_ (or0 (c_ lr) (k_<|zt' H aP):∀k∈[wa.z],¬B k)).e s3).c s6<|b_ (or0 (c_ lr) (k_<|zt' H aQ):∀k∈[I.z],¬B k)
   have ce:=lt_ (lt_ aQ s3.s) s6.s;obtain ⟨_,hU,dW⟩:=bdS<|ifT bE aC;refine E z (fc call32 z<|h_Y hU (zt' H ce) bU bV bW (a6.g au) (bX.g au) (bY.g au) (a7.g au) aA) ?_;rintro _ _ ⟨hV,hW,hX,hY,hZ,rfl,i0,i1,i2⟩;refine Rw z ?_
   obtain rfl:=som dW;exact Wr<|rtO<|h_ hr z ⟨bup (bM (bup (bM (bup (bup J h4) h1) G<|m1 aP) s3) s6<|m1 aQ) hV,hW,hX,hY,hZ,z,i0,i1,l_ i2 ce⟩
  have bF:=ifF bE aC;refine Ws<|Rq z z z<|Rw z<|Wc z (fun aD=>?_) (fun aD=>?_)
  ·refine Ws<|E z (f0 (α:=UInt8) a_9) ?_
   rintro _ _ ⟨_,_,_,rfl,av,i3⟩;refine Rf z a_R z<|R z (l0 P_ z<|(ht.e av).at z) ?_
   obtain ⟨_,i4,dX⟩:=bdS<|ifT bF aD;have aR:=lt_ J.s h4.s;have aS:=lt_ (lt_ aR h1.s) G.s;refine E z (fN (α:=UInt8) a_9 i4 z z i3 a_k<|a6.g<|((((h1.ag B).c G<|b_ (or0 (c_ lr) (k_<|zt' H aR):∀k∈[wa.z],¬B k)).e s3).c s6<|b_ (or0 (c_ lr) (k_<|zt' H aS):∀k∈[I.z],¬B k)).e av) ?_;rintro _ _ ⟨i5,i6,i7,i8,rfl,i9,ia,ib,id⟩;refine Rw z ?_
   obtain rfl:=som dX;have cf:=lt_ (lt_ aS s3.s) s6.s;have cg:=m1 cf;exact Wr<|rtO<|h_ hr z ⟨bM (bup (bM (bup (bM (bup (bup J h4) h1) G<|m1 aR) s3) s6<|m1 aS) av) i9 cg,i6,i7,i8,i5,z,ia,ib,a_i id cg<|lt_ cf av.s⟩
  have bG:=ifF bF aD;refine Ws<|Rq z z z<|Rw z<|Wc z (fun aE=>?_) (fun aE=>?_)
  ·refine Wq<|Wd (X:=noX) 16384 (.rd 0<|.rd 1<|.rd 2<|.rd 3<|.rd 4<|.rd 5<|.rd 6<|.rd 7<|.rd 8<|.rd 9<|.rd 10<|.rd 12<|.rd 13<|.ef 11<|.ef 14<|.rd 15 .done) mo (by kernel_rfl) fun j2 sy _=>dR z z (fd R_ z) ?_;refine dR z z (l0 T_ z<|(((((a5.e h1).c G<|djs<|mm1 ho.lt h4.s).e s3).c s6<|djs<|mm1 ho.lt<|lt_ (lt_ h4.s h1.s) G.s).e sy).at z)<|dR z z (fd J_ z)<|dR z z (l0 D_ z<|(ht.e sy).at z) ?_
   obtain ⟨_,ie,dY⟩:=bdS<|ifT bG aE;have aT:=lt_ J.s h4.s;have ch:∀k∈[wa.z],¬B k:=or0 (c_ lr)<|k_<|zt' H aT;have aU:=lt_ (lt_ aT h1.s) G.s;have cj:∀k∈[I.z],¬B k:=or0 (c_ lr)<|k_<|zt' H aU;refine dRX z z (at_ (α:=Int) o_ z_3 z z z (a7.g<|((((h1.ag B).c G<|b_ ch).e s3).c s6<|b_ cj).e sy) ie) ?_;rintro _ ⟨_,_,_,rfl,ig,ih,_⟩;obtain ⟨rfl,_⟩:=M_ ih;refine dR z z (l0 g_3 z<|ig.at0 z) ?_;obtain ⟨ij,ik,dZ⟩:=bdS dY;have aV:=((((hn.e h1).c G<|b_ ch).e s3).c s6<|b_ cj).e sy;refine dRX z z (at_ (α:=e_) U_ m_ z z z (a4.g aV) ik) ?_;rintro _ ⟨_,_,_,rfl,il,im,_⟩;obtain ⟨ip,iq,ir,it,iu,iv,iw,ix,iy,iz,iA,iB,rfl,iC,iD,iE,iF,iG,iH,iI⟩:=a_m im;refine dR z z (lN (vs:=vR ij ip iq ir it iu iv iw ix iy iz iA iB) I_ m_ z z fid il)<|dR z z (fd b_4 z) ?_
   have ck:=((((h5.e h1).c G<|djs<|mmr h5.lt).e s3).c s6<|djs<|mm1 h5.lt<|lt_ h1.s G.s).e sy;refine dR z z (l0 P_ z<|ck.at z) ?_;have cm:=O.g aV;refine dR z z (lnR p_ z cm)<|dR z z (fd b_4 z)<|dR z z (l0 P_ z<|ck.at z) ?_
   have aW:=lt_ (lt_ (lt_ aU s3.s) s6.s) sy.s;obtain ⟨_,iJ,e0⟩:=bdS dZ;refine dE z z (fc call32 z<|h_Y iJ (zt' H aW) iC iD iE iF iG iH iI<|a_N<|repS.len cm) (.inr fun _ _ h=>w_<|h.1) ?_;rintro _ _ ⟨aX,_,_,_,_,rfl,iK,iL,iM⟩;obtain ⟨_,iN,e1⟩:=bdS e0;refine dE z z (fN (α:=UInt8) a_9 iN z z iK iL<|O.g<|aV.e aX) (.inl z) ?_;rintro _ _ ⟨iO,iP,iQ,iR,rfl,iS,iT,iU,iV⟩;refine dQ z z z<|pD<|Wo ?_
   obtain rfl:=som e1;have cn:=l_ iM aW;exact Wr<|rtO<|h_ hr z ⟨bM (bup (bup (bM (bup (bM (bup (bup J h4) h1) G<|m1 aT) s3) s6<|m1 aU) sy) aX) iS cn,iP,iQ,iR,iO,z,iT,iU,a_i iV cn<|lt_ aW aX.s⟩
  have bH:=ifF bG aE;refine Ws<|Rq z z z<|Rw z<|Wc z (fun aF=>?_) (fun aF=>?_)
  ·refine Wq<|Wd (X:=noX) 8192 (.rd 0<|.rd 1<|.rd 2<|.rd 3<|.rd 4<|.rd 5<|.rd 6<|.rd 7<|.rd 8<|.rd 9<|.rd 10<|.rd 12<|.ef 11<|.ef 13<|.rd 14 .done) mo (by kernel_rfl) fun j3 su _=>dR z z (fd R_ z) ?_;refine dR z z (l0 T_ z<|(((((a5.e h1).c G<|djs<|mm1 ho.lt h4.s).e s3).c s6<|djs<|mm1 ho.lt<|lt_ (lt_ h4.s h1.s) G.s).e su).at z)<|dR z z (fd J_ z)<|dR z z (l0 D_ z<|(ht.e su).at z) ?_
   obtain ⟨_,iW,e2⟩:=bdS<|ifT bH aF;have aY:=lt_ J.s h4.s;have co:∀k∈[wa.z],¬B k:=or0 (c_ lr)<|k_<|zt' H aY;have aZ:=lt_ (lt_ aY h1.s) G.s;have cp:∀k∈[I.z],¬B k:=or0 (c_ lr)<|k_<|zt' H aZ;refine dRX z z (at_ (α:=Int) o_ z_3 z z z (a7.g<|((((h1.ag B).c G<|b_ co).e s3).c s6<|b_ cp).e su) iW) ?_;rintro _ ⟨_,_,_,rfl,iX,iY,_⟩;obtain ⟨rfl,_⟩:=M_ iY;refine dR z z (l0 g_3 z<|iX.at0 z) ?_;obtain ⟨iZ,j0,e3⟩:=bdS e2;have cq:=((((hn.e h1).c G<|b_ co).e s3).c s6<|b_ cp).e su;refine dRX z z (at_ (α:=e_) U_ m_ z z z (a4.g cq) j0) ?_;rintro _ ⟨_,_,_,rfl,e4,e5,_⟩;obtain ⟨e6,e7,e8,e9,ea,eb,ec,ed,ee,eg,eh,ei,rfl,ej,ek,em,en,eo,ep,er⟩:=a_m e5;refine dR z z (lN (vs:=vR iZ e6 e7 e8 e9 ea eb ec ed ee eg eh ei) I_ m_ z z fid e4)<|dR z z (fd a_q z)<|dR z z (l0 a_P z<|(((((h5.e h1).c G<|djs<|mmr h5.lt).e s3).c s6<|djs<|mm1 h5.lt<|lt_ h1.s G.s).e su).at z) ?_
   have ct:=V.g cq;refine dR z z (lnR b_5 z ct)<|dM z z z ?_
   have b0:=lt_ (lt_ (lt_ aZ s3.s) s6.s) su.s;obtain ⟨_,es,df⟩:=bdS e3;refine dE z z (fc call32 z<|h_Y es (zt' H b0) ej ek em en eo ep er<|a_N<|repS.len ct) (.inr fun _ _ h=>w_<|h.1) ?_;rintro _ _ ⟨b1,_,_,_,_,rfl,eu,ew,ex⟩;obtain ⟨_,ey,dg⟩:=bdS df;refine dE z z (fN (α:=UInt8) a_9 ey z z eu ew<|or_ ((hd.e su).e b1)<|a_.lt hd) (.inl z) ?_;rintro _ _ ⟨ez,eA,eB,eC,rfl,eD,eE,eF,eG⟩;refine dQ z z z<|pD<|Wo ?_
   obtain rfl:=som dg;have cu:=l_ ex b0;exact Wr<|rtO<|h_ hr z ⟨bM (bup (bup (bM (bup (bM (bup (bup J h4) h1) G<|m1 aY) s3) s6<|m1 aZ) su) b1) eD cu,eA,eB,eC,ez,z,eE,eF,a_i eG cu<|lt_ b0 b1.s⟩
  have bI:=ifF bH aF;refine Ws<|Rq z z z<|Rw z<|Wc z (fun aG=>?_) (fun aG=>?_)
  ·refine Wq<|Wd (X:=noX) 4096 (.rd 0<|.rd 1<|.rd 2<|.rd 3<|.rd 4<|.rd 5<|.rd 6<|.rd 7<|.rd 8<|.rd 9<|.rd 11<|.ef 10<|.ef 12<|.rd 13 .done) mo (by kernel_rfl) fun j4 sv _=>dR z z (fd R_ z) ?_;refine dR z z (l0 T_ z<|(((((a5.e h1).c G<|djs<|mm1 ho.lt h4.s).e s3).c s6<|djs<|mm1 ho.lt<|lt_ (lt_ h4.s h1.s) G.s).e sv).at z)<|dR z z (fd J_ z)<|dR z z (l0 D_ z<|(ht.e sv).at z) ?_
   obtain ⟨_,eH,dh⟩:=bdS<|ifT bI aG;have b2:=lt_ J.s h4.s;have cv:∀k∈[wa.z],¬B k:=or0 (c_ lr)<|k_<|zt' H b2;have b3:=lt_ (lt_ b2 h1.s) G.s;have cw:∀k∈[I.z],¬B k:=or0 (c_ lr)<|k_<|zt' H b3;refine dRX z z (at_ (α:=Int) o_ z_3 z z z (a7.g<|((((h1.ag B).c G<|b_ cv).e s3).c s6<|b_ cw).e sv) eH) ?_;rintro _ ⟨_,_,_,rfl,eI,eJ,_⟩;obtain ⟨rfl,_⟩:=M_ eJ;refine dR z z (l0 g_3 z<|eI.at0 z) ?_;obtain ⟨eK,eL,di⟩:=bdS dh;refine dRX z z (at_ (α:=e_) U_ m_ z z z (a4.g<|((((hn.e h1).c G<|b_ cv).e s3).c s6<|b_ cw).e sv) eL) ?_;rintro _ ⟨_,_,_,rfl,eM,eN,_⟩;obtain ⟨eO,eP,eQ,eR,eS,eT,eU,eV,eW,eX,eY,eZ,rfl,f1,f2,f3,f4,f5,f6,f7⟩:=a_m eN;refine dR z z (lN (vs:=vR eK eO eP eQ eR eS eT eU eV eW eX eY eZ) I_ m_ z z fid eM)<|dR z z (fd b_3 z)<|dR z z (l0 g_3 z<|(((((h5.e h1).c G<|djs<|mmr h5.lt).e s3).c s6<|djs<|mm1 h5.lt<|lt_ h1.s G.s).e sv).at z)<|dM z z z ?_
   have b4:=lt_ (lt_ (lt_ b3 s3.s) s6.s) sv.s;obtain ⟨_,f8,dj⟩:=bdS di;refine dE z z (fc call32 z<|h_Y f8 (zt' H b4) f1 f2 f3 f4 f5 f6 f7 aA) (.inr fun _ _ h=>w_<|h.1) ?_;rintro _ _ ⟨b5,_,_,_,_,rfl,f9,fe,ff⟩;obtain ⟨_,fg,dk⟩:=bdS dj;refine dE z z (fN (α:=UInt8) a_9 fg z z f9 fe<|or_ ((hd.e sv).e b5)<|a_.lt hd) (.inl z) ?_;rintro _ _ ⟨fh,fi,fj,fk,rfl,fl,fm,fo,fp⟩;refine dQ z z z<|pD<|Wo ?_
   obtain rfl:=som dk;have cx:=l_ ff b4;exact Wr<|rtO<|h_ hr z ⟨bM (bup (bup (bM (bup (bM (bup (bup J h4) h1) G<|m1 b2) s3) s6<|m1 b3) sv) b5) fl cx,fi,fj,fk,fh,z,fm,fo,a_i fp cx<|lt_ b4 b5.s⟩
  have bJ:=ifF bI aG;refine Ws<|Rq z z z<|Rw z<|Wc z (fun aH=>?_) (fun aH=>?_)
  ·refine Ws<|Rf z a_q z<|R z (l0 a_P z<|((((h5.e h1).c G<|djs<|mmr h5.lt).e s3).c s6<|djs<|mm1 h5.lt<|lt_ h1.s G.s).at z) ?_
   have b6:=lt_ J.s h4.s;have b7:=lt_ (lt_ b6 h1.s) G.s;refine R z (lnR b_5 z<|V.g<|(((hn.e h1).c G<|b_ (or0 (c_ lr) (k_<|zt' H b6):∀k∈[wa.z],¬B k)).e s3).c s6<|b_ (or0 (c_ lr) (k_<|zt' H b7):∀k∈[I.z],¬B k))<|R z (e_4 d_3 d_5 z)<|E z (fS [(.tmp 105)] a_9 z z z (a_c z) (lb z)<|lb z) ?_
   rintro _ fq ⟨rfl,b8⟩;have b9:=b8.below;have j5:Blk fq wb.z [(vU<|byteI<|mkB (x3.items.length:Int))]:=b8.blk;refine Rm z ?_;obtain ⟨_,fr,dl⟩:=bdS<|ifT bJ aH;refine E z (fN (α:=UInt8) a_9 fr z z (a_x b8 b_c) a_k<|or_ (hd.e b9)<|a_.lt hd) ?_;rintro _ _ ⟨fs,ft,fu,fv,rfl,fw,fx,fy,fz⟩;refine Rw z ?_
   obtain rfl:=som dl;have cy:=lt_ (lt_ b7 s3.s) s6.s;have cz:=m1 cy;exact Wr<|rtO<|h_ hr z ⟨bM (bup (bM (bup (bM (bup (bup J h4) h1) G<|m1 b6) s3) s6<|m1 b7) b9) fw cz,ft,fu,fv,fs,z,fx,fy,a_i fz cz<|lt_ cy b9.s⟩
  have bK:=ifF bJ aH;refine Ws<|Rq z z z<|Rw z<|Wc z (fun aI=>?_) (fun aI=>?_)
  ·refine Wm z<|Rm z ?_
   obtain ⟨fA,fB,dm⟩:=bdS<|ifT bK aI;refine E z (fc call33 z<|W_w1a (B:=wb.z) fB zr<|a_.rep hd) ?_;rintro _ fC ⟨ba,rfl,_⟩;refine R z (e_4 d_3 d_5 z)<|E z (fS [(.tmp 114)] a_9 z z z (a_c z) (lb z)<|lb z) ?_
   rintro _ fD ⟨rfl,bb⟩;have bc:=bb.below;have j6:=a_x bb b_c;obtain ⟨_,fE,dn⟩:=bdS dm;refine E z (a_O (α:=UInt8) a_9 fE z z ((hd.e ba).e bc) hw (bb.blk:Blk fD fC.z [(vU<|byteI<|mkB fA)]) b_c an_ G_) ?_;rintro _ _ ⟨cA,fF,fG,fH,rfl,fI,fJ,fK,fL⟩;refine Rw z ?_
   obtain rfl:=som dn;have cB:=lt_ J.s h4.s;have cC:=lt_ (lt_ cB h1.s) G.s;have cD:=m1 cC;have cE:=lt_ cC s3.s;have cF:=a_i he cD cE;exact Wr<|rtO<|h_ hr z ⟨bM (bup (bup (bM (bup (bM (bup (bup J h4) h1) G<|m1 cB) s3) s6 cD) ba) bc) fI cF,fF,fG,fH,cA,z,fJ,fK,(or2 fL cF an_ (b_f<|lt_ (lt_ (lt_ cE s6.s) ba.s) bc.s):∀k∈cA,w0.z<=k)⟩
  have bL:=ifF bK aI;refine Ws<|Rq z z z<|Rw z<|Wc z (fun aJ=>?_) (fun aJ=>?_)
  ·refine Wq<|Ws<|Rw z ?_
   obtain ⟨_,dp,bN⟩:=bdS<|ifT bL aJ;refine Wf (σ:=List UInt8) (ρ:=List UInt8) (fun (aw:Nat)(xr:List UInt8) a w=>∃aj nk cl L,Sat 169 [(5,pt wm.z),(7,pt wa.z),(8,sl aj nk cl),(10,vI ((aw:Nat):Int))] a/\Chg (· ∈ S2) wb w/\a_ w L (sl aj nk cl) xr/\L.Nodup/\(∀k∈L,k∈S2∨wb.z<=k)) (fun (xr:List UInt8) a w=>∃aj nk cl L,Sat 169 [(7,pt wa.z),(8,sl aj nk cl)] a/\Chg (· ∈ S2) wb w/\a_ w L (sl aj nk cl) xr/\L.Nodup/\(∀k∈L,k∈S2∨wb.z<=k)) (rQ prog fn<|Q11 w0 B) dp ?_ ?_ ?_ ?_ ?_
   ·exact fun _ q=>⟨ah,ng,ci,S2,q.k<|s4 z z z z,cr S2 wb,hd,hw,io sr⟩
   ·rintro aw xr _ be _ bO ⟨aj,nk,cl,L,dq,Y,a0,a1,hz⟩ dr;refine Wu ?_ dq;refine Wq<|Wm z<|Rf z b_4 z ?_
    have cG:=lt_ h1.s G.s;have cH:=mm1 h5.lt cG;have cI:=lt_ cG s3.s;have cJ:∀k∈S2,k∉[wm.z]:=or1 he cH<|O_ (c_ h5.lt) cI;have bf:=((((h5.e h1).c G<|djs<|mmr h5.lt).e s3).c s6<|djs cH).c Y<|djs cJ
    refine R z (l0 P_ z<|bf.at z) ?_;have cK:=lt_ J.s h4.s;have cL:∀k∈[wa.z],¬B k:=or0 (c_ lr)<|k_<|zt' H cK;have cN:=lt_ (lt_ cK h1.s) G.s;have bg:∀k∈[I.z],¬B k:=or0 (c_ lr)<|k_<|zt' H cN;have cO:=lt_ cN s3.s;have bh:∀k∈S2,¬B k:=or1 he bg<|k_<|zt' H cO;have bi:=((((hn.e h1).c G<|b_ cL).e s3).c s6<|b_ bg).c Y<|b_ bh
    refine R z (lnR p_ z<|O.g bi)<|Rl z z z<|Wx z (fun _=>?_) (fun hc=>(a_2 bO hc).elim)
    refine Wk<|Wq<|Wb<|Wq<|Wq ?_
    obtain ⟨fM,ds,dt⟩:=bdS dr;refine Wt (fun a w=>∃(bj:Bool),bj=fM/\Sat 169 [(5,pt wm.z),(7,pt wa.z),(8,sl aj nk cl),(10,vI ((aw:Nat):Int)),(143,vB bj)] a/\Below be.z be w) ?_ ?_
    ·refine Wd (X:=noX) 0 (pl_ 18 []) mo (by kernel_rfl) fun j7 a2 _=>dR z z (fd b_4 z) ?_
     have cP:=bf.e a2;refine dR z z (l0 P_ z<|cP.at z)<|dM z z z ?_
     obtain ⟨fO,fP,du⟩:=bdS ds;have cQ:=O.g<|bi.e a2
     refine dRX z z (at_ (α:=UInt8) p_ z_5 z z z cQ fP) ?_;rintro _ ⟨_,_,_,rfl,fQ,fR,_⟩;obtain rfl:=u8 fR;refine dR z z (l0 g_5 z<|fQ.at0 z)<|dR z z (fd a_R z) ?_
     refine dR z z (l0 P_ z<|((ht.c Y<|djs (or1 he aO (O_ (c_ a8.lt)<|lt_ G.s s3.s):∀k∈S2,k∉[wa.z])).e a2).at z) ?_;obtain ⟨fT,fU,bP⟩:=bdS du;refine dRX z z (at_ (α:=UInt8) p_ z_5 z z z (a6.g<|(((((h1.ag B).c G<|b_ cL).e s3).c s6<|b_ bg).c Y<|b_ bh).e a2) fU) ?_;rintro _ ⟨_,_,_,rfl,fV,fW,_⟩;obtain rfl:=u8 fW;refine dR z z (l0 g_5 z<|fV.at0 z)<|dR z z (eql z z)<|dM z z z ?_
     rcases bs ((byteI fO)==(byteI fT)) with hcf | hcf
     ·iterate 6 refine dRn z z z hcf z ?_
      exact dR z z (pT z hcf z)<|pD (fun _ q=>⟨true,som<|ifT bP hcf,q.k<|s5 z z z z z,a2⟩)
     refine dRg z z z hcf z (fd b_4 z)<|dRg z z z hcf z (l0 P_ z<|cP.at z)<|dRg z z z hcf z (mv z) ?_
     obtain ⟨fX,fY,dv⟩:=bdS<|ifF bP hcf;refine b_L z z z hcf z (at_ (α:=UInt8) p_ z_5 z z z cQ fY) ?_;rintro _ ⟨_,_,_,rfl,fZ,g0,_⟩;obtain rfl:=u8 g0;exact dRg z z z hcf z (l0 g_5 z<|fZ.at0 z)<|dRg z z z hcf z (eql z z)<|dR z z (pF z hcf z)<|pD (fun _ q=>⟨(byteI fX)==(byteI (92:UInt8)),som dv,q.k<|s5 z z z z z,a2⟩)
    rintro g1 wq ⟨bj,rfl,_,a3⟩;revert g1;refine Wo ?_;obtain ⟨g2,bQ,dw⟩:=bdS dt;refine Wt (fun a w=>∃(bk:List UInt8),bk=g2/\∃bm bn bo a9,Sat 169 [(5,pt wm.z),(7,pt wa.z),(8,sl bm bn bo),(10,vI ((aw:Nat):Int))] a/\Chg (· ∈ L) wq w/\a_ w a9 (sl bm bn bo) bk/\a9.Nodup/\(∀k∈a9,k∈L∨wq.z<=k)) ?_ ?_
    ·refine Wc z (fun aK=>?_)<|fun aK=>?_
     ·refine Wg<|Rm z<|E z (fS [(.const<|.int .u8 92)] a_9 z z z (a_c z) (lb z)<|lb z) ?_
      rintro _ cR ⟨rfl,bp⟩;have bq:=bp.below;have j8:=a_x bp<|k_H (x:=(92:UInt8)) z
      obtain ⟨g3,g4,dx⟩:=bdS<|ifT bQ aK;refine E z (a_O (α:=UInt8) a_9 g4 z z ((a0.e a3).e bq) a1 (bp.blk:Blk cR wq.z [(vU<|byteI (92:UInt8))]) (k_H (x:=(92:UInt8)) z) an_ G_) ?_;rintro _ g5 ⟨cS,g6,g7,g8,rfl,g9,ga,gb,gc⟩;refine Ra z<|Wl ?_
      exact fun _ q=>⟨g3,som dx,g6,g7,g8,cS,q.k<|s4 z z z z,(cM (f_ (cr L wq) bq:Chg (· ∈ L) wq cR) g9 (io sr):Chg (· ∈ L) wq g5),ga,gb,(or2 gc (io sr) an_ (s_ bq.s):∀k∈cS,k∈L∨wq.z<=k)⟩
     exact a_7<|fun _ q=>⟨xr,som<|ifF bQ aK,aj,nk,cl,L,q.k<|s4 z z z z,cr L wq,a0.e a3,a1,io sr⟩
    rintro ge cT ⟨bk,rfl,bm,bn,bo,a9,_,ax,gf,gg,gh⟩;revert ge;refine Wo<|Wg<|Rm z<|Rf z b_4 z ?_
    refine R z (l0 P_ z<|((bf.e a3).c ax<|djs (or1 hz cJ (O_ (c_ h5.lt)<|lt_ cI s6.s):∀k∈L,k∉[wm.z])).at z)<|Rm z ?_
    obtain ⟨gi,gj,dy⟩:=bdS dw;refine RX z (at_ (α:=UInt8) p_ z_5 z z z (O.g<|(bi.e a3).c ax<|b_ (or1 hz bh (k_<|zt' H<|lt_ cO s6.s):∀k∈L,¬B k)) gj) ?_;rintro _ ⟨_,_,_,rfl,gk,gl,_⟩;obtain rfl:=u8 gl;refine R z (l0 g_5 z<|gk.at0 z)<|E z (fS [(.tmp 152)] a_9 z z z (a_c z) (lb z)<|lb z) ?_
    rintro _ cU ⟨rfl,br⟩;have bt:=br.below;have j9:=a_x br b_c;obtain ⟨gm,gn,dz⟩:=bdS dy;refine E z (a_O (α:=UInt8) a_9 gn z z (gf.e bt) gg (br.blk:Blk cU cT.z [vU (byteI gi)]) b_c an_ G_) ?_;rintro _ gp ⟨cV,gq,gr,gs,rfl,gt,gu,gv,gw⟩;refine Rw z<|Wg<|Rm z<|R z (inc_ bO (lt_ (repS.len O) K_) z z)<|Ra z<|Wl ?_
    have cW:=lt_ Y.s a3.s;have cX:∀k∈L,k∈S2∨wb.z<=k:=or1 hz (io sr)<|s_ lr;have cY:∀k∈a9,k∈S2∨wb.z<=k:=or1 gh cX<|s_ cW;exact fun _ q=>⟨gm,(som dz).symm,⟨gq,gr,gs,cV,q.k<|s4 z z z z,(cM (f_ (cM (f_ (cM (cr S2 wb) Y (io sr):Chg (· ∈ S2) wb be) a3:Chg (· ∈ S2) wb wq) ax cX:Chg (· ∈ S2) wb cT) bt:Chg (· ∈ S2) wb cU) gt cY:Chg (· ∈ S2) wb gp),gu,gv,(or2 gw cY an_ (s_<|lt_ (lt_ cW ax.s) bt.s):∀k∈cV,k∈S2∨wb.z<=k)⟩⟩
   ·rintro xr _ gx ⟨aj,nk,cl,L,dA,bu,a0,a1,hz⟩;refine Wu ?_ dA;refine Wq<|Wm z<|Rf z b_4 z ?_
    have cZ:=lt_ h1.s G.s;have d0:=mm1 h5.lt cZ;refine R z (l0 P_ z<|(((((h5.e h1).c G<|djs<|mmr h5.lt).e s3).c s6<|djs d0).c bu<|djs (or1 he d0 (O_ (c_ h5.lt)<|lt_ cZ s3.s):∀k∈S2,k∉[wm.z])).at z) ?_;have d1:=lt_ J.s h4.s;have d2:=lt_ (lt_ d1 h1.s) G.s;have d3:∀k∈[I.z],¬B k:=or0 (c_ lr)<|k_<|zt' H d2;refine R z (lnR p_ z<|O.g<|((((hn.e h1).c G<|b_ (or0 (c_ lr) (k_<|zt' H d1):∀k∈[wa.z],¬B k)).e s3).c s6<|b_ d3).c bu<|b_ (or1 he d3 (k_<|zt' H<|lt_ d2 s3.s):∀k∈S2,¬B k))<|Rl z z z<|Wx z (fun hc=>(a_3 hc).elim) (fun _=>?_)
    exact We<|fun _ q=>⟨rfl,⟨aj,nk,cl,L,q.k<|s2 z z,(cM (cr S2 wb) bu (io sr):Chg (· ∈ S2) wb gx),a0,a1,(or1 hz (io sr) (s_ lr):∀k∈L,k∈S2∨wb.z<=k)⟩⟩
   ·rintro xr gy gz rfl ⟨aj,nk,cl,L,_,ay,a0,a1,hz⟩;have dB:=elL bN;revert gy;refine Wo<|Wm z<|Rf z a_R z ?_
    refine R z (l0 P_ z<|(ht.c ay<|djs (or1 he aO (O_ (c_ a8.lt)<|lt_ G.s s3.s):∀k∈S2,k∉[wa.z])).at z) ?_;obtain ⟨gA,gB,dC⟩:=bdS dB;have bv:=lt_ J.s h4.s;have bw:=lt_ (lt_ bv h1.s) G.s;have d4:∀k∈[I.z],¬B k:=or0 (c_ lr)<|k_<|zt' H bw;have bx:=lt_ bw s3.s;refine RX z (at_ (α:=UInt8) p_ z_5 z z z (a6.g<|((((h1.ag B).c G<|b_ (or0 (c_ lr) (k_<|zt' H bv):∀k∈[wa.z],¬B k)).e s3).c s6<|b_ d4).c ay<|b_ (or1 he d4 (k_<|zt' H bx):∀k∈S2,¬B k)) gB) ?_;rintro _ ⟨_,_,_,rfl,gC,gD,_⟩;obtain rfl:=u8 gD;refine R z (l0 g_5 z<|gC.at0 z)<|E z (fS [(.tmp 159)] a_9 z z z (a_c z) (lb z)<|lb z) ?_
    rintro _ gE ⟨rfl,bz⟩;have bA:=bz.below;have ja:=a_x bz b_c;obtain ⟨_,gF,dD⟩:=bdS dC;refine E z (a_O (α:=UInt8) a_9 gF z z (a0.e bA) a1 (bz.blk:Blk gE gz.z [vU (byteI gA)]) b_c an_ G_) ?_;rintro _ _ ⟨d5,gG,gH,gI,rfl,gJ,gK,gL,gM⟩;refine Rw z ?_
    obtain rfl:=som dD;have d6:=m1 bw;have d7:=a_i he d6 bx;have d8:=lt_ bx s6.s;have d9:=a_i hz d7 d8;exact Wr<|rtO<|h_ hr z ⟨bM (bup (bM (bM (bup (bM (bup (bup J h4) h1) G<|m1 bv) s3) s6 d6) ay d7) bA) gJ d9,gG,gH,gI,d5,z,gK,gL,(or2 gM d9 an_ (b_f<|lt_ (lt_ d8 ay.s) bA.s):∀k∈d5,w0.z<=k)⟩
   rintro _ _ _ _ rfl ⟨rfl,dF⟩;have dG:=elR bN;obtain rfl:=som dG;exact ⟨dF,z⟩
  have bR:=ifF bL aJ;refine Ws<|Rq z z z<|Rw z<|Wc z (fun aL=>?_) (fun aL=>?_)
  ·refine Ws<|E z (f0 (α:=UInt8) a_9) ?_
   rintro _ _ ⟨_,_,_,rfl,az,gN⟩;refine Rf z b_4 z<|R z (l0 P_ z<|(((((h5.e h1).c G<|djs<|mmr h5.lt).e s3).c s6<|djs<|mm1 h5.lt<|lt_ h1.s G.s).e az).at z) ?_
   obtain ⟨_,gO,dH⟩:=bdS<|ifT bR aL;have bB:=lt_ J.s h4.s;have bC:=lt_ (lt_ bB h1.s) G.s;refine E z (fN (α:=UInt8) a_9 gO z z gN a_k<|O.g<|((((hn.e h1).c G<|b_ (or0 (c_ lr) (k_<|zt' H bB):∀k∈[wa.z],¬B k)).e s3).c s6<|b_ (or0 (c_ lr) (k_<|zt' H bC):∀k∈[I.z],¬B k)).e az) ?_;rintro _ _ ⟨gP,gQ,gR,gS,rfl,gT,gU,gV,gW⟩;refine Rw z ?_
   obtain rfl:=som dH;have da:=lt_ (lt_ bC s3.s) s6.s;have db:=m1 da;exact Wr<|rtO<|h_ hr z ⟨bM (bup (bM (bup (bM (bup (bup J h4) h1) G<|m1 bB) s3) s6<|m1 bC) az) gT db,gQ,gR,gS,gP,z,gU,gV,a_i gW db<|lt_ da az.s⟩
  refine Wk<|Wm z<|Rw z ?_
  obtain rfl:=som<|ifF bR aL;have dc:=lt_ J.s h4.s;have dd:=lt_ (lt_ dc h1.s) G.s;have de:=m1 dd;exact Wr<|h_ hr z ⟨bM (bup (bM (bup (bup J h4) h1) G<|m1 dc) s3) s6 de,ah,ng,ci,S2,z,hd,hw,a_i he de<|lt_ dd s3.s⟩
 rintro _ _ _ _ rfl ⟨rfl,dI⟩;have dJ:=elR bD;obtain rfl:=som dJ;exact ⟨dI,z⟩
theorem A_w0a:∀n,k_V n
  | 0=>⟨fun hm=>by intros;exact nomatch (show none=some _ from hm)⟩
  | n+1=>T_w0a<|A_w0a n
theorem W_w0a:j_8 (d_v n).spec_l11Print:=A_w0a n
theorem e_M {x1:d_}{res:Int}(hm:d_p x1=some res)(J:B<=w0.z)(H:repS w0 B (sl A0 N0 C0) x1.rules):n_ prog 41 [(.agg #[sl A0 N0 C0])] w0 (Q9 w0 B res):=by
 unfold d_p at hm
 refine goG func41 z z z fun fn hr=>Ws<|E z (fb z) ?_
 rintro _ I ⟨rfl,G⟩;have h1:=G.below;refine Rw z<|Ws<|Rf z R_ z<|R z (l0 T_ z<|(G.blk:Blk I w0.z [sl A0 N0 C0]).at z)<|R z (lnR U_ z<|H.e h1)<|R z (sb_ z z)<|Rw z ?_
 obtain rfl:=som hm;exact Wr<|h_ hr z ⟨h1,z,iS _ _⟩
theorem j_9 {x1:Str}{res:Bool}(hm:e_i x1=some res)(a9:B<=w0.z)(Y:x1.b.length<=LEN):n_ prog 132 [Str.v x1] w0 (Q0 w0 B res):=by
 unfold e_i at hm
 refine goG func132 z z z fun fn hr=>Ws<|Rw z<|Wq<|Ws<|Rw z ?_
 obtain ⟨_,hus,hmc⟩:=bdS hm;refine Wf (σ:=Unit) (ρ:=Bool) (fun (k4:Nat)(_:Unit) a w=>Sat 45 [(0,Str.v x1),(3,vI ((k4:Nat):Int))] a/\Below w0.z w0 w) (fun (_:Unit) a w=>Sat 45 [(0,Str.v x1)] a/\Below w0.z w0 w) (rQ prog fn<|Q0 w0 B) hus ?_ ?_ ?_ ?_ ?_
 ·exact fun _ q=>⟨q.k<|s2 z z,br w0⟩
 ·rintro k4 _ _ O _ hkd ⟨hSt,se⟩ hmu;refine Wu ?_ hSt;refine Wq<|Wm z<|Rm z<|R z (lnT d_9 z)<|Rl z z z<|Wx z (fun _=>?_) (fun hc=>(a_2 hkd hc).elim)
  refine Wk<|Wq<|Wb<|Wq ?_
  obtain ⟨uv,huw,hmx⟩:=bdS hmu;refine Wt (fun a w=>∃(x5:Bool),x5=uv/\Sat 45 [(0,Str.v x1),(3,vI ((k4:Nat):Int)),(4,vB x5)] a/\Below O.z O w) ?_ ?_
  ·refine Wg<|RM z z ?_
   obtain ⟨xy,ef,hmg⟩:=bdS huw;refine R z (e_b d_9 z z (b_m ef).1 (b_m ef).2.1)<|R z (b_i z z)<|Rm z ?_
   rcases bs (decide<|(byteI (97:UInt8))<=(byteI xy)) with H | H
   ·refine Rh z H (mv z)<|Rh z H (mv z) ?_
    obtain ⟨xz,eh,a0⟩:=bdS<|ifT hmg H;exact Rh z H (e_b d_9 z z (b_m eh).1 (b_m eh).2.1)<|Rh z H (b_C z z)<|R z (pT z H z)<|Ra z<|Wl (fun _ q=>⟨decide<|(byteI xz)<=(byteI (122:UInt8)),som a0,q.k<|s3 z z z,br O⟩)
   iterate 4 refine Nh z H ?_
   exact R z (pF z H z)<|Ra z<|Wl (fun _ q=>⟨false,som<|ifF hmg H,q.k<|s3 z z z,br O⟩)
  rintro aa V ⟨x5,rfl,_,si⟩;revert aa;refine Wo<|Wq ?_
  obtain ⟨ab,a1,a2⟩:=bdS hmx;refine Wt (fun a w=>∃(W:Bool),W=ab/\Sat 45 [(0,Str.v x1),(3,vI ((k4:Nat):Int)),(4,vB x5),(5,vB W)] a/\Below V.z V w) ?_ ?_
  ·refine Wg<|RM z z ?_
   obtain ⟨ad,ej,hmk⟩:=bdS a1;refine R z (e_b d_9 z z (b_m ej).1 (b_m ej).2.1)<|R z (b_i z z)<|Rm z ?_
   rcases bs (decide<|(byteI (48:UInt8))<=(byteI ad)) with I | I
   ·refine Rh z I (mv z)<|Rh z I (mv z) ?_
    obtain ⟨ae,el,a3⟩:=bdS<|ifT hmk I;exact Rh z I (e_b d_9 z z (b_m el).1 (b_m el).2.1)<|Rh z I (b_C z z)<|R z (pT z I z)<|Ra z<|Wl (fun _ q=>⟨decide<|(byteI ae)<=(byteI (57:UInt8)),som a3,q.k<|s4 z z z z,br V⟩)
   iterate 4 refine Nh z I ?_
   exact R z (pF z I z)<|Ra z<|Wl (fun _ q=>⟨false,som<|ifF hmk I,q.k<|s4 z z z z,br V⟩)
  rintro af L ⟨W,rfl,_,sm⟩;revert af;refine Wo<|Wq ?_
  obtain ⟨ah,hun,hmo⟩:=bdS a2;refine Wt (fun a w=>∃(xa:Bool),xa=ah/\Sat 45 [(0,Str.v x1),(3,vI ((k4:Nat):Int)),(41,vB xa)] a/\Below L.z L w) ?_ ?_
  ·refine Wg<|Rm z<|R z (not_ z)<|Rm z ?_
   rcases bs (!x5) with G | G
   ·have hmp:=ifT hun G;refine Rh z G (mv z)<|Rh z G (not_ z)<|Rh z G (mv z) ?_
    rcases bs (!W) with J | J
    ·exact Nh z J<|Nh z J<|Rh z G (pT z J z)<|R z (pT z G z)<|Wl (fun _ q=>⟨true,som<|ifT hmp J,q.k<|s3 z z z,br L⟩)
    exact Rh z J (mv z)<|Rh z J (eql z z)<|Rh z G (pF z J z)<|R z (pT z G z)<|Wl (fun _ q=>⟨((k4:Nat):Int)==0,som<|ifF hmp J,q.k<|s3 z z z,br L⟩)
   iterate 3 refine Nh z G ?_
   exact Nv z<|Nv z<|Nh z G<|R z (pF z G z)<|Wl (fun _ q=>⟨false,som<|ifF hun G,q.k<|s3 z z z,br L⟩)
  rintro ai _ ⟨xa,rfl,_,sq⟩;revert ai;refine Wo<|Wc z (fun hcb=>?_) (fun hcb=>?_)
  ·exact Ws<|Rw z<|Wr<|rtO<|qL (som<|ifT hmo hcb).symm<|h_ hr z ⟨bup (bup (bup se si) sm) sq,z⟩
  exact Wk<|Wg<|Rm z<|R z (inc_ hkd (lt_ Y K_) z z)<|Ra z<|Wl (fun _ q=>⟨(),(som<|ifF hmo hcb).symm,⟨q.k<|s2 z z,bup (bup (bup se si) sm) sq⟩⟩)
 ·rintro _ _ _ ⟨a4,aj⟩;refine Wu ?_ a4;refine Wq<|Wm z<|Rm z<|R z (lnT d_9 z)<|Rl z z z<|Wx z (fun hc=>(a_3 hc).elim) (fun _=>?_)
  exact We<|fun _ q=>⟨rfl,⟨q.k<|s1 z,aj⟩⟩
 ·rintro _ ak _ rfl ⟨_,sr⟩;have a5:=elL hmc;revert ak;refine Wo<|Wm z<|R z (lnT d_9 z) ?_
  obtain ⟨_,al,a6⟩:=bdS a5;refine E z (fc call99 z<|b_h al (zt' a9 sr.s) (a_N Y) (ii z)<|ii z) ?_;rintro _ _ ⟨am,rfl⟩;refine Rw z ?_
  obtain rfl:=som a6;exact Wr<|h_ hr z ⟨bup sr am,z⟩
 rintro _ _ _ _ rfl ⟨rfl,a7⟩;have a8:=elR hmc;obtain rfl:=som a8;exact ⟨a7,z⟩
theorem d_b {x1:e_}{x2:Bool}{x3:Bool}{x4:Bool}{x5:Bool}{x6:Int}{res:Bool}(hm:c_a x1 x2 x3 x4 x5 x6=some res)(af:B<=w0.z)(aa:x1.name.b.length<=LEN)(ab:inI x1.kind)(ad:inI x1.size)(a1:repS w0 B (sl AB NB CB) x1.bytes)(a2:repS w0 B (sl A8 N8 C8) x1.names)(a3:repS w0 B (sl AC NC CC) x1.tags)(a4:repS w0 B (sl AD ND CD) x1.kids)(ae:inI x6):n_ prog 141 [(.agg #[Str.v x1.name,vI x1.kind,vI x1.size,vB x1.little,sl AB NB CB,sl A8 N8 C8,sl AC NC CC,sl AD ND CD]),vB x2,vB x3,vB x4,vB x5,vI x6] w0 (Q0 w0 B res):=by
 unfold c_a at hm
 refine goG func141 z z z fun fn hr=>Ws<|E z (fb z) ?_
 rintro _ wc ⟨rfl,hf⟩;have hd:=hf.below;have hb:Blk wc w0.z (vR x1 AB NB CB A8 N8 C8 AC NC CC AD ND CD):=hf.blk;refine Rw z<|Wq ?_
 obtain ⟨uw,hux,hmy⟩:=bdS hm;refine Wt (fun a w=>∃(xe:Bool),xe=uw/\Sat 67 [(12,vB xe)] a/\Below wc.z wc w) ?_ ?_
 ·refine Wg<|RM z z ?_
  obtain ⟨ug,huh,hmz⟩:=bdS hux;refine d_0 18 ug 4 ?_ ?_
  ·rcases bs x2 with a0 | a0
   ·iterate 3 refine Nh z a0 ?_
    exact R z (pT z a0 z)<|WLq 4 (ifT huh a0) z z z
   exact Rh z a0 (fd a_z z)<|Rh z a0 (l0 g_3 z<|hb.at z)<|Rh z a0 (eql z z)<|R z (pF z a0 z)<|WLq 4 (ifF huh a0) z z z
  refine Rm z ?_;obtain ⟨ui,huj,a5⟩:=bdS hmz;refine d_0 27 ui 8 ?_ ?_
  ·rcases bs ug with H | H
   ·have hmk:=ifT huj H;refine Rh z H (mv z)<|Rh z H (mv z) ?_
    rcases bs x3 with V | V
    ·iterate 4 refine Nh z V ?_
     exact Rh z H (pT z V z)<|R z (pT z H z)<|WLq 8 (ifT hmk V) z z z
    exact Rh z V (fd a_R z)<|Rh z V (l0 P_ z<|hb.at z)<|Rh z V (lnR p_ z<|a1.e hd)<|Rh z V (eql z z)<|Rh z H (pF z V z)<|R z (pT z H z)<|WLq 8 (ifF hmk V) z z z
   exact Nh z H<|Nh z H<|Nv z<|Nv z<|Nv z<|Nv z<|Nh z H<|R z (pF z H z)<|WLq 8 (ifF huj H) z z z
  refine Rm z ?_;obtain ⟨ul,hum,a6⟩:=bdS a5;refine d_0 36 ul 8 ?_ ?_
  ·rcases bs ui with I | I
   ·have hmn:=ifT hum I;refine Rh z I (mv z)<|Rh z I (mv z) ?_
    rcases bs x4 with W | W
    ·iterate 4 refine Nh z W ?_
     exact Rh z I (pT z W z)<|R z (pT z I z)<|WLq 8 (ifT hmn W) z z z
    exact Rh z W (fd c_2 z)<|Rh z W (l0 c_h z<|hb.at z)<|Rh z W (lnR a_j z<|a2.e hd)<|Rh z W (eql z z)<|Rh z I (pF z W z)<|R z (pT z I z)<|WLq 8 (ifF hmn W) z z z
   exact Nh z I<|Nh z I<|Nv z<|Nv z<|Nv z<|Nv z<|Nh z I<|R z (pF z I z)<|WLq 8 (ifF hum I) z z z
  refine Rm z ?_;obtain ⟨uo,hup,a7⟩:=bdS a6;refine d_0 45 uo 8 ?_ ?_
  ·rcases bs ul with J | J
   ·have hmq:=ifT hup J;refine Rh z J (mv z)<|Rh z J (mv z) ?_
    rcases bs x5 with Y | Y
    ·iterate 4 refine Nh z Y ?_
     exact Rh z J (pT z Y z)<|R z (pT z J z)<|WLq 8 (ifT hmq Y) z z z
    exact Rh z Y (fd a_S z)<|Rh z Y (l0 D_ z<|hb.at z)<|Rh z Y (lnR o_ z<|a3.e hd)<|Rh z Y (eql z z)<|Rh z J (pF z Y z)<|R z (pT z J z)<|WLq 8 (ifF hmq Y) z z z
   exact Nh z J<|Nh z J<|Nv z<|Nv z<|Nv z<|Nv z<|Nh z J<|R z (pF z J z)<|WLq 8 (ifF hup J) z z z
  refine Rm z ?_;obtain ⟨ur,hus,hmt⟩:=bdS a7;refine d_0 56 ur 10 ?_ ?_
  ·rcases bs uo with L | L
   ·have hmu:=ifT hus L;refine Rh z L (mv z)<|Rh z L (lss z z)<|Rh z L (mv z) ?_
    rcases bs (decide<|x6<0) with O | O
    ·iterate 5 refine Nh z O ?_
     exact Rh z L (pT z O z)<|R z (pT z L z)<|WLq 10 (ifT hmu O) z z z
    exact Rh z O (fd J_ z)<|Rh z O (l0 D_ z<|hb.at z)<|Rh z O (lnR o_ z<|a4.e hd)<|Rh z O (mv z)<|Rh z O (eql z z)<|Rh z L (pF z O z)<|R z (pT z L z)<|WLq 10 (ifF hmu O) z z z
   iterate 3 refine Nh z L ?_
   exact Nv z<|Nv z<|Nv z<|Nv z<|Nv z<|Nh z L<|R z (pF z L z)<|WLq 10 (ifF hus L) z z z
  refine Rm z ?_
  rcases bs ur with G | G
  ·have hmv:=ifT hmt G;refine Rh z G (fd c_L z)<|Rh z G (l0 g_4 z<|hb.at z)<|Rh z G (not_ z)<|Rh z G (mv z) ?_
   rcases bs (!x1.little) with hca | hca
   ·iterate 3 refine Nh z hca ?_
    exact Rh z G (pT z hca z)<|R z (pT z G z)<|Ra z<|Wl (fun _ q=>⟨true,som<|ifT hmv hca,q.k<|s1 z,br wc⟩)
   exact Rh z hca (fd a_n z)<|Rh z hca (l0 g_3 z<|hb.at z)<|Rh z hca (eql z z)<|Rh z G (pF z hca z)<|R z (pT z G z)<|Ra z<|Wl (fun _ q=>⟨x1.kind==1,som<|ifF hmv hca,q.k<|s1 z,br wc⟩)
  iterate 4 refine Nh z G ?_
  exact Nv z<|Nv z<|Nv z<|Nh z G<|R z (pF z G z)<|Ra z<|Wl (fun _ q=>⟨false,som<|ifF hmt G,q.k<|s1 z,br wc⟩)
 rintro a8 _ ⟨xe,rfl,_,a9⟩;revert a8;refine Wo ?_;obtain rfl:=som hmy;exact Wr<|h_ hr z ⟨bup hd a9,z⟩
theorem f_N {x1:d_}{x2:Int}{res:Int}(hm:d_o x1 x2=some res)(J:B<=w0.z)(I:repS w0 B (sl A0 N0 C0) x1.rules)(Y:inI x2):n_ prog 142 [(.agg #[sl A0 N0 C0]),vI x2] w0 (Q9 w0 B res):=by
 unfold d_o at hm
 refine goG func142 z z z fun fn hr=>Ws<|E z (fb z) ?_
 rintro _ O ⟨rfl,W⟩;have h2:=W.below;have h6:Blk O w0.z [sl A0 N0 C0]:=W.blk;refine Rw z<|Wq<|Wq ?_
 obtain ⟨uf,hug,hma⟩:=bdS hm;refine Wt (fun a w=>∃(V:Bool),V=uf/\Sat 39 [(1,vI x2),(2,pt w0.z),(30,vB V)] a/\Below O.z O w) ?_ ?_
 ·refine Wg<|Rm z<|Rf z R_ z<|R z (l0 T_ z<|h6.at z)<|R z (lnR U_ z<|I.e h2)<|R z (sb_ z z) ?_
  obtain ⟨rh,ei,hmb⟩:=bdS hug;refine E z (fc call99 z<|b_h ei (zt' J h2.s) Y (ii z)<|iS _ _) ?_;rintro _ _ ⟨s4,rfl⟩;refine R z (not_ z)<|Rm z ?_
  rcases bs (!rh) with H | H
  ·iterate 7 refine Nh z H ?_
   exact R z (pT z H z)<|Rm z<|Nh z z<|Nh z z<|Nh z z<|Nh z z<|Nh z z<|Nh z z<|Nh z z<|Nh z z<|R z (pT z z z)<|Wl (fun _ q=>⟨true,som<|ifT hmb H,q.k<|s3 z z z,s4⟩)
  refine Rh z H (fd R_ z) ?_;have hc:=h6.e s4;refine Rh z H (l0 T_ z<|hc.at z)<|Rh z H (mv z) ?_
  obtain ⟨xj,ek,hmd⟩:=bdS<|ifF hmb H;have he:=I.g<|(h2.ag B).e s4
  refine RXg z z H z (at_ (α:=e_) U_ m_ z z z he ek) ?_;rintro _ ⟨_,_,_,rfl,hl,hn,_⟩;obtain ⟨_,_,_,_,_,_,_,_,_,_,_,_,rfl,_,_,_,_,_,_,_⟩:=a_m hn;refine Rh z H (fd a_n z)<|Rh z H (l0 g_3 z<|hl.at (j:=1) z)<|Rh z H (nq z z)<|R z (pF z H z)<|Rm z ?_
  rcases bs (xj.kind != 1) with G | G
  ·iterate 8 refine Nh z G ?_
   exact R z (pT z G z)<|Wl (fun _ q=>⟨true,som<|ifT hmd G,q.k<|s3 z z z,s4⟩)
  refine Rh z G (fd R_ z)<|Rh z G (l0 T_ z<|hc.at z)<|Rh z G (mv z) ?_
  obtain ⟨_,em,hmo⟩:=bdS<|ifF hmd G;refine RXg z z G z (at_ (α:=e_) U_ m_ z z z he em) ?_;rintro _ ⟨_,_,_,rfl,hp,hq,_⟩;obtain ⟨_,_,_,_,_,_,_,_,_,_,_,_,rfl,_,_,ht,_,_,_,_⟩:=a_m hq;refine Rh z G (fd a_z z)<|Rh z G (l0 g_3 z<|hp.at (j:=2) z) ?_
  obtain ⟨rr,es,hmu⟩:=bdS hmo;refine Eg z z G z (fc call99 z<|b_h es (zt' J<|lt_ h2.s s4.s) ht (ii z)<|ii z) ?_;rintro _ _ ⟨sv,rfl⟩;exact Rh z G (not_ z)<|R z (pF z G z)<|Wl (fun _ q=>⟨!rr,som hmu,q.k<|s3 z z z,bup s4 sv⟩)
 rintro aw _ ⟨V,rfl,_,s5⟩;revert aw;refine Wo<|Wc z (fun L=>?_) (fun L=>?_)
 ·refine Ws<|Rw z ?_
  obtain rfl:=som<|ifT hma L;exact Wr<|h_ hr z ⟨bup h2 s5,z,ii z⟩
 refine Wk<|Ws<|Rf z R_ z<|R z (l0 T_ z<|(h6.e s5).at z)<|Rm z ?_
 obtain ⟨_,ex,hmy⟩:=bdS<|ifF hma L;refine RX z (at_ (α:=e_) U_ m_ z z z (I.g<|(h2.ag B).e s5) ex) ?_;rintro _ ⟨_,_,_,rfl,hz,a1,_⟩;obtain ⟨_,_,_,_,_,_,_,_,_,_,_,_,rfl,_,_,a2,_,_,_,_⟩:=a_m a1;refine Rf z a_z z<|R z (l0 g_3 z<|hz.at (j:=2) z) ?_
 obtain ⟨_,a3,a0⟩:=bdS hmy;refine E z (fc call35 z<|h_X a3 (zt' J<|lt_ h2.s s5.s) a2) ?_;rintro _ _ ⟨a4,rfl,_⟩;refine R z (sb_ z z)<|Rw z ?_
 obtain rfl:=som a0;exact Wr<|h_ hr z ⟨bup (bup h2 s5) a4,z,iS _ _⟩
theorem j_a {x1:List Str}{x2:Str}{res:Bool}(hm:d_N x1 x2=some res)(a0:B<=w0.z)(G:repS w0 B (sl A0 N0 C0) x1)(Y:x2.b.length<=LEN):n_ prog 9 [sl A0 N0 C0,Str.v x2] w0 (Q0 w0 B res):=by
 unfold d_N at hm
 refine goG func9 z z z fun fn hr=>Ws<|Rw z<|Wq<|Ws<|Rw z ?_
 obtain ⟨_,V,J⟩:=bdS hm;refine Wf (σ:=Unit) (ρ:=Bool) (fun (k3:Nat)(_:Unit) a w=>Sat 18 [(0,sl A0 N0 C0),(1,Str.v x2),(5,vI ((k3:Nat):Int))] a/\Below w0.z w0 w) (fun (_:Unit) a w=>Sat 18 [] a/\Below w0.z w0 w) (rQ prog fn<|Q0 w0 B) V ?_ ?_ ?_ ?_ ?_
 ·exact fun _ q=>⟨q.k<|s3 z z z,br w0⟩
 ·rintro k3 _ _ _ _ L ⟨W,I⟩ hma;refine Wu ?_ W;refine Wq<|Wm z<|Rm z ?_
  have h5:=G.e I;refine R z (lnR a_j z h5)<|Rl z z z<|Wx z (fun _=>?_) (fun hc=>(a_2 L hc).elim)
  refine Wk<|Wq<|Wb<|Wm z<|Rm z ?_
  obtain ⟨_,eb,O⟩:=bdS hma;refine RX z (at_ (α:=Str) a_j z_9 z z z h5 eb) ?_;rintro _ ⟨_,_,_,rfl,hd,he,_⟩;obtain ⟨rfl,_⟩:=b_K he;refine R z (l0 g_9 z<|hd.at0 z)<|Rm z<|R z (c_P z z)<|Wx z (fun H=>?_) (fun H=>?_)
  ·exact Ws<|Rw z<|Wr<|rtO<|qL (som<|ifT O H).symm<|h_ hr z ⟨I,z⟩
  exact Wk<|Wg<|Rm z<|R z (inc_ L (lt_ (repS.len G) K_) z z)<|Ra z<|Wl (fun _ q=>⟨(),(som<|ifF O H).symm,⟨q.k<|s3 z z z,I⟩⟩)
 ·rintro _ _ _ ⟨hSc,s7⟩;refine Wu ?_ hSc;refine Wq<|Wm z<|Rm z<|R z (lnR a_j z<|G.e s7)<|Rl z z z<|Wx z (fun hc=>(a_3 hc).elim) (fun _=>?_)
  exact We<|fun _ q=>⟨rfl,⟨q.k sn,s7⟩⟩
 ·rintro _ af _ rfl ⟨_,sg⟩;have hmh:=elL J;revert af;refine Wo<|Ws<|Rw z ?_
  obtain rfl:=som hmh;exact Wr<|h_ hr z ⟨sg,z⟩
 rintro _ _ _ _ rfl ⟨rfl,hqi⟩;have hmj:=elR J;obtain rfl:=som hmj;exact ⟨hqi,z⟩
theorem W_w25 {x1:List Str}{res:Bool}(hm:g_t x1=some res)(I:B<=w0.z)(H:repS w0 B (sl A0 N0 C0) x1):n_ prog 143 [sl A0 N0 C0] w0 (Q0 w0 B res):=by
 unfold g_t at hm
 refine goG func143 z z z fun fn hr=>Ws<|Rw z<|Wq<|Ws<|Rw z ?_
 obtain ⟨_,huj,L⟩:=bdS hm;refine Wf (σ:=Unit) (ρ:=Bool) (fun (k1:Nat)(_:Unit) a w=>Sat 29 [(0,sl A0 N0 C0),(3,vI ((k1:Nat):Int))] a/\Below w0.z w0 w) (fun (_:Unit) a w=>Sat 29 [(0,sl A0 N0 C0)] a/\Below w0.z w0 w) (rQ prog fn<|Q0 w0 B) huj ?_ ?_ ?_ ?_ ?_
 ·exact fun _ q=>⟨q.k<|s2 z z,br w0⟩
 ·rintro k1 _ _ O _ hka ⟨hSk,s4⟩ hml;refine Wu ?_ hSk;refine Wq<|Wm z<|Rm z<|R z (lnR a_j z<|H.e s4)<|Rl z z z<|Wx z (fun _=>?_) (fun hc=>(a_2 hka hc).elim)
  refine Wk<|Wq<|Wb<|Wq ?_
  obtain ⟨um,hun,hmb⟩:=bdS hml;refine Wt (fun a w=>∃(x2:Bool),x2=um/\Sat 29 [(0,sl A0 N0 C0),(3,vI ((k1:Nat):Int)),(25,vB x2)] a/\Below O.z O w) ?_ ?_
  ·refine Wd (X:=noX) 0 (pl_ 16 [4,14]) mo (by kernel_rfl) fun ae s5 _=>dM z z z<|dM z z z ?_
   obtain ⟨_,eo,hmp⟩:=bdS hun;have hd:=(s4.ag B).e s5;refine dRX z z (at_ (α:=Str) a_j z_9 z z z (H.g hd) eo) ?_;rintro _ ⟨_,_,_,rfl,hq,ht,_⟩;obtain ⟨rfl,hu⟩:=b_K ht;refine dR z z (l0 g_9 z<|hq.at0 z) ?_;have he:=lt_ s4.s s5.s;obtain ⟨rr,es,hmc⟩:=bdS hmp;refine dE z z (fc call132 z<|j_9 es (zt' I he) hu) (.inr fun _ _ h=>w_<|h.1) ?_;rintro _ _ ⟨s6,rfl⟩;refine dR z z (not_ z)<|dM z z z ?_
   rcases bs (!rr) with G | G
   ·iterate 7 refine dRn z z z G z ?_
    exact dEn z z z G z<|dR z z (pT z G z)<|pD (fun _ q=>⟨true,som<|ifT hmc G,q.k<|s3 z z z,bup s5 s6⟩)
   refine dRg z z z G z (mv z)<|dRg z z z G z (mv z) ?_
   obtain ⟨_,ev,hmw⟩:=bdS<|ifF hmc G;have hf:=H.g<|hd.e s6
   refine b_L z z z G z (rX a_j z_9 z z hf z z ev) ?_;rintro _ ⟨_,_,_,rfl,hx⟩;refine dRg z z z G z (mv z)<|dRg z z z G z (mv z) ?_
   obtain ⟨_,ey,hmz⟩:=bdS hmw;refine b_L z z z G z (at_ (α:=Str) a_j z_9 z z z hf ey) ?_;rintro _ ⟨_,_,_,rfl,a3,a4,_⟩;obtain ⟨rfl,a5⟩:=b_K a4;refine dRg z z z G z (l0 g_9 z<|a3.at0 z) ?_;obtain ⟨a6,a7,V⟩:=bdS hmz;refine dEg z z z G z (fc call9 z<|j_a a7 (zt' I<|lt_ he s6.s) hx a5) (.inr fun _ _ h=>w_<|h.1) ?_;rintro _ _ ⟨a8,rfl⟩;exact dR z z (pF z G z)<|pD (fun _ q=>⟨a6,som V,q.k<|s3 z z z,bup (bup s5 s6) a8⟩)
  rintro a9 _ ⟨x2,rfl,_,sg⟩;revert a9;refine Wo<|Wc z (fun J=>?_) (fun J=>?_)
  ·exact Ws<|Rw z<|Wr<|rtO<|qL (som<|ifT hmb J).symm<|h_ hr z ⟨bup s4 sg,z⟩
  exact Wk<|Wg<|Rm z<|R z (inc_ hka (lt_ (repS.len H) K_) z z)<|Ra z<|Wl (fun _ q=>⟨(),(som<|ifF hmb J).symm,⟨q.k<|s2 z z,bup s4 sg⟩⟩)
 ·rintro _ _ _ ⟨W,sh⟩;refine Wu ?_ W;refine Wq<|Wm z<|Rm z<|R z (lnR a_j z<|H.e sh)<|Rl z z z<|Wx z (fun hc=>(a_3 hc).elim) (fun _=>?_)
  exact We<|fun _ q=>⟨rfl,⟨q.k<|s1 z,sh⟩⟩
 ·rintro _ aa _ rfl ⟨_,s7⟩;have Y:=elL L;revert aa;refine Wo<|Wm z ?_
  have hi:=H.e s7;refine R z (lnR a_j z hi) ?_;obtain ⟨_,ab,a0⟩:=bdS Y;refine E z (fc call99 z<|b_h ab (zt' I s7.s) (a_N<|repS.len hi) (ii z)<|ii z) ?_;rintro _ _ ⟨ad,rfl⟩;refine Rw z ?_
  obtain rfl:=som a0;exact Wr<|h_ hr z ⟨bup s7 ad,z⟩
 rintro _ _ _ _ rfl ⟨rfl,a1⟩;have a2:=elR L;obtain rfl:=som a2;exact ⟨a1,z⟩
theorem W_w26 {x1:d_}{x2:e_}{res:Bool}(hm:g_u x1 x2=some res)(O:B<=w0.z)(a2:repS w0 B (sl A0 N0 C0) x1.rules)(aO:x2.name.b.length<=LEN)(aP:inI x2.kind)(aQ:inI x2.size)(aR:repS w0 B (sl A2 N2 C2) x2.bytes)(aS:repS w0 B (sl A3 N3 C3) x2.names)(J:repS w0 B (sl A1 N1 C1) x2.tags)(V:repS w0 B (sl A4 N4 C4) x2.kids):n_ prog 144 [(.agg #[sl A0 N0 C0]),(.agg #[Str.v x2.name,vI x2.kind,vI x2.size,vB x2.little,sl A2 N2 C2,sl A3 N3 C3,sl A1 N1 C1,sl A4 N4 C4])] w0 (Q0 w0 B res):=by
 unfold g_u at hm
 refine goG func144 z z z fun fn hr=>Ws<|E z (fb z) ?_
 rintro _ L ⟨rfl,hn⟩;have h4:=hn.below;refine E z (fb z) ?_;rintro _ wd ⟨rfl,ho⟩;have h3:=ho.below;have ha:Blk wd L.z (vR x2 A2 N2 C2 A3 N3 C3 A1 N1 C1 A4 N4 C4):=ho.blk;refine Rw z<|Wq<|Wq ?_
 obtain ⟨aj,hup,hmq⟩:=bdS hm;refine Wt (fun a w=>∃(xg:Bool),xg=aj/\Sat 59 [(2,pt w0.z),(3,pt L.z),(20,vB xg)] a/\Below wd.z wd w) ?_ ?_
 ·refine Wg<|Rf z J_ z<|R z (l0 D_ z<|ha.at z) ?_
  have ht:=(h4.ag B).e h3;refine R z (lnR o_ z<|V.g ht)<|Rf z a_S z<|R z (l0 D_ z<|ha.at z) ?_
  have hh:=J.g ht;refine R z (lnR o_ z hh)<|R z (add_ z z)<|R z (nq z z)<|Rm z ?_
  rcases bs ((x2.kids.length:Int) != (g_ (x2.tags.length:Int) 1)) with I | I
  ·iterate 5 refine Nh z I ?_
   exact R z (pT z I z)<|Wl (fun _ q=>⟨true,som<|ifT hup I,q.k<|s3 z z z,br wd⟩)
  refine Rh z I (fd a_S z)<|Rh z I (l0 D_ z<|ha.at z)<|Rh z I (lnR o_ z hh) ?_
  obtain ⟨ak,al,a3⟩:=bdS<|ifF hup I;refine Eg z z I z (fc call99 z<|b_h al (zt' O<|lt_ h4.s h3.s) (a_N<|repS.len hh) (ii z)<|ii z) ?_;rintro _ _ ⟨am,rfl⟩;exact Rh z I (not_ z)<|R z (pF z I z)<|Wl (fun _ q=>⟨!ak,som a3,q.k<|s3 z z z,am⟩)
 rintro an wb ⟨xg,rfl,_,s5⟩;revert an;refine Wo<|Wc z (fun hci=>?_) (fun hci=>?_)
 ·refine Ws<|Rw z ?_
  obtain rfl:=som<|ifT hmq hci;exact Wr<|h_ hr z ⟨bup (bup h4 h3) s5,z⟩
 refine Wk<|Wq<|Ws<|Rw z ?_
 obtain ⟨_,a4,hmr⟩:=bdS<|ifF hmq hci;refine Wf (σ:=Unit) (ρ:=Bool) (fun (ke:Nat)(_:Unit) a w=>Sat 59 [(2,pt w0.z),(3,pt L.z),(5,vI ((ke:Nat):Int))] a/\Below wb.z wb w) (fun (_:Unit) a w=>Sat 59 [] a/\Below wb.z wb w) (rQ prog fn<|Q0 w0 B) a4 ?_ ?_ ?_ ?_ ?_
 ·exact fun _ q=>⟨q.k<|s3 z z z,br wb⟩
 ·rintro ke _ _ ws _ hku ⟨a5,s7⟩ a6;refine Wu ?_ a5;refine Wq<|Wm z<|Rf z a_S z ?_
  have hv:=(ha.e s5).e s7;refine R z (l0 D_ z<|hv.at z) ?_;have hw:=(((h4.ag B).e h3).e s5).e s7;refine R z (lnR o_ z<|J.g hw)<|Rl z z z<|Wx z (fun _=>?_) (fun hc=>(a_2 hku hc).elim)
  refine Wk<|Wq<|Wb<|Wq ?_
  obtain ⟨ao,a7,hmx⟩:=bdS a6;refine Wt (fun a w=>∃(xj:Bool),xj=ao/\Sat 59 [(2,pt w0.z),(3,pt L.z),(5,vI ((ke:Nat):Int)),(58,vB xj)] a/\Below ws.z ws w) ?_ ?_
  ·refine Wd (X:=noX) 0 (pl_ 31 [10,11]) mo (by kernel_rfl) fun aT s6 _=>dR z z (fd a_S z) ?_
   have hk:=hv.e s6;refine dR z z (l0 D_ z<|hk.at z)<|dM z z z ?_
   obtain ⟨_,ap,a8⟩:=bdS a7;have hf:=hw.e s6;refine dRX z z (at_ (α:=Int) o_ z_3 z z z (J.g hf) ap) ?_;rintro _ ⟨_,_,_,rfl,aq,ar,_⟩;obtain ⟨rfl,au⟩:=M_ ar;refine dR z z (l0 g_3 z<|aq.at0 z)<|dR z z (lN (vs:=[sl A0 N0 C0]) t_ q_ z z fid<|(((((hn.blk:Blk L w0.z [sl A0 N0 C0]).e h3).e s5).e s7).e s6).row 0 1 z)<|dR z z (fd J_ z)<|dR z z (l0 D_ z<|hk.at z) ?_
   obtain ⟨_,av,a9⟩:=bdS a8;refine dRX z z (at_ (α:=Int) o_ z_3 z z z (V.g hf) av) ?_;rintro _ ⟨_,_,_,rfl,aw,ax,_⟩;obtain ⟨rfl,ay⟩:=M_ ax;refine dR z z (l0 g_3 z<|aw.at0 z) ?_;have hy:=lt_ (lt_ (lt_ (lt_ h4.s h3.s) s5.s) s7.s) s6.s;obtain ⟨_,az,aa⟩:=bdS a9;refine dE z z (fc call142 z<|f_N az (zt' O hy) (a2.g hf) ay) (.inr fun _ _ h=>w_<|h.1) ?_;rintro _ _ ⟨s8,rfl,aA⟩;obtain ⟨aB,aC,hmz⟩:=bdS aa;refine dE z z (fc call99 z<|b_h aC (zt' O<|lt_ hy s8.s) au (ii z) aA) (.inr fun _ _ h=>w_<|h.1) ?_;rintro _ _ ⟨sc,rfl⟩;refine dR z z (not_ z)<|dM z z z ?_
   rcases bs (!aB) with H | H
   ·iterate 3 refine dRn z z z H z ?_
    iterate 12 refine dRu z z z z ?_
    exact dRn z z z H z<|dR z z (pT z H z)<|pD (fun _ q=>⟨true,som<|ifT hmz H,q.k<|s4 z z z z,bup (bup s6 s8) sc⟩)
   have W:=ifF hmz H;refine dRg z z z H z (mv z)<|dRg z z z H z (a_e z z)<|dRg z z z H z (mv z) ?_
   rcases bs (decide<|0<((ke:Nat):Int)) with G | G
   ·refine dRg z z z G z (fd a_S z) ?_;have Y:=(hk.e s8).e sc;refine dRg z z z G z (l0 D_ z<|Y.at z)<|dRg z z z G z (mv z)<|dRg z z z G z (sb_ z z) ?_
    obtain ⟨aD,aE,ab⟩:=bdS<|ifT W G;have a0:=J.g<|(hf.e s8).e sc
    refine b_L z z z G z (at_ (α:=Int) o_ z_3 z z z a0 aE) ?_;rintro _ ⟨_,_,_,rfl,aF,aG,_⟩;obtain ⟨rfl,_⟩:=M_ aG;refine dRg z z z G z (l0 g_3 z<|aF.at0 z)<|dRg z z z G z (fd a_S z)<|dRg z z z G z (l0 D_ z<|Y.at z)<|dRg z z z G z (mv z) ?_
    obtain ⟨aH,aI,ad⟩:=bdS ab;refine b_L z z z G z (at_ (α:=Int) o_ z_3 z z z a0 aI) ?_;rintro _ ⟨_,_,_,rfl,aJ,aK,_⟩;obtain ⟨rfl,_⟩:=M_ aK;exact dRg z z z G z (l0 g_3 z<|aJ.at0 z)<|dRg z z z G z (b_i z z)<|dRg z z z H z (pT z G z)<|dR z z (pF z H z)<|pD (fun _ q=>⟨decide<|aH<=aD,som ad,q.k<|s4 z z z z,bup (bup s6 s8) sc⟩)
   iterate 12 refine dRn z z z G z ?_
   exact dRg z z z H z (pF z G z)<|dR z z (pF z H z)<|pD (fun _ q=>⟨false,som<|ifF W G,q.k<|s4 z z z z,bup (bup s6 s8) sc⟩)
  rintro aL _ ⟨xj,rfl,_,a1⟩;revert aL;refine Wo<|Wc z (fun hcl=>?_) (fun hcl=>?_)
  ·exact Ws<|Rw z<|Wr<|rtO<|qL (som<|ifT hmx hcl).symm<|h_ hr z ⟨bup (bup (bup (bup h4 h3) s5) s7) a1,z⟩
  exact Wk<|Wg<|Rm z<|R z (inc_ hku (lt_ (repS.len J) K_) z z)<|Ra z<|Wl (fun _ q=>⟨(),(som<|ifF hmx hcl).symm,⟨q.k<|s3 z z z,bup s7 a1⟩⟩)
 ·rintro _ _ _ ⟨ae,sm⟩;refine Wu ?_ ae;refine Wq<|Wm z<|Rf z a_S z<|R z (l0 D_ z<|((ha.e s5).e sm).at z)<|R z (lnR o_ z<|J.g<|(((h4.ag B).e h3).e s5).e sm)<|Rl z z z<|Wx z (fun hc=>(a_3 hc).elim) (fun _=>?_)
  exact We<|fun _ q=>⟨rfl,⟨q.k sn,sm⟩⟩
 ·rintro _ aM _ rfl ⟨_,aN⟩;have af:=elL hmr;revert aM;refine Wo<|Ws<|Rw z ?_
  obtain rfl:=som af;exact Wr<|h_ hr z ⟨bup (bup (bup h4 h3) s5) aN,z⟩
 rintro _ _ _ _ rfl ⟨rfl,ah⟩;have ai:=elR hmr;obtain rfl:=som ai;exact ⟨ah,z⟩
theorem W_w27 {x1:d_}{x2:e_}{res:Bool}(hm:g_v x1 x2=some res)(I:B<=w0.z)(a8:repS w0 B (sl A0 N0 C0) x1.rules)(a2:x2.name.b.length<=LEN)(a3:inI x2.kind)(V:inI x2.size)(W:repS w0 B (sl A2 N2 C2) x2.bytes)(a0:repS w0 B (sl A3 N3 C3) x2.names)(a4:repS w0 B (sl A1 N1 C1) x2.tags)(Y:repS w0 B (sl A4 N4 C4) x2.kids):n_ prog 134 [(.agg #[sl A0 N0 C0]),(.agg #[Str.v x2.name,vI x2.kind,vI x2.size,vB x2.little,sl A2 N2 C2,sl A3 N3 C3,sl A1 N1 C1,sl A4 N4 C4])] w0 (Q0 w0 B res):=by
 unfold g_v at hm
 refine goG func134 z z z fun fn hr=>Ws<|E z (fb z) ?_
 rintro _ al ⟨rfl,aT⟩;have h1:=aT.below;have am:Blk al w0.z [sl A0 N0 C0]:=aT.blk;refine E z (fb z) ?_;rintro _ H ⟨rfl,aU⟩;have G:=aU.below;have h3:Blk H al.z (vR x2 A2 N2 C2 A3 N3 C3 A1 N1 C1 A4 N4 C4):=aU.blk;refine Rw z<|Wq<|Ws<|Rf z a_n z<|R z (l0 g_3 z<|h3.at z)<|Wn<|Wb<|Ws<|Rq z z z<|Rw z<|Wc z (fun a9=>?_) (fun a9=>?_)
 ·refine Wq ?_;obtain ⟨bI,be,bf⟩:=bdS<|ifT hm a9;refine Wt (fun a w=>∃(an:Bool),an=bI/\Sat 114 [(4,vB an)] a/\Below H.z H w) ?_ ?_
  ·refine Wg<|R z (lN (vs:=vR x2 A2 N2 C2 A3 N3 C3 A1 N1 C1 A4 N4 C4) I_ m_ z z fid<|h3.row 0 8 z) ?_
   have hw:=(h1.ag B).e G;have aV:=lt_ h1.s G.s;obtain ⟨bJ,bK,az⟩:=bdS be;refine E z (fc call141 z<|d_b bK (zt' I aV) a2 a3 V (W.g hw) (a0.g hw) (a4.g hw) (Y.g hw)<|ii z) ?_;rintro _ _ ⟨sg,rfl⟩;refine Rm z ?_
   rcases bs bJ with hca | hca
   ·refine Rh z hca (fd a_z z) ?_;have aW:=h3.e sg;refine Rh z hca (l0 g_3 z<|aW.at z) ?_;obtain ⟨bL,bM,aA⟩:=bdS<|ifT az hca;refine Eg z z hca z (fc call99 z<|b_h bM (zt' I<|lt_ aV sg.s) V (ii z)<|ii z) ?_;rintro _ _ ⟨sx,rfl⟩;refine R z (pT z hca z)<|Rm z ?_
    rcases bs bL with O | O
    ·have aB:=ifT aA O;refine Rh z O (fd c_L z) ?_;have aX:=aW.e sx;refine Rh z O (l0 g_4 z<|aX.at z)<|Rh z O (not_ z)<|Rh z O (mv z) ?_
     rcases bs (!x2.little) with hcb | hcb
     ·iterate 3 refine Nh z hcb ?_
      exact Rh z O (pT z hcb z)<|R z (pT z O z)<|Ra z<|Wl (fun _ q=>⟨true,som<|ifT aB hcb,q.k<|s1 z,bup sg sx⟩)
     exact Rh z hcb (fd a_z z)<|Rh z hcb (l0 g_3 z<|aX.at z)<|Rh z hcb (a_e z z)<|Rh z O (pF z hcb z)<|R z (pT z O z)<|Ra z<|Wl (fun _ q=>⟨decide<|1<x2.size,som<|ifF aB hcb,q.k<|s1 z,bup sg sx⟩)
    iterate 4 refine Nh z O ?_
    exact Nv z<|Nv z<|Nv z<|Nh z O<|R z (pF z O z)<|Ra z<|Wl (fun _ q=>⟨false,som<|ifF aA O,q.k<|s1 z,bup sg sx⟩)
   iterate 3 refine Nh z hca ?_
   exact R z (pF z hca z)<|Rm z<|Nh z z<|Nh z z<|Nh z z<|Nh z z<|Nv z<|Nv z<|Nv z<|Nh z z<|R z (pF z z z)<|Ra z<|Wl (fun _ q=>⟨false,som<|ifF az hca,q.k<|s1 z,sg⟩)
  rintro bN _ ⟨an,rfl,_,bO⟩;revert bN;refine Wo ?_;obtain rfl:=som bf;exact Wr<|rtO<|h_ hr z ⟨bup (bup h1 G) bO,z⟩
 have aC:=ifF hm a9;refine Ws<|Rq z z z<|Rw z<|Wc z (fun aa=>?_) (fun aa=>?_)
 ·refine Wq ?_;obtain ⟨bP,bg,bh⟩:=bdS<|ifT aC aa;refine Wt (fun a w=>∃(ao:Bool),ao=bP/\Sat 114 [(4,vB ao)] a/\Below H.z H w) ?_ ?_
  ·refine Wg<|R z (lN (vs:=vR x2 A2 N2 C2 A3 N3 C3 A1 N1 C1 A4 N4 C4) I_ m_ z z fid<|h3.row 0 8 z) ?_
   have hl:=(h1.ag B).e G;have aY:=lt_ h1.s G.s;obtain ⟨bQ,bR,aD⟩:=bdS bg;refine E z (fc call141 z<|d_b bR (zt' I aY) a2 a3 V (W.g hl) (a0.g hl) (a4.g hl) (Y.g hl)<|ii z) ?_;rintro _ _ ⟨sn,rfl⟩;refine Rm z ?_
   rcases bs bQ with a5 | a5
   ·refine Rh z a5 (fd a_R z)<|Rh z a5 (l0 P_ z<|(h3.e sn).at z) ?_
    have aZ:=W.g<|hl.e sn
    refine Rh z a5 (lnR p_ z aZ) ?_;obtain ⟨bS,bT,bi⟩:=bdS<|ifT aD a5;refine Eg z z a5 z (fc call99 z<|b_h bT (zt' I<|lt_ aY sn.s) (a_N<|repS.len aZ) (ii z)<|ii z) ?_;rintro _ _ ⟨bU,rfl⟩;exact R z (pT z a5 z)<|Ra z<|Wl (fun _ q=>⟨bS,som bi,q.k<|s1 z,bup sn bU⟩)
   iterate 4 refine Nh z a5 ?_
   exact R z (pF z a5 z)<|Ra z<|Wl (fun _ q=>⟨false,som<|ifF aD a5,q.k<|s1 z,sn⟩)
  rintro bV _ ⟨ao,rfl,_,bW⟩;revert bV;refine Wo ?_;obtain rfl:=som bh;exact Wr<|rtO<|h_ hr z ⟨bup (bup h1 G) bW,z⟩
 have aE:=ifF aC aa;refine Ws<|Rq z z z<|Rw z<|Wc z (fun ab=>?_) (fun ab=>?_)
 ·refine Wq ?_;obtain ⟨bX,bj,bk⟩:=bdS<|ifT aE ab;refine Wt (fun a w=>∃(ap:Bool),ap=bX/\Sat 114 [(4,vB ap)] a/\Below H.z H w) ?_ ?_
  ·refine Wg<|R z (lN (vs:=vR x2 A2 N2 C2 A3 N3 C3 A1 N1 C1 A4 N4 C4) I_ m_ z z fid<|h3.row 0 8 z) ?_
   have hy:=(h1.ag B).e G;have b0:=lt_ h1.s G.s;obtain ⟨bY,bZ,aF⟩:=bdS bj;refine E z (fc call141 z<|d_b bZ (zt' I b0) a2 a3 V (W.g hy) (a0.g hy) (a4.g hy) (Y.g hy)<|ii z) ?_;rintro _ _ ⟨sz,rfl⟩;refine Rm z ?_
   rcases bs bY with hcc | hcc
   ·refine Rh z hcc (fd a_z z)<|Rh z hcc (l0 g_3 z<|(h3.e sz).at z) ?_
    obtain ⟨c0,c1,bm⟩:=bdS<|ifT aF hcc;refine Eg z z hcc z (fc call99 z<|b_h c1 (zt' I<|lt_ b0 sz.s) V (ii z)<|ii z) ?_;rintro _ _ ⟨c2,rfl⟩;exact R z (pT z hcc z)<|Ra z<|Wl (fun _ q=>⟨c0,som bm,q.k<|s1 z,bup sz c2⟩)
   iterate 3 refine Nh z hcc ?_
   exact R z (pF z hcc z)<|Ra z<|Wl (fun _ q=>⟨false,som<|ifF aF hcc,q.k<|s1 z,sz⟩)
  rintro c3 _ ⟨ap,rfl,_,c4⟩;revert c3;refine Wo ?_;obtain rfl:=som bk;exact Wr<|rtO<|h_ hr z ⟨bup (bup h1 G) c4,z⟩
 have aG:=ifF aE ab;refine Ws<|Rq z z z<|Rw z<|Wc z (fun ad=>?_) (fun ad=>?_)
 ·refine Wq ?_;obtain ⟨c5,bn,bo⟩:=bdS<|ifT aG ad;refine Wt (fun a w=>∃(aq:Bool),aq=c5/\Sat 114 [(4,vB aq)] a/\Below H.z H w) ?_ ?_
  ·refine Wd (X:=noX) 0 (pl_ 12 [1,8]) mo (by kernel_rfl) fun cX sh _=>?_
   have b1:=h3.e sh;refine dR z z (lN (vs:=vR x2 A2 N2 C2 A3 N3 C3 A1 N1 C1 A4 N4 C4) I_ m_ z z fid<|b1.row 0 8 z) ?_;have ho:=((h1.ag B).e G).e sh;have b2:=lt_ (lt_ h1.s G.s) sh.s;obtain ⟨c6,c7,aH⟩:=bdS bn;refine dE z z (fc call141 z<|d_b c7 (zt' I b2) a2 a3 V (W.g ho) (a0.g ho) (a4.g ho) (Y.g ho)<|ii z) (.inr fun _ _ h=>w_<|h.1) ?_;rintro _ _ ⟨si,rfl⟩;refine dM z z z ?_
   rcases bs c6 with J | J
   ·refine dRg z z z J z (lN (vs:=[sl A0 N0 C0]) t_ q_ z z fid<|(((am.e G).e sh).e si).row 0 1 z)<|dRg z z z J z (fd J_ z)<|dRg z z z J z (l0 D_ z<|(b1.e si).at z) ?_
    obtain ⟨_,c8,bp⟩:=bdS<|ifT aH J;have b3:=ho.e si;refine b_L z z z J z (at_ (α:=Int) o_ z_3 z z z (Y.g b3) c8) ?_;rintro _ ⟨_,_,_,rfl,c9,ca,_⟩;obtain ⟨rfl,cb⟩:=M_ ca;refine dRg z z z J z (l0 g_3 z<|c9.at0 z) ?_;obtain ⟨cc,cd,bq⟩:=bdS bp;refine dEg z z z J z (fc call142 z<|f_N cd (zt' I<|lt_ b2 si.s) (a8.g b3) cb) (.inr fun _ _ h=>w_<|h.1) ?_;rintro _ _ ⟨ce,rfl,_⟩;exact dRg z z z J z (a_e z z)<|dR z z (pT z J z)<|dQ z z z<|pD (fun _ q=>⟨decide<|0<cc,som bq,q.k<|s1 z,bup (bup sh si) ce⟩)
   iterate 5 refine dRn z z z J z ?_
   exact dEn z z z J z<|dRn z z z J z<|dR z z (pF z J z)<|dQ z z z<|pD (fun _ q=>⟨false,som<|ifF aH J,q.k<|s1 z,bup sh si⟩)
  rintro cf _ ⟨aq,rfl,_,cg⟩;revert cf;refine Wo ?_;obtain rfl:=som bo;exact Wr<|rtO<|h_ hr z ⟨bup (bup h1 G) cg,z⟩
 have aI:=ifF aG ad;refine Ws<|Rq z z z<|Rw z<|Wc z (fun ae=>?_) (fun ae=>?_)
 ·refine Wq ?_;obtain ⟨ch,bt,bu⟩:=bdS<|ifT aI ae;refine Wt (fun a w=>∃(ar:Bool),ar=ch/\Sat 114 [(4,vB ar)] a/\Below H.z H w) ?_ ?_
  ·refine Wd (X:=noX) 0 (pl_ 12 [1,8]) mo (by kernel_rfl) fun cY sj _=>?_
   have b4:=h3.e sj;refine dR z z (lN (vs:=vR x2 A2 N2 C2 A3 N3 C3 A1 N1 C1 A4 N4 C4) I_ m_ z z fid<|b4.row 0 8 z) ?_;have hp:=((h1.ag B).e G).e sj;have b5:=lt_ (lt_ h1.s G.s) sj.s;obtain ⟨ci,cj,aJ⟩:=bdS bt;refine dE z z (fc call141 z<|d_b cj (zt' I b5) a2 a3 V (W.g hp) (a0.g hp) (a4.g hp) (Y.g hp)<|ii z) (.inr fun _ _ h=>w_<|h.1) ?_;rintro _ _ ⟨sk,rfl⟩;refine dM z z z ?_
   rcases bs ci with L | L
   ·refine dRg z z z L z (lN (vs:=[sl A0 N0 C0]) t_ q_ z z fid<|(((am.e G).e sj).e sk).row 0 1 z)<|dRg z z z L z (fd J_ z)<|dRg z z z L z (l0 D_ z<|(b4.e sk).at z) ?_
    obtain ⟨_,ck,bv⟩:=bdS<|ifT aJ L;have b6:=hp.e sk;refine b_L z z z L z (at_ (α:=Int) o_ z_3 z z z (Y.g b6) ck) ?_;rintro _ ⟨_,_,_,rfl,cl,cm,_⟩;obtain ⟨rfl,cn⟩:=M_ cm;refine dRg z z z L z (l0 g_3 z<|cl.at0 z) ?_;obtain ⟨co,cp,bw⟩:=bdS bv;refine dEg z z z L z (fc call142 z<|f_N cp (zt' I<|lt_ b5 sk.s) (a8.g b6) cn) (.inr fun _ _ h=>w_<|h.1) ?_;rintro _ _ ⟨cq,rfl,_⟩;exact dRg z z z L z (a_e z z)<|dR z z (pT z L z)<|dQ z z z<|pD (fun _ q=>⟨decide<|0<co,som bw,q.k<|s1 z,bup (bup sj sk) cq⟩)
   iterate 5 refine dRn z z z L z ?_
   exact dEn z z z L z<|dRn z z z L z<|dR z z (pF z L z)<|dQ z z z<|pD (fun _ q=>⟨false,som<|ifF aJ L,q.k<|s1 z,bup sj sk⟩)
  rintro cr _ ⟨ar,rfl,_,ct⟩;revert cr;refine Wo ?_;obtain rfl:=som bu;exact Wr<|rtO<|h_ hr z ⟨bup (bup h1 G) ct,z⟩
 have aK:=ifF aI ae;refine Ws<|Rq z z z<|Rw z<|Wc z (fun af=>?_) (fun af=>?_)
 ·refine Wq ?_;obtain ⟨cu,bx,bz⟩:=bdS<|ifT aK af;refine Wt (fun a w=>∃(au:Bool),au=cu/\Sat 114 [(4,vB au)] a/\Below H.z H w) ?_ ?_
  ·refine Wg<|R z (lN (vs:=vR x2 A2 N2 C2 A3 N3 C3 A1 N1 C1 A4 N4 C4) I_ m_ z z fid<|h3.row 0 8 z)<|Rf z c_2 z<|R z (l0 c_h z<|h3.at z) ?_
   have hq:=(h1.ag B).e G;have av:=a0.g hq;refine R z (lnR a_j z av) ?_;have b7:=lt_ h1.s G.s;obtain ⟨cv,cw,aL⟩:=bdS bx;refine E z (fc call141 z<|d_b cw (zt' I b7) a2 a3 V (W.g hq) av (a4.g hq) (Y.g hq)<|a_N<|repS.len av) ?_;rintro _ _ ⟨sr,rfl⟩;refine Rm z ?_
   rcases bs cv with hcd | hcd
   ·refine Rh z hcd (fd c_2 z)<|Rh z hcd (l0 c_h z<|(h3.e sr).at z) ?_
    obtain ⟨cx,cy,bA⟩:=bdS<|ifT aL hcd;refine Eg z z hcd z (fc call143 z<|W_w25 cy (zt' I<|lt_ b7 sr.s)<|a0.g<|hq.e sr) ?_;rintro _ _ ⟨cz,rfl⟩;exact R z (pT z hcd z)<|Ra z<|Wl (fun _ q=>⟨cx,som bA,q.k<|s1 z,bup sr cz⟩)
   iterate 3 refine Nh z hcd ?_
   exact R z (pF z hcd z)<|Ra z<|Wl (fun _ q=>⟨false,som<|ifF aL hcd,q.k<|s1 z,sr⟩)
  rintro cA _ ⟨au,rfl,_,cB⟩;revert cA;refine Wo ?_;obtain rfl:=som bz;exact Wr<|rtO<|h_ hr z ⟨bup (bup h1 G) cB,z⟩
 have aM:=ifF aK af;refine Ws<|Rq z z z<|Rw z<|Wc z (fun ah=>?_) (fun ah=>?_)
 ·refine Wq ?_;obtain ⟨cC,bB,bC⟩:=bdS<|ifT aM ah;refine Wt (fun a w=>∃(aw:Bool),aw=cC/\Sat 114 [(4,vB aw)] a/\Below H.z H w) ?_ ?_
  ·refine Wg<|R z (lN (vs:=vR x2 A2 N2 C2 A3 N3 C3 A1 N1 C1 A4 N4 C4) I_ m_ z z fid<|h3.row 0 8 z) ?_
   have ht:=(h1.ag B).e G;have b8:=lt_ h1.s G.s;obtain ⟨cD,cE,aN⟩:=bdS bB;refine E z (fc call141 z<|d_b cE (zt' I b8) a2 a3 V (W.g ht) (a0.g ht) (a4.g ht) (Y.g ht)<|ii z) ?_;rintro _ _ ⟨sm,rfl⟩;refine Rm z ?_
   rcases bs cD with hce | hce
   ·refine Rh z hce (lN (vs:=[sl A0 N0 C0]) t_ q_ z z fid<|((am.e G).e sm).row 0 1 z)<|Rh z hce (lN (vs:=vR x2 A2 N2 C2 A3 N3 C3 A1 N1 C1 A4 N4 C4) I_ m_ z z fid<|(h3.e sm).row 0 8 z) ?_
    have hu:=ht.e sm;obtain ⟨cF,cG,bD⟩:=bdS<|ifT aN hce;refine Eg z z hce z (fc call144 z<|W_w26 cG (zt' I<|lt_ b8 sm.s) (a8.g hu) a2 a3 V (W.g hu) (a0.g hu) (a4.g hu)<|Y.g hu) ?_;rintro _ _ ⟨cH,rfl⟩;exact R z (pT z hce z)<|Ra z<|Wl (fun _ q=>⟨cF,som bD,q.k<|s1 z,bup sm cH⟩)
   iterate 3 refine Nh z hce ?_
   exact R z (pF z hce z)<|Ra z<|Wl (fun _ q=>⟨false,som<|ifF aN hce,q.k<|s1 z,sm⟩)
  rintro cI _ ⟨aw,rfl,_,cJ⟩;revert cI;refine Wo ?_;obtain rfl:=som bC;exact Wr<|rtO<|h_ hr z ⟨bup (bup h1 G) cJ,z⟩
 refine Wq<|Ws<|Rq z z z<|Rw z ?_
 obtain ⟨cK,aO,aP⟩:=bdS<|ifF aM ah;refine Wt (fun a w=>∃(ax:Bool),ax=cK/\Sat 114 [(3,pt al.z),(6,vI x2.kind),(92,vB ax)] a/\Below H.z H w) ?_ ?_
 ·refine Wc z (fun ai=>?_)<|fun ai=>?_
  ·exact a_7<|fun _ q=>⟨x2.kind==8,som<|ifT aO ai,q.k<|s3 z z z,br H⟩
  exact Wg<|Rq z z z<|Ra z<|Wl (fun _ q=>⟨x2.kind==9,som<|ifF aO ai,q.k<|s3 z z z,br H⟩)
 rintro cL b9 ⟨ax,rfl,_,sf⟩;revert cL;refine Wo<|Wc z (fun aj=>?_) (fun aj=>?_)
 ·refine Ws<|R z (lN (vs:=vR x2 A2 N2 C2 A3 N3 C3 A1 N1 C1 A4 N4 C4) I_ m_ z z fid<|(h3.e sf).row 0 8 z) ?_
  have a7:=((h1.ag B).e G).e sf;obtain ⟨_,cM,bE⟩:=bdS<|ifT aP aj;refine E z (fc call141 z<|d_b cM (zt' I<|lt_ (lt_ h1.s G.s) sf.s) a2 a3 V (W.g a7) (a0.g a7) (a4.g a7) (Y.g a7)<|ii z) ?_;rintro _ _ ⟨cN,rfl⟩;refine Rw z ?_
  obtain rfl:=som bE;exact Wr<|rtO<|h_ hr z ⟨bup (bup (bup h1 G) sf) cN,z⟩
 have aQ:=ifF aP aj;refine Ws<|Rq z z z<|Rw z<|Wc z (fun ak=>?_) (fun ak=>?_)
 ·refine Wq ?_;obtain ⟨cO,bF,bG⟩:=bdS<|ifT aQ ak;refine Wt (fun a w=>∃(ay:Bool),ay=cO/\Sat 114 [(4,vB ay)] a/\Below b9.z b9 w) ?_ ?_
  ·refine Wg ?_;have ba:=h3.e sf;refine R z (lN (vs:=vR x2 A2 N2 C2 A3 N3 C3 A1 N1 C1 A4 N4 C4) I_ m_ z z fid<|ba.row 0 8 z) ?_;have hv:=((h1.ag B).e G).e sf;obtain ⟨cP,cQ,aR⟩:=bdS bF;refine E z (fc call141 z<|d_b cQ (zt' I<|lt_ (lt_ h1.s G.s) sf.s) a2 a3 V (W.g hv) (a0.g hv) (a4.g hv) (Y.g hv)<|ii z) ?_;rintro _ _ ⟨ss,rfl⟩;refine Rm z ?_
   rcases bs cP with a6 | a6
   ·have aS:=ifT aR a6;refine Rh z a6 (fd a_R z) ?_;have bb:=ba.e ss;refine Rh z a6 (l0 P_ z<|bb.at z) ?_;have bc:=W.g<|hv.e ss
    refine Rh z a6 (lnR p_ z bc)<|Rh z a6 (eql z z)<|R z (pT z a6 z)<|Rm z ?_
    rcases bs ((x2.bytes.length:Int)==1) with a1 | a1
    ·refine Rh z a1 (fd a_R z)<|Rh z a1 (l0 P_ z<|bb.at z) ?_
     obtain ⟨cR,cS,bH⟩:=bdS<|ifT aS a1;refine RXg z z a1 z (at_ (α:=UInt8) p_ z_5 z z z bc cS) ?_;rintro _ ⟨_,_,_,rfl,cT,cU,_⟩;obtain rfl:=u8 cU;exact Rh z a1 (l0 g_5 z<|cT.at0 z)<|Rh z a1 (nq z z)<|R z (pT z a1 z)<|Ra z<|Wl (fun _ q=>⟨(byteI cR) != (byteI (92:UInt8)),som bH,q.k<|s1 z,ss⟩)
    iterate 5 refine Nh z a1 ?_
    exact R z (pF z a1 z)<|Ra z<|Wl (fun _ q=>⟨false,som<|ifF aS a1,q.k<|s1 z,ss⟩)
   iterate 4 refine Nh z a6 ?_
   exact R z (pF z a6 z)<|Rm z<|Nh z z<|Nh z z<|Nh z z<|Nh z z<|Nh z z<|R z (pF z z z)<|Ra z<|Wl (fun _ q=>⟨false,som<|ifF aR a6,q.k<|s1 z,ss⟩)
  rintro cV _ ⟨ay,rfl,_,cW⟩;revert cV;refine Wo ?_;obtain rfl:=som bG;exact Wr<|rtO<|h_ hr z ⟨bup (bup (bup h1 G) sf) cW,z⟩
 refine Wk<|Ws<|Rw z ?_
 obtain rfl:=som<|ifF aQ ak;exact Wr<|h_ hr z ⟨bup (bup h1 G) sf,z⟩
theorem W_w28 {x1:d_}{x2:Int}{res:Bool}(hm:g_w x1 x2=some res)(J:B<=w0.z)(O:repS w0 B (sl A0 N0 C0) x1.rules)(a0:inI x2):n_ prog 117 [(.agg #[sl A0 N0 C0]),vI x2] w0 (Q0 w0 B res):=by
 unfold g_w at hm
 refine goG func117 z z z fun fn hr=>Ws<|E z (fb z) ?_
 rintro _ aO ⟨rfl,a9⟩;have h1:=a9.below;have he:Blk aO w0.z [sl A0 N0 C0]:=a9.blk;refine Rw z<|Wq<|Wm z<|Rf z R_ z<|R z (l0 T_ z<|he.at z)<|R z (lnR U_ z<|O.e h1)<|R z (sb_ z z) ?_
 obtain ⟨_,aP,a1⟩:=bdS hm;refine E z (fc call99 z<|b_h aP (zt' J h1.s) a0 (ii z)<|iS _ _) ?_;rintro _ I ⟨G,rfl⟩;refine R z (not_ z)<|Wx z (fun hci=>?_) (fun hci=>?_)
 ·refine Ws<|Rw z ?_
  obtain rfl:=som<|ifT a1 hci;exact Wr<|h_ hr z ⟨bup h1 G,z⟩
 refine Wk<|Ws<|Rf z R_ z ?_
 have hj:=he.e G;refine R z (l0 T_ z<|hj.at z)<|Rm z ?_
 obtain ⟨xk,aQ,ar⟩:=bdS<|ifF a1 hci;have hl:=(h1.ag B).e G;refine RX z (at_ (α:=e_) U_ m_ z z z (O.g hl) aQ) ?_;rintro _ ⟨_,_,_,rfl,aR,aS,_⟩;obtain ⟨am,nn,co,ap,nq,cr,au,ns,ct,av,nw,cx,rfl,aa,aT,aU,aV,aW,aX,hf⟩:=a_m aS;refine R z (lN (vs:=vR xk am nn co ap nq cr au ns ct av nw cx) I_ m_ z z fid aR)<|E z (fa b_g) ?_
 rintro _ aY ⟨rfl,ab⟩;have h2:=ab.below;refine E0 (fs0 (cur':=vR xk am nn co ap nq cr au ns ct av nw cx) m_ z z (ab.blk:Blk aY I.z [(Str.v (⟨[]⟩:Str)),vI 0,vI 0,vB false,sl none 0 0,sl none 0 0,sl none 0 0,sl none 0 0]) z z z z) ?_;rintro _ L ⟨hg,aZ⟩;have h3:=aZ.one;refine Wn<|Wq<|Ws<|Rw z ?_
 obtain ⟨_,aw,a2⟩:=bdS ar;refine Wf (σ:=Unit) (ρ:=Bool) (fun (ad:Nat)(_:Unit) a w=>Sat 58 [(1,vI x2),(2,pt w0.z),(5,pt I.z),(6,vI ((ad:Nat):Int))] a/\Below L.z L w) (fun (_:Unit) a w=>Sat 58 [(1,vI x2),(2,pt w0.z),(5,pt I.z)] a/\Below L.z L w) (rQ prog fn<|Q0 w0 B) aw ?_ ?_ ?_ ?_ ?_
 ·exact fun _ q=>⟨q.k<|s4 z z z z,br L⟩
 ·rintro ad _ _ _ _ a3 ⟨ax,sa⟩ ay;refine Wu ?_ ax;refine Wq<|Wm z<|Rm z<|Rl z z z<|Wx z (fun _=>?_) (fun hc=>(h_M a3 hc).elim)
  refine Wk<|Wq<|Wb<|Wq (Wd (X:=noX) 0 (pl_ 9 []) mo (by kernel_rfl) fun bk sb _=>dR z z (fd R_ z)<|dR z z (l0 T_ z<|((((hj.e h2).c h3<|djs<|mm1 he.lt G.s).e sa).e sb).at z)<|dM z z z ?_)
  obtain ⟨_,b0,a4⟩:=bdS ay;have ae:=lt_ h1.s G.s;refine dRX z z (at_ (α:=e_) U_ m_ z z z (O.g<|(((hl.e h2).c h3<|b_ (or0 (c_ lr) (k_<|zt' J ae):∀k∈[I.z],¬B k)).e sa).e sb) b0) ?_;rintro _ ⟨_,_,_,rfl,b1,b2,_⟩;obtain ⟨_,_,_,_,_,_,_,_,_,_,_,_,rfl,_,_,_,_,_,_,_⟩:=a_m b2;refine dR z z (fd c_K z)<|dR z z (l0 g_9 z<|b1.at (j:=0) z)<|dR z z (fd c_K z)<|dR z z (l0 g_9 z<|((hg.e sa).e sb).at z)<|dR z z (c_P z z)<|pD<|Wo<|Wc z (fun hcy=>?_) (fun hcy=>?_)
  ·exact Ws<|Rw z<|Wr<|rtO<|qL (som<|ifT a4 hcy).symm<|h_ hr z ⟨bup (bup (bM (bup (bup h1 G) h2) h3<|m1 ae) sa) sb,z⟩
  exact Wk<|Wg<|Rm z<|R z (inc_ a3 (tl_ a0) z z)<|Ra z<|Wl (fun _ q=>⟨(),(som<|ifF a4 hcy).symm,⟨q.k<|s4 z z z z,bup sa sb⟩⟩)
 ·rintro _ _ _ ⟨az,b3⟩;refine Wu ?_ az;refine Wq<|Wm z<|Rm z<|Rl z z z<|Wx z (fun hc=>(h_N hc).elim) (fun _=>?_)
  exact We<|fun _ q=>⟨rfl,⟨q.k<|s3 z z z,b3⟩⟩
 ·rintro _ b4 wc rfl ⟨_,s5⟩;have aA:=elL a2;revert b4;refine Wo<|Wq<|Ws<|Rw z ?_
  obtain ⟨_,aB,a5⟩:=bdS aA;refine Wf (σ:=Unit) (ρ:=Bool) (fun (af:Nat)(_:Unit) a w=>Sat 58 [(1,vI x2),(2,pt w0.z),(5,pt I.z),(7,vI ((af:Nat):Int))] a/\Below wc.z wc w) (fun (_:Unit) a w=>Sat 58 [(2,pt w0.z),(5,pt I.z)] a/\Below wc.z wc w) (rQ prog fn<|Q0 w0 B) aB ?_ ?_ ?_ ?_ ?_
  ·exact fun _ q=>⟨q.k<|s4 z z z z,br wc⟩
  ·rintro af _ _ _ _ a6 ⟨aC,sd⟩ aD;refine Wu ?_ aC;refine Wq<|Wm z<|Rf z J_ z ?_
   have ah:=(hg.e s5).e sd;refine R z (l0 D_ z<|ah.at z) ?_;have hz:=lt_ h1.s G.s;have ai:=hf.g<|(((h2.ag B).c h3<|b_ (or0 (c_ lr) (k_<|zt' J hz):∀k∈[I.z],¬B k)).e s5).e sd
   refine R z (lnR o_ z ai)<|Rl z z z<|Wx z (fun _=>?_) (fun hc=>(a_2 a6 hc).elim)
   refine Wk<|Wq<|Wb<|Ws<|Rf z J_ z<|R z (l0 D_ z<|ah.at z)<|Rm z ?_
   obtain ⟨_,b5,aE⟩:=bdS aD;refine RX z (at_ (α:=Int) o_ z_3 z z z ai b5) ?_;rintro _ ⟨_,_,_,rfl,b6,b7,_⟩;obtain ⟨rfl,b8⟩:=M_ b7;refine R z (l0 g_3 z<|b6.at0 z)<|Rm z<|R z (sb_ z z) ?_
   obtain ⟨_,b9,a7⟩:=bdS aE;refine E z (fc call99 z<|b_h b9 (zt' J<|lt_ (lt_ (lt_ (lt_ hz h2.s) h3.s) s5.s) sd.s) b8 (ii z)<|iS _ _) ?_;rintro _ _ ⟨aj,rfl⟩;refine R z (not_ z)<|Wx z (fun V=>?_) (fun V=>?_)
   ·exact Ws<|Rw z<|Wr<|rtO<|qL (som<|ifT a7 V).symm<|h_ hr z ⟨bup (bup (bup (bM (bup (bup h1 G) h2) h3<|m1 hz) s5) sd) aj,z⟩
   exact Wk<|Wg<|Rm z<|R z (inc_ a6 (lt_ (repS.len hf) K_) z z)<|Ra z<|Wl (fun _ q=>⟨(),(som<|ifF a7 V).symm,⟨q.k<|s4 z z z z,bup sd aj⟩⟩)
  ·rintro _ _ _ ⟨aF,W⟩;refine Wu ?_ aF;refine Wq<|Wm z<|Rf z J_ z<|R z (l0 D_ z<|((hg.e s5).e W).at z) ?_
   refine R z (lnR o_ z<|hf.g<|(((h2.ag B).c h3<|b_ (or0 (c_ lr) (k_<|zt' J<|lt_ h1.s G.s):∀k∈[I.z],¬B k)).e s5).e W)<|Rl z z z<|Wx z (fun hc=>(a_3 hc).elim) (fun _=>?_)
   exact We<|fun _ q=>⟨rfl,⟨q.k<|s2 z z,W⟩⟩
  ·rintro _ ba ak rfl ⟨_,s8⟩;have aG:=elL a5;revert ba;refine Wo<|Wq ?_
   obtain ⟨bb,aH,aI⟩:=bdS aG;refine Wt (fun a w=>∃(Y:Bool),Y=bb/\Sat 58 [(4,vB Y)] a/\Below ak.z ak w) ?_ ?_
   ·refine Wg<|Rf z c_K z ?_
    have al:=(hg.e s5).e s8;refine R z (l0 g_9 z<|al.at z) ?_;have an:=lt_ h1.s G.s;have ao:=lt_ (lt_ (lt_ (lt_ an h2.s) h3.s) s5.s) s8.s;obtain ⟨bc,be,a8⟩:=bdS aH;refine E z (fc call132 z<|j_9 be (zt' J ao) aa) ?_;rintro _ _ ⟨s7,rfl⟩;refine Rm z ?_
    rcases bs bc with H | H
    ·refine Rh z H (lN (vs:=[sl A0 N0 C0]) t_ q_ z z fid<|(((((hj.e h2).c h3<|djs<|mm1 he.lt G.s).e s5).e s8).e s7).row 0 1 z)<|Rh z H (lN (vs:=vR xk am nn co ap nq cr au ns ct av nw cx) I_ m_ z z fid<|(al.e s7).row 0 8 z) ?_
     have aq:∀k∈[I.z],¬B k:=or0 (c_ lr)<|k_<|zt' J an;have hh:=((((h2.ag B).c h3<|b_ aq).e s5).e s8).e s7;obtain ⟨bf,bg,aJ⟩:=bdS<|ifT a8 H;refine Eg z z H z (fc call134 z<|W_w27 bg (zt' J<|lt_ ao s7.s) (O.g<|((((hl.e h2).c h3<|b_ aq).e s5).e s8).e s7) aa aT aU (aV.g hh) (aW.g hh) (aX.g hh)<|hf.g hh) ?_;rintro _ _ ⟨bh,rfl⟩;exact R z (pT z H z)<|Ra z<|Wl (fun _ q=>⟨bf,som aJ,q.k<|s1 z,bup s7 bh⟩)
    iterate 3 refine Nh z H ?_
    exact R z (pF z H z)<|Ra z<|Wl (fun _ q=>⟨false,som<|ifF a8 H,q.k<|s1 z,s7⟩)
   rintro bi _ ⟨Y,rfl,_,bj⟩;revert bi;refine Wo ?_;obtain rfl:=som aI;exact Wr<|h_ hr z ⟨bup (bup (bup (bM (bup (bup h1 G) h2) h3<|m1<|lt_ h1.s G.s) s5) s8) bj,z⟩
  rintro _ _ _ _ rfl ⟨rfl,aK⟩;have aL:=elR a5;obtain rfl:=som aL;exact ⟨aK,z⟩
 rintro _ _ _ _ rfl ⟨rfl,aM⟩;have aN:=elR a2;obtain rfl:=som aN;exact ⟨aM,z⟩
theorem W_w1b {x1:d_}{res:Bool}(hm:f_1 x1=some res)(O:B<=w0.z)(I:repS w0 B (sl A0 N0 C0) x1.rules):n_ prog 90 [(.agg #[sl A0 N0 C0])] w0 (Q0 w0 B res):=by
 unfold f_1 at hm
 refine goG func90 z z z fun fn hr=>Ws<|E z (fb z) ?_
 rintro _ H ⟨rfl,W⟩;have G:=W.below;have h2:Blk H w0.z [sl A0 N0 C0]:=W.blk;refine Rw z<|Wq<|Ws<|Rw z ?_
 obtain ⟨_,hug,V⟩:=bdS hm;refine Wf (σ:=Unit) (ρ:=Bool) (fun (ka:Nat)(_:Unit) a w=>Sat 19 [(1,pt w0.z),(3,vI ((ka:Nat):Int))] a/\Below H.z H w) (fun (_:Unit) a w=>Sat 19 [(1,pt w0.z)] a/\Below H.z H w) (rQ prog fn<|Q0 w0 B) hug ?_ ?_ ?_ ?_ ?_
 ·exact fun _ q=>⟨q.k<|s2 z z,br H⟩
 ·rintro ka _ _ _ _ J ⟨hSh,s3⟩ hmi;refine Wu ?_ hSh;refine Wq<|Wm z<|Rf z R_ z ?_
  have hb:=h2.e s3;refine R z (l0 T_ z<|hb.at z) ?_;have hd:=I.g<|(G.ag B).e s3
  refine R z (lnR U_ z hd)<|Rl z z z<|Wx z (fun _=>?_) (fun hc=>(a_2 J hc).elim)
  refine Wk<|Wq<|Wb<|Ws<|R z (lN (vs:=[sl A0 N0 C0]) t_ q_ z z fid<|hb.row 0 1 z)<|Rm z ?_
  obtain ⟨_,ej,hmc⟩:=bdS hmi;refine E z (fc call117 z<|W_w28 ej (zt' O<|lt_ G.s s3.s) hd<|ic (Nat.le_of_lt J)<|lt_ (repS.len I) K_) ?_;rintro _ _ ⟨se,rfl⟩;refine R z (not_ z)<|Wx z (fun L=>?_) (fun L=>?_)
  ·exact Ws<|Rw z<|Wr<|rtO<|qL (som<|ifT hmc L).symm<|h_ hr z ⟨bup (bup G s3) se,z⟩
  exact Wk<|Wg<|Rm z<|R z (inc_ J (lt_ (repS.len I) K_) z z)<|Ra z<|Wl (fun _ q=>⟨(),(som<|ifF hmc L).symm,⟨q.k<|s2 z z,bup s3 se⟩⟩)
 ·rintro _ _ _ ⟨hSk,s7⟩;refine Wu ?_ hSk;refine Wq<|Wm z<|Rf z R_ z<|R z (l0 T_ z<|(h2.e s7).at z)<|R z (lnR U_ z<|I.g<|(G.ag B).e s7)<|Rl z z z<|Wx z (fun hc=>(a_3 hc).elim) (fun _=>?_)
  exact We<|fun _ q=>⟨rfl,⟨q.k<|s1 z,s7⟩⟩
 ·rintro _ al _ rfl ⟨_,s4⟩;have hmm:=elL V;revert al;refine Wo<|Ws<|Rf z R_ z<|R z (l0 T_ z<|(h2.e s4).at z) ?_
  have hf:=I.g<|(G.ag B).e s4
  refine R z (lnR U_ z hf) ?_;obtain ⟨_,en,hmo⟩:=bdS hmm;refine E z (fc call99 z<|b_h en (zt' O<|lt_ G.s s4.s) (a_N<|repS.len hf) (ii z)<|ii z) ?_;rintro _ _ ⟨sp,rfl⟩;refine Rw z ?_
  obtain rfl:=som hmo;exact Wr<|h_ hr z ⟨bup (bup G s4) sp,z⟩
 rintro _ _ _ _ rfl ⟨rfl,hqq⟩;have hmr:=elR V;obtain rfl:=som hmr;exact ⟨hqq,z⟩
theorem j_b {x1:d_}{x2:Int}{res:Bool}(hm:e_n x1 x2=some res)(J:B<=w0.z)(I:repS w0 B (sl A0 N0 C0) x1.rules)(O:inI x2):n_ prog 63 [(.agg #[sl A0 N0 C0]),vI x2] w0 (Q0 w0 B res):=by
 unfold e_n at hm
 refine goG func63 z z z fun fn hr=>Ws<|E z (fb z) ?_
 rintro _ H ⟨rfl,h5⟩;have h1:=h5.below;have h6:Blk H w0.z [sl A0 N0 C0]:=h5.blk;refine Rw z<|Wq ?_
 obtain ⟨u8,V,hma⟩:=bdS hm;refine Wt (fun a w=>∃(x4:Bool),x4=u8/\Sat 15 [(4,vB x4)] a/\Below H.z H w) ?_ ?_
 ·refine Wg<|Rm z<|Rf z R_ z<|R z (l0 T_ z<|h6.at z)<|R z (lnR U_ z<|I.e h1)<|R z (sb_ z z) ?_
  obtain ⟨rb,ec,L⟩:=bdS V;refine E z (fc call99 z<|b_h ec (zt' J h1.s) O (ii z)<|iS _ _) ?_;rintro _ _ ⟨s2,rfl⟩;refine Rm z ?_
  rcases bs rb with G | G
  ·refine Rh z G (lN (vs:=[sl A0 N0 C0]) t_ q_ z z fid<|(h6.e s2).row 0 1 z) ?_;obtain ⟨rd,ee,hmf⟩:=bdS<|ifT L G;refine Eg z z G z (fc call90 z<|W_w1b ee (zt' J<|lt_ h1.s s2.s)<|I.g<|(h1.ag B).e s2) ?_;rintro _ _ ⟨sg,rfl⟩;exact R z (pT z G z)<|Ra z<|Wl (fun _ q=>⟨rd,som hmf,q.k<|s1 z,bup s2 sg⟩)
  exact Nh z G<|Nh z G<|R z (pF z G z)<|Ra z<|Wl (fun _ q=>⟨false,som<|ifF L G,q.k<|s1 z,s2⟩)
 rintro ah _ ⟨x4,rfl,_,si⟩;revert ah;refine Wo ?_;obtain rfl:=som hma;exact Wr<|h_ hr z ⟨bup h1 si,z⟩
def Q12 (w0:World)(B:Zone)(r:Val)(v:Value)(w':World):Prop:=Bw w0 w'/\(fun G=>∃H I J S1 a2 L O S2,(.agg #[vI G.number,sl H I J,sl a2 L O])=v/\inI G.number/\a_ w' S1 (sl H I J) G.bytes/\a_ w' S2 (sl a2 L O) G.items/\(S1++S2).Nodup/\(∀k∈(S1++S2),w0.z<=k)) r
structure j_c (f:d_->Int->Option Val):Prop where
  run:∀{A0:Option Addr}{N0 C0:Nat}{B:Zone}{x1:d_}{x2:Int}{res:Val}{w0:World}(hm:f x1 x2=some res)(hBw:B<=w0.z)(p1_0:repS w0 B (sl A0 N0 C0) x1.rules)(p2_0:inI x2),n_ prog 64 [(.agg #[sl A0 N0 C0]),vI x2] w0<|Q12 w0 B res
abbrev k_W (n:Nat):Prop:=j_c (e_h n).spec_l9Default
end Go.Vw
